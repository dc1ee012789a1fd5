/- V: a run of the model's code over plain data, and that it is what the machine does. Part 3 of 4. No condition. -/
import Derived.Test.YthcdcolihokdmaaGreatV2
import Derived.LoopN
open List (all_eq_true append_assoc append_nil count_append count_pos_iff flatMap_append flatMap_cons mem_append mem_append_left mem_append_right mem_cons mem_cons_of_mem mem_cons_self mem_map mem_map_of_mem mem_singleton pairwise_cons)
set_option linter.unusedVariables false
set_option linter.unusedSimpArgs false
namespace Go.V
variable {w0:World} {T N:Nat->Prop} {g:Gh} {w:World} {a:Act} {en en1:List (rF×Entry)} {D D':rF->Prop}

theorem rO.restrict {c:Cell} {v:Value} (h:rO D g w c v) (hc:uD D' c):rO D' g w c v:=by
 cases c with
 | own r=>exact⟨hc r (by simp[Cell.refs]),h.2⟩
 | win r lo hi=>exact⟨hc r (by simp[Cell.refs]),h.2⟩
 | box n off=>exact⟨hc n (by simp[Cell.refs]),h.2⟩
 | elem r i off=>exact⟨hc r (by simp[Cell.refs]),h.2⟩
 | sub r i j=>exact⟨hc r (by simp[Cell.refs]),h.2⟩
 | kid r j e xs=>exact⟨h.1,hc r (by simp[Cell.refs]),h.2.2⟩
 | fn f caps =>
  obtain⟨vs,e,k⟩:=h;refine⟨vs,e,?_⟩;have key:∀(l:List rF) (m:List Value),(∀n∈l,D' n)->rU (λn u=>D n/\(∃b,g.loc n=.pointer (some ⟨b,0,none⟩))/\u=g.loc n) l m->rU (λn u=>D' n/\(∃b,g.loc n=.pointer (some ⟨b,0,none⟩))/\u=g.loc n) l m:=by
   intro l
   induction l with
   | nil=>intro m _ h;cases m with
    | nil=>trivial
    | cons _ _=>exact h.elim
   | cons n l ih=>intro m hl h;cases m with
    | nil=>exact h.elim
    | cons u m=>exact⟨⟨hl n (by simp),h.1.2⟩,ih m (λk hk=>hl k (by simp[hk])) h.2⟩
  exact key caps _ hc k
 | undef=>exact h
 | void=>exact h
 | nil=>exact h
 | int _ _=>exact h
 | bool _=>exact h
 | str _=>exact h
 | err _=>exact h
 | sh _ _=>exact h
 | shel _ _ _=>exact h
theorem wO:∀{cs:List Cell} {vs:List Value},rU (rO D g w) cs vs->(∀c∈cs,uD D' c)->rU (rO D' g w) cs vs
 | [],[],_,_=>trivial
 | c::cs,v::vs,h,hc=>⟨h.1.restrict (hc c (by simp)),wO h.2 λd hd=>hc d (by simp[hd])⟩
theorem tR.restrict {x:AV} {v:Value} (h:tR D g w x v) (hx:we D' x):tR D' g w x v:=by
 cases x with
 | cell c=>exact rO.restrict h hx
 | agg cs=>obtain⟨vs,e,k⟩:=h;exact⟨vs,e,wO k hx⟩
 | tup _=>exact h
theorem sP.restrict {x:AV} {v:Value} (h:sP D g w x v) (hx:va D' x):sP D' g w x v:=by
 cases x with
 | cell c=>exact rO.restrict h hx
 | agg cs=>obtain⟨vs,e,k⟩:=h;exact⟨vs,e,wO k hx⟩
 | tup l =>
  obtain⟨vs,e,k⟩:=h;refine⟨vs,e,?_⟩;have key:∀(l:List AV) (m:List Value),(∀v∈l,we D' v)->rU (tR D g w) l m->rU (tR D' g w) l m:=by
   intro l
   induction l with
   | nil=>intro m _ h;cases m with
    | nil=>trivial
    | cons _ _=>exact h.elim
   | cons n l ih=>intro m hl h;cases m with
    | nil=>exact h.elim
    | cons u m=>exact⟨h.1.restrict (hl n (by simp)),ih m (λk hk=>hl k (by simp[hk])) h.2⟩
  exact key l _ hx k
theorem MS.drop (h:MS w0 T N en1 g w) (hs:∀n e,rH en n=some e->rH en1 n=some e) (hb:Da en):MS w0 T N en g w:=by
 have hd:∀n,dom en n->dom en1 n:=λn hn=>by
  cases hf:rH en n with
  | none=>exact absurd hf hn
  | some e=>unfold dom;rw[hs n e hf];simp
 refine⟨⟨λn e hn=>?_,λn m e f b hn hm=>h.mem.apart n m e f b (hs n e hn) (hs m f hm),λn e b hn=>h.mem.topI n e b (hs n e hn),λn m e f hn hm=>h.mem.nests n m e f (hs n e hn) (hs m f hm),h.mem.old,λn hn=>h.mem.one n (hd n hn),λn e b hn ht hb=>?_⟩,
  ⟨h.since.os,h.since.out,h.since.tape,h.since.size,h.since.mem,λn e b hn=>h.since.tops n e b (hs n e hn),λn e b hn=>h.since.nests n e b (hs n e hn),h.since.imm,λn e b hn=>h.since.born n e b (hs n e hn),h.since.soft⟩⟩
 rotate_left
 · obtain⟨k1,k2,k3⟩:=h.mem.wood n e b (hs n e hn) ht hb;exact⟨k1,λm f hm=>k2 m f (hs m f hm),λm f hmn hm=>k3 m f hmn (hs m f hm)⟩
 have hr:=h.mem.rep n e (hs n e hn);cases e with
 | gone=>exact hr
 | fwd _ _=>exact hr
 | root _ _ _=>exact hr
 | tree _ _=>exact hr
 | frz _ _=>exact hr
 | box cs=>obtain⟨b,us,h1,h2,h3,h4⟩:=hr;exact⟨b,us,h1,h2,h3,wO h4 (hb n cs hn)⟩
theorem sC.drop {Z:List Tmp} {FN:List rF} {S S1:St} (h:sC w0 T N S1 g w a) (hs:Ci Z FN S S1) (hc:sV S):sC w0 T N S g w a:=by
 have hf:∀n e,rH S.en n=some e->rH S1.en n=some e:=λn e hn=>by
  by_cases hF:n∈FN
  · rw[hs.no n hF]at hn;cases hn
  · rw[←hs.en n hF];exact hn
 have hM:=MS.drop ⟨h.mem,h.since⟩ hf hc.box;refine⟨hM.mem,hM.since,λt=>?_,h.plain⟩;rcases hs.tm t with k|⟨_,k⟩
 · exact (show sP (dom S1.en) g w (S.tmp t) _ by rw[k];exact h.tmps t).restrict (hc.tmp t)
 · rw[k];exact trivial
end Go.V
namespace Go.V
variable {P:Program} {w0:World} {T N:Nat->Prop} {S:St} {g:Gh} {w w':World} {a:Act} {o:Oper} {G:tN} {uid rid:Nat} {en:List (rF×Entry)}

def Bx:List AV->AV | [v]=>v|vs=>.tup vs
def zY (P:Program) (f:FuncId) (Fn':Fn):Prop :=
 (∃fn c, P.funcs[f]?=some fn/\(fn.name == "runtime.NumGoroutine")=false/\fn.body=some c) /\
 ∀(w0:World) (T N:Nat->Prop) (en:List (rF×Entry)) (g:Gh) (w:World) (uid:rF) (args:List AV) (vals:List Value) (b:BK (sk Fn'.ps)) (L:List rF) (r:rN (tI Fn'.ps Fn'.rs)),
  MS w0 T N en g w->rU (sP (dom en) g w) args vals->(tu (vY Fn'.ps Fn'.rs) Fn'.ps args).Runs (rH en) b L->(rY b.used&&b.ro.all λn=>(rH b.used n).isNone)=true->Fn'.den b.args=some r ->
  rY (rZ uid Fn'.ps Fn'.rs b.ptrs r).news=true->(∀p∈(rZ uid Fn'.ps Fn'.rs b.ptrs r).news,rH en p.1=none) ->
  Calls P f vals.toArray w fun
   | .returned v,w'=>∃g',MS w0 T N ((rZ uid Fn'.ps Fn'.rs b.ptrs r).news++((rZ uid Fn'.ps Fn'.rs b.ptrs r).upds++b.used)++en) g' w' /\
    Le (dom en) g w (dom ((rZ uid Fn'.ps Fn'.rs b.ptrs r).news++((rZ uid Fn'.ps Fn'.rs b.ptrs r).upds++b.used)++en)) g' w' /\
    sP (dom ((rZ uid Fn'.ps Fn'.rs b.ptrs r).news++((rZ uid Fn'.ps Fn'.rs b.ptrs r).upds++b.used)++en)) g' w' (Bx (rZ uid Fn'.ps Fn'.rs b.ptrs r).vals) v
   | _,_=>False
def GX (w:World):(ps:List sU)->rN (sk ps)->List Value->Prop
 | [],_,vs=>vs=[]
 | .val agg c false::ps,x,vs=>∃v vs' us F,vs=v::vs'/\isAgg agg v us/\Cs.Rep w c (rN.hd c (sk ps) x) us F/\GX w ps (rN.tl c (sk ps) x) vs'
 | .val _ _ true::_,_,_=>False
 | .ptr .. :: _,_,_=>False
def Kr (P:Program) (f:FuncId) (Fn':Fn):Prop :=
 (∃fn c, P.funcs[f]?=some fn/\(fn.name == "runtime.NumGoroutine")=false/\fn.body=some c) /\
 ∀(w:World) (uid:rF) (x:rN (sk Fn'.ps)) (vals:List Value) (r:rN (tI Fn'.ps Fn'.rs)),GX w Fn'.ps x vals->Fn'.den x=some r->rY (rZ uid Fn'.ps Fn'.rs [] r).news=true ->
  Calls P f vals.toArray w fun
   | .returned v,w'=>∃g' T' N',(∀b,¬T' b)/\(∀b,b<w.heap.size->¬N' b)/\MS w T' N' (rZ uid Fn'.ps Fn'.rs [] r).news g' w'/\sP (dom (rZ uid Fn'.ps Fn'.rs [] r).news) g' w' (Bx (rZ uid Fn'.ps Fn'.rs [] r).vals) v
   | _,_=>False
def Mo (P:Program) (f:FuncId) (M:NM):Prop :=
 (∃fn c, P.funcs[f]?=some fn/\(fn.name == "runtime.NumGoroutine")=false/\fn.body=some c) /\
 ∀(w:World) (v:Value) (us:List Value) (x x':M.cs.den) (F:List Nat) (R:List (List Value)) (k k':Int),isAgg M.agg v us->Cs.TRep w M.cs x us F R->F.Nodup->(∀b∈F,soft w b)->M.den x k=some (x',k') ->
  Calls P f #[v,.int .i64 k] w fun
   | .returned r,w'=>r=.int .i64 k'/\(∃F',Cs.TRep w' M.cs x' us F' R/\F'.Nodup/\∀b∈F',b∈F\/w.heap.size<=b)/\(∀b,b∈F\/w.heap.size<=b->soft w' b) /\
    w'.os=w.os/\w'.output=w.output/\w'.tape=w.tape/\w.heap.size<=w'.heap.size/\∀b,b<w.heap.size->b∉F->w'.heap[b]?=w.heap[b]?
   | _,_=>False
structure xb (P:Program) (G:tN):Prop where
 tis:uv P G.ti
 eqs:GL P G.ti
 fns:∀f Fn',rH G.fns f=some Fn'->zY P f Fn'
 marks:∀f M,rH G.marks f=some M->Mo P f M
 tfns:G.trees=true->∀f Fn',rH G.fns f=some Fn'->vA Fn'.ps=true->NN Fn'.rs=true->Kr P f Fn'
theorem sC.put (h:sC w0 T N S g w a) {e:sM} {v:Value} {g':Gh} (hM:MS w0 T N (e.ents++S.en) g' w') (hle:Le (dom S.en) g w (dom (e.ents++S.en)) g' w') (hv:sP (dom (e.ents++S.en)) g' w' e.val v) (hd:∀d,o.dst=some d->d<a.tmps.size) :
 sC w0 T N (S.put o.dst e) g' w' (a.put o.dst v):=by
 refine⟨hM.mem,hM.since,λt=>?_,?_⟩
 · rw[St.tmp_put,St.en_put];unfold Act.put;cases hdst:o.dst with
   | none=>simpa using sP.mono hle (h.tmps t)
   | some d =>
    simp only[Option.some.injEq];by_cases hdt:d=t
    · subst hdt;have hlt:=hd d hdst
      simpa[Array.getD,hlt]using hv
    · rw[if_neg hdt];have:(a.tmps.setIfInBounds d v).getD t undef=a.tmps.getD t undef:=by
       simp only[Array.getD,Array.size_setIfInBounds];split
       · rename_i hl;show (a.tmps.setIfInBounds d v)[t]'(by simpa using hl)=a.tmps[t]
         rw[Array.getElem_setIfInBounds (by simpa using hl),if_neg hdt]
       · rfl
      rw[this];exact sP.mono hle (h.tmps t)
 · unfold Act.put;cases o.dst<;>exact h.plain
theorem Id (h:sC w0 T N S g w a) {e:sM} (hf:sx P w0 T N S g w a o e) (hd:∀d,o.dst=some d->d<a.tmps.size) {K:Act->World->Prop} {Q:Exit->Act->World->Prop}
 (hK:∀v w' g',sC w0 T N (S.put o.dst e) g' w' (a.put o.dst v)->Le (dom S.en) g w (dom (e.ents++S.en)) g' w'->K (a.put o.dst v) w'):o.wp P a w K Q:=by
 obtain⟨v,w',g',hdo,hM,hle,hv⟩:=hf;have:=hK v w' g' (h.put hM hle hv hd) hle
 unfold Oper.wp;rcases hdo with hr|⟨rfl,hr⟩
 · rw[hr];exact this
 · rw[hr];exact this
end Go.V
namespace Go.V
variable {P:Program} {w0:World} {T N:Nat->Prop} {S:St} {g:Gh} {w w':World} {a:Act} {o:Oper} {G:tN} {uid rid:Nat} {en:List (rF×Entry)} {Q:Exit->Act->World->Prop}

theorem rN.hd_mk:∀(c:Cs) (r:List Cs) (x:c.den) (y:rN r),rN.hd c r (rN.mk c r x y)=x
 | _,[],_,_=>rfl
 | _,_::_,_,_=>rfl
theorem rN.tl_mk:∀(c:Cs) (r:List Cs) (x:c.den) (y:rN r),rN.tl c r (rN.mk c r x y)=y
 | _,[],_,_=>rfl
 | _,_::_,_,_=>rfl
end Go.V
namespace Go.V
variable {P:Program} {w0:World} {T N:Nat->Prop} {S:St} {g:Gh} {w w':World} {a:Act} {o:Oper} {G:tN} {uid rid:Nat} {en:List (rF×Entry)} {Q:Exit->Act->World->Prop}

def CT.Slot (E:List (rF×Entry)) (g:Gh):(c:CT)->Cell->Value->List (List Value)->Prop
 | .sl e,x,v,R=>∃r,x=.own r/\(rH E r=some .gone\/rH E r=none)/\g.loc r=v/\g.esz r=e.len/\R=[g.rows r]
 | _,_,_,R=>R=[]
def Cs.Slot (E:List (rF×Entry)) (g:Gh):(c:Cs)->List Cell->List Value->List (List Value)->Prop
 | .one c,xs,vs,R=>∃x v,xs=[x]/\vs=[v]/\CT.Slot E g c x v R
 | .cons c r,xs,vs,R=>∃x v xs' vs' R1 R2,xs=x::xs'/\vs=v::vs'/\R=R1++R2/\CT.Slot E g c x v R1/\Cs.Slot E g r xs' vs' R2
theorem wN.one {e:Cs} {xs:List e.den} {v:Value} {F:List Nat} {rows:List Value} (h:wN w e xs v F rows):v.oneCell'=true:=by
 obtain⟨a,c,rfl⟩:=wb h.slRep;rfl
theorem CT.Slot.mono {E E':List (rF×Entry)} {g':Gh} (hg:∀n,g'.loc n=g.loc n/\g'.esz n=g.esz n/\g'.rows n=g.rows n) {c:CT} {x:Cell} {v:Value} {R:List (List Value)} {y:c.den} (hE:∀n∈(c.held x y).map (·.1),rH E' n=rH E n) (h:CT.Slot E g c x v R):CT.Slot E' g' c x v R:=by
 cases c with
 | sl e =>
  obtain⟨r,rfl,h1,h2,h3,h4⟩:=h;refine⟨r,rfl,?_,by rw[(hg r).1];exact h2,by rw[(hg r).2.1];exact h3,by rw[(hg r).2.2];exact h4⟩;rw[hE r (by simp[CT.held])];exact h1
 | _=>exact h
end Go.V
namespace Go.V
variable {P:Program} {w0:World} {T N:Nat->Prop} {g:Gh} {w:World} {en:List (rF×Entry)}

theorem Rd.bind_runs {α β:Type} {F:rF->Option Entry} {f:α->Rd β} {a:α} {b:β}:∀{x:Rd α} {L1 L2:List rF},x.Runs F a L1->(f a).Runs F b L2->(x.bind f).Runs F b (L1++L2)
 | .ret a',L1,L2,⟨h1,h2⟩,k=>by subst h1;subst h2;exact k
 | .fail,_,_,h,_=>h.elim
 | .get n g,L1,L2,⟨L',h1,h2⟩,k=>by subst h1;exact⟨L'++L2,rfl,Rd.bind_runs h2 k⟩
 | .opt o g,L1,L2,⟨b',h1,h2⟩,k=>⟨b',h1,Rd.bind_runs h2 k⟩
end Go.V
namespace Go.V
variable {P:Program} {w0:World} {T N:Nat->Prop} {S:St} {g:Gh} {w w':World} {a:Act} {o:Oper} {G:tN} {uid rid:Nat} {en:List (rF×Entry)} {Q:Exit->Act->World->Prop}

theorem CA {f : FuncId} {fn : Func} {c : Code} (hf : P.funcs[f]?=some fn) (hn : (fn.name == "runtime.NumGoroutine")=false) (hb : fn.body=some c) (args : Array Value) : (callFunc f args).run P w=.ok (.enter f args) w := by
 simp only[callFunc,Sem.run_bind,run_program,Result.andThen,hf,hn];simp[hb]
theorem GY (h:sC w0 T N S g w a):∀(xs:List Operand),rU (sP (dom S.en) g w) (xs.map S.eval) (xs.map a.eval)
 | []=>trivial
 | x::xs=>⟨sI h x,GY h xs⟩
theorem MV (h:sC w0 T N S g w a) (hG:xb P G) {f:Operand} {args:Array Operand} {c:Call} (hc:c.callee=.value f) (hargs:c.args=args) (ho:o.op=.call c) {e:sM} {L:List rF}
 (hr:(match S.eval f with
  | .cell (.fn g caps)=>(match rH G.fns g with
   | some F=>cond G.trees .fail (Bi uid F (args.toList.map S.eval++caps.map λn=>AV.cell (.box n 0)))
   | none=>.fail)
  | _=>.fail:Rd sM).Runs (rH S.en) e L) (hd:∀d,o.dst=some d->d<a.tmps.size) {K:Act->World->Prop}
 (hK:∀v w' g',sC w0 T N (S.put o.dst e) g' w' (a.put o.dst v)->Le (dom S.en) g w (dom (e.ents++S.en)) g' w'->K (a.put o.dst v) w'):o.wp P a w K Q:=by
 split at hr
 · rename_i fid caps e1;have hfv:=yB h e1
   obtain⟨cvs,hfv,hcaps⟩:=hfv;have plain : ∀{fn : Func} {cd : Code}, P.funcs[fid]?=some fn->(fn.name == "runtime.NumGoroutine")=false->fn.body=some cd->caps=[] ->
    (Calls P fid (args.toList.map a.eval).toArray w fun
     | .returned v,w'=>∃g',MS w0 T N (e.ents++S.en) g' w'/\Le (dom S.en) g w (dom (e.ents++S.en)) g' w'/\sP (dom (e.ents++S.en)) g' w' e.val v
     | _,_=>False)->o.wp P a w K Q:=by
    intro fn cd hf hn hb hcaps0 hcalls;subst hcaps0;have hcv:cvs.toList=[]:=by
     cases hq:cvs.toList with
     | nil=>rfl
     | cons u l=>rw[hq]at hcaps;exact hcaps.elim
    unfold Oper.wp;have hrun:(execOp a.eval o).run P w=.ok (.enter fid (args.toList.map a.eval).toArray) w:=by
     simp only[execOp,ho,resolve,hc,hargs,hfv,Deferred.ofValue,Sem.run_bind,Sem.run_pure,Result.andThen,invoke];rw[CA hf hn hb]
     congr 2
     apply Array.ext';simp[hcv]
    rw[hrun,Oper.upon_enter];refine Calls.mono hcalls λen' w' he=>?_;cases en' with
    | returned v =>
     obtain⟨g',hM,hle,hv⟩:=he;exact hK v w' g' (h.put hM hle hv hd) hle
    | panicked _=>exact he.elim
    | outgrown=>exact he.elim
   split at hr
   · rename_i F hF;cases ht:G.trees with
     | true =>
      rw[ht]at hr;exact hr.elim
     | false =>
     rw[ht]at hr;simp only[cF]at hr;obtain⟨⟨fn,cd,hf,hn,hb⟩,hmeets⟩:=hG.fns fid F hF;unfold Bi at hr;obtain⟨b,L1,L2,_,h1,hr⟩:=Rd.runs_bind hr;obtain⟨_,L3,L4,_,h2,hr⟩:=Rd.runs_bind hr;obtain⟨r,hden,hr⟩:=hr;obtain⟨rfl,hdist,hnew⟩:=vV hr;have hcs:rU (sP (dom S.en) g w) (caps.map λn=>AV.cell (.box n 0)) cvs.toList:=by
      have key:∀(l:List rF) (m:List Value),rU (λn u=>dom S.en n/\(∃b,g.loc n=.pointer (some ⟨b,0,none⟩))/\u=g.loc n) l m->rU (sP (dom S.en) g w) (l.map λn=>AV.cell (.box n 0)) m:=by
       intro l
       induction l with
       | nil=>intro m h;cases m with
        | nil=>trivial
        | cons _ _=>exact h.elim
       | cons n l ih=>intro m h;cases m with
        | nil=>exact h.elim
        | cons u m =>
         obtain⟨⟨hdn,⟨b,hb⟩,hu⟩,h'⟩:=h;exact⟨⟨hdn,b,hb,hu.trans hb⟩,ih m h'⟩
      exact key caps _ hcaps
     have hcalls:=hmeets w0 T N S.en g w uid _ _ b L1 r h.ms ((GY h args.toList).append hcs) h1 (Rd.runs_need h2).1 hden hdist hnew;unfold Oper.wp;have hrun:(execOp a.eval o).run P w=.ok (.enter fid (args.toList.map a.eval++cvs.toList).toArray) w:=by
      simp only[execOp,ho,resolve,hc,hargs,hfv,Deferred.ofValue,Sem.run_bind,Sem.run_pure,Result.andThen,invoke];rw[CA hf hn hb]
      congr 2
      apply Array.ext';simp
     rw[hrun,Oper.upon_enter];refine Calls.mono hcalls λen' w' he=>?_;cases en' with
     | returned v =>
      obtain⟨g',hM,hle,hv⟩:=he;exact hK v w' g' (h.put hM hle hv hd) hle
     | panicked _=>exact he.elim
     | outgrown=>exact he.elim
   · exact hr.elim
 · exact hr.elim
end Go.V
namespace Go.V
variable {P:Program} {w0:World} {T N:Nat->Prop} {S:St} {g:Gh} {w w':World} {a:Act} {o:Oper} {G:tN} {uid rid:Nat} {en:List (rF×Entry)} {Q:Exit->Act->World->Prop}

theorem NY (h:sC w0 T N S g w a) (hG:xb P G) {op:Op} (ho:o.op=op) (hp:∀c x y,op≠.pick c x y) {e:sM} {L:List rF} (hr:(uZ G uid S.eval op).Runs (rH S.en) e L) (hd:∀d,o.dst=some d->d<a.tmps.size) {K:Act->World->Prop}
 (hK:∀v w' g',sC w0 T N (S.put o.dst e) g' w' (a.put o.dst v)->Le (dom S.en) g w (dom (e.ents++S.en)) g' w'->K (a.put o.dst v) w'):o.wp P a w K Q:=by
 have fin:sx P w0 T N S g w a o e->o.wp P a w K Q:=λhf=>Id h hf hd hK;have hr0:=hr
 unfold uZ at hr;split at hr
 case h_1=>obtain⟨rfl,_⟩:=hr;exact fin (I4 h (.inl ho))
 case h_2=>obtain⟨rfl,_⟩:=hr;exact fin (I4 h (.inr ho))
 case h_3=>exact absurd rfl (hp _ _ _)
 case h_4=>exact fin (Lm h hG.tis ho hr0)
 case h_5=>exact fin (NT h hG.tis ho hr0)
 case h_6=>exact fin (Ln h hG.tis ho hr0)
 case h_7=>exact fin (G4 h hG.tis ho hr0)
 case h_8=>exact fin (MP h hG.tis ho hr0)
 case h_9=>exact fin (Ll h hG.tis ho hr0)
 case h_10=>exact fin (HI h ho hr0)
 case h_11 =>
  replace hr:=sF hr;obtain⟨i,hi,hr⟩:=hr;exact fin (NR h hG.tis ho hi (λxs ys hx hy e L hr=>NV h hG.tis hG.eqs ho hi hx hy hr) hr)
 case h_12=>exact fin (NP h ho hr0)
 case h_13=>exact fin (NQ h ho hr0)
 case h_14=>exact fin (J6 h hG.tis ho hr0)
 case h_15=>exact fin (GF h hG.tis ho hr0)
 case h_16=>exact fin (Lj h hG.tis ho hr0)
 case h_17=>exact fin (GA h hG.tis ho hr0)
 case h_18=>exact fin (GB h hG.tis ho hr0)
 case h_19=>exact fin (Li h hG.tis ho hr0)
 case h_20=>exact fin (IR h ho hr0)
 case h_21=>exact fin (HJ h ho hr0)
 case h_22 x t =>
  replace hr:=sF hr;obtain⟨i,hi,hr⟩:=hr;cases hk:E6 i (S.eval x)with
  | false=>rw[hk]at hr;exact hr.elim
  | true=>rw[hk]at hr;exact fin (NS h ho hG.tis hi hk hr)
 case h_23=>exact fin (Kd h hG.tis ho hr0)
 case h_24=>exact fin (Ft h .min (.inl rfl) ho hr)
 case h_25=>exact fin (Ft h .max (.inr rfl) ho hr)
 case h_26=>exact MV h hG rfl rfl ho hr hd hK
 all_goals exact hr.elim
end Go.V
namespace Go.V
variable {P:Program} {w0:World} {T N:Nat->Prop} {S:St} {g:Gh} {w w':World} {a:Act} {o:Oper} {G:tN} {uid rid:Nat} {en:List (rF×Entry)} {Q:Exit->Act->World->Prop} {ops:Array Oper}

theorem Lz (h:sC w0 T N S g w a) (hG:xb P G) {e:sM} {L:List rF} (hr:(zu G uid S.eval o.op).Runs (rH S.en) e L) (hd:∀d,o.dst=some d->d<a.tmps.size) {K:Act->World->Prop}
 (hK:∀v w' g',sC w0 T N (S.put o.dst e) g' w' (a.put o.dst v)->Le (dom S.en) g w (dom (e.ents++S.en)) g' w'->K (a.put o.dst v) w'):o.wp P a w K Q:=by
 by_cases hp:∃c x y,o.op=.pick c x y
 · obtain⟨c,x,y,hp⟩:=hp;rw[hp]at hr;exact Id h (MN h hp hr) hd hK
 · rw[GQ λc x y he=>hp ⟨c,x,y,he⟩]at hr;exact NY h hG rfl (λc x y he=>hp ⟨c,x,y,he⟩) hr hd hK
theorem CB (h:sC w0 T N S g w a) {j:Nat} {t:Tmp} {b:Bool} (hj:wd ops.toList j=some t) (ht:S.tmp t=.cell (.bool b)):yielded ops a.tmps j=some b:=by
 have hv:=h.tmps t;rw[ht]at hv;have hv:a.tmps.getD t undef=.bool b:=hv
 unfold wd at hj;unfold yielded;cases ho:ops[j]? with
 | none=>simp[ho]at hj
 | some p =>
  simp[ho]at hj;simp only[Option.bind_some,hj];have:a.tmps[t]?=some (.bool b):=by
   unfold Array.getD at hv;split at hv
   · rename_i hlt;rw[Array.getElem?_eq_getElem hlt];exact congrArg some hv
   · cases hv
  rw[this]
theorem GZ (h:sC w0 T N S g w a) {j:Nat} {t:Tmp} (hj:wd ops.toList j=some t) (ht:S.tmp t=.cell .void):yielded ops a.tmps j=none:=by
 have hv:=h.tmps t;rw[ht]at hv;have hv:a.tmps.getD t undef=undef:=hv
 unfold wd at hj;unfold yielded;cases ho:ops[j]? with
 | none=>simp
 | some p =>
  simp[ho]at hj;simp only[Option.bind_some,hj];cases hq:a.tmps[t]? with
  | none=>rfl
  | some v =>
   have:v=undef:=by
    have hlt:=(Array.getElem?_eq_some_iff.1 hq).1;have he:=(Array.getElem?_eq_some_iff.1 hq).2
    rw[←he];simpa[Array.getD,hlt]using hv
   rw[this];rfl
theorem MW (h:sC w0 T N S g w a) (hG:xb P G) {i:Nat} {r:ya} (hs:xG G rid ops.toList S i o r) (hi:ops.toList[i]?=some o) (hd:∀d,o.dst=some d->d<a.tmps.size) {K:Act->World->Prop}
 (hK:∀v w' g',sC w0 T N (S.act o r) g' w' (a.put o.dst v)->Le (dom S.en) g w (dom (S.act o r).en) g' w'->K (a.put o.dst v) w'):wpOp P ops Q i K a w:=by
 have hi':ops[i]?=some o:=by simpa using hi
 unfold wpOp;simp only[hi'];cases r with
 | none =>
  obtain⟨j,want,t,hg,hj,ht⟩:=hs;have hw:Region.wanted o (yielded ops a.tmps)=false:=by
   simp only[Region.wanted,hg];rcases ht with ht|ht
   · rw[CB h hj ht];cases want<;>rfl
   · rw[GZ h hj ht];rfl
  rw[hw];simp only[Bool.false_eq_true,if_false];exact hK undef w g (h.put (e:=⟨.cell .void,[]⟩) h.ms (Le.refl _ _ _) rfl hd) (Le.refl _ _ _)
 | some r =>
  obtain⟨e,L⟩:=r;obtain⟨hwn,hr⟩:=hs;have hw:Region.wanted o (yielded ops a.tmps)=true:=by
   unfold Region.wanted;cases hg:o.guard with
   | none=>rfl
   | some q =>
    obtain⟨j,want⟩:=q;obtain⟨t,hj,ht⟩:=hwn j want hg;simp only[CB h hj ht];cases want<;>rfl
  rw[hw];simp only[if_true];exact .inl (Lz h hG hr hd hK)
end Go.V
namespace Go.V
variable {P:Program} {w0:World} {T N:Nat->Prop} {S S':St} {g:Gh} {w w':World} {a:Act} {G:tN} {rid:Nat} {Q:Exit->Act->World->Prop} {ops:Array Oper} {B:List Nat}

theorem xK:∀{l:List Oper} {i:Nat} {p:Nat×Oper},p∈uk i l->i<=p.1/\l[p.1-i]?=some p.2
 | [],i,p,h=>by simp[uk]at h
 | o::l,i,p,h=>by
  rw[uk]at h;rcases mem_cons.1 h with rfl|h
  · exact⟨Nat.le_refl _,by simp⟩
  · obtain⟨h1,h2⟩:=xK h;refine⟨by omega,?_⟩;rw[show p.1-i=(p.1-(i+1))+1 by omega];simpa using h2
theorem Al:∀(l:List Oper) (i:Nat),(uk i l).map (·.1)=List.range' i l.length
 | [],i=>rfl
 | o::l,i=>by rw[uk,List.map_cons,Al l (i+1)];rfl
theorem Am:∀(l:List Oper) (i:Nat),(uk i l).Pairwise λp q=>p.1<q.1
 | [],i=>List.Pairwise.nil
 | o::l,i=>by
  rw[uk];exact pairwise_cons.2 ⟨λq hq=>by have:=(xK hq).1;show i<q.1;omega,Am l (i+1)⟩
theorem Ck:∀{l:List (Nat×Oper)},BM ops B l=true->l.Pairwise λp q=>uM (ub B q.1) p.1=true\/Oper.apart ops p.2 q.2=true
 | [],h=>List.Pairwise.nil
 | (i,x)::l,h=>by
  simp only[BM,aT]at h;refine pairwise_cons.2 ⟨λq hq=>?_,Ck h.2⟩;simpa using all_eq_true.1 h.1 q hq
def At (w0:World) (T N:Nat->Prop) (nt:Nat) (D0:rF->Prop) (g0:Gh) (w1:World) (S:St) (a:Act) (w:World):Prop :=
 ∃g,sC w0 T N S g w a/\nt<=a.tmps.size/\Le D0 g0 w1 (dom S.en) g w
theorem sC.same (h:sC w0 T N S g w a) (hs:v9 S S'):sC w0 T N S' g w a:=by
 have hM:=h.ms.congr hs.en;refine⟨hM.mem,hM.since,λt=>?_,h.plain⟩;rw[←hs.tm t,←wq hs.en];exact h.tmps t
theorem LA (a:Act) (d:Option Tmp) (v:Value):(a.put d v).tmps.size=a.tmps.size:=by
 unfold Act.put;cases d<;>simp
theorem At.sound (hG:xb P G) {nt:Nat} (hb:∀(i:Nat) o,ops.toList[i]?=some o->∀d,o.dst=some d->d<nt) {D0:rF->Prop} {g0:Gh} {w1:World}:Jd P G rid ops Q (At w0 T N nt D0 g0 w1):=by
 refine⟨λS S' a w hs ⟨g,h1,h2,h3⟩=>⟨g,h1.same hs,h2,by rw[←wq hs.en];exact h3⟩,λS i o r a w K hst hi ⟨g,h1,h2,h3⟩ hK=>?_⟩;exact MW h1 hG hst hi (λd hd=>Nat.lt_of_lt_of_le (hb i o hi d hd) h2) λv w' g' hI hle=>hK _ _ ⟨g',hI,by rw[LA];exact h2,h3.trans hle⟩
theorem xG.closed {i:Nat} {o:Oper} {r:ya} {l:List Oper} (h:sV S) (hs:xG G rid l S i o r):sV (S.act o r):=by
 cases r with
 | none=>exact h.put _ (si.pure (x:=.cell .void) (sn rfl))
 | some r=>exact h.put _ (GR (λx=>h.eval x) h.box hs.2)
theorem sV.same (h:sV S) (hs:v9 S S'):sV S':=by
 have hd:=wq hs.en;refine⟨λt=>by rw[←hs.tm t,←hd];exact h.tmp t,λn cs hn c hc=>?_⟩;rw[←hd];exact h.box n cs ((hs.en n).trans hn) c hc
theorem Tr.closed {l:List Oper}:∀{E:List Ev} {S S':St},sV S->Tr G rid l E S S'->sV S'
 | [],S,S',h,k=>h.same k
 | (i,o,r)::E,S,S',h,⟨k1,k2⟩=>Tr.closed (k1.closed h) k2
theorem Tr.dom {l:List Oper}:∀{E:List Ev} {S S':St},Tr G rid l E S S'->∀n,dom S.en n->dom S'.en n
 | [],S,S',k,n,hn=>by rw[←wq (show v9 S S' from k).en];exact hn
 | (i,o,r)::E,S,S',⟨k1,k2⟩,n,hn=>by
  refine Tr.dom k2 n ?_;cases r with
  | none=>exact hn
  | some r=>exact vq _ _ n hn
theorem DB {l:List Oper} {o:Oper} {t:Tmp} (h:t∉o.looksAt l.toArray):¬AL l o t:=λk=>h (GS k)
theorem At.drop {nt:Nat} {D0:rF->Prop} {g0:Gh} {w1:World} {Z:List Tmp} {FN:List rF} {S1:St} (h:At w0 T N nt D0 g0 w1 S1 a w) (hs:Ci Z FN S S1) (hc:sV S) (hd:∀n,D0 n->Go.V.dom S.en n):At w0 T N nt D0 g0 w1 S a w:=by
 obtain⟨g,h1,h2,h3⟩:=h;exact⟨g,h1.drop hs hc,h2,⟨hd,h3.loc,h3.esz,h3.imm,h3.mem,h3.rows⟩⟩

structure yh (S S':St):Prop where
 en:∃nw,S'.en=nw++S.en
 tm:∃nt,S'.tm=nt++S.tm
theorem Ks {A:Type} (hG:xb P G) (hm:P.follows .mixedOrders=true) {nt:Nat} {draw:Bool} (hb:wJ nt (.region rid ops draw)=true) (h:sC w0 T N S g w a) (hn:nt<=a.tmps.size) (hc:sV S) {ann:List (Nat×rT)} {K:zR A} {r:A}
 (hr:wF G ann (.region rid ops draw) S K=some r)
 (hQ:∀S' a' w',sV S'->yh S S'->At w0 T N nt (dom S.en) g w S' a' w'->K.n S'=some r->Q .normal a' w'):(Code.region rid ops draw).wp P Q a w:=by
 have hbel:∀(i:Nat) o,ops.toList[i]?=some o->∀d,o.dst=some d->d<nt:=by
  intro i o ho d hd;have:=all_eq_true.1 hb o (List.mem_of_getElem? ho)
  rw[hd]at this;exact Nat.lt_of_lt_of_le (Nat.lt_succ_self d) (Nat.le_of_ble_eq_true this)
 have hs:=At.sound (rid:=rid) (w0:=w0) (T:=T) (N:=N) (Q:=Q) (D0:=dom S.en) (g0:=g) (w1:=w) hG hbel;have hhere:∀{E:List Ev},E.map (λp=>(p.1,p.2.1))=uk 0 ops.toList->∀p∈E,ops.toList[p.1]?=some p.2.1:=by
  intro E hE p hp;have:=xK (xm hE hp)
  simpa using this.2
 have hfst:∀{E:List Ev},E.map (λp=>(p.1,p.2.1))=uk 0 ops.toList->E.map (·.1)=List.range ops.size:=by
  intro E hE;rw[show E.map (·.1)=(E.map (λp=>(p.1,p.2.1))).map (·.1) by rw[List.map_map];rfl,hE,Al,←List.range_eq_range'];rfl
 rw[wF]at hr;cases hcase:(draw||ops.toList.any I1)with
 | false =>
  rw[hcase]at hr;simp only[cF]at hr;simp only[Bool.or_eq_false_iff]at hcase;obtain⟨E,S',h1,h2,h3,h4,h5⟩:=Eo hr;rw[hcase.1];refine wp_region ?_;rw[←hfst h2];exact B7 hs h1 (hhere h2) ⟨g,h,hn,Le.refl _ _ _⟩ λa' w' hR=>hQ S' a' w' (Tr.closed hc h1) ⟨h4,h5⟩ hR h3
 | true =>
  rw[hcase]at hr;simp only[cT]at hr;cases hck:(Nat.blt ops.toList.length 256&&(Ac 0 (cond draw (yd ops.toList []) (Ea ops.toList.length))&&cond draw (Gv ops (yd ops.toList [])) true))with
  | false=>rw[hck]at hr;cases hr
  | true =>
   rw[hck]at hr;simp only[aT,cT]at hck hr;obtain⟨c1,c2,c3⟩:=hck;have hB:B6 ops.toList (cond draw (yd ops.toList []) (Ea ops.toList.length)):=B6.of (Nat.lt_of_lt_of_le (Nat.lt_succ_self _) (Nat.le_of_ble_eq_true c1)) c2
   have hin:Cj rid ops.toList (cond draw (yd ops.toList []) (Ea ops.toList.length)) [] (uk 0 ops.toList) S S [] [] [] [] :=
    ⟨⟨λt=>.inl rfl,λn _=>rfl,λn hn=>by simp at hn⟩,λt c ht=>by simp[rH]at ht,λp hp=>by simp at hp,λn hn=>by simp at hn,
     λp hp=>by simpa using (xK hp).2,λp hp t ht=>by simp at ht,λp hp=>by simp at hp,Am _ _,hc⟩
   obtain⟨E,S1',S',acc',Z',FN',nw,k1,k2,k3,⟨k4,k4'⟩,k5,k6,k7,k8,k9,k10,k11,k12⟩:=(GW hB _ _ _ _ _ _ _ _ _ _ _ _ hr hin).out;have hend:∀a' w',At w0 T N nt (dom S.en) g w S1' a' w'->Q .normal a' w':=λa' w' hR =>
    hQ S' a' w' k4' ⟨⟨nw,k11.1⟩,k11.2⟩ (hR.drop k4 k4' λn hn=>by rw[k11.1];exact vq _ _ n hn) k1
   cases draw with
   | false =>
    refine wp_region ?_;rw[←hfst k3];exact B7 hs k2 (hhere k3) ⟨g,h,hn,Le.refl _ _ _⟩ hend
   | true =>
    simp only[cT]at c3 hB k8;simp only[Gv,aT]at c3;obtain⟨⟨d1,d2⟩,d3⟩:=c3;refine wp_region_any hm ?_;obtain⟨hM,hle⟩:=h.ms.drew;have hI:sC w0 T N S g w.drew a:=⟨hM.mem,hM.since,λt=>sP.mono hle (h.tmps t),h.plain⟩
    have hlen:E.length=ops.size:=by
     have:=congrArg List.length (hfst k3);simpa using this
    refine Kq hs (B:=yd ops.toList []) ⟨λi o ho b hb'=>?_,λi o ho e he heb=>?_⟩ hlen k2 ⟨by simp,hhere k3,λi hi=>?_,?_,?_,λi hi hl=>?_⟩ ⟨g,hI,hn,hle⟩ hend
    · exact FK ops.toList [] i o ho b (by simpa using hb')
    · have hmem:(i,o)∈uk 0 ops.toList:=by
       have hi:i∈(uk 0 ops.toList).map (·.1):=by
        rw[Al,←List.range_eq_range'];exact List.mem_range.2 (List.getElem?_eq_some_iff.1 ho).1
       obtain⟨p,hp,rfl⟩:=mem_map.1 hi;have:=(xK hp).2
       rw[Nat.sub_zero,ho]at this;cases this;exact hp
      have:=all_eq_true.1 (all_eq_true.1 d2 _ hmem) e he;rw[heb]at this;simp only[Bool.not_true,Bool.false_or]at this;exact Nat.lt_of_lt_of_le (Nat.lt_succ_self _) (Nat.le_of_ble_eq_true this)
    · have:(Array.replicate ops.size false).getD i true=false:=by simp[Array.getD,hi]
      refine⟨λ_=>?_,λ_=>this⟩;have hi':i∈E.map (·.1):=by rw[hfst k3];exact List.mem_range.2 hi
      obtain⟨p,hp,he⟩:=mem_map.1 hi';exact⟨p,hp,he⟩
    · have:=Am ops.toList 0;rw[←k3,List.pairwise_map]at this;exact this
    · have hap:=Ck d3;rw[←k3,List.pairwise_map]at hap;refine (hap.and k8).imp λ{p q} ⟨h1,h2⟩=>?_;rcases h1 with h1|h1
      · exact .inl h1
      · rcases h2 with h2|h2
        · exact .inl h2
        · obtain⟨e1,e2,e3⟩:=Oper.apart_spec h1;have harr:ops.toList.toArray=ops:=by simp
          exact .inr ⟨λd hd=>DB (by rw[harr];exact e1 d hd),λd hd=>DB (by rw[harr];exact e3 d hd),e2,h2.wr,h2.rw,h2.ww⟩
    · simp[Array.getD,hi]at hl
end Go.V
namespace Go.V

theorem Rd.plain_some {α:Type} {S:rF->Option Entry} {a:α}:∀{x:Rd α},x.plain S=some a->∃L,x.Runs S a L
 | .ret b,h=>by simp only[Rd.plain,Option.some.injEq]at h;exact⟨[],h.symm,rfl⟩
 | .fail,h=>by simp[Rd.plain]at h
 | .get n k,h=>by
  simp only[Rd.plain]at h;obtain⟨L,hL⟩:=Rd.plain_some h;exact⟨n::L,L,rfl,hL⟩
 | .opt _ _,h=>by simp[Rd.plain]at h
def An (S:St) (σ:List (rF×Cell)):tG->Cell->Cell->Prop
 | .dat c,x,y=>∃a,c.quiet S.ent x=some a/\y=c.cell a
 | .own n,x,y=>y=.own n/\(n,x)∈σ/\((∃r,x=.own r)\/(∃r lo hi,x=.win r lo hi)\/x=.nil)
 | .same n,x,y=>x=.own n/\y=x
 | .box n o,x,y=>x=.box n o/\y=x
 | .nil,x,y=>x=.nil/\y=x
 | .undef,_,y=>y=.undef
 | .fn f cs,x,y=>x=.fn f cs/\y=x
 | .kid r j e,x,y=>∃xs,x=.kid r j e xs/\y=x
def yn (S:St) (σ:List (rF×Cell)):List tG->List Cell->List Cell->Prop
 | [],[],[]=>True
 | s::l,x::xs,y::ys=>An S σ s x y/\yn S σ l xs ys
 | _,_,_=>False
variable {S:St} {σ:List (rF×Cell)}
theorem xL {α:Type} {z:α} {A:Prop} (h:(none:Option α)=some z):A:=by cases h
theorem G6 {c:CT} {l:List tG} {R:List Cs} {x:Cell} {xs:List Cell} {y:Option (rN R)}:tj S (.dat c::l) R (x::xs) y =
 (match c.quiet S.ent x,tj S l R xs y with|some a,some b=>some (rN.mk (.one c) (sX l R) a b)|_,_=>none):=rfl
theorem CC {r:rF} {j:Nat} {e:Cs} {x:Cell} {a:List e.den} (h:Bl r j e x=some a):x=.kid r j e a:=by
 unfold Bl at h;split at h
 · rename_i s k f xs;cases hk:(Nat.beq r s&&Nat.beq j k)with
   | false=>rw[hk]at h;cases h
   | true =>
    rw[hk]at h;simp only[aT]at hk;obtain rfl:=Nat.eq_of_beq_eq_true hk.1;obtain rfl:=Nat.eq_of_beq_eq_true hk.2;simp only[cT]at h;split at h
    · rename_i hh _;subst hh;cases h;rfl
    · cases h
 · cases h
theorem G7 {r:rF} {j:Nat} {e:Cs} {l:List tG} {R:List Cs} {x:Cell} {xs:List Cell} {y:Option (rN R)}:tj S (.kid r j e::l) R (x::xs) y =
 (match Bl r j e x,tj S l R xs y with|some a,some b=>some (rN.mk (.one (.sl e)) (sX l R) a b)|_,_=>none):=rfl
theorem AN:∀(l:List tG) (R:List Cs) (xs:List Cell) (y:Option (rN R)) (z:rN (sX l R)),tj S l R xs y=some z->(∀p∈xS l xs,p∈σ) ->
 ∃y',y=some y'/\yn S σ l xs (sJ l R z).1/\(sJ l R z).2=y':=by
 intro l
 induction l with
 | nil =>
  intro R xs y z h _;cases xs with
  | nil=>exact⟨z,h,trivial,rfl⟩
  | cons _ _=>exact xL (show (none:Option (rN (sX [] R)))=some z from h)
 | cons s l ih =>
  intro R xs y z h hσ;cases xs with
  | nil=>cases s<;>exact xL (show (none:Option (rN (sX _ R)))=some z from h)
  | cons x xs =>
   cases s with
   | dat c =>
    rw[G6]at h;cases h1:c.quiet S.ent x with
    | none=>rw[h1]at h;cases h
    | some a =>
     cases h2:tj S l R xs y with
     | none=>rw[h1,h2]at h;cases h
     | some b =>
      rw[h1,h2]at h;have h:rN.mk (.one c) (sX l R) a b=z:=Option.some.inj h
      subst h;obtain⟨y',e1,e2,e3⟩:=ih R xs y b h2 (λp hp=>hσ p hp);refine⟨y',e1,?_,?_⟩
      · show An S σ (.dat c) x (c.cell (rN.hd (.one c) (sX l R) _))/\yn S σ l xs (sJ l R (rN.tl (.one c) (sX l R) _)).1;rw[rN.tl_mk,rN.hd_mk];exact⟨⟨a,h1,rfl⟩,e2⟩
      · show (sJ l R (rN.tl (.one c) (sX l R) _)).2=y';rw[rN.tl_mk];exact e3
   | kid r j c =>
    rw[G7]at h;cases h1:Bl r j c x with
    | none=>rw[h1]at h;cases h
    | some a =>
     cases h2:tj S l R xs y with
     | none=>rw[h1,h2]at h;cases h
     | some b =>
      rw[h1,h2]at h;have h:rN.mk (.one (.sl c)) (sX l R) a b=z:=Option.some.inj h
      subst h;obtain⟨y',e1,e2,e3⟩:=ih R xs y b h2 (λp hp=>hσ p hp);refine⟨y',e1,?_,?_⟩
      · show An S σ (.kid r j c) x (.kid r j c (rN.hd (.one (.sl c)) (sX l R) _))/\yn S σ l xs (sJ l R (rN.tl (.one (.sl c)) (sX l R) _)).1;rw[rN.tl_mk,rN.hd_mk];exact⟨⟨a,CC h1,(CC h1).symm⟩,e2⟩
      · show (sJ l R (rN.tl (.one (.sl c)) (sX l R) _)).2=y';rw[rN.tl_mk];exact e3
   | own n =>
    have key:∀(hx:(∃r,x=.own r)\/(∃r lo hi,x=.win r lo hi)\/x=.nil) (h:tj S l R xs y=some z),∃y',y=some y'/\yn S σ (.own n::l) (x::xs) (sJ (.own n::l) R z).1/\(sJ (.own n::l) R z).2=y':=by
     intro hx h;obtain⟨y',e1,e2,e3⟩:=ih R xs y z h (λp hp=>hσ p (mem_cons_of_mem _ hp));exact⟨y',e1,⟨⟨rfl,hσ _ mem_cons_self,hx⟩,e2⟩,e3⟩
    cases x<;>first
     | exact xL (show (none:Option (rN (sX _ R)))=some z from h)
     | exact key (.inl ⟨_,rfl⟩) h
     | exact key (.inr (.inl ⟨_,_,_,rfl⟩)) h
     | exact key (.inr (.inr rfl)) h
   | same n =>
    cases x<;>try exact xL (show (none:Option (rN (sX _ R)))=some z from h)
    rename_i m;have h':cond (Nat.beq n m) (tj S l R xs y) none=some z:=h
    cases hnm:Nat.beq n m with
    | false=>rw[hnm]at h';cases h'
    | true =>
     rw[hnm]at h';clear h;obtain rfl:=Nat.eq_of_beq_eq_true hnm;obtain⟨y',e1,e2,e3⟩:=ih R xs y z h' (λp hp=>hσ p hp);exact⟨y',e1,⟨⟨rfl,rfl⟩,e2⟩,e3⟩
   | box n o =>
    cases x<;>try exact xL (show (none:Option (rN (sX _ R)))=some z from h)
    rename_i m p;have h':cond (Nat.beq n m&&Nat.beq o p) (tj S l R xs y) none=some z:=h
    cases hnm:(Nat.beq n m&&Nat.beq o p)with
    | false=>rw[hnm]at h';cases h'
    | true =>
     rw[hnm]at h';clear h;simp only[aT]at hnm;obtain rfl:=Nat.eq_of_beq_eq_true hnm.1;obtain rfl:=Nat.eq_of_beq_eq_true hnm.2;obtain⟨y',e1,e2,e3⟩:=ih R xs y z h' (λp hp=>hσ p hp);exact⟨y',e1,⟨⟨rfl,rfl⟩,e2⟩,e3⟩
   | nil =>
    cases x<;>try exact xL (show (none:Option (rN (sX _ R)))=some z from h)
    obtain⟨y',e1,e2,e3⟩:=ih R xs y z h (λp hp=>hσ p hp);exact⟨y',e1,⟨⟨rfl,rfl⟩,e2⟩,e3⟩
   | undef =>
    obtain⟨y',e1,e2,e3⟩:=ih R xs y z h (λp hp=>hσ p hp);exact⟨y',e1,⟨rfl,e2⟩,e3⟩
   | fn f cs =>
    cases x<;>try exact xL (show (none:Option (rN (sX _ R)))=some z from h)
    rename_i g ds;have h':cond (Nat.beq f g&&(cs==ds)) (tj S l R xs y) none=some z:=h
    cases hnm:(Nat.beq f g&&(cs==ds))with
    | false=>rw[hnm]at h';cases h'
    | true =>
     rw[hnm]at h';clear h;simp only[aT]at hnm;obtain rfl:=Nat.eq_of_beq_eq_true hnm.1;obtain rfl:=eq_of_beq hnm.2;obtain⟨y',e1,e2,e3⟩:=ih R xs y z h' (λp hp=>hσ p hp);exact⟨y',e1,⟨⟨rfl,rfl⟩,e2⟩,e3⟩
def By (S:St) (σ:List (rF×Cell)) (l:List (Nat×Bool×List tG)) (tm:List (Nat×AV)) (t:Nat):Prop :=
 match rH l t with
 | none=>rH tm t=none
 | some (agg,ss)=>yN agg (S.tmp t)=true/\∃cs,rH tm t=some (w9 agg cs)/\yn S σ ss (S.tmp t).cells cs
theorem Cl:∀{l:List (Nat×Bool×List tG)} {R:List Cs} {y:Option (rN R)} {z:rN (yl l R)},A6 S l R y=some z->(∀p∈yO S l,p∈σ) ->
 ∃y',y=some y'/\(∀t,By S σ l (vB l R z).1 t)/\(vB l R z).2=y'
 | [],R,y,z,h,_=>⟨z,h,λt=>rfl,rfl⟩
 | (t,agg,ss)::l,R,y,z,h,hσ=>by
  have h':cond (yN agg (S.tmp t)) (tj S ss (yl l R) (S.tmp t).cells (A6 S l R y)) none=some z:=h;cases hag:yN agg (S.tmp t)with
  | false=>rw[hag]at h';cases h'
  | true =>
   rw[hag]at h';clear h;have h:tj S ss (yl l R) (S.tmp t).cells (A6 S l R y)=some z:=h'
   obtain⟨y1,e1,e2,e3⟩:=AN _ _ _ _ _ h (λp hp=>hσ p (mem_append_left _ hp));obtain⟨y2,k1,k2,k3⟩:=Cl e1 (λp hp=>hσ p (mem_append_right _ hp));refine⟨y2,k1,λu=>?_,?_⟩
   · unfold By;simp only[vB];rw[s8,s8];by_cases htu:t=u
     · subst htu;simp only[if_true];exact⟨hag,_,rfl,e2⟩
     · simp only[if_neg htu];have:=k2 u
       unfold By at this;rw[e3];exact this
   · simp only[vB];rw[e3];exact k3
def xn (S:St) (σ:List (rF×Cell)) (l:List (rF×vi)) (en:List (rF×Entry)) (n:rF):Prop :=
 match rH l n with
 | none=>rH en n=none
 | some (.root e m)=>∃x xs,rH σ n=some x/\vp S e m x=some xs/\rH en n=some (.root e m xs)
 | some (.keep e m)=>∃xs,vp S e m (.own n)=some xs/\rH en n=some (.root e m xs)
 | some (.box ss)=>∃cs cs',rH S.en n=some (.box cs)/\rH en n=some (.box cs')/\yn S σ ss cs cs'
 | some (.tree e)=>∃xs,rH S.en n=some (.tree e xs)/\rH en n=some (.tree e xs)
theorem G8 {e:Cs} {n:rF} {xs:List e.den} (h:DH S e n=some xs):rH S.en n=some (.tree e xs):=by
 unfold DH at h;split at h
 · rename_i f ys hn;split at h
   · rename_i hh _;subst hh;cases h;exact hn
   · cases h
 · cases h
theorem wP:∀{l:List (rF×vi)} {z:rN (tH l)},wa S σ l=some z->(∀p∈wE S l,p∈σ)->∀n,xn S σ l (v5 l z) n
 | [],z,h,_,n=>rfl
 | (m,.root e d)::l,z,h,hσ,n=>by
  simp only[wa]at h;split at h
  · rename_i x hx;split at h
    · rename_i a b h1 h2;cases h;have ih:=wP h2 hσ n
      unfold xn at ih ⊢;simp only[v5];rw[s8,s8,rN.tl_mk,rN.hd_mk];by_cases hmn:m=n
      · subst hmn;simp only[if_true];exact⟨x,a,hx,h1,rfl⟩
      · simp only[if_neg hmn];exact ih
    · cases h
  · cases h
 | (m,.keep e d)::l,z,h,hσ,n=>by
  simp only[wa]at h;split at h
  · rename_i a b h1 h2;cases h;have ih:=wP h2 hσ n
    unfold xn at ih ⊢;simp only[v5];rw[s8,s8,rN.tl_mk,rN.hd_mk];by_cases hmn:m=n
    · subst hmn;simp only[if_true];exact⟨a,h1,rfl⟩
    · simp only[if_neg hmn];exact ih
  · cases h
 | (m,.tree e)::l,z,h,hσ,n=>by
  simp only[wa]at h;split at h
  · rename_i a b h1 h2;cases h;have ih:=wP h2 hσ n
    unfold xn at ih ⊢;simp only[v5];rw[s8,s8,rN.tl_mk,rN.hd_mk];by_cases hmn:m=n
    · subst hmn;simp only[if_true];exact⟨a,G8 h1,rfl⟩
    · simp only[if_neg hmn];exact ih
  · cases h
 | (m,.box ss)::l,z,h,hσ,n=>by
  simp only[wa]at h;cases hcs:S.ent m with
  | none=>rw[hcs]at h;cases h
  | some ec =>
  rw[hcs]at h;cases ec with
  | tree=>cases h
  | frz=>cases h
  | gone=>cases h
  | fwd _ _=>cases h
  | root _ _ _=>cases h
  | box cs =>
   simp only at h;obtain⟨y',e1,e2,e3⟩:=AN _ _ _ _ _ h (λp hp=>hσ p (by
    simp only[wE];rw[hcs];exact mem_append_left _ hp))
   have ih:=wP e1 (λp hp=>hσ p (mem_append_right _ hp)) n;unfold xn at ih ⊢;simp only[v5];rw[s8,s8,e3];by_cases hmn:m=n
   · subst hmn;simp only[if_true];exact⟨cs,_,hcs,rfl,e2⟩
   · simp only[if_neg hmn];exact ih
theorem Ao:∀{l:List (rF×Cell)},vC l=true->l.Pairwise λp q=>(q.1=p.1->D7 p.2 q.2=true)/\(q.1≠p.1->x7 p.2 q.2=true)
 | [],_=>List.Pairwise.nil
 | (n,x)::l,h=>by
  simp only[vC,aT]at h;refine pairwise_cons.2 ⟨λq hq=>?_,Ao h.2⟩;have:=all_eq_true.1 h.1 q hq
  cases hb:Nat.beq q.1 n with
  | true =>
   rw[hb]at this;exact⟨λ_=>this,λhne=>absurd (Nat.eq_of_beq_eq_true hb) hne⟩
  | false =>
   rw[hb]at this;exact⟨λhe=>by subst he;simp at hb,λ_=>this⟩
theorem Je {x y:Cell} (h:D7 x y=true):∃r,x=.own r/\y=.own r:=by
 cases x<;>cases y<;>simp[D7]at h;exact⟨_,rfl,by rw[h]⟩
theorem Ep:∀{l:List (rF×Cell)},vC l=true->∀{n:rF} {x:Cell},(n,x)∈l->∃y,rH l n=some y/\(x=y\/∃r,x=.own r/\y=.own r)
 | [],_,n,x,h=>by simp at h
 | (m,y)::l,hs,n,x,h=>by
  rw[s8];by_cases hmn:m=n
  · subst hmn;rw[if_pos rfl];rcases mem_cons.1 h with h|h
    · cases h;exact⟨_,rfl,.inl rfl⟩
    · obtain⟨r,e1,e2⟩:=Je (((pairwise_cons.1 (Ao hs)).1 (m,x) h).1 rfl);exact⟨y,rfl,.inr ⟨r,e2,e1⟩⟩
  · rw[if_neg hmn];rcases mem_cons.1 h with h|h
    · cases h;exact absurd rfl hmn
    · simp only[vC,aT]at hs;exact Ep hs.2 h
theorem AO {x y:Cell} (h:x7 x y=true) {r:rF} (hx:vj x=some r):vj y≠some r:=by
 intro hy;simp[x7,hx,hy]at h
theorem Eq {x y:Cell} (h:x7 x y=true):x7 y x=true:=by
 have e:∀a b,x7 a b=(match vj a,vj b with|some r,some s=>!(Nat.beq r s)|_,_=>true):=λa b=>rfl;rw[e]at h ⊢;cases hx:vj x with
 | none=>cases vj y<;>rfl
 | some r=>cases hy:vj y with
  | none=>rfl
  | some s =>
   rw[hx,hy]at h;simp only[Bool.not_eq_true']at h ⊢;cases hb:Nat.beq s r with
   | false=>rfl
   | true=>rw[Nat.eq_of_beq_eq_true hb]at h;simp at h
theorem B8:∀{l:List (rF×Cell)},vC l=true->∀{n m:rF} {x y:Cell},(n,x)∈l->(m,y)∈l->n≠m->∀r,vj x=some r->vj y≠some r
 | [],_,n,m,x,y,h,_,_,r,_=>by simp at h
 | (k,z)::l,hs,n,m,x,y,h1,h2,hnm,r,hr=>by
  have hp:=pairwise_cons.1 (Ao hs);simp only[vC,aT]at hs;rcases mem_cons.1 h1 with e1|h1<;>rcases mem_cons.1 h2 with e2|h2
  · cases e1;cases e2;exact absurd rfl hnm
  · cases e1;exact AO ((hp.1 (m,y) h2).2 (Ne.symm hnm)) hr
  · cases e2;exact AO (Eq ((hp.1 (n,x) h1).2 hnm)) hr
  · exact B8 hs.2 h1 h2 hnm r hr
end Go.V
namespace Go.V
variable {w0:World} {T N:Nat->Prop} {en en':List (rF×Entry)} {S S':St} {g g':Gh} {w:World} {a:Act} {s:tg} {M:List (rF×Entry)} {W:List (Nat×AV)}

theorem MS.rename (h:MS w0 T N en g w) (hI:g'.I=g.I) (hrep:∀n e,rH en' n=some e->xF (dom en') g' w n e) (z0:rF->rF->Prop)
 (hφ:∀n e,rH en' n=some e->e.alive=true\/e.deep=true->(g'.top n=none/\g'.nest n=[])\/∃k f,rH en k=some f/\(e.alive=true->f.alive=true)/\(e.deep=true->f.deep=true)/\g'.top n=g.top k/\(∀b∈g'.nest n,b∈g.nest k)/\z0 n k)
 (htree:∀n e,rH en' n=some e->e.isTree=true->(∃f,rH en n=some f/\f.isTree=true)/\g'.nest n=g.nest n) (inj:∀n m k,z0 n k->z0 m k->n=m) (hone:∀n,dom en' n->(g'.loc n).oneCell'=true):MS w0 T N en' g' w:=by
 have ht:∀n e b,rH en' n=some e->e.alive=true->g'.top n=some b->∃k f,rH en k=some f/\f.alive=true/\g.top k=some b/\z0 n k:=by
  intro n e b hn ha hb;rcases hφ n e hn (.inl ha)with ⟨h1,_⟩|⟨k,f,h1,h2,_,h4,_,h6⟩
  · rw[h1]at hb;cases hb
  · exact⟨k,f,h1,h2 ha,h4▸hb,h6⟩
 have hs:∀n e b,rH en' n=some e->e.deep=true->b∈g'.nest n->∃k f,rH en k=some f/\f.deep=true/\b∈g.nest k/\z0 n k:=by
  intro n e b hn hd hb;rcases hφ n e hn (.inr hd)with ⟨_,h1⟩|⟨k,f,h1,h2,h3,_,h5,h6⟩
  · rw[h1]at hb;simp at hb
  · exact⟨k,f,h1,h3 hd,h5 b hb,h6⟩
 refine⟨⟨hrep,λn m e f b hn hm he hf h1 h2=>?_,λn e b hn he hb=>?_,λn m e f hn hm he hf hnm b hb hb'=>?_,λb hb=>h.mem.old b (hI▸hb),hone,λn e b hn he hb=>?_⟩,
  ⟨h.since.os,h.since.out,h.since.tape,h.since.size,h.since.mem,λn e b hn he hb=>?_,λn e b hn he hb=>?_,λb hb=>h.since.imm b (hI▸hb),λn e b hn he hb=>?_,h.since.soft⟩⟩
 · obtain⟨k,f1,k1,k2,k3,k4⟩:=ht n e b hn he h1;obtain⟨k',f2,l1,l2,l3,l4⟩:=ht m f b hm hf h2;obtain rfl:=h.mem.apart k k' f1 f2 b k1 l1 k2 l2 k3 l3;exact inj n m k k4 l4
 · obtain⟨k,f1,k1,k2,k3,k4⟩:=ht n e b hn he hb;rw[hI];exact h.mem.topI k f1 b k1 k2 k3
 · obtain⟨k,f1,k1,k2,k3,k4⟩:=hs n e b hn he hb;obtain⟨k',f2,l1,l2,l3,l4⟩:=hs m f b hm hf hb';by_cases hkk:k=k'
   · subst hkk;exact hnm (inj n m k k4 l4)
   · exact h.mem.nests k k' f1 f2 k1 l1 k2 l2 hkk b k3 l3
 · obtain⟨⟨f,k1,k2⟩,k3⟩:=htree n e hn he;rw[k3]at hb;obtain⟨l1,l2,l3⟩:=h.mem.wood n f b k1 k2 hb;refine⟨by rw[hI];exact l1,λm f' hm hf' hb'=>?_,λm f' hmn hm hf'=>?_⟩
   · obtain⟨k,f1,j1,j2,j3,_⟩:=ht m f' b hm hf' hb';exact l2 k f1 j1 j2 j3
   · obtain⟨⟨f2,j1,j2⟩,j3⟩:=htree m f' hm hf';rw[j3];exact l3 m f2 hmn j1 j2
 · obtain⟨k,f1,k1,k2,k3,k4⟩:=ht n e b hn he hb;exact h.since.tops k f1 b k1 k2 k3
 · obtain⟨k,f1,k1,k2,k3,k4⟩:=hs n e b hn he hb;exact h.since.nests k f1 b k1 k2 k3
 · obtain⟨⟨f,k1,k2⟩,k3⟩:=htree n e hn he;rw[k3]at hb;exact h.since.born n f b k1 k2 hb

theorem G9 {e:Cs} {m:Bool} {x:Cell} {xs:List e.den} (h:vp S e m x=some xs) :
 ∃q us L,(ES e x).Runs (rH S.en) (xs,q,us) L/\(∀m',q=some m'->m=true->m'=true)/\(∀r E,us=[(r,E)]->vj x=some r):=by
 cases x<;>try (exfalso;cases h;done)
 case nil =>
  simp only[vp,Option.some.injEq]at h;subst h;exact⟨none,[],[],⟨rfl,rfl⟩,(λm' h=>by cases h),λr E h=>by cases h⟩
 case own r =>
  simp only[vp]at h;split at h
  · rename_i f m' ys hr;cases hm:Fq m m' with
    | false=>rw[hm]at h;cases h
    | true =>
     rw[hm]at h;simp only[cT]at h;split at h
     · rename_i hfe hsame;cases h;refine⟨some m',[(r,.gone)],[r],⟨[],rfl,?_⟩,(λm'' h hm1=>?_),λr' E h=>by cases h;rfl⟩
       · rw[show rH S.en r=some (.root f m' ys)from hr];simp only[hsame];exact⟨rfl,rfl⟩
       · cases h;subst hm1;simpa[Fq]using hm
     · cases h
  · cases h
 case win r lo hi =>
  simp only[vp]at h;split at h
  · rename_i f m' ys hr;cases hm:Fq m m' with
    | false=>rw[hm]at h;cases h
    | true =>
     rw[hm]at h;simp only[cT]at h;split at h
     · rename_i hfe hsame;cases h;refine⟨some m',[(r,.gone)],[r],⟨[],rfl,?_⟩,(λm'' h hm1=>?_),λr' E h=>by cases h;rfl⟩
       · rw[show rH S.en r=some (.root f m' ys)from hr];simp only[hsame];exact⟨rfl,rfl⟩
       · cases h;subst hm1;simpa[Fq]using hm
     · cases h
  · cases h
structure DM (w:World) (S:St) (g:Gh) (e:Cs) (m:Bool) (x:Cell) (xs:List e.den) (i:NI):Prop where
 esz:i.esz=e.len
 loc:∀v,rO (dom S.en) g w x v->v=i.loc
 rep:ug w e xs i.loc i.top i.nest
 imm:∀b∈i.nest,g.I b
 nod:m=true->i.nest.Nodup
 one:i.loc.oneCell'=true
 old:(i.top=none/\i.nest=[])\/∃r m' ys,vj x=some r/\rH S.en r=some (.root e m' ys)/\i.top=g.top r/\(∀b∈i.nest,b∈g.nest r)/\(m=true->m'=true)
theorem DC {e:Cs} {xs:List e.den} {v:Value} {tp:Option Nat} {F:List Nat} (h:ug w e xs v tp F):v.oneCell'=true:=by
 obtain⟨x,c,rfl⟩:=h.shape;rfl
theorem LB (hm:uN S.en g w) {e:Cs} {m:Bool} {x:Cell} {xs:List e.den} (h:vp S e m x=some xs) {v:Value} (hv:rO (dom S.en) g w x v):∃i,DM w S g e m x xs i:=by
 have huni:∀u,rO (dom S.en) g w x u->u=v:=by
  intro u hu;cases x<;>try (exfalso;cases h;done)
  case nil=>exact (show u=_ from hu).trans (show v=_ from hv).symm
  case own r=>exact hu.2.trans hv.2.symm
  case win r lo hi =>
   obtain⟨_,_,a1,l1,c1,e1,_,rfl⟩:=hu;obtain⟨_,_,a2,l2,c2,e2,_,rfl⟩:=hv;rw[e1]at e2;cases e2;rfl
 obtain⟨q,us,L,h1,h2,h3⟩:=G9 h;rcases Cw hm hv h1 with ⟨rfl,h4⟩|⟨ys,r,m',F,h4,hD⟩
 · cases h4;exact⟨⟨.slice none 0 0,e.len,none,[]⟩,rfl,huni,.inl ⟨rfl,rfl,rfl,rfl⟩,by simp,by simp,rfl,.inl ⟨rfl,rfl⟩⟩
 · cases h4;obtain⟨⟨zs,hent⟩,hrep,hcnt⟩:=hD;obtain⟨_,_,hI,hnd⟩:=tD hm hent;have hsub:∀b∈F,b∈g.nest r:=λb hb=>by
    have h0:=hcnt b;have h1:0<F.count b:=count_pos_iff.2 hb
    exact count_pos_iff.1 (by omega)
   refine⟨⟨v,e.len,g.top r,F⟩,rfl,huni,hrep,λb hb=>hI b (hsub b hb),λhm1=>?_,DC hrep,.inr ⟨r,m',zs,h3 r _ rfl,hent,rfl,hsub,h2 m' rfl⟩⟩;rw[←u7];intro b;have:=hcnt b
   have h6:=u7.2 (hnd (h2 m' rfl hm1)) b;show F.count b<=1
   omega
end Go.V
namespace Go.V
variable {w0:World} {T N:Nat->Prop} {en en':List (rF×Entry)} {S S':St} {g g':Gh} {w:World} {a:Act} {s:tg} {M:List (rF×Entry)} {W:List (Nat×AV)}

theorem xo:∀{l:List (rF×vi)},Bm l=true->∀{n:rF} {e:vi},(n,e)∈l->rH l n=some e
 | [],_,n,e,h=>by simp at h
 | (m,f)::l,hl,n,e,h=>by
  simp only[Bm,aT]at hl;rw[s8];rcases mem_cons.1 h with h|h
  · cases h;rw[if_pos rfl]
  · by_cases hmn:m=n
    · subst hmn;have:=all_eq_true.1 hl.1 _ h
      simp at this
    · rw[if_neg hmn];exact xo hl.2 h
theorem DD {l:List (rF×vi)} (hl:Bm l=true) {n:rF} (h:Gy l n=true):∃e m,rH l n=some (.root e m):=by
 obtain⟨p,hp,hq⟩:=List.any_eq_true.1 h;simp only[aT]at hq;obtain⟨k,f⟩:=p;obtain rfl:=Nat.eq_of_beq_eq_true hq.1;cases f with
 | root e m=>exact⟨e,m,xo hl hp⟩
 | keep e m=>cases hq.2
 | box ss=>cases hq.2
 | tree e=>cases hq.2
theorem CD {l:List (rF×vi)} (hl:Bm l=true) {n:rF} (h:wM l n=true):∃x,rH l n=some x/\∀e m,x≠.root e m:=by
 obtain⟨p,hp,hq⟩:=List.any_eq_true.1 h;simp only[aT]at hq;obtain⟨k,f⟩:=p;obtain rfl:=Nat.eq_of_beq_eq_true hq.1;refine⟨f,xo hl hp,λe m he=>?_⟩;subst he;cases hq.2
theorem CE:∀{l:List (rF×vi)} {n:rF} {x:vi},rH l n=some x->(∀e m,x≠.root e m)->wM l n=true:=by
 intro l n x h hx;refine List.any_eq_true.2 ⟨(n,x),te h,?_⟩;cases x with
 | root e m=>exact absurd rfl (hx e m)
 | keep e m=>simp
 | tree e=>simp
 | box ss=>simp
theorem vD:∀{l:List (rF×vi)},vP S l=true->∀{n:rF} {e:Cs} {m:Bool},(n,vi.root e m)∈l->rH S.en n=none
 | [],_,n,e,m,h=>by simp at h
 | (k,x)::l,hf,n,e,m,h=>by
  rcases mem_cons.1 h with h'|h'
  · obtain⟨rfl,rfl⟩:=Prod.mk.inj h';simp only[vP,aT]at hf;cases hn:rH S.en n with
    | none=>rfl
    | some y=>rw[show S.ent n=some y from hn]at hf;cases hf.1
  · cases x with
    | root e' m'=>simp only[vP,aT]at hf;exact vD hf.2 h'
    | keep e' m'=>simp only[vP]at hf;exact vD hf h'
    | box ss=>simp only[vP]at hf;exact vD hf h'
    | tree e'=>simp only[vP]at hf;exact vD hf h'
theorem B9 {D:rF->Prop}:∀{l:List tG} {xs:List Cell} {vs:List Value},rU (rO D g w) xs vs->∀p∈xS l xs,∃v,rO D g w p.2 v
 | [],xs,vs,_,p,hp=>by cases xs<;>simp[xS]at hp
 | s::l,[],[],_,p,hp=>by cases s<;>simp[xS]at hp
 | s::l,x::xs,v::vs,h,p,hp=>by
  have ih:=B9 (l:=l) h.2 p;cases s with
  | own n =>
   rcases mem_cons.1 hp with rfl|hp
   · exact⟨v,h.1⟩
   · exact ih hp
  | _=>exact ih hp
theorem H0 {D:rF->Prop} {x:AV} {v:Value} (h:sP D g w x v):∃vs,rU (rO D g w) x.cells vs:=by
 cases x with
 | cell c=>exact⟨[v],h,trivial⟩
 | agg cs=>obtain⟨vs,_,k⟩:=h;exact⟨_,k⟩
 | tup l=>exact⟨[],trivial⟩
theorem Kt (hI:sC w0 T N S' g w a):∀p∈s.sigma S',∃v,rO (dom S'.en) g w p.2 v:=by
 intro p hp;rcases mem_append.1 hp with hp|hp
 · have key:∀(l:List (Nat×Bool×List tG)),p∈yO S' l->∃v,rO (dom S'.en) g w p.2 v:=by
    intro l
    induction l with
    | nil=>intro h;simp[yO]at h
    | cons q l ih =>
     intro h;obtain⟨t,ag,ss⟩:=q;rcases mem_append.1 h with h|h
     · obtain⟨vs,hv⟩:=H0 (hI.tmps t);exact B9 hv p h
     · exact ih h
   exact key _ hp
 · have key:∀(l:List (rF×vi)),p∈wE S' l->∃v,rO (dom S'.en) g w p.2 v:=by
    intro l
    induction l with
    | nil=>intro h;simp[wE]at h
    | cons q l ih =>
     intro h;obtain⟨n,x⟩:=q;cases x with
     | box ss =>
      rcases mem_append.1 h with h|h
      · cases hn:S'.ent n with
        | none=>rw[hn]at h;simp at h
        | some e =>
         rw[hn]at h;cases e with
         | box cs =>
          obtain⟨b,us,_,_,_,h4⟩:=hI.mem.rep n _ hn;exact B9 h4 p h
         | gone=>simp at h
         | fwd _ _=>simp at h
         | root _ _ _=>simp at h
         | tree _ _=>simp at h
         | frz _ _=>simp at h
      · exact ih h
     | root e m=>exact ih h
     | keep e m=>exact ih h
     | tree e=>exact ih h
   exact key _ hp
structure zZ (S S':St) (M:List (rF×Entry)) (W:List (Nat×AV)) (s:tg):Prop where
 gone:∀n e,rH M n=some e->e=.gone
 undef:∀t v,rH W t=some v->v=.undef
 dom:∀n,dom S.en n->Go.V.dom S'.en n
 en:∀n,rH M n=none->Go.V.dom S.en n->rH S'.en n=rH S.en n
 tm:∀t,rH W t=none->S'.tmp t=S.tmp t
 kept:∀n,wM s.en n=true->rH M n≠none
 ok:s.okAt S=true
 freed:freed S M (s.sigma S')=true
def Bz (S':St) (g:Gh) (w:World) (s:tg) (n:rF) (i:NI):Prop :=
 match rH s.en n with
 | some (.root e m)=>∃x xs,rH (s.sigma S') n=some x/\vp S' e m x=some xs/\DM w S' g e m x xs i
 | _=>(dom S'.en n->i.loc=g.loc n/\i.esz=g.esz n/\i.top=g.top n/\i.nest=g.nest n)/\(¬dom S'.en n->i.loc=.slice none 0 0)
theorem tg.read_spec {d:s.den} (h:s.read S'=some d):vC (s.sigma S'++Ad s.en)=true/\(∀t,By S' (s.sigma S') s.tm (s.st d).tm t)/\(∀n,xn S' (s.sigma S') s.en (s.st d).en n):=by
 unfold tg.read at h;cases hs:vC (s.sigma S'++Ad s.en)with
 | false=>rw[hs]at h;cases h
 | true =>
  rw[hs]at h;have h:A6 S' s.tm (tH s.en) (wa S' (s.sigma S') s.en)=some d:=h
  obtain⟨y',e1,e2,e3⟩:=Cl h (σ:=s.sigma S') (λp hp=>mem_append_left _ hp);refine⟨rfl,e2,?_⟩;have:=wP e1 (λp hp=>mem_append_right _ hp)
  show ∀n,xn S' (s.sigma S') s.en (v5 s.en (vB s.tm (tH s.en) d).2) n;rw[e3];exact this
theorem Ap:∀{l m:List (rF×Cell)},vC (l++m)=true->vC l=true
 | [],m,_=>rfl
 | (n,x)::l,m,h=>by
  simp only[List.cons_append,vC,aT,List.all_append]at h ⊢;exact⟨h.1.1,Ap h.2⟩
theorem yZ:∀{l:List (rF×vi)} {n:rF} {e:Cs} {m:Bool},(n,vi.keep e m)∈l->(n,Cell.own n)∈Ad l
 | [],n,e,m,h=>by simp at h
 | (k,x)::l,n,e,m,h=>by
  rcases mem_cons.1 h with h'|h'
  · obtain⟨rfl,rfl⟩:=Prod.mk.inj h';exact mem_cons_self
  · cases x with
    | keep e' m'=>exact mem_cons_of_mem _ (yZ h')
    | root e' m'=>exact yZ (l:=l) h'
    | box ss=>exact yZ (l:=l) h'
    | tree e'=>exact yZ (l:=l) h'
theorem Pc (hI:sC w0 T N S' g w a) {d:s.den} (hr:s.read S'=some d):∃f:rF->NI,∀n,Bz S' g w s n (f n):=by
 apply Classical.skolem.1;intro n;obtain⟨hσ,_,hen⟩:=tg.read_spec hr;have hn:=hen n
 unfold xn at hn;unfold Bz;cases hf:rH s.en n with
 | none =>
  by_cases hd:dom S'.en n
  · exact⟨⟨g.loc n,g.esz n,g.top n,g.nest n⟩,λ_=>⟨rfl,rfl,rfl,rfl⟩,λh=>absurd hd h⟩
  · exact⟨⟨.slice none 0 0,0,none,[]⟩,λh=>absurd h hd,λ_=>rfl⟩
 | some x =>
  cases x with
  | root e m =>
   rw[hf]at hn;obtain⟨x,xs,h1,h2,_⟩:=hn;obtain⟨v,hv⟩:=Kt (s:=s) hI (n,x) (te h1);obtain⟨i,hi⟩:=LB hI.mem h2 hv;exact⟨i,x,xs,h1,h2,hi⟩
  | keep e m =>
   by_cases hd:dom S'.en n
   · exact⟨⟨g.loc n,g.esz n,g.top n,g.nest n⟩,λ_=>⟨rfl,rfl,rfl,rfl⟩,λh=>absurd hd h⟩
   · exact⟨⟨.slice none 0 0,0,none,[]⟩,λh=>absurd h hd,λ_=>rfl⟩
  | box ss =>
   by_cases hd:dom S'.en n
   · exact⟨⟨g.loc n,g.esz n,g.top n,g.nest n⟩,λ_=>⟨rfl,rfl,rfl,rfl⟩,λh=>absurd hd h⟩
   · exact⟨⟨.slice none 0 0,0,none,[]⟩,λh=>absurd h hd,λ_=>rfl⟩
  | tree e =>
   by_cases hd:dom S'.en n
   · exact⟨⟨g.loc n,g.esz n,g.top n,g.nest n⟩,λ_=>⟨rfl,rfl,rfl,rfl⟩,λh=>absurd hd h⟩
   · exact⟨⟨.slice none 0 0,0,none,[]⟩,λh=>absurd h hd,λ_=>rfl⟩
def Gh.all (g:Gh) (f:rF->NI):Gh:=⟨g.I,λn=>(f n).loc,λn=>(f n).esz,λn=>(f n).top,λn=>(f n).nest,g.rows⟩
end Go.V
namespace Go.V
variable {w0:World} {T N:Nat->Prop} {en en':List (rF×Entry)} {S S':St} {g g':Gh} {w:World} {a:Act} {s:tg} {M:List (rF×Entry)} {W:List (Nat×AV)}

theorem H1 {e:Cs} {m:Bool} {n:rF} {xs:List e.den} (h:vp S e m (.own n)=some xs):∃m',rH S.en n=some (.root e m' xs)/\(m=true->m'=true):=by
 simp only[vp]at h;split at h
 · rename_i f m' ys hr;cases hm:Fq m m' with
   | false=>rw[hm]at h;cases h
   | true =>
    rw[hm]at h;simp only[cT]at h;split at h
    · rename_i hfe _;cases h;subst hfe;exact⟨m',hr,λhm1=>by subst hm1;simpa[Fq]using hm⟩
    · cases h
 · cases h
theorem AP {σ:List (rF×Cell)} {D D':rF->Prop} {ok:tG->Bool} (h1:∀c x y v,An S σ c x y->ok c=true->rO D g w x v->rO D' g' w y v) :
 ∀{ss:List tG} {xs ys:List Cell} {vs:List Value},yn S σ ss xs ys->ss.all ok=true->rU (rO D g w) xs vs->rU (rO D' g' w) ys vs
 | [],[],[],[],_,_,_=>trivial
 | c::ss,x::xs,y::ys,v::vs,h,ho,hv=>by
  simp only[List.all_cons,aT]at ho;exact⟨h1 c x y v h.1 ho.1 hv.1,AP h1 h.2 ho.2 hv.2⟩
theorem DN {σ:List (rF×Cell)} {D':rF->Prop} {ok:tG->Bool} (h1:∀c x y,An S σ c x y->ok c=true->uD D' y) :
 ∀{ss:List tG} {xs ys:List Cell},yn S σ ss xs ys->ss.all ok=true->∀y∈ys,uD D' y
 | [],[],[],_,_,y,hy=>by simp at hy
 | c::ss,x::xs,z::ys,h,ho,y,hy=>by
  simp only[List.all_cons,aT]at ho;rcases mem_cons.1 hy with rfl|hy
  · exact h1 c x y h.1 ho.1
  · exact DN h1 h.2 ho.2 y hy
theorem CF {σ:List (rF×Cell)}:∀{ss:List tG} {xs ys:List Cell},yn S σ ss xs ys->ys.length=xs.length
 | [],[],[],_=>rfl
 | c::ss,x::xs,z::ys,h=>by simp[CF h.2]
def z0 (S S':St) (M:List (rF×Entry)) (s:tg) (n k:rF):Prop :=
 (∃e m x e' m' ys,rH s.en n=some (.root e m)/\rH (s.sigma S') n=some x/\vj x=some k/\rH S'.en k=some (.root e' m' ys)) \/
 (n=k/\∃e m,rH s.en n=some (.keep e m)) \/
 (n=k/\∃ss cs,rH s.en n=some (.box ss)/\rH S'.en n=some (.box cs)) \/
 (n=k/\rH s.en n=none/\rH M n=none/\dom S.en n)
theorem z0.inj (hσ:vC (s.sigma S'++Ad s.en)=true) (hfr:freed S M (s.sigma S')=true) {n m k:rF} (h:z0 S S' M s n k) (h':z0 S S' M s m k):n=m:=by
 have hroot:∀{n m k:rF},(∃e m x e' m' ys,rH s.en n=some (.root e m)/\rH (s.sigma S') n=some x/\vj x=some k/\rH S'.en k=some (.root e' m' ys))->z0 S S' M s m k->n=m:=by
  intro n m k ⟨e,d,x,e',d',ys,h1,h2,h3,h4⟩ h';have hx:=te h2
  rcases h' with ⟨_,_,y,_,_,_,k1,k2,k3,k4⟩|⟨rfl,e2,m2,k1⟩|⟨rfl,ss,cs,k1,k2⟩|⟨rfl,k1,k2,k3⟩
  · by_cases hnm:n=m
    · exact hnm
    · exact absurd k3 (B8 (Ap hσ) hx (te k2) hnm k h3)
  · by_cases hnm:n=m
    · exact hnm
    · exact absurd rfl (B8 hσ (mem_append_left _ hx) (mem_append_right _ (yZ (te k1))) hnm m h3)
  · rw[h4]at k2;cases k2
  · have:=all_eq_true.1 hfr _ hx;simp only[h3]at this;cases hd:rH S.en m with
    | none=>exact absurd hd k3
    | some y =>
     rw[hd]at this;simp only at this;rw[k2]at this;cases this
 rcases h with h|h
 · exact hroot h h'
 · rcases h' with h'|h'
   · exact (hroot h' (.inr h)).symm
   · have e1:n=k:=by rcases h with ⟨e,_⟩|⟨e,_⟩|⟨e,_⟩<;>exact e
     have e2:m=k:=by rcases h' with ⟨e,_⟩|⟨e,_⟩|⟨e,_⟩<;>exact e
     exact e1.trans e2.symm
theorem BQ (hI:sC w0 T N S' g w a) (hcS:sV S) (hT:zZ S S' M W s) {d:s.den} (hr:s.read S'=some d) :
 ∃g',sC w0 T N (s.over ⟨W++S.tm,M++S.en⟩ d) g' w a/\Le (dom S.en) g w (dom (s.over ⟨W++S.tm,M++S.en⟩ d).en) g' w/\sV (s.over ⟨W++S.tm,M++S.en⟩ d):=by
 obtain⟨hσ,htm,hen⟩:=tg.read_spec hr;obtain⟨f,hf⟩:=Pc hI hr;have hok:=hT.ok
 simp only[tg.okAt,aT]at hok;obtain⟨hfr,hnd,hokt,hoke⟩:=hok;have hEd:(s.over ⟨W++S.tm,M++S.en⟩ d).en=(s.st d).en++(M++S.en):=rfl
 have hTd:(s.over ⟨W++S.tm,M++S.en⟩ d).tm=(s.st d).tm++(W++S.tm):=rfl;generalize hE:(s.over ⟨W++S.tm,M++S.en⟩ d).en=E at hEd;have hnr:∀n,dom S.en n->∀e m,rH s.en n≠some (.root e m):=λn hn e m h=>hn (vD hfr (te h))
 have hold:∀n,dom S'.en n->(∀e m,rH s.en n≠some (.root e m))->(f n).loc=g.loc n/\(f n).esz=g.esz n/\(f n).top=g.top n/\(f n).nest=g.nest n:=by
  intro n hn hne;have:=hf n
  unfold Bz at this;split at this
  · rename_i e m h;exact absurd h (hne e m)
  · exact this.1 hn
 have hdomS:∀n,dom S.en n->dom E n:=λn hn=>by
  rw[hEd];exact vq _ _ n (vq _ _ n hn)
 have hdome:∀n x,rH s.en n=some x->dom E n:=by
  intro n x hx;have:=hen n
  unfold xn at this;rw[hx]at this;rw[hEd];cases x with
  | root e m=>obtain⟨_,_,_,_,h⟩:=this;exact xH (by unfold dom;rw[h];simp)
  | keep e m=>obtain⟨_,_,h⟩:=this;exact xH (by unfold dom;rw[h];simp)
  | box ss=>obtain⟨_,_,_,h,_⟩:=this;exact xH (by unfold dom;rw[h];simp)
  | tree e=>obtain⟨_,_,h⟩:=this;exact xH (by unfold dom;rw[h];simp)
 have hle:Le (dom S.en) g w (dom E) (g.all f) w:=⟨hdomS,λn hn=>(hold n (hT.dom n hn) (hnr n hn)).1,λn hn=>(hold n (hT.dom n hn) (hnr n hn)).2.1,λ_ h=>h,λ_ _=>rfl,λ_ _=>rfl⟩;have hdm:∀n,((rH S.en n).isSome||wM s.en n)=true->dom S'.en n->dom E n/\(f n).loc=g.loc n/\(f n).esz=g.esz n:=by
  intro n h hd;rw[Bool.or_eq_true]at h;rcases h with h|h
  · have hS:dom S.en n:=by intro h0;rw[h0]at h;cases h
    exact⟨hdomS n hS,(hold n hd (hnr n hS)).1,(hold n hd (hnr n hS)).2.1⟩
  · obtain⟨x,hx,hxr⟩:=CD hnd h;have hne:∀e m,rH s.en n≠some (.root e m):=λe m h=>by rw[hx]at h;exact hxr e m (Option.some.inj h)
    exact⟨hdome n x hx,(hold n hd hne).1,(hold n hd hne).2.1⟩
 have hdmE:∀n,((rH S.en n).isSome||wM s.en n)=true->dom E n:=by
  intro n h;rw[Bool.or_eq_true]at h;rcases h with h|h
  · exact hdomS n (by intro h0;rw[h0]at h;cases h)
  · obtain⟨x,hx,_⟩:=CD hnd h;exact hdome n x hx
 let ok:=tG.okIn (λn=>(rH S.en n).isSome||wM s.en n) (Gy s.en)
 have g1:∀c x y v,An S' (s.sigma S') c x y->ok c=true->rO (dom S'.en) g w x v->rO (dom E) (g.all f) w y v:=by
  intro c x y v h ho hv;cases c with
  | dat c =>
   obtain⟨b,hq,rfl⟩:=h;unfold CT.quiet at hq;split at hq
   · rename_i b' hb;cases hq;obtain⟨L,hL⟩:=Rd.plain_some hb;obtain⟨⟨F,hF,hFI⟩,_⟩:=CT.into_shared hI.mem hv hL;refine CT.cell_rep hF λq hq=>(hFI q hq).elim id λ⟨k,hk,_⟩=>?_;simp at hk
   · cases hq
  | own n =>
   obtain⟨rfl,hm,_⟩:=h;obtain⟨e,m,hx⟩:=DD hnd ho;have:=hf n
   unfold Bz at this;rw[hx]at this;obtain⟨x0,xs,h1,h2,h3⟩:=this;obtain⟨z,hz,hz'⟩:=Ep (Ap hσ) hm;rw[h1]at hz;cases hz;have : x=x0 := by
    rcases hz' with h|⟨r, h, h'⟩
    · exact h
    · exact h.trans h'.symm
   subst this;exact⟨hdome n _ hx,h3.loc v hv⟩
  | same n =>
   obtain⟨rfl,rfl⟩:=h;obtain⟨hd,rfl⟩:=hv;obtain⟨h1,h2,_⟩:=hdm n ho hd;exact⟨h1,h2.symm⟩
  | box n o =>
   obtain⟨rfl,rfl⟩:=h;obtain⟨hd,b,hb,e⟩:=hv;obtain⟨h1,h2,_⟩:=hdm n ho hd;exact⟨h1,b,h2.trans hb,e⟩
  | nil=>obtain⟨rfl,rfl⟩:=h;exact hv
  | kid r j e =>
   obtain⟨xs,rfl,rfl⟩:=h;obtain⟨hsh,hd,b,o,len,cap,i,k1,k2,k3,k4⟩:=hv;obtain⟨h1,h2,h3⟩:=hdm r ho hd;exact⟨hsh,h1,b,o,len,cap,i,h2.trans k1,k2,k3,by rw[show (g.all f).esz r=g.esz r from h3];exact k4⟩
  | undef=>obtain rfl:=h;trivial
  | fn q cs =>
   obtain⟨rfl,rfl⟩:=h;obtain⟨vs,e,k⟩:=hv;refine⟨vs,e,?_⟩;have key:∀(l:List rF) (m:List Value),(∀n∈l,((rH S.en n).isSome||wM s.en n)=true)->rU (λn u=>dom S'.en n/\(∃b,g.loc n=.pointer (some ⟨b,0,none⟩))/\u=g.loc n) l m ->
    rU (λn u=>dom E n/\(∃b,(g.all f).loc n=.pointer (some ⟨b,0,none⟩))/\u=(g.all f).loc n) l m:=by
    intro l
    induction l with
    | nil=>intro m _ h;cases m with
     | nil=>trivial
     | cons _ _=>exact h.elim
    | cons n l ih=>intro m hl h;cases m with
     | nil=>exact h.elim
     | cons u m =>
      obtain⟨hd,⟨b,hb⟩,hu⟩:=h.1;obtain⟨h1,h2,_⟩:=hdm n (hl n (by simp)) hd;exact⟨⟨h1,⟨b,h2.trans hb⟩,hu.trans h2.symm⟩,ih m (λk hk=>hl k (by simp[hk])) h.2⟩
   exact key cs _ (λn hn=>all_eq_true.1 ho n hn) k
 have g2:∀c x y,An S' (s.sigma S') c x y->ok c=true->uD (dom E) y:=by
  intro c x y h ho;cases c with
  | dat c=>obtain⟨b,_,rfl⟩:=h;exact CT.cell_in c b
  | own n =>
   obtain⟨rfl,_,_⟩:=h;obtain⟨e,m,hx⟩:=DD hnd ho;intro k hk;simp[Cell.refs]at hk;subst hk;exact hdome k _ hx
  | same n=>obtain⟨rfl,rfl⟩:=h;intro k hk;simp[Cell.refs]at hk;subst hk;exact hdmE k ho
  | box n o=>obtain⟨rfl,rfl⟩:=h;intro k hk;simp[Cell.refs]at hk;subst hk;exact hdmE k ho
  | nil=>obtain⟨rfl,rfl⟩:=h;exact sn rfl
  | kid r j e=>obtain⟨xs,rfl,rfl⟩:=h;intro k hk;simp[Cell.refs]at hk;subst hk;exact hdmE k ho
  | undef=>obtain rfl:=h;exact sn rfl
  | fn q cs=>obtain⟨rfl,rfl⟩:=h;intro k hk;exact hdmE k (all_eq_true.1 ho k hk)
 have hokbox:∀n ss,rH s.en n=some (.box ss)->ss.all ok=true:=λn ss h=>by
  have:=all_eq_true.1 hoke _ (te h);exact this
 have hlook:∀n e,rH E n=some e ->
  (∃c m x xs,rH s.en n=some (.root c m)/\e=.root c m xs/\rH (s.sigma S') n=some x/\vp S' c m x=some xs/\DM w S' g c m x xs (f n)) \/
  (∃c m m' xs,rH s.en n=some (.keep c m)/\e=.root c m xs/\rH S'.en n=some (.root c m' xs)/\(m=true->m'=true)) \/
  (∃ss cs cs',rH s.en n=some (.box ss)/\e=.box cs'/\rH S'.en n=some (.box cs)/\yn S' (s.sigma S') ss cs cs') \/
  (rH s.en n=none/\((rH M n≠none/\e=.gone)\/(rH M n=none/\rH S.en n=some e/\rH S'.en n=some e))) \/
  (∃c xs,rH s.en n=some (.tree c)/\e=.tree c xs/\rH S'.en n=some (.tree c xs)):=by
  intro n e he;rw[hEd,sH]at he;have h0:=hen n
  unfold xn at h0;cases hs:rH s.en n with
  | none =>
   rw[hs]at h0;simp only at h0;rw[h0]at he;refine .inr (.inr (.inr (.inl ⟨rfl,?_⟩)));rw[sH]at he;cases hM:rH M n with
   | some y=>rw[hM]at he;cases he;exact .inl ⟨(λh=>by cases h),hT.gone n e hM⟩
   | none =>
    rw[hM]at he;have he:rH S.en n=some e:=he
    exact .inr ⟨rfl,he,(hT.en n hM (by unfold dom;rw[he];simp)).trans he⟩
  | some x =>
   rw[hs]at h0;cases x with
   | root c m =>
    obtain⟨x,xs,h1,h2,h3⟩:=h0;rw[h3]at he;cases he;have:=hf n
    unfold Bz at this;rw[hs]at this;obtain⟨x',xs',k1,k2,k3⟩:=this;rw[h1]at k1;cases k1;rw[h2]at k2;cases k2;exact .inl ⟨c,m,x,xs,rfl,rfl,h1,h2,k3⟩
   | keep c m =>
    obtain⟨xs,h2,h3⟩:=h0;rw[h3]at he;cases he;obtain⟨m',k1,k2⟩:=H1 h2;exact .inr (.inl ⟨c,m,m',xs,rfl,rfl,k1,k2⟩)
   | box ss =>
    obtain⟨cs,cs',h1,h2,h3⟩:=h0;rw[h2]at he;cases he;exact .inr (.inr (.inl ⟨ss,cs,cs',rfl,rfl,h1,h3⟩))
   | tree c =>
    obtain⟨xs,h1,h2⟩:=h0;rw[h2]at he;cases he;exact .inr (.inr (.inr (.inr ⟨c,xs,rfl,rfl,h1⟩)))
 have hbox_old:∀n cs,rH S.en n=some (.box cs)->∀c∈cs,uD (dom S.en) c:=hcS.box;have hMS:MS w0 T N E (g.all f) w:=by
  refine MS.rename (en:=S'.en) hI.ms rfl (λn e he=>?_) (z0 S S' M s) (λn e he ha=>?_) (λn e he ht=>?_) (λn m k h h'=>z0.inj hσ hT.freed h h') (λn hn=>?_)
  · rcases hlook n e he with ⟨c,m,x,xs,h1,rfl,h2,h3,h4⟩|⟨c,m,m',xs,h1,rfl,h2,h3⟩|⟨ss,cs,cs',h1,rfl,h2,h3⟩|⟨h1,h2⟩|⟨c,xs,h1,rfl,h2⟩
    · exact⟨h4.esz,h4.rep,h4.imm,h4.nod⟩
    · obtain⟨k1,k2,k3,k4⟩:=tD hI.mem h2;obtain⟨e1,e2,e3,e4⟩:=hold n (by unfold dom;rw[h2];simp) (λe m h=>by rw[h1]at h;cases h);refine⟨e2.trans k1,?_,?_,λhm=>?_⟩
      · show ug w c xs (f n).loc (f n).top (f n).nest;rw[e1,e3,e4];exact k2
      · show ∀b∈(f n).nest,g.I b;rw[e4];exact k3
      · show (f n).nest.Nodup;rw[e4];exact k4 (h3 hm)
    · obtain⟨b,us,k1,k2,k3,k4⟩:=hI.mem.rep n _ h2;obtain⟨e1,e2,e3,e4⟩:=hold n (by unfold dom;rw[h2];simp) (λe m h=>by rw[h1]at h;cases h);exact⟨b,us,e3.trans k1,e1.trans k2,k3,AP g1 h3 (hokbox n ss h1) k4⟩
    · rcases h2 with ⟨_,rfl⟩|⟨_,h3,h4⟩
      · trivial
      · have hrep:=hI.mem.rep n e h4;obtain⟨e1,e2,e3,e4⟩:=hold n (by unfold dom;rw[h4];simp) (λe m h=>by rw[h1]at h;cases h);cases e with
        | gone=>trivial
        | fwd c xs=>show yR _ w (.sl c) xs (f n).loc;rw[e1];exact hrep
        | root c m xs =>
         obtain⟨k1,k2,k3,k4⟩:=hrep;refine⟨e2.trans k1,?_,?_,λhm=>?_⟩
         · show ug w c xs (f n).loc (f n).top (f n).nest;rw[e1,e3,e4];exact k2
         · show ∀b∈(f n).nest,g.I b;rw[e4];exact k3
         · show (f n).nest.Nodup;rw[e4];exact k4 hm
        | box cs =>
         obtain⟨b,us,k1,k2,k3,k4⟩:=hrep;refine⟨b,us,e3.trans k1,e1.trans k2,k3,?_⟩;exact rU.imp (λ_ _ h=>h.mono hle) (wO k4 (hbox_old n cs h3))
        | frz c xs =>
         obtain⟨k1,k2,k3,k4,k5⟩:=hrep;refine⟨e2.trans k1,e3.trans k2,?_,?_,?_⟩
         · show CT.Rep w (.sl c) xs (f n).loc (f n).nest;rw[e1,e4];exact k3
         · show ∀b∈(f n).nest,g.I b;rw[e4];exact k4
         · show (f n).nest.Nodup;rw[e4];exact k5
        | tree c xs =>
         obtain⟨k1,k2,k3⟩:=hrep;refine⟨e2.trans k1,?_,?_⟩
         · show wN w c xs (f n).loc (f n).nest (g.rows n);rw[e1,e4];exact k2
         · show (f n).nest.Nodup;rw[e4];exact k3
    · obtain⟨k1,k2,k3⟩:=hI.mem.rep n _ h2;obtain⟨e1,e2,e3,e4⟩:=hold n (by unfold dom;rw[h2];simp) (λe m h=>by rw[h1]at h;cases h);refine⟨e2.trans k1,?_,?_⟩
      · show wN w c xs (f n).loc (f n).nest (g.rows n);rw[e1,e4];exact k2
      · show (f n).nest.Nodup;rw[e4];exact k3
  · have hkeep:∀{k:rF} {e':Entry},rH S'.en n=some e'->(e.alive=true->e'.alive=true)->(e.deep=true->e'.deep=true)->(∀e m,rH s.en n≠some (.root e m))->z0 S S' M s n n ->
     ((g.all f).top n=none/\(g.all f).nest n=[])\/∃k f',rH S'.en k=some f'/\(e.alive=true->f'.alive=true)/\(e.deep=true->f'.deep=true)/\(g.all f).top n=g.top k/\(∀b∈(g.all f).nest n,b∈g.nest k)/\z0 S S' M s n k:=by
     intro _ e' h1 h2 h3 h4 h5;obtain⟨e1,e2,e3,e4⟩:=hold n (by unfold dom;rw[h1];simp) h4;exact .inr ⟨n,e',h1,h2,h3,e3,λb hb=>by rw[←e4];exact hb,h5⟩
    rcases hlook n e he with ⟨c,m,x,xs,h1,rfl,h2,h3,h4⟩|⟨c,m,m',xs,h1,rfl,h2,h3⟩|⟨ss,cs,cs',h1,rfl,h2,h3⟩|⟨h1,h2⟩|⟨c,xs,h1,rfl,h2⟩
    · rcases h4.old with ⟨k1,k2⟩|⟨r,m',ys,k1,k2,k3,k4,k5⟩
      · exact .inl ⟨k1,k2⟩
      · exact .inr ⟨r,_,k2,λ_=>rfl,k5,k3,k4,.inl ⟨c,m,x,c,m',ys,h1,h2,k1,k2⟩⟩
    · exact hkeep (k:=n) h2 (λ_=>rfl) h3 (λe m h=>by rw[h1]at h;cases h) (.inr (.inl ⟨rfl,c,m,h1⟩))
    · exact hkeep (k:=n) h2 (λ_=>rfl) (λh=>by cases h) (λe m h=>by rw[h1]at h;cases h) (.inr (.inr (.inl ⟨rfl,ss,cs,h1,h2⟩)))
    · rcases h2 with ⟨_,rfl⟩|⟨hM,h3,h4⟩
      · rcases ha with ha|ha<;>cases ha
      · exact hkeep (k:=n) h4 id id (λe m h=>by rw[h1]at h;cases h) (.inr (.inr (.inr ⟨rfl,h1,hM,by unfold dom;rw[h3];simp⟩)))
    · rcases ha with ha|ha<;>cases ha
  · rcases hlook n e he with ⟨c,m,x,xs,h1,rfl,h2,h3,h4⟩|⟨c,m,m',xs,h1,rfl,h2,h3⟩|⟨ss,cs,cs',h1,rfl,h2,h3⟩|⟨h1,h2⟩|⟨c,xs,h1,rfl,h2⟩
    · cases ht
    · cases ht
    · cases ht
    · rcases h2 with ⟨_,rfl⟩|⟨hM,h3,h4⟩
      · cases ht
      · exact⟨⟨e,h4,ht⟩,(hold n (by unfold dom;rw[h4];simp) (λe m h=>by rw[h1]at h;cases h)).2.2.2⟩
    · exact⟨⟨_,h2,rfl⟩,(hold n (by unfold dom;rw[h2];simp) (λe m h=>by rw[h1]at h;cases h)).2.2.2⟩
  · show ((f n).loc).oneCell'=true;have:=hf n
    unfold Bz at this;split at this
    · obtain⟨x,xs,_,_,h⟩:=this;exact h.one
    · by_cases hd:dom S'.en n
      · rw[(this.1 hd).1];exact hI.mem.one n hd
      · rw[this.2 hd];rfl
 have htmv:∀t,(∃agg ss cs,rH s.tm t=some (agg,ss)/\yN agg (S'.tmp t)=true/\(s.over ⟨W++S.tm,M++S.en⟩ d).tmp t=w9 agg cs/\yn S' (s.sigma S') ss (S'.tmp t).cells cs) \/
  (s.over ⟨W++S.tm,M++S.en⟩ d).tmp t=.undef\/(S'.tmp t=S.tmp t/\(s.over ⟨W++S.tm,M++S.en⟩ d).tmp t=S.tmp t):=by
  intro t;have h0:=htm t
  unfold By at h0;unfold St.tmp;rw[hTd,sH];cases hs:rH s.tm t with
  | some q =>
   obtain⟨agg,ss⟩:=q;rw[hs]at h0;obtain⟨h1,cs,h2,h3⟩:=h0;rw[h2];exact .inl ⟨agg,ss,cs,rfl,h1,rfl,h3⟩
  | none =>
   rw[hs]at h0;simp only at h0;rw[h0,sH];cases hW:rH W t with
   | some v=>obtain rfl:=hT.undef t v hW;exact .inr (.inl rfl)
   | none=>exact .inr (.inr ⟨hT.tm t hW,rfl⟩)
 have hoktm:∀t agg ss,rH s.tm t=some (agg,ss)->ss.all ok=true:=λt agg ss h=>by
  have:=all_eq_true.1 hokt _ (te h);exact this
 refine⟨g.all f,⟨by rw[hE];exact hMS.mem,by rw[hE];exact hMS.since,λt=>?_,hI.plain⟩,hle,⟨λt=>?_,?_⟩⟩
 · rw[hE];rcases htmv t with ⟨agg,ss,cs,h1,h2,h3,h4⟩|h|⟨h1,h2⟩
   · rw[h3];have hv:=hI.tmps t
     have hal:=hoktm t agg ss h1;cases hx:S'.tmp t with
     | cell c =>
      rw[hx]at h2 h4 hv;cases agg with
      | true=>cases h2
      | false =>
       have hl:=CF h4;have:=AP (vs:=[a.tmps.getD t undef]) g1 h4 hal (show rU _ [c] _ from⟨hv,trivial⟩)
       cases cs with
       | nil=>simp[AV.cells]at hl
       | cons y ys=>cases ys with
        | nil=>exact this.1
        | cons _ _=>simp[AV.cells]at hl
     | agg ds =>
      rw[hx]at h2 h4 hv;cases agg with
      | false=>cases h2
      | true =>
       obtain⟨vs,e,k⟩:=hv;have:=AP g1 h4 hal k
       have hav:w9 true cs=.agg cs:=by cases cs<;>rfl
       rw[hav];exact⟨vs,e,this⟩
     | tup l=>rw[hx]at h2;cases agg<;>cases h2
   · rw[h];exact trivial
   · rw[h2];have hv:=hI.tmps t
     rw[h1]at hv;exact (hv.restrict (hcS.tmp t)).mono hle
 · rw[hE];rcases htmv t with ⟨agg,ss,cs,h1,h2,h3,h4⟩|h|⟨h1,h2⟩
   · rw[h3];have hin:=DN g2 h4 (hoktm t agg ss h1)
     have:=Db (agg:=agg) hin;cases hav:w9 agg cs with
     | cell c=>rw[hav]at this;exact this
     | agg ds=>rw[hav]at this;exact this
     | tup l=>rw[hav]at this;exact this.elim
   · rw[h];exact sn rfl
   · rw[h2];exact (hcS.tmp t).mono hdomS
 · intro n cs hn c hc;rw[hE]at hn ⊢;rcases hlook n _ hn with ⟨_,_,_,_,_,h,_⟩|⟨_,_,_,_,_,h,_⟩|⟨ss,cs1,cs',h1,h,h2,h3⟩|⟨h1,h2⟩|⟨_,_,_,h,_⟩
   · cases h
   · cases h
   · cases h;exact DN g2 h3 (hokbox n ss h1) c hc
   · rcases h2 with ⟨_,h⟩|⟨_,h3,_⟩
     · cases h
     · exact (hbox_old n cs h3 c hc).mono hdomS
   · cases h
end Go.V
namespace Go.V
variable {P:Program} {w0:World} {T N:Nat->Prop} {S S' S1 S2:St} {g g1:Gh} {w w1 w':World} {a a':Act} {G:tN} {nt:Nat} {ann:List (Nat×rT)}

theorem yh.refl (S:St):yh S S:=⟨⟨[],rfl⟩,⟨[],rfl⟩⟩
theorem yh.trans (h:yh S S1) (k:yh S1 S2):yh S S2:=by
 obtain⟨⟨x,hx⟩,hy⟩:=h;obtain⟨⟨z,hz⟩,ht⟩:=k;exact⟨⟨z++x,by rw[hz,hx,append_assoc]⟩,Bv ht hy⟩
theorem At.trans {D0:rF->Prop} {g0:Gh} {w00:World} (hle:Le D0 g0 w00 (dom S.en) g w) (h:At w0 T N nt (dom S.en) g w S' a' w'):At w0 T N nt D0 g0 w00 S' a' w':=by
 obtain⟨g',h1,h2,h3⟩:=h;exact⟨g',h1,h2,hle.trans h3⟩
theorem CG {α β:Type} {step:α->Option (α⊕β)} {x:α} {y:β} (h:loop step x=some y):∃k,vu step k x=some y:=by
 unfold loop at h;split at h
 · exact⟨_,h⟩
 · cases h

theorem vJ:∀{l:List (rF×vi)} {n:rF} {e:Entry},rH (uz l) n=some e->e=.gone
 | [],n,e,h=>by cases h
 | (k,.box ss)::l,n,e,h=>by
  simp only[uz,s8]at h;split at h
  · cases h;rfl
  · exact vJ h
 | (k,.keep c m)::l,n,e,h=>by
  simp only[uz,s8]at h;split at h
  · cases h;rfl
  · exact vJ h
 | (k,.root c m)::l,n,e,h=>vJ (l:=l) h
 | (k,.tree c)::l,n,e,h=>by
  simp only[uz,s8]at h;split at h
  · cases h;rfl
  · exact vJ h
theorem z6:∀{l:List (rF×Cell)} {n:rF} {e:Entry},rH (wm l) n=some e->e=.gone
 | [],n,e,h=>by cases h
 | (k,x)::l,n,e,h=>by
  simp only[wm]at h;split at h
  · rw[s8]at h;split at h
    · cases h;rfl
    · exact z6 h
  · exact z6 h
theorem FM {L:rT} {n:rF} {e:Entry} (h:rH (L.mods S) n=some e):e=.gone:=by
 unfold rT.mods at h;rw[sH]at h;split at h
 · rename_i hx;cases h;exact vJ hx
 · rw[sH]at h;split at h
   · rename_i hx;cases h;exact vJ hx
   · rw[sH]at h;split at h
     · rename_i hx;cases h;cases hb:L.back with
       | none=>rw[hb]at hx;cases hx
       | some s=>rw[hb]at hx;exact vJ hx
     · exact z6 h
theorem Ga {l:List (rF×vi)} {n:rF} (h:wM l n=true):n∈(uz l).map (·.1):=by
 induction l with
 | nil=>cases h
 | cons p l ih =>
  obtain⟨k,x⟩:=p;simp only[wM,List.any_cons,Bool.or_eq_true,aT]at h;rcases h with ⟨h1,h2⟩|h
  · obtain rfl:=Nat.eq_of_beq_eq_true h1;cases x with
    | root c m=>cases h2
    | keep c m=>simp[uz]
    | tree c=>simp[uz]
    | box ss=>simp[uz]
  · have:=ih h;cases x with
    | root c m=>exact this
    | keep c m=>exact mem_cons_of_mem _ this
    | tree c=>exact mem_cons_of_mem _ this
    | box ss=>exact mem_cons_of_mem _ this
theorem F9 {l:List (rF×Cell)} {p:rF×Cell} {r:rF} (hp:p∈l) (hr:vj p.2=some r):r∈(wm l).map (·.1):=by
 induction l with
 | nil=>simp at hp
 | cons q l ih =>
  obtain⟨k,x⟩:=q;simp only[wm];rcases mem_cons.1 hp with rfl|hp
  · simp only at hr;rw[hr];simp
  · split
    · exact mem_cons_of_mem _ (ih hp)
    · exact ih hp
theorem BR {L:rT} {n:rF} (h:n∈(uz L.head.en).map (·.1)\/n∈(uz L.out.en).map (·.1)\/n∈(Fr L.back).map (·.1)\/n∈(wm (L.head.sigma S)).map (·.1)):rH (L.mods S) n≠none:=by
 rw[←xl];unfold rT.mods;simp only[List.map_append,mem_append];rcases h with h|h|h|h
 · exact .inl h
 · exact .inr (.inl h)
 · exact .inr (.inr (.inl h))
 · exact .inr (.inr (.inr h))
theorem Er:∀{c:Code} {t:Nat} {v:AV},(t,v)∈ye c->v=.undef:=by
 have hf:∀(l:List (Nat×Oper)) (t:Nat) (v:AV),(t,v)∈uW l->v=.undef:=by
  intro l
  induction l with
  | nil=>intro t v h;simp[uW]at h
  | cons p l ih =>
   intro t v h;obtain⟨i,o⟩:=p;simp only[uW]at h;split at h
   · rcases mem_cons.1 h with h|h
     · exact (Prod.mk.inj h).2
     · exact ih t v h
   · exact ih t v h
 intro c
 induction c with
 | region id ops draw=>intro t v h;exact hf _ t v h
 | seq x y ihx ihy=>intro t v h;exact (mem_append.1 h).elim ihx ihy
 | cond o x y ihx ihy=>intro t v h;exact (mem_append.1 h).elim ihx ihy
 | block i x ih=>intro t v h;exact ih h
 | loop x ih=>intro t v h;exact ih h
 | _=>intro t v h;simp[ye]at h
theorem wQ:∀(l:List (rF×vi)) (z:rN (tH l)),(v5 l z).map (·.1)=l.map (·.1)
 | [],z=>rfl
 | (n,.root e m)::l,z=>congrArg (n :: ·) (wQ l _)
 | (n,.keep e m)::l,z=>congrArg (n :: ·) (wQ l _)
 | (n,.box ss)::l,z=>congrArg (n :: ·) (wQ l _)
 | (n,.tree e)::l,z=>congrArg (n :: ·) (wQ l _)
theorem Cm:∀(l:List (Nat×Bool×List tG)) (R:List Cs) (z:rN (yl l R)),(vB l R z).1.map (·.1)=l.map (·.1)
 | [],R,z=>rfl
 | (t,agg,ss)::l,R,z=>congrArg (t :: ·) (Cm l R _)
theorem BA {α:Type} {old nw:List (Nat×α)}:D8 old (nw++old)=nw:=by
 unfold D8;rw[List.length_append,Nat.add_sub_cancel,List.take_left]
theorem Es {α:Type} {l:List (Nat×α)} {n:Nat} (h:∀p∈l,p.1≠n):rH l n=none:=by
 cases hf:rH l n with
 | none=>rfl
 | some x=>exact absurd rfl (h _ (te hf))
def rT.has (L:rT) (s:tg):Prop:=s=L.head\/s=L.out\/L.back=some s
theorem rT.has_ok {L:rT} {s:tg} {body:Code} (h:L.has s) (hk:L.okAt body S=true):s.okAt S=true:=by
 simp only[rT.okAt,aT]at hk;obtain⟨h1,h2,h3,h4⟩:=hk;rcases h with rfl|rfl|h
 · exact h1
 · exact h2
 · rw[h]at h4;exact h4
theorem rT.has_kept {L:rT} {s:tg} (h:L.has s) {n:rF} (hn:wM s.en n=true):rH (L.mods S) n≠none:=by
 have:=Ga hn;rcases h with rfl|rfl|h
 · exact BR (.inl this)
 · exact BR (.inr (.inl this))
 · exact BR (.inr (.inr (.inl (by rw[h];exact this))))
theorem zZ.entry {L:rT} {body:Code} (hk:L.okAt body S=true):zZ S S (L.mods S) (ye body) L.head:=by
 refine⟨λn e h=>FM h,λt v h=>Er (te h),λn h=>h,λn _ _=>rfl,λt _=>rfl,λn h=>rT.has_kept (.inl rfl) h,rT.has_ok (.inl rfl) hk,?_⟩;refine all_eq_true.2 λp hp=>?_;split
 · rfl
 · rename_i r hr;split
   · rfl
   · have:=BR (L:=L) (S:=S) (.inr (.inr (.inr (F9 hp hr))));cases h:rH (L.mods S) r with
     | none=>exact absurd h this
     | some _=>rfl
theorem zZ.behind {L:rT} {body:Code} {d:L.head.den} {s:tg} (hk:L.okAt body S=true) (hs:L.has s) (hx:yh (L.head.over (L.base body S) d) S') (hn:L.okNew body S (L.head.over (L.base body S) d) S'=true) (hf:Go.V.freed S (L.mods S) (s.sigma S')=true) :
 zZ S S' (L.mods S) (ye body) s:=by
 obtain⟨⟨nw,hen⟩,nt,htm⟩:=hx;have hE:S'.en=nw++((L.head.st d).en++(L.mods S++S.en)):=hen
 have hT:S'.tm=nt++((L.head.st d).tm++(ye body++S.tm)):=htm;have hk':=hk
 simp only[rT.okAt,aT]at hk';have hk1:=hk'.1
 simp only[tg.okAt,aT]at hk1;simp only[rT.okNew,aT]at hn;rw[hen,htm,BA,BA]at hn;refine⟨λn e h=>FM h,λt v h=>Er (te h),λn h=>?_,λn hm hd=>?_,λt ht=>?_,λn h=>rT.has_kept hs h,rT.has_ok hs hk,hf⟩
 · rw[hE];exact vq _ _ _ (vq _ _ _ (vq _ _ _ h))
 · rw[hE,sH,Es λp hp he=>?_]
   · simp only;rw[sH];have:rH (L.head.st d).en n=none:=by
      cases hf:rH (L.head.st d).en n with
      | none=>rfl
      | some y =>
       exfalso;have h1:n∈(v5 L.head.en (vB L.head.tm (tH L.head.en) d).2).map (·.1):=xl.2 (by rw[show rH (v5 L.head.en (vB L.head.tm (tH L.head.en) d).2) n=some y from hf];simp)
       rw[wQ]at h1;obtain⟨p,hp,rfl⟩:=mem_map.1 h1;obtain⟨k,x⟩:=p;cases x with
       | root e m=>exact hd (vD hk1.1 hp)
       | keep e m=>exact rT.has_kept (S:=S) (L:=L) (.inl rfl) (CE (xo hk1.2.1 hp) (by simp)) hm
       | tree e=>exact rT.has_kept (S:=S) (L:=L) (.inl rfl) (CE (xo hk1.2.1 hp) (by simp)) hm
       | box ss=>exact rT.has_kept (S:=S) (L:=L) (.inl rfl) (CE (xo hk1.2.1 hp) (by simp)) hm
     rw[this];simp only;rw[sH,hm]
   · have:=all_eq_true.1 hn.1 p hp;rw[he]at this;split at this
     · rename_i h;exact hd h
     · rw[hm]at this;cases this
 · unfold St.tmp;rw[hT,sH,Es λp hp he=>?_]
   · simp only;rw[sH];have:rH (L.head.st d).tm t=none:=by
      cases hf:rH (L.head.st d).tm t with
      | none=>rfl
      | some y =>
       exfalso;have h1:t∈(vB L.head.tm (tH L.head.en) d).1.map (·.1):=xl.2 (by rw[show rH (vB L.head.tm (tH L.head.en) d).1 t=some y from hf];simp)
       have h1:t∈L.head.tm.map (·.1):=(Cm L.head.tm (tH L.head.en) d)▸h1;obtain⟨p,hp,rfl⟩:=mem_map.1 h1;have:=all_eq_true.1 hk'.2.2.1 p hp
       rw[ht]at this;cases this
     rw[this];simp only;rw[sH,ht]
   · have:=all_eq_true.1 hn.2 p hp;rw[he,ht]at this;cases this
theorem A0 {A:Type} {L:rT} {body:Code} {H:St} {s:tg} {k:s.den->Option A} {r:A} (h:L.leave body S H s S' k=some r) :
 rY (s.seals S')=true/\L.okNew body S H (s.shut S')=true/\freed S (L.mods S) (s.sigma (s.shut S'))=true/\∃d,s.read (s.shut S')=some d/\k d=some r:=by
 unfold rT.leave at h;cases hc:(rY (s.seals S')&&(L.okNew body S H (s.shut S')&&freed S (L.mods S) (s.sigma (s.shut S'))))with
 | false=>rw[hc]at h;cases h
 | true =>
  rw[hc]at h;simp only[aT,cT]at hc h;cases hd:s.read (s.shut S')with
  | none=>rw[hd]at h;cases h
  | some d=>rw[hd]at h;exact⟨hc.1,hc.2.1,hc.2.2,d,rfl,h⟩
theorem DO {s:tg} {L:rT} {body:Code} {d:s.den}:yh S (s.over (L.base body S) d):=by
 refine⟨⟨(s.st d).en++L.mods S,?_⟩,⟨(s.st d).tm++ye body,?_⟩⟩
 · show (s.st d).en++(L.mods S++S.en)=_;rw[append_assoc]
 · show (s.st d).tm++(ye body++S.tm)=_;rw[append_assoc]
end Go.V
namespace Go.V
variable {P:Program} {w0:World} {T N:Nat->Prop} {S S' S1 S2:St} {g g1:Gh} {w w1 w':World} {a a':Act} {G:tN} {nt:Nat} {ann:List (Nat×rT)}

structure Jf (w0:World) (T N:Nat->Prop) (nt:Nat) (S:St) (g:Gh) (w:World) {A:Type} (K:zR A) (r:A) (Q:Exit->Act->World->Prop):Prop where
 n:∀S' a' w',sV S'->yh S S'->At w0 T N nt (dom S.en) g w S' a' w'->K.n S'=some r->Q .normal a' w'
 x:∀i S' a' w',sV S'->yh S S'->At w0 T N nt (dom S.en) g w S' a' w'->K.x i S'=some r->Q (.exit i) a' w'
 r:∀S' a' w',sV S'->yh S S'->At w0 T N nt (dom S.en) g w S' a' w'->K.r S'=some r->Q .ret a' w'
def xY (P:Program) (G:tN) (ann:List (Nat×rT)) (nt:Nat) (c:Code):Prop :=
 ∀{A:Type} {w0:World} {T N:Nat->Prop} {S:St} {K:zR A} {r:A} {g:Gh} {w:World} {a:Act} {Q:Exit->Act->World->Prop},wJ nt c=true->sC w0 T N S g w a->nt<=a.tmps.size->sV S->wF G ann c S K=some r ->
  Jf w0 T N nt S g w K r Q->c.wp P Q a w
theorem u4 {α β:Type} (step:α->Option (α⊕β)) (k:Nat) (x:α):vu step (k+1) x=(step x).bind (Sum.elim (vu step k) some):=by
 show (step x).bind _=_
 congr 1
 funext v
 cases v<;>rfl
theorem zJ {S:St}:∀{l:List tG} {xs:List Cell},su S.en false true (x8 S l xs)
 | [],xs=>by intro p hp;cases xs<;>simp[x8]at hp
 | s::l,[]=>by intro p hp;cases s<;>simp[x8]at hp
 | s::l,x::xs=>by
  have ih:=zJ (S:=S) (l:=l) (xs:=xs);have key:∀{c:CT} {x:Cell},su S.en false true (x8 S (.dat c::l) (x::xs)):=by
   intro c x;cases c with
   | sl e=>cases x with
    | own r =>
     intro p hp;simp only[x8]at hp;rcases mem_append.1 hp with hp|hp
     · split at hp
       · rename_i e' m ys hr;obtain rfl:=mem_singleton.1 hp;exact .inl ⟨e',m,ys,hr,(λh=>by cases h),rfl⟩
       · simp at hp
     · exact ih p hp
    | _=>exact ih
   | _=>exact ih
  cases s with
  | dat c=>exact key
  | _=>exact ih
theorem BS {s:tg} {S:St}:su S.en false true (s.seals S):=by
 refine su.append (λp hp=>?_) (λp hp=>?_)
 · obtain⟨q,_,hp⟩:=List.mem_flatMap.1 hp;exact zJ p hp
 · obtain⟨q,_,hp⟩:=List.mem_flatMap.1 hp;split at hp
   · split at hp
     · exact zJ p hp
     · simp at hp
   · simp at hp
theorem Et {en l:List (rF×Entry)} {deep:Bool} (hu:su en deep true l) (n:rF) (cs:List Cell):(n,Entry.box cs)∉l:=λh=>by
 rcases hu _ h with ⟨_,_,_,_,_,he⟩|⟨_,_,_,_,he⟩<;>cases he
def H2 (en l:List (rF×Entry)):Prop:=∀p∈l,∃e xs,rH en p.1=some (.root e true xs)/\p.2=.frz e xs
theorem Ie {S:St} {l:List rF}:H2 S.en (S.cold l):=by
 intro p hp;obtain⟨r,_,hp⟩:=List.mem_flatMap.1 hp;split at hp
 · rename_i e xs hn;obtain rfl:=mem_singleton.1 hp;exact⟨e,xs,hn,rfl⟩
 · simp at hp
theorem MS.coldAll {en:List (rF×Entry)} (h:MS w0 T N en g w):∀{l:List (rF×Entry)},H2 en l->rY l=true->∃g',MS w0 T N (l++en) g' w/\Le (dom en) g w (dom (l++en)) g' w
 | [],_,_=>⟨g,h,Le.refl _ _ _⟩
 | (n,E)::l,hu,hd=>by
  obtain⟨h1,h2⟩:=tW hd;obtain⟨g1,hM,hle⟩:=h.coldAll (l:=l) (λp hp=>hu p (mem_cons_of_mem _ hp)) h2;obtain⟨e,xs,hn,he⟩:=hu (n,E) mem_cons_self;obtain rfl:E=.frz e xs:=he;obtain⟨g2,hM2,hle2,_⟩:=hM.frz (n:=n) ((sZ h1).trans hn);exact⟨g2,hM2,hle.trans hle2⟩
theorem If {c:Code} {l:List (rF×Entry)} {A:Type} {K:zR A} {r:A} {Q:Exit->Act->World->Prop} {a:Act} (hI:sC w0 T N S g w a) (hcS:sV S) (hg:Jf w0 T N nt S g w K r Q)
 (hm:∃g1,MS w0 T N (l++S.en) g1 w/\Le (dom S.en) g w (dom (l++S.en)) g1 w) (hnb:∀n cs,(n,Entry.box cs)∉l)
 (k:∀g1,sC w0 T N (S.more l) g1 w a->sV (S.more l)->Jf w0 T N nt (S.more l) g1 w K r Q->c.wp P Q a w):c.wp P Q a w:=by
 obtain⟨g1,hM,hle⟩:=hm;have hdom:∀n,dom S.en n->dom (S.more l).en n:=λn h=>wY h
 have hI1:sC w0 T N (S.more l) g1 w a:=⟨hM.mem,hM.since,λt=>(hI.tmps t).mono hle,hI.plain⟩;have hc1:sV (S.more l):=⟨λt=>(hcS.tmp t).mono hdom,λn cs h=>by
  have h:rH (l++S.en) n=some (.box cs):=h;rw[sH]at h;split at h
  · rename_i y hy;cases h;exact absurd (te hy) (hnb n cs)
  · exact λc hc=>(hcS.box n cs h c hc).mono hdom⟩
 have hx:yh S (S.more l):=⟨⟨_,rfl⟩,⟨[],rfl⟩⟩;exact k g1 hI1 hc1 ⟨λS' a' w' h1 h2 h3 h4=>hg.n S' a' w' h1 (hx.trans h2) (At.trans hle h3) h4,λi S' a' w' h1 h2 h3 h4=>hg.x i S' a' w' h1 (hx.trans h2) (At.trans hle h3) h4,λS' a' w' h1 h2 h3 h4=>hg.r S' a' w' h1 (hx.trans h2) (At.trans hle h3) h4⟩
theorem H3 {l:List (rF×Entry)} {D:rF->Prop} {H:St} (hu:su S'.en false true l) (hd:rY l=true) (hc:sV S') (he:yh H S') (hat:At w0 T N nt D g w S' a' w') :
 sV (S'.more l)/\yh H (S'.more l)/\At w0 T N nt D g w (S'.more l) a' w':=by
 obtain⟨g1,hI,hn,hle0⟩:=hat;obtain⟨g2,hM,hle,_⟩:=hI.ms.useAll hu hd;have hdom:∀n,dom S'.en n->dom (S'.more l).en n:=λn h=>wY h
 refine⟨⟨λt=>(hc.tmp t).mono hdom,λn cs h=>?_⟩,he.trans ⟨⟨_,rfl⟩,⟨[],rfl⟩⟩,g2,⟨hM.mem,hM.since,λt=>(hI.tmps t).mono hle,hI.plain⟩,hn,hle0.trans hle⟩;have h:rH (l++S'.en) n=some (.box cs):=h
 rw[sH]at h;split at h
 · rename_i y hy;cases h;exact absurd (te hy) (Et hu n cs)
 · exact λc hc'=>(hc.box n cs h c hc').mono hdom
theorem CH {L:rT} {body:Code} (hb:xY P G ann nt body) (hbel:wJ nt body=true) (hk:L.okAt body S=true) (hcS:sV S) {β:Type} {KX:L.head.den->Nat->St->Option (L.head.den⊕β)} {KR:L.head.den->St->Option (L.head.den⊕β)} {y:β}
 {Q:Exit->Act->World->Prop} {step:L.head.den->Option (L.head.den⊕β)}
 (hstep:∀d,step d=wF G ann body (L.head.over (L.base body S) d) ⟨λS'=>L.leave body S (L.head.over (L.base body S) d) L.head S' λd=>some (.inl d),KX d,KR d⟩)
 (hx:∀d i S' a' w' v,sV S'->yh (L.head.over (L.base body S) d) S'->At w0 T N nt (dom S.en) g w S' a' w'->KX d i S'=some v->(∀d',v≠.inl d')/\(v=.inr y->Q (.exit i) a' w'))
 (hr:∀d S' a' w' v,sV S'->yh (L.head.over (L.base body S) d) S'->At w0 T N nt (dom S.en) g w S' a' w'->KR d S'=some v->(∀d',v≠.inl d')/\(v=.inr y->Q .ret a' w'))
 (hkx:True):∀(k:Nat) (d:L.head.den) (a':Act) (w':World),vu step k d=some y->sV (L.head.over (L.base body S) d)->At w0 T N nt (dom S.en) g w (L.head.over (L.base body S) d) a' w'->Code.rounds P body Q k a' w'
 | 0,d,a',w',h,_,_=>by cases h
 | k+1,d,a',w',h,hc,hat=>by
  rw[u4]at h;rw[Option.bind_eq_some_iff]at h;obtain⟨v,hv,hgo⟩:=h;rw[hstep]at hv;obtain⟨g1,hI,hn,hle⟩:=hat;rw[rounds_succ];refine hb hbel hI hn hc hv ⟨λS' a2 w2 hc' he hat' hkn=>?_,λi S' a2 w2 hc' he hat' hkx=>?_,λS' a2 w2 hc' he hat' hkr=>?_⟩
  · obtain⟨hd1,hn1,hf1,d',hd',hinl⟩:=A0 hkn;cases hinl;obtain⟨_,he,g2,hI2,hn2,hle2⟩:=H3 BS hd1 hc' he hat';have hT:=zZ.behind hk (.inl rfl) he hn1 hf1
    obtain⟨g3,k1,k2,k3⟩:=BQ hI2 hcS hT hd';refine CH hb hbel hk hcS hstep hx hr hkx k d' a2 w2 hgo k3 ⟨g3,k1,hn2,?_⟩;have hle3:=hle.trans hle2
    exact⟨k2.dom,λn hn=>(k2.loc n hn).trans (hle3.loc n hn),λn hn=>(k2.esz n hn).trans (hle3.esz n hn),λb hb=>k2.imm b (hle3.imm b hb),hle3.mem,λn hn=>(k2.rows n hn).trans (hle3.rows n hn)⟩
  · obtain⟨h1,h2⟩:=hx d i S' a2 w2 v hc' he (At.trans hle hat') hkx;cases v with
    | inl d'=>exact absurd rfl (h1 d')
    | inr b=>cases hgo;exact h2 rfl
  · obtain⟨h1,h2⟩:=hr d S' a2 w2 v hc' he (At.trans hle hat') hkr;cases v with
    | inl d'=>exact absurd rfl (h1 d')
    | inr b=>cases hgo;exact h2 rfl
theorem Fa {L:rT} {body:Code} {s:tg} {d:L.head.den} {d':s.den} (hk:L.okAt body S=true) (hs:L.has s) (hcS:sV S) (hc':sV S') (he:yh (L.head.over (L.base body S) d) S') (hat:At w0 T N nt (dom S.en) g w S' a' w')
 (h0:rY (s.seals S')=true) (h1:L.okNew body S (L.head.over (L.base body S) d) (s.shut S')=true) (h2:freed S (L.mods S) (s.sigma (s.shut S'))=true) (h3:s.read (s.shut S')=some d') :
 sV (s.over (L.base body S) d')/\At w0 T N nt (dom S.en) g w (s.over (L.base body S) d') a' w':=by
 obtain⟨_,he,g2,hI2,hn2,hle2⟩:=H3 BS h0 hc' he hat;obtain⟨g3,k1,k2,k3⟩:=BQ hI2 hcS (zZ.behind hk hs he h1 h2) h3;exact⟨k3,g3,k1,hn2,⟨k2.dom,λn hn=>(k2.loc n hn).trans (hle2.loc n hn),λn hn=>(k2.esz n hn).trans (hle2.esz n hn),λb hb=>k2.imm b (hle2.imm b hb),hle2.mem,λn hn=>(k2.rows n hn).trans (hle2.rows n hn)⟩⟩
theorem Jg {A:Type} {id:Nat} {b:Code} {S:St} {K:zR A} (h:∀c,b≠.loop c):wF G ann (.block id b) S K=wF G ann b S ⟨K.n,λi S'=>cond (Nat.beq i id) (K.n S') (K.x i S'),K.r⟩:=by
 cases b with
 | loop c=>exact absurd rfl (h c)
 | _=>rfl
theorem yt {id:Nat} {b:Code} (hb:xY P G ann nt b) (h:∀c,b≠.loop c):xY P G ann nt (.block id b):=by
 intro A w0 T N S K r g w a Q hbel hI hn hc hr hg;rw[Jg h]at hr;refine wp_block (hb hbel hI hn hc hr ⟨hg.n,λi S' a' w' hc' he hat hk=>?_,hg.r⟩);show if i=id then Q .normal a' w' else Q (.exit i) a' w'
 have hk:cond (Nat.beq i id) (K.n S') (K.x i S')=some r:=hk;by_cases hid:i=id
 · subst hid;rw[show Nat.beq i i=true from Nat.beq_refl i]at hk;rw[if_pos rfl];exact hg.n S' a' w' hc' he hat hk
 · have hb:Nat.beq i id=false:=by cases hbb:Nat.beq i id with
    | false=>rfl
    | true=>exact absurd (Nat.eq_of_beq_eq_true hbb) hid
   rw[hb]at hk;rw[if_neg hid];exact hg.x i S' a' w' hc' he hat hk
theorem LC {id:Nat} {body:Code} (hb:xY P G ann nt body) {A:Type} {w0:World} {T N:Nat->Prop} {S:St} {K:zR A} {r:A} {g:Gh} {w:World} {a:Act} {Q:Exit->Act->World->Prop} (hbel:wJ nt body=true) (hI:sC w0 T N S g w a) (hn:nt<=a.tmps.size) (hcS:sV S)
 (hr:DI ann id body (λS K=>wF G ann body S K) S K=some r) (hg:Jf w0 T N nt S g w K r Q):(Code.block id (.loop body)).wp P Q a w:=by
 cases hL:rH ann id with
 | none =>
  have hr:(match rH ann id with|none=>none|some L=>_:Option A)=some r:=hr;rw[hL]at hr;cases hr
 | some L =>
  obtain⟨head,out,bk⟩:=L;cases bk with
  | none =>
   have hr:(match rH ann id with
    | none=>none
    | some L=>cond (L.okAt body S) (match L.head.read S with
     | none=>none
     | some d=>match L with
      | ⟨head,out,none⟩=>(loop (λd:head.den=>let H:=head.over (rT.base ⟨head,out,none⟩ body S) d
       wF G ann body H ⟨λS'=>rT.leave ⟨head,out,none⟩ body S H head S' λd=>some (.inl d),
        λi S'=>cond (Nat.beq i id) (rT.leave ⟨head,out,none⟩ body S H out S' λd=>some (.inr d)) none,λ_=>none⟩) d).bind
       λd=>K.n (out.over (rT.base ⟨head,out,none⟩ body S) d)
      | ⟨head,out,some back⟩=>_) none:Option A)=some r:=hr
   rw[hL]at hr;simp only at hr;cases hk:rT.okAt ⟨head,out,none⟩ body S with
   | false=>rw[hk]at hr;cases hr
   | true =>
    rw[hk]at hr;simp only[cT]at hr;cases hd:head.read S with
    | none=>rw[hd]at hr;cases hr
    | some d0 =>
     rw[hd]at hr;simp only at hr;rw[Option.bind_eq_some_iff]at hr;obtain⟨y,hy,hend⟩:=hr;obtain⟨k,hit⟩:=CG hy;obtain⟨g3,k1,k2,k3⟩:=BQ hI hcS (zZ.entry hk) hd;refine wp_block (wp_loop_rounds k (CH (L:=⟨head,out,none⟩) hb hbel hk hcS (w0:=w0) (T:=T) (N:=N) (g:=g) (w:=w) (β:=out.den) (KX:=λd i S'=>cond (Nat.beq i id) (rT.leave ⟨head,out,none⟩ body S (head.over (rT.base ⟨head,out,none⟩ body S) d) out S' λd=>some (.inr d)) none) (KR:=λ_ _=>none) (λd=>rfl) (λd i S' a' w' v hc' he hat hkx=>?_) (λd S' a' w' v hc' he hat hkr=>by cases hkr) trivial k d0 a w hit k3 ⟨g3,k1,hn,k2⟩));have hkx:cond (Nat.beq i id) (rT.leave ⟨head,out,none⟩ body S (head.over (rT.base ⟨head,out,none⟩ body S) d) out S' λd=>some (.inr d)) none=some v:=hkx
     cases hid:Nat.beq i id with
     | false=>rw[hid]at hkx;cases hkx
     | true =>
      have hkx':rT.leave ⟨head,out,none⟩ body S (head.over (rT.base ⟨head,out,none⟩ body S) d) out S' (λd=>some (.inr d))=some v:=by rw[hid]at hkx;exact hkx
      obtain rfl:=Nat.eq_of_beq_eq_true hid;obtain⟨e0,e1,e2,d',e3,e4⟩:=A0 (L:=⟨head,out,none⟩) hkx';cases e4;refine⟨(λd h=>by cases h),λhv=>?_⟩;cases hv;obtain⟨f1,f2⟩:=Fa (L:=⟨head,out,none⟩) hk (.inr (.inl rfl)) hcS hc' he hat e0 e1 e2 e3;show if i=i then Q .normal a' w' else _
      rw[if_pos rfl];exact hg.n _ a' w' f1 DO f2 hend
  | some back =>
   have hr:(match rH ann id with
    | none=>none
    | some L=>cond (L.okAt body S) (match L.head.read S with
     | none=>none
     | some d=>match L with
      | ⟨head,out,none⟩=>_
      | ⟨head,out,some back⟩=>(loop (β:=out.den⊕back.den) (λd:head.den=>let H:=head.over (rT.base ⟨head,out,some back⟩ body S) d
       wF G ann body H ⟨λS'=>rT.leave ⟨head,out,some back⟩ body S H head S' λd=>some (.inl d),
        λi S'=>cond (Nat.beq i id) (rT.leave ⟨head,out,some back⟩ body S H out S' λd=>some (.inr (.inl d))) none,
        λS'=>rT.leave ⟨head,out,some back⟩ body S H back S' λd=>some (.inr (.inr d))⟩) d).bind
       (Sum.elim (λd=>K.n (out.over (rT.base ⟨head,out,some back⟩ body S) d)) (λd=>K.r (back.over (rT.base ⟨head,out,some back⟩ body S) d)))) none:Option A)=some r:=hr
   rw[hL]at hr;simp only at hr;cases hk:rT.okAt ⟨head,out,some back⟩ body S with
   | false=>rw[hk]at hr;cases hr
   | true =>
    rw[hk]at hr;simp only[cT]at hr;cases hd:head.read S with
    | none=>rw[hd]at hr;cases hr
    | some d0 =>
     rw[hd]at hr;simp only at hr;rw[Option.bind_eq_some_iff]at hr;obtain⟨y,hy,hend⟩:=hr;obtain⟨k,hit⟩:=CG hy;obtain⟨g3,k1,k2,k3⟩:=BQ hI hcS (zZ.entry hk) hd;refine wp_block (wp_loop_rounds k (CH (L:=⟨head,out,some back⟩) hb hbel hk hcS (w0:=w0) (T:=T) (N:=N) (g:=g) (w:=w) (β:=out.den⊕back.den) (KX:=λd i S'=>cond (Nat.beq i id) (rT.leave ⟨head,out,some back⟩ body S (head.over (rT.base ⟨head,out,some back⟩ body S) d) out S' λd=>some (Sum.inr (Sum.inl d))) none) (KR:=λd S'=>rT.leave ⟨head,out,some back⟩ body S (head.over (rT.base ⟨head,out,some back⟩ body S) d) back S' λd=>some (Sum.inr (Sum.inr d))) (λd=>rfl) (λd i S' a' w' v hc' he hat hkx=>?_) (λd S' a' w' v hc' he hat hkr=>?_) trivial k d0 a w hit k3 ⟨g3,k1,hn,k2⟩))
     · have hkx:cond (Nat.beq i id) (rT.leave ⟨head,out,some back⟩ body S (head.over (rT.base ⟨head,out,some back⟩ body S) d) out S' λd=>some (.inr (.inl d))) none=some v:=hkx;cases hid:Nat.beq i id with
       | false=>rw[hid]at hkx;cases hkx
       | true =>
        have hkx':rT.leave ⟨head,out,some back⟩ body S (head.over (rT.base ⟨head,out,some back⟩ body S) d) out S' (λd=>some (Sum.inr (Sum.inl d)))=some v:=by rw[hid]at hkx;exact hkx
        obtain rfl:=Nat.eq_of_beq_eq_true hid;obtain⟨e0,e1,e2,d',e3,e4⟩:=A0 (L:=⟨head,out,some back⟩) hkx';cases e4;refine⟨(λd h=>by cases h),λhv=>?_⟩;cases hv;obtain⟨f1,f2⟩:=Fa (L:=⟨head,out,some back⟩) hk (.inr (.inl rfl)) hcS hc' he hat e0 e1 e2 e3;show if i=i then Q .normal a' w' else _
        rw[if_pos rfl];exact hg.n _ a' w' f1 DO f2 hend
     · obtain⟨e0,e1,e2,d',e3,e4⟩:=A0 (L:=⟨head,out,some back⟩) hkr;cases e4;refine⟨(λd h=>by cases h),λhv=>?_⟩;cases hv;obtain⟨f1,f2⟩:=Fa (L:=⟨head,out,some back⟩) hk (.inr (.inr rfl)) hcS hc' he hat e0 e1 e2 e3;exact hg.r _ a' w' f1 DO f2 hend
theorem Jh {S:St} {id:Nat}:su S.en false true (AH ann id S):=by
 unfold AH;split
 · exact BS
 · intro p hp;simp at hp
theorem H4 {S:St} {id:Nat}:H2 S.en (xT ann id S):=by
 unfold xT;split
 · exact Ie
 · intro p hp;simp at hp
theorem MX {id:Nat} {body:Code} (hb:xY P G ann nt body):xY P G ann nt (.block id (.loop body)):=by
 intro A w0 T N S K r g w a Q hbel hI hn hcS hr hg;have hr:cond (rY (xT ann id S)) (cond (rY (AH ann id (S.more (xT ann id S)))) (DI ann id body (λS K=>wF G ann body S K) ((S.more (xT ann id S)).more (AH ann id (S.more (xT ann id S)))) K) none) none=some r:=hr
 cases hd0:rY (xT ann id S)with
 | false=>rw[hd0]at hr;cases hr
 | true =>
 rw[hd0,cT]at hr;generalize hS1:S.more (xT ann id S)=S1 at hr;refine If (l:=xT ann id S) hI hcS hg (hI.ms.coldAll H4 hd0) (λn cs h=>by obtain⟨_,_,_,he⟩:=H4 _ h;cases he) λg1 hI1 hc1 hg1=>?_;rw[hS1]at hI1 hc1 hg1;cases hd:rY (AH ann id S1)with
 | false=>rw[hd]at hr;cases hr
 | true =>
  rw[hd,cT]at hr;have hu:=Jh (ann:=ann) (S:=S1) (id:=id)
  obtain⟨g2,hM,hle,_⟩:=hI1.ms.useAll hu hd;refine If (l:=AH ann id S1) hI1 hc1 hg1 ⟨g2,hM,hle⟩ (Et hu) λg3 hI3 hc3 hg3=>?_;exact LC hb hbel hI3 hn hc3 hr hg3

theorem NZ {x y:Code} (hx:xY P G ann nt x) (hy:xY P G ann nt y):xY P G ann nt (.seq x y):=by
 intro A w0 T N S K r g w a Q hb hI hn hc hr hg;have hb:(wJ nt x&&wJ nt y)=true:=hb
 rw[aT]at hb;have hr:wF G ann x S ⟨λS'=>wF G ann y S' K,K.x,K.r⟩=some r:=hr
 refine wp_seq (hx hb.1 hI hn hc hr ⟨λS1 a1 w1 hc1 he1 hat1 hk1=>?_,λi S1 a1 w1 hc1 he1 hat1 hk1=>hg.x i S1 a1 w1 hc1 he1 hat1 hk1,λS1 a1 w1 hc1 he1 hat1 hk1=>hg.r S1 a1 w1 hc1 he1 hat1 hk1⟩);obtain⟨g1,hI1,hn1,hle1⟩:=hat1;exact hy hb.2 hI1 hn1 hc1 hk1 ⟨λS2 a2 w2 hc2 he2 hat2 hk2=>hg.n S2 a2 w2 hc2 (he1.trans he2) (At.trans hle1 hat2) hk2,
  λi S2 a2 w2 hc2 he2 hat2 hk2=>hg.x i S2 a2 w2 hc2 (he1.trans he2) (At.trans hle1 hat2) hk2,
  λS2 a2 w2 hc2 he2 hat2 hk2=>hg.r S2 a2 w2 hc2 (he1.trans he2) (At.trans hle1 hat2) hk2⟩
theorem MY {c:Operand} {x y:Code} (hx:xY P G ann nt x) (hy:xY P G ann nt y):xY P G ann nt (.cond c x y):=by
 intro A w0 T N S K r g w a Q hb hI hn hc hr hg;have hb:(wJ nt x&&wJ nt y)=true:=hb
 rw[aT]at hb;have hr:(match S.eval c with | .cell (.bool t)=>cond t (wF G ann x S K) (wF G ann y S K)|_=>none:Option A)=some r:=hr
 split at hr
 · rename_i t he;have hv:a.eval c=.bool t:=yB hI he
   refine wp_cond hv ?_;cases t with
   | true=>exact hx hb.1 hI hn hc hr hg
   | false=>exact hy hb.2 hI hn hc hr hg
 · cases hr
theorem vZ (hG:xb P G) (hm:P.follows .mixedOrders=true):∀c,xY P G ann nt c
 | .skip=>λ_ hI hn hc hr hg=>wp_skip (hg.n _ _ _ hc (yh.refl _) ⟨_,hI,hn,Le.refl _ _ _⟩ hr)
 | .region id ops draw=>λhb hI hn hc hr hg=>Ks hG hm hb hI hn hc hr λS' a' w' hc' he hat hk=>hg.n S' a' w' hc' he hat hk
 | .seq x y=>NZ (vZ hG hm x) (vZ hG hm y)
 | .cond c x y=>MY (vZ hG hm x) (vZ hG hm y)
 | .block id (.loop body)=>MX (vZ hG hm body)
 | .block id .skip=>yt (vZ hG hm .skip) (λc h=>by cases h)
 | .block id (.region i o d)=>yt (vZ hG hm (.region i o d)) (λc h=>by cases h)
 | .block id (.seq x y)=>yt (vZ hG hm (.seq x y)) (λc h=>by cases h)
 | .block id (.cond c x y)=>yt (vZ hG hm (.cond c x y)) (λc h=>by cases h)
 | .block id (.block i x)=>yt (vZ hG hm (.block i x)) (λc h=>by cases h)
 | .block id (.exit i)=>yt (vZ hG hm (.exit i)) (λc h=>by cases h)
 | .block id .ret=>yt (vZ hG hm .ret) (λc h=>by cases h)
 | .block id (.scope x)=>λ_ _ _ _ hr _=>by cases hr
 | .block id (.label l)=>λ_ _ _ _ hr _=>by cases hr
 | .block id (.goto l)=>λ_ _ _ _ hr _=>by cases hr
 | .exit id=>λ_ hI hn hc hr hg=>wp_exit (hg.x id _ _ _ hc (yh.refl _) ⟨_,hI,hn,Le.refl _ _ _⟩ hr)
 | .ret=>λ_ hI hn hc hr hg=>wp_ret (hg.r _ _ _ hc (yh.refl _) ⟨_,hI,hn,Le.refl _ _ _⟩ hr)
 | .loop _=>λ_ _ _ _ hr _=>by cases hr
 | .scope _=>λ_ _ _ _ hr _=>by cases hr
 | .label _=>λ_ _ _ _ hr _=>by cases hr
 | .goto _=>λ_ _ _ _ hr _=>by cases hr
 | .block id (.rangeFunc ..)=>λ_ _ _ _ hr _=>by cases hr
 | .block id (.refuse ..)=>λ_ _ _ _ hr _=>by cases hr
 | .rangeFunc ..=>λ_ _ _ _ hr _=>by cases hr
 | .refuse ..=>λ_ _ _ _ hr _=>by cases hr
end Go.V
namespace Go.V
variable {w0:World} {T N:Nat->Prop} {en en':List (rF×Entry)} {g g':Gh} {w:World}

def CT.Gifts (I:Nat->Prop) (w:World):(c:CT)->c.den->Value->List Nat->List Nat->Prop
 | .sl e,xs,v,ts,ns=>∃tp:Option Nat,ts=tp.toList/\ug w e xs v tp ns/\∀b∈ns,I b
 | c,x,v,ts,ns=>ts=[]/\ns=[]/\CT.Rep w c x v []
def Cs.Gifts (I:Nat->Prop) (w:World):(e:Cs)->e.den->List Value->List Nat->List Nat->Prop
 | .one c,x,vs,ts,ns=>∃v,vs=[v]/\CT.Gifts I w c x v ts ns
 | .cons c r,x,vs,ts,ns=>∃v vs' t1 t2 n1 n2,vs=v::vs'/\ts=t1++t2/\ns=n1++n2/\CT.Gifts I w c x.1 v t1 n1/\Cs.Gifts I w r x.2 vs' t2 n2
structure uh (w0:World) (T N:Nat->Prop) (en:List (rF×Entry)) (g:Gh) (ts ns:List Nat):Prop where
 t1:yU ts
 n1:yU ns
 tf:∀b∈ts,¬g.I b/\(∀m f,rH en m=some f->f.alive=true->g.top m≠some b)/\(w0.heap.size<=b\/T b)
 nf:∀b∈ns,(∀m f,rH en m=some f->f.deep=true->b∉g.nest m)/\(w0.heap.size<=b\/T b\/N b)
 tw:∀b∈ts,∀m f,rH en m=some f->f.isTree=true->b∉g.nest m
theorem z7 {l m:List Nat} {b:Nat} (h:l.count b<=m.count b) (hb:b∈l):b∈m:=by
 have:=count_pos_iff.2 hb;exact count_pos_iff.1 (by omega)
theorem uh.mono {ts ns ts' ns':List Nat} (h:uh w0 T N en g ts ns) (ht:∀b,ts'.count b<=ts.count b) (hn:∀b,ns'.count b<=ns.count b):uh w0 T N en g ts' ns' :=
 ⟨λb=>Nat.le_trans (ht b) (h.t1 b),λb=>Nat.le_trans (hn b) (h.n1 b),λb hb=>h.tf b (z7 (ht b) hb),λb hb=>h.nf b (z7 (hn b) hb),λb hb=>h.tw b (z7 (ht b) hb)⟩
structure tX (w0:World) (T N:Nat->Prop) (en:List (rF×Entry)) (g:Gh) (w:World) (new:List (rF×Entry)) (g':Gh) (ts ns:List Nat):Prop where
 ms:MS w0 T N (new++en) g' w
 le:Le (dom en) g w (dom (new++en)) g' w
 imm:g'.I=g.I
 giv:uh w0 T N (new++en) g' ts ns
theorem tX.refl (h:MS w0 T N en g w) {ts ns:List Nat} (hv:uh w0 T N en g ts ns):tX w0 T N en g w [] g ts ns:=⟨h,Le.refl _ _ _,rfl,hv⟩
theorem CT.give_put (h:MS w0 T N en g w) {mm:Bool} {c:CT} {x:c.den} {v:Value} {ts ns ts' ns':List Nat} {n:rF} (hg:CT.Gifts g.I w c x v ts ns) (hv:uh w0 T N en g (ts++ts') (cond mm ns []++ns')) (hn:rH en n=none) :
 ∃g',tX w0 T N en g w (c.give mm n x).2 g' ts' ns'/\rO (dom ((c.give mm n x).2++en)) g' w (c.give mm n x).1 v:=by
 have hmono:uh w0 T N en g ts' ns':=hv.mono (λb=>by rw[count_append];omega) (λb=>by rw[count_append];omega);cases c with
 | sl e =>
  obtain⟨tp,rfl,hrep,hI⟩:=hg;have hnd:mm=true->ns.Nodup:=by rintro rfl;rw[←u7];intro b;have:=hv.n1 b;rw[cT,count_append]at this;omega
  have hi1:(g.set n ⟨v,e.len,tp,ns⟩).top n=tp:=by simp[Gh.set]
  have hi2:(g.set n ⟨v,e.len,tp,ns⟩).nest n=ns:=by simp[Gh.set]
  have ho1:∀m,m≠n->(g.set n ⟨v,e.len,tp,ns⟩).top m=g.top m:=λm hm=>by simp[Gh.set,hm]
  have ho2:∀m,m≠n->(g.set n ⟨v,e.len,tp,ns⟩).nest m=g.nest m:=λm hm=>by simp[Gh.set,hm]
  obtain⟨hM,hle⟩:=h.put (n:=n) (e:=.root e mm x) (i:=⟨v,e.len,tp,ns⟩) (λhd=>absurd hn hd) (DC hrep)
   ⟨by simp[Gh.set],by rw[hi1,hi2];show ug w e x (if n=n then v else g.loc n) tp ns;rw[if_pos rfl];exact hrep,by rw[hi2];exact hI,λhm=>by rw[hi2];exact hnd hm⟩
   (λ_ b hb=>by
    obtain⟨k1,k2,k3⟩:=hv.tf b (mem_append_left _ (by simpa using hb));exact⟨k1,λm f _ hm ha=>k2 m f hm ha,k3,λm f _ hm ht=>hv.tw b (mem_append_left _ (by simpa using hb)) m f hm ht⟩)
   (λhdp b hb=>by
    obtain rfl:mm=true:=hdp;obtain⟨k1,k2⟩:=hv.nf b (mem_append_left _ hb);exact⟨λm f _ hm hd=>k1 m f hm hd,k2⟩)
  refine⟨_,⟨hM,hle,rfl,hmono.t1,hmono.n1,λb hb=>?_,λb hb=>?_,λb hb m f hm ht=>?_⟩,td.2 (.inl rfl),?_⟩
  rotate_left 2
  · have hmn:m≠n:=λe=>by
     subst e;have hm:rH ((m,Entry.root _ mm x)::en) m=some f:=hm
     rw[vU]at hm;cases hm;cases ht
    rw[ho2 m hmn];exact hmono.tw b hb m f (by simpa[CT.give,sQ (Ne.symm hmn)]using hm) ht
  rotate_left
  · obtain⟨k1,k2,k3⟩:=hmono.tf b hb;refine⟨k1,λm f hm ha=>?_,k3⟩;by_cases hmn:m=n
    · subst hmn;rw[hi1];intro htp;have:=hv.t1 b
      rw[count_append,htp]at this;have h2:=count_pos_iff.2 hb
      simp at this;omega
    · rw[ho1 m hmn];exact k2 m f (by simpa[CT.give,sQ (Ne.symm hmn)]using hm) ha
  · obtain⟨k1,k2⟩:=hmono.nf b hb;refine⟨λm f hm hd=>?_,k2⟩;by_cases hmn:m=n
    · subst hmn;obtain rfl:mm=true:=by
       have hm:rH ((m,Entry.root _ mm x)::en) m=some f:=hm;rw[vU]at hm;cases hm;exact hd
      rw[hi2];intro hbn;have:=hv.n1 b
      rw[cT,count_append]at this;have h2:=count_pos_iff.2 hb
      have h3:=count_pos_iff.2 hbn;omega
    · rw[ho2 m hmn];exact k1 m f (by simpa[CT.give,sQ (Ne.symm hmn)]using hm) hd
  · show v=(if n=n then v else g.loc n);rw[if_pos rfl]
 | int k=>obtain⟨rfl,rfl,hr⟩:=hg;exact⟨g,tX.refl h hmono,CT.cell_rep (c:=.int k) hr (by simp)⟩
 | bool=>obtain⟨rfl,rfl,hr⟩:=hg;exact⟨g,tX.refl h hmono,CT.cell_rep (c:=.bool) hr (by simp)⟩
 | str=>obtain⟨rfl,rfl,hr⟩:=hg;exact⟨g,tX.refl h hmono,CT.cell_rep (c:=.str) hr (by simp)⟩
 | err=>obtain⟨rfl,rfl,hr⟩:=hg;exact⟨g,tX.refl h hmono,CT.cell_rep (c:=.err) hr (by simp)⟩
theorem tX.trans {new new':List (rF×Entry)} {g1 g2:Gh} {ts ns ts' ns':List Nat} (h:tX w0 T N en g w new g1 ts ns) (k:tX w0 T N (new++en) g1 w new' g2 ts' ns'):tX w0 T N en g w (new'++new) g2 ts' ns':=by
 have e:new'++new++en=new'++(new++en):=append_assoc _ _ _;exact⟨by rw[e];exact k.ms,by rw[e];exact h.le.trans k.le,k.imm.trans h.imm,by rw[e];exact k.giv⟩
theorem CT.give_name {mm:Bool} {n:rF} {c:CT} {x:c.den}:∀p∈(c.give mm n x).2,p.1=n:=by cases c<;>simp[CT.give]
theorem Cs.Gifts.imm {I I':Nat->Prop} (hI:∀b,I b->I' b):{c:Cs}->{x:c.den}->{vs:List Value}->{ts ns:List Nat}->Cs.Gifts I w c x vs ts ns->Cs.Gifts I' w c x vs ts ns:=by
 have hc:∀{c:CT} {x:c.den} {v:Value} {ts ns:List Nat},CT.Gifts I w c x v ts ns->CT.Gifts I' w c x v ts ns:=by
  intro c x v ts ns h;cases c with
  | sl e=>obtain⟨tp,h1,h2,h3⟩:=h;exact⟨tp,h1,h2,λb hb=>hI b (h3 b hb)⟩
  | _=>exact h
 intro c
 induction c using Cs.rec (motive_1:=λ_=>True)with
 | one c _=>intro x vs ts ns h;obtain⟨v,h1,h2⟩:=h;exact⟨v,h1,hc h2⟩
 | cons c r _ ih=>intro x vs ts ns h;obtain⟨v,vs',t1,t2,n1,n2,h1,h2,h3,h4,h5⟩:=h;exact⟨v,vs',t1,t2,n1,n2,h1,h2,h3,hc h4,ih h5⟩
 | _=>trivial
theorem Cs.give_put {mm:Bool}:{c:Cs}->{x:c.den}->{vs:List Value}->{ts ns ts' ns':List Nat}->{n:rF}->{en:List (rF×Entry)}->{g:Gh}->(h:MS w0 T N en g w)->(hg:Cs.Gifts g.I w c x vs ts ns)->(hv:uh w0 T N en g (ts++ts') (cond mm ns []++ns')) ->
 (hn:∀p∈(Cs.give mm n c x).2,rH en p.1=none)->(hd:rY (Cs.give mm n c x).2=true)->∃g',tX w0 T N en g w (Cs.give mm n c x).2 g' ts' ns'/\rU (rO (dom ((Cs.give mm n c x).2++en)) g' w) (Cs.give mm n c x).1 vs
 | .one c,x,vs,ts,ns,ts',ns',n,en,g,h,hg,hv,hn,hd=>by
  obtain⟨v,rfl,hg⟩:=hg;cases hs:(c.give mm n x).2 with
  | nil =>
   cases c with
   | sl e=>simp[CT.give]at hs
   | int k=>obtain⟨rfl,rfl,hr⟩:=hg;exact⟨g,tX.refl h (by cases mm<;>simpa using hv),CT.cell_rep (c:=.int k) hr (by simp),trivial⟩
   | bool=>obtain⟨rfl,rfl,hr⟩:=hg;exact⟨g,tX.refl h (by cases mm<;>simpa using hv),CT.cell_rep (c:=.bool) hr (by simp),trivial⟩
   | str=>obtain⟨rfl,rfl,hr⟩:=hg;exact⟨g,tX.refl h (by cases mm<;>simpa using hv),CT.cell_rep (c:=.str) hr (by simp),trivial⟩
   | err=>obtain⟨rfl,rfl,hr⟩:=hg;exact⟨g,tX.refl h (by cases mm<;>simpa using hv),CT.cell_rep (c:=.err) hr (by simp),trivial⟩
  | cons p l =>
   have hp:rH en n=none:=by
    have h1:=hn p (by show p∈(c.give mm n x).2;rw[hs];simp);have h2:=CT.give_name (mm:=mm) (n:=n) (c:=c) (x:=x) p (by rw[hs];simp)
    rw[←h2];exact h1
   obtain⟨g',k1,k2⟩:=CT.give_put h hg hv hp;exact⟨g',k1,k2,trivial⟩
 | .cons c r,x,vs,ts,ns,ts',ns',n,en,g,h,hg,hv,hn,hd=>by
  obtain⟨v,vs',t1,t2,n1,n2,rfl,rfl,rfl,hg1,hg2⟩:=hg;obtain⟨d1,d2,d3⟩:=tn (l:=(c.give mm n x.1).2) (m:=(Cs.give mm (n+1) r x.2).2) hd;obtain⟨g1,k1,k2⟩:=Cs.give_put (n:=n+1) (ts':=t1++ts') (ns':=cond mm n1 []++ns') h hg2 (hv.mono (λb=>by simp only[count_append];omega) (λb=>by cases mm<;>simp only[cT,cF,List.nil_append,count_append]<;>omega)) (λp hp=>hn p (mem_append_right _ hp)) d2;have hg1':CT.Gifts g1.I w c x.1 v t1 n1:=by rw[k1.imm];exact hg1
  cases hs:(c.give mm n x.1).2 with
  | nil =>
   have e:(Cs.give mm n (.cons c r) x).2=(Cs.give mm (n+1) r x.2).2:=by show (c.give mm n x.1).2++_=_;rw[hs];rfl
   have hsc:t1=[]/\n1=[]/\rO (dom ((Cs.give mm (n+1) r x.2).2++en)) g1 w (c.give mm n x.1).1 v:=by
    cases c with
    | sl e=>simp[CT.give]at hs
    | int k=>obtain⟨rfl,rfl,hr⟩:=hg1;exact⟨rfl,rfl,CT.cell_rep (c:=.int k) hr (by simp)⟩
    | bool=>obtain⟨rfl,rfl,hr⟩:=hg1;exact⟨rfl,rfl,CT.cell_rep (c:=.bool) hr (by simp)⟩
    | str=>obtain⟨rfl,rfl,hr⟩:=hg1;exact⟨rfl,rfl,CT.cell_rep (c:=.str) hr (by simp)⟩
    | err=>obtain⟨rfl,rfl,hr⟩:=hg1;exact⟨rfl,rfl,CT.cell_rep (c:=.err) hr (by simp)⟩
   obtain⟨rfl,rfl,hcr⟩:=hsc;rw[e];exact⟨g1,by cases mm<;>simpa using k1,hcr,k2⟩
  | cons p l =>
   have hpn:=CT.give_name (mm:=mm) (n:=n) (c:=c) (x:=x.1) p (by rw[hs];simp);have hp:rH ((Cs.give mm (n+1) r x.2).2++en) n=none:=by
    rw[sZ]
    · rw[←hpn];exact hn p (mem_append_left _ (by rw[hs];simp))
    · intro hm;exact d3 p.1 (mem_map_of_mem (by rw[hs];simp)) (hpn.symm▸hm)
   obtain⟨g2,k3,k4⟩:=CT.give_put k1.ms hg1' k1.giv hp;have e:(Cs.give mm n (.cons c r) x).2++en=(c.give mm n x.1).2++((Cs.give mm (n+1) r x.2).2++en):=append_assoc _ _ _
   refine⟨g2,k1.trans k3,?_,?_⟩
   · rw[e];exact k4
   · rw[e];exact rU.imp (λ_ _=>rO.mono k3.le) k2
theorem CT.giveF_put (h:MS w0 T N en g w) {c:CT} {x:c.den} {v:Value} {F ts' ns':List Nat} {n:rF} (hg:CT.Rep w c x v F) (hI:∀b∈F,g.I b) (hv:uh w0 T N en g ts' (F++ns')) (hn:rH en n=none) :
 ∃g',tX w0 T N en g w (c.giveF n x).2 g' ts' ns'/\rO (dom ((c.giveF n x).2++en)) g' w (c.giveF n x).1 v:=by
 have hmono:uh w0 T N en g ts' ns':=hv.mono (λb=>Nat.le_refl _) (λb=>by rw[count_append];omega);cases c with
 | sl e =>
  have hnd:F.Nodup:=by rw[←u7];intro b;have:=hv.n1 b;rw[count_append]at this;omega
  have hi1:(g.set n ⟨v,e.len,none,F⟩).top n=none:=by simp[Gh.set]
  have hi2:(g.set n ⟨v,e.len,none,F⟩).nest n=F:=by simp[Gh.set]
  have ho1:∀m,m≠n->(g.set n ⟨v,e.len,none,F⟩).top m=g.top m:=λm hm=>by simp[Gh.set,hm]
  have ho2:∀m,m≠n->(g.set n ⟨v,e.len,none,F⟩).nest m=g.nest m:=λm hm=>by simp[Gh.set,hm]
  have hone:v.oneCell'=true:=by obtain⟨ad,cap,rfl⟩:=wb hg;rfl
  obtain⟨hM,hle⟩:=h.put (n:=n) (e:=.frz e x) (i:=⟨v,e.len,none,F⟩) (λhd=>absurd hn hd) hone
   ⟨by simp[Gh.set],hi1,by rw[hi2];show CT.Rep w (.sl e) x (if n=n then v else g.loc n) F;rw[if_pos rfl];exact hg,by rw[hi2];exact hI,by rw[hi2];exact hnd⟩
   (λha=>by cases ha)
   (λhdp b hb=>by
    obtain⟨k1,k2⟩:=hv.nf b (mem_append_left _ hb);exact⟨λm f _ hm hd=>k1 m f hm hd,k2⟩)
  refine⟨_,⟨hM,hle,rfl,hmono.t1,hmono.n1,λb hb=>?_,λb hb=>?_,λb hb m f hm ht=>?_⟩,td.2 (.inl rfl),?_⟩
  rotate_left 2
  · have hmn:m≠n:=λe=>by
     subst e;have hm:rH ((m,Entry.frz _ x)::en) m=some f:=hm
     rw[vU]at hm;cases hm;cases ht
    rw[ho2 m hmn];exact hmono.tw b hb m f (by simpa[CT.giveF,sQ (Ne.symm hmn)]using hm) ht
  rotate_left
  · obtain⟨k1,k2,k3⟩:=hmono.tf b hb;refine⟨k1,λm f hm ha=>?_,k3⟩;by_cases hmn:m=n
    · subst hmn;rw[hi1];intro htp;cases htp
    · rw[ho1 m hmn];exact k2 m f (by simpa[CT.giveF,sQ (Ne.symm hmn)]using hm) ha
  · obtain⟨k1,k2⟩:=hmono.nf b hb;refine⟨λm f hm hd=>?_,k2⟩;by_cases hmn:m=n
    · subst hmn;rw[hi2];intro hbn;have:=hv.n1 b
      rw[count_append]at this;have h2:=count_pos_iff.2 hb
      have h3:=count_pos_iff.2 hbn;omega
    · rw[ho2 m hmn];exact k1 m f (by simpa[CT.giveF,sQ (Ne.symm hmn)]using hm) hd
  · show v=(if n=n then v else g.loc n);rw[if_pos rfl]
 | int k=>exact⟨g,tX.refl h hmono,CT.cell_rep (c:=.int k) hg hI⟩
 | bool=>exact⟨g,tX.refl h hmono,CT.cell_rep (c:=.bool) hg hI⟩
 | str=>exact⟨g,tX.refl h hmono,CT.cell_rep (c:=.str) hg hI⟩
 | err=>exact⟨g,tX.refl h hmono,CT.cell_rep (c:=.err) hg hI⟩
theorem CT.giveF_any (h:MS w0 T N en g w) {c:CT} {x:c.den} {v:Value} {F ts' ns':List Nat} {n:rF} (hg:CT.Rep w c x v F) (hI:∀b∈F,g.I b) (hv:uh w0 T N en g ts' (F++ns')) (hn:∀p∈(c.giveF n x).2,rH en p.1=none) :
 ∃g',tX w0 T N en g w (c.giveF n x).2 g' ts' ns'/\rO (dom ((c.giveF n x).2++en)) g' w (c.giveF n x).1 v:=by
 have hmono:uh w0 T N en g ts' ns':=hv.mono (λb=>Nat.le_refl _) (λb=>by rw[count_append];omega);cases c with
 | sl e=>exact CT.giveF_put h hg hI hv (hn (n,.frz e x) (by simp[CT.giveF]))
 | int k=>exact⟨g,tX.refl h hmono,CT.cell_rep (c:=.int k) hg hI⟩
 | bool=>exact⟨g,tX.refl h hmono,CT.cell_rep (c:=.bool) hg hI⟩
 | str=>exact⟨g,tX.refl h hmono,CT.cell_rep (c:=.str) hg hI⟩
 | err=>exact⟨g,tX.refl h hmono,CT.cell_rep (c:=.err) hg hI⟩
theorem Cs.giveF_put:{c:Cs}->{x:c.den}->{vs:List Value}->{F ts' ns':List Nat}->{n:rF}->{en:List (rF×Entry)}->{g:Gh}->(h:MS w0 T N en g w)->(hg:Cs.Rep w c x vs F)->(hI:∀b∈F,g.I b)->(hv:uh w0 T N en g ts' (F++ns')) ->
 (hn:∀p∈(Cs.giveF n c x).2,rH en p.1=none)->(hd:rY (Cs.giveF n c x).2=true)->∃g',tX w0 T N en g w (Cs.giveF n c x).2 g' ts' ns'/\rU (rO (dom ((Cs.giveF n c x).2++en)) g' w) (Cs.giveF n c x).1 vs
 | .one c,x,vs,F,ts',ns',n,en,g,h,hg,hI,hv,hn,hd=>by
  simp only[Cs.Rep]at hg;obtain⟨v,rfl,hg⟩:=hg;obtain⟨g',k1,k2⟩:=CT.giveF_any h hg hI hv hn;exact⟨g',k1,k2,trivial⟩
 | .cons c r,x,vs,F,ts',ns',n,en,g,h,hg,hI,hv,hn,hd=>by
  simp only[Cs.Rep]at hg;obtain⟨v,vs',F1,F2,rfl,rfl,hg1,hg2⟩:=hg;obtain⟨d1,d2,d3⟩:=tn (l:=(c.giveF n x.1).2) (m:=(Cs.giveF (n+1) r x.2).2) hd;obtain⟨g1,k1,k2⟩:=Cs.giveF_put (n:=n+1) (ts':=ts') (ns':=F1++ns') h hg2 (λb hb=>hI b (mem_append_right _ hb)) (hv.mono (λb=>Nat.le_refl _) (λb=>by simp only[count_append];omega)) (λp hp=>hn p (mem_append_right _ hp)) d2;obtain⟨g2,k3,k4⟩:=CT.giveF_any (n:=n) k1.ms hg1 (λb hb=>by rw[k1.imm];exact hI b (mem_append_left _ hb)) k1.giv (λp hp=>by
   rw[sZ (d3 p.1 (mem_map_of_mem hp))];exact hn p (mem_append_left _ hp))
  have e:(Cs.giveF n (.cons c r) x).2++en=(c.giveF n x.1).2++((Cs.giveF (n+1) r x.2).2++en):=append_assoc _ _ _;refine⟨g2,k1.trans k3,?_,?_⟩
  · rw[e];exact k4
  · rw[e];exact rU.imp (λ_ _=>rO.mono k3.le) k2
theorem Fb (h:MS w0 T N en g w) {n:rF} {b:Nat} {us:List Value} {cs:List Cell} {ts ns:List Nat} (hb:ta w b us) (hc:rU (rO (dom en) g w) cs us) (hv:uh w0 T N en g (b::ts) ns) (hn:dom en n->g.loc n=.pointer (some ⟨b,0,none⟩)) (hf:∀e,rH en n=some e->e.alive=false) :
 ∃g',tX w0 T N en g w [(n,.box cs)] g' ts ns/\g'.loc n=.pointer (some ⟨b,0,none⟩):=by
 have hi1:(g.set n ⟨.pointer (some ⟨b,0,none⟩),g.esz n,some b,[]⟩).top n=some b:=by simp[Gh.set]
 have hi2:(g.set n ⟨.pointer (some ⟨b,0,none⟩),g.esz n,some b,[]⟩).nest n=[]:=by simp[Gh.set]
 have ho1:∀m,m≠n->(g.set n ⟨.pointer (some ⟨b,0,none⟩),g.esz n,some b,[]⟩).top m=g.top m:=λm hm=>by simp[Gh.set,hm]
 have ho2:∀m,m≠n->(g.set n ⟨.pointer (some ⟨b,0,none⟩),g.esz n,some b,[]⟩).nest m=g.nest m:=λm hm=>by simp[Gh.set,hm]
 have hle0:=Gh.set_le (en:=en) (g:=g) (w:=w) (n:=n) (.box cs) ⟨.pointer (some ⟨b,0,none⟩),g.esz n,some b,[]⟩ (λhd=>⟨(hn hd).symm,rfl⟩);obtain⟨hM,hle⟩:=h.put (n:=n) (e:=.box cs) (i:=⟨.pointer (some ⟨b,0,none⟩),g.esz n,some b,[]⟩) (λhd=>⟨(hn hd).symm,rfl⟩) rfl
  ⟨b,us,hi1,by simp[Gh.set],hb,rU.imp (λ_ _=>rO.mono hle0) hc⟩
  (λ_ b' hb'=>by
   cases hb';obtain⟨k1,k2,k3⟩:=hv.tf b mem_cons_self;exact⟨k1,λm f _ hm ha=>k2 m f hm ha,k3,λm f _ hm ht=>hv.tw b mem_cons_self m f hm ht⟩)
  (λhd=>by cases hd)
 have hmono:uh w0 T N en g ts ns:=hv.mono (λc=>by rw[List.count_cons];omega) (λ_=>Nat.le_refl _);refine⟨_,⟨hM,hle,rfl,hmono.t1,hmono.n1,λc hc=>?_,λc hc=>?_,λc hc m f hm ht=>?_⟩,by simp[Gh.set]⟩
 rotate_left 2
 · have hmn:m≠n:=λe=>by
    subst e;have hm:rH ((m,Entry.box cs)::en) m=some f:=hm
    rw[vU]at hm;cases hm;cases ht
   rw[ho2 m hmn];exact hmono.tw c hc m f (by simpa[sQ (Ne.symm hmn)]using hm) ht
 · obtain⟨k1,k2,k3⟩:=hmono.tf c hc;refine⟨k1,λm f hm ha=>?_,k3⟩;by_cases hmn:m=n
   · subst hmn;rw[hi1];intro he;cases he;have:=hv.t1 b
     rw[List.count_cons_self]at this;have h2:=count_pos_iff.2 hc
     omega
   · rw[ho1 m hmn];exact k2 m f (by simpa[sQ (Ne.symm hmn)]using hm) ha
 · obtain⟨k1,k2⟩:=hmono.nf c hc;refine⟨λm f hm hd=>?_,k2⟩;by_cases hmn:m=n
   · subst hmn;rw[hi2];simp
   · rw[ho2 m hmn];exact k1 m f (by simpa[sQ (Ne.symm hmn)]using hm) hd
end Go.V
namespace Go.V
variable {w0:World} {T N:Nat->Prop} {en en':List (rF×Entry)} {g g':Gh} {w:World}

def Mp:Bool->Option Bool|true=>some true|false=>none
def xc (I:Nat->Prop) (w:World) (own:Option Bool) (c:Cs) (x:c.den) (us:List Value) (ts ns:List Nat):Prop :=
 (∃m ns',own=some m/\Cs.Gifts I w c x us ts ns'/\(m=true->ns'=ns))\/(own=none/\ts=[]/\ns=[]/\∃F,Cs.Rep w c x us F/\∀b∈F,I b)
def wx (I:Nat->Prop) (w:World):(ps:List sU)->rN (sk ps)->List Value->List Nat->List Nat->Prop
 | [],_,vs,ts,ns=>vs=[]/\ts=[]/\ns=[]
 | .val agg c mv::ps,x,vs,ts,ns=>∃v vs' us t1 t2 n1 n2,vs=v::vs'/\isAgg agg v us/\ts=t1++t2/\ns=n1++n2/\xc I w (Mp mv) c (rN.hd c (sk ps) x) us t1 n1/\wx I w ps (rN.tl c (sk ps) x) vs' t2 n2
 | .ptr c own::ps,x,vs,ts,ns=>∃b vs' us t1 t2 n1 n2,vs=.pointer (some ⟨b,0,none⟩)::vs'/\ta w b us/\ts=b::(t1++t2)/\ns=n1++n2/\xc I w own c (rN.hd c (sk ps) x) us t1 n1/\wx I w ps (rN.tl c (sk ps) x) vs' t2 n2
theorem Aq {D:rF->Prop} {agg:Bool} {cs:List Cell} {v:Value} {us:List Value} (h:rU (rO D g w) cs us) (ha:isAgg agg v us):sP D g w (w9 agg cs) v:=by
 rcases ha with ⟨rfl,rfl⟩|⟨rfl,rfl⟩
 · cases cs with
   | nil=>exact h.elim
   | cons c cs=>cases cs with
    | nil=>exact h.1
    | cons _ _=>exact h.2.elim
 · have:w9 true cs=.agg cs:=by cases cs<;>rfl
   rw[this];exact⟨_,rfl,h⟩
theorem zG {own:Option Bool} {c:Cs} {x:c.den} {vs:List Value} {ts ns ts' ns':List Nat} {n:rF} (h:MS w0 T N en g w) (hg:xc g.I w own c x vs ts ns) (hv:uh w0 T N en g (ts++ts') (ns++ns'))
 (hn:∀p∈(uQ own n c x).2,rH en p.1=none) (hd:rY (uQ own n c x).2=true):∃g',tX w0 T N en g w (uQ own n c x).2 g' ts' ns'/\rU (rO (dom ((uQ own n c x).2++en)) g' w) (uQ own n c x).1 vs:=by
 rcases hg with ⟨m,ns1,rfl,hg,hm⟩|⟨rfl,rfl,rfl,F,hF,hI⟩
 · refine Cs.give_put h hg ?_ hn hd;cases m with
   | true=>rw[hm rfl];exact hv
   | false=>exact hv.mono (λb=>Nat.le_refl _) (λb=>by simp only[cF,List.nil_append,count_append];omega)
 · exact⟨g,tX.refl h (by simpa using hv),Cs.cells_rep hF hI⟩
def zK (D:rF->Prop) (g:Gh):Nat->List sU->List Value->Prop
 | _,[],_=>True
 | _,_::_,[]=>False
 | i,.val .. :: ps,_::vs=>zK D g (i+1) ps vs
 | i,.ptr .. :: ps,v::vs=>(D (64*i+1)/\g.loc (64*i+1)=v)/\zK D g (i+1) ps vs
theorem zK.mono {D D':rF->Prop} {w':World} (h:Le D g w D' g' w'):∀{i:Nat} {ps:List sU} {vs:List Value},zK D g i ps vs->zK D' g' i ps vs
 | _,[],_,_=>trivial
 | i,.val .. :: ps,v::vs,k=>zK.mono (ps:=ps) (vs:=vs) h k
 | i,.ptr .. :: ps,v::vs,⟨⟨k1,k2⟩,k⟩=>⟨⟨h.dom _ k1,(h.loc _ k1).trans k2⟩,zK.mono h k⟩
 | _,.val .. :: _,[],k=>k
 | _,.ptr .. :: _,[],k=>k
def Eu (D:rF->Prop) (g:Gh) (w:World) (tm:List (Nat×AV)) (i:Nat) (vs:List Value):Prop :=
 ∀t,rH tm t=none\/∃k v x,t=i+k/\vs[k]?=some v/\rH tm t=some x/\sP D g w x v
theorem Eu.cons {D D':rF->Prop} {tm:List (Nat×AV)} {i:Nat} {vs:List Value} {v:Value} {x:AV} (h:Eu D g w tm (i+1) vs) (hle:Le D g w D' g' w) (hx:sP D' g' w x v):Eu D' g' w ((i,x)::tm) i (v::vs):=by
 intro t;rw[s8];by_cases hit:i=t
 · subst hit;exact .inr ⟨0,v,x,rfl,rfl,by rw[if_pos rfl],hx⟩
 · rw[if_neg hit];rcases h t with h|⟨k,u,y,h1,h2,h3,h4⟩
   · exact .inl h
   · exact .inr ⟨k+1,u,y,by omega,by simpa using h2,h3,h4.mono hle⟩
theorem FO {i:Nat} {agg:Bool} {c:Cs} {mv:Bool} {ps:List sU} {x:rN (sk (.val agg c mv::ps))} :
 entry i (.val agg c mv::ps) x=((i,w9 agg (uQ (Mp mv) (64*i+1) c (rN.hd c (sk ps) x)).1)::(entry (i+1) ps (rN.tl c (sk ps) x)).1,(uQ (Mp mv) (64*i+1) c (rN.hd c (sk ps) x)).2++(entry (i+1) ps (rN.tl c (sk ps) x)).2):=by
 cases mv<;>rfl
theorem FP {i:Nat} {c:Cs} {own:Option Bool} {ps:List sU} {x:rN (sk (.ptr c own::ps))} :
 entry i (.ptr c own::ps) x=((i,.cell (.box (64*i+1) 0))::(entry (i+1) ps (rN.tl c (sk ps) x)).1,(64*i+1,.box (uQ own (64*i+2) c (rN.hd c (sk ps) x)).1)::((uQ own (64*i+2) c (rN.hd c (sk ps) x)).2++(entry (i+1) ps (rN.tl c (sk ps) x)).2)):=rfl
theorem tX.to_nil {new:List (rF×Entry)} {ts ns:List Nat} (h:tX w0 T N [] g w new g' ts ns):MS w0 T N new g' w:=by have:=h.ms;rwa [append_nil]at this
theorem xc.imm {I I':Nat->Prop} (hI:∀b,I b->I' b) {own:Option Bool} {c:Cs} {x:c.den} {us:List Value} {ts ns:List Nat} (h:xc I w own c x us ts ns):xc I' w own c x us ts ns:=by
 rcases h with ⟨m,ns',h1,h2,h3⟩|⟨h1,h2,h3,F,h4,h5⟩
 · exact .inl ⟨m,ns',h1,h2.imm hI,h3⟩
 · exact .inr ⟨h1,h2,h3,F,h4,λb hb=>hI b (h5 b hb)⟩
theorem BT (h0:MS w0 T N [] g w):∀(ps:List sU) (i:Nat) (x:rN (sk ps)) (vs:List Value) (ts ns ts' ns':List Nat),uh w0 T N [] g (ts++ts') (ns++ns')->wx g.I w ps x vs ts ns->rY (entry i ps x).2=true ->
 ∃g',tX w0 T N [] g w (entry i ps x).2 g' ts' ns'/\Eu (dom (entry i ps x).2) g' w (entry i ps x).1 i vs/\zK (dom (entry i ps x).2) g' i ps vs
 | [],i,x,vs,ts,ns,ts',ns',hv,ha,hd=>by
  obtain⟨rfl,rfl,rfl⟩:=ha;exact⟨g,tX.refl h0 (by simpa using hv),λt=>.inl rfl,trivial⟩
 | .val agg c mv::ps,i,x,vs,ts,ns,ts',ns',hv,ha,hd=>by
  obtain⟨v,vs',us,t1,t2,n1,n2,rfl,hag,rfl,rfl,hin,ha⟩:=ha;rw[FO]at hd ⊢;obtain⟨d1,d2,d3⟩:=tn hd;obtain⟨g1,k1,k2,k3⟩:=BT h0 ps (i+1) (rN.tl c (sk ps) x) vs' t2 n2 (t1++ts') (n1++ns') (hv.mono (λb=>by simp only[count_append];omega) (λb=>by simp only[count_append];omega)) ha d2;obtain⟨g2,k4,k5⟩:=zG (n:=64*i+1) k1.ms (hin.imm λb hb=>by rw[k1.imm];exact hb) k1.giv (λp hp=>by
   rw[append_nil];cases hf:rH (entry (i+1) ps (rN.tl c (sk ps) x)).2 p.1 with
   | none=>rfl
   | some y=>exact absurd (xl.2 (by rw[hf];simp)) (d3 p.1 (mem_map_of_mem hp))) d1
  have kle:=k4.le;simp only[append_nil]at kle k5;refine⟨g2,k1.trans k4,k2.cons kle (Aq k5 hag),?_⟩;exact zK.mono (ps:=ps) (vs:=vs') kle k3
 | .ptr c own::ps,i,x,vs,ts,ns,ts',ns',hv,ha,hd=>by
  obtain⟨b,vs',us,t1,t2,n1,n2,rfl,hob,rfl,rfl,hin,ha⟩:=ha;rw[FP]at hd ⊢;obtain⟨d0,hd⟩:=tW hd;obtain⟨d1,d2,d3⟩:=tn hd;obtain⟨g1,k1,k2,k3⟩:=BT h0 ps (i+1) (rN.tl c (sk ps) x) vs' t2 n2 (t1++(b::ts')) (n1++ns') (hv.mono (λb'=>by simp only[count_append,List.count_cons,List.cons_append];omega) (λb'=>by simp only[count_append];omega)) ha d2;obtain⟨g2,k4,k5⟩:=zG (n:=64*i+2) k1.ms (hin.imm λb hb=>by rw[k1.imm];exact hb) k1.giv (λp hp=>by
   rw[append_nil];cases hf:rH (entry (i+1) ps (rN.tl c (sk ps) x)).2 p.1 with
   | none=>rfl
   | some y=>exact absurd (xl.2 (by rw[hf];simp)) (d3 p.1 (mem_map_of_mem hp))) d1
  have kle:=k4.le;have k6:=k1.trans k4
  have hfree:rH ((uQ own (64*i+2) c (rN.hd c (sk ps) x)).2++(entry (i+1) ps (rN.tl c (sk ps) x)).2++[]) (64*i+1)=none:=by
   rw[append_nil];cases hf:rH ((uQ own (64*i+2) c (rN.hd c (sk ps) x)).2++(entry (i+1) ps (rN.tl c (sk ps) x)).2) (64*i+1)with
   | none=>rfl
   | some y=>exact absurd (xl.2 (by rw[hf];simp)) d0
  obtain⟨g3,k7,k8⟩:=Fb k6.ms hob (by simpa using k5) k6.giv (λhd=>absurd hfree hd) (λe he=>by rw[hfree]at he;cases he);have kle2:=k7.le
  simp only[append_nil]at kle kle2;refine⟨g3,k6.trans k7,Eu.cons k2 (kle.trans kle2) ⟨td.2 (.inl rfl),b,k8,rfl⟩,⟨td.2 (.inl rfl),k8⟩,?_⟩;exact zK.mono (ps:=ps) (vs:=vs') (kle.trans kle2) k3
end Go.V
namespace Go.V
variable {w0:World} {T N:Nat->Prop} {en en':List (rF×Entry)} {g g':Gh} {w:World} {I:Nat->Prop}

def ui (en:List (rF×Entry)) (used:List (rF×Entry)):Prop :=
 ∀p∈used,(p.2=.gone/\∃e m xs,rH en p.1=some (.root e m xs))\/(p.2=.gone/\∃cs,rH en p.1=some (.box cs))\/(∃e m xs,rH en p.1=some (.root e m xs)/\p.2=.fwd e xs)\/(∃e xs,rH en p.1=some (.frz e xs)/\(p.2=.gone\/p.2=.fwd e xs))
def wg (g:Gh) (p:rF×Entry):List Nat:=match p.2 with | .gone=>(g.top p.1).toList|_=>[]
def vL (en:List (rF×Entry)) (g:Gh) (p:rF×Entry):List Nat:=match p.2 with | .gone=>(match rH en p.1 with|some (.root _ true _)=>g.nest p.1|some (.frz _ _)=>g.nest p.1|_=>[])|_=>[]
def tP (g:Gh) (used:List (rF×Entry)):List Nat:=used.flatMap (wg g)
def tU (en:List (rF×Entry)) (g:Gh) (used:List (rF×Entry)):List Nat:=used.flatMap (vL en g)
theorem AQ {D:rF->Prop} {agg:Bool} {x:AV} {v:Value} (h:sP D g w x v) (ho:yN agg x=true):∃us,isAgg agg v us/\rU (rO D g w) x.cells us:=by
 cases x with
 | cell c=>cases agg with
  | true=>cases ho
  | false=>exact⟨[v],.inl ⟨rfl,rfl⟩,h,trivial⟩
 | agg cs=>cases agg with
  | false=>cases ho
  | true=>obtain⟨vs,rfl,k⟩:=h;exact⟨vs.toList,.inr ⟨rfl,rfl⟩,k⟩
 | tup l=>cases agg<;>cases ho
theorem FQ (hm:uN en g w):∀{used:List (rF×Entry)},su en true false used->tP g used=(used.map (·.1)).flatMap (λn=>(g.top n).toList)/\tU en g used=(used.map (·.1)).flatMap g.nest/\ui en used/\∀b∈tU en g used,g.I b
 | [],_=>⟨rfl,rfl,λp hp=>by simp at hp,by simp[tU]⟩
 | p::used,h=>by
  obtain⟨k1,k2,k3,k4⟩:=FQ hm (used:=used) λq hq=>h q (mem_cons_of_mem _ hq);obtain⟨e,m,xs,h1,h2,h3⟩|⟨h0,_⟩:=h p mem_cons_self
  rotate_left
  · cases h0
  obtain rfl:=h2 rfl;have h3:p.2=.gone:=h3
  obtain⟨_,_,hI,_⟩:=tD hm h1;refine⟨?_,?_,λq hq=>?_,λb hb=>?_⟩
  · unfold tP at k1 ⊢;rw[flatMap_cons,k1];simp[wg,h3]
  · unfold tU at k2 ⊢;rw[flatMap_cons,k2];simp[vL,h3,h1]
  · rcases mem_cons.1 hq with rfl|hq
    · exact .inl ⟨h3,e,true,xs,h1⟩
    · exact k3 q hq
  · unfold tU at hb k4;rw[flatMap_cons]at hb;rcases mem_append.1 hb with hb|hb
    · simp[vL,h3,h1]at hb;exact hI b hb
    · exact k4 b hb
theorem H5:∀{used:List (rF×Entry)},su en false true used->tP g used=[]/\tU en g used=[]/\ui en used
 | [],_=>⟨rfl,rfl,λp hp=>by simp at hp⟩
 | p::used,h=>by
  obtain⟨k1,k2,k3⟩:=H5 (used:=used) λq hq=>h q (mem_cons_of_mem _ hq);obtain⟨e,m,xs,h1,h2,h3⟩|⟨_,e,xs,h1,h3⟩:=h p mem_cons_self
  rotate_left
  · refine⟨?_,?_,λq hq=>?_⟩
    · unfold tP at k1 ⊢;rw[flatMap_cons,k1];simp[wg,h3]
    · unfold tU at k2 ⊢;rw[flatMap_cons,k2];simp[vL,h3]
    · rcases mem_cons.1 hq with rfl|hq
      · exact .inr (.inr (.inr ⟨e,xs,h1,.inr h3⟩))
      · exact k3 q hq
  have h3:p.2=.fwd e xs:=h3;refine⟨?_,?_,λq hq=>?_⟩
  · unfold tP at k1 ⊢;rw[flatMap_cons,k1];simp[wg,h3]
  · unfold tU at k2 ⊢;rw[flatMap_cons,k2];simp[vL,h3]
  · rcases mem_cons.1 hq with rfl|hq
    · exact .inr (.inr (.inl ⟨e,m,xs,h1,h3⟩))
    · exact k3 q hq
theorem CT.own_gifts (hI:∀b,g.I b->I b) {c:CT} {x:c.den} {v:Value} {ns:List rF} (h:CT.Own false g w c x v ns) (hn:∀b∈ns.flatMap g.nest,g.I b):CT.Gifts I w c x v (ns.flatMap λn=>(g.top n).toList) (ns.flatMap g.nest):=by
 cases c with
 | sl e =>
  rcases h with ⟨rfl,rfl,rfl⟩|⟨n,rfl,rfl,h⟩
  · exact⟨none,rfl,.inl ⟨rfl,rfl,rfl,rfl⟩,by simp⟩
  · exact⟨g.top n,by simp,by simpa using h.resolve_right (λh=>by cases h.1),λb hb=>hI b (hn b hb)⟩
 | int=>obtain⟨rfl,h⟩:=h;exact⟨rfl,rfl,h⟩
 | bool=>obtain⟨rfl,h⟩:=h;exact⟨rfl,rfl,h⟩
 | str=>obtain⟨rfl,h⟩:=h;exact⟨rfl,rfl,h⟩
 | err=>obtain⟨rfl,h⟩:=h;exact⟨rfl,rfl,h⟩
theorem Cs.own_gifts (hI:∀b,g.I b->I b):{c:Cs}->{x:c.den}->{us:List Value}->{ns:List rF}->Cs.Own false g w c x us ns->(∀b∈ns.flatMap g.nest,g.I b)->Cs.Gifts I w c x us (ns.flatMap λn=>(g.top n).toList) (ns.flatMap g.nest)
 | .one c,x,us,ns,h,hn=>by obtain⟨v,rfl,h⟩:=h;exact⟨v,rfl,CT.own_gifts hI h hn⟩
 | .cons c r,x,us,ns,h,hn=>by
  obtain⟨v,vs',n1,n2,rfl,rfl,h1,h2⟩:=h;rw[flatMap_append,flatMap_append];rw[flatMap_append]at hn;exact⟨v,vs',_,_,_,_,rfl,rfl,rfl,CT.own_gifts hI h1 λb hb=>hn b (mem_append_left _ hb),Cs.own_gifts hI h2 λb hb=>hn b (mem_append_right _ hb)⟩
structure Gf (en:List (rF×Entry)) (g:Gh) (I:Nat->Prop) (used:List (rF×Entry)) (ro:List rF):Prop where
 old:∀b,g.I b->I b
 fwd:∀p∈used,∀e xs,p.2=.fwd e xs->∀b,g.top p.1=some b->I b
 lent:∀n∈ro,∀f b,rH en n=some f->f.alive=true->g.top n=some b->I b
theorem ui.append {u v:List (rF×Entry)} (h:ui en u) (k:ui en v):ui en (u++v):=λp hp=>(mem_append.1 hp).elim (h p) (k p)
theorem CT.into_top (hI:∀b,g.I b->I b) (hm:uN en g w) {c:CT} {x:Cell} {v:Value} {y:c.den×List (rF×Entry)} {L:List rF} (hc:rO (dom en) g w x v) (hr:(c.into false false x).Runs (rH en) y L) :
 ∃ns,CT.Gifts I w c y.1 v (tP g y.2) ns/\ui en y.2:=by
 cases hs:c.isSl with
 | true =>
  cases c with
  | sl e =>
   obtain⟨a,L1,L2,_,h1,h2⟩:=Rd.runs_bind (show (Gc e x).Runs (rH en) y L from hr);obtain⟨rfl,_⟩:=h2;rcases Cw hm hc h1 with ⟨rfl,rfl⟩|⟨xs,r,m,F,rfl,⟨ys,hn⟩,hrep,hcnt⟩
   · exact⟨[],⟨none,rfl,.inl ⟨rfl,rfl,rfl,rfl⟩,by simp⟩,by intro p hp;simp at hp⟩
   · obtain⟨_,_,hnI,_⟩:=tD hm hn;refine⟨F,⟨g.top r,by simp[tP,wg],hrep,λb hb=>hI b (hnI b ?_)⟩,λp hp=>?_⟩
     · have h1:=count_pos_iff.2 hb;have h2:=hcnt b
       exact count_pos_iff.1 (by omega)
     · obtain rfl:=mem_singleton.1 hp;exact .inl ⟨rfl,e,m,ys,hn⟩
  | int=>simp[CT.isSl]at hs
  | bool=>simp[CT.isSl]at hs
  | str=>simp[CT.isSl]at hs
  | err=>simp[CT.isSl]at hs
 | false =>
  obtain⟨h1,L',h2⟩:=CT.into_scalar hs hr;obtain⟨F,hF,_⟩:=CT.read_sound hm hc h2;have ho:=CT.Own_of_rep (kp:=false) (g:=g) hs ⟨F,hF⟩
  rw[h1];exact⟨[],CT.own_gifts hI ho (by simp),by intro p hp;simp at hp⟩
theorem Cs.into_top (hI:∀b,g.I b->I b) (hm:uN en g w):{e:Cs}->{xs:List Cell}->{vs:List Value}->{y:e.den×List (rF×Entry)}->{L:List rF}->rU (rO (dom en) g w) xs vs->(e.into false false xs).Runs (rH en) y L ->
 ∃ns,Cs.Gifts I w e y.1 vs (tP g y.2) ns/\ui en y.2
 | .one c,[],_,_,_,_,hr=>hr.elim
 | .one c,[x],[v],y,L,hc,hr=>by
  obtain⟨ns,h1,h2⟩:=CT.into_top hI hm hc.1 hr;exact⟨ns,⟨v,rfl,h1⟩,h2⟩
 | .one c,_::_::_,_,_,_,_,hr=>hr.elim
 | .cons c r,[],_,_,_,_,hr=>hr.elim
 | .cons c r,x::xs,v::vs,y,L,hc,hr=>by
  simp only[Cs.into]at hr;obtain⟨a,L1,L2,rfl,h1,hr⟩:=Rd.runs_bind hr;obtain⟨b,L3,L4,rfl,h2,hr⟩:=Rd.runs_bind hr;obtain⟨rfl,_⟩:=hr;obtain⟨n1,k1,k2⟩:=CT.into_top hI hm hc.1 h1;obtain⟨n2,k3,k4⟩:=Cs.into_top hI hm hc.2 h2;exact⟨n1++n2,⟨v,vs,tP g a.2,tP g b.2,n1,n2,rfl,flatMap_append,rfl,k1,k3⟩,k2.append k4⟩
theorem yF (hm:uN en g w) {own:Option Bool} {c:Cs} {xs:List Cell} {us:List Value} {y:c.den×List (rF×Entry)} {L:List rF} (hc:rU (rO (dom en) g w) xs us) (hr:(c.intoO own xs).Runs (rH en) y L) {used:List (rF×Entry)} {ro:List rF}
 (hs:Gf en g I used ro) (hsub:∀p∈y.2,p∈used):xc I w own c y.1 us (tP g y.2) (tU en g y.2)/\ui en y.2:=by
 cases own with
 | some m =>
  cases m with
  | true =>
   obtain⟨h1,h2⟩:=Cs.into_own hm hc hr;obtain⟨k1,k2,k3,k4⟩:=FQ hm h2;refine⟨.inl ⟨true,_,rfl,?_,λ_=>rfl⟩,k3⟩;rw[k2]at k4;rw[k1,k2];exact Cs.own_gifts hs.old h1 k4
  | false =>
   obtain⟨ns',h1,h2⟩:=Cs.into_top hs.old hm hc hr;exact⟨.inl ⟨false,ns',rfl,h1,(λh=>by cases h)⟩,h2⟩
 | none =>
  obtain⟨⟨F,h1,h3⟩,h2⟩:=Cs.into_shared hm hc hr;obtain⟨k1,k2,k3⟩:=H5 (g:=g) h2;refine⟨.inr ⟨rfl,k1,k2,F,h1,λb hb=>?_⟩,k3⟩;rcases h3 b hb with h|⟨n,hn,f,hf,ha,ht⟩
  · exact hs.old b h
  · obtain⟨p,hp,rfl⟩:=mem_map.1 hn;obtain⟨e,m,xs',e1,_,e3⟩|⟨_,e,xs',e1,e3⟩:=h2 p hp
    · exact hs.fwd p (hsub p hp) e xs' e3 b ht
    · rw[e1]at hf;cases hf;cases ha
def wy (en:List (rF×Entry)) (g:Gh) (used:List (rF×Entry)):List sU->List Value->List rF->Prop
 | [],_,ns=>ns=[]
 | _::_,[],_=>False
 | .val .. :: ps,_::vs,ns=>wy en g used ps vs ns
 | .ptr .. :: ps,v::vs,ns=>∃n ns',ns=n::ns'/\(n,.gone)∈used/\(∃cs,rH en n=some (.box cs))/\g.loc n=v/\wy en g used ps vs ns'
theorem wy.mono {used used':List (rF×Entry)} (h:∀p∈used,p∈used'):∀{ps:List sU} {vs:List Value} {ns:List rF},wy en g used ps vs ns->wy en g used' ps vs ns
 | [],_,_,k=>k
 | .val .. :: ps,v::vs,ns,k=>wy.mono (ps:=ps) (vs:=vs) h k
 | .ptr .. :: ps,v::vs,ns,⟨n,ns',k1,k2,k3,k4,k5⟩=>⟨n,ns',k1,h _ k2,k3,k4,wy.mono h k5⟩
 | .val .. :: _,[],_,k=>k
 | .ptr .. :: _,[],_,k=>k
theorem AR (hm:uN en g w) {sl:Bool}:∀{ps:List sU} {args:List AV} {vals:List Value} {b:BK (sk ps)} {L:List rF},rU (sP (dom en) g w) args vals->(tu sl ps args).Runs (rH en) b L->Gf en g I b.used b.ro ->
 wx I w ps b.args vals (tP g b.used) (tU en g b.used)/\ui en b.used/\wy en g b.used ps vals b.ptrs
 | [],[],[],b,L,_,hr,_=>by obtain⟨rfl,_⟩:=hr;exact⟨⟨rfl,rfl,rfl⟩,λp hp=>by simp at hp,rfl⟩
 | .val agg c false::ps,v::args,u::vals,b,L,ha,hr,hs=>by
  simp only[tu]at hr;obtain⟨_,L5,L6,_,h0,hr⟩:=Rd.runs_bind hr;obtain⟨a,L1,L2,_,h1,hr⟩:=Rd.runs_bind hr;obtain⟨b',L3,L4,_,h2,hr⟩:=Rd.runs_bind hr;obtain⟨rfl,_⟩:=hr;obtain⟨us,hag,hcs⟩:=AQ ha.1 (Rd.runs_need h0).1;obtain⟨k1,k2,k3⟩:=AR hm ha.2 h2 ⟨hs.old,λp hp=>hs.fwd p (mem_append_right _ hp),λn hn=>hs.lent n (mem_append_right _ hn)⟩;cases sl with
  | true =>
   obtain⟨k4,k5⟩:=yF (own:=none) hm hcs h1 hs (λp hp=>mem_append_left _ hp);refine⟨⟨u,vals,us,_,_,_,_,rfl,hag,flatMap_append,flatMap_append,?_,?_⟩,k5.append k2,wy.mono (ps:=ps) (vs:=vals) (λp hp=>mem_append_right _ hp) k3⟩
   · show xc I w none c (rN.hd c (sk ps) (rN.mk c (sk ps) a.1 b'.args)) us _ _;rw[rN.hd_mk];exact k4
   · show wx I w ps (rN.tl c (sk ps) (rN.mk c (sk ps) a.1 b'.args)) vals _ _;rw[rN.tl_mk];exact k1
  | false =>
   obtain⟨y,_,_,_,h3,h4⟩:=Rd.runs_bind h1;obtain⟨rfl,_⟩:=h4;obtain⟨F,hF,hFI⟩:=Cs.read_sound hm hcs h3;refine⟨⟨u,vals,us,[],tP g b'.used,[],tU en g b'.used,rfl,hag,by simp,by simp,.inr ⟨rfl,rfl,rfl,F,?_,λq hq=>?_⟩,?_⟩,k2,wy.mono (ps:=ps) (vs:=vals) (λp hp=>hp) k3⟩
   · show Cs.Rep w c (rN.hd c (sk ps) (rN.mk c (sk ps) y b'.args)) us F;rw[rN.hd_mk];exact hF
   · rcases hFI q hq with h|⟨n,hn,f,hf,hal,ht⟩
     · exact hs.old q h
     · exact hs.lent n (mem_append_left _ hn) f q hf hal ht
   · show wx I w ps (rN.tl c (sk ps) (rN.mk c (sk ps) y b'.args)) vals _ _;rw[rN.tl_mk];exact k1
 | .val agg c true::ps,v::args,u::vals,b,L,ha,hr,hs=>by
  simp only[tu]at hr;obtain⟨_,L5,L6,_,h0,hr⟩:=Rd.runs_bind hr;obtain⟨a,L1,L2,_,h1,hr⟩:=Rd.runs_bind hr;obtain⟨b',L3,L4,_,h2,hr⟩:=Rd.runs_bind hr;obtain⟨rfl,_⟩:=hr;obtain⟨us,hag,hcs⟩:=AQ ha.1 (Rd.runs_need h0).1;obtain⟨k1,k2,k3⟩:=AR hm ha.2 h2 ⟨hs.old,λp hp=>hs.fwd p (mem_append_right _ hp),hs.lent⟩;obtain⟨k4,k5⟩:=yF (own:=some true) hm hcs h1 hs (λp hp=>mem_append_left _ hp);refine⟨⟨u,vals,us,_,_,_,_,rfl,hag,flatMap_append,flatMap_append,?_,?_⟩,k5.append k2,wy.mono (ps:=ps) (vs:=vals) (λp hp=>mem_append_right _ hp) k3⟩
  · show xc I w (some true) c (rN.hd c (sk ps) (rN.mk c (sk ps) a.1 b'.args)) us _ _;rw[rN.hd_mk];exact k4
  · show wx I w ps (rN.tl c (sk ps) (rN.mk c (sk ps) a.1 b'.args)) vals _ _;rw[rN.tl_mk];exact k1
 | .ptr c own::ps,.cell (.box n 0)::args,u::vals,b,L,ha,hr,hs=>by
  simp only[tu]at hr;obtain⟨L',_,hr⟩:=hr;dsimp only at hr;split at hr
  · rename_i cs hn;obtain⟨a,L1,L2,_,h1,hr⟩:=Rd.runs_bind hr;obtain⟨b',L3,L4,_,h2,hr⟩:=Rd.runs_bind hr;obtain⟨rfl,_⟩:=hr;obtain⟨k1,k2,k3⟩:=AR hm ha.2 h2 ⟨hs.old,λp hp=>hs.fwd p (mem_cons_of_mem _ (mem_append_right _ hp)),hs.lent⟩;obtain⟨blk,us,e1,e2,e3,e4⟩:=hm.rep n _ hn;obtain⟨k4,k5⟩:=yF (own:=own) hm e4 h1 hs (λp hp=>mem_cons_of_mem _ (mem_append_left _ hp));obtain⟨_,blk',e5,e6⟩:=ha.1;rw[e2]at e5;cases e5;refine⟨⟨blk,vals,us,tP g a.2,tP g b'.used,tU en g a.2,tU en g b'.used,?_,e3,?_,?_,?_,?_⟩,?_,n,b'.ptrs,rfl,mem_cons_self,⟨cs,hn⟩,e2.trans e6.symm,wy.mono (λp hp=>mem_cons_of_mem _ (mem_append_right _ hp)) k3⟩
    · rw[e6]
    · show ((n,Entry.gone)::(a.2++b'.used)).flatMap (wg g)=_;rw[flatMap_cons,flatMap_append];simp[wg,e1,tP]
    · show ((n,Entry.gone)::(a.2++b'.used)).flatMap (vL en g)=_;rw[flatMap_cons,flatMap_append];simp[vL,hn,tU]
    · show xc I w own c (rN.hd c (sk ps) (rN.mk c (sk ps) a.1 b'.args)) us _ _;rw[rN.hd_mk];exact k4
    · show wx I w ps (rN.tl c (sk ps) (rN.mk c (sk ps) a.1 b'.args)) vals _ _;rw[rN.tl_mk];exact k1
    · intro p hp;rcases mem_cons.1 hp with rfl|hp
      · exact .inr (.inl ⟨rfl,cs,hn⟩)
      · exact (k5.append k2) p hp
  · exact hr.elim
 | .val _ _ false::_,[],_,_,_,_,hr,_=>hr.elim
 | .val _ _ true::_,[],_,_,_,_,hr,_=>hr.elim
 | .ptr _ _::_,[],_,_,_,_,hr,_=>hr.elim
end Go.V
namespace Go.V
variable {w0:World} {T N:Nat->Prop} {en en':List (rF×Entry)} {g g':Gh} {w:World} {I:Nat->Prop}

theorem LD {b off:Nat} {vs us:List Value} (h:row w b off vs) (k:row w b off us) (hl:vs.length=us.length):vs=us:=by
 obtain⟨c,t,fz,h1,h2⟩:=h;obtain⟨c',t',fz',k1,k2⟩:=k;rw[h1]at k1;cases k1;rw[←h2,←k2,hl]
theorem s6.uniq {α:Type} {n:Nat} {R:α->List Value->List Nat->Prop} (hR:∀x y v F G,R x v F->R y v G->x=y):∀{xs ys:List α} {vs:List Value} {F G:List Nat},xs.length=ys.length->s6 n R xs vs F->s6 n R ys vs G->xs=ys
 | [],[],_,_,_,_,_,_=>rfl
 | x::xs,y::ys,vs,F,G,hl,h,k=>by
  obtain⟨v1,v2,F1,F2,rfl,h1,rfl,hr,h⟩:=h;obtain⟨u1,u2,G1,G2,he,k1,rfl,kr,k⟩:=k;obtain⟨rfl,rfl⟩:=List.append_inj he (by omega);rw[hR x y v1 F1 G1 hr kr,s6.uniq hR (by simpa using hl) h k]
 | [],_::_,_,_,_,hl,_,_=>by simp at hl
 | _::_,[],_,_,_,hl,_,_=>by simp at hl
mutual
theorem CT.Rep.uniq:∀{c:CT} {x y:c.den} {v:Value} {F G:List Nat},CT.Rep w c x v F->CT.Rep w c y v G->x=y
 | .int k,x,y,v,F,G,h,h'=>by
  simp only[CT.Rep]at h h';have:=h.1.symm.trans h'.1
  cases this;rfl
 | .bool,x,y,v,F,G,h,h'=>by
  simp only[CT.Rep]at h h';have:=h.1.symm.trans h'.1
  cases this;rfl
 | .str,x,y,v,F,G,h,h'=>by
  simp only[CT.Rep]at h h';have:=h.1.symm.trans h'.1
  simp only[Value.string.injEq]at this;have:=congrArg (λb:ByteArray=>b.data.toList) this
  simpa using this
 | .err,x,y,v,F,G,h,h'=>by
  simp only[CT.Rep]at h h';rcases h.2 with ⟨h1,h2⟩|⟨h1,t,u,h2⟩<;>rcases h'.2 with ⟨k1,k2⟩|⟨k1,t',u',k2⟩
  · rw[h1,k1]
  · rw[h2]at k2;cases k2
  · rw[h2]at k2;cases k2
  · rw[h1,k1]
 | .sl e,x,y,v,F,G,h,h'=>by
  rw[uB]at h h';rcases h with ⟨⟨a,h1⟩,h2,_⟩|⟨b,off,cap,vs,F',h1,_,h3,h4,h5,h6⟩<;>rcases h' with ⟨⟨a',k1⟩,k2,_⟩|⟨b',off',cap',vs',G',k1,_,k3,k4,k5,k6⟩
  · rw[h2,k2]
  · rw[h1]at k1;have:y.length=0:=by simp only[Value.slice.injEq]at k1;exact k1.2.1.symm
    rw[h2];exact (List.eq_nil_of_length_eq_zero this).symm
  · rw[k1]at h1;have:x.length=0:=by simp only[Value.slice.injEq]at h1;exact h1.2.1.symm
    rw[k2];exact List.eq_nil_of_length_eq_zero this
  · rw[h1]at k1;simp only[Value.slice.injEq,Option.some.injEq,Addr.mk.injEq]at k1;obtain⟨⟨rfl,rfl,_⟩,hl,_⟩:=k1;have e1:=h6.length
    have e2:=k6.length;have:=LD h5 k5 (by rw[e1,e2,hl])
    subst this;exact s6.uniq (R:=Cs.Rep w e) (λx y v F G h k=>Cs.Rep.uniq h k) hl h6 k6
theorem Cs.Rep.uniq:∀{e:Cs} {x y:e.den} {vs:List Value} {F G:List Nat},Cs.Rep w e x vs F->Cs.Rep w e y vs G->x=y
 | .one c,x,y,vs,F,G,h,k=>by
  simp only[Cs.Rep]at h k;obtain⟨v,rfl,h⟩:=h;obtain⟨u,hu,k⟩:=k;cases hu;exact CT.Rep.uniq h k
 | .cons c r,x,y,vs,F,G,h,k=>by
  simp only[Cs.Rep]at h k;obtain⟨v,vs',F1,F2,rfl,rfl,h1,h2⟩:=h;obtain⟨u,us',G1,G2,hu,rfl,k1,k2⟩:=k;cases hu;exact Prod.ext (CT.Rep.uniq h1 k1) (Cs.Rep.uniq h2 k2)
end
theorem Cs.slIs_lt:∀{e:Cs} {j:Nat} {f:Cs},e.slIs j f=true->j<e.len
 | .one c,0,_,_=>by simp[Cs.len]
 | .one c,j+1,f,h=>by cases c<;>simp[Cs.slIs]at h
 | .cons c r,0,_,_=>by simp[Cs.len]
 | .cons c r,j+1,f,h=>by
  have h:r.slIs j f=true:=by cases c<;>exact h
  have:=Cs.slIs_lt h;simp[Cs.len];omega
theorem DE (n m:Nat) (P:Nat->List Nat):(List.range (n+m)).flatMap P=(List.range n).flatMap P++(List.range m).flatMap λk=>P (n+k):=by
 rw[List.range_add,flatMap_append,List.flatMap_map]
theorem Cs.Rep.feet:∀{e:Cs} {x:e.den} {vs:List Value} {F:List Nat},Cs.Rep w e x vs F->∃P:Nat->List Nat,F=(List.range e.len).flatMap P/\∀j f,e.slIs j f=true->∃v zs,vs[j]?=some v/\CT.Rep w (.sl f) zs v (P j)
 | .one c,x,vs,F,h=>by
  simp only[Cs.Rep]at h;obtain⟨v,rfl,h⟩:=h;refine⟨λ_=>F,by simp[Cs.len],λj f hj=>?_⟩;obtain rfl:j=0:=by have:=Cs.slIs_lt hj;simp[Cs.len]at this;exact this
  cases c with
  | sl e =>
   obtain rfl:=vg (show tq e f=true from hj);exact⟨v,x,rfl,h⟩
  | _=>cases hj
 | .cons c r,x,vs,F,h=>by
  simp only[Cs.Rep]at h;obtain⟨v,vs',F1,F2,rfl,rfl,h1,h2⟩:=h;obtain⟨P,hP,hk⟩:=Cs.Rep.feet h2;refine⟨fun|0=>F1|k+1=>P k,?_,λj f hj=>?_⟩
  · rw[show Cs.len (.cons c r)=1+r.len by simp[Cs.len];omega,DE,hP]
    congr 1
    · simp
    · congr 1;funext k;rw[show 1+k=k+1 by omega]
  · cases j with
    | zero =>
     cases c with
     | sl e =>
      obtain rfl:=vg (show tq e f=true from hj);exact⟨v,x.1,rfl,h1⟩
     | _=>cases hj
    | succ j =>
     obtain⟨u,zs,k1,k2⟩:=hk j f (by cases c<;>exact hj);exact⟨u,zs,by simpa using k1,k2⟩
theorem CI {α β:Type} {f g:α->List β} {l:List α} (h:∀x∈l,f x=g x):l.flatMap f=l.flatMap g:=by
 rw[List.flatMap_def,List.flatMap_def,List.map_congr_left h]
theorem s6.feet {e:Cs}:∀{ys:List e.den} {vs:List Value} {F:List Nat},s6 e.len (Cs.Rep w e) ys vs F->∃P:Nat->List Nat,F=(List.range (ys.length*e.len)).flatMap P/\∀i j f,i<ys.length->e.slIs j f=true->∃v zs,vs[i*e.len+j]?=some v/\CT.Rep w (.sl f) zs v (P (i*e.len+j))
 | [],vs,F,h=>by obtain⟨_,rfl⟩:=h;exact⟨λ_=>[],by simp,λi j f hi=>by simp at hi⟩
 | y::ys,vs,F,h=>by
  obtain⟨v1,v2,F1,F2,rfl,hv,rfl,hr,h⟩:=h;obtain⟨P1,p1,p2⟩:=Cs.Rep.feet hr;obtain⟨P2,q1,q2⟩:=s6.feet h;refine⟨λp=>if p<e.len then P1 p else P2 (p-e.len),?_,λi j f hi hj=>?_⟩
  · rw[show (y::ys).length*e.len=e.len+ys.length*e.len by rw[List.length_cons,Nat.succ_mul];omega,DE,p1,q1]
    congr 1
    · refine CI λp hp=>?_;rw[if_pos (List.mem_range.1 hp)]
    · refine CI λp hp=>?_;rw[if_neg (by omega),Nat.add_sub_cancel_left]
  · have hjl:=Cs.slIs_lt hj;cases i with
    | zero =>
     obtain⟨v,zs,k1,k2⟩:=p2 j f hj;refine⟨v,zs,?_,?_⟩
     · rw[Nat.zero_mul,Nat.zero_add,List.getElem?_append_left (by omega)];exact k1
     · rw[Nat.zero_mul,Nat.zero_add];simp only[if_pos hjl];exact k2
    | succ i =>
     obtain⟨v,zs,k1,k2⟩:=q2 i j f (by simpa using hi) hj;have e1:(i+1)*e.len+j=e.len+(i*e.len+j):=by rw[Nat.succ_mul];omega
     refine⟨v,zs,?_,?_⟩
     · rw[e1,List.getElem?_append_right (by omega),hv,Nat.add_sub_cancel_left];exact k1
     · rw[e1];simp only[if_neg (show ¬e.len+(i*e.len+j)<e.len by omega),Nat.add_sub_cancel_left];exact k2
theorem BU {P:Nat->List Nat} {b:Nat}:∀(n:Nat) (ps:List Nat),ps.Nodup->(∀p∈ps,p<n)->(ps.flatMap P).count b<=((List.range n).flatMap P).count b
 | 0,ps,_,h=>by
  cases ps with
  | nil=>simp
  | cons p ps=>have:=h p (by simp);omega
 | n+1,ps,hn,h=>by
  rw[List.range_succ,flatMap_append,count_append];by_cases hm:n∈ps
  · have h1:=List.perm_cons_erase hm;have h2:(ps.flatMap P).count b=((n::ps.erase n).flatMap P).count b:=by
     rw[List.count_flatMap,List.count_flatMap];exact (h1.map _).sum_nat
    rw[h2,flatMap_cons,count_append];have h3:=BU n (ps.erase n) (hn.erase n) (λp hp=>by
     have h4:=h p (List.mem_of_mem_erase hp);have h5:p≠n:=λe=>by subst e;exact (List.Nodup.not_mem_erase hn) hp
     omega) (P:=P) (b:=b)
    simp only[flatMap_cons,List.flatMap_nil,append_nil];omega
  · have h3:=BU n ps hn (λp hp=>by
     have h4:=h p hp;have h5:p≠n:=λe=>by subst e;exact hm hp
     omega) (P:=P) (b:=b)
    omega
def Ew (en:List (rF×Entry)) (g:Gh) (w:World) (r:rF) (P:Nat->List Nat):Prop :=
 ∀e ys,rH en r=some (.frz e ys)->(∀b,((List.range (ys.length*e.len)).flatMap P).count b<=(g.nest r).count b) /\
  ∀j f (xs:List f.den) v,rO (dom en) g w (.kid r j f xs) v->e.slIs j f=true->∃p,p%e.len=j/\p<ys.length*e.len/\CT.Rep w (.sl f) xs v (P p)
theorem MZ (hm:uN en g w):∃P:rF->Nat->List Nat,∀r,Ew en g w r (P r):=by
 apply Classical.skolem.1;intro r;cases hn:rH en r with
 | none=>exact⟨λ_=>[],λe ys h=>by rw[hn]at h;cases h⟩
 | some E =>
  cases E with
  | frz e ys =>
   obtain⟨k1,k2,k3,k4,k5⟩:=hm.rep r _ hn;rw[uB]at k3;rcases k3 with ⟨⟨a,h1⟩,rfl,h3⟩|⟨b,off,cap,vs,F',h1,h2,h3,h4,h5,h6⟩
   · refine⟨λ_=>[],λe' ys' h=>?_⟩;rw[hn]at h;cases h;refine⟨λb=>by simp,λj f xs v hv hj=>?_⟩;obtain⟨_,_,b,o,len,cap,i,q1,q2,_⟩:=hv;rw[h1]at q1;cases q1;omega
   · obtain⟨P,p1,p2⟩:=s6.feet h6;refine⟨P,λe' ys' h=>?_⟩;rw[hn]at h;cases h;refine⟨λc=>by rw[←p1,h2,List.count_cons];omega,λj f xs v hv hj=>?_⟩;obtain⟨⟨F,hF,_⟩,_,b',o,len,cap',i,q1,q2,q3,q4⟩:=hv;rw[h1]at q1;cases q1;have hjl:=Cs.slIs_lt hj
     obtain⟨u,zs,r1,r2⟩:=p2 i j f q2 hj;have hvl:=h6.length
     have hu:u=v:=by
      rw[k1]at q4;have hlt:i*e.len+j<vs.length:=(List.getElem?_eq_some_iff.1 r1).1
      obtain⟨c,t,fz,hc,hr⟩:=h5;obtain⟨c',t',fz',hc',hr'⟩:=q4;rw[hc]at hc';cases hc';have e1:vs[i*e.len+j]?=c.toList[off+(i*e.len+j)]?:=by
       rw[←hr,List.getElem?_take_of_lt hlt,List.getElem?_drop]
      have e2:c.toList[off+(i*e.len+j)]?=some v:=by
       have:=congrArg (λl:List Value=>l[0]?) hr';simp only[List.length_singleton,List.getElem?_take_of_lt (show 0<1 by omega),List.getElem?_drop,Nat.add_zero]at this;simpa using this
      rw[e1,e2]at r1;cases r1;rfl
     subst hu;have hxz:zs=xs:=CT.Rep.uniq r2 hF
     subst hxz;refine⟨i*e.len+j,?_,?_,r2⟩
     · rw[Nat.mul_comm,Nat.mul_add_mod,Nat.mod_eq_of_lt hjl]
     · have:=Nat.mul_le_mul_right e.len (show i+1<=ys.length from q2);rw[Nat.succ_mul]at this;omega
  | _=>exact⟨λ_=>[],λe ys h=>by rw[hn]at h;cases h⟩
def Dd (en:List (rF×Entry)) (g:Gh) (P:rF->Nat->List Nat) (c:rF×Option Nat) (G:List Nat):Prop :=
 ∃e ys,rH en c.1=some (.frz e ys)/\match c.2 with|none=>G=g.nest c.1|some j=>∃p,p%e.len=j/\p<ys.length*e.len/\G=P c.1 p
theorem CT.chill_sound (hm:uN en g w) {P:rF->Nat->List Nat} (hP:∀r,Ew en g w r (P r)) {c:CT} {x:Cell} {v:Value} {y:c.den×List (rF×Option Nat)} {L:List rF} (hc:rO (dom en) g w x v) (hr:(c.chill x).Runs (rH en) y L) :
 ∃F Gs,CT.Rep w c y.1 v F/\F=Gs.flatten/\rU (Dd en g P) y.2 Gs:=by
 cases c with
 | sl e =>
  cases x<;>try exact hr.elim
  case nil=>obtain⟨rfl,_⟩:=hr;exact⟨[],[],uB.2 (.inl ⟨⟨_,hc⟩,rfl,rfl⟩),rfl,trivial⟩
  case own r =>
   obtain⟨L',_,hr⟩:=hr;dsimp only at hr;split at hr
   · rename_i f ys hn;split at hr
     · rename_i h _;subst h;obtain⟨rfl,_⟩:=hr;obtain⟨_,_,k3,_⟩:=hm.rep r _ hn;obtain⟨_,rfl⟩:=hc;exact⟨_,[g.nest r],k3,by simp,⟨_,ys,hn,rfl⟩,trivial⟩
     · exact hr.elim
   · exact hr.elim
  case kid r j f xs =>
   simp only[CT.chill]at hr;split at hr
   · rename_i h _;subst h;obtain⟨L',_,hr⟩:=hr;dsimp only at hr;split at hr
     · rename_i q ys hn;cases hk:q.slIs j f with
       | false=>rw[hk]at hr;exact hr.elim
       | true =>
        rw[hk]at hr;obtain⟨rfl,_⟩:=hr;obtain⟨p,p1,p2,p3⟩:=(hP r q ys hn).2 j f xs v hc hk;exact⟨_,[P r p],p3,by simp,⟨q,ys,hn,p,p1,p2,rfl⟩,trivial⟩
     · exact hr.elim
   · exact hr.elim
 | int k =>
  obtain⟨a,L1,L2,_,h1,rfl,_⟩:=Rd.runs_bind hr;obtain⟨F,hF,_⟩:=CT.read_sound (c:=.int k) hm hc h1;rw[CT.rep_foot rfl hF]at hF;exact⟨[],[],hF,rfl,trivial⟩
 | bool =>
  obtain⟨a,L1,L2,_,h1,rfl,_⟩:=Rd.runs_bind hr;obtain⟨F,hF,_⟩:=CT.read_sound (c:=.bool) hm hc h1;rw[CT.rep_foot rfl hF]at hF;exact⟨[],[],hF,rfl,trivial⟩
 | str =>
  obtain⟨a,L1,L2,_,h1,rfl,_⟩:=Rd.runs_bind hr;obtain⟨F,hF,_⟩:=CT.read_sound (c:=.str) hm hc h1;rw[CT.rep_foot rfl hF]at hF;exact⟨[],[],hF,rfl,trivial⟩
 | err =>
  obtain⟨a,L1,L2,_,h1,rfl,_⟩:=Rd.runs_bind hr;obtain⟨F,hF,_⟩:=CT.read_sound (c:=.err) hm hc h1;rw[CT.rep_foot rfl hF]at hF;exact⟨[],[],hF,rfl,trivial⟩
theorem Cs.chill_sound (hm:uN en g w) {P:rF->Nat->List Nat} (hP:∀r,Ew en g w r (P r)):∀{e:Cs} {xs:List Cell} {vs:List Value} {y:e.den×List (rF×Option Nat)} {L:List rF},rU (rO (dom en) g w) xs vs->(e.chill xs).Runs (rH en) y L ->
 ∃F Gs,Cs.Rep w e y.1 vs F/\F=Gs.flatten/\rU (Dd en g P) y.2 Gs
 | .one c,[x],[v],y,L,hc,hr=>by
  obtain⟨F,Gs,h1,h2,h3⟩:=CT.chill_sound hm hP hc.1 hr;exact⟨F,Gs,by simp only[Cs.Rep];exact⟨v,rfl,h1⟩,h2,h3⟩
 | .cons c r,x::xs,v::vs,y,L,hc,hr=>by
  simp only[Cs.chill]at hr;obtain⟨a,L1,L2,_,h1,hr⟩:=Rd.runs_bind hr;obtain⟨b,L3,L4,_,h2,hr⟩:=Rd.runs_bind hr;obtain⟨rfl,_⟩:=hr;obtain⟨F1,G1,a1,a2,a3⟩:=CT.chill_sound hm hP hc.1 h1;obtain⟨F2,G2,b1,b2,b3⟩:=Cs.chill_sound hm hP hc.2 h2;exact⟨F1++F2,G1++G2,by simp only[Cs.Rep];exact⟨v,vs,F1,F2,rfl,rfl,a1,b1⟩,by rw[a2,b2,List.flatten_append],a3.append b3⟩
 | .one _,[],_,_,_,_,hr=>hr.elim
 | .one _,_::_::_,_,_,_,_,hr=>hr.elim
 | .cons _ _,[],_,_,_,_,hr=>hr.elim
theorem H6 {P:rF->Nat->List Nat} {r:rF} {e:Cs} {ys:List e.den} (hn:rH en r=some (.frz e ys)):∀{lo:Nat} {l:List (rF×Option Nat)} {Gs:List (List Nat)},Bn r lo l=true->rU (Dd en g P) l Gs ->
 ∃ps:List Nat,Gs=ps.map (P r)/\(∀p∈ps,p<ys.length*e.len/\lo<=p%e.len)/\ps.Nodup
 | _,[],[],_,_=>⟨[],rfl,by simp,List.nodup_nil⟩
 | lo,(s,some j)::l,G::Gs,hk,h=>by
  simp only[Bn,aT]at hk;obtain⟨⟨h1,h2⟩,h3⟩:=hk;obtain rfl:=Nat.eq_of_beq_eq_true h1;obtain⟨⟨e',ys',hn',p,p1,p2,p3⟩,hA⟩:=h;rw[show rH en s=_ from hn]at hn';cases hn';obtain⟨ps,q1,q2,q3⟩:=H6 hn h3 hA;refine⟨p::ps,by rw[q1,p3];rfl,λq hq=>?_,List.nodup_cons.2 ⟨λhp=>?_,q3⟩⟩
  · rcases mem_cons.1 hq with rfl|hq
    · exact⟨p2,by rw[p1];exact Nat.le_of_ble_eq_true h2⟩
    · obtain⟨z1,z2⟩:=q2 q hq;exact⟨z1,by have:=Nat.le_of_ble_eq_true h2;omega⟩
  · have:=(q2 p hp).2;omega
 | _,(_,none)::_,_::_,hk,_=>by cases hk
theorem H7 (hm:uN en g w) {P:rF->Nat->List Nat} (hP:∀r,Ew en g w r (P r)) {l:List (rF×Option Nat)} {Gs:List (List Nat)} (hk:I2 l=true) (h:rU (Dd en g P) l Gs) :
 (∀b,Gs.flatten.count b<=(tU en g (yP l)).count b)/\tP g (yP l)=[]/\ui en (yP l)/\∀b∈Gs.flatten,g.I b:=by
 have kidCase:∀(r:rF) (j:Nat) (l:List (rF×Option Nat)) (Gs:List (List Nat)),Bn r (j+1) l=true->rU (Dd en g P) ((r,some j)::l) Gs ->
  (∀b,Gs.flatten.count b<=(tU en g [(r,.gone)]).count b)/\tP g [(r,.gone)]=[]/\ui en [(r,.gone)]/\∀b∈Gs.flatten,g.I b:=by
  intro r j l Gs hk h;cases Gs with
  | nil=>exact h.elim
  | cons G Gs =>
   obtain⟨⟨e,ys,hn,_⟩,_⟩:=id h;obtain⟨ps,q1,q2,q3⟩:=H6 (lo:=j) hn (by simp only[Bn,aT];exact⟨⟨by simp,by simp⟩,hk⟩) h;obtain⟨_,k2,_,k4,_⟩:=hm.rep r _ hn;have hcnt:∀b,(G::Gs).flatten.count b<=(g.nest r).count b:=λb=>by
    rw[q1,←List.flatMap_def];exact Nat.le_trans (BU _ ps q3 (λp hp=>(q2 p hp).1)) ((hP r e ys hn).1 b)
   refine⟨λb=>?_,by simp[tP,wg,k2],λp hp=>?_,λb hb=>k4 b (z7 (hcnt b) hb)⟩
   · simp only[tU,flatMap_cons,List.flatMap_nil,append_nil,vL,hn];exact hcnt b
   · obtain rfl:=mem_singleton.1 hp;exact .inr (.inr (.inr ⟨e,ys,hn,.inl rfl⟩))
 have ownCase:∀(l:List (rF×Option Nat)) (Gs:List (List Nat)),(l.all λp=>p.2.isNone)=true->rU (Dd en g P) l Gs ->
  Gs.flatten=tU en g (l.map λp=>(p.1,Entry.gone))/\tP g (l.map λp=>(p.1,Entry.gone))=[]/\ui en (l.map λp=>(p.1,Entry.gone))/\∀b∈Gs.flatten,g.I b:=by
  intro l
  induction l with
  | nil =>
   intro Gs _ h;cases Gs with
   | nil=>exact⟨rfl,rfl,λp hp=>by simp at hp,λb hb=>by simp at hb⟩
   | cons _ _=>exact h.elim
  | cons c l ih =>
   intro Gs hk h;cases Gs with
   | nil=>exact h.elim
   | cons G Gs =>
    obtain⟨r,x⟩:=c;simp only[List.all_cons,aT]at hk;cases x with
    | some j=>cases hk.1
    | none =>
     obtain⟨⟨e,ys,hn,hG⟩,hA⟩:=h;obtain⟨i1,i2,i3,i4⟩:=ih Gs hk.2 hA;have hG:G=g.nest r:=hG
     have hn:rH en r=some (.frz e ys):=hn;obtain⟨_,k2,_,k4,_⟩:=hm.rep r _ hn;refine⟨?_,?_,λp hp=>?_,λb hb=>?_⟩
     · rw[List.flatten_cons,i1,List.map_cons];unfold tU;rw[flatMap_cons];simp[vL,hn,hG]
     · rw[List.map_cons];unfold tP at i2 ⊢;rw[flatMap_cons,i2];simp[wg,k2]
     · rcases mem_cons.1 hp with rfl|hp
       · exact .inr (.inr (.inr ⟨e,ys,hn,.inl rfl⟩))
       · exact i3 p hp
     · rw[List.flatten_cons]at hb;rcases mem_append.1 hb with hb|hb
       · rw[hG]at hb;exact k4 b hb
       · exact i4 b hb
 match l,hk,h with
 | (r,some j)::l,hk,h=>exact kidCase r j l Gs hk h
 | [],hk,h =>
  obtain⟨i1,i2,i3,i4⟩:=ownCase [] Gs rfl h;exact⟨λb=>by rw[i1];exact Nat.le_refl _,i2,i3,i4⟩
 | (r,none)::l,hk,h =>
  obtain⟨i1,i2,i3,i4⟩:=ownCase ((r,none)::l) Gs hk h;exact⟨λb=>by rw[i1];exact Nat.le_refl _,i2,i3,i4⟩
end Go.V

