/- V: a run of the model's code over plain data, and that it is what the machine does. Part 3 of 4. No condition. -/
import Derived.Test.YtobeipmgjajdlaaGreatV2
import Derived.LoopN
import Derived.Laws.Sem
import Derived.ChangeOld
import Derived.WideShapes
import Derived.ChangeArms
open List (all_eq_true any_cons append_assoc append_nil cons_append count_append count_cons count_pos_iff flatMap_append flatMap_cons map_append mem_append mem_append_left mem_append_right mem_cons mem_cons_of_mem mem_cons_self mem_flatMap mem_map mem_map_of_mem mem_singleton pairwise_cons)
set_option linter.unusedVariables false
set_option linter.unusedSimpArgs false
namespace Go.V
variable {P:Program} {w0:World} {T N:Nat->Prop} {S:St} {g:Gh} {w w':World} {a:Act} {o:Oper} {G:lR} {uid rid:Nat} {en:List (an×Entry)} {Q:Exit->Act->World->Prop}

def CT.Slot (E:List (an×Entry)) (g:Gh):(c:CT)->Cell->Value->List (List Value)->Prop
 | .sl e,x,v,R=>∃r,x=.own r/\(kF E r=some .gone\/kF E r=none)/\g.loc r=v/\g.esz r=e.len/\R=[g.rows r]
 | _,_,_,R=>R=[]
def Cs.Slot (E:List (an×Entry)) (g:Gh):(c:Cs)->List Cell->List Value->List (List Value)->Prop
 | .one c,xs,vs,R=>∃x v,xs=[x]/\vs=[v]/\CT.Slot E g c x v R
 | .cons c r,xs,vs,R=>∃x v xs' vs' R1 R2,xs=x::xs'/\vs=v::vs'/\R=R1++R2/\CT.Slot E g c x v R1/\Cs.Slot E g r xs' vs' R2
theorem o9.one {e:Cs} {xs:List e.den} {v:Value} {F:List Nat} {rows:List Value} (h:o9 w e xs v F rows):v.oneCell'=true:=by
 obtain⟨a,c,rfl⟩:=oL h.slRep;rfl
theorem CT.Slot.mono {E E':List (an×Entry)} {g':Gh} (hg:∀n,g'.loc n=g.loc n/\g'.esz n=g.esz n/\g'.rows n=g.rows n) {c:CT} {x:Cell} {v:Value} {R:List (List Value)} {y:c.den} (hE:∀n∈(c.held x y).map (·.1),kF E' n=kF E n) (h:CT.Slot E g c x v R):CT.Slot E' g' c x v R:=by
 cases c with
 | sl e =>
  obtain⟨r,rfl,h1,h2,h3,h4⟩:=h;refine⟨r,rfl,?_,by rw[(hg r).1];exact h2,by rw[(hg r).2.1];exact h3,by rw[(hg r).2.2];exact h4⟩;rw[hE r (by simp[CT.held])];exact h1
 | _=>exact h
end Go.V
namespace Go.V
variable {P:Program} {w0:World} {T N:Nat->Prop} {S:St} {g:Gh} {w w':World} {a:Act} {o:Oper} {G:lR} {uid rid:Nat} {en:List (an×Entry)} {Q:Exit->Act->World->Prop}

theorem tM {f : FuncId} {fn : Func} {c : Code} (hf : P.funcs[f]?=some fn) (hn : (fn.name == "runtime.NumGoroutine")=false) (hb : fn.body=some c) (args : Array Value) : (callFunc f args).run P w=.ok (.enter f args) w := by
 simp only[callFunc,Sem.run_bind,run_program,Result.andThen,hf,hn];simp[hb]
theorem xv (h:lh w0 T N S g w a):∀(xs:List Operand),kM (lk (dom S.en) g w) (xs.map S.eval) (xs.map a.eval)
 | []=>trivial
 | x::xs=>⟨li h x,xv h xs⟩
theorem Bt (h:lh w0 T N S g w a) (hG:oF P G) {f:Operand} {args:Array Operand} {c:Call} (hc:c.callee=.value f) (hargs:c.args=args) (ho:o.op=.call c) {e:lj} {L:List an}
 (hr:(match S.eval f with
  | .cell (.fn g caps)=>(match kF G.fns g with
   | some F=>cond G.trees .fail (s9 uid F (args.toList.map S.eval++caps.map λn=>AV.cell (.box n 0)))
   | none=>.fail)
  | _=>.fail:Rd lj).Runs (kF S.en) e L) (hd:∀d,o.dst=some d->d<a.tmps.size) {K:Act->World->Prop}
 (hK:∀v w' g',lh w0 T N (S.put o.dst e) g' w' (a.put o.dst v)->Le (dom S.en) g w (dom (e.ents++S.en)) g' w'->K (a.put o.dst v) w'):o.wp P a w K Q:=by
 split at hr
 · rename_i fid caps e1;have hfv:=pH h e1
   obtain⟨cvs,hfv,hcaps⟩:=hfv;have plain : ∀{fn : Func} {cd : Code}, P.funcs[fid]?=some fn->(fn.name == "runtime.NumGoroutine")=false->fn.body=some cd->caps=[] ->
    (Calls P fid (args.toList.map a.eval).toArray w fun
     | .returned v,w'=>∃g',MS w0 T N (e.ents++S.en) g' w'/\Le (dom S.en) g w (dom (e.ents++S.en)) g' w'/\lk (dom (e.ents++S.en)) g' w' e.val v
     | _,_=>False)->o.wp P a w K Q:=by
    intro fn cd hf hn hb hcaps0 hcalls;subst hcaps0;have hcv:cvs.toList=[]:=by
     cases hq:cvs.toList with
     | nil=>rfl
     | cons u l=>rw[hq]at hcaps;exact hcaps.elim
    unfold Oper.wp;have hrun:(execOp a.eval o).run P w=.ok (.enter fid (args.toList.map a.eval).toArray) w:=by
     simp only[execOp,ho,resolve,hc,hargs,hfv,Deferred.ofValue,Sem.run_bind,Sem.run_pure,Result.andThen,invoke];rw[tM hf hn hb]
     congr 2
     apply Array.ext';simp[hcv]
    rw[hrun,Oper.upon_enter];refine Calls.mono hcalls λen' w' he=>?_;cases en' with
    | returned v =>
     obtain⟨g',hM,hle,hv⟩:=he;exact hK v w' g' (h.put hM hle hv hd) hle
    | panicked _=>exact he.elim
    | outgrown=>exact he.elim
   split at hr
   · rename_i F hF;cases ht:G.trees with
     | true =>
      rw[ht]at hr;exact hr.elim
     | false =>
     rw[ht]at hr;simp only[cF]at hr;obtain⟨⟨fn,cd,hf,hn,hb⟩,hmeets⟩:=hG.fns fid F hF;unfold s9 at hr;obtain⟨b,L1,L2,_,h1,hr⟩:=Rd.runs_bind hr;obtain⟨_,L3,L4,_,h2,hr⟩:=Rd.runs_bind hr;obtain⟨r,hden,hr⟩:=hr;obtain⟨rfl,hdist,hnew⟩:=nU hr;have hcs:kM (lk (dom S.en) g w) (caps.map λn=>AV.cell (.box n 0)) cvs.toList:=by
      have key:∀(l:List an) (m:List Value),kM (λn u=>dom S.en n/\(∃b,g.loc n=.pointer (some ⟨b,0,none⟩))/\u=g.loc n) l m->kM (lk (dom S.en) g w) (l.map λn=>AV.cell (.box n 0)) m:=by
       intro l
       induction l with
       | nil=>intro m h;cases m with
        | nil=>trivial
        | cons _ _=>exact h.elim
       | cons n l ih=>intro m h;cases m with
        | nil=>exact h.elim
        | cons u m =>
         obtain⟨⟨hdn,⟨b,hb⟩,hu⟩,h'⟩:=h;exact⟨⟨hdn,b,hb,hu.trans hb⟩,ih m h'⟩
      exact key caps _ hcaps
     have hcalls:=hmeets w0 T N S.en g w uid _ _ b L1 r h.ms ((xv h args.toList).append hcs) h1 (Rd.runs_need h2).1 hden hdist hnew;unfold Oper.wp;have hrun:(execOp a.eval o).run P w=.ok (.enter fid (args.toList.map a.eval++cvs.toList).toArray) w:=by
      simp only[execOp,ho,resolve,hc,hargs,hfv,Deferred.ofValue,Sem.run_bind,Sem.run_pure,Result.andThen,invoke];rw[tM hf hn hb]
      congr 2
      apply Array.ext';simp
     rw[hrun,Oper.upon_enter];refine Calls.mono hcalls λen' w' he=>?_;cases en' with
     | returned v =>
      obtain⟨g',hM,hle,hv⟩:=he;exact hK v w' g' (h.put hM hle hv hd) hle
     | panicked _=>exact he.elim
     | outgrown=>exact he.elim
   · exact hr.elim
 · exact hr.elim
end Go.V
namespace Go.V
variable {P:Program} {w0:World} {T N:Nat->Prop} {S:St} {g:Gh} {w w':World} {a:Act} {o:Oper} {G:lR} {uid rid:Nat} {en:List (an×Entry)} {Q:Exit->Act->World->Prop}

theorem C8 (h:lh w0 T N S g w a) (hG:oF P G) {op:Op} (ho:o.op=op) (hp:∀c x y,op≠.pick c x y) {e:lj} {L:List an} (hr:(mK G uid S.eval op).Runs (kF S.en) e L) (hd:∀d,o.dst=some d->d<a.tmps.size) {K:Act->World->Prop}
 (hK:∀v w' g',lh w0 T N (S.put o.dst e) g' w' (a.put o.dst v)->Le (dom S.en) g w (dom (e.ents++S.en)) g' w'->K (a.put o.dst v) w'):o.wp P a w K Q:=by
 have fin:la P w0 T N S g w a o e->o.wp P a w K Q:=λhf=>yw h hf hd hK;have hr0:=hr
 unfold mK at hr;split at hr
 case h_1=>obtain⟨rfl,_⟩:=hr;exact fin (yn h (.inl ho))
 case h_2=>obtain⟨rfl,_⟩:=hr;exact fin (yn h (.inr ho))
 case h_3=>exact absurd rfl (hp _ _ _)
 case h_4=>exact fin (Az h hG.tis ho hr0)
 case h_5=>exact fin (C3 h hG.tis ho hr0)
 case h_6=>exact fin (AA h hG.tis ho hr0)
 case h_7=>exact fin (wH h hG.tis ho hr0)
 case h_8=>exact fin (Bo h hG.tis ho hr0)
 case h_9=>exact fin (Ay h hG.tis ho hr0)
 case h_10=>exact fin (y6 h ho hr0)
 case h_11 =>
  replace hr:=lf hr;obtain⟨i,hi,hr⟩:=hr;exact fin (C1 h hG.tis ho hi (λxs ys hx hy e L hr=>C5 h hG.tis hG.eqs ho hi hx hy hr) hr)
 case h_12=>exact fin (BZ h ho hr0)
 case h_13=>exact fin (C0 h ho hr0)
 case h_14=>exact fin (yU h hG.tis ho hr0)
 case h_15=>exact fin (xc h hG.tis ho hr0)
 case h_16=>exact fin (Aw h hG.tis ho hr0)
 case h_17=>exact fin (x6 h hG.tis ho hr0)
 case h_18=>exact fin (x8 h hG.tis ho hr0)
 case h_19=>exact fin (Av h hG.tis ho hr0)
 case h_20=>exact fin (yN h ho hr0)
 case h_21=>exact fin (y7 h ho hr0)
 case h_22 x t =>
  replace hr:=lf hr;obtain⟨i,hi,hr⟩:=hr;cases hk:uX i (S.eval x)with
  | false=>rw[hk]at hr;exact hr.elim
  | true=>rw[hk]at hr;exact fin (C2 h ho hG.tis hi hk hr)
 case h_23=>exact fin (zM h hG.tis ho hr0)
 case h_24=>exact fin (w5 h .min (.inl rfl) ho hr)
 case h_25=>exact fin (w5 h .max (.inr rfl) ho hr)
 case h_26=>exact Bt h hG rfl rfl ho hr hd hK
 all_goals exact hr.elim
end Go.V
namespace Go.V
variable {P:Program} {w0:World} {T N:Nat->Prop} {S:St} {g:Gh} {w w':World} {a:Act} {o:Oper} {G:lR} {uid rid:Nat} {en:List (an×Entry)} {Q:Exit->Act->World->Prop} {ops:Array Oper}

theorem AK (h:lh w0 T N S g w a) (hG:oF P G) {e:lj} {L:List an} (hr:(qk G uid S.eval o.op).Runs (kF S.en) e L) (hd:∀d,o.dst=some d->d<a.tmps.size) {K:Act->World->Prop}
 (hK:∀v w' g',lh w0 T N (S.put o.dst e) g' w' (a.put o.dst v)->Le (dom S.en) g w (dom (e.ents++S.en)) g' w'->K (a.put o.dst v) w'):o.wp P a w K Q:=by
 by_cases hp:∃c x y,o.op=.pick c x y
 · obtain⟨c,x,y,hp⟩:=hp;rw[hp]at hr;exact yw h (Bm h hp hr) hd hK
 · rw[xm λc x y he=>hp ⟨c,x,y,he⟩]at hr;exact C8 h hG rfl (λc x y he=>hp ⟨c,x,y,he⟩) hr hd hK
theorem tN (h:lh w0 T N S g w a) {j:Nat} {t:Tmp} {b:Bool} (hj:nC ops.toList j=some t) (ht:S.tmp t=.cell (.bool b)):yielded ops a.tmps j=some b:=by
 have hv:=h.tmps t;rw[ht]at hv;have hv:a.tmps.getD t undef=.bool b:=hv
 unfold nC at hj;unfold yielded;cases ho:ops[j]? with
 | none=>simp[ho]at hj
 | some p =>
  simp[ho]at hj;simp only[Option.bind_some,hj];have:a.tmps[t]?=some (.bool b):=by
   unfold Array.getD at hv;split at hv
   · rename_i hlt;rw[Array.getElem?_eq_getElem hlt];exact congrArg some hv
   · cases hv
  rw[this]
theorem xw (h:lh w0 T N S g w a) {j:Nat} {t:Tmp} (hj:nC ops.toList j=some t) (ht:S.tmp t=.cell .void):yielded ops a.tmps j=none:=by
 have hv:=h.tmps t;rw[ht]at hv;have hv:a.tmps.getD t undef=undef:=hv
 unfold nC at hj;unfold yielded;cases ho:ops[j]? with
 | none=>simp
 | some p =>
  simp[ho]at hj;simp only[Option.bind_some,hj];cases hq:a.tmps[t]? with
  | none=>rfl
  | some v =>
   have:v=undef:=by
    have hlt:=(Array.getElem?_eq_some_iff.1 hq).1;have he:=(Array.getElem?_eq_some_iff.1 hq).2
    rw[←he];simpa[Array.getD,hlt]using hv
   rw[this];rfl
theorem Bu (h:lh w0 T N S g w a) (hG:oF P G) {i:Nat} {r:pf} (hs:oN G rid ops.toList S i o r) (hi:ops.toList[i]?=some o) (hd:∀d,o.dst=some d->d<a.tmps.size) {K:Act->World->Prop}
 (hK:∀v w' g',lh w0 T N (S.act o r) g' w' (a.put o.dst v)->Le (dom S.en) g w (dom (S.act o r).en) g' w'->K (a.put o.dst v) w'):wpOp P ops Q i K a w:=by
 have hi':ops[i]?=some o:=by simpa using hi
 unfold wpOp;simp only[hi'];cases r with
 | none =>
  obtain⟨j,want,t,hg,hj,ht⟩:=hs;have hw:Region.wanted o (yielded ops a.tmps)=false:=by
   simp only[Region.wanted,hg];rcases ht with ht|ht
   · rw[tN h hj ht];cases want<;>rfl
   · rw[xw h hj ht];rfl
  rw[hw];simp only[Bool.false_eq_true,if_false];exact hK undef w g (h.put (e:=⟨.cell .void,[]⟩) h.ms (Le.refl _ _ _) rfl hd) (Le.refl _ _ _)
 | some r =>
  obtain⟨e,L⟩:=r;obtain⟨hwn,hr⟩:=hs;have hw:Region.wanted o (yielded ops a.tmps)=true:=by
   unfold Region.wanted;cases hg:o.guard with
   | none=>rfl
   | some q =>
    obtain⟨j,want⟩:=q;obtain⟨t,hj,ht⟩:=hwn j want hg;simp only[tN h hj ht];cases want<;>rfl
  rw[hw];simp only[if_true];exact .inl (AK h hG hr hd hK)
end Go.V
namespace Go.V
variable {P:Program} {w0:World} {T N:Nat->Prop} {S S':St} {g:Gh} {w w':World} {a:Act} {G:lR} {rid:Nat} {Q:Exit->Act->World->Prop} {ops:Array Oper} {B:List Nat}

theorem oR:∀{l:List Oper} {i:Nat} {p:Nat×Oper},p∈mc i l->i<=p.1/\l[p.1-i]?=some p.2
 | [],i,p,h=>by simp[mc]at h
 | o::l,i,p,h=>by
  rw[mc]at h;rcases mem_cons.1 h with rfl|h
  · exact⟨Nat.le_refl _,by simp⟩
  · obtain⟨h1,h2⟩:=oR h;refine⟨by omega,?_⟩;rw[show p.1-i=(p.1-(i+1))+1 by omega];simpa using h2
theorem ra:∀(l:List Oper) (i:Nat),(mc i l).map (·.1)=List.range' i l.length
 | [],i=>rfl
 | o::l,i=>by rw[mc,List.map_cons,ra l (i+1)];rfl
theorem rb:∀(l:List Oper) (i:Nat),(mc i l).Pairwise λp q=>p.1<q.1
 | [],i=>List.Pairwise.nil
 | o::l,i=>by
  rw[mc];exact pairwise_cons.2 ⟨λq hq=>by have:=(oR hq).1;show i<q.1;omega,rb l (i+1)⟩
theorem tu:∀{l:List (Nat×Oper)},sH ops B l=true->l.Pairwise λp q=>mr (m8 B q.1) p.1=true\/Oper.apart ops p.2 q.2=true
 | [],h=>List.Pairwise.nil
 | (i,x)::l,h=>by
  simp only[sH,aT]at h;refine pairwise_cons.2 ⟨λq hq=>?_,tu h.2⟩;simpa using all_eq_true.1 h.1 q hq
def At (w0:World) (T N:Nat->Prop) (nt:Nat) (D0:an->Prop) (g0:Gh) (w1:World) (S:St) (a:Act) (w:World):Prop :=
 ∃g,lh w0 T N S g w a/\nt<=a.tmps.size/\Le D0 g0 w1 (dom S.en) g w
theorem lh.same (h:lh w0 T N S g w a) (hs:mO S S'):lh w0 T N S' g w a:=by
 have hM:=h.ms.congr hs.en;refine⟨hM.mem,hM.since,λt=>?_,h.plain⟩;rw[←hs.tm t,←nV hs.en];exact h.tmps t
theorem AL (a:Act) (d:Option Tmp) (v:Value):(a.put d v).tmps.size=a.tmps.size:=by
 unfold Act.put;cases d<;>simp
theorem At.sound (hG:oF P G) {nt:Nat} (hb:∀(i:Nat) o,ops.toList[i]?=some o->∀d,o.dst=some d->d<nt) {D0:an->Prop} {g0:Gh} {w1:World}:zb P G rid ops Q (At w0 T N nt D0 g0 w1):=by
 refine⟨λS S' a w hs ⟨g,h1,h2,h3⟩=>⟨g,h1.same hs,h2,by rw[←nV hs.en];exact h3⟩,λS i o r a w K hst hi ⟨g,h1,h2,h3⟩ hK=>?_⟩;exact Bu h1 hG hst hi (λd hd=>Nat.lt_of_lt_of_le (hb i o hi d hd) h2) λv w' g' hI hle=>hK _ _ ⟨g',hI,by rw[AL];exact h2,h3.trans hle⟩
theorem oN.closed {i:Nat} {o:Oper} {r:pf} {l:List Oper} (h:lu S) (hs:oN G rid l S i o r):lu (S.act o r):=by
 cases r with
 | none=>exact h.put _ (kT.pure (x:=.cell .void) (l6 rfl))
 | some r=>exact h.put _ (xn (λx=>h.eval x) h.box hs.2)
theorem lu.same (h:lu S) (hs:mO S S'):lu S':=by
 have hd:=nV hs.en;refine⟨λt=>by rw[←hs.tm t,←hd];exact h.tmp t,λn cs hn c hc=>?_⟩;rw[←hd];exact h.box n cs ((hs.en n).trans hn) c hc
theorem Tr.closed {l:List Oper}:∀{E:List Ev} {S S':St},lu S->Tr G rid l E S S'->lu S'
 | [],S,S',h,k=>h.same k
 | (i,o,r)::E,S,S',h,⟨k1,k2⟩=>Tr.closed (k1.closed h) k2
theorem Tr.dom {l:List Oper}:∀{E:List Ev} {S S':St},Tr G rid l E S S'->∀n,dom S.en n->dom S'.en n
 | [],S,S',k,n,hn=>by rw[←nV (show mO S S' from k).en];exact hn
 | (i,o,r)::E,S,S',⟨k1,k2⟩,n,hn=>by
  refine Tr.dom k2 n ?_;cases r with
  | none=>exact hn
  | some r=>exact n4 _ _ n hn
theorem uB {l:List Oper} {o:Oper} {t:Tmp} (h:t∉o.looksAt l.toArray):¬rH l o t:=λk=>h (xo k)
theorem At.drop {nt:Nat} {D0:an->Prop} {g0:Gh} {w1:World} {Z:List Tmp} {FN:List an} {S1:St} (h:At w0 T N nt D0 g0 w1 S1 a w) (hs:tr Z FN S S1) (hc:lu S) (hd:∀n,D0 n->Go.V.dom S.en n):At w0 T N nt D0 g0 w1 S a w:=by
 obtain⟨g,h1,h2,h3⟩:=h;exact⟨g,h1.drop hs hc,h2,⟨hd,h3.loc,h3.esz,h3.imm,h3.mem,h3.rows⟩⟩

structure pn (S S':St):Prop where
 en:∃nw,S'.en=nw++S.en
 tm:∃nt,S'.tm=nt++S.tm
theorem zZ {A:Type} (hG:oF P G) (hm:P.follows .mixedOrders=true) {nt:Nat} {draw:Bool} (hb:o3 nt (.region rid ops draw)=true) (h:lh w0 T N S g w a) (hn:nt<=a.tmps.size) (hc:lu S) {ann:List (Nat×kL)} {K:rz A} {r:A}
 (hr:nJ G ann (.region rid ops draw) S K=some r)
 (hQ:∀S' a' w',lu S'->pn S S'->At w0 T N nt (dom S.en) g w S' a' w'->K.n S'=some r->Q .normal a' w'):(Code.region rid ops draw).wp P Q a w:=by
 have hbel:∀(i:Nat) o,ops.toList[i]?=some o->∀d,o.dst=some d->d<nt:=by
  intro i o ho d hd;have:=all_eq_true.1 hb o (List.mem_of_getElem? ho)
  rw[hd]at this;exact Nat.lt_of_lt_of_le (Nat.lt_succ_self d) (Nat.le_of_ble_eq_true this)
 have hs:=At.sound (rid:=rid) (w0:=w0) (T:=T) (N:=N) (Q:=Q) (D0:=dom S.en) (g0:=g) (w1:=w) hG hbel;have hhere:∀{E:List Ev},E.map (λp=>(p.1,p.2.1))=mc 0 ops.toList->∀p∈E,ops.toList[p.1]?=some p.2.1:=by
  intro E hE p hp;have:=oR (oA hE hp)
  simpa using this.2
 have hfst:∀{E:List Ev},E.map (λp=>(p.1,p.2.1))=mc 0 ops.toList->E.map (·.1)=List.range ops.size:=by
  intro E hE;rw[show E.map (·.1)=(E.map (λp=>(p.1,p.2.1))).map (·.1) by rw[List.map_map];rfl,hE,ra,←List.range_eq_range'];rfl
 rw[nJ]at hr;cases hcase:(draw||ops.toList.any ym)with
 | false =>
  rw[hcase]at hr;simp only[cF]at hr;simp only[Bool.or_eq_false_iff]at hcase;obtain⟨E,S',h1,h2,h3,h4,h5⟩:=vj hr;rw[hcase.1];refine wp_region ?_;rw[←hfst h2];exact rW hs h1 (hhere h2) ⟨g,h,hn,Le.refl _ _ _⟩ λa' w' hR=>hQ S' a' w' (Tr.closed hc h1) ⟨h4,h5⟩ hR h3
 | true =>
  rw[hcase]at hr;simp only[cT]at hr;cases hck:(Nat.blt ops.toList.length 256&&(r4 0 (cond draw (ph ops.toList []) (v5 ops.toList.length))&&cond draw (wW ops (ph ops.toList [])) true))with
  | false=>rw[hck]at hr;cases hr
  | true =>
   rw[hck]at hr;simp only[aT,cT]at hck hr;obtain⟨c1,c2,c3⟩:=hck;have hB:rV ops.toList (cond draw (ph ops.toList []) (v5 ops.toList.length)):=rV.of (Nat.lt_of_lt_of_le (Nat.lt_succ_self _) (Nat.le_of_ble_eq_true c1)) c2
   have hin:tt rid ops.toList (cond draw (ph ops.toList []) (v5 ops.toList.length)) [] (mc 0 ops.toList) S S [] [] [] [] :=
    ⟨⟨λt=>.inl rfl,λn _=>rfl,λn hn=>by simp at hn⟩,λt c ht=>by simp[kF]at ht,λp hp=>by simp at hp,λn hn=>by simp at hn,
     λp hp=>by simpa using (oR hp).2,λp hp t ht=>by simp at ht,λp hp=>by simp at hp,rb _ _,hc⟩
   obtain⟨E,S1',S',acc',Z',FN',nw,k1,k2,k3,⟨k4,k4'⟩,k5,k6,k7,k8,k9,k10,k11,k12⟩:=(xt hB _ _ _ _ _ _ _ _ _ _ _ _ hr hin).out;have hend:∀a' w',At w0 T N nt (dom S.en) g w S1' a' w'->Q .normal a' w':=λa' w' hR =>
    hQ S' a' w' k4' ⟨⟨nw,k11.1⟩,k11.2⟩ (hR.drop k4 k4' λn hn=>by rw[k11.1];exact n4 _ _ n hn) k1
   cases draw with
   | false =>
    refine wp_region ?_;rw[←hfst k3];exact rW hs k2 (hhere k3) ⟨g,h,hn,Le.refl _ _ _⟩ hend
   | true =>
    simp only[cT]at c3 hB k8;simp only[wW,aT]at c3;obtain⟨⟨d1,d2⟩,d3⟩:=c3;refine wp_region_any hm ?_;obtain⟨hM,hle⟩:=h.ms.drew;have hI:lh w0 T N S g w.drew a:=⟨hM.mem,hM.since,λt=>lk.mono hle (h.tmps t),h.plain⟩
    have hlen:E.length=ops.size:=by
     have:=congrArg List.length (hfst k3);simpa using this
    refine zX hs (B:=ph ops.toList []) ⟨λi o ho b hb'=>?_,λi o ho e he heb=>?_⟩ hlen k2 ⟨by simp,hhere k3,λi hi=>?_,?_,?_,λi hi hl=>?_⟩ ⟨g,hI,hn,hle⟩ hend
    · exact wn ops.toList [] i o ho b (by simpa using hb')
    · have hmem:(i,o)∈mc 0 ops.toList:=by
       have hi:i∈(mc 0 ops.toList).map (·.1):=by
        rw[ra,←List.range_eq_range'];exact List.mem_range.2 (List.getElem?_eq_some_iff.1 ho).1
       obtain⟨p,hp,rfl⟩:=mem_map.1 hi;have:=(oR hp).2
       rw[Nat.sub_zero,ho]at this;cases this;exact hp
      have:=all_eq_true.1 (all_eq_true.1 d2 _ hmem) e he;rw[heb]at this;simp only[Bool.not_true,Bool.false_or]at this;exact Nat.lt_of_lt_of_le (Nat.lt_succ_self _) (Nat.le_of_ble_eq_true this)
    · have:(Array.replicate ops.size false).getD i true=false:=by simp[Array.getD,hi]
      refine⟨λ_=>?_,λ_=>this⟩;have hi':i∈E.map (·.1):=by rw[hfst k3];exact List.mem_range.2 hi
      obtain⟨p,hp,he⟩:=mem_map.1 hi';exact⟨p,hp,he⟩
    · have:=rb ops.toList 0;rw[←k3,List.pairwise_map]at this;exact this
    · have hap:=tu d3;rw[←k3,List.pairwise_map]at hap;refine (hap.and k8).imp λ{p q} ⟨h1,h2⟩=>?_;rcases h1 with h1|h1
      · exact .inl h1
      · rcases h2 with h2|h2
        · exact .inl h2
        · obtain⟨e1,e2,e3⟩:=Oper.apart_spec h1;have harr:ops.toList.toArray=ops:=by simp
          exact .inr ⟨λd hd=>uB (by rw[harr];exact e1 d hd),λd hd=>uB (by rw[harr];exact e3 d hd),e2,h2.wr,h2.rw,h2.ww⟩
    · simp[Array.getD,hi]at hl
end Go.V
namespace Go.V

theorem Rd.plain_some {α:Type} {S:an->Option Entry} {a:α}:∀{x:Rd α},x.plain S=some a->∃L,x.Runs S a L
 | .ret b,h=>by simp only[Rd.plain,Option.some.injEq]at h;exact⟨[],h.symm,rfl⟩
 | .fail,h=>by simp[Rd.plain]at h
 | .get n k,h=>by
  simp only[Rd.plain]at h;obtain⟨L,hL⟩:=Rd.plain_some h;exact⟨n::L,L,rfl,hL⟩
 | .opt _ _,h=>by simp[Rd.plain]at h
def sn (S:St) (σ:List (an×Cell)):lP->Cell->Cell->Prop
 | .dat c,x,y=>∃a,c.quiet S.ent x=some a/\y=c.cell a
 | .own n,x,y=>y=.own n/\(n,x)∈σ/\((∃r,x=.own r)\/(∃r lo hi,x=.win r lo hi)\/x=.nil)
 | .same n,x,y=>x=.own n/\y=x
 | .box n o,x,y=>x=.box n o/\y=x
 | .nil,x,y=>x=.nil/\y=x
 | .undef,_,y=>y=.undef
 | .fn f cs,x,y=>x=.fn f cs/\y=x
def pV (S:St) (σ:List (an×Cell)):List lP->List Cell->List Cell->Prop
 | [],[],[]=>True
 | s::l,x::xs,y::ys=>sn S σ s x y/\pV S σ l xs ys
 | _,_,_=>False
variable {S:St} {σ:List (an×Cell)}
theorem oS {α:Type} {z:α} {A:Prop} (h:(none:Option α)=some z):A:=by cases h
theorem wJ {c:CT} {l:List lP} {R:List Cs} {x:Cell} {xs:List Cell} {y:Option (kH R)}:lS S (.dat c::l) R (x::xs) y =
 (match c.quiet S.ent x,lS S l R xs y with|some a,some b=>some (kH.mk (.one c) (lY l R) a b)|_,_=>none):=rfl
theorem rK:∀(l:List lP) (R:List Cs) (xs:List Cell) (y:Option (kH R)) (z:kH (lY l R)),lS S l R xs y=some z->(∀p∈nb l xs,p∈σ) ->
 ∃y',y=some y'/\pV S σ l xs (lr l R z).1/\(lr l R z).2=y':=by
 intro l
 induction l with
 | nil =>
  intro R xs y z h _;cases xs with
  | nil=>exact⟨z,h,trivial,rfl⟩
  | cons _ _=>exact oS (show (none:Option (kH (lY [] R)))=some z from h)
 | cons s l ih =>
  intro R xs y z h hσ;cases xs with
  | nil=>cases s<;>exact oS (show (none:Option (kH (lY _ R)))=some z from h)
  | cons x xs =>
   cases s with
   | dat c =>
    rw[wJ]at h;cases h1:c.quiet S.ent x with
    | none=>rw[h1]at h;cases h
    | some a =>
     cases h2:lS S l R xs y with
     | none=>rw[h1,h2]at h;cases h
     | some b =>
      rw[h1,h2]at h;have h:kH.mk (.one c) (lY l R) a b=z:=Option.some.inj h
      subst h;obtain⟨y',e1,e2,e3⟩:=ih R xs y b h2 (λp hp=>hσ p hp);refine⟨y',e1,?_,?_⟩
      · show sn S σ (.dat c) x (c.cell (kH.hd (.one c) (lY l R) _))/\pV S σ l xs (lr l R (kH.tl (.one c) (lY l R) _)).1;rw[kH.tl_mk,kH.hd_mk];exact⟨⟨a,h1,rfl⟩,e2⟩
      · show (lr l R (kH.tl (.one c) (lY l R) _)).2=y';rw[kH.tl_mk];exact e3
   | own n =>
    have key:∀(hx:(∃r,x=.own r)\/(∃r lo hi,x=.win r lo hi)\/x=.nil) (h:lS S l R xs y=some z),∃y',y=some y'/\pV S σ (.own n::l) (x::xs) (lr (.own n::l) R z).1/\(lr (.own n::l) R z).2=y':=by
     intro hx h;obtain⟨y',e1,e2,e3⟩:=ih R xs y z h (λp hp=>hσ p (mem_cons_of_mem _ hp));exact⟨y',e1,⟨⟨rfl,hσ _ mem_cons_self,hx⟩,e2⟩,e3⟩
    cases x<;>first
     | exact oS (show (none:Option (kH (lY _ R)))=some z from h)
     | exact key (.inl ⟨_,rfl⟩) h
     | exact key (.inr (.inl ⟨_,_,_,rfl⟩)) h
     | exact key (.inr (.inr rfl)) h
   | same n =>
    cases x<;>try exact oS (show (none:Option (kH (lY _ R)))=some z from h)
    rename_i m;have h':cond (Nat.beq n m) (lS S l R xs y) none=some z:=h
    cases hnm:Nat.beq n m with
    | false=>rw[hnm]at h';cases h'
    | true =>
     rw[hnm]at h';clear h;obtain rfl:=Nat.eq_of_beq_eq_true hnm;obtain⟨y',e1,e2,e3⟩:=ih R xs y z h' (λp hp=>hσ p hp);exact⟨y',e1,⟨⟨rfl,rfl⟩,e2⟩,e3⟩
   | box n o =>
    cases x<;>try exact oS (show (none:Option (kH (lY _ R)))=some z from h)
    rename_i m p;have h':cond (Nat.beq n m&&Nat.beq o p) (lS S l R xs y) none=some z:=h
    cases hnm:(Nat.beq n m&&Nat.beq o p)with
    | false=>rw[hnm]at h';cases h'
    | true =>
     rw[hnm]at h';clear h;simp only[aT]at hnm;obtain rfl:=Nat.eq_of_beq_eq_true hnm.1;obtain rfl:=Nat.eq_of_beq_eq_true hnm.2;obtain⟨y',e1,e2,e3⟩:=ih R xs y z h' (λp hp=>hσ p hp);exact⟨y',e1,⟨⟨rfl,rfl⟩,e2⟩,e3⟩
   | nil =>
    cases x<;>try exact oS (show (none:Option (kH (lY _ R)))=some z from h)
    obtain⟨y',e1,e2,e3⟩:=ih R xs y z h (λp hp=>hσ p hp);exact⟨y',e1,⟨⟨rfl,rfl⟩,e2⟩,e3⟩
   | undef =>
    obtain⟨y',e1,e2,e3⟩:=ih R xs y z h (λp hp=>hσ p hp);exact⟨y',e1,⟨rfl,e2⟩,e3⟩
   | fn f cs =>
    cases x<;>try exact oS (show (none:Option (kH (lY _ R)))=some z from h)
    rename_i g ds;have h':cond (Nat.beq f g&&(cs==ds)) (lS S l R xs y) none=some z:=h
    cases hnm:(Nat.beq f g&&(cs==ds))with
    | false=>rw[hnm]at h';cases h'
    | true =>
     rw[hnm]at h';clear h;simp only[aT]at hnm;obtain rfl:=Nat.eq_of_beq_eq_true hnm.1;obtain rfl:=eq_of_beq hnm.2;obtain⟨y',e1,e2,e3⟩:=ih R xs y z h' (λp hp=>hσ p hp);exact⟨y',e1,⟨⟨rfl,rfl⟩,e2⟩,e3⟩
def so (S:St) (σ:List (an×Cell)) (l:List (Nat×Bool×List lP)) (tm:List (Nat×AV)) (t:Nat):Prop :=
 match kF l t with
 | none=>kF tm t=none
 | some (agg,ss)=>qj agg (S.tmp t)=true/\∃cs,kF tm t=some (nI agg cs)/\pV S σ ss (S.tmp t).cells cs
theorem tv:∀{l:List (Nat×Bool×List lP)} {R:List Cs} {y:Option (kH R)} {z:kH (pr l R)},qT S l R y=some z->(∀p∈pO S l,p∈σ) ->
 ∃y',y=some y'/\(∀t,so S σ l (na l R z).1 t)/\(na l R z).2=y'
 | [],R,y,z,h,_=>⟨z,h,λt=>rfl,rfl⟩
 | (t,agg,ss)::l,R,y,z,h,hσ=>by
  have h':cond (qj agg (S.tmp t)) (lS S ss (pr l R) (S.tmp t).cells (qT S l R y)) none=some z:=h;cases hag:qj agg (S.tmp t)with
  | false=>rw[hag]at h';cases h'
  | true =>
   rw[hag]at h';clear h;have h:lS S ss (pr l R) (S.tmp t).cells (qT S l R y)=some z:=h'
   obtain⟨y1,e1,e2,e3⟩:=rK _ _ _ _ _ h (λp hp=>hσ p (mem_append_left _ hp));obtain⟨y2,k1,k2,k3⟩:=tv e1 (λp hp=>hσ p (mem_append_right _ hp));refine⟨y2,k1,λu=>?_,?_⟩
   · unfold so;simp only[na];rw[kO,kO];by_cases htu:t=u
     · subst htu;simp only[if_true];exact⟨hag,_,rfl,e2⟩
     · simp only[if_neg htu];have:=k2 u
       unfold so at this;rw[e3];exact this
   · simp only[na];rw[e3];exact k3
def oB (S:St) (σ:List (an×Cell)) (l:List (an×mT)) (en:List (an×Entry)) (n:an):Prop :=
 match kF l n with
 | none=>kF en n=none
 | some (.root e m)=>∃x xs,kF σ n=some x/\mZ S e m x=some xs/\kF en n=some (.root e m xs)
 | some (.keep e m)=>∃xs,mZ S e m (.own n)=some xs/\kF en n=some (.root e m xs)
 | some (.box ss)=>∃cs cs',kF S.en n=some (.box cs)/\kF en n=some (.box cs')/\pV S σ ss cs cs'
 | some (.tree e)=>∃xs,kF S.en n=some (.tree e xs)/\kF en n=some (.tree e xs)
theorem wK {e:Cs} {n:an} {xs:List e.den} (h:uI S e n=some xs):kF S.en n=some (.tree e xs):=by
 unfold uI at h;split at h
 · rename_i f ys hn;split at h
   · rename_i hh _;subst hh;cases h;exact hn
   · cases h
 · cases h
theorem ob:∀{l:List (an×mT)} {z:kH (lJ l)},nz S σ l=some z->(∀p∈o0 S l,p∈σ)->∀n,oB S σ l (mL l z) n
 | [],z,h,_,n=>rfl
 | (m,.root e d)::l,z,h,hσ,n=>by
  simp only[nz]at h;split at h
  · rename_i x hx;split at h
    · rename_i a b h1 h2;cases h;have ih:=ob h2 hσ n
      unfold oB at ih ⊢;simp only[mL];rw[kO,kO,kH.tl_mk,kH.hd_mk];by_cases hmn:m=n
      · subst hmn;simp only[if_true];exact⟨x,a,hx,h1,rfl⟩
      · simp only[if_neg hmn];exact ih
    · cases h
  · cases h
 | (m,.keep e d)::l,z,h,hσ,n=>by
  simp only[nz]at h;split at h
  · rename_i a b h1 h2;cases h;have ih:=ob h2 hσ n
    unfold oB at ih ⊢;simp only[mL];rw[kO,kO,kH.tl_mk,kH.hd_mk];by_cases hmn:m=n
    · subst hmn;simp only[if_true];exact⟨a,h1,rfl⟩
    · simp only[if_neg hmn];exact ih
  · cases h
 | (m,.tree e)::l,z,h,hσ,n=>by
  simp only[nz]at h;split at h
  · rename_i a b h1 h2;cases h;have ih:=ob h2 hσ n
    unfold oB at ih ⊢;simp only[mL];rw[kO,kO,kH.tl_mk,kH.hd_mk];by_cases hmn:m=n
    · subst hmn;simp only[if_true];exact⟨a,wK h1,rfl⟩
    · simp only[if_neg hmn];exact ih
  · cases h
 | (m,.box ss)::l,z,h,hσ,n=>by
  simp only[nz]at h;cases hcs:S.ent m with
  | none=>rw[hcs]at h;cases h
  | some ec =>
  rw[hcs]at h;cases ec with
  | tree=>cases h
  | gone=>cases h
  | fwd _ _=>cases h
  | root _ _ _=>cases h
  | box cs =>
   simp only at h;obtain⟨y',e1,e2,e3⟩:=rK _ _ _ _ _ h (λp hp=>hσ p (by
    simp only[o0];rw[hcs];exact mem_append_left _ hp))
   have ih:=ob e1 (λp hp=>hσ p (mem_append_right _ hp)) n;unfold oB at ih ⊢;simp only[mL];rw[kO,kO,e3];by_cases hmn:m=n
   · subst hmn;simp only[if_true];exact⟨cs,_,hcs,rfl,e2⟩
   · simp only[if_neg hmn];exact ih
theorem re:∀{l:List (an×Cell)},nc l=true->l.Pairwise λp q=>(q.1=p.1->u9 p.2 q.2=true)/\(q.1≠p.1->oq p.2 q.2=true)
 | [],_=>List.Pairwise.nil
 | (n,x)::l,h=>by
  simp only[nc,aT]at h;refine pairwise_cons.2 ⟨λq hq=>?_,re h.2⟩;have:=all_eq_true.1 h.1 q hq
  cases hb:Nat.beq q.1 n with
  | true =>
   rw[hb]at this;exact⟨λ_=>this,λhne=>absurd (Nat.eq_of_beq_eq_true hb) hne⟩
  | false =>
   rw[hb]at this;exact⟨λhe=>by subst he;simp at hb,λ_=>this⟩
theorem zc {x y:Cell} (h:u9 x y=true):∃r,x=.own r/\y=.own r:=by
 cases x<;>cases y<;>simp[u9]at h;exact⟨_,rfl,by rw[h]⟩
theorem vk:∀{l:List (an×Cell)},nc l=true->∀{n:an} {x:Cell},(n,x)∈l->∃y,kF l n=some y/\(x=y\/∃r,x=.own r/\y=.own r)
 | [],_,n,x,h=>by simp at h
 | (m,y)::l,hs,n,x,h=>by
  rw[kO];by_cases hmn:m=n
  · subst hmn;rw[if_pos rfl];rcases mem_cons.1 h with h|h
    · cases h;exact⟨_,rfl,.inl rfl⟩
    · obtain⟨r,e1,e2⟩:=zc (((pairwise_cons.1 (re hs)).1 (m,x) h).1 rfl);exact⟨y,rfl,.inr ⟨r,e2,e1⟩⟩
  · rw[if_neg hmn];rcases mem_cons.1 h with h|h
    · cases h;exact absurd rfl hmn
    · simp only[nc,aT]at hs;exact vk hs.2 h
theorem rL {x y:Cell} (h:oq x y=true) {r:an} (hx:mV x=some r):mV y≠some r:=by
 intro hy;simp[oq,hx,hy]at h
theorem vl {x y:Cell} (h:oq x y=true):oq y x=true:=by
 have e:∀a b,oq a b=(match mV a,mV b with|some r,some s=>!(Nat.beq r s)|_,_=>true):=λa b=>rfl;rw[e]at h ⊢;cases hx:mV x with
 | none=>cases mV y<;>rfl
 | some r=>cases hy:mV y with
  | none=>rfl
  | some s =>
   rw[hx,hy]at h;simp only[Bool.not_eq_true']at h ⊢;cases hb:Nat.beq s r with
   | false=>rfl
   | true=>rw[Nat.eq_of_beq_eq_true hb]at h;simp at h
theorem rX:∀{l:List (an×Cell)},nc l=true->∀{n m:an} {x y:Cell},(n,x)∈l->(m,y)∈l->n≠m->∀r,mV x=some r->mV y≠some r
 | [],_,n,m,x,y,h,_,_,r,_=>by simp at h
 | (k,z)::l,hs,n,m,x,y,h1,h2,hnm,r,hr=>by
  have hp:=pairwise_cons.1 (re hs);simp only[nc,aT]at hs;rcases mem_cons.1 h1 with e1|h1<;>rcases mem_cons.1 h2 with e2|h2
  · cases e1;cases e2;exact absurd rfl hnm
  · cases e1;exact rL ((hp.1 (m,y) h2).2 (Ne.symm hnm)) hr
  · cases e2;exact rL (vl ((hp.1 (n,x) h1).2 hnm)) hr
  · exact rX hs.2 h1 h2 hnm r hr
end Go.V
namespace Go.V
variable {w0:World} {T N:Nat->Prop} {en en':List (an×Entry)} {S S':St} {g g':Gh} {w:World} {a:Act} {s:lz} {M:List (an×Entry)} {W:List (Nat×AV)}

theorem vm {e:Entry} (h:e.deep=true):e.alive=true:=by cases e<;>simp_all [Entry.deep,Entry.alive]
theorem MS.rename (h:MS w0 T N en g w) (hI:g'.I=g.I) (hrep:∀n e,kF en' n=some e->oK (dom en') g' w n e) (lp:an->an->Prop)
 (hφ:∀n e,kF en' n=some e->e.alive=true->(g'.top n=none/\g'.nest n=[])\/∃k f,kF en k=some f/\f.alive=true/\(e.deep=true->f.deep=true)/\g'.top n=g.top k/\(∀b∈g'.nest n,b∈g.nest k)/\lp n k)
 (htree:∀n e,kF en' n=some e->e.isTree=true->(∃f,kF en n=some f/\f.isTree=true)/\g'.nest n=g.nest n) (inj:∀n m k,lp n k->lp m k->n=m) (hone:∀n,dom en' n->(g'.loc n).oneCell'=true):MS w0 T N en' g' w:=by
 have ht:∀n e b,kF en' n=some e->e.alive=true->g'.top n=some b->∃k f,kF en k=some f/\f.alive=true/\g.top k=some b/\lp n k:=by
  intro n e b hn ha hb;rcases hφ n e hn ha with ⟨h1,_⟩|⟨k,f,h1,h2,_,h4,_,h6⟩
  · rw[h1]at hb;cases hb
  · exact⟨k,f,h1,h2,h4▸hb,h6⟩
 have hs:∀n e b,kF en' n=some e->e.deep=true->b∈g'.nest n->∃k f,kF en k=some f/\f.deep=true/\b∈g.nest k/\lp n k:=by
  intro n e b hn hd hb;rcases hφ n e hn (vm hd)with ⟨_,h1⟩|⟨k,f,h1,h2,h3,_,h5,h6⟩
  · rw[h1]at hb;simp at hb
  · exact⟨k,f,h1,h3 hd,h5 b hb,h6⟩
 refine⟨⟨hrep,λn m e f b hn hm he hf h1 h2=>?_,λn e b hn he hb=>?_,λn m e f hn hm he hf hnm b hb hb'=>?_,λb hb=>h.mem.old b (hI▸hb),hone,λn e b hn he hb=>?_⟩,
  ⟨h.since.os,h.since.out,h.since.tape,h.since.size,h.since.mem,λn e b hn he hb=>?_,λn e b hn he hb=>?_,λb hb=>h.since.imm b (hI▸hb),λn e b hn he hb=>?_,h.since.soft⟩⟩
 · obtain⟨k,f1,k1,k2,k3,k4⟩:=ht n e b hn he h1;obtain⟨k',f2,l1,l2,l3,l4⟩:=ht m f b hm hf h2;obtain rfl:=h.mem.apart k k' f1 f2 b k1 l1 k2 l2 k3 l3;exact inj n m k k4 l4
 · obtain⟨k,f1,k1,k2,k3,k4⟩:=ht n e b hn he hb;rw[hI];exact h.mem.topI k f1 b k1 k2 k3
 · obtain⟨k,f1,k1,k2,k3,k4⟩:=hs n e b hn he hb;obtain⟨k',f2,l1,l2,l3,l4⟩:=hs m f b hm hf hb';by_cases hkk:k=k'
   · subst hkk;exact hnm (inj n m k k4 l4)
   · exact h.mem.nests k k' f1 f2 k1 l1 k2 l2 hkk b k3 l3
 · obtain⟨⟨f,k1,k2⟩,k3⟩:=htree n e hn he;rw[k3]at hb;obtain⟨l1,l2,l3⟩:=h.mem.wood n f b k1 k2 hb;refine⟨by rw[hI];exact l1,λm f' hm hf' hb'=>?_,λm f' hmn hm hf'=>?_⟩
   · obtain⟨k,f1,j1,j2,j3,_⟩:=ht m f' b hm hf' hb';exact l2 k f1 j1 j2 j3
   · obtain⟨⟨f2,j1,j2⟩,j3⟩:=htree m f' hm hf';rw[j3];exact l3 m f2 hmn j1 j2
 · obtain⟨k,f1,k1,k2,k3,k4⟩:=ht n e b hn he hb;exact h.since.tops k f1 b k1 k2 k3
 · obtain⟨k,f1,k1,k2,k3,k4⟩:=hs n e b hn he hb;exact h.since.nests k f1 b k1 k2 k3
 · obtain⟨⟨f,k1,k2⟩,k3⟩:=htree n e hn he;rw[k3]at hb;exact h.since.born n f b k1 k2 hb

theorem wL {e:Cs} {m:Bool} {x:Cell} {xs:List e.den} (h:mZ S e m x=some xs) :
 ∃q us L,(vJ e x).Runs (kF S.en) (xs,q,us) L/\(∀m',q=some m'->m=true->m'=true)/\(∀r E,us=[(r,E)]->mV x=some r):=by
 cases x<;>try (exfalso;cases h;done)
 case nil =>
  simp only[mZ,Option.some.injEq]at h;subst h;exact⟨none,[],[],⟨rfl,rfl⟩,(λm' h=>by cases h),λr E h=>by cases h⟩
 case own r =>
  simp only[mZ]at h;split at h
  · rename_i f m' ys hr;cases hm:w3 m m' with
    | false=>rw[hm]at h;cases h
    | true =>
     rw[hm]at h;simp only[cT]at h;split at h
     · rename_i hfe hsame;cases h;refine⟨some m',[(r,.gone)],[r],⟨[],rfl,?_⟩,(λm'' h hm1=>?_),λr' E h=>by cases h;rfl⟩
       · rw[show kF S.en r=some (.root f m' ys)from hr];simp only[hsame];exact⟨rfl,rfl⟩
       · cases h;subst hm1;simpa[w3]using hm
     · cases h
  · cases h
 case win r lo hi =>
  simp only[mZ]at h;split at h
  · rename_i f m' ys hr;cases hm:w3 m m' with
    | false=>rw[hm]at h;cases h
    | true =>
     rw[hm]at h;simp only[cT]at h;split at h
     · rename_i hfe hsame;cases h;refine⟨some m',[(r,.gone)],[r],⟨[],rfl,?_⟩,(λm'' h hm1=>?_),λr' E h=>by cases h;rfl⟩
       · rw[show kF S.en r=some (.root f m' ys)from hr];simp only[hsame];exact⟨rfl,rfl⟩
       · cases h;subst hm1;simpa[w3]using hm
     · cases h
  · cases h
structure uM (w:World) (S:St) (g:Gh) (e:Cs) (m:Bool) (x:Cell) (xs:List e.den) (i:NI):Prop where
 esz:i.esz=e.len
 loc:∀v,kI (dom S.en) g w x v->v=i.loc
 rep:mb w e xs i.loc i.top i.nest
 imm:∀b∈i.nest,g.I b
 nod:m=true->i.nest.Nodup
 one:i.loc.oneCell'=true
 old:(i.top=none/\i.nest=[])\/∃r m' ys,mV x=some r/\kF S.en r=some (.root e m' ys)/\i.top=g.top r/\(∀b∈i.nest,b∈g.nest r)/\(m=true->m'=true)
theorem uC {e:Cs} {xs:List e.den} {v:Value} {tp:Option Nat} {F:List Nat} (h:mb w e xs v tp F):v.oneCell'=true:=by
 obtain⟨x,c,rfl⟩:=h.shape;rfl
theorem AM (hm:mW S.en g w) {e:Cs} {m:Bool} {x:Cell} {xs:List e.den} (h:mZ S e m x=some xs) {v:Value} (hv:kI (dom S.en) g w x v):∃i,uM w S g e m x xs i:=by
 have huni:∀u,kI (dom S.en) g w x u->u=v:=by
  intro u hu;cases x<;>try (exfalso;cases h;done)
  case nil=>exact (show u=_ from hu).trans (show v=_ from hv).symm
  case own r=>exact hu.2.trans hv.2.symm
  case win r lo hi =>
   obtain⟨_,_,a1,l1,c1,e1,_,rfl⟩:=hu;obtain⟨_,_,a2,l2,c2,e2,_,rfl⟩:=hv;rw[e1]at e2;cases e2;rfl
 obtain⟨q,us,L,h1,h2,h3⟩:=wL h;rcases tH hm hv h1 with ⟨rfl,h4⟩|⟨ys,r,m',F,h4,hD⟩
 · cases h4;exact⟨⟨.slice none 0 0,e.len,none,[]⟩,rfl,huni,.inl ⟨rfl,rfl,rfl,rfl⟩,by simp,by simp,rfl,.inl ⟨rfl,rfl⟩⟩
 · cases h4;obtain⟨⟨zs,hent⟩,hrep,hcnt⟩:=hD;obtain⟨_,_,hI,hnd⟩:=lB hm hent;have hsub:∀b∈F,b∈g.nest r:=λb hb=>by
    have h0:=hcnt b;have h1:0<F.count b:=count_pos_iff.2 hb
    exact count_pos_iff.1 (by omega)
   refine⟨⟨v,e.len,g.top r,F⟩,rfl,huni,hrep,λb hb=>hI b (hsub b hb),λhm1=>?_,uC hrep,.inr ⟨r,m',zs,h3 r _ rfl,hent,rfl,hsub,h2 m' rfl⟩⟩;rw[←me];intro b;have:=hcnt b
   have h6:=me.2 (hnd (h2 m' rfl hm1)) b;show F.count b<=1
   omega
end Go.V
namespace Go.V
variable {w0:World} {T N:Nat->Prop} {en en':List (an×Entry)} {S S':St} {g g':Gh} {w:World} {a:Act} {s:lz} {M:List (an×Entry)} {W:List (Nat×AV)}

theorem oC:∀{l:List (an×mT)},sd l=true->∀{n:an} {e:mT},(n,e)∈l->kF l n=some e
 | [],_,n,e,h=>by simp at h
 | (m,f)::l,hl,n,e,h=>by
  simp only[sd,aT]at hl;rw[kO];rcases mem_cons.1 h with h|h
  · cases h;rw[if_pos rfl]
  · by_cases hmn:m=n
    · subst hmn;have:=all_eq_true.1 hl.1 _ h
      simp at this
    · rw[if_neg hmn];exact oC hl.2 h
theorem uD {l:List (an×mT)} (hl:sd l=true) {n:an} (h:wZ l n=true):∃e m,kF l n=some (.root e m):=by
 obtain⟨p,hp,hq⟩:=List.any_eq_true.1 h;simp only[aT]at hq;obtain⟨k,f⟩:=p;obtain rfl:=Nat.eq_of_beq_eq_true hq.1;cases f with
 | root e m=>exact⟨e,m,oC hl hp⟩
 | keep e m=>cases hq.2
 | box ss=>cases hq.2
 | tree e=>cases hq.2
theorem tO {l:List (an×mT)} (hl:sd l=true) {n:an} (h:o8 l n=true):∃x,kF l n=some x/\∀e m,x≠.root e m:=by
 obtain⟨p,hp,hq⟩:=List.any_eq_true.1 h;simp only[aT]at hq;obtain⟨k,f⟩:=p;obtain rfl:=Nat.eq_of_beq_eq_true hq.1;refine⟨f,oC hl hp,λe m he=>?_⟩;subst he;cases hq.2
theorem tP:∀{l:List (an×mT)} {n:an} {x:mT},kF l n=some x->(∀e m,x≠.root e m)->o8 l n=true:=by
 intro l n x h hx;refine List.any_eq_true.2 ⟨(n,x),lw h,?_⟩;cases x with
 | root e m=>exact absurd rfl (hx e m)
 | keep e m=>simp
 | tree e=>simp
 | box ss=>simp
theorem nd:∀{l:List (an×mT)},nj S l=true->∀{n:an} {e:Cs} {m:Bool},(n,mT.root e m)∈l->kF S.en n=none
 | [],_,n,e,m,h=>by simp at h
 | (k,x)::l,hf,n,e,m,h=>by
  rcases mem_cons.1 h with h'|h'
  · obtain⟨rfl,rfl⟩:=Prod.mk.inj h';simp only[nj,aT]at hf;cases hn:kF S.en n with
    | none=>rfl
    | some y=>rw[show S.ent n=some y from hn]at hf;cases hf.1
  · cases x with
    | root e' m'=>simp only[nj,aT]at hf;exact nd hf.2 h'
    | keep e' m'=>simp only[nj]at hf;exact nd hf h'
    | box ss=>simp only[nj]at hf;exact nd hf h'
    | tree e'=>simp only[nj]at hf;exact nd hf h'
theorem rY {D:an->Prop}:∀{l:List lP} {xs:List Cell} {vs:List Value},kM (kI D g w) xs vs->∀p∈nb l xs,∃v,kI D g w p.2 v
 | [],xs,vs,_,p,hp=>by cases xs<;>simp[nb]at hp
 | s::l,[],[],_,p,hp=>by cases s<;>simp[nb]at hp
 | s::l,x::xs,v::vs,h,p,hp=>by
  have ih:=rY (l:=l) h.2 p;cases s with
  | own n =>
   rcases mem_cons.1 hp with rfl|hp
   · exact⟨v,h.1⟩
   · exact ih hp
  | _=>exact ih hp
theorem xx {D:an->Prop} {x:AV} {v:Value} (h:lk D g w x v):∃vs,kM (kI D g w) x.cells vs:=by
 cases x with
 | cell c=>exact⟨[v],h,trivial⟩
 | agg cs=>obtain⟨vs,_,k⟩:=h;exact⟨_,k⟩
 | tup l=>exact⟨[],trivial⟩
theorem A0 (hI:lh w0 T N S' g w a):∀p∈s.sigma S',∃v,kI (dom S'.en) g w p.2 v:=by
 intro p hp;rcases mem_append.1 hp with hp|hp
 · have key:∀(l:List (Nat×Bool×List lP)),p∈pO S' l->∃v,kI (dom S'.en) g w p.2 v:=by
    intro l
    induction l with
    | nil=>intro h;simp[pO]at h
    | cons q l ih =>
     intro h;obtain⟨t,ag,ss⟩:=q;rcases mem_append.1 h with h|h
     · obtain⟨vs,hv⟩:=xx (hI.tmps t);exact rY hv p h
     · exact ih h
   exact key _ hp
 · have key:∀(l:List (an×mT)),p∈o0 S' l->∃v,kI (dom S'.en) g w p.2 v:=by
    intro l
    induction l with
    | nil=>intro h;simp[o0]at h
    | cons q l ih =>
     intro h;obtain⟨n,x⟩:=q;cases x with
     | box ss =>
      rcases mem_append.1 h with h|h
      · cases hn:S'.ent n with
        | none=>rw[hn]at h;simp at h
        | some e =>
         rw[hn]at h;cases e with
         | box cs =>
          obtain⟨b,us,_,_,_,h4⟩:=hI.mem.rep n _ hn;exact rY h4 p h
         | gone=>simp at h
         | fwd _ _=>simp at h
         | root _ _ _=>simp at h
         | tree _ _=>simp at h
      · exact ih h
     | root e m=>exact ih h
     | keep e m=>exact ih h
     | tree e=>exact ih h
   exact key _ hp
structure qN (S S':St) (M:List (an×Entry)) (W:List (Nat×AV)) (s:lz):Prop where
 gone:∀n e,kF M n=some e->e=.gone
 undef:∀t v,kF W t=some v->v=.undef
 dom:∀n,dom S.en n->Go.V.dom S'.en n
 en:∀n,kF M n=none->Go.V.dom S.en n->kF S'.en n=kF S.en n
 tm:∀t,kF W t=none->S'.tmp t=S.tmp t
 kept:∀n,o8 s.en n=true->kF M n≠none
 ok:s.okAt S=true
 freed:freed S M (s.sigma S')=true
def sq (S':St) (g:Gh) (w:World) (s:lz) (n:an) (i:NI):Prop :=
 match kF s.en n with
 | some (.root e m)=>∃x xs,kF (s.sigma S') n=some x/\mZ S' e m x=some xs/\uM w S' g e m x xs i
 | _=>(dom S'.en n->i.loc=g.loc n/\i.esz=g.esz n/\i.top=g.top n/\i.nest=g.nest n)/\(¬dom S'.en n->i.loc=.slice none 0 0)
theorem lz.read_spec {d:s.den} (h:s.read S'=some d):nc (s.sigma S'++r5 s.en)=true/\(∀t,so S' (s.sigma S') s.tm (s.st d).tm t)/\(∀n,oB S' (s.sigma S') s.en (s.st d).en n):=by
 unfold lz.read at h;cases hs:nc (s.sigma S'++r5 s.en)with
 | false=>rw[hs]at h;cases h
 | true =>
  rw[hs]at h;have h:qT S' s.tm (lJ s.en) (nz S' (s.sigma S') s.en)=some d:=h
  obtain⟨y',e1,e2,e3⟩:=tv h (σ:=s.sigma S') (λp hp=>mem_append_left _ hp);refine⟨rfl,e2,?_⟩;have:=ob e1 (λp hp=>mem_append_right _ hp)
  show ∀n,oB S' (s.sigma S') s.en (mL s.en (na s.tm (lJ s.en) d).2) n;rw[e3];exact this
theorem rf:∀{l m:List (an×Cell)},nc (l++m)=true->nc l=true
 | [],m,_=>rfl
 | (n,x)::l,m,h=>by
  simp only[cons_append,nc,aT,List.all_append]at h ⊢;exact⟨h.1.1,rf h.2⟩
theorem pW:∀{l:List (an×mT)} {n:an} {e:Cs} {m:Bool},(n,mT.keep e m)∈l->(n,Cell.own n)∈r5 l
 | [],n,e,m,h=>by simp at h
 | (k,x)::l,n,e,m,h=>by
  rcases mem_cons.1 h with h'|h'
  · obtain⟨rfl,rfl⟩:=Prod.mk.inj h';exact mem_cons_self
  · cases x with
    | keep e' m'=>exact mem_cons_of_mem _ (pW h')
    | root e' m'=>exact pW (l:=l) h'
    | box ss=>exact pW (l:=l) h'
    | tree e'=>exact pW (l:=l) h'
theorem CC (hI:lh w0 T N S' g w a) {d:s.den} (hr:s.read S'=some d):∃f:an->NI,∀n,sq S' g w s n (f n):=by
 apply Classical.skolem.1;intro n;obtain⟨hσ,_,hen⟩:=lz.read_spec hr;have hn:=hen n
 unfold oB at hn;unfold sq;cases hf:kF s.en n with
 | none =>
  by_cases hd:dom S'.en n
  · exact⟨⟨g.loc n,g.esz n,g.top n,g.nest n⟩,λ_=>⟨rfl,rfl,rfl,rfl⟩,λh=>absurd hd h⟩
  · exact⟨⟨.slice none 0 0,0,none,[]⟩,λh=>absurd h hd,λ_=>rfl⟩
 | some x =>
  cases x with
  | root e m =>
   rw[hf]at hn;obtain⟨x,xs,h1,h2,_⟩:=hn;obtain⟨v,hv⟩:=A0 (s:=s) hI (n,x) (lw h1);obtain⟨i,hi⟩:=AM hI.mem h2 hv;exact⟨i,x,xs,h1,h2,hi⟩
  | keep e m =>
   by_cases hd:dom S'.en n
   · exact⟨⟨g.loc n,g.esz n,g.top n,g.nest n⟩,λ_=>⟨rfl,rfl,rfl,rfl⟩,λh=>absurd hd h⟩
   · exact⟨⟨.slice none 0 0,0,none,[]⟩,λh=>absurd h hd,λ_=>rfl⟩
  | box ss =>
   by_cases hd:dom S'.en n
   · exact⟨⟨g.loc n,g.esz n,g.top n,g.nest n⟩,λ_=>⟨rfl,rfl,rfl,rfl⟩,λh=>absurd hd h⟩
   · exact⟨⟨.slice none 0 0,0,none,[]⟩,λh=>absurd h hd,λ_=>rfl⟩
  | tree e =>
   by_cases hd:dom S'.en n
   · exact⟨⟨g.loc n,g.esz n,g.top n,g.nest n⟩,λ_=>⟨rfl,rfl,rfl,rfl⟩,λh=>absurd hd h⟩
   · exact⟨⟨.slice none 0 0,0,none,[]⟩,λh=>absurd h hd,λ_=>rfl⟩
def Gh.all (g:Gh) (f:an->NI):Gh:=⟨g.I,λn=>(f n).loc,λn=>(f n).esz,λn=>(f n).top,λn=>(f n).nest,g.rows⟩
end Go.V
namespace Go.V
variable {w0:World} {T N:Nat->Prop} {en en':List (an×Entry)} {S S':St} {g g':Gh} {w:World} {a:Act} {s:lz} {M:List (an×Entry)} {W:List (Nat×AV)}

theorem xz {e:Cs} {m:Bool} {n:an} {xs:List e.den} (h:mZ S e m (.own n)=some xs):∃m',kF S.en n=some (.root e m' xs)/\(m=true->m'=true):=by
 simp only[mZ]at h;split at h
 · rename_i f m' ys hr;cases hm:w3 m m' with
   | false=>rw[hm]at h;cases h
   | true =>
    rw[hm]at h;simp only[cT]at h;split at h
    · rename_i hfe _;cases h;subst hfe;exact⟨m',hr,λhm1=>by subst hm1;simpa[w3]using hm⟩
    · cases h
 · cases h
theorem rM {σ:List (an×Cell)} {D D':an->Prop} {ok:lP->Bool} (h1:∀c x y v,sn S σ c x y->ok c=true->kI D g w x v->kI D' g' w y v) :
 ∀{ss:List lP} {xs ys:List Cell} {vs:List Value},pV S σ ss xs ys->ss.all ok=true->kM (kI D g w) xs vs->kM (kI D' g' w) ys vs
 | [],[],[],[],_,_,_=>trivial
 | c::ss,x::xs,y::ys,v::vs,h,ho,hv=>by
  simp only[List.all_cons,aT]at ho;exact⟨h1 c x y v h.1 ho.1 hv.1,rM h1 h.2 ho.2 hv.2⟩
theorem uN {σ:List (an×Cell)} {D':an->Prop} {ok:lP->Bool} (h1:∀c x y,sn S σ c x y->ok c=true->mC D' y) :
 ∀{ss:List lP} {xs ys:List Cell},pV S σ ss xs ys->ss.all ok=true->∀y∈ys,mC D' y
 | [],[],[],_,_,y,hy=>by simp at hy
 | c::ss,x::xs,z::ys,h,ho,y,hy=>by
  simp only[List.all_cons,aT]at ho;rcases mem_cons.1 hy with rfl|hy
  · exact h1 c x y h.1 ho.1
  · exact uN h1 h.2 ho.2 y hy
theorem tQ {σ:List (an×Cell)}:∀{ss:List lP} {xs ys:List Cell},pV S σ ss xs ys->ys.length=xs.length
 | [],[],[],_=>rfl
 | c::ss,x::xs,z::ys,h=>by simp[tQ h.2]
def lp (S S':St) (M:List (an×Entry)) (s:lz) (n k:an):Prop :=
 (∃e m x e' m' ys,kF s.en n=some (.root e m)/\kF (s.sigma S') n=some x/\mV x=some k/\kF S'.en k=some (.root e' m' ys)) \/
 (n=k/\∃e m,kF s.en n=some (.keep e m)) \/
 (n=k/\∃ss cs,kF s.en n=some (.box ss)/\kF S'.en n=some (.box cs)) \/
 (n=k/\kF s.en n=none/\kF M n=none/\dom S.en n)
theorem lp.inj (hσ:nc (s.sigma S'++r5 s.en)=true) (hfr:freed S M (s.sigma S')=true) {n m k:an} (h:lp S S' M s n k) (h':lp S S' M s m k):n=m:=by
 have hroot:∀{n m k:an},(∃e m x e' m' ys,kF s.en n=some (.root e m)/\kF (s.sigma S') n=some x/\mV x=some k/\kF S'.en k=some (.root e' m' ys))->lp S S' M s m k->n=m:=by
  intro n m k ⟨e,d,x,e',d',ys,h1,h2,h3,h4⟩ h';have hx:=lw h2
  rcases h' with ⟨_,_,y,_,_,_,k1,k2,k3,k4⟩|⟨rfl,e2,m2,k1⟩|⟨rfl,ss,cs,k1,k2⟩|⟨rfl,k1,k2,k3⟩
  · by_cases hnm:n=m
    · exact hnm
    · exact absurd k3 (rX (rf hσ) hx (lw k2) hnm k h3)
  · by_cases hnm:n=m
    · exact hnm
    · exact absurd rfl (rX hσ (mem_append_left _ hx) (mem_append_right _ (pW (lw k1))) hnm m h3)
  · rw[h4]at k2;cases k2
  · have:=all_eq_true.1 hfr _ hx;simp only[h3]at this;cases hd:kF S.en m with
    | none=>exact absurd hd k3
    | some y =>
     rw[hd]at this;simp only at this;rw[k2]at this;cases this
 rcases h with h|h
 · exact hroot h h'
 · rcases h' with h'|h'
   · exact (hroot h' (.inr h)).symm
   · have e1:n=k:=by rcases h with ⟨e,_⟩|⟨e,_⟩|⟨e,_⟩<;>exact e
     have e2:m=k:=by rcases h' with ⟨e,_⟩|⟨e,_⟩|⟨e,_⟩<;>exact e
     exact e1.trans e2.symm
theorem sP (hI:lh w0 T N S' g w a) (hcS:lu S) (hT:qN S S' M W s) {d:s.den} (hr:s.read S'=some d) :
 ∃g',lh w0 T N (s.over ⟨W++S.tm,M++S.en⟩ d) g' w a/\Le (dom S.en) g w (dom (s.over ⟨W++S.tm,M++S.en⟩ d).en) g' w/\lu (s.over ⟨W++S.tm,M++S.en⟩ d):=by
 obtain⟨hσ,htm,hen⟩:=lz.read_spec hr;obtain⟨f,hf⟩:=CC hI hr;have hok:=hT.ok
 simp only[lz.okAt,aT]at hok;obtain⟨hfr,hnd,hokt,hoke⟩:=hok;have hEd:(s.over ⟨W++S.tm,M++S.en⟩ d).en=(s.st d).en++(M++S.en):=rfl
 have hTd:(s.over ⟨W++S.tm,M++S.en⟩ d).tm=(s.st d).tm++(W++S.tm):=rfl;generalize hE:(s.over ⟨W++S.tm,M++S.en⟩ d).en=E at hEd;have hnr:∀n,dom S.en n->∀e m,kF s.en n≠some (.root e m):=λn hn e m h=>hn (nd hfr (lw h))
 have hold:∀n,dom S'.en n->(∀e m,kF s.en n≠some (.root e m))->(f n).loc=g.loc n/\(f n).esz=g.esz n/\(f n).top=g.top n/\(f n).nest=g.nest n:=by
  intro n hn hne;have:=hf n
  unfold sq at this;split at this
  · rename_i e m h;exact absurd h (hne e m)
  · exact this.1 hn
 have hdomS:∀n,dom S.en n->dom E n:=λn hn=>by
  rw[hEd];exact n4 _ _ n (n4 _ _ n hn)
 have hdome:∀n x,kF s.en n=some x->dom E n:=by
  intro n x hx;have:=hen n
  unfold oB at this;rw[hx]at this;rw[hEd];cases x with
  | root e m=>obtain⟨_,_,_,_,h⟩:=this;exact pA (by unfold dom;rw[h];simp)
  | keep e m=>obtain⟨_,_,h⟩:=this;exact pA (by unfold dom;rw[h];simp)
  | box ss=>obtain⟨_,_,_,h,_⟩:=this;exact pA (by unfold dom;rw[h];simp)
  | tree e=>obtain⟨_,_,h⟩:=this;exact pA (by unfold dom;rw[h];simp)
 have hle:Le (dom S.en) g w (dom E) (g.all f) w:=⟨hdomS,λn hn=>(hold n (hT.dom n hn) (hnr n hn)).1,λn hn=>(hold n (hT.dom n hn) (hnr n hn)).2.1,λ_ h=>h,λ_ _=>rfl,λ_ _=>rfl⟩;have hdm:∀n,((kF S.en n).isSome||o8 s.en n)=true->dom S'.en n->dom E n/\(f n).loc=g.loc n/\(f n).esz=g.esz n:=by
  intro n h hd;rw[Bool.or_eq_true]at h;rcases h with h|h
  · have hS:dom S.en n:=by intro h0;rw[h0]at h;cases h
    exact⟨hdomS n hS,(hold n hd (hnr n hS)).1,(hold n hd (hnr n hS)).2.1⟩
  · obtain⟨x,hx,hxr⟩:=tO hnd h;have hne:∀e m,kF s.en n≠some (.root e m):=λe m h=>by rw[hx]at h;exact hxr e m (Option.some.inj h)
    exact⟨hdome n x hx,(hold n hd hne).1,(hold n hd hne).2.1⟩
 have hdmE:∀n,((kF S.en n).isSome||o8 s.en n)=true->dom E n:=by
  intro n h;rw[Bool.or_eq_true]at h;rcases h with h|h
  · exact hdomS n (by intro h0;rw[h0]at h;cases h)
  · obtain⟨x,hx,_⟩:=tO hnd h;exact hdome n x hx
 let ok:=lP.okIn (λn=>(kF S.en n).isSome||o8 s.en n) (wZ s.en)
 have g1:∀c x y v,sn S' (s.sigma S') c x y->ok c=true->kI (dom S'.en) g w x v->kI (dom E) (g.all f) w y v:=by
  intro c x y v h ho hv;cases c with
  | dat c =>
   obtain⟨b,hq,rfl⟩:=h;unfold CT.quiet at hq;split at hq
   · rename_i b' hb;cases hq;obtain⟨L,hL⟩:=Rd.plain_some hb;obtain⟨⟨F,hF,hFI⟩,_⟩:=CT.into_shared hI.mem hv hL;refine CT.cell_rep hF λq hq=>(hFI q hq).elim id λ⟨k,hk,_⟩=>?_;simp at hk
   · cases hq
  | own n =>
   obtain⟨rfl,hm,_⟩:=h;obtain⟨e,m,hx⟩:=uD hnd ho;have:=hf n
   unfold sq at this;rw[hx]at this;obtain⟨x0,xs,h1,h2,h3⟩:=this;obtain⟨z,hz,hz'⟩:=vk (rf hσ) hm;rw[h1]at hz;cases hz;have : x=x0 := by
    rcases hz' with h|⟨r, h, h'⟩
    · exact h
    · exact h.trans h'.symm
   subst this;exact⟨hdome n _ hx,h3.loc v hv⟩
  | same n =>
   obtain⟨rfl,rfl⟩:=h;obtain⟨hd,rfl⟩:=hv;obtain⟨h1,h2,_⟩:=hdm n ho hd;exact⟨h1,h2.symm⟩
  | box n o =>
   obtain⟨rfl,rfl⟩:=h;obtain⟨hd,b,hb,e⟩:=hv;obtain⟨h1,h2,_⟩:=hdm n ho hd;exact⟨h1,b,h2.trans hb,e⟩
  | nil=>obtain⟨rfl,rfl⟩:=h;exact hv
  | undef=>obtain rfl:=h;trivial
  | fn q cs =>
   obtain⟨rfl,rfl⟩:=h;obtain⟨vs,e,k⟩:=hv;refine⟨vs,e,?_⟩;have key:∀(l:List an) (m:List Value),(∀n∈l,((kF S.en n).isSome||o8 s.en n)=true)->kM (λn u=>dom S'.en n/\(∃b,g.loc n=.pointer (some ⟨b,0,none⟩))/\u=g.loc n) l m ->
    kM (λn u=>dom E n/\(∃b,(g.all f).loc n=.pointer (some ⟨b,0,none⟩))/\u=(g.all f).loc n) l m:=by
    intro l
    induction l with
    | nil=>intro m _ h;cases m with
     | nil=>trivial
     | cons _ _=>exact h.elim
    | cons n l ih=>intro m hl h;cases m with
     | nil=>exact h.elim
     | cons u m =>
      obtain⟨hd,⟨b,hb⟩,hu⟩:=h.1;obtain⟨h1,h2,_⟩:=hdm n (hl n (by simp)) hd;exact⟨⟨h1,⟨b,h2.trans hb⟩,hu.trans h2.symm⟩,ih m (λk hk=>hl k (by simp[hk])) h.2⟩
   exact key cs _ (λn hn=>all_eq_true.1 ho n hn) k
 have g2:∀c x y,sn S' (s.sigma S') c x y->ok c=true->mC (dom E) y:=by
  intro c x y h ho;cases c with
  | dat c=>obtain⟨b,_,rfl⟩:=h;exact CT.cell_in c b
  | own n =>
   obtain⟨rfl,_,_⟩:=h;obtain⟨e,m,hx⟩:=uD hnd ho;intro k hk;simp[Cell.refs]at hk;subst hk;exact hdome k _ hx
  | same n=>obtain⟨rfl,rfl⟩:=h;intro k hk;simp[Cell.refs]at hk;subst hk;exact hdmE k ho
  | box n o=>obtain⟨rfl,rfl⟩:=h;intro k hk;simp[Cell.refs]at hk;subst hk;exact hdmE k ho
  | nil=>obtain⟨rfl,rfl⟩:=h;exact l6 rfl
  | undef=>obtain rfl:=h;exact l6 rfl
  | fn q cs=>obtain⟨rfl,rfl⟩:=h;intro k hk;exact hdmE k (all_eq_true.1 ho k hk)
 have hokbox:∀n ss,kF s.en n=some (.box ss)->ss.all ok=true:=λn ss h=>by
  have:=all_eq_true.1 hoke _ (lw h);exact this
 have hlook:∀n e,kF E n=some e ->
  (∃c m x xs,kF s.en n=some (.root c m)/\e=.root c m xs/\kF (s.sigma S') n=some x/\mZ S' c m x=some xs/\uM w S' g c m x xs (f n)) \/
  (∃c m m' xs,kF s.en n=some (.keep c m)/\e=.root c m xs/\kF S'.en n=some (.root c m' xs)/\(m=true->m'=true)) \/
  (∃ss cs cs',kF s.en n=some (.box ss)/\e=.box cs'/\kF S'.en n=some (.box cs)/\pV S' (s.sigma S') ss cs cs') \/
  (kF s.en n=none/\((kF M n≠none/\e=.gone)\/(kF M n=none/\kF S.en n=some e/\kF S'.en n=some e))) \/
  (∃c xs,kF s.en n=some (.tree c)/\e=.tree c xs/\kF S'.en n=some (.tree c xs)):=by
  intro n e he;rw[hEd,lg]at he;have h0:=hen n
  unfold oB at h0;cases hs:kF s.en n with
  | none =>
   rw[hs]at h0;simp only at h0;rw[h0]at he;refine .inr (.inr (.inr (.inl ⟨rfl,?_⟩)));rw[lg]at he;cases hM:kF M n with
   | some y=>rw[hM]at he;cases he;exact .inl ⟨(λh=>by cases h),hT.gone n e hM⟩
   | none =>
    rw[hM]at he;have he:kF S.en n=some e:=he
    exact .inr ⟨rfl,he,(hT.en n hM (by unfold dom;rw[he];simp)).trans he⟩
  | some x =>
   rw[hs]at h0;cases x with
   | root c m =>
    obtain⟨x,xs,h1,h2,h3⟩:=h0;rw[h3]at he;cases he;have:=hf n
    unfold sq at this;rw[hs]at this;obtain⟨x',xs',k1,k2,k3⟩:=this;rw[h1]at k1;cases k1;rw[h2]at k2;cases k2;exact .inl ⟨c,m,x,xs,rfl,rfl,h1,h2,k3⟩
   | keep c m =>
    obtain⟨xs,h2,h3⟩:=h0;rw[h3]at he;cases he;obtain⟨m',k1,k2⟩:=xz h2;exact .inr (.inl ⟨c,m,m',xs,rfl,rfl,k1,k2⟩)
   | box ss =>
    obtain⟨cs,cs',h1,h2,h3⟩:=h0;rw[h2]at he;cases he;exact .inr (.inr (.inl ⟨ss,cs,cs',rfl,rfl,h1,h3⟩))
   | tree c =>
    obtain⟨xs,h1,h2⟩:=h0;rw[h2]at he;cases he;exact .inr (.inr (.inr (.inr ⟨c,xs,rfl,rfl,h1⟩)))
 have hbox_old:∀n cs,kF S.en n=some (.box cs)->∀c∈cs,mC (dom S.en) c:=hcS.box;have hMS:MS w0 T N E (g.all f) w:=by
  refine MS.rename (en:=S'.en) hI.ms rfl (λn e he=>?_) (lp S S' M s) (λn e he ha=>?_) (λn e he ht=>?_) (λn m k h h'=>lp.inj hσ hT.freed h h') (λn hn=>?_)
  · rcases hlook n e he with ⟨c,m,x,xs,h1,rfl,h2,h3,h4⟩|⟨c,m,m',xs,h1,rfl,h2,h3⟩|⟨ss,cs,cs',h1,rfl,h2,h3⟩|⟨h1,h2⟩|⟨c,xs,h1,rfl,h2⟩
    · exact⟨h4.esz,h4.rep,h4.imm,h4.nod⟩
    · obtain⟨k1,k2,k3,k4⟩:=lB hI.mem h2;obtain⟨e1,e2,e3,e4⟩:=hold n (by unfold dom;rw[h2];simp) (λe m h=>by rw[h1]at h;cases h);refine⟨e2.trans k1,?_,?_,λhm=>?_⟩
      · show mb w c xs (f n).loc (f n).top (f n).nest;rw[e1,e3,e4];exact k2
      · show ∀b∈(f n).nest,g.I b;rw[e4];exact k3
      · show (f n).nest.Nodup;rw[e4];exact k4 (h3 hm)
    · obtain⟨b,us,k1,k2,k3,k4⟩:=hI.mem.rep n _ h2;obtain⟨e1,e2,e3,e4⟩:=hold n (by unfold dom;rw[h2];simp) (λe m h=>by rw[h1]at h;cases h);exact⟨b,us,e3.trans k1,e1.trans k2,k3,rM g1 h3 (hokbox n ss h1) k4⟩
    · rcases h2 with ⟨_,rfl⟩|⟨_,h3,h4⟩
      · trivial
      · have hrep:=hI.mem.rep n e h4;obtain⟨e1,e2,e3,e4⟩:=hold n (by unfold dom;rw[h4];simp) (λe m h=>by rw[h1]at h;cases h);cases e with
        | gone=>trivial
        | fwd c xs=>show rC _ w (.sl c) xs (f n).loc;rw[e1];exact hrep
        | root c m xs =>
         obtain⟨k1,k2,k3,k4⟩:=hrep;refine⟨e2.trans k1,?_,?_,λhm=>?_⟩
         · show mb w c xs (f n).loc (f n).top (f n).nest;rw[e1,e3,e4];exact k2
         · show ∀b∈(f n).nest,g.I b;rw[e4];exact k3
         · show (f n).nest.Nodup;rw[e4];exact k4 hm
        | box cs =>
         obtain⟨b,us,k1,k2,k3,k4⟩:=hrep;refine⟨b,us,e3.trans k1,e1.trans k2,k3,?_⟩;exact kM.imp (λ_ _ h=>h.mono hle) (oa k4 (hbox_old n cs h3))
        | tree c xs =>
         obtain⟨k1,k2,k3⟩:=hrep;refine⟨e2.trans k1,?_,?_⟩
         · show o9 w c xs (f n).loc (f n).nest (g.rows n);rw[e1,e4];exact k2
         · show (f n).nest.Nodup;rw[e4];exact k3
    · obtain⟨k1,k2,k3⟩:=hI.mem.rep n _ h2;obtain⟨e1,e2,e3,e4⟩:=hold n (by unfold dom;rw[h2];simp) (λe m h=>by rw[h1]at h;cases h);refine⟨e2.trans k1,?_,?_⟩
      · show o9 w c xs (f n).loc (f n).nest (g.rows n);rw[e1,e4];exact k2
      · show (f n).nest.Nodup;rw[e4];exact k3
  · have hkeep:∀{k:an} {e':Entry},kF S'.en n=some e'->e'.alive=true->(e.deep=true->e'.deep=true)->(∀e m,kF s.en n≠some (.root e m))->lp S S' M s n n ->
     ((g.all f).top n=none/\(g.all f).nest n=[])\/∃k f',kF S'.en k=some f'/\f'.alive=true/\(e.deep=true->f'.deep=true)/\(g.all f).top n=g.top k/\(∀b∈(g.all f).nest n,b∈g.nest k)/\lp S S' M s n k:=by
     intro _ e' h1 h2 h3 h4 h5;obtain⟨e1,e2,e3,e4⟩:=hold n (by unfold dom;rw[h1];simp) h4;exact .inr ⟨n,e',h1,h2,h3,e3,λb hb=>by rw[←e4];exact hb,h5⟩
    rcases hlook n e he with ⟨c,m,x,xs,h1,rfl,h2,h3,h4⟩|⟨c,m,m',xs,h1,rfl,h2,h3⟩|⟨ss,cs,cs',h1,rfl,h2,h3⟩|⟨h1,h2⟩|⟨c,xs,h1,rfl,h2⟩
    · rcases h4.old with ⟨k1,k2⟩|⟨r,m',ys,k1,k2,k3,k4,k5⟩
      · exact .inl ⟨k1,k2⟩
      · exact .inr ⟨r,_,k2,rfl,k5,k3,k4,.inl ⟨c,m,x,c,m',ys,h1,h2,k1,k2⟩⟩
    · exact hkeep (k:=n) h2 rfl h3 (λe m h=>by rw[h1]at h;cases h) (.inr (.inl ⟨rfl,c,m,h1⟩))
    · exact hkeep (k:=n) h2 rfl (λh=>by cases h) (λe m h=>by rw[h1]at h;cases h) (.inr (.inr (.inl ⟨rfl,ss,cs,h1,h2⟩)))
    · rcases h2 with ⟨_,rfl⟩|⟨hM,h3,h4⟩
      · cases ha
      · exact hkeep (k:=n) h4 ha id (λe m h=>by rw[h1]at h;cases h) (.inr (.inr (.inr ⟨rfl,h1,hM,by unfold dom;rw[h3];simp⟩)))
    · cases ha
  · rcases hlook n e he with ⟨c,m,x,xs,h1,rfl,h2,h3,h4⟩|⟨c,m,m',xs,h1,rfl,h2,h3⟩|⟨ss,cs,cs',h1,rfl,h2,h3⟩|⟨h1,h2⟩|⟨c,xs,h1,rfl,h2⟩
    · cases ht
    · cases ht
    · cases ht
    · rcases h2 with ⟨_,rfl⟩|⟨hM,h3,h4⟩
      · cases ht
      · exact⟨⟨e,h4,ht⟩,(hold n (by unfold dom;rw[h4];simp) (λe m h=>by rw[h1]at h;cases h)).2.2.2⟩
    · exact⟨⟨_,h2,rfl⟩,(hold n (by unfold dom;rw[h2];simp) (λe m h=>by rw[h1]at h;cases h)).2.2.2⟩
  · show ((f n).loc).oneCell'=true;have:=hf n
    unfold sq at this;split at this
    · obtain⟨x,xs,_,_,h⟩:=this;exact h.one
    · by_cases hd:dom S'.en n
      · rw[(this.1 hd).1];exact hI.mem.one n hd
      · rw[this.2 hd];rfl
 have htmv:∀t,(∃agg ss cs,kF s.tm t=some (agg,ss)/\qj agg (S'.tmp t)=true/\(s.over ⟨W++S.tm,M++S.en⟩ d).tmp t=nI agg cs/\pV S' (s.sigma S') ss (S'.tmp t).cells cs) \/
  (s.over ⟨W++S.tm,M++S.en⟩ d).tmp t=.undef\/(S'.tmp t=S.tmp t/\(s.over ⟨W++S.tm,M++S.en⟩ d).tmp t=S.tmp t):=by
  intro t;have h0:=htm t
  unfold so at h0;unfold St.tmp;rw[hTd,lg];cases hs:kF s.tm t with
  | some q =>
   obtain⟨agg,ss⟩:=q;rw[hs]at h0;obtain⟨h1,cs,h2,h3⟩:=h0;rw[h2];exact .inl ⟨agg,ss,cs,rfl,h1,rfl,h3⟩
  | none =>
   rw[hs]at h0;simp only at h0;rw[h0,lg];cases hW:kF W t with
   | some v=>obtain rfl:=hT.undef t v hW;exact .inr (.inl rfl)
   | none=>exact .inr (.inr ⟨hT.tm t hW,rfl⟩)
 have hoktm:∀t agg ss,kF s.tm t=some (agg,ss)->ss.all ok=true:=λt agg ss h=>by
  have:=all_eq_true.1 hokt _ (lw h);exact this
 refine⟨g.all f,⟨by rw[hE];exact hMS.mem,by rw[hE];exact hMS.since,λt=>?_,hI.plain⟩,hle,⟨λt=>?_,?_⟩⟩
 · rw[hE];rcases htmv t with ⟨agg,ss,cs,h1,h2,h3,h4⟩|h|⟨h1,h2⟩
   · rw[h3];have hv:=hI.tmps t
     have hal:=hoktm t agg ss h1;cases hx:S'.tmp t with
     | cell c =>
      rw[hx]at h2 h4 hv;cases agg with
      | true=>cases h2
      | false =>
       have hl:=tQ h4;have:=rM (vs:=[a.tmps.getD t undef]) g1 h4 hal (show kM _ [c] _ from⟨hv,trivial⟩)
       cases cs with
       | nil=>simp[AV.cells]at hl
       | cons y ys=>cases ys with
        | nil=>exact this.1
        | cons _ _=>simp[AV.cells]at hl
     | agg ds =>
      rw[hx]at h2 h4 hv;cases agg with
      | false=>cases h2
      | true =>
       obtain⟨vs,e,k⟩:=hv;have:=rM g1 h4 hal k
       have hav:nI true cs=.agg cs:=by cases cs<;>rfl
       rw[hav];exact⟨vs,e,this⟩
     | tup l=>rw[hx]at h2;cases agg<;>cases h2
   · rw[h];exact trivial
   · rw[h2];have hv:=hI.tmps t
     rw[h1]at hv;exact (hv.restrict (hcS.tmp t)).mono hle
 · rw[hE];rcases htmv t with ⟨agg,ss,cs,h1,h2,h3,h4⟩|h|⟨h1,h2⟩
   · rw[h3];have hin:=uN g2 h4 (hoktm t agg ss h1)
     have:=vQ (agg:=agg) hin;cases hav:nI agg cs with
     | cell c=>rw[hav]at this;exact this
     | agg ds=>rw[hav]at this;exact this
     | tup l=>rw[hav]at this;exact this.elim
   · rw[h];exact l6 rfl
   · rw[h2];exact (hcS.tmp t).mono hdomS
 · intro n cs hn c hc;rw[hE]at hn ⊢;rcases hlook n _ hn with ⟨_,_,_,_,_,h,_⟩|⟨_,_,_,_,_,h,_⟩|⟨ss,cs1,cs',h1,h,h2,h3⟩|⟨h1,h2⟩|⟨_,_,_,h,_⟩
   · cases h
   · cases h
   · cases h;exact uN g2 h3 (hokbox n ss h1) c hc
   · rcases h2 with ⟨_,h⟩|⟨_,h3,_⟩
     · cases h
     · exact (hbox_old n cs h3 c hc).mono hdomS
   · cases h
end Go.V
namespace Go.V
variable {P:Program} {w0:World} {T N:Nat->Prop} {S S' S1 S2:St} {g g1:Gh} {w w1 w':World} {a a':Act} {G:lR} {nt:Nat} {ann:List (Nat×kL)}

theorem pn.refl (S:St):pn S S:=⟨⟨[],rfl⟩,⟨[],rfl⟩⟩
theorem pn.trans (h:pn S S1) (k:pn S1 S2):pn S S2:=by
 obtain⟨⟨x,hx⟩,hy⟩:=h;obtain⟨⟨z,hz⟩,ht⟩:=k;exact⟨⟨z++x,by rw[hz,hx,append_assoc]⟩,sj ht hy⟩
theorem At.trans {D0:an->Prop} {g0:Gh} {w00:World} (hle:Le D0 g0 w00 (dom S.en) g w) (h:At w0 T N nt (dom S.en) g w S' a' w'):At w0 T N nt D0 g0 w00 S' a' w':=by
 obtain⟨g',h1,h2,h3⟩:=h;exact⟨g',h1,h2,hle.trans h3⟩
theorem wo {α β:Type} {step:α->Option (α⊕β)} {x:α} {y:β} (h:loop step x=some y):∃k,nA step k x=some y:=by
 unfold loop at h;split at h
 · exact⟨_,h⟩
 · cases h

theorem ne:∀{l:List (an×mT)} {n:an} {e:Entry},kF (mg l) n=some e->e=.gone
 | [],n,e,h=>by cases h
 | (k,.box ss)::l,n,e,h=>by
  simp only[mg,kO]at h;split at h
  · cases h;rfl
  · exact ne h
 | (k,.keep c m)::l,n,e,h=>by
  simp only[mg,kO]at h;split at h
  · cases h;rfl
  · exact ne h
 | (k,.root c m)::l,n,e,h=>ne (l:=l) h
 | (k,.tree c)::l,n,e,h=>by
  simp only[mg,kO]at h;split at h
  · cases h;rfl
  · exact ne h
theorem pX:∀{l:List (an×Cell)} {n:an} {e:Entry},kF (nP l) n=some e->e=.gone
 | [],n,e,h=>by cases h
 | (k,x)::l,n,e,h=>by
  simp only[nP]at h;split at h
  · rw[kO]at h;split at h
    · cases h;rfl
    · exact pX h
  · exact pX h
theorem wq {L:kL} {n:an} {e:Entry} (h:kF (L.mods S) n=some e):e=.gone:=by
 unfold kL.mods at h;rw[lg]at h;split at h
 · rename_i hx;cases h;exact ne hx
 · rw[lg]at h;split at h
   · rename_i hx;cases h;exact ne hx
   · rw[lg]at h;split at h
     · rename_i hx;cases h;cases hb:L.back with
       | none=>rw[hb]at hx;cases hx
       | some s=>rw[hb]at hx;exact ne hx
     · exact pX h
theorem wM {l:List (an×mT)} {n:an} (h:o8 l n=true):n∈(mg l).map (·.1):=by
 induction l with
 | nil=>cases h
 | cons p l ih =>
  obtain⟨k,x⟩:=p;simp only[o8,any_cons,Bool.or_eq_true,aT]at h;rcases h with ⟨h1,h2⟩|h
  · obtain rfl:=Nat.eq_of_beq_eq_true h1;cases x with
    | root c m=>cases h2
    | keep c m=>simp[mg]
    | tree c=>simp[mg]
    | box ss=>simp[mg]
  · have:=ih h;cases x with
    | root c m=>exact this
    | keep c m=>exact mem_cons_of_mem _ this
    | tree c=>exact mem_cons_of_mem _ this
    | box ss=>exact mem_cons_of_mem _ this
theorem vS {l:List (an×Cell)} {p:an×Cell} {r:an} (hp:p∈l) (hr:mV p.2=some r):r∈(nP l).map (·.1):=by
 induction l with
 | nil=>simp at hp
 | cons q l ih =>
  obtain⟨k,x⟩:=q;simp only[nP];rcases mem_cons.1 hp with rfl|hp
  · simp only at hr;rw[hr];simp
  · split
    · exact mem_cons_of_mem _ (ih hp)
    · exact ih hp
theorem sQ {L:kL} {n:an} (h:n∈(mg L.head.en).map (·.1)\/n∈(mg L.out.en).map (·.1)\/n∈(w4 L.back).map (·.1)\/n∈(nP (L.head.sigma S)).map (·.1)):kF (L.mods S) n≠none:=by
 rw[←oz];unfold kL.mods;simp only[map_append,mem_append];rcases h with h|h|h|h
 · exact .inl h
 · exact .inr (.inl h)
 · exact .inr (.inr (.inl h))
 · exact .inr (.inr (.inr h))
theorem vn:∀{c:Code} {t:Nat} {v:AV},(t,v)∈pj c->v=.undef:=by
 have hf:∀(l:List (Nat×Oper)) (t:Nat) (v:AV),(t,v)∈mH l->v=.undef:=by
  intro l
  induction l with
  | nil=>intro t v h;simp[mH]at h
  | cons p l ih =>
   intro t v h;obtain⟨i,o⟩:=p;simp only[mH]at h;split at h
   · rcases mem_cons.1 h with h|h
     · exact (Prod.mk.inj h).2
     · exact ih t v h
   · exact ih t v h
 intro c
 induction c with
 | region id ops draw=>intro t v h;exact hf _ t v h
 | seq x y ihx ihy=>intro t v h;exact (mem_append.1 h).elim ihx ihy
 | cond o x y ihx ihy=>intro t v h;exact (mem_append.1 h).elim ihx ihy
 | block i x ih=>intro t v h;exact ih h
 | loop x ih=>intro t v h;exact ih h
 | _=>intro t v h;simp[pj]at h
theorem oc:∀(l:List (an×mT)) (z:kH (lJ l)),(mL l z).map (·.1)=l.map (·.1)
 | [],z=>rfl
 | (n,.root e m)::l,z=>congrArg (n :: ·) (oc l _)
 | (n,.keep e m)::l,z=>congrArg (n :: ·) (oc l _)
 | (n,.box ss)::l,z=>congrArg (n :: ·) (oc l _)
 | (n,.tree e)::l,z=>congrArg (n :: ·) (oc l _)
theorem tz:∀(l:List (Nat×Bool×List lP)) (R:List Cs) (z:kH (pr l R)),(na l R z).1.map (·.1)=l.map (·.1)
 | [],R,z=>rfl
 | (t,agg,ss)::l,R,z=>congrArg (t :: ·) (tz l R _)
theorem sr {α:Type} {old nw:List (Nat×α)}:ua old (nw++old)=nw:=by
 unfold ua;rw[List.length_append,Nat.add_sub_cancel,List.take_left]
theorem vo {α:Type} {l:List (Nat×α)} {n:Nat} (h:∀p∈l,p.1≠n):kF l n=none:=by
 cases hf:kF l n with
 | none=>rfl
 | some x=>exact absurd rfl (h _ (lw hf))
def kL.has (L:kL) (s:lz):Prop:=s=L.head\/s=L.out\/L.back=some s
theorem kL.has_ok {L:kL} {s:lz} {body:Code} (h:L.has s) (hk:L.okAt body S=true):s.okAt S=true:=by
 simp only[kL.okAt,aT]at hk;obtain⟨h1,h2,h3,h4⟩:=hk;rcases h with rfl|rfl|h
 · exact h1
 · exact h2
 · rw[h]at h4;exact h4
theorem kL.has_kept {L:kL} {s:lz} (h:L.has s) {n:an} (hn:o8 s.en n=true):kF (L.mods S) n≠none:=by
 have:=wM hn;rcases h with rfl|rfl|h
 · exact sQ (.inl this)
 · exact sQ (.inr (.inl this))
 · exact sQ (.inr (.inr (.inl (by rw[h];exact this))))
theorem qN.entry {L:kL} {body:Code} (hk:L.okAt body S=true):qN S S (L.mods S) (pj body) L.head:=by
 refine⟨λn e h=>wq h,λt v h=>vn (lw h),λn h=>h,λn _ _=>rfl,λt _=>rfl,λn h=>kL.has_kept (.inl rfl) h,kL.has_ok (.inl rfl) hk,?_⟩;refine all_eq_true.2 λp hp=>?_;split
 · rfl
 · rename_i r hr;split
   · rfl
   · have:=sQ (L:=L) (S:=S) (.inr (.inr (.inr (vS hp hr))));cases h:kF (L.mods S) r with
     | none=>exact absurd h this
     | some _=>rfl
theorem qN.behind {L:kL} {body:Code} {d:L.head.den} {s:lz} (hk:L.okAt body S=true) (hs:L.has s) (hx:pn (L.head.over (L.base body S) d) S') (hn:L.okNew body S (L.head.over (L.base body S) d) S'=true) (hf:Go.V.freed S (L.mods S) (s.sigma S')=true) :
 qN S S' (L.mods S) (pj body) s:=by
 obtain⟨⟨nw,hen⟩,nt,htm⟩:=hx;have hE:S'.en=nw++((L.head.st d).en++(L.mods S++S.en)):=hen
 have hT:S'.tm=nt++((L.head.st d).tm++(pj body++S.tm)):=htm;have hk':=hk
 simp only[kL.okAt,aT]at hk';have hk1:=hk'.1
 simp only[lz.okAt,aT]at hk1;simp only[kL.okNew,aT]at hn;rw[hen,htm,sr,sr]at hn;refine⟨λn e h=>wq h,λt v h=>vn (lw h),λn h=>?_,λn hm hd=>?_,λt ht=>?_,λn h=>kL.has_kept hs h,kL.has_ok hs hk,hf⟩
 · rw[hE];exact n4 _ _ _ (n4 _ _ _ (n4 _ _ _ h))
 · rw[hE,lg,vo λp hp he=>?_]
   · simp only;rw[lg];have:kF (L.head.st d).en n=none:=by
      cases hf:kF (L.head.st d).en n with
      | none=>rfl
      | some y =>
       exfalso;have h1:n∈(mL L.head.en (na L.head.tm (lJ L.head.en) d).2).map (·.1):=oz.2 (by rw[show kF (mL L.head.en (na L.head.tm (lJ L.head.en) d).2) n=some y from hf];simp)
       rw[oc]at h1;obtain⟨p,hp,rfl⟩:=mem_map.1 h1;obtain⟨k,x⟩:=p;cases x with
       | root e m=>exact hd (nd hk1.1 hp)
       | keep e m=>exact kL.has_kept (S:=S) (L:=L) (.inl rfl) (tP (oC hk1.2.1 hp) (by simp)) hm
       | tree e=>exact kL.has_kept (S:=S) (L:=L) (.inl rfl) (tP (oC hk1.2.1 hp) (by simp)) hm
       | box ss=>exact kL.has_kept (S:=S) (L:=L) (.inl rfl) (tP (oC hk1.2.1 hp) (by simp)) hm
     rw[this];simp only;rw[lg,hm]
   · have:=all_eq_true.1 hn.1 p hp;rw[he]at this;split at this
     · rename_i h;exact hd h
     · rw[hm]at this;cases this
 · unfold St.tmp;rw[hT,lg,vo λp hp he=>?_]
   · simp only;rw[lg];have:kF (L.head.st d).tm t=none:=by
      cases hf:kF (L.head.st d).tm t with
      | none=>rfl
      | some y =>
       exfalso;have h1:t∈(na L.head.tm (lJ L.head.en) d).1.map (·.1):=oz.2 (by rw[show kF (na L.head.tm (lJ L.head.en) d).1 t=some y from hf];simp)
       have h1:t∈L.head.tm.map (·.1):=(tz L.head.tm (lJ L.head.en) d)▸h1;obtain⟨p,hp,rfl⟩:=mem_map.1 h1;have:=all_eq_true.1 hk'.2.2.1 p hp
       rw[ht]at this;cases this
     rw[this];simp only;rw[lg,ht]
   · have:=all_eq_true.1 hn.2 p hp;rw[he,ht]at this;cases this
theorem qO {A:Type} {L:kL} {body:Code} {H:St} {s:lz} {k:s.den->Option A} {r:A} (h:L.leave body S H s S' k=some r) :
 kQ (s.seals S')=true/\L.okNew body S H (s.shut S')=true/\freed S (L.mods S) (s.sigma (s.shut S'))=true/\∃d,s.read (s.shut S')=some d/\k d=some r:=by
 unfold kL.leave at h;cases hc:(kQ (s.seals S')&&(L.okNew body S H (s.shut S')&&freed S (L.mods S) (s.sigma (s.shut S'))))with
 | false=>rw[hc]at h;cases h
 | true =>
  rw[hc]at h;simp only[aT,cT]at hc h;cases hd:s.read (s.shut S')with
  | none=>rw[hd]at h;cases h
  | some d=>rw[hd]at h;exact⟨hc.1,hc.2.1,hc.2.2,d,rfl,h⟩
theorem uO {s:lz} {L:kL} {body:Code} {d:s.den}:pn S (s.over (L.base body S) d):=by
 refine⟨⟨(s.st d).en++L.mods S,?_⟩,⟨(s.st d).tm++pj body,?_⟩⟩
 · show (s.st d).en++(L.mods S++S.en)=_;rw[append_assoc]
 · show (s.st d).tm++(pj body++S.tm)=_;rw[append_assoc]
end Go.V
namespace Go.V
variable {P:Program} {w0:World} {T N:Nat->Prop} {S S' S1 S2:St} {g g1:Gh} {w w1 w':World} {a a':Act} {G:lR} {nt:Nat} {ann:List (Nat×kL)}

structure C9 (w0:World) (T N:Nat->Prop) (nt:Nat) (S:St) (g:Gh) (w:World) {A:Type} (K:rz A) (r:A) (Q:Exit->Act->World->Prop):Prop where
 n:∀S' a' w',lu S'->pn S S'->At w0 T N nt (dom S.en) g w S' a' w'->K.n S'=some r->Q .normal a' w'
 x:∀i S' a' w',lu S'->pn S S'->At w0 T N nt (dom S.en) g w S' a' w'->K.x i S'=some r->Q (.exit i) a' w'
 r:∀S' a' w',lu S'->pn S S'->At w0 T N nt (dom S.en) g w S' a' w'->K.r S'=some r->Q .ret a' w'
def p7 (P:Program) (G:lR) (ann:List (Nat×kL)) (nt:Nat) (c:Code):Prop :=
 ∀{A:Type} {w0:World} {T N:Nat->Prop} {S:St} {K:rz A} {r:A} {g:Gh} {w:World} {a:Act} {Q:Exit->Act->World->Prop},o3 nt c=true->lh w0 T N S g w a->nt<=a.tmps.size->lu S->nJ G ann c S K=some r ->
  C9 w0 T N nt S g w K r Q->c.wp P Q a w
theorem nW {α β:Type} (step:α->Option (α⊕β)) (k:Nat) (x:α):nA step (k+1) x=(step x).bind (Sum.elim (nA step k) some):=by
 show (step x).bind _=_
 congr 1
 funext v
 cases v<;>rfl
theorem qy {S:St}:∀{l:List lP} {xs:List Cell},l7 S.en false true (ot S l xs)
 | [],xs=>by intro p hp;cases xs<;>simp[ot]at hp
 | s::l,[]=>by intro p hp;cases s<;>simp[ot]at hp
 | s::l,x::xs=>by
  have ih:=qy (S:=S) (l:=l) (xs:=xs);have key:∀{c:CT} {x:Cell},l7 S.en false true (ot S (.dat c::l) (x::xs)):=by
   intro c x;cases c with
   | sl e=>cases x with
    | own r =>
     intro p hp;simp only[ot]at hp;rcases mem_append.1 hp with hp|hp
     · split at hp
       · rename_i e' m ys hr;obtain rfl:=mem_singleton.1 hp;exact⟨e',m,ys,hr,(λh=>by cases h),rfl⟩
       · simp at hp
     · exact ih p hp
    | _=>exact ih
   | _=>exact ih
  cases s with
  | dat c=>exact key
  | _=>exact ih
theorem sR {s:lz} {S:St}:l7 S.en false true (s.seals S):=by
 refine l7.append (λp hp=>?_) (λp hp=>?_)
 · obtain⟨q,_,hp⟩:=mem_flatMap.1 hp;exact qy p hp
 · obtain⟨q,_,hp⟩:=mem_flatMap.1 hp;split at hp
   · split at hp
     · exact qy p hp
     · simp at hp
   · simp at hp
theorem xA {l:List (an×Entry)} {D:an->Prop} {H:St} (hu:l7 S'.en false true l) (hd:kQ l=true) (hc:lu S') (he:pn H S') (hat:At w0 T N nt D g w S' a' w') :
 lu (S'.more l)/\pn H (S'.more l)/\At w0 T N nt D g w (S'.more l) a' w':=by
 obtain⟨g1,hI,hn,hle0⟩:=hat;obtain⟨g2,hM,hle,_⟩:=hI.ms.useAll hu hd;have hdom:∀n,dom S'.en n->dom (S'.more l).en n:=λn h=>oO h
 refine⟨⟨λt=>(hc.tmp t).mono hdom,λn cs h=>?_⟩,he.trans ⟨⟨_,rfl⟩,⟨[],rfl⟩⟩,g2,⟨hM.mem,hM.since,λt=>(hI.tmps t).mono hle,hI.plain⟩,hn,hle0.trans hle⟩;have h:kF (l++S'.en) n=some (.box cs):=h
 rw[lg]at h;split at h
 · rename_i y hy;cases h;obtain⟨_,_,_,_,_,he⟩:=hu _ (lw hy);cases he
 · exact λc hc'=>(hc.box n cs h c hc').mono hdom
theorem tR {L:kL} {body:Code} (hb:p7 P G ann nt body) (hbel:o3 nt body=true) (hk:L.okAt body S=true) (hcS:lu S) {β:Type} {KX:L.head.den->Nat->St->Option (L.head.den⊕β)} {KR:L.head.den->St->Option (L.head.den⊕β)} {y:β}
 {Q:Exit->Act->World->Prop} {step:L.head.den->Option (L.head.den⊕β)}
 (hstep:∀d,step d=nJ G ann body (L.head.over (L.base body S) d) ⟨λS'=>L.leave body S (L.head.over (L.base body S) d) L.head S' λd=>some (.inl d),KX d,KR d⟩)
 (hx:∀d i S' a' w' v,lu S'->pn (L.head.over (L.base body S) d) S'->At w0 T N nt (dom S.en) g w S' a' w'->KX d i S'=some v->(∀d',v≠.inl d')/\(v=.inr y->Q (.exit i) a' w'))
 (hr:∀d S' a' w' v,lu S'->pn (L.head.over (L.base body S) d) S'->At w0 T N nt (dom S.en) g w S' a' w'->KR d S'=some v->(∀d',v≠.inl d')/\(v=.inr y->Q .ret a' w'))
 (hkx:True):∀(k:Nat) (d:L.head.den) (a':Act) (w':World),nA step k d=some y->lu (L.head.over (L.base body S) d)->At w0 T N nt (dom S.en) g w (L.head.over (L.base body S) d) a' w'->Code.rounds P body Q k a' w'
 | 0,d,a',w',h,_,_=>by cases h
 | k+1,d,a',w',h,hc,hat=>by
  rw[nW]at h;rw[Option.bind_eq_some_iff]at h;obtain⟨v,hv,hgo⟩:=h;rw[hstep]at hv;obtain⟨g1,hI,hn,hle⟩:=hat;rw[rounds_succ];refine hb hbel hI hn hc hv ⟨λS' a2 w2 hc' he hat' hkn=>?_,λi S' a2 w2 hc' he hat' hkx=>?_,λS' a2 w2 hc' he hat' hkr=>?_⟩
  · obtain⟨hd1,hn1,hf1,d',hd',hinl⟩:=qO hkn;cases hinl;obtain⟨_,he,g2,hI2,hn2,hle2⟩:=xA sR hd1 hc' he hat';have hT:=qN.behind hk (.inl rfl) he hn1 hf1
    obtain⟨g3,k1,k2,k3⟩:=sP hI2 hcS hT hd';refine tR hb hbel hk hcS hstep hx hr hkx k d' a2 w2 hgo k3 ⟨g3,k1,hn2,?_⟩;have hle3:=hle.trans hle2
    exact⟨k2.dom,λn hn=>(k2.loc n hn).trans (hle3.loc n hn),λn hn=>(k2.esz n hn).trans (hle3.esz n hn),λb hb=>k2.imm b (hle3.imm b hb),hle3.mem,λn hn=>(k2.rows n hn).trans (hle3.rows n hn)⟩
  · obtain⟨h1,h2⟩:=hx d i S' a2 w2 v hc' he (At.trans hle hat') hkx;cases v with
    | inl d'=>exact absurd rfl (h1 d')
    | inr b=>cases hgo;exact h2 rfl
  · obtain⟨h1,h2⟩:=hr d S' a2 w2 v hc' he (At.trans hle hat') hkr;cases v with
    | inl d'=>exact absurd rfl (h1 d')
    | inr b=>cases hgo;exact h2 rfl
theorem vT {L:kL} {body:Code} {s:lz} {d:L.head.den} {d':s.den} (hk:L.okAt body S=true) (hs:L.has s) (hcS:lu S) (hc':lu S') (he:pn (L.head.over (L.base body S) d) S') (hat:At w0 T N nt (dom S.en) g w S' a' w')
 (h0:kQ (s.seals S')=true) (h1:L.okNew body S (L.head.over (L.base body S) d) (s.shut S')=true) (h2:freed S (L.mods S) (s.sigma (s.shut S'))=true) (h3:s.read (s.shut S')=some d') :
 lu (s.over (L.base body S) d')/\At w0 T N nt (dom S.en) g w (s.over (L.base body S) d') a' w':=by
 obtain⟨_,he,g2,hI2,hn2,hle2⟩:=xA sR h0 hc' he hat;obtain⟨g3,k1,k2,k3⟩:=sP hI2 hcS (qN.behind hk hs he h1 h2) h3;exact⟨k3,g3,k1,hn2,⟨k2.dom,λn hn=>(k2.loc n hn).trans (hle2.loc n hn),λn hn=>(k2.esz n hn).trans (hle2.esz n hn),λb hb=>k2.imm b (hle2.imm b hb),hle2.mem,λn hn=>(k2.rows n hn).trans (hle2.rows n hn)⟩⟩
theorem zd {A:Type} {id:Nat} {b:Code} {S:St} {K:rz A} (h:∀c,b≠.loop c):nJ G ann (.block id b) S K=nJ G ann b S ⟨K.n,λi S'=>cond (Nat.beq i id) (K.n S') (K.x i S'),K.r⟩:=by
 cases b with
 | loop c=>exact absurd rfl (h c)
 | _=>rfl
theorem pB {id:Nat} {b:Code} (hb:p7 P G ann nt b) (h:∀c,b≠.loop c):p7 P G ann nt (.block id b):=by
 intro A w0 T N S K r g w a Q hbel hI hn hc hr hg;rw[zd h]at hr;refine wp_block (hb hbel hI hn hc hr ⟨hg.n,λi S' a' w' hc' he hat hk=>?_,hg.r⟩);show if i=id then Q .normal a' w' else Q (.exit i) a' w'
 have hk:cond (Nat.beq i id) (K.n S') (K.x i S')=some r:=hk;by_cases hid:i=id
 · subst hid;rw[show Nat.beq i i=true from Nat.beq_refl i]at hk;rw[if_pos rfl];exact hg.n S' a' w' hc' he hat hk
 · have hb:Nat.beq i id=false:=by cases hbb:Nat.beq i id with
    | false=>rfl
    | true=>exact absurd (Nat.eq_of_beq_eq_true hbb) hid
   rw[hb]at hk;rw[if_neg hid];exact hg.x i S' a' w' hc' he hat hk
theorem AN {id:Nat} {body:Code} (hb:p7 P G ann nt body) {A:Type} {w0:World} {T N:Nat->Prop} {S:St} {K:rz A} {r:A} {g:Gh} {w:World} {a:Act} {Q:Exit->Act->World->Prop} (hbel:o3 nt body=true) (hI:lh w0 T N S g w a) (hn:nt<=a.tmps.size) (hcS:lu S)
 (hr:sI ann id body (λS K=>nJ G ann body S K) S K=some r) (hg:C9 w0 T N nt S g w K r Q):(Code.block id (.loop body)).wp P Q a w:=by
 cases hL:kF ann id with
 | none =>
  have hr:(match kF ann id with|none=>none|some L=>_:Option A)=some r:=hr;rw[hL]at hr;cases hr
 | some L =>
  obtain⟨head,out,bk⟩:=L;cases bk with
  | none =>
   have hr:(match kF ann id with
    | none=>none
    | some L=>cond (L.okAt body S) (match L.head.read S with
     | none=>none
     | some d=>match L with
      | ⟨head,out,none⟩=>(loop (λd:head.den=>let H:=head.over (kL.base ⟨head,out,none⟩ body S) d
       nJ G ann body H ⟨λS'=>kL.leave ⟨head,out,none⟩ body S H head S' λd=>some (.inl d),
        λi S'=>cond (Nat.beq i id) (kL.leave ⟨head,out,none⟩ body S H out S' λd=>some (.inr d)) none,λ_=>none⟩) d).bind
       λd=>K.n (out.over (kL.base ⟨head,out,none⟩ body S) d)
      | ⟨head,out,some back⟩=>_) none:Option A)=some r:=hr
   rw[hL]at hr;simp only at hr;cases hk:kL.okAt ⟨head,out,none⟩ body S with
   | false=>rw[hk]at hr;cases hr
   | true =>
    rw[hk]at hr;simp only[cT]at hr;cases hd:head.read S with
    | none=>rw[hd]at hr;cases hr
    | some d0 =>
     rw[hd]at hr;simp only at hr;rw[Option.bind_eq_some_iff]at hr;obtain⟨y,hy,hend⟩:=hr;obtain⟨k,hit⟩:=wo hy;obtain⟨g3,k1,k2,k3⟩:=sP hI hcS (qN.entry hk) hd;refine wp_block (wp_loop_rounds k (tR (L:=⟨head,out,none⟩) hb hbel hk hcS (w0:=w0) (T:=T) (N:=N) (g:=g) (w:=w) (β:=out.den) (KX:=λd i S'=>cond (Nat.beq i id) (kL.leave ⟨head,out,none⟩ body S (head.over (kL.base ⟨head,out,none⟩ body S) d) out S' λd=>some (.inr d)) none) (KR:=λ_ _=>none) (λd=>rfl) (λd i S' a' w' v hc' he hat hkx=>?_) (λd S' a' w' v hc' he hat hkr=>by cases hkr) trivial k d0 a w hit k3 ⟨g3,k1,hn,k2⟩));have hkx:cond (Nat.beq i id) (kL.leave ⟨head,out,none⟩ body S (head.over (kL.base ⟨head,out,none⟩ body S) d) out S' λd=>some (.inr d)) none=some v:=hkx
     cases hid:Nat.beq i id with
     | false=>rw[hid]at hkx;cases hkx
     | true =>
      have hkx':kL.leave ⟨head,out,none⟩ body S (head.over (kL.base ⟨head,out,none⟩ body S) d) out S' (λd=>some (.inr d))=some v:=by rw[hid]at hkx;exact hkx
      obtain rfl:=Nat.eq_of_beq_eq_true hid;obtain⟨e0,e1,e2,d',e3,e4⟩:=qO (L:=⟨head,out,none⟩) hkx';cases e4;refine⟨(λd h=>by cases h),λhv=>?_⟩;cases hv;obtain⟨f1,f2⟩:=vT (L:=⟨head,out,none⟩) hk (.inr (.inl rfl)) hcS hc' he hat e0 e1 e2 e3;show if i=i then Q .normal a' w' else _
      rw[if_pos rfl];exact hg.n _ a' w' f1 uO f2 hend
  | some back =>
   have hr:(match kF ann id with
    | none=>none
    | some L=>cond (L.okAt body S) (match L.head.read S with
     | none=>none
     | some d=>match L with
      | ⟨head,out,none⟩=>_
      | ⟨head,out,some back⟩=>(loop (β:=out.den⊕back.den) (λd:head.den=>let H:=head.over (kL.base ⟨head,out,some back⟩ body S) d
       nJ G ann body H ⟨λS'=>kL.leave ⟨head,out,some back⟩ body S H head S' λd=>some (.inl d),
        λi S'=>cond (Nat.beq i id) (kL.leave ⟨head,out,some back⟩ body S H out S' λd=>some (.inr (.inl d))) none,
        λS'=>kL.leave ⟨head,out,some back⟩ body S H back S' λd=>some (.inr (.inr d))⟩) d).bind
       (Sum.elim (λd=>K.n (out.over (kL.base ⟨head,out,some back⟩ body S) d)) (λd=>K.r (back.over (kL.base ⟨head,out,some back⟩ body S) d)))) none:Option A)=some r:=hr
   rw[hL]at hr;simp only at hr;cases hk:kL.okAt ⟨head,out,some back⟩ body S with
   | false=>rw[hk]at hr;cases hr
   | true =>
    rw[hk]at hr;simp only[cT]at hr;cases hd:head.read S with
    | none=>rw[hd]at hr;cases hr
    | some d0 =>
     rw[hd]at hr;simp only at hr;rw[Option.bind_eq_some_iff]at hr;obtain⟨y,hy,hend⟩:=hr;obtain⟨k,hit⟩:=wo hy;obtain⟨g3,k1,k2,k3⟩:=sP hI hcS (qN.entry hk) hd;refine wp_block (wp_loop_rounds k (tR (L:=⟨head,out,some back⟩) hb hbel hk hcS (w0:=w0) (T:=T) (N:=N) (g:=g) (w:=w) (β:=out.den⊕back.den) (KX:=λd i S'=>cond (Nat.beq i id) (kL.leave ⟨head,out,some back⟩ body S (head.over (kL.base ⟨head,out,some back⟩ body S) d) out S' λd=>some (Sum.inr (Sum.inl d))) none) (KR:=λd S'=>kL.leave ⟨head,out,some back⟩ body S (head.over (kL.base ⟨head,out,some back⟩ body S) d) back S' λd=>some (Sum.inr (Sum.inr d))) (λd=>rfl) (λd i S' a' w' v hc' he hat hkx=>?_) (λd S' a' w' v hc' he hat hkr=>?_) trivial k d0 a w hit k3 ⟨g3,k1,hn,k2⟩))
     · have hkx:cond (Nat.beq i id) (kL.leave ⟨head,out,some back⟩ body S (head.over (kL.base ⟨head,out,some back⟩ body S) d) out S' λd=>some (.inr (.inl d))) none=some v:=hkx;cases hid:Nat.beq i id with
       | false=>rw[hid]at hkx;cases hkx
       | true =>
        have hkx':kL.leave ⟨head,out,some back⟩ body S (head.over (kL.base ⟨head,out,some back⟩ body S) d) out S' (λd=>some (Sum.inr (Sum.inl d)))=some v:=by rw[hid]at hkx;exact hkx
        obtain rfl:=Nat.eq_of_beq_eq_true hid;obtain⟨e0,e1,e2,d',e3,e4⟩:=qO (L:=⟨head,out,some back⟩) hkx';cases e4;refine⟨(λd h=>by cases h),λhv=>?_⟩;cases hv;obtain⟨f1,f2⟩:=vT (L:=⟨head,out,some back⟩) hk (.inr (.inl rfl)) hcS hc' he hat e0 e1 e2 e3;show if i=i then Q .normal a' w' else _
        rw[if_pos rfl];exact hg.n _ a' w' f1 uO f2 hend
     · obtain⟨e0,e1,e2,d',e3,e4⟩:=qO (L:=⟨head,out,some back⟩) hkr;cases e4;refine⟨(λd h=>by cases h),λhv=>?_⟩;cases hv;obtain⟨f1,f2⟩:=vT (L:=⟨head,out,some back⟩) hk (.inr (.inr rfl)) hcS hc' he hat e0 e1 e2 e3;exact hg.r _ a' w' f1 uO f2 hend
theorem ze {S:St} {id:Nat}:l7 S.en false true (oZ ann id S):=by
 unfold oZ;split
 · exact sR
 · intro p hp;simp at hp
theorem Bv {id:Nat} {body:Code} (hb:p7 P G ann nt body):p7 P G ann nt (.block id (.loop body)):=by
 intro A w0 T N S K r g w a Q hbel hI hn hcS hr hg;have hr:cond (kQ (oZ ann id S)) (sI ann id body (λS K=>nJ G ann body S K) (S.more (oZ ann id S)) K) none=some r:=hr
 cases hd:kQ (oZ ann id S)with
 | false=>rw[hd]at hr;cases hr
 | true =>
  rw[hd]at hr;have hr:sI ann id body (λS K=>nJ G ann body S K) (S.more (oZ ann id S)) K=some r:=hr
  have hu:=ze (ann:=ann) (S:=S) (id:=id);obtain⟨g1,hM,hle,_⟩:=hI.ms.useAll hu hd;have hdom:∀n,dom S.en n->dom (S.more (oZ ann id S)).en n:=λn h=>oO h
  have hI1:lh w0 T N (S.more (oZ ann id S)) g1 w a:=⟨hM.mem,hM.since,λt=>(hI.tmps t).mono hle,hI.plain⟩;have hc1:lu (S.more (oZ ann id S)):=⟨λt=>(hcS.tmp t).mono hdom,λn cs h=>by
   have h:kF (oZ ann id S++S.en) n=some (.box cs):=h;rw[lg]at h;split at h
   · rename_i y hy;cases h;obtain⟨_,_,_,_,_,he⟩:=hu _ (lw hy);cases he
   · exact λc hc=>(hcS.box n cs h c hc).mono hdom⟩
  have hx:pn S (S.more (oZ ann id S)):=⟨⟨_,rfl⟩,⟨[],rfl⟩⟩;exact AN hb hbel hI1 hn hc1 hr ⟨λS' a' w' h1 h2 h3 h4=>hg.n S' a' w' h1 (hx.trans h2) (At.trans hle h3) h4,λi S' a' w' h1 h2 h3 h4=>hg.x i S' a' w' h1 (hx.trans h2) (At.trans hle h3) h4,λS' a' w' h1 h2 h3 h4=>hg.r S' a' w' h1 (hx.trans h2) (At.trans hle h3) h4⟩

theorem Ca {x y:Code} (hx:p7 P G ann nt x) (hy:p7 P G ann nt y):p7 P G ann nt (.seq x y):=by
 intro A w0 T N S K r g w a Q hb hI hn hc hr hg;have hb:(o3 nt x&&o3 nt y)=true:=hb
 rw[aT]at hb;have hr:nJ G ann x S ⟨λS'=>nJ G ann y S' K,K.x,K.r⟩=some r:=hr
 refine wp_seq (hx hb.1 hI hn hc hr ⟨λS1 a1 w1 hc1 he1 hat1 hk1=>?_,λi S1 a1 w1 hc1 he1 hat1 hk1=>hg.x i S1 a1 w1 hc1 he1 hat1 hk1,λS1 a1 w1 hc1 he1 hat1 hk1=>hg.r S1 a1 w1 hc1 he1 hat1 hk1⟩);obtain⟨g1,hI1,hn1,hle1⟩:=hat1;exact hy hb.2 hI1 hn1 hc1 hk1 ⟨λS2 a2 w2 hc2 he2 hat2 hk2=>hg.n S2 a2 w2 hc2 (he1.trans he2) (At.trans hle1 hat2) hk2,
  λi S2 a2 w2 hc2 he2 hat2 hk2=>hg.x i S2 a2 w2 hc2 (he1.trans he2) (At.trans hle1 hat2) hk2,
  λS2 a2 w2 hc2 he2 hat2 hk2=>hg.r S2 a2 w2 hc2 (he1.trans he2) (At.trans hle1 hat2) hk2⟩
theorem Bw {c:Operand} {x y:Code} (hx:p7 P G ann nt x) (hy:p7 P G ann nt y):p7 P G ann nt (.cond c x y):=by
 intro A w0 T N S K r g w a Q hb hI hn hc hr hg;have hb:(o3 nt x&&o3 nt y)=true:=hb
 rw[aT]at hb;have hr:(match S.eval c with | .cell (.bool t)=>cond t (nJ G ann x S K) (nJ G ann y S K)|_=>none:Option A)=some r:=hr
 split at hr
 · rename_i t he;have hv:a.eval c=.bool t:=pH hI he
   refine wp_cond hv ?_;cases t with
   | true=>exact hx hb.1 hI hn hc hr hg
   | false=>exact hy hb.2 hI hn hc hr hg
 · cases hr
theorem ny (hG:oF P G) (hm:P.follows .mixedOrders=true):∀c,p7 P G ann nt c
 | .skip=>λ_ hI hn hc hr hg=>wp_skip (hg.n _ _ _ hc (pn.refl _) ⟨_,hI,hn,Le.refl _ _ _⟩ hr)
 | .region id ops draw=>λhb hI hn hc hr hg=>zZ hG hm hb hI hn hc hr λS' a' w' hc' he hat hk=>hg.n S' a' w' hc' he hat hk
 | .seq x y=>Ca (ny hG hm x) (ny hG hm y)
 | .cond c x y=>Bw (ny hG hm x) (ny hG hm y)
 | .block id (.loop body)=>Bv (ny hG hm body)
 | .block id .skip=>pB (ny hG hm .skip) (λc h=>by cases h)
 | .block id (.region i o d)=>pB (ny hG hm (.region i o d)) (λc h=>by cases h)
 | .block id (.seq x y)=>pB (ny hG hm (.seq x y)) (λc h=>by cases h)
 | .block id (.cond c x y)=>pB (ny hG hm (.cond c x y)) (λc h=>by cases h)
 | .block id (.block i x)=>pB (ny hG hm (.block i x)) (λc h=>by cases h)
 | .block id (.exit i)=>pB (ny hG hm (.exit i)) (λc h=>by cases h)
 | .block id .ret=>pB (ny hG hm .ret) (λc h=>by cases h)
 | .block id (.scope x)=>λ_ _ _ _ hr _=>by cases hr
 | .block id (.label l)=>λ_ _ _ _ hr _=>by cases hr
 | .block id (.goto l)=>λ_ _ _ _ hr _=>by cases hr
 | .exit id=>λ_ hI hn hc hr hg=>wp_exit (hg.x id _ _ _ hc (pn.refl _) ⟨_,hI,hn,Le.refl _ _ _⟩ hr)
 | .ret=>λ_ hI hn hc hr hg=>wp_ret (hg.r _ _ _ hc (pn.refl _) ⟨_,hI,hn,Le.refl _ _ _⟩ hr)
 | .loop _=>λ_ _ _ _ hr _=>by cases hr
 | .scope _=>λ_ _ _ _ hr _=>by cases hr
 | .label _=>λ_ _ _ _ hr _=>by cases hr
 | .goto _=>λ_ _ _ _ hr _=>by cases hr
 | .block id (.rangeFunc ..)=>λ_ _ _ _ hr _=>by cases hr
 | .block id (.refuse ..)=>λ_ _ _ _ hr _=>by cases hr
 | .rangeFunc ..=>λ_ _ _ _ hr _=>by cases hr
 | .refuse ..=>λ_ _ _ _ hr _=>by cases hr
end Go.V
namespace Go.V
variable {w0:World} {T N:Nat->Prop} {en en':List (an×Entry)} {g g':Gh} {w:World}

def CT.Gifts (I:Nat->Prop) (w:World):(c:CT)->c.den->Value->List Nat->List Nat->Prop
 | .sl e,xs,v,ts,ns=>∃tp:Option Nat,ts=tp.toList/\mb w e xs v tp ns/\∀b∈ns,I b
 | c,x,v,ts,ns=>ts=[]/\ns=[]/\CT.Rep w c x v []
def Cs.Gifts (I:Nat->Prop) (w:World):(e:Cs)->e.den->List Value->List Nat->List Nat->Prop
 | .one c,x,vs,ts,ns=>∃v,vs=[v]/\CT.Gifts I w c x v ts ns
 | .cons c r,x,vs,ts,ns=>∃v vs' t1 t2 n1 n2,vs=v::vs'/\ts=t1++t2/\ns=n1++n2/\CT.Gifts I w c x.1 v t1 n1/\Cs.Gifts I w r x.2 vs' t2 n2
structure mS (w0:World) (T N:Nat->Prop) (en:List (an×Entry)) (g:Gh) (ts ns:List Nat):Prop where
 t1:pQ ts
 n1:pQ ns
 tf:∀b∈ts,¬g.I b/\(∀m f,kF en m=some f->f.alive=true->g.top m≠some b)/\(w0.heap.size<=b\/T b)
 nf:∀b∈ns,(∀m f,kF en m=some f->f.deep=true->b∉g.nest m)/\(w0.heap.size<=b\/T b\/N b)
 tw:∀b∈ts,∀m f,kF en m=some f->f.isTree=true->b∉g.nest m
theorem sS {l m:List Nat} {b:Nat} (h:l.count b<=m.count b) (hb:b∈l):b∈m:=by
 have:=count_pos_iff.2 hb;exact count_pos_iff.1 (by omega)
theorem mS.mono {ts ns ts' ns':List Nat} (h:mS w0 T N en g ts ns) (ht:∀b,ts'.count b<=ts.count b) (hn:∀b,ns'.count b<=ns.count b):mS w0 T N en g ts' ns' :=
 ⟨λb=>Nat.le_trans (ht b) (h.t1 b),λb=>Nat.le_trans (hn b) (h.n1 b),λb hb=>h.tf b (sS (ht b) hb),λb hb=>h.nf b (sS (hn b) hb),λb hb=>h.tw b (sS (ht b) hb)⟩
structure mJ (w0:World) (T N:Nat->Prop) (en:List (an×Entry)) (g:Gh) (w:World) (new:List (an×Entry)) (g':Gh) (ts ns:List Nat):Prop where
 ms:MS w0 T N (new++en) g' w
 le:Le (dom en) g w (dom (new++en)) g' w
 imm:g'.I=g.I
 giv:mS w0 T N (new++en) g' ts ns
theorem mJ.refl (h:MS w0 T N en g w) {ts ns:List Nat} (hv:mS w0 T N en g ts ns):mJ w0 T N en g w [] g ts ns:=⟨h,Le.refl _ _ _,rfl,hv⟩
theorem CT.give_put (h:MS w0 T N en g w) {mm:Bool} {c:CT} {x:c.den} {v:Value} {ts ns ts' ns':List Nat} {n:an} (hg:CT.Gifts g.I w c x v ts ns) (hv:mS w0 T N en g (ts++ts') (cond mm ns []++ns')) (hn:kF en n=none) :
 ∃g',mJ w0 T N en g w (c.give mm n x).2 g' ts' ns'/\kI (dom ((c.give mm n x).2++en)) g' w (c.give mm n x).1 v:=by
 have hmono:mS w0 T N en g ts' ns':=hv.mono (λb=>by rw[count_append];omega) (λb=>by rw[count_append];omega);cases c with
 | sl e =>
  obtain⟨tp,rfl,hrep,hI⟩:=hg;have hnd:mm=true->ns.Nodup:=by rintro rfl;rw[←me];intro b;have:=hv.n1 b;rw[cT,count_append]at this;omega
  have hi1:(g.set n ⟨v,e.len,tp,ns⟩).top n=tp:=by simp[Gh.set]
  have hi2:(g.set n ⟨v,e.len,tp,ns⟩).nest n=ns:=by simp[Gh.set]
  have ho1:∀m,m≠n->(g.set n ⟨v,e.len,tp,ns⟩).top m=g.top m:=λm hm=>by simp[Gh.set,hm]
  have ho2:∀m,m≠n->(g.set n ⟨v,e.len,tp,ns⟩).nest m=g.nest m:=λm hm=>by simp[Gh.set,hm]
  obtain⟨hM,hle⟩:=h.put (n:=n) (e:=.root e mm x) (i:=⟨v,e.len,tp,ns⟩) (λhd=>absurd hn hd) (uC hrep)
   ⟨by simp[Gh.set],by rw[hi1,hi2];show mb w e x (if n=n then v else g.loc n) tp ns;rw[if_pos rfl];exact hrep,by rw[hi2];exact hI,λhm=>by rw[hi2];exact hnd hm⟩
   (λ_ b hb=>by
    obtain⟨k1,k2,k3⟩:=hv.tf b (mem_append_left _ (by simpa using hb));exact⟨k1,λm f _ hm ha=>k2 m f hm ha,k3,λm f _ hm ht=>hv.tw b (mem_append_left _ (by simpa using hb)) m f hm ht⟩)
   (λhdp b hb=>by
    obtain rfl:mm=true:=hdp;obtain⟨k1,k2⟩:=hv.nf b (mem_append_left _ hb);exact⟨λm f _ hm hd=>k1 m f hm hd,k2⟩)
  refine⟨_,⟨hM,hle,rfl,hmono.t1,hmono.n1,λb hb=>?_,λb hb=>?_,λb hb m f hm ht=>?_⟩,lQ.2 (.inl rfl),?_⟩
  rotate_left 2
  · have hmn:m≠n:=λe=>by
     subst e;have hm:kF ((m,Entry.root _ mm x)::en) m=some f:=hm
     rw[nQ]at hm;cases hm;cases ht
    rw[ho2 m hmn];exact hmono.tw b hb m f (by simpa[CT.give,lL (Ne.symm hmn)]using hm) ht
  rotate_left
  · obtain⟨k1,k2,k3⟩:=hmono.tf b hb;refine⟨k1,λm f hm ha=>?_,k3⟩;by_cases hmn:m=n
    · subst hmn;rw[hi1];intro htp;have:=hv.t1 b
      rw[count_append,htp]at this;have h2:=count_pos_iff.2 hb
      simp at this;omega
    · rw[ho1 m hmn];exact k2 m f (by simpa[CT.give,lL (Ne.symm hmn)]using hm) ha
  · obtain⟨k1,k2⟩:=hmono.nf b hb;refine⟨λm f hm hd=>?_,k2⟩;by_cases hmn:m=n
    · subst hmn;obtain rfl:mm=true:=by
       have hm:kF ((m,Entry.root _ mm x)::en) m=some f:=hm;rw[nQ]at hm;cases hm;exact hd
      rw[hi2];intro hbn;have:=hv.n1 b
      rw[cT,count_append]at this;have h2:=count_pos_iff.2 hb
      have h3:=count_pos_iff.2 hbn;omega
    · rw[ho2 m hmn];exact k1 m f (by simpa[CT.give,lL (Ne.symm hmn)]using hm) hd
  · show v=(if n=n then v else g.loc n);rw[if_pos rfl]
 | int k=>obtain⟨rfl,rfl,hr⟩:=hg;exact⟨g,mJ.refl h hmono,CT.cell_rep (c:=.int k) hr (by simp)⟩
 | bool=>obtain⟨rfl,rfl,hr⟩:=hg;exact⟨g,mJ.refl h hmono,CT.cell_rep (c:=.bool) hr (by simp)⟩
 | str=>obtain⟨rfl,rfl,hr⟩:=hg;exact⟨g,mJ.refl h hmono,CT.cell_rep (c:=.str) hr (by simp)⟩
 | err=>obtain⟨rfl,rfl,hr⟩:=hg;exact⟨g,mJ.refl h hmono,CT.cell_rep (c:=.err) hr (by simp)⟩
theorem mJ.trans {new new':List (an×Entry)} {g1 g2:Gh} {ts ns ts' ns':List Nat} (h:mJ w0 T N en g w new g1 ts ns) (k:mJ w0 T N (new++en) g1 w new' g2 ts' ns'):mJ w0 T N en g w (new'++new) g2 ts' ns':=by
 have e:new'++new++en=new'++(new++en):=append_assoc _ _ _;exact⟨by rw[e];exact k.ms,by rw[e];exact h.le.trans k.le,k.imm.trans h.imm,by rw[e];exact k.giv⟩
theorem CT.give_name {mm:Bool} {n:an} {c:CT} {x:c.den}:∀p∈(c.give mm n x).2,p.1=n:=by cases c<;>simp[CT.give]
theorem Cs.Gifts.imm {I I':Nat->Prop} (hI:∀b,I b->I' b):{c:Cs}->{x:c.den}->{vs:List Value}->{ts ns:List Nat}->Cs.Gifts I w c x vs ts ns->Cs.Gifts I' w c x vs ts ns:=by
 have hc:∀{c:CT} {x:c.den} {v:Value} {ts ns:List Nat},CT.Gifts I w c x v ts ns->CT.Gifts I' w c x v ts ns:=by
  intro c x v ts ns h;cases c with
  | sl e=>obtain⟨tp,h1,h2,h3⟩:=h;exact⟨tp,h1,h2,λb hb=>hI b (h3 b hb)⟩
  | _=>exact h
 intro c
 induction c using Cs.rec (motive_1:=λ_=>True)with
 | one c _=>intro x vs ts ns h;obtain⟨v,h1,h2⟩:=h;exact⟨v,h1,hc h2⟩
 | cons c r _ ih=>intro x vs ts ns h;obtain⟨v,vs',t1,t2,n1,n2,h1,h2,h3,h4,h5⟩:=h;exact⟨v,vs',t1,t2,n1,n2,h1,h2,h3,hc h4,ih h5⟩
 | _=>trivial
theorem Cs.give_put {mm:Bool}:{c:Cs}->{x:c.den}->{vs:List Value}->{ts ns ts' ns':List Nat}->{n:an}->{en:List (an×Entry)}->{g:Gh}->(h:MS w0 T N en g w)->(hg:Cs.Gifts g.I w c x vs ts ns)->(hv:mS w0 T N en g (ts++ts') (cond mm ns []++ns')) ->
 (hn:∀p∈(Cs.give mm n c x).2,kF en p.1=none)->(hd:kQ (Cs.give mm n c x).2=true)->∃g',mJ w0 T N en g w (Cs.give mm n c x).2 g' ts' ns'/\kM (kI (dom ((Cs.give mm n c x).2++en)) g' w) (Cs.give mm n c x).1 vs
 | .one c,x,vs,ts,ns,ts',ns',n,en,g,h,hg,hv,hn,hd=>by
  obtain⟨v,rfl,hg⟩:=hg;cases hs:(c.give mm n x).2 with
  | nil =>
   cases c with
   | sl e=>simp[CT.give]at hs
   | int k=>obtain⟨rfl,rfl,hr⟩:=hg;exact⟨g,mJ.refl h (by cases mm<;>simpa using hv),CT.cell_rep (c:=.int k) hr (by simp),trivial⟩
   | bool=>obtain⟨rfl,rfl,hr⟩:=hg;exact⟨g,mJ.refl h (by cases mm<;>simpa using hv),CT.cell_rep (c:=.bool) hr (by simp),trivial⟩
   | str=>obtain⟨rfl,rfl,hr⟩:=hg;exact⟨g,mJ.refl h (by cases mm<;>simpa using hv),CT.cell_rep (c:=.str) hr (by simp),trivial⟩
   | err=>obtain⟨rfl,rfl,hr⟩:=hg;exact⟨g,mJ.refl h (by cases mm<;>simpa using hv),CT.cell_rep (c:=.err) hr (by simp),trivial⟩
  | cons p l =>
   have hp:kF en n=none:=by
    have h1:=hn p (by show p∈(c.give mm n x).2;rw[hs];simp);have h2:=CT.give_name (mm:=mm) (n:=n) (c:=c) (x:=x) p (by rw[hs];simp)
    rw[←h2];exact h1
   obtain⟨g',k1,k2⟩:=CT.give_put h hg hv hp;exact⟨g',k1,k2,trivial⟩
 | .cons c r,x,vs,ts,ns,ts',ns',n,en,g,h,hg,hv,hn,hd=>by
  obtain⟨v,vs',t1,t2,n1,n2,rfl,rfl,rfl,hg1,hg2⟩:=hg;obtain⟨d1,d2,d3⟩:=lT (l:=(c.give mm n x.1).2) (m:=(Cs.give mm (n+1) r x.2).2) hd;obtain⟨g1,k1,k2⟩:=Cs.give_put (n:=n+1) (ts':=t1++ts') (ns':=cond mm n1 []++ns') h hg2 (hv.mono (λb=>by simp only[count_append];omega) (λb=>by cases mm<;>simp only[cT,cF,List.nil_append,count_append]<;>omega)) (λp hp=>hn p (mem_append_right _ hp)) d2;have hg1':CT.Gifts g1.I w c x.1 v t1 n1:=by rw[k1.imm];exact hg1
  cases hs:(c.give mm n x.1).2 with
  | nil =>
   have e:(Cs.give mm n (.cons c r) x).2=(Cs.give mm (n+1) r x.2).2:=by show (c.give mm n x.1).2++_=_;rw[hs];rfl
   have hsc:t1=[]/\n1=[]/\kI (dom ((Cs.give mm (n+1) r x.2).2++en)) g1 w (c.give mm n x.1).1 v:=by
    cases c with
    | sl e=>simp[CT.give]at hs
    | int k=>obtain⟨rfl,rfl,hr⟩:=hg1;exact⟨rfl,rfl,CT.cell_rep (c:=.int k) hr (by simp)⟩
    | bool=>obtain⟨rfl,rfl,hr⟩:=hg1;exact⟨rfl,rfl,CT.cell_rep (c:=.bool) hr (by simp)⟩
    | str=>obtain⟨rfl,rfl,hr⟩:=hg1;exact⟨rfl,rfl,CT.cell_rep (c:=.str) hr (by simp)⟩
    | err=>obtain⟨rfl,rfl,hr⟩:=hg1;exact⟨rfl,rfl,CT.cell_rep (c:=.err) hr (by simp)⟩
   obtain⟨rfl,rfl,hcr⟩:=hsc;rw[e];exact⟨g1,by cases mm<;>simpa using k1,hcr,k2⟩
  | cons p l =>
   have hpn:=CT.give_name (mm:=mm) (n:=n) (c:=c) (x:=x.1) p (by rw[hs];simp);have hp:kF ((Cs.give mm (n+1) r x.2).2++en) n=none:=by
    rw[lH]
    · rw[←hpn];exact hn p (mem_append_left _ (by rw[hs];simp))
    · intro hm;exact d3 p.1 (mem_map_of_mem (by rw[hs];simp)) (hpn.symm▸hm)
   obtain⟨g2,k3,k4⟩:=CT.give_put k1.ms hg1' k1.giv hp;have e:(Cs.give mm n (.cons c r) x).2++en=(c.give mm n x.1).2++((Cs.give mm (n+1) r x.2).2++en):=append_assoc _ _ _
   refine⟨g2,k1.trans k3,?_,?_⟩
   · rw[e];exact k4
   · rw[e];exact kM.imp (λ_ _=>kI.mono k3.le) k2
theorem vU (h:MS w0 T N en g w) {n:an} {b:Nat} {us:List Value} {cs:List Cell} {ts ns:List Nat} (hb:lv w b us) (hc:kM (kI (dom en) g w) cs us) (hv:mS w0 T N en g (b::ts) ns) (hn:dom en n->g.loc n=.pointer (some ⟨b,0,none⟩)) (hf:∀e,kF en n=some e->e.alive=false) :
 ∃g',mJ w0 T N en g w [(n,.box cs)] g' ts ns/\g'.loc n=.pointer (some ⟨b,0,none⟩):=by
 have hi1:(g.set n ⟨.pointer (some ⟨b,0,none⟩),g.esz n,some b,[]⟩).top n=some b:=by simp[Gh.set]
 have hi2:(g.set n ⟨.pointer (some ⟨b,0,none⟩),g.esz n,some b,[]⟩).nest n=[]:=by simp[Gh.set]
 have ho1:∀m,m≠n->(g.set n ⟨.pointer (some ⟨b,0,none⟩),g.esz n,some b,[]⟩).top m=g.top m:=λm hm=>by simp[Gh.set,hm]
 have ho2:∀m,m≠n->(g.set n ⟨.pointer (some ⟨b,0,none⟩),g.esz n,some b,[]⟩).nest m=g.nest m:=λm hm=>by simp[Gh.set,hm]
 have hle0:=Gh.set_le (en:=en) (g:=g) (w:=w) (n:=n) (.box cs) ⟨.pointer (some ⟨b,0,none⟩),g.esz n,some b,[]⟩ (λhd=>⟨(hn hd).symm,rfl⟩);obtain⟨hM,hle⟩:=h.put (n:=n) (e:=.box cs) (i:=⟨.pointer (some ⟨b,0,none⟩),g.esz n,some b,[]⟩) (λhd=>⟨(hn hd).symm,rfl⟩) rfl
  ⟨b,us,hi1,by simp[Gh.set],hb,kM.imp (λ_ _=>kI.mono hle0) hc⟩
  (λ_ b' hb'=>by
   cases hb';obtain⟨k1,k2,k3⟩:=hv.tf b mem_cons_self;exact⟨k1,λm f _ hm ha=>k2 m f hm ha,k3,λm f _ hm ht=>hv.tw b mem_cons_self m f hm ht⟩)
  (λhd=>by cases hd)
 have hmono:mS w0 T N en g ts ns:=hv.mono (λc=>by rw[count_cons];omega) (λ_=>Nat.le_refl _);refine⟨_,⟨hM,hle,rfl,hmono.t1,hmono.n1,λc hc=>?_,λc hc=>?_,λc hc m f hm ht=>?_⟩,by simp[Gh.set]⟩
 rotate_left 2
 · have hmn:m≠n:=λe=>by
    subst e;have hm:kF ((m,Entry.box cs)::en) m=some f:=hm
    rw[nQ]at hm;cases hm;cases ht
   rw[ho2 m hmn];exact hmono.tw c hc m f (by simpa[lL (Ne.symm hmn)]using hm) ht
 · obtain⟨k1,k2,k3⟩:=hmono.tf c hc;refine⟨k1,λm f hm ha=>?_,k3⟩;by_cases hmn:m=n
   · subst hmn;rw[hi1];intro he;cases he;have:=hv.t1 b
     rw[List.count_cons_self]at this;have h2:=count_pos_iff.2 hc
     omega
   · rw[ho1 m hmn];exact k2 m f (by simpa[lL (Ne.symm hmn)]using hm) ha
 · obtain⟨k1,k2⟩:=hmono.nf c hc;refine⟨λm f hm hd=>?_,k2⟩;by_cases hmn:m=n
   · subst hmn;rw[hi2];simp
   · rw[ho2 m hmn];exact k1 m f (by simpa[lL (Ne.symm hmn)]using hm) hd
end Go.V
namespace Go.V
variable {w0:World} {T N:Nat->Prop} {en en':List (an×Entry)} {g g':Gh} {w:World}

def B8:Bool->Option Bool|true=>some true|false=>none
def ow (I:Nat->Prop) (w:World) (own:Option Bool) (c:Cs) (x:c.den) (us:List Value) (ts ns:List Nat):Prop :=
 (∃m ns',own=some m/\Cs.Gifts I w c x us ts ns'/\(m=true->ns'=ns))\/(own=none/\ts=[]/\ns=[]/\∃F,Cs.Rep w c x us F/\∀b∈F,I b)
def nX (I:Nat->Prop) (w:World):(ps:List ll)->kH (kV ps)->List Value->List Nat->List Nat->Prop
 | [],_,vs,ts,ns=>vs=[]/\ts=[]/\ns=[]
 | .val agg c mv::ps,x,vs,ts,ns=>∃v vs' us t1 t2 n1 n2,vs=v::vs'/\isAgg agg v us/\ts=t1++t2/\ns=n1++n2/\ow I w (B8 mv) c (kH.hd c (kV ps) x) us t1 n1/\nX I w ps (kH.tl c (kV ps) x) vs' t2 n2
 | .ptr c own::ps,x,vs,ts,ns=>∃b vs' us t1 t2 n1 n2,vs=.pointer (some ⟨b,0,none⟩)::vs'/\lv w b us/\ts=b::(t1++t2)/\ns=n1++n2/\ow I w own c (kH.hd c (kV ps) x) us t1 n1/\nX I w ps (kH.tl c (kV ps) x) vs' t2 n2
theorem rg {D:an->Prop} {agg:Bool} {cs:List Cell} {v:Value} {us:List Value} (h:kM (kI D g w) cs us) (ha:isAgg agg v us):lk D g w (nI agg cs) v:=by
 rcases ha with ⟨rfl,rfl⟩|⟨rfl,rfl⟩
 · cases cs with
   | nil=>exact h.elim
   | cons c cs=>cases cs with
    | nil=>exact h.1
    | cons _ _=>exact h.2.elim
 · have:nI true cs=.agg cs:=by cases cs<;>rfl
   rw[this];exact⟨_,rfl,h⟩
theorem qr {own:Option Bool} {c:Cs} {x:c.den} {vs:List Value} {ts ns ts' ns':List Nat} {n:an} (h:MS w0 T N en g w) (hg:ow g.I w own c x vs ts ns) (hv:mS w0 T N en g (ts++ts') (ns++ns'))
 (hn:∀p∈(mz own n c x).2,kF en p.1=none) (hd:kQ (mz own n c x).2=true):∃g',mJ w0 T N en g w (mz own n c x).2 g' ts' ns'/\kM (kI (dom ((mz own n c x).2++en)) g' w) (mz own n c x).1 vs:=by
 rcases hg with ⟨m,ns1,rfl,hg,hm⟩|⟨rfl,rfl,rfl,F,hF,hI⟩
 · refine Cs.give_put h hg ?_ hn hd;cases m with
   | true=>rw[hm rfl];exact hv
   | false=>exact hv.mono (λb=>Nat.le_refl _) (λb=>by simp only[cF,List.nil_append,count_append];omega)
 · exact⟨g,mJ.refl h (by simpa using hv),Cs.cells_rep hF hI⟩
def qz (D:an->Prop) (g:Gh):Nat->List ll->List Value->Prop
 | _,[],_=>True
 | _,_::_,[]=>False
 | i,.val .. :: ps,_::vs=>qz D g (i+1) ps vs
 | i,.ptr .. :: ps,v::vs=>(D (64*i+1)/\g.loc (64*i+1)=v)/\qz D g (i+1) ps vs
theorem qz.mono {D D':an->Prop} {w':World} (h:Le D g w D' g' w'):∀{i:Nat} {ps:List ll} {vs:List Value},qz D g i ps vs->qz D' g' i ps vs
 | _,[],_,_=>trivial
 | i,.val .. :: ps,v::vs,k=>qz.mono (ps:=ps) (vs:=vs) h k
 | i,.ptr .. :: ps,v::vs,⟨⟨k1,k2⟩,k⟩=>⟨⟨h.dom _ k1,(h.loc _ k1).trans k2⟩,qz.mono h k⟩
 | _,.val .. :: _,[],k=>k
 | _,.ptr .. :: _,[],k=>k
def vp (D:an->Prop) (g:Gh) (w:World) (tm:List (Nat×AV)) (i:Nat) (vs:List Value):Prop :=
 ∀t,kF tm t=none\/∃k v x,t=i+k/\vs[k]?=some v/\kF tm t=some x/\lk D g w x v
theorem vp.cons {D D':an->Prop} {tm:List (Nat×AV)} {i:Nat} {vs:List Value} {v:Value} {x:AV} (h:vp D g w tm (i+1) vs) (hle:Le D g w D' g' w) (hx:lk D' g' w x v):vp D' g' w ((i,x)::tm) i (v::vs):=by
 intro t;rw[kO];by_cases hit:i=t
 · subst hit;exact .inr ⟨0,v,x,rfl,rfl,by rw[if_pos rfl],hx⟩
 · rw[if_neg hit];rcases h t with h|⟨k,u,y,h1,h2,h3,h4⟩
   · exact .inl h
   · exact .inr ⟨k+1,u,y,by omega,by simpa using h2,h3,h4.mono hle⟩
theorem wt {i:Nat} {agg:Bool} {c:Cs} {mv:Bool} {ps:List ll} {x:kH (kV (.val agg c mv::ps))} :
 entry i (.val agg c mv::ps) x=((i,nI agg (mz (B8 mv) (64*i+1) c (kH.hd c (kV ps) x)).1)::(entry (i+1) ps (kH.tl c (kV ps) x)).1,(mz (B8 mv) (64*i+1) c (kH.hd c (kV ps) x)).2++(entry (i+1) ps (kH.tl c (kV ps) x)).2):=by
 cases mv<;>rfl
theorem wu {i:Nat} {c:Cs} {own:Option Bool} {ps:List ll} {x:kH (kV (.ptr c own::ps))} :
 entry i (.ptr c own::ps) x=((i,.cell (.box (64*i+1) 0))::(entry (i+1) ps (kH.tl c (kV ps) x)).1,(64*i+1,.box (mz own (64*i+2) c (kH.hd c (kV ps) x)).1)::((mz own (64*i+2) c (kH.hd c (kV ps) x)).2++(entry (i+1) ps (kH.tl c (kV ps) x)).2)):=rfl
theorem mJ.to_nil {new:List (an×Entry)} {ts ns:List Nat} (h:mJ w0 T N [] g w new g' ts ns):MS w0 T N new g' w:=by have:=h.ms;rwa [append_nil]at this
theorem ow.imm {I I':Nat->Prop} (hI:∀b,I b->I' b) {own:Option Bool} {c:Cs} {x:c.den} {us:List Value} {ts ns:List Nat} (h:ow I w own c x us ts ns):ow I' w own c x us ts ns:=by
 rcases h with ⟨m,ns',h1,h2,h3⟩|⟨h1,h2,h3,F,h4,h5⟩
 · exact .inl ⟨m,ns',h1,h2.imm hI,h3⟩
 · exact .inr ⟨h1,h2,h3,F,h4,λb hb=>hI b (h5 b hb)⟩
theorem sT (h0:MS w0 T N [] g w):∀(ps:List ll) (i:Nat) (x:kH (kV ps)) (vs:List Value) (ts ns ts' ns':List Nat),mS w0 T N [] g (ts++ts') (ns++ns')->nX g.I w ps x vs ts ns->kQ (entry i ps x).2=true ->
 ∃g',mJ w0 T N [] g w (entry i ps x).2 g' ts' ns'/\vp (dom (entry i ps x).2) g' w (entry i ps x).1 i vs/\qz (dom (entry i ps x).2) g' i ps vs
 | [],i,x,vs,ts,ns,ts',ns',hv,ha,hd=>by
  obtain⟨rfl,rfl,rfl⟩:=ha;exact⟨g,mJ.refl h0 (by simpa using hv),λt=>.inl rfl,trivial⟩
 | .val agg c mv::ps,i,x,vs,ts,ns,ts',ns',hv,ha,hd=>by
  obtain⟨v,vs',us,t1,t2,n1,n2,rfl,hag,rfl,rfl,hin,ha⟩:=ha;rw[wt]at hd ⊢;obtain⟨d1,d2,d3⟩:=lT hd;obtain⟨g1,k1,k2,k3⟩:=sT h0 ps (i+1) (kH.tl c (kV ps) x) vs' t2 n2 (t1++ts') (n1++ns') (hv.mono (λb=>by simp only[count_append];omega) (λb=>by simp only[count_append];omega)) ha d2;obtain⟨g2,k4,k5⟩:=qr (n:=64*i+1) k1.ms (hin.imm λb hb=>by rw[k1.imm];exact hb) k1.giv (λp hp=>by
   rw[append_nil];cases hf:kF (entry (i+1) ps (kH.tl c (kV ps) x)).2 p.1 with
   | none=>rfl
   | some y=>exact absurd (oz.2 (by rw[hf];simp)) (d3 p.1 (mem_map_of_mem hp))) d1
  have kle:=k4.le;simp only[append_nil]at kle k5;refine⟨g2,k1.trans k4,k2.cons kle (rg k5 hag),?_⟩;exact qz.mono (ps:=ps) (vs:=vs') kle k3
 | .ptr c own::ps,i,x,vs,ts,ns,ts',ns',hv,ha,hd=>by
  obtain⟨b,vs',us,t1,t2,n1,n2,rfl,hob,rfl,rfl,hin,ha⟩:=ha;rw[wu]at hd ⊢;obtain⟨d0,hd⟩:=m9 hd;obtain⟨d1,d2,d3⟩:=lT hd;obtain⟨g1,k1,k2,k3⟩:=sT h0 ps (i+1) (kH.tl c (kV ps) x) vs' t2 n2 (t1++(b::ts')) (n1++ns') (hv.mono (λb'=>by simp only[count_append,count_cons,cons_append];omega) (λb'=>by simp only[count_append];omega)) ha d2;obtain⟨g2,k4,k5⟩:=qr (n:=64*i+2) k1.ms (hin.imm λb hb=>by rw[k1.imm];exact hb) k1.giv (λp hp=>by
   rw[append_nil];cases hf:kF (entry (i+1) ps (kH.tl c (kV ps) x)).2 p.1 with
   | none=>rfl
   | some y=>exact absurd (oz.2 (by rw[hf];simp)) (d3 p.1 (mem_map_of_mem hp))) d1
  have kle:=k4.le;have k6:=k1.trans k4
  have hfree:kF ((mz own (64*i+2) c (kH.hd c (kV ps) x)).2++(entry (i+1) ps (kH.tl c (kV ps) x)).2++[]) (64*i+1)=none:=by
   rw[append_nil];cases hf:kF ((mz own (64*i+2) c (kH.hd c (kV ps) x)).2++(entry (i+1) ps (kH.tl c (kV ps) x)).2) (64*i+1)with
   | none=>rfl
   | some y=>exact absurd (oz.2 (by rw[hf];simp)) d0
  obtain⟨g3,k7,k8⟩:=vU k6.ms hob (by simpa using k5) k6.giv (λhd=>absurd hfree hd) (λe he=>by rw[hfree]at he;cases he);have kle2:=k7.le
  simp only[append_nil]at kle kle2;refine⟨g3,k6.trans k7,vp.cons k2 (kle.trans kle2) ⟨lQ.2 (.inl rfl),b,k8,rfl⟩,⟨lQ.2 (.inl rfl),k8⟩,?_⟩;exact qz.mono (ps:=ps) (vs:=vs') (kle.trans kle2) k3
end Go.V
namespace Go.V
variable {w0:World} {T N:Nat->Prop} {en en':List (an×Entry)} {g g':Gh} {w:World} {I:Nat->Prop}

def mp (en:List (an×Entry)) (used:List (an×Entry)):Prop :=
 ∀p∈used,(p.2=.gone/\∃e m xs,kF en p.1=some (.root e m xs))\/(p.2=.gone/\∃cs,kF en p.1=some (.box cs))\/(∃e m xs,kF en p.1=some (.root e m xs)/\p.2=.fwd e xs)
def p8 (g:Gh) (p:an×Entry):List Nat:=match p.2 with | .gone=>(g.top p.1).toList|_=>[]
def od (en:List (an×Entry)) (g:Gh) (p:an×Entry):List Nat:=match p.2 with | .gone=>(match kF en p.1 with|some (.root _ true _)=>g.nest p.1|_=>[])|_=>[]
def mi (g:Gh) (used:List (an×Entry)):List Nat:=used.flatMap (p8 g)
def mj (en:List (an×Entry)) (g:Gh) (used:List (an×Entry)):List Nat:=used.flatMap (od en g)
theorem tS {D:an->Prop} {agg:Bool} {x:AV} {v:Value} (h:lk D g w x v) (ho:qj agg x=true):∃us,isAgg agg v us/\kM (kI D g w) x.cells us:=by
 cases x with
 | cell c=>cases agg with
  | true=>cases ho
  | false=>exact⟨[v],.inl ⟨rfl,rfl⟩,h,trivial⟩
 | agg cs=>cases agg with
  | false=>cases ho
  | true=>obtain⟨vs,rfl,k⟩:=h;exact⟨vs.toList,.inr ⟨rfl,rfl⟩,k⟩
 | tup l=>cases agg<;>cases ho
theorem wv (hm:mW en g w):∀{used:List (an×Entry)},l7 en true false used->mi g used=(used.map (·.1)).flatMap (λn=>(g.top n).toList)/\mj en g used=(used.map (·.1)).flatMap g.nest/\mp en used/\∀b∈mj en g used,g.I b
 | [],_=>⟨rfl,rfl,λp hp=>by simp at hp,by simp[mj]⟩
 | p::used,h=>by
  obtain⟨k1,k2,k3,k4⟩:=wv hm (used:=used) λq hq=>h q (mem_cons_of_mem _ hq);obtain⟨e,m,xs,h1,h2,h3⟩:=h p mem_cons_self;obtain rfl:=h2 rfl;have h3:p.2=.gone:=h3
  obtain⟨_,_,hI,_⟩:=lB hm h1;refine⟨?_,?_,λq hq=>?_,λb hb=>?_⟩
  · unfold mi at k1 ⊢;rw[flatMap_cons,k1];simp[p8,h3]
  · unfold mj at k2 ⊢;rw[flatMap_cons,k2];simp[od,h3,h1]
  · rcases mem_cons.1 hq with rfl|hq
    · exact .inl ⟨h3,e,true,xs,h1⟩
    · exact k3 q hq
  · unfold mj at hb k4;rw[flatMap_cons]at hb;rcases mem_append.1 hb with hb|hb
    · simp[od,h3,h1]at hb;exact hI b hb
    · exact k4 b hb
theorem xB:∀{used:List (an×Entry)},l7 en false true used->mi g used=[]/\mj en g used=[]/\mp en used
 | [],_=>⟨rfl,rfl,λp hp=>by simp at hp⟩
 | p::used,h=>by
  obtain⟨k1,k2,k3⟩:=xB (used:=used) λq hq=>h q (mem_cons_of_mem _ hq);obtain⟨e,m,xs,h1,h2,h3⟩:=h p mem_cons_self;have h3:p.2=.fwd e xs:=h3
  refine⟨?_,?_,λq hq=>?_⟩
  · unfold mi at k1 ⊢;rw[flatMap_cons,k1];simp[p8,h3]
  · unfold mj at k2 ⊢;rw[flatMap_cons,k2];simp[od,h3]
  · rcases mem_cons.1 hq with rfl|hq
    · exact .inr (.inr ⟨e,m,xs,h1,h3⟩)
    · exact k3 q hq
theorem CT.own_gifts (hI:∀b,g.I b->I b) {c:CT} {x:c.den} {v:Value} {ns:List an} (h:CT.Own g w c x v ns) (hn:∀b∈ns.flatMap g.nest,g.I b):CT.Gifts I w c x v (ns.flatMap λn=>(g.top n).toList) (ns.flatMap g.nest):=by
 cases c with
 | sl e =>
  rcases h with ⟨rfl,rfl,rfl⟩|⟨n,rfl,rfl,h⟩
  · exact⟨none,rfl,.inl ⟨rfl,rfl,rfl,rfl⟩,by simp⟩
  · exact⟨g.top n,by simp,by simpa using h,λb hb=>hI b (hn b hb)⟩
 | int=>obtain⟨rfl,h⟩:=h;exact⟨rfl,rfl,h⟩
 | bool=>obtain⟨rfl,h⟩:=h;exact⟨rfl,rfl,h⟩
 | str=>obtain⟨rfl,h⟩:=h;exact⟨rfl,rfl,h⟩
 | err=>obtain⟨rfl,h⟩:=h;exact⟨rfl,rfl,h⟩
theorem Cs.own_gifts (hI:∀b,g.I b->I b):{c:Cs}->{x:c.den}->{us:List Value}->{ns:List an}->Cs.Own g w c x us ns->(∀b∈ns.flatMap g.nest,g.I b)->Cs.Gifts I w c x us (ns.flatMap λn=>(g.top n).toList) (ns.flatMap g.nest)
 | .one c,x,us,ns,h,hn=>by obtain⟨v,rfl,h⟩:=h;exact⟨v,rfl,CT.own_gifts hI h hn⟩
 | .cons c r,x,us,ns,h,hn=>by
  obtain⟨v,vs',n1,n2,rfl,rfl,h1,h2⟩:=h;rw[flatMap_append,flatMap_append];rw[flatMap_append]at hn;exact⟨v,vs',_,_,_,_,rfl,rfl,rfl,CT.own_gifts hI h1 λb hb=>hn b (mem_append_left _ hb),Cs.own_gifts hI h2 λb hb=>hn b (mem_append_right _ hb)⟩
structure wR (en:List (an×Entry)) (g:Gh) (I:Nat->Prop) (used:List (an×Entry)) (ro:List an):Prop where
 old:∀b,g.I b->I b
 fwd:∀p∈used,∀e xs,p.2=.fwd e xs->∀b,g.top p.1=some b->I b
 lent:∀n∈ro,∀f b,kF en n=some f->f.alive=true->g.top n=some b->I b
theorem mp.append {u v:List (an×Entry)} (h:mp en u) (k:mp en v):mp en (u++v):=λp hp=>(mem_append.1 hp).elim (h p) (k p)
theorem CT.into_top (hI:∀b,g.I b->I b) (hm:mW en g w) {c:CT} {x:Cell} {v:Value} {y:c.den×List (an×Entry)} {L:List an} (hc:kI (dom en) g w x v) (hr:(c.into false false x).Runs (kF en) y L) :
 ∃ns,CT.Gifts I w c y.1 v (mi g y.2) ns/\mp en y.2:=by
 cases hs:c.isSl with
 | true =>
  cases c with
  | sl e =>
   obtain⟨a,L1,L2,_,h1,h2⟩:=Rd.runs_bind (show (wP e x).Runs (kF en) y L from hr);obtain⟨rfl,_⟩:=h2;rcases tH hm hc h1 with ⟨rfl,rfl⟩|⟨xs,r,m,F,rfl,⟨ys,hn⟩,hrep,hcnt⟩
   · exact⟨[],⟨none,rfl,.inl ⟨rfl,rfl,rfl,rfl⟩,by simp⟩,by intro p hp;simp at hp⟩
   · obtain⟨_,_,hnI,_⟩:=lB hm hn;refine⟨F,⟨g.top r,by simp[mi,p8],hrep,λb hb=>hI b (hnI b ?_)⟩,λp hp=>?_⟩
     · have h1:=count_pos_iff.2 hb;have h2:=hcnt b
       exact count_pos_iff.1 (by omega)
     · obtain rfl:=mem_singleton.1 hp;exact .inl ⟨rfl,e,m,ys,hn⟩
  | int=>simp[CT.isSl]at hs
  | bool=>simp[CT.isSl]at hs
  | str=>simp[CT.isSl]at hs
  | err=>simp[CT.isSl]at hs
 | false =>
  obtain⟨h1,L',h2⟩:=CT.into_scalar hs hr;obtain⟨F,hF,_⟩:=CT.read_sound hm hc h2;have ho:=CT.Own_of_rep (g:=g) hs ⟨F,hF⟩
  rw[h1];exact⟨[],CT.own_gifts hI ho (by simp),by intro p hp;simp at hp⟩
theorem Cs.into_top (hI:∀b,g.I b->I b) (hm:mW en g w):{e:Cs}->{xs:List Cell}->{vs:List Value}->{y:e.den×List (an×Entry)}->{L:List an}->kM (kI (dom en) g w) xs vs->(e.into false false xs).Runs (kF en) y L ->
 ∃ns,Cs.Gifts I w e y.1 vs (mi g y.2) ns/\mp en y.2
 | .one c,[],_,_,_,_,hr=>hr.elim
 | .one c,[x],[v],y,L,hc,hr=>by
  obtain⟨ns,h1,h2⟩:=CT.into_top hI hm hc.1 hr;exact⟨ns,⟨v,rfl,h1⟩,h2⟩
 | .one c,_::_::_,_,_,_,_,hr=>hr.elim
 | .cons c r,[],_,_,_,_,hr=>hr.elim
 | .cons c r,x::xs,v::vs,y,L,hc,hr=>by
  simp only[Cs.into]at hr;obtain⟨a,L1,L2,rfl,h1,hr⟩:=Rd.runs_bind hr;obtain⟨b,L3,L4,rfl,h2,hr⟩:=Rd.runs_bind hr;obtain⟨rfl,_⟩:=hr;obtain⟨n1,k1,k2⟩:=CT.into_top hI hm hc.1 h1;obtain⟨n2,k3,k4⟩:=Cs.into_top hI hm hc.2 h2;exact⟨n1++n2,⟨v,vs,mi g a.2,mi g b.2,n1,n2,rfl,flatMap_append,rfl,k1,k3⟩,k2.append k4⟩
theorem pK (hm:mW en g w) {own:Option Bool} {c:Cs} {xs:List Cell} {us:List Value} {y:c.den×List (an×Entry)} {L:List an} (hc:kM (kI (dom en) g w) xs us) (hr:(c.intoO own xs).Runs (kF en) y L) {used:List (an×Entry)} {ro:List an}
 (hs:wR en g I used ro) (hsub:∀p∈y.2,p∈used):ow I w own c y.1 us (mi g y.2) (mj en g y.2)/\mp en y.2:=by
 cases own with
 | some m =>
  cases m with
  | true =>
   obtain⟨h1,h2⟩:=Cs.into_own hm hc hr;obtain⟨k1,k2,k3,k4⟩:=wv hm h2;refine⟨.inl ⟨true,_,rfl,?_,λ_=>rfl⟩,k3⟩;rw[k2]at k4;rw[k1,k2];exact Cs.own_gifts hs.old h1 k4
  | false =>
   obtain⟨ns',h1,h2⟩:=Cs.into_top hs.old hm hc hr;exact⟨.inl ⟨false,ns',rfl,h1,(λh=>by cases h)⟩,h2⟩
 | none =>
  obtain⟨⟨F,h1,h3⟩,h2⟩:=Cs.into_shared hm hc hr;obtain⟨k1,k2,k3⟩:=xB (g:=g) h2;refine⟨.inr ⟨rfl,k1,k2,F,h1,λb hb=>?_⟩,k3⟩;rcases h3 b hb with h|⟨n,hn,f,hf,ha,ht⟩
  · exact hs.old b h
  · obtain⟨p,hp,rfl⟩:=mem_map.1 hn;obtain⟨e,m,xs',e1,_,e3⟩:=h2 p hp;exact hs.fwd p (hsub p hp) e xs' e3 b ht
def nY (en:List (an×Entry)) (g:Gh) (used:List (an×Entry)):List ll->List Value->List an->Prop
 | [],_,ns=>ns=[]
 | _::_,[],_=>False
 | .val .. :: ps,_::vs,ns=>nY en g used ps vs ns
 | .ptr .. :: ps,v::vs,ns=>∃n ns',ns=n::ns'/\(n,.gone)∈used/\(∃cs,kF en n=some (.box cs))/\g.loc n=v/\nY en g used ps vs ns'
theorem nY.mono {used used':List (an×Entry)} (h:∀p∈used,p∈used'):∀{ps:List ll} {vs:List Value} {ns:List an},nY en g used ps vs ns->nY en g used' ps vs ns
 | [],_,_,k=>k
 | .val .. :: ps,v::vs,ns,k=>nY.mono (ps:=ps) (vs:=vs) h k
 | .ptr .. :: ps,v::vs,ns,⟨n,ns',k1,k2,k3,k4,k5⟩=>⟨n,ns',k1,h _ k2,k3,k4,nY.mono h k5⟩
 | .val .. :: _,[],_,k=>k
 | .ptr .. :: _,[],_,k=>k
theorem rN (hm:mW en g w) {sl:Bool}:∀{ps:List ll} {args:List AV} {vals:List Value} {b:sF (kV ps)} {L:List an},kM (lk (dom en) g w) args vals->(lG sl ps args).Runs (kF en) b L->wR en g I b.used b.ro ->
 nX I w ps b.args vals (mi g b.used) (mj en g b.used)/\mp en b.used/\nY en g b.used ps vals b.ptrs
 | [],[],[],b,L,_,hr,_=>by obtain⟨rfl,_⟩:=hr;exact⟨⟨rfl,rfl,rfl⟩,λp hp=>by simp at hp,rfl⟩
 | .val agg c false::ps,v::args,u::vals,b,L,ha,hr,hs=>by
  simp only[lG]at hr;obtain⟨_,L5,L6,_,h0,hr⟩:=Rd.runs_bind hr;obtain⟨a,L1,L2,_,h1,hr⟩:=Rd.runs_bind hr;obtain⟨b',L3,L4,_,h2,hr⟩:=Rd.runs_bind hr;obtain⟨rfl,_⟩:=hr;obtain⟨us,hag,hcs⟩:=tS ha.1 (Rd.runs_need h0).1;obtain⟨k1,k2,k3⟩:=rN hm ha.2 h2 ⟨hs.old,λp hp=>hs.fwd p (mem_append_right _ hp),λn hn=>hs.lent n (mem_append_right _ hn)⟩;cases sl with
  | true =>
   obtain⟨k4,k5⟩:=pK (own:=none) hm hcs h1 hs (λp hp=>mem_append_left _ hp);refine⟨⟨u,vals,us,_,_,_,_,rfl,hag,flatMap_append,flatMap_append,?_,?_⟩,k5.append k2,nY.mono (ps:=ps) (vs:=vals) (λp hp=>mem_append_right _ hp) k3⟩
   · show ow I w none c (kH.hd c (kV ps) (kH.mk c (kV ps) a.1 b'.args)) us _ _;rw[kH.hd_mk];exact k4
   · show nX I w ps (kH.tl c (kV ps) (kH.mk c (kV ps) a.1 b'.args)) vals _ _;rw[kH.tl_mk];exact k1
  | false =>
   obtain⟨y,_,_,_,h3,h4⟩:=Rd.runs_bind h1;obtain⟨rfl,_⟩:=h4;obtain⟨F,hF,hFI⟩:=Cs.read_sound hm hcs h3;refine⟨⟨u,vals,us,[],mi g b'.used,[],mj en g b'.used,rfl,hag,by simp,by simp,.inr ⟨rfl,rfl,rfl,F,?_,λq hq=>?_⟩,?_⟩,k2,nY.mono (ps:=ps) (vs:=vals) (λp hp=>hp) k3⟩
   · show Cs.Rep w c (kH.hd c (kV ps) (kH.mk c (kV ps) y b'.args)) us F;rw[kH.hd_mk];exact hF
   · rcases hFI q hq with h|⟨n,hn,f,hf,hal,ht⟩
     · exact hs.old q h
     · exact hs.lent n (mem_append_left _ hn) f q hf hal ht
   · show nX I w ps (kH.tl c (kV ps) (kH.mk c (kV ps) y b'.args)) vals _ _;rw[kH.tl_mk];exact k1
 | .val agg c true::ps,v::args,u::vals,b,L,ha,hr,hs=>by
  simp only[lG]at hr;obtain⟨_,L5,L6,_,h0,hr⟩:=Rd.runs_bind hr;obtain⟨a,L1,L2,_,h1,hr⟩:=Rd.runs_bind hr;obtain⟨b',L3,L4,_,h2,hr⟩:=Rd.runs_bind hr;obtain⟨rfl,_⟩:=hr;obtain⟨us,hag,hcs⟩:=tS ha.1 (Rd.runs_need h0).1;obtain⟨k1,k2,k3⟩:=rN hm ha.2 h2 ⟨hs.old,λp hp=>hs.fwd p (mem_append_right _ hp),hs.lent⟩;obtain⟨k4,k5⟩:=pK (own:=some true) hm hcs h1 hs (λp hp=>mem_append_left _ hp);refine⟨⟨u,vals,us,_,_,_,_,rfl,hag,flatMap_append,flatMap_append,?_,?_⟩,k5.append k2,nY.mono (ps:=ps) (vs:=vals) (λp hp=>mem_append_right _ hp) k3⟩
  · show ow I w (some true) c (kH.hd c (kV ps) (kH.mk c (kV ps) a.1 b'.args)) us _ _;rw[kH.hd_mk];exact k4
  · show nX I w ps (kH.tl c (kV ps) (kH.mk c (kV ps) a.1 b'.args)) vals _ _;rw[kH.tl_mk];exact k1
 | .ptr c own::ps,.cell (.box n 0)::args,u::vals,b,L,ha,hr,hs=>by
  simp only[lG]at hr;obtain⟨L',_,hr⟩:=hr;dsimp only at hr;split at hr
  · rename_i cs hn;obtain⟨a,L1,L2,_,h1,hr⟩:=Rd.runs_bind hr;obtain⟨b',L3,L4,_,h2,hr⟩:=Rd.runs_bind hr;obtain⟨rfl,_⟩:=hr;obtain⟨k1,k2,k3⟩:=rN hm ha.2 h2 ⟨hs.old,λp hp=>hs.fwd p (mem_cons_of_mem _ (mem_append_right _ hp)),hs.lent⟩;obtain⟨blk,us,e1,e2,e3,e4⟩:=hm.rep n _ hn;obtain⟨k4,k5⟩:=pK (own:=own) hm e4 h1 hs (λp hp=>mem_cons_of_mem _ (mem_append_left _ hp));obtain⟨_,blk',e5,e6⟩:=ha.1;rw[e2]at e5;cases e5;refine⟨⟨blk,vals,us,mi g a.2,mi g b'.used,mj en g a.2,mj en g b'.used,?_,e3,?_,?_,?_,?_⟩,?_,n,b'.ptrs,rfl,mem_cons_self,⟨cs,hn⟩,e2.trans e6.symm,nY.mono (λp hp=>mem_cons_of_mem _ (mem_append_right _ hp)) k3⟩
    · rw[e6]
    · show ((n,Entry.gone)::(a.2++b'.used)).flatMap (p8 g)=_;rw[flatMap_cons,flatMap_append];simp[p8,e1,mi]
    · show ((n,Entry.gone)::(a.2++b'.used)).flatMap (od en g)=_;rw[flatMap_cons,flatMap_append];simp[od,hn,mj]
    · show ow I w own c (kH.hd c (kV ps) (kH.mk c (kV ps) a.1 b'.args)) us _ _;rw[kH.hd_mk];exact k4
    · show nX I w ps (kH.tl c (kV ps) (kH.mk c (kV ps) a.1 b'.args)) vals _ _;rw[kH.tl_mk];exact k1
    · intro p hp;rcases mem_cons.1 hp with rfl|hp
      · exact .inr (.inl ⟨rfl,cs,hn⟩)
      · exact (k5.append k2) p hp
  · exact hr.elim
 | .val _ _ false::_,[],_,_,_,_,hr,_=>hr.elim
 | .val _ _ true::_,[],_,_,_,_,hr,_=>hr.elim
 | .ptr _ _::_,[],_,_,_,_,hr,_=>hr.elim
end Go.V
namespace Go.V
variable {P:Program} {G:lR} {w0:World} {T N:Nat->Prop} {en en':List (an×Entry)} {S:St} {g g':Gh} {w:World} {a:Act} {I:Nat->Prop}

def tT (tmps:Array Value):ResultVar->Sem Value
 | .tmp t=>pure (tmps.getD t undef)
 | .cell a t=>do loadVar t (←asAddr (tmps.getD a undef))
theorem tU (h:lh w0 T N S g w a) (hT:mh P G.ti):∀{rv:List ResultVar} {vs:List AV},qG G S rv=some vs->∃rvals,kM (lk (dom S.en) g w) vs rvals/\(rv.mapM (tT a.tmps)).run P w=.ok rvals w
 | [],vs,hr=>by cases hr;exact⟨[],trivial,rfl⟩
 | .tmp t::l,vs,hr=>by
  simp only[qG]at hr;cases hl:qG G S l with
  | none=>rw[hl]at hr;cases hr
  | some us =>
   rw[hl]at hr;cases hr;obtain⟨rvals,h1,h2⟩:=tU h hT hl;refine⟨a.tmps.getD t undef::rvals,⟨h.tmps t,h1⟩,?_⟩;rw[List.mapM_cons];simp only[tT,Sem.run_bind,Sem.run_pure,Result.andThen,h2]
 | .cell b t::l,vs,hr=>by
  simp only[qG]at hr;cases hi:kF G.ti t with
  | none=>rw[hi]at hr;cases hr
  | some i =>
   rw[hi]at hr;obtain⟨n,hb⟩:∃n,S.tmp b=.cell (.box n 0):=by
    cases hb:S.tmp b with
    | cell c =>
     rw[hb]at hr;cases c with
     | box n off=>cases off with
      | zero=>exact⟨n,rfl⟩
      | succ _=>cases hr
     | _=>cases hr
    | agg _=>rw[hb]at hr;cases hr
    | tup _=>rw[hb]at hr;cases hr
   rw[hb]at hr;simp only at hr;cases hn:S.ent n with
   | none=>rw[hn]at hr;cases hr
   | some en1 =>
    cases hl:qG G S l with
    | none=>rw[hn,hl]at hr;cases en1<;>cases hr
    | some us =>
     rw[hn,hl]at hr;cases en1 with
     | tree=>cases hr
     | box cs =>
      simp only at hr;cases hlen:Nat.beq cs.length i.cs.len with
      | false=>rw[hlen]at hr;cases hr
      | true =>
       rw[hlen]at hr;cases hr;obtain⟨rvals,h1,h2⟩:=tU h hT hl;have hbv:=h.tmps b
       rw[hb]at hbv;obtain⟨_,blk,e1,e2⟩:=hbv;obtain⟨blk',ws,e3,e4,e5,e6⟩:=h.mem.rep n _ hn;rw[e1]at e4;cases e4;have hl2:ws.length=i.cs.len:=by rw[←e6.length];exact Nat.eq_of_beq_eq_true hlen
       obtain⟨d,u,z,hf⟩:=hT.facts hi;have hload:=ur (P:=P) hf (lv.row e5) hl2
       refine⟨(if i.agg then .agg ws.toArray else ws.headD undef)::rvals,⟨?_,h1⟩,?_⟩
       · cases ha:i.agg with
         | true=>exact rg e6 (.inr ⟨rfl,rfl⟩)
         | false =>
          obtain⟨c,hc,_⟩:=hf.plain ha;rw[hc]at hl2
          match ws,hl2,e6 with
          | [v],_,e6=>exact rg e6 (.inl ⟨rfl,rfl⟩)
       · rw[List.mapM_cons];simp only[tT,e2,asAddr,Sem.run_bind,Sem.run_pure,Result.andThen,hload,h2]
     | gone=>cases hr
     | fwd _ _=>cases hr
     | root _ _ _=>cases hr
def xC (vs:List Value):Value:=match vs with | [v]=>v|vs=>.tuple vs.toArray
theorem yf {fn:Func} {tmps:Array Value} {rvals:List Value} (h:(fn.results.toList.mapM (tT tmps)).run P w=.ok rvals w):(results fn tmps).run P w=.ok (xC rvals) w:=by
 have e:results fn tmps=(do
  let vs ←fn.results.mapM (tT tmps)
  pure (if h:vs.size=1 then vs[0]else .tuple vs)):=by
  unfold results
  congr 1
 rw[e,Array.mapM_eq_mapM_toList];simp only[Sem.run_bind,Sem.run_pure,map_eq_pure_bind,Result.andThen,h]
 congr 1
 match rvals with
 | []=>rfl
 | [v]=>rfl
 | _::_::_=>simp[xC]
def pu (I:Nat->Prop) (w:World):(rs:List m6)->kH (lN rs)->List Value->List Nat->List Nat->Prop
 | [],_,vs,ts,ns=>vs=[]/\ts=[]/\ns=[]
 | .val agg c own::rs,x,vs,ts,ns=>∃v vs' us t1 t2 n1 n2,vs=v::vs'/\isAgg agg v us/\ts=t1++t2/\ns=n1++n2/\ow I w own c (kH.hd c (lN rs) x) us t1 n1/\pu I w rs (kH.tl c (lN rs) x) vs' t2 n2
 | .ptr c own::rs,x,vs,ts,ns=>∃b vs' us t1 t2 n1 n2,vs=.pointer (some ⟨b,0,none⟩)::vs'/\lv w b us/\ts=b::(t1++t2)/\ns=n1++n2/\ow I w own c (kH.hd c (lN rs) x) us t1 n1/\pu I w rs (kH.tl c (lN rs) x) vs' t2 n2
def oy (I:Nat->Prop) (w:World):(ps:List ll)->(rs:List m6)->kH (lK ps rs)->List Nat->List Value->List Nat->List Nat->Prop
 | [],rs,x,bs,vs,ts,ns=>bs=[]/\pu I w rs x vs ts ns
 | .val .. :: ps,rs,x,bs,vs,ts,ns=>oy I w ps rs x bs vs ts ns
 | .ptr c own::ps,rs,x,bs,vs,ts,ns=>∃b bs' us t1 t2 n1 n2,bs=b::bs'/\lv w b us/\ts=b::(t1++t2)/\ns=n1++n2/\ow I w own c (kH.hd c (lK ps rs) x) us t1 n1/\oy I w ps rs (kH.tl c (lK ps rs) x) bs' vs t2 n2
theorem qA (hm:mW en g w):∀{rs:List m6} {vs:List AV} {rvals:List Value} {y:kH (lN rs)×List (an×Entry)} {L:List an},kM (lk (dom en) g w) vs rvals->qH rs vs=true->(qU rs vs).Runs (kF en) y L ->
 ∀{used:List (an×Entry)},wR en g I used []->(∀p∈y.2,p∈used)->pu I w rs y.1 rvals (mi g y.2) (mj en g y.2)/\mp en y.2
 | [],[],[],y,L,_,_,hr,used,hs,hsub=>by obtain⟨rfl,_⟩:=hr;exact⟨⟨rfl,rfl,rfl⟩,λp hp=>by simp at hp⟩
 | .val agg c own::rs,v::vs,u::rvals,y,L,ha,ho,hr,used,hs,hsub=>by
  simp only[qU]at hr;obtain⟨a,L1,L2,_,h1,hr⟩:=Rd.runs_bind hr;obtain⟨b,L3,L4,_,h2,hr⟩:=Rd.runs_bind hr;obtain⟨rfl,_⟩:=hr;simp only[qH,aT]at ho;obtain⟨us,hag,hcs⟩:=tS ha.1 ho.1;obtain⟨k1,k2⟩:=qA hm ha.2 ho.2 h2 hs (λp hp=>hsub p (mem_append_right _ hp));obtain⟨k4,k5⟩:=pK hm hcs h1 hs (λp hp=>hsub p (mem_append_left _ hp));refine⟨⟨u,rvals,us,_,_,_,_,rfl,hag,flatMap_append,flatMap_append,?_,?_⟩,k5.append k2⟩
  · show ow I w own c (kH.hd c (lN rs) (kH.mk c (lN rs) a.1 b.1)) us _ _;rw[kH.hd_mk];exact k4
  · show pu I w rs (kH.tl c (lN rs) (kH.mk c (lN rs) a.1 b.1)) rvals _ _;rw[kH.tl_mk];exact k1
 | .ptr c own::rs,.cell (.box n 0)::vs,u::rvals,y,L,ha,ho,hr,used,hs,hsub=>by
  simp only[qU]at hr;obtain⟨L',_,hr⟩:=hr;dsimp only at hr;split at hr
  · rename_i cs hn;obtain⟨a,L1,L2,_,h1,hr⟩:=Rd.runs_bind hr;obtain⟨b,L3,L4,_,h2,hr⟩:=Rd.runs_bind hr;obtain⟨rfl,_⟩:=hr;obtain⟨k1,k2⟩:=qA hm ha.2 ho h2 hs (λp hp=>hsub p (mem_cons_of_mem _ (mem_append_right _ hp)));obtain⟨blk,us,e1,e2,e3,e4⟩:=hm.rep n _ hn;obtain⟨k4,k5⟩:=pK hm e4 h1 hs (λp hp=>hsub p (mem_cons_of_mem _ (mem_append_left _ hp)));obtain⟨_,blk',e5,e6⟩:=ha.1;rw[e2]at e5;cases e5;refine⟨⟨blk,rvals,us,mi g a.2,mi g b.2,mj en g a.2,mj en g b.2,by rw[e6],e3,?_,?_,?_,?_⟩,?_⟩
    · show ((n,Entry.gone)::(a.2++b.2)).flatMap (p8 g)=_;rw[flatMap_cons,flatMap_append];simp[p8,e1,mi]
    · show ((n,Entry.gone)::(a.2++b.2)).flatMap (od en g)=_;rw[flatMap_cons,flatMap_append];simp[od,hn,mj]
    · show ow I w own c (kH.hd c (lN rs) (kH.mk c (lN rs) a.1 b.1)) us _ _;rw[kH.hd_mk];exact k4
    · show pu I w rs (kH.tl c (lN rs) (kH.mk c (lN rs) a.1 b.1)) rvals _ _;rw[kH.tl_mk];exact k1
    · intro p hp;rcases mem_cons.1 hp with rfl|hp
      · exact .inr (.inl ⟨rfl,cs,hn⟩)
      · exact (k5.append k2) p hp
  · exact hr.elim
 | .val _ _ _::_,[],_,_,_,_,_,hr,_,_,_=>hr.elim
 | .ptr _ _::_,[],_,_,_,_,_,hr,_,_,_=>hr.elim
 | [],_::_,_,_,_,_,_,hr,_,_,_=>hr.elim
def zf (g:Gh):Nat->List ll->List Nat->Prop
 | _,[],bs=>bs=[]
 | i,.val .. :: ps,bs=>zf g (i+1) ps bs
 | i,.ptr .. :: ps,bs=>∃b bs',bs=b::bs'/\g.loc (64*i+1)=.pointer (some ⟨b,0,none⟩)/\zf g (i+1) ps bs'
theorem qB (hm:mW en g w):∀{ps:List ll} {rs:List m6} {i:Nat} {vs:List AV} {rvals:List Value} {y:kH (lK ps rs)×List (an×Entry)} {L:List an},kM (lk (dom en) g w) vs rvals->qH rs vs=true->(qc i ps rs vs).Runs (kF en) y L ->
 ∀{used:List (an×Entry)},wR en g I used []->(∀p∈y.2,p∈used)->∃bs,oy I w ps rs y.1 bs rvals (mi g y.2) (mj en g y.2)/\mp en y.2/\zf g i ps bs
 | [],rs,i,vs,rvals,y,L,ha,ho,hr,used,hs,hsub=>by
  obtain⟨k1,k2⟩:=qA hm ha ho hr hs hsub;exact⟨[],⟨rfl,k1⟩,k2,rfl⟩
 | .val agg c mv::ps,rs,i,vs,rvals,y,L,ha,ho,hr,used,hs,hsub=>qB (ps:=ps) (i:=i+1) hm ha ho hr hs hsub
 | .ptr c own::ps,rs,i,vs,rvals,y,L,ha,ho,hr,used,hs,hsub=>by
  simp only[qc]at hr;obtain⟨L',_,hr⟩:=hr;dsimp only at hr;split at hr
  · rename_i cs hn;obtain⟨a,L1,L2,_,h1,hr⟩:=Rd.runs_bind hr;obtain⟨b,L3,L4,_,h2,hr⟩:=Rd.runs_bind hr;obtain⟨rfl,_⟩:=hr;obtain⟨bs,k1,k2,k3⟩:=qB hm ha ho h2 hs (λp hp=>hsub p (mem_cons_of_mem _ (mem_append_right _ hp)));obtain⟨blk,us,e1,e2,e3,e4⟩:=hm.rep (64*i+1) _ hn;obtain⟨k4,k5⟩:=pK hm e4 h1 hs (λp hp=>hsub p (mem_cons_of_mem _ (mem_append_left _ hp)));refine⟨blk::bs,⟨blk,bs,us,mi g a.2,mi g b.2,mj en g a.2,mj en g b.2,rfl,e3,?_,?_,?_,?_⟩,?_,blk,bs,rfl,e2,k3⟩
    · show ((64*i+1,Entry.gone)::(a.2++b.2)).flatMap (p8 g)=_;rw[flatMap_cons,flatMap_append];simp[p8,e1,mi]
    · show ((64*i+1,Entry.gone)::(a.2++b.2)).flatMap (od en g)=_;rw[flatMap_cons,flatMap_append];simp[od,hn,mj]
    · show ow I w own c (kH.hd c (lK ps rs) (kH.mk c (lK ps rs) a.1 b.1)) us _ _;rw[kH.hd_mk];exact k4
    · show oy I w ps rs (kH.tl c (lK ps rs) (kH.mk c (lK ps rs) a.1 b.1)) bs rvals _ _;rw[kH.tl_mk];exact k1
    · intro p hp;rcases mem_cons.1 hp with rfl|hp
      · exact .inr (.inl ⟨rfl,cs,hn⟩)
      · exact (k5.append k2) p hp
  · exact hr.elim
end Go.V
namespace Go.V
variable {w0:World} {T N:Nat->Prop} {en E:List (an×Entry)} {g g':Gh} {w:World} {I:Nat->Prop}

theorem zg {l:List (an×Entry)} {n:an} (h:n∉l.map (·.1)):kF l n=none:=by
 cases hf:kF l n with
 | none=>rfl
 | some y=>exact absurd (oz.2 (by rw[hf];simp)) h
theorem qs {l m:List (an×Entry)} {n:an} (h1:n∉l.map (·.1)) (h2:kF m n=none):kF (l++m) n=none:=by rw[lH h1];exact h2
theorem mJ.congr {new new':List (an×Entry)} {ts ns:List Nat} (h:mJ w0 T N E g w new g' ts ns) (he:∀n,kF (new++E) n=kF (new'++E) n):mJ w0 T N E g w new' g' ts ns:=by
 refine⟨h.ms.congr he,by rw[←nV he];exact h.le,h.imm,h.giv.t1,h.giv.n1,λb hb=>?_,λb hb=>?_,λb hb m f hm=>h.giv.tw b hb m f ((he m).trans hm)⟩
 · obtain⟨k1,k2,k3⟩:=h.giv.tf b hb;exact⟨k1,λm f hm=>k2 m f ((he m).trans hm),k3⟩
 · obtain⟨k1,k2⟩:=h.giv.nf b hb;exact⟨λm f hm=>k1 m f ((he m).trans hm),k2⟩
theorem A1 {D:an->Prop} {agg:Bool} {cs:List Cell} {v:Value} {us:List Value} (h:kM (kI D g w) cs us) (ha:isAgg agg v us):lZ D g w (nI agg cs) v:=by
 have:=rg h ha;cases hx:nI agg cs with
 | cell c=>rw[hx]at this;exact this
 | agg ds=>rw[hx]at this;exact this
 | tup l =>
  exfalso;cases agg with
  | true=>cases cs<;>cases hx
  | false=>cases cs with
   | nil=>cases hx
   | cons c cs=>cases cs<;>cases hx
theorem rh:∀(rs:List m6) (n:an) (x:kH (lN rs)) (rvals:List Value) (ts ns ts' ns':List Nat) (g:Gh),MS w0 T N E g w->mS w0 T N E g (ts++ts') (ns++ns')->pu g.I w rs x rvals ts ns->kQ (l8 n rs x).news=true ->
 (∀p∈(l8 n rs x).news,kF E p.1=none)->(l8 n rs x).upds=[]/\∃g',mJ w0 T N E g w (l8 n rs x).news g' ts' ns'/\kM (lZ (dom ((l8 n rs x).news++E)) g' w) (l8 n rs x).vals rvals
 | [],n,x,rvals,ts,ns,ts',ns',g,h,hv,ha,hd,hf=>by
  obtain⟨rfl,rfl,rfl⟩:=ha;exact⟨rfl,g,mJ.refl h (by simpa using hv),trivial⟩
 | .val agg c own::rs,n,x,rvals,ts,ns,ts',ns',g,h,hv,ha,hd,hf=>by
  obtain⟨v,vs',us,t1,t2,n1,n2,rfl,hag,rfl,rfl,hin,ha⟩:=ha;obtain⟨d1,d2,d3⟩:=lT (l:=(mz own n c (kH.hd c (lN rs) x)).2) (m:=(l8 (n+64) rs (kH.tl c (lN rs) x)).news) hd;obtain⟨e0,g1,k1,k2⟩:=rh rs (n+64) (kH.tl c (lN rs) x) vs' t2 n2 (t1++ts') (n1++ns') g h (hv.mono (λb=>by simp only[count_append];omega) (λb=>by simp only[count_append];omega)) ha d2 (λp hp=>hf p (mem_append_right _ hp));obtain⟨g2,k4,k5⟩:=qr (n:=n) k1.ms (hin.imm λb hb=>by rw[k1.imm];exact hb) k1.giv (λp hp=>qs (d3 p.1 (mem_map_of_mem hp)) (hf p (mem_append_left _ hp))) d1;have e:(l8 n (.val agg c own::rs) x).news++E=(mz own n c (kH.hd c (lN rs) x)).2++((l8 (n+64) rs (kH.tl c (lN rs) x)).news++E):=append_assoc _ _ _
  refine⟨e0,g2,k1.trans k4,?_,?_⟩
  · rw[e];exact A1 k5 hag
  · rw[e];exact kM.imp (λ_ _=>lZ.mono k4.le) k2
 | .ptr c own::rs,n,x,rvals,ts,ns,ts',ns',g,h,hv,ha,hd,hf=>by
  obtain⟨b,vs',us,t1,t2,n1,n2,rfl,hob,rfl,rfl,hin,ha⟩:=ha;obtain⟨d0,hd⟩:=m9 (n:=n) (l:=(mz own (n+1) c (kH.hd c (lN rs) x)).2++(l8 (n+64) rs (kH.tl c (lN rs) x)).news) hd;obtain⟨d1,d2,d3⟩:=lT hd;have hf1:∀p∈(mz own (n+1) c (kH.hd c (lN rs) x)).2++(l8 (n+64) rs (kH.tl c (lN rs) x)).news,kF E p.1=none:=λp hp=>hf p (mem_cons_of_mem _ hp)
  obtain⟨e0,g1,k1,k2⟩:=rh rs (n+64) (kH.tl c (lN rs) x) vs' t2 n2 (t1++(b::ts')) (n1++ns') g h (hv.mono (λb'=>by simp only[count_append,count_cons,cons_append];omega) (λb=>by simp only[count_append];omega)) ha d2 (λp hp=>hf1 p (mem_append_right _ hp));obtain⟨g2,k4,k5⟩:=qr (n:=n+1) k1.ms (hin.imm λb hb=>by rw[k1.imm];exact hb) k1.giv (λp hp=>qs (d3 p.1 (mem_map_of_mem hp)) (hf1 p (mem_append_left _ hp))) d1;have k6:=k1.trans k4
  have hfree:kF ((mz own (n+1) c (kH.hd c (lN rs) x)).2++(l8 (n+64) rs (kH.tl c (lN rs) x)).news++E) n=none:=qs d0 (hf (n,_) mem_cons_self);obtain⟨g3,k7,k8⟩:=vU k6.ms hob (by rw[append_assoc];exact k5) k6.giv (λhd=>absurd hfree hd) (λe he=>by rw[hfree]at he;cases he);refine⟨e0,g3,k6.trans k7,⟨lQ.2 (.inl rfl),b,k8,rfl⟩,?_⟩;refine kM.imp (λ_ _ hx=>?_) k2;have h1:=lZ.mono k4.le hx
  rw[←append_assoc]at h1;exact lZ.mono k7.le h1
theorem ri:∀(rs:List m6) (n:an) (x:kH (lN rs)),(l8 n rs x).upds=[]
 | [],_,_=>rfl
 | .val _ c _::rs,n,x=>ri rs (n+64) (kH.tl c (lN rs) x)
 | .ptr c _::rs,n,x=>ri rs (n+64) (kH.tl c (lN rs) x)
theorem pY:∀(ps:List ll) (rs:List m6) (n:an) (bs:List an) (x:kH (lK ps rs)),∀p∈(kN n ps rs bs x).upds,p.1∈bs
 | [],rs,n,bs,x,p,hp=>by
  have:(kN n [] rs bs x).upds=[]:=ri rs n x;rw[this]at hp;simp at hp
 | .val .. :: ps,rs,n,bs,x,p,hp=>pY ps rs n bs x p hp
 | .ptr c own::ps,rs,n,[],x,p,hp=>by simp[kN]at hp
 | .ptr c own::ps,rs,n,b::bs,x,p,hp=>by
  have hp:p∈(b,Entry.box (mz own n c (kH.hd c (lK ps rs) x)).1)::(kN (n+64) ps rs bs (kH.tl c (lK ps rs) x)).upds:=hp;rcases mem_cons.1 hp with rfl|hp
  · exact mem_cons_self
  · exact mem_cons_of_mem _ (pY ps rs (n+64) bs _ p hp)
theorem A2 {l m:List (an×Entry)} {b:an} {x:Entry} (h:b∉l.map (·.1)) (n:an):kF ((b,x)::(l++m)) n=kF (l++(b,x)::m) n:=by
 rw[kO,lg,lg,kO];by_cases hbn:b=n
 · subst hbn;rw[if_pos rfl,if_pos rfl,zg h]
 · rw[if_neg hbn,if_neg hbn]
def zh (E:List (an×Entry)) (g:Gh) (n:an) (b:Nat):Prop:=kF E n=some .gone/\g.loc n=.pointer (some ⟨b,0,none⟩)
theorem rj:∀(ps:List ll) (rs:List m6) (n:an) (x:kH (lK ps rs)) (nm:List an) (bs:List Nat) (rvals:List Value) (ts ns ts' ns':List Nat) (g:Gh),MS w0 T N E g w->mS w0 T N E g (ts++ts') (ns++ns')->oy g.I w ps rs x bs rvals ts ns ->
 kM (zh E g) nm bs->nm.Nodup->kQ (kN n ps rs nm x).news=true->(∀p∈(kN n ps rs nm x).news,kF E p.1=none) ->
 ∃g',mJ w0 T N E g w ((kN n ps rs nm x).news++(kN n ps rs nm x).upds) g' ts' ns'/\kM (lZ (dom ((kN n ps rs nm x).news++(kN n ps rs nm x).upds++E)) g' w) (kN n ps rs nm x).vals rvals
 | [],rs,n,x,nm,bs,rvals,ts,ns,ts',ns',g,h,hv,ha,hp,hnd,hd,hf=>by
  obtain⟨rfl,ha⟩:=ha;have hd:kQ (l8 n rs x).news=true:=hd
  have hf:∀p∈(l8 n rs x).news,kF E p.1=none:=hf;obtain⟨e0,g',k1,k2⟩:=rh rs n x rvals ts ns ts' ns' g h hv ha hd hf;have e:(l8 n rs x).news++(l8 n rs x).upds=(l8 n rs x).news:=by rw[e0,append_nil]
  refine⟨g',?_,?_⟩
  · show mJ w0 T N E g w ((l8 n rs x).news++(l8 n rs x).upds) g' ts' ns';rw[e];exact k1
  · show kM (lZ (dom ((l8 n rs x).news++(l8 n rs x).upds++E)) g' w) (l8 n rs x).vals rvals;rw[e];exact k2
 | .val agg c mv::ps,rs,n,x,nm,bs,rvals,ts,ns,ts',ns',g,h,hv,ha,hp,hnd,hd,hf=>rj ps rs n x nm bs rvals ts ns ts' ns' g h hv ha hp hnd hd hf
 | .ptr c own::ps,rs,n,x,[],bs,rvals,ts,ns,ts',ns',g,h,hv,ha,hp,hnd,hd,hf=>by
  obtain⟨b,bs',us,t1,t2,n1,n2,rfl,_⟩:=ha;exact hp.elim
 | .ptr c own::ps,rs,n,x,m::nm,bs,rvals,ts,ns,ts',ns',g,h,hv,ha,hp,hnd,hd,hf=>by
  obtain⟨b,bs',us,t1,t2,n1,n2,rfl,hob,rfl,rfl,hin,ha⟩:=ha;obtain⟨⟨hp1,hp2⟩,hp⟩:=hp;rw[List.nodup_cons]at hnd
  let r:=kN (n+64) ps rs nm (kH.tl c (lK ps rs) x)
  let q:=mz own n c (kH.hd c (lK ps rs) x)
  have hd:kQ (q.2++r.news)=true:=hd;have hf:∀p∈q.2++r.news,kF E p.1=none:=hf
  obtain⟨d1,d2,d3⟩:=lT hd;obtain⟨g1,k1,k2⟩:=rj ps rs (n+64) (kH.tl c (lK ps rs) x) nm bs' rvals t2 n2 (t1++(b::ts')) (n1++ns') g h (hv.mono (λb'=>by simp only[count_append,count_cons,cons_append];omega) (λb=>by simp only[count_append];omega)) ha hp hnd.2 d2 (λp hp=>hf p (mem_append_right _ hp));have hup:∀p∈r.upds,p.1∈nm:=pY ps rs (n+64) nm _
  have hnmE:∀k∈nm,∃y,kF E k=some y:=by
   intro k hk;have key:∀(l:List an) (bl:List Nat),kM (zh E g) l bl->k∈l->∃y,kF E k=some y:=by
    intro l
    induction l with
    | nil=>intro bl _ hk;simp at hk
    | cons a l ih=>intro bl hl hk;cases bl with
     | nil=>exact hl.elim
     | cons c bl =>
      rcases mem_cons.1 hk with rfl|hk
      · exact⟨_,hl.1.1⟩
      · exact ih bl hl.2 hk
   exact key nm bs' hp hk
  have hnotup:∀p:an×Entry,kF E p.1=none->p.1∉r.upds.map (·.1):=by
   intro p hpE hm;obtain⟨u,hu,he⟩:=mem_map.1 hm;obtain⟨y,hy⟩:=hnmE u.1 (hup u hu);rw[he,hpE]at hy;cases hy
  obtain⟨g2,k4,k5⟩:=qr (n:=n) k1.ms (hin.imm λb hb=>by rw[k1.imm];exact hb) k1.giv (λp hp=>by
   have hpE:=hf p (mem_append_left _ hp);refine qs ?_ hpE;rw[map_append,mem_append,not_or];exact⟨d3 p.1 (mem_map_of_mem hp),hnotup p hpE⟩) d1
  have k6:=k1.trans k4;have hmE:dom E m:=by unfold dom;rw[hp1];simp
  have hmq:m∉q.2.map (·.1):=λhm=>by
   obtain⟨u,hu,he⟩:=mem_map.1 hm;have:=hf u (mem_append_left _ hu);rw[he,hp1]at this;cases this
  have hmr:m∉r.news.map (·.1):=λhm=>by
   obtain⟨u,hu,he⟩:=mem_map.1 hm;have:=hf u (mem_append_right _ hu);rw[he,hp1]at this;cases this
  have hmu:m∉r.upds.map (·.1):=λhm=>by
   obtain⟨u,hu,he⟩:=mem_map.1 hm;exact hnd.1 (he▸hup u hu)
  have hfind:kF (q.2++(r.news++r.upds)++E) m=some .gone:=by
   rw[lH]
   · exact hp1
   · rw[map_append,map_append,mem_append,mem_append,not_or,not_or];exact⟨hmq,hmr,hmu⟩
  obtain⟨g3,k7,k8⟩:=vU (n:=m) k6.ms hob (by rw[append_assoc];exact k5) k6.giv (λ_=>(k6.le.loc m hmE).trans hp2) (λe he=>by
   have:kF (q.2++(r.news++r.upds)++E) m=some e:=he;rw[hfind]at this;cases this;rfl)
  have hcong:∀k,kF ([(m,.box q.1)]++(q.2++(r.news++r.upds))++E) k=kF ((q.2++r.news++((m,.box q.1)::r.upds))++E) k:=by
   intro k;have:=A2 (l:=q.2++r.news) (m:=r.upds++E) (b:=m) (x:=.box q.1) (by rw[map_append,mem_append,not_or];exact⟨hmq,hmr⟩) k
   simpa[append_assoc]using this
  refine⟨g3,(k6.trans k7).congr hcong,?_⟩;show kM (lZ (dom ((q.2++r.news++((m,.box q.1)::r.upds))++E)) g3 w) r.vals rvals
  rw[←nV hcong];refine kM.imp (λ_ _ hx=>?_) k2;have h1:=lZ.mono k4.le hx
  rw[←append_assoc]at h1;exact lZ.mono k7.le h1
end Go.V
namespace Go.V
variable {w0:World} {T N:Nat->Prop} {en E:List (an×Entry)} {g g':Gh} {w w':World} {I:Nat->Prop}

theorem MS.useAny (h:MS w0 T N en g w):∀{used:List (an×Entry)},mp en used->kQ used=true ->
 ∃g1,MS w0 T N (used++en) g1 w/\Le (dom en) g w (dom (used++en)) g1 w/\g1.loc=g.loc/\g1.esz=g.esz/\g1.top=g.top/\g1.nest=g.nest/\(∀b,g1.I b↔g.I b\/∃p∈used,(∃e xs,p.2=.fwd e xs)/\g.top p.1=some b)
 | [],_,_=>⟨g,h,Le.refl _ _ _,rfl,rfl,rfl,rfl,λb=>⟨.inl,λk=>k.elim id λ⟨p,hp,_⟩=>by simp at hp⟩⟩
 | (n,x)::used,hu,hd=>by
  obtain⟨h1,h2⟩:=m9 hd;obtain⟨g1,hM,hle,e1,e2,e3,e4,hI⟩:=h.useAny (used:=used) (λp hp=>hu p (mem_cons_of_mem _ hp)) h2;have hgone:x=.gone->dom en n->∃g1,MS w0 T N ((n,x)::used++en) g1 w/\Le (dom en) g w (dom ((n,x)::used++en)) g1 w/\g1.loc=g.loc/\g1.esz=g.esz/\g1.top=g.top/\g1.nest=g.nest/\(∀b,g1.I b↔g.I b\/∃p∈(n,x)::used,(∃e xs,p.2=.fwd e xs)/\g.top p.1=some b):=by
   intro hx hdn;subst hx;obtain⟨hM2,hle2⟩:=hM.gone (hle.dom n hdn);refine⟨g1,hM2,hle.trans hle2,e1,e2,e3,e4,λb=>(hI b).trans ⟨?_,?_⟩⟩
   · rintro (k|⟨p,hp,k⟩)
     · exact .inl k
     · exact .inr ⟨p,mem_cons_of_mem _ hp,k⟩
   · rintro (k|⟨p,hp,⟨e,xs,k⟩,k'⟩)
     · exact .inl k
     · rcases mem_cons.1 hp with rfl|hp
       · cases k
       · exact .inr ⟨p,hp,⟨e,xs,k⟩,k'⟩
  rcases hu (n,x) mem_cons_self with ⟨hx,e,m,xs,hn⟩|⟨hx,cs,hn⟩|⟨e,m,xs,hn,hx⟩
  · exact hgone hx (by unfold dom;rw[show kF en n=_ from hn];simp)
  · exact hgone hx (by unfold dom;rw[show kF en n=_ from hn];simp)
  · obtain rfl:x=.fwd e xs:=hx;obtain⟨g2,hM2,hle2,f1,f2,f3,f4,hI2⟩:=hM.fwd (n:=n) ((lH h1).trans hn);refine⟨g2,hM2,hle.trans hle2,f1.trans e1,f2.trans e2,f3.trans e3,f4.trans e4,λb=>?_⟩;rw[hI2,hI,e3];constructor
    · rintro ((k|⟨p,hp,k⟩)|k)
      · exact .inl k
      · exact .inr ⟨p,mem_cons_of_mem _ hp,k⟩
      · exact .inr ⟨_,mem_cons_self,⟨e,xs,rfl⟩,k⟩
    · rintro (k|⟨p,hp,k,k'⟩)
      · exact .inl (.inl k)
      · rcases mem_cons.1 hp with rfl|hp
        · exact .inr k'
        · exact .inl (.inr ⟨p,hp,k,k'⟩)
theorem qe {used:List (an×Entry)} {b:Nat} (h:b∈mi g used):∃p∈used,p.2=.gone/\g.top p.1=some b:=by
 obtain⟨p,hp,hb⟩:=mem_flatMap.1 h;unfold p8 at hb;split at hb
 · rename_i hx;exact⟨p,hp,hx,by simpa using hb⟩
 · simp at hb
theorem sU {used:List (an×Entry)} {b:Nat} (h:b∈mj en g used):∃p∈used,p.2=.gone/\(∃e xs,kF en p.1=some (.root e true xs))/\b∈g.nest p.1:=by
 obtain⟨p,hp,hb⟩:=mem_flatMap.1 h;unfold od at hb;split at hb
 · rename_i hx;split at hb
   · rename_i e xs hn;exact⟨p,hp,hx,⟨e,xs,hn⟩,hb⟩
   · simp at hb
 · simp at hb
theorem lX {used:List (an×Entry)} (hu:mp en used) {p:an×Entry} (hp:p∈used):∃f,kF en p.1=some f/\f.alive=true:=by
 rcases hu p hp with ⟨_,e,m,xs,hn⟩|⟨_,cs,hn⟩|⟨e,m,xs,hn,_⟩<;>exact⟨_,hn,rfl⟩
theorem tV (hm:mW en g w):∀{used:List (an×Entry)},mp en used->kQ used=true->pQ (mi g used)
 | [],_,_=>λb=>by simp[mi]
 | (n,x)::used,hu,hd=>by
  obtain⟨h1,h2⟩:=m9 hd;have ih:=tV hm (used:=used) (λp hp=>hu p (mem_cons_of_mem _ hp)) h2
  rw[me]at ih ⊢;show ((n,x)::used).flatMap (p8 g) |>.Nodup
  rw[flatMap_cons,List.nodup_append];refine⟨?_,ih,λb hb c hc hbc=>?_⟩
  · unfold p8;split
    · cases g.top (n,x).1<;>simp
    · simp
  · subst hbc;obtain⟨p,hp,_,hpt⟩:=qe hc;have hb':b∈mi g [(n,x)]:=by unfold mi;simpa using hb
    obtain⟨q,hq,_,hqt⟩:=qe hb';rw[mem_singleton]at hq;subst hq;obtain⟨f,hf,hfa⟩:=lX hu (mem_cons_self);obtain⟨f',hf',hfa'⟩:=lX hu (mem_cons_of_mem _ hp);have:=hm.apart n p.1 f f' b hf hf' hfa hfa' hqt hpt
    exact h1 (this▸mem_map_of_mem hp)
theorem rO {used:List (an×Entry)} (hu:mp en used) {p:an×Entry} (hp:p∈used) (hg:p.2=.gone) (hr:∃e xs,kF en p.1=some (.root e true xs)):∃e xs,kF en p.1=some (.root e true xs):=hr
theorem tW (hm:mW en g w):∀{used:List (an×Entry)},mp en used->kQ used=true->pQ (mj en g used)
 | [],_,_=>λb=>by simp[mj]
 | (n,x)::used,hu,hd=>by
  obtain⟨h1,h2⟩:=m9 hd;have ih:=tW hm (used:=used) (λp hp=>hu p (mem_cons_of_mem _ hp)) h2
  rw[me]at ih ⊢;show ((n,x)::used).flatMap (od en g) |>.Nodup
  rw[flatMap_cons,List.nodup_append];refine⟨?_,ih,λb hb c hc hbc=>?_⟩
  · unfold od;split
    · rename_i hx;split
      · rename_i e xs hn;obtain⟨_,_,_,hnd⟩:=lB hm hn;exact hnd rfl
      · simp
    · simp
  · subst hbc;obtain⟨p,hp,hpg,hpr,hpt⟩:=sU hc;have hb':b∈mj en g [(n,x)]:=by unfold mj;simpa using hb
    obtain⟨q,hq,hqg,hqr,hqt⟩:=sU hb';rw[mem_singleton]at hq;subst hq;obtain⟨e1,x1,hn1⟩:=rO hu mem_cons_self hqg hqr;obtain⟨e2,x2,hn2⟩:=rO hu (mem_cons_of_mem _ hp) hpg hpr;have hne:n≠p.1:=λe=>h1 (e▸mem_map_of_mem hp)
    exact hm.nests n p.1 _ _ hn1 hn2 rfl rfl hne b hqt hpt
theorem Cs.Gifts.flat:{c:Cs}->{x:c.den}->{us:List Value}->{ts ns:List Nat}->c.hasSl=false->Cs.Gifts I w c x us ts ns->ns=[]
 | .one c,x,us,ts,ns,h,⟨v,h1,h2⟩=>by
  cases c with
  | sl e=>simp[Cs.hasSl,CT.isSl]at h
  | _=>exact h2.2.1
 | .cons c r,x,us,ts,ns,h,⟨v,vs',t1,t2,n1,n2,h1,h2,h3,h4,h5⟩=>by
  simp only[Cs.hasSl,Bool.or_eq_false_iff]at h;have:=Cs.Gifts.flat h.2 h5
  subst this;subst h3;cases c with
  | sl e=>simp[CT.isSl]at h
  | _=>rw[append_nil];exact h4.2.1
theorem ow.shift {I':Nat->Prop} {own:Option Bool} {c:Cs} {x:c.den} {us:List Value} {ts ns:List Nat} (hn:∀b∈ns,I b->I' b) (hs:(s8 own=true->c.hasSl=false)\/∀b,I b->I' b) (h:ow I w own c x us ts ns):ow I' w own c x us ts ns:=by
 rcases h with ⟨m,ns',rfl,h2,hm⟩|⟨rfl,h2,h3,F,h4,h5⟩
 · refine .inl ⟨m,ns',rfl,?_,hm⟩;have hn2:∀b∈ns',I b->I' b:=by
    cases m with
    | true=>rw[hm rfl];exact hn
    | false =>
     rcases hs with hs|hs
     · rw[h2.flat (hs rfl)];simp
     · exact λb _=>hs b
   clear hm hn;have hc:∀{c:CT} {x:c.den} {v:Value} {ts ns:List Nat},(∀b∈ns,I b->I' b)->CT.Gifts I w c x v ts ns->CT.Gifts I' w c x v ts ns:=by
    intro c x v ts ns hn h;cases c with
    | sl e=>obtain⟨tp,h1,h2,h3⟩:=h;exact⟨tp,h1,h2,λb hb=>hn b hb (h3 b hb)⟩
    | _=>exact h
   clear hs
   revert x us ts ns'
   induction c using Cs.rec (motive_1:=λ_=>True)with
   | one c _=>intro x us ts ns h hn;obtain⟨v,h1,h2⟩:=h;exact⟨v,h1,hc hn h2⟩
   | cons c r _ ih =>
    intro x us ts ns h hn;obtain⟨v,vs',t1,t2,n1,n2,h1,h2,h3,h4,h5⟩:=h;subst h3;exact⟨v,vs',t1,t2,n1,n2,h1,h2,rfl,hc (λb hb=>hn b (mem_append_left _ hb)) h4,ih _ h5 (λb hb=>hn b (mem_append_right _ hb))⟩
   | _=>trivial
 · refine .inr ⟨rfl,h2,h3,F,h4,λb hb=>?_⟩;rcases hs with hs|hs
   · rw[h4.flat (hs rfl)]at hb;simp at hb
   · exact hs b (h5 b hb)
theorem pu.shift {I':Nat->Prop}:∀{rs:List m6} {x:kH (lN rs)} {vs:List Value} {ts ns:List Nat},(∀b∈ns,I b->I' b)->(rs.any m6.sh=false\/∀b,I b->I' b)->pu I w rs x vs ts ns->pu I' w rs x vs ts ns
 | [],_,_,_,_,_,_,h=>h
 | .val agg c own::rs,x,vs,ts,ns,hn,hs,⟨v,vs',us,t1,t2,n1,n2,h1,h2,h3,h4,h5,h6⟩=>by
  subst h4;refine⟨v,vs',us,t1,t2,n1,n2,h1,h2,h3,rfl,h5.shift (λb hb=>hn b (mem_append_left _ hb)) (hs.imp (λhs ho=>?_) id),pu.shift (λb hb=>hn b (mem_append_right _ hb)) (hs.imp (λhs=>?_) id) h6⟩
  · simp only[any_cons,Bool.or_eq_false_iff,m6.sh,ho,Bool.true_and]at hs;exact hs.1
  · simp only[any_cons,Bool.or_eq_false_iff]at hs;exact hs.2
 | .ptr c own::rs,x,vs,ts,ns,hn,hs,⟨v,vs',us,t1,t2,n1,n2,h1,h2,h3,h4,h5,h6⟩=>by
  subst h4;refine⟨v,vs',us,t1,t2,n1,n2,h1,h2,h3,rfl,h5.shift (λb hb=>hn b (mem_append_left _ hb)) (hs.imp (λhs ho=>?_) id),pu.shift (λb hb=>hn b (mem_append_right _ hb)) (hs.imp (λhs=>?_) id) h6⟩
  · simp only[any_cons,Bool.or_eq_false_iff,m6.sh,ho,Bool.true_and]at hs;exact hs.1
  · simp only[any_cons,Bool.or_eq_false_iff]at hs;exact hs.2
theorem oy.shift {I':Nat->Prop}:∀{ps:List ll} {rs:List m6} {x:kH (lK ps rs)} {bs:List Nat} {vs:List Value} {ts ns:List Nat},(∀b∈ns,I b->I' b)->(nx ps rs=false\/∀b,I b->I' b)->oy I w ps rs x bs vs ts ns->oy I' w ps rs x bs vs ts ns
 | [],rs,x,bs,vs,ts,ns,hn,hs,⟨h1,h2⟩=>⟨h1,h2.shift hn (hs.imp (λhs=>by simpa[nx]using hs) id)⟩
 | .val agg c mv::ps,rs,x,bs,vs,ts,ns,hn,hs,h=>oy.shift (ps:=ps) hn (hs.imp (λhs=>by simpa[nx,ll.sh]using hs) id) h
 | .ptr c own::ps,rs,x,bs,vs,ts,ns,hn,hs,⟨b,bs',us,t1,t2,n1,n2,h1,h2,h3,h4,h5,h6⟩=>by
  subst h4;refine⟨b,bs',us,t1,t2,n1,n2,h1,h2,h3,rfl,h5.shift (λb hb=>hn b (mem_append_left _ hb)) (hs.imp (λhs ho=>?_) id),oy.shift (λb hb=>hn b (mem_append_right _ hb)) (hs.imp (λhs=>?_) id) h6⟩
  · simp only[nx,any_cons,Bool.or_eq_false_iff,ll.sh,ho,Bool.true_and]at hs;exact hs.1.1
  · simp only[nx,any_cons,Bool.or_eq_false_iff]at hs ⊢;exact⟨hs.1.2,hs.2⟩
end Go.V
namespace Go.V
variable {P:Program} {G:lR} {w0:World} {T N:Nat->Prop} {en E:List (an×Entry)} {g g':Gh} {w w':World} {I:Nat->Prop} {nt:Nat} {ann:List (Nat×kL)}

theorem rk:∀(ps:List ll) (i:Nat) (x:kH (kV ps)),(∀t v,kF (entry i ps x).1 t=some v->nD (dom (entry i ps x).2) v)/\(∀n cs,(n,Entry.box cs)∈(entry i ps x).2->∀c∈cs,mC (dom (entry i ps x).2) c)
 | [],i,x=>⟨(λt v h=>by cases h),(λn cs h=>by cases h)⟩
 | .val agg c mv::ps,i,x=>by
  obtain⟨k1,k2⟩:=rk ps (i+1) (kH.tl c (kV ps) x);obtain⟨k3,k4⟩:=r8 (B8 mv) (64*i+1) c (kH.hd c (kV ps) x);rw[wt];refine⟨λt v h=>?_,λn cs h=>?_⟩
  · rw[kO]at h;split at h
    · cases h;exact vQ λd hd=>(k4 d hd).mono λn hn=>pA hn
    · exact (k1 t v h).mono λn hn=>oO hn
  · rcases mem_append.1 h with h|h
    · exact absurd h (k3 n cs)
    · exact λd hd=>(k2 n cs h d hd).mono λn hn=>oO hn
 | .ptr c own::ps,i,x=>by
  obtain⟨k1,k2⟩:=rk ps (i+1) (kH.tl c (kV ps) x);obtain⟨k3,k4⟩:=r8 own (64*i+2) c (kH.hd c (kV ps) x);rw[wu];refine⟨λt v h=>?_,λn cs h=>?_⟩
  · rw[kO]at h;split at h
    · cases h;intro n hn;simp[Cell.refs]at hn;subst hn;exact sL
    · exact (k1 t v h).mono λn hn=>lQ.2 (.inr (oO hn))
  · rcases mem_cons.1 h with h|h
    · cases h;exact λd hd=>(k4 d hd).mono λn hn=>lQ.2 (.inr (pA hn))
    · rcases mem_append.1 h with h|h
      · exact absurd h (k3 n cs)
      · exact λd hd=>(k2 n cs h d hd).mono λn hn=>lQ.2 (.inr (oO hn))
theorem uf {F:an->Option Entry}:∀{ps:List ll} {args:List AV} {b:sF (kV ps)} {L:List an},(lG true ps args).Runs F b L->b.ro=[]
 | [],[],b,L,hr=>by obtain⟨rfl,_⟩:=hr;rfl
 | .val agg c false::ps,v::args,b,L,hr=>by
  simp only[lG]at hr;obtain⟨_,L5,L6,_,h0,hr⟩:=Rd.runs_bind hr;obtain⟨a,L1,L2,_,h1,hr⟩:=Rd.runs_bind hr;obtain⟨b',L3,L4,_,h2,hr⟩:=Rd.runs_bind hr;obtain⟨rfl,_⟩:=hr;have ih:=uf h2
  exact ih
 | .val agg c true::ps,v::args,b,L,hr=>by
  simp only[lG]at hr;obtain⟨_,L5,L6,_,h0,hr⟩:=Rd.runs_bind hr;obtain⟨a,L1,L2,_,h1,hr⟩:=Rd.runs_bind hr;obtain⟨b',L3,L4,_,h2,hr⟩:=Rd.runs_bind hr;obtain⟨rfl,_⟩:=hr;have ih:=uf h2
  exact ih
 | .ptr c own::ps,.cell (.box n 0)::args,b,L,hr=>by
  simp only[lG]at hr;obtain⟨L',_,hr⟩:=hr;dsimp only at hr;split at hr
  · obtain⟨a,L1,L2,_,h1,hr⟩:=Rd.runs_bind hr;obtain⟨b',L3,L4,_,h2,hr⟩:=Rd.runs_bind hr;obtain⟨rfl,_⟩:=hr;have ih:=uf h2
    exact ih
  · exact hr.elim
theorem rP {F:an->Option Entry} {sl:Bool}:∀{ps:List ll} {args:List AV} {b:sF (kV ps)} {L:List an},(lG sl ps args).Runs F b L->kQ b.used=true->b.ptrs.Nodup/\∀n∈b.ptrs,n∈b.used.map (·.1)
 | [],[],b,L,hr,_=>by obtain⟨rfl,_⟩:=hr;exact⟨List.nodup_nil,by simp⟩
 | .val agg c false::ps,v::args,b,L,hr,hd=>by
  simp only[lG]at hr;obtain⟨_,L5,L6,_,h0,hr⟩:=Rd.runs_bind hr;obtain⟨a,L1,L2,_,h1,hr⟩:=Rd.runs_bind hr;obtain⟨b',L3,L4,_,h2,hr⟩:=Rd.runs_bind hr;obtain⟨rfl,_⟩:=hr;obtain⟨k1,k2⟩:=rP h2 (lT hd).2.1;exact⟨k1,λn hn=>by rw[map_append];exact mem_append_right _ (k2 n hn)⟩
 | .val agg c true::ps,v::args,b,L,hr,hd=>by
  simp only[lG]at hr;obtain⟨_,L5,L6,_,h0,hr⟩:=Rd.runs_bind hr;obtain⟨a,L1,L2,_,h1,hr⟩:=Rd.runs_bind hr;obtain⟨b',L3,L4,_,h2,hr⟩:=Rd.runs_bind hr;obtain⟨rfl,_⟩:=hr;obtain⟨k1,k2⟩:=rP h2 (lT hd).2.1;exact⟨k1,λn hn=>by rw[map_append];exact mem_append_right _ (k2 n hn)⟩
 | .ptr c own::ps,.cell (.box n 0)::args,b,L,hr,hd=>by
  simp only[lG]at hr;obtain⟨L',_,hr⟩:=hr;dsimp only at hr;split at hr
  · obtain⟨a,L1,L2,_,h1,hr⟩:=Rd.runs_bind hr;obtain⟨b',L3,L4,_,h2,hr⟩:=Rd.runs_bind hr;obtain⟨rfl,_⟩:=hr;obtain⟨d1,d2⟩:=m9 hd;obtain⟨k1,k2⟩:=rP h2 (lT d2).2.1;refine⟨List.nodup_cons.2 ⟨λhn=>d1 (by rw[map_append];exact mem_append_right _ (k2 n hn)),k1⟩,λm hm=>?_⟩;rcases mem_cons.1 hm with rfl|hm
    · simp
    · simp only[List.map_cons,map_append];exact mem_cons_of_mem _ (mem_append_right _ (k2 m hm))
  · exact hr.elim
theorem vV {used:List (an×Entry)} {g1 g2 gc gf:Gh} {D D':an->Prop} {wc wf:World} (hd:kQ used=true) (hloc:∀n,g2.loc n=g.loc n) (hle:Le D gc wc D' gf wf):∀{ps:List ll} {i:Nat} {vals:List Value} {nm:List an} {bs:List Nat},nY en g used ps vals nm->qz D gc i ps vals->zf gf i ps bs ->
 kM (zh (used++en) g2) nm bs
 | [],i,vals,nm,bs,h1,_,h3=>by obtain rfl:=h1;obtain rfl:=h3;exact trivial
 | .val .. :: ps,i,v::vals,nm,bs,h1,h2,h3=>vV (ps:=ps) (i:=i+1) (vals:=vals) (g1:=g1) hd hloc hle h1 h2 h3
 | .ptr .. :: ps,i,v::vals,nm,bs,h1,h2,h3=>by
  obtain⟨n,ns',rfl,k1,k2,k3,k4⟩:=h1;obtain⟨⟨l1,l2⟩,l3⟩:=h2;obtain⟨b,bs',rfl,m1,m2⟩:=h3;refine⟨⟨?_,?_⟩,vV (g1:=g1) hd hloc hle k4 l3 m2⟩
  · rw[ov (mem_map_of_mem k1:n∈used.map (·.1))];exact mu hd k1
  · rw[hloc,k3,←l2,←hle.loc _ l1];exact m1
 | .val .. :: _,_,[],_,_,_,h2,_=>h2.elim
 | .ptr .. :: _,_,[],_,_,_,h2,_=>h2.elim
theorem A3 {D:an->Prop} {l:List AV} {rvals:List Value} (h:kM (lZ D g w) l rvals):lk D g w (sm l) (xC rvals):=by
 have h0:∀{x:AV} {v:Value},lZ D g w x v->lk D g w x v:=by
  intro x v h;cases x with
  | cell c=>exact h
  | agg cs=>exact h
  | tup l=>exact h.elim
 match l,rvals,h with
 | [],[],_=>exact⟨#[],rfl,trivial⟩
 | [x],[v],h=>exact h0 h.1
 | x::y::l,v::u::r,h=>exact⟨(v::u::r).toArray,rfl,h⟩
theorem MS.begin (g:Gh) (Tc Nc:Nat->Prop) (h1:∀b,g.I b->b<w.heap.size) (h2:∀b,g.I b->yM w Nc b) (hs:∀b,Tc b->soft w b):MS w Tc Nc [] g w :=
 ⟨⟨(λn e h=>by cases h),(λn m e f b h=>by cases h),(λn e b h=>by cases h),(λn m e f h=>by cases h),h1,λn h=>absurd rfl h,(λn e b h=>by cases h)⟩,
  ⟨rfl,rfl,rfl,Nat.le_refl _,λb _ _=>rfl,(λn e b h=>by cases h),(λn e b h=>by cases h),λb hb=>.inr (.inr (h2 b hb)),(λn e b h=>by cases h),λb hb=>hb.elim (λhl c t lo hi hc=>by have:=rD hc;omega) (hs b)⟩⟩
theorem MS.start (Ic:Nat->Prop) (Tc Nc:Nat->Prop) (h1:∀b,Ic b->b<w.heap.size) (h2:∀b,Ic b->yM w Nc b) (hs:∀b,Tc b->soft w b):MS w Tc Nc [] ⟨Ic,λ_=>.slice none 0 0,λ_=>0,λ_=>none,λ_=>[],λ_=>[]⟩ w :=
 MS.begin _ Tc Nc h1 h2 hs
end Go.V
namespace Go.V
variable {P:Program} {G:lR} {w0:World} {T N:Nat->Prop} {en E:List (an×Entry)} {g g':Gh} {w w':World} {I:Nat->Prop} {nt:Nat} {ann:List (Nat×kL)}

theorem Bx {ps:List ll} {rs:List m6} {used:List (an×Entry)} {ro nm:List an} {ts ns:List Nat} {vals:List Value} {D:an->Prop} {gc gf:Gh} {Sf:St} {g1:Gh} {Tc Nc:Nat->Prop} {Ic:Nat->Prop} {uid:an}
 (hM:MS w0 T N en g w) (hu:mp en used) (hd:kQ used=true) (hro:∀n∈ro,kF used n=none) (hsl:nx ps rs=true->ro=[])
 (hM1:MS w0 T N (used++en) g1 w) (hle1:Le (dom en) g w (dom (used++en)) g1 w) (e1:g1.loc=g.loc) (e3:g1.top=g.top) (e4:g1.nest=g.nest) (hI1:∀b,g1.I b↔g.I b\/∃p∈used,(∃e xs,p.2=.fwd e xs)/\g.top p.1=some b)
 (hts:ts=mi g used) (hns:ns=mj en g used) (hIc:∀b,Ic b↔g1.I b\/∃n∈ro,∃f,kF en n=some f/\f.alive=true/\g.top n=some b) (hTc:∀b,Tc b↔b∈ts) (hNc:∀b,Nc b↔b∈ns\/∃c,b=w.heap.size+c/\Ic c)
 (hnames:nY en g used ps vals nm) (hnd:nm.Nodup) (hploc:qz D gc 0 ps vals) (hgc:gc.I=Ic) (hMf:MS w Tc Nc Sf.en gf w') (hle:Le D gc w (dom Sf.en) gf w')
 {vs:List AV} {rvals:List Value} {r:kH (lK ps rs)} {ents:List (an×Entry)} {L:List an} (hrv:kM (lk (dom Sf.en) gf w') vs rvals) (hok:qH rs vs=true) (hto:(qc 0 ps rs vs).Runs (kF Sf.en) (r,ents) L) (hde:kQ ents=true)
 (hdist:kQ (kN uid ps rs nm r).news=true) (hnew:∀p∈(kN uid ps rs nm r).news,kF en p.1=none) :
 ∃g',MS w0 T N ((kN uid ps rs nm r).news++((kN uid ps rs nm r).upds++used)++en) g' w'/\Le (dom en) g w (dom ((kN uid ps rs nm r).news++((kN uid ps rs nm r).upds++used)++en)) g' w' /\
  lk (dom ((kN uid ps rs nm r).news++((kN uid ps rs nm r).upds++used)++en)) g' w' (sm (kN uid ps rs nm r).vals) (xC rvals):=by
 have hM1I:∀b,g1.I b->b<w.heap.size:=hM1.mem.old;have htsU:∀b∈ts,b<w.heap.size/\¬g1.I b/\∃p∈used,p.2=.gone/\g.top p.1=some b:=by
  intro b hb;rw[hts]at hb;obtain⟨p,hp,hpg,hpt⟩:=qe hb;obtain⟨f,hf,hfa⟩:=lX hu hp;refine⟨(hM.mem.rep p.1 f hf).top_lt hfa hpt,λhI=>?_,p,hp,hpg,hpt⟩;rcases (hI1 b).1 hI with h|⟨q,hq,⟨e,xs,hqe⟩,hqt⟩
  · exact hM.mem.topI p.1 f b hf hfa hpt h
  · obtain⟨f',hf',hfa'⟩:=lX hu hq;have:=hM.mem.apart p.1 q.1 f f' b hf hf' hfa hfa' hpt hqt
    have h1:=mu hd hp;have h2:=mu hd hq
    rw[this,h2]at h1;rw[hpg,hqe]at h1;cases h1
 have hnsU:∀b∈ns,g.I b/\∃p∈used,(∃e xs,kF en p.1=some (.root e true xs))/\b∈g.nest p.1:=by
  intro b hb;rw[hns]at hb;obtain⟨p,hp,hpg,hpr,hpt⟩:=sU hb;obtain⟨e,xs,hn⟩:=rO hu hp hpg hpr;obtain⟨_,_,hI,_⟩:=lB hM.mem hn;exact⟨hI b hpt,p,hp,⟨e,xs,hn⟩,hpt⟩
 have hgI:∀b,g.I b->g1.I b:=λb hb=>(hI1 b).2 (.inl hb);have halive:∀n f,kF (used++en) n=some f->f.alive=true->kF en n=some f/\n∉used.map (·.1):=by
  intro n f hf ha;by_cases hn:n∈used.map (·.1)
  · exfalso;rw[ov hn]at hf;have hp:=lw hf
    rcases hu (n,f) hp with ⟨h,_⟩|⟨h,_⟩|⟨e,m,xs,_,h⟩
    · have h:f=.gone:=h;subst h;cases ha
    · have h:f=.gone:=h;subst h;cases ha
    · have h:f=.fwd e xs:=h;subst h;cases ha
  · rw[lH hn]at hf;exact⟨hf,hn⟩
 have hlent:∀b,(∃n∈ro,∃f,kF en n=some f/\f.alive=true/\g.top n=some b)->b<w.heap.size/\b∉ts/\¬g1.I b:=by
  rintro b ⟨n,hn,f,hf,hfa,ht⟩;have hnu:n∉used.map (·.1):=λhm=>by
   have:=hro n hn;exact absurd (oz.1 hm) (by rw[this];simp)
  refine⟨(hM.mem.rep n f hf).top_lt hfa ht,λhb=>?_,λhI=>?_⟩
  · obtain⟨_,_,p,hp,_,hpt⟩:=htsU b hb;obtain⟨f',hf',hfa'⟩:=lX hu hp;have:=hM.mem.apart n p.1 f f' b hf hf' hfa hfa' ht hpt
    exact hnu (this▸mem_map_of_mem hp)
  · rcases (hI1 b).1 hI with h|⟨q,hq,_,hqt⟩
    · exact hM.mem.topI n f b hf hfa ht h
    · obtain⟨f',hf',hfa'⟩:=lX hu hq;have:=hM.mem.apart n q.1 f f' b hf hf' hfa hfa' ht hqt
      exact hnu (this▸mem_map_of_mem hq)
 have haliveT:∀n f b,kF (used++en) n=some f->f.alive=true->g1.top n=some b->b<w.heap.size/\b∉ts/\¬g1.I b:=by
  intro n f b hf ha ht;obtain⟨hfe,hnu⟩:=halive n f hf ha;rw[e3]at ht;refine⟨(hM.mem.rep n f hfe).top_lt ha ht,λhb=>?_,λhI=>hM1.mem.topI n f b hf ha (by rw[e3];exact ht) hI⟩;obtain⟨_,_,p,hp,_,hpt⟩:=htsU b hb;obtain⟨f',hf',hfa'⟩:=lX hu hp;have:=hM.mem.apart n p.1 f f' b hfe hf' ha hfa' ht hpt
  exact hnu (this▸mem_map_of_mem hp)
 have htree:∀n f,kF (used++en) n=some f->f.isTree=true->kF en n=some f/\n∉used.map (·.1):=by
  intro n f hf ha;by_cases hn:n∈used.map (·.1)
  · exfalso;rw[ov hn]at hf;have hp:=lw hf
    rcases hu (n,f) hp with ⟨h,_⟩|⟨h,_⟩|⟨e,m,xs,_,h⟩
    · have h:f=.gone:=h;subst h;cases ha
    · have h:f=.gone:=h;subst h;cases ha
    · have h:f=.fwd e xs:=h;subst h;cases ha
  · rw[lH hn]at hf;exact⟨hf,hn⟩
 have htreeT:∀n f b,kF (used++en) n=some f->f.isTree=true->b∈g1.nest n->b<w.heap.size/\b∉ts:=by
  intro n f b hf ht hb;obtain⟨hfe,hnu⟩:=htree n f hf ht;rw[e4]at hb;refine⟨ub (hM.mem.rep n f hfe) ht hb,λhbt=>?_⟩;obtain⟨_,_,p,hp,_,hpt⟩:=htsU b hbt;obtain⟨f',hf',hfa'⟩:=lX hu hp;exact (hM.mem.wood n f b hfe ht hb).2.1 p.1 f' hf' hfa' hpt
 let I3:Nat->Prop:=λb=>gf.I b\/∃p∈ents,(∃e xs,p.2=.fwd e xs)/\gf.top p.1=some b
 obtain⟨bs,houts,hue,hbl⟩:=qB (I:=I3) hMf.mem hrv hok hto (used:=ents) ⟨λb hb=>.inl hb,λp hp e xs he b hb=>.inr ⟨p,hp,⟨e,xs,he⟩,hb⟩,λn hn=>by simp at hn⟩ (λp hp=>hp);obtain⟨g3,hM3,hle3,_,_,e33,e34,hI3⟩:=hMf.useAny hue hde;have hI3':∀b,I3 b↔g3.I b:=λb=>(hI3 b).symm
 have houts:oy I3 w' ps rs r bs rvals (mi gf ents) (mj Sf.en gf ents):=houts;have hsize:=hMf.since.size
 have hmem:∀b,b<w.heap.size->b∉ts->w'.heap[b]?=w.heap[b]?:=λb hb hn=>hMf.since.mem b hb λhT=>hn ((hTc b).1 hT);have himm:∀b,I3 b->w.heap.size<=b\/b∈ts\/Ic b:=by
  intro b hb;rcases hM3.since.imm b ((hI3' b).1 hb)with h|h|h
  · exact .inl h
  · exact .inr (.inl ((hTc b).1 h))
  · rcases (hNc _).1 h with h|⟨c,hc,hI⟩
    · have:=hM1I _ (hgI _ (hnsU _ h).1);omega
    · obtain rfl:b=c:=by omega
      exact .inr (.inr hI)
 let lent:Nat->Prop:=λb=>∃n∈ro,∃f,kF en n=some f/\f.alive=true/\g.top n=some b
 let J:Nat->Prop:=λb=>I3 b/\¬lent b
 obtain⟨hM2,hle2⟩:=hM1.world (w':=w') (λb hb=>hmem b (hM1I b hb) λht=>(htsU b ht).2.1 hb) (λn f b hf ha hb=>hmem b (haliveT n f b hf ha hb).1 (haliveT n f b hf ha hb).2.1) hMf.since.os hMf.since.out hMf.since.tape hsize
  (λb hb hT=>hmem b (Nat.lt_of_lt_of_le hb hM1.since.size) λht=>by
   obtain⟨_,_,p,hp,_,hpt⟩:=htsU b ht;obtain⟨f,hf,hfa⟩:=lX hu hp;rcases hM.since.tops p.1 f b hf hfa hpt with h|h
   · omega
   · exact hT h)
  (λn f b hf ht hb=>by
   obtain⟨k1,k2⟩:=htreeT n f b hf ht hb;exact hmem b k1 k2) (λb hb=>by
   rcases Nat.lt_or_ge b w.heap.size with hl|hl
   · by_cases ht:b∈ts
     · exact hMf.since.soft b (.inr ((hTc b).2 ht))
     · exact (hM1.since.soft b hb).of_same (hmem b hl ht)
   · exact hMf.since.soft b (.inl hl))
 have htsT:∀b∈ts,w0.heap.size<=b\/T b:=by
  intro b hb;obtain⟨_,_,p,hp,_,hpt⟩:=htsU b hb;obtain⟨f,hf,hfa⟩:=lX hu hp;exact hM.since.tops p.1 f b hf hfa hpt
 obtain⟨hM4,hle4⟩:=hM2.freeze J (λb hb=>hM3.mem.old b ((hI3' b).1 hb.1))
  (λn f b hf ha hb hJ=>by
   obtain⟨k1,k2,k3⟩:=haliveT n f b hf ha hb;rcases himm b hJ.1 with h|h|h
   · omega
   · exact k2 h
   · rcases (hIc b).1 h with h|h
     · exact k3 h
     · exact hJ.2 h)
  (λn f b hf ht hb hJ=>by
   obtain⟨k1,k2⟩:=htreeT n f b hf ht hb;rcases himm b hJ.1 with h|h|h
   · omega
   · exact k2 h
   · rcases (hIc b).1 h with h|h
     · exact (hM1.mem.wood n f b hf ht hb).1 h
     · exact hJ.2 h)
  (λb hJ=>by
   rcases himm b hJ.1 with h|h|h
   · exact .inl (Nat.le_trans hM1.since.size h)
   · exact (htsT b h).imp id .inl
   · rcases (hIc b).1 h with h|h
     · exact hM1.since.imm b h
     · exact absurd h hJ.2)
 let g2:Gh:={ g1 with I:=λb=>g1.I b\/J b }
 have hts3:∀b∈mi gf ents,¬I3 b/\(w.heap.size<=b\/b∈ts):=by
  intro b hb;obtain⟨p,hp,hpg,hpt⟩:=qe hb;obtain⟨f,hf,hfa⟩:=lX hue hp;refine⟨λhI=>?_,(hMf.since.tops p.1 f b hf hfa hpt).imp id (hTc b).1⟩;rcases hI with h|⟨q,hq,⟨e,xs,hqe⟩,hqt⟩
  · exact hMf.mem.topI p.1 f b hf hfa hpt h
  · obtain⟨f',hf',hfa'⟩:=lX hue hq;have:=hMf.mem.apart p.1 q.1 f f' b hf hf' hfa hfa' hpt hqt
    have h1:=mu hde hp;have h2:=mu hde hq
    rw[this,h2]at h1;rw[hpg,hqe]at h1;cases h1
 have hns3:∀b∈mj Sf.en gf ents,w.heap.size<=b\/b∈ts\/b∈ns:=by
  intro b hb;obtain⟨p,hp,hpg,hpr,hpt⟩:=sU hb;obtain⟨e,xs,hn⟩:=rO hue hp hpg hpr;rcases hMf.since.nests p.1 _ b hn rfl hpt with h|h|h
  · exact .inl h
  · exact .inr (.inl ((hTc b).1 h))
  · rcases (hNc b).1 h with h|⟨c,hc,_⟩
    · exact .inr (.inr h)
    · exact .inl (by omega)
 have hIcI3:∀b,g1.I b->I3 b:=λb hb=>.inl (hle.imm b (by rw[hgc];exact (hIc b).2 (.inl hb)));have hgiv:mS w0 T N (used++en) g2 (mi gf ents++[]) (mj Sf.en gf ents++[]):=by
  rw[append_nil,append_nil];refine⟨tV hMf.mem hue hde,tW hMf.mem hue hde,λb hb=>?_,λb hb=>?_,λb hb m f hf ht hbm=>?_⟩
  rotate_left 2
  · obtain⟨k1,k2⟩:=hts3 b hb;have hbm:b∈g1.nest m:=hbm
    obtain⟨j1,j2⟩:=htreeT m f b hf ht hbm;rcases k2 with h|h
    · omega
    · exact j2 h
  · obtain⟨k1,k2⟩:=hts3 b hb;refine⟨λhI=>hI.elim (λh=>k1 (hIcI3 b h)) (λh=>k1 h.1),λm f hf ha ht=>?_,k2.elim (λh=>.inl (Nat.le_trans hM1.since.size h)) (htsT b)⟩;obtain⟨j1,j2,_⟩:=haliveT m f b hf ha ht;rcases k2 with h|h
    · omega
    · exact j2 h
  · have k2:=hns3 b hb;refine⟨λm f hf hfd hbm=>?_,?_⟩
    · obtain⟨hfe,hnu⟩:=halive m f hf (vm hfd);have hbm:b∈g.nest m:=by have:b∈g1.nest m:=hbm;rw[e4]at this;exact this
      have hbI:g.I b:=by
       cases f with
       | root e mm xs=>exact (lB hM.mem hfe).2.2.1 b hbm
       | gone=>cases hfd
       | fwd _ _=>cases hfd
       | box _=>cases hfd
       | tree _ _=>cases hfd
      rcases k2 with h|h|h
      · have:=hM1I b (hgI b hbI);omega
      · exact (htsU b h).2.1 (hgI b hbI)
      · obtain⟨_,p,hp,⟨e,xs,hn⟩,hpb⟩:=hnsU b h;have hne:m≠p.1:=λh=>hnu (h▸mem_map_of_mem hp)
        exact hM.mem.nests m p.1 f _ hfe hn hfd rfl hne b hbm hpb
    · rcases k2 with h|h|h
      · exact .inl (Nat.le_trans hM1.since.size h)
      · exact (htsT b h).imp id .inl
      · obtain⟨_,p,hp,⟨e,xs,hn⟩,hpb⟩:=hnsU b h;exact hM.since.nests p.1 _ b hn rfl hpb
 have hlentns:∀b∈mj Sf.en gf ents,¬lent b:=by
  intro b hb hl;obtain⟨j1,j2,j3⟩:=hlent b hl;rcases hns3 b hb with h|h|h
  · omega
  · exact j2 h
  · exact j3 (hgI b (hnsU b h).1)
 have houts2:oy g2.I w' ps rs r bs rvals (mi gf ents) (mj Sf.en gf ents):=by
  refine houts.shift (λb hb hI=>.inr ⟨hI,hlentns b hb⟩) ?_;cases hs:nx ps rs with
  | false=>exact .inl rfl
  | true =>
   refine .inr λb hb=>.inr ⟨hb,λ⟨n,hn,_⟩=>?_⟩;rw[hsl hs]at hn;simp at hn
 have hptr:=vV (en:=en) (g:=g) (g1:=g1) (g2:=g2) hd (λn=>congrFun e1 n) hle hnames hploc hbl;have hfresh:∀p∈(kN uid ps rs nm r).news,kF (used++en) p.1=none:=by
  intro p hp;refine qs (λhm=>?_) (hnew p hp);obtain⟨q,hq,he⟩:=mem_map.1 hm;obtain⟨f,hf,_⟩:=lX hu hq;rw[he,hnew p hp]at hf;cases hf
 obtain⟨g5,hG5,hv5⟩:=rj ps rs uid r nm bs rvals _ _ [] [] g2 hM4 hgiv houts2 hptr hnd hdist hfresh;have e5:(kN uid ps rs nm r).news++((kN uid ps rs nm r).upds++used)++en=(kN uid ps rs nm r).news++(kN uid ps rs nm r).upds++(used++en):=by simp only[append_assoc]
 rw[e5];exact⟨g5,hG5.ms,(hle1.trans (hle2.trans hle4)).trans hG5.le,A3 hv5⟩
end Go.V
namespace Go.V
variable {P:Program} {G:lR} {ann:List (Nat×kL)}

theorem zi {G:lR} {rv:List ResultVar} {ps:List ll} {rs:List m6} {S:St} {r:kH (lK ps rs)} (h:leave G rv ps rs S=some r) :
 ∃vs ents L,qG G S rv=some vs/\qH rs vs=true/\(qc 0 ps rs vs).Runs (kF S.en) (r,ents) L/\kQ ents=true:=by
 unfold leave at h;split at h
 · rename_i vs hvs;cases ho:qH rs vs with
   | false=>rw[ho]at h;cases h
   | true =>
    rw[ho]at h;simp only[cT]at h;obtain⟨y,L,h1,h2⟩:=Rd.run_some h;cases hd:kQ y.2 with
    | false=>rw[hd]at h2;cases h2
    | true =>
     rw[hd]at h2;simp only[cT,Option.some.injEq]at h2;exact⟨vs,y.2,L,hvs,ho,by rw[←h2];exact h1,hd⟩
 · cases h
theorem AO (hG : oF P G) (hm : P.follows .mixedOrders=true) {f : FuncId} {fn : Func} {c : Code} {ps : List ll} {rs : List m6} (hf : P.funcs[f]?=some fn) (hn : (fn.name == "runtime.NumGoroutine")=false) (hb : fn.body=some c) :
 rJ P f ⟨ps,rs,v7 G ann fn c ps rs⟩:=by
 refine⟨⟨fn,c,hf,hn,hb⟩,?_⟩;intro w0 T N en g w uid args vals b L r hM hargs hbind hro hden hdist hnew;simp only[aT]at hro;obtain⟨hd,hro⟩:=hro;have hro:∀n∈b.ro,kF b.used n=none:=λn hn=>by
  have:=all_eq_true.1 hro n hn;cases h:kF b.used n with
  | none=>rfl
  | some y=>rw[h]at this;cases this
 have hden:v7 G ann fn c ps rs b.args=some r:=hden;unfold v7 at hden;cases hck:(o3 fn.ntmps c&&(Nat.ble ps.length fn.ntmps&&kQ (entry 0 ps b.args).2))with
 | false=>rw[hck]at hden;cases hden
 | true =>
 rw[hck]at hden;simp only[aT,cT]at hck hden;obtain⟨hbel,_,hdis⟩:=hck
 let Ic:Nat->Prop:=λb'=>(g.I b'\/∃p∈b.used,(∃e xs,p.2=.fwd e xs)/\g.top p.1=some b')\/∃n∈b.ro,∃f,kF en n=some f/\f.alive=true/\g.top n=some b'
 obtain⟨hat,hu,hnames⟩:=rN (I:=Ic) hM.mem hargs hbind ⟨λb' hb'=>.inl (.inl hb'),λp hp e xs he b' hb'=>.inl (.inr ⟨p,hp,⟨e,xs,he⟩,hb'⟩),λn hn f b' hf ha ht=>.inr ⟨n,hn,f,hf,ha,ht⟩⟩;obtain⟨g1,hM1,hle1,e1,e2,e3,e4,hI1⟩:=hM.useAny hu hd;have hIc:∀b',Ic b'↔g1.I b'\/∃n∈b.ro,∃f,kF en n=some f/\f.alive=true/\g.top n=some b':=λb'=>by
  constructor
  · rintro (h|h)
    · exact .inl ((hI1 b').2 h)
    · exact .inr h
  · rintro (h|h)
    · exact .inl ((hI1 b').1 h)
    · exact .inr h
 let Tc:Nat->Prop:=λb'=>b'∈mi g b.used
 let Nc:Nat->Prop:=λk=>k∈mj en g b.used\/∃c,k=w.heap.size+c/\Ic c
 have hIsz:∀b',Ic b'->b'<w.heap.size:=λb' h=>by
  rcases (hIc b').1 h with h|⟨n,_,f,hf,ha,ht⟩
  · exact hM1.mem.old b' h
  · exact (hM.mem.rep n f hf).top_lt ha ht
 have hMc:=MS.start (w:=w) Ic Tc Nc hIsz (λb' h=>.inr ⟨b',rfl,h⟩) (λb' hb'=>by
  obtain⟨p,hp,hpg,hpt⟩:=qe hb';obtain⟨f,hf,hfa⟩:=lX hu hp;exact hM.since.soft b' (hM.since.tops p.1 f b' hf hfa hpt))
 have hgiv:mS w Tc Nc [] ⟨Ic,λ_=>.slice none 0 0,λ_=>0,λ_=>none,λ_=>[],λ_=>[]⟩ (mi g b.used++[]) (mj en g b.used++[]):=by
  rw[append_nil,append_nil];refine⟨tV hM.mem hu hd,tW hM.mem hu hd,λb' hb'=>⟨λhI=>?_,(λm f h=>by cases h),.inr hb'⟩,λb' hb'=>⟨(λm f h=>by cases h),.inr (.inr (.inl hb'))⟩,(λb' hb' m f h=>by cases h)⟩;obtain⟨p,hp,hpg,hpt⟩:=qe hb';obtain⟨f,hf,hfa⟩:=lX hu hp;rcases hI with (h|⟨q,hq,⟨e,xs,hqe⟩,hqt⟩)|⟨n,hn,f',hf',hfa',ht⟩
  · exact hM.mem.topI p.1 f b' hf hfa hpt h
  · obtain⟨f',hf',hfa'⟩:=lX hu hq;have:=hM.mem.apart p.1 q.1 f f' b' hf hf' hfa hfa' hpt hqt
    have h1:=mu hd hp;have h2:=mu hd hq
    rw[this,h2]at h1;rw[hpg,hqe]at h1;cases h1
  · have:=hM.mem.apart p.1 n f f' b' hf hf' hfa hfa' hpt ht;have h1:=mu hd hp
    rw[this,hro n hn]at h1;cases h1
 obtain⟨gc,hgave,hslots,hploc⟩:=sT hMc ps 0 b.args vals _ _ [] [] hgiv hat hdis;have hInv:lh w Tc Nc ⟨(entry 0 ps b.args).1,(entry 0 ps b.args).2⟩ gc w { tmps:=vals.toArray++Array.replicate (fn.ntmps-vals.toArray.size) undef,defers:=[] }:=by
  refine⟨hgave.to_nil.mem,hgave.to_nil.since,λt=>?_,rfl⟩;rcases hslots t with h|⟨k,v,x,h1,h2,h3,h4⟩
  · show lk _ _ _ (match kF (entry 0 ps b.args).1 t with|some v=>v|none=>.undef) _;rw[h];trivial
  · show lk _ _ _ (match kF (entry 0 ps b.args).1 t with|some v=>v|none=>.undef) _;rw[h3];obtain rfl:t=k:=by omega
    have hlt:t<vals.length:=(List.getElem?_eq_some_iff.1 h2).1;have:(vals.toArray++Array.replicate (fn.ntmps-vals.toArray.size) undef).getD t undef=v:=by
     have hv:=(List.getElem?_eq_some_iff.1 h2).2;have hsz':t<(vals.toArray++Array.replicate (fn.ntmps-vals.toArray.size) undef).size:=by rw[Array.size_append,List.size_toArray];omega
     unfold Array.getD;rw[dif_pos hsz'];show (vals.toArray++Array.replicate (fn.ntmps-vals.toArray.size) undef)[t]'hsz'=v
     rw[Array.getElem_append_left (by simpa using hlt)];simpa using hv
    rw[this];exact h4
 have hsz:fn.ntmps<=(vals.toArray++Array.replicate (fn.ntmps-vals.toArray.size) undef).size:=by simp;omega
 have hc0:lu ⟨(entry 0 ps b.args).1,(entry 0 ps b.args).2⟩:=by
  obtain⟨k1,k2⟩:=rk ps 0 b.args;refine⟨λt=>?_,λn cs hn=>k2 n cs (lw hn)⟩;show mP _ (match kF (entry 0 ps b.args).1 t with|some v=>v|none=>.undef)
  cases hf:kF (entry 0 ps b.args).1 t with
  | none=>exact l6 rfl
  | some v =>
   have:=k1 t v hf;cases v with
   | cell c=>exact this
   | agg cs=>exact this
   | tup l=>exact this.elim
 have key:∀(S':St) (a':Act) (w':World),At w Tc Nc fn.ntmps (dom (entry 0 ps b.args).2) gc w S' a' w'->leave G fn.results.toList ps rs S'=some r ->
  a'.defers=[]/\∃v,(results fn a'.tmps).run P w'=.ok v w'/\∃g',MS w0 T N ((kN uid ps rs b.ptrs r).news++((kN uid ps rs b.ptrs r).upds++b.used)++en) g' w' /\
   Le (dom en) g w (dom ((kN uid ps rs b.ptrs r).news++((kN uid ps rs b.ptrs r).upds++b.used)++en)) g' w' /\
   lk (dom ((kN uid ps rs b.ptrs r).news++((kN uid ps rs b.ptrs r).upds++b.used)++en)) g' w' (sm (kN uid ps rs b.ptrs r).vals) v:=by
  intro S' a' w' ⟨gf,hIf,_,hle⟩ hl;obtain⟨vs,ents,L',h1,h2,h3,h4⟩:=zi hl;obtain⟨rvals,h5,h6⟩:=tU hIf hG.tis h1;refine⟨hIf.plain,xC rvals,yf h6,?_⟩;exact Bx (Tc:=Tc) (Nc:=Nc) (Ic:=Ic) hM hu hd hro (λhs=>by rw[hs]at hbind;exact uf hbind) hM1 hle1 e1 e3 e4 hI1 rfl rfl hIc (λ_=>Iff.rfl) (λ_=>Iff.rfl) hnames (rP hbind hd).1 hploc hgave.imm hIf.ms hle h5 h2 h3 h4 hdist hnew
 refine calls_of_wp hf hb (ny hG hm c hbel hInv hsz hc0 hden ⟨λS' a' w' _ _ hat hk=>?_,(λi S' a' w' _ _ hat hk=>by cases hk),λS' a' w' _ _ hat hk=>?_⟩)
 · obtain⟨k1,v,k2,k3⟩:=key S' a' w' hat hk;exact⟨k1,v,k2,k3⟩
 · obtain⟨k1,v,k2,k3⟩:=key S' a' w' hat hk;exact⟨k1,v,k2,k3⟩
end Go.V
namespace Go.V

mutual
/-- Whole numbers lie in their kind's range; lengths are lengths. -/
def CT.wf:(c:CT)->c.den->Prop
 | .int k,n=>k.min<=n/\n<=k.max
 | .bool,_=>True
 | .str,s=>s.length<=maxLen
 | .err,_=>True
 | .sl e,xs=>xs.length<=maxLen/\∀x∈xs,Cs.wf e x
def Cs.wf:(e:Cs)->e.den->Prop
 | .one c,x=>CT.wf c x
 | .cons c r,x=>CT.wf c x.1/\Cs.wf r x.2
end
def Cs.toL:Cs->List CT | .one c=>[c] | .cons c r=>c::r.toL
theorem Cs.toL_length:∀e:Cs,e.toL.length=e.len
 | .one _=>rfl
 | .cons _ r=>by simp[Cs.toL,Cs.len,Cs.toL_length r]
def wS:List CT->List CT->Bool
 | [],[]=>true
 | c::l,d::m=>(CT.same c d).isSome&&wS l m
 | _,_=>false
theorem xD:∀{l m:List CT},wS l m=true->l=m
 | [],[],_=>rfl
 | c::l,d::m,h=>by
  simp only[wS,aT]at h;cases hs:CT.same c d with
  | none=>rw[hs]at h;cases h.1
  | some e=>obtain⟨rfl⟩:=e;rw[xD h.2]
 | [],_::_,h=>by cases h
 | _::_,[],h=>by cases h
def p9 (ti:List (Nat×kY)):List Field->Nat->Option (List CT)
 | [],_=>some []
 | f::fs,o=>cond (Nat.beq f.offset o) (match kF ti f.type with|some j=>(match p9 ti fs (o+j.cs.len)with|some l=>some (j.cs.toL++l)|none=>none)|none=>none) none
def xE (P:Program) (ti:List (Nat×kY)) (p:Nat×kY):Bool :=
 match P.underlying p.1 with
 | some (.struct fs)=>(match p9 ti fs.toList 0 with|some l=>wS l p.2.cs.toL|none=>false)
 | _=>true
def Deep (P:Program) (ti:List (Nat×kY)):Prop:=∀t i,kF ti t=some i->xE P ti (t,i)=true
theorem Deep.of_all {P:Program} {ti:List (Nat×kY)} (h:ti.all (xE P ti)=true):Deep P ti:=λt i hi=>all_eq_true.1 h _ (qd hi)
variable {P:Program} {ti:List (Nat×kY)} {w:World}
def sV (w:World) (c:CT) (v:Value):Prop:=∃x F,CT.Rep w c x v F/\(∀b∈F,b<w.heap.size)/\CT.wf c x
theorem uP:∀(e:Cs) (vs:List Value),kM (sV w) e.toL vs->∃x F,Cs.Rep w e x vs F/\(∀b∈F,b<w.heap.size)/\Cs.wf e x
 | .one c,[v],h=>by
  obtain⟨x,F,h1,h2,h3⟩:=h.1;exact⟨x,F,by simp only[Cs.Rep];exact⟨v,rfl,h1⟩,h2,by simp only[Cs.wf];exact h3⟩
 | .one c,[],h=>h.elim
 | .one c,_::_::_,h=>h.2.elim
 | .cons c r,[],h=>h.elim
 | .cons c r,v::vs,h=>by
  obtain⟨x,F,h1,h2,h3⟩:=h.1;obtain⟨y,F',k1,k2,k3⟩:=uP r vs h.2;refine⟨(x,y),F++F',by simp only[Cs.Rep];exact⟨v,vs,F,F',rfl,rfl,h1,k1⟩,λb hb=>(mem_append.1 hb).elim (h2 b) (k2 b),by simp only[Cs.wf];exact⟨h3,k3⟩⟩
theorem A4 {α:Type} {n:Nat} {R:α->List Value->List Nat->Prop} {Q:α->List Nat->Prop}:∀(m:Nat) (vs:List Value),vs.length=m*n->(∀i,i<m->∃y F,R y ((vs.drop (i*n)).take n) F/\Q y F) ->
 ∃xs F,xs.length=m/\kR n R xs vs F/\(∀x∈xs,∃G,Q x G)/\∀b∈F,∃x G,Q x G/\b∈G
 | 0,vs,h,_=>⟨[],[],rfl,⟨by simpa using h,rfl⟩,by simp,by simp⟩
 | m+1,vs,h,hr=>by
  obtain⟨y,F,h1,h2⟩:=hr 0 (by omega);rw[Nat.zero_mul,List.drop_zero]at h1;have hn:n<=vs.length:=by rw[h,Nat.add_mul];omega
  obtain⟨xs,F',k1,k2,k3,k4⟩:=A4 (n:=n) (R:=R) (Q:=Q) m (vs.drop n) (by rw[List.length_drop,h,Nat.add_mul];omega) (λi hi=>by
   obtain⟨y,F,h1,h2⟩:=hr (i+1) (by omega);exact⟨y,F,by rw[List.drop_drop];rw[Nat.add_mul,Nat.one_mul,Nat.add_comm]at h1;exact h1,h2⟩)
  refine⟨y::xs,F++F',by simp[k1],⟨vs.take n,vs.drop n,F,F',(List.take_append_drop n vs).symm,by rw[List.length_take];omega,rfl,h1,k2⟩,λx hx=>?_,λb hb=>?_⟩
  · rcases mem_cons.1 hx with rfl|hx
    · exact⟨F,h2⟩
    · exact k3 x hx
  · rcases mem_append.1 hb with hb|hb
    · exact⟨y,F,h2,hb⟩
    · exact k4 b hb
theorem rQ:∀{fs:List Field} {o:Nat} {l:List CT} {vs:List Value},p9 ti fs o=some l->vs.length=o+l.length ->
 (∀f∈fs,∀j,kF ti f.type=some j->kM (sV w) j.cs.toL ((vs.drop f.offset).take j.cs.len))->kM (sV w) l (vs.drop o)
 | [],o,l,vs,h,hl,_=>by
  cases h;rw[List.drop_of_length_le (by simpa using Nat.le_of_eq hl)];trivial
 | f::fs,o,l,vs,h,hl,hg=>by
  simp only[p9]at h;cases ho:Nat.beq f.offset o with
  | false=>rw[ho]at h;cases h
  | true =>
   rw[ho]at h;obtain rfl:=Nat.eq_of_beq_eq_true ho;cases hj:kF ti f.type with
   | none=>rw[hj]at h;cases h
   | some j =>
    rw[hj]at h;simp only[cT]at h;cases hr:p9 ti fs (f.offset+j.cs.len)with
    | none=>rw[hr]at h;cases h
    | some m =>
     rw[hr]at h;cases h;rw[List.length_append,Cs.toL_length]at hl;have h1:=hg f mem_cons_self j hj
     have h2:=rQ hr (vs:=vs) (by omega) (λf' hf'=>hg f' (mem_cons_of_mem _ hf'));have e:vs.drop f.offset=(vs.drop f.offset).take j.cs.len++vs.drop (f.offset+j.cs.len):=by
      conv=>lhs;rw[←List.take_append_drop j.cs.len (vs.drop f.offset)]
      rw[List.drop_drop]
     rw[e];exact h1.append h2
section
variable {H:Type} {enc:TypeId×Value->H} {held:Bool}
theorem nR.cells {t:Nat} {i:kY} {d:TypeInfo} {u:TypeDesc} {z:Value} (h:nR P ti t i d u z):P.cellsOf t=i.cs.len:=by
 simp[Program.cellsOf,h.info,h.size]
theorem vq {base:Nat} {a:Addr} {n:Nat} {vs:List Value} (h:w.cells? base a n=some vs):vs.length=n/\∀k,k<n->w.cell? (a.add k)=vs[k]?:=by
 unfold World.cells? at h;split at h
 · refine⟨by simpa using mapM_some_length h,λk hk=>?_⟩;exact mapM_some_get h k k (by simp[hk])
 · cases h
theorem zj {a:Addr} {v:Value} (h:w.cell? a=some v):a.spot=none/\∃c t fz,w.heap[a.block]?=some (.cells c t fz)/\c[a.off]?=some v:=by
 unfold World.cell? at h;split at h
 · rename_i c t fz hc;split at h
   · cases h
   · rename_i hs;exact⟨by
      cases hsp : a.spot with
      | none=>rfl
      | some _=>rw[hsp]at hs;simp at hs,c,t,fz,hc,h⟩
 · cases h
theorem tX (hT:mh P ti) (hD:Deep P ti):∀(fuel:Nat) (t:Nat) (i:kY) (cs:List Value) (x:DataW H×List MemPlace),kF ti t=some i->DataW.trod enc P w 0 (λ_=>true) held fuel t cs=some x->kM (sV w) i.cs.toL cs
 | 0,t,i,cs,x,hi,h=>by simp[DataW.trod]at h
 | fuel+1,t,i,cs,x,hi,h=>by
  obtain⟨d,u,z,hf⟩:=hT.facts hi;cases ha:i.agg with
  | true =>
   obtain⟨fs,hu,_⟩:=hf.agg ha;have hund:=hf.und
   rw[hu]at hund;obtain⟨xs,n,hn,_,hlen,hxs,hget⟩:=DataW.trod_struct hund h;obtain rfl:fuel=n:=by omega
   have hd:=hD t i hi;unfold xE at hd;simp only[hund]at hd;cases hdf:p9 ti fs.toList 0 with
   | none=>rw[hdf]at hd;cases hd
   | some l =>
    rw[hdf]at hd;obtain rfl:=xD hd;have hlen':cs.length=0+i.cs.toL.length:=by rw[hlen,hf.cells,Cs.toL_length];omega
    have:=rQ (w:=w) hdf hlen' (λf hfm j hj=>by
     obtain⟨k,hk,hkf⟩:=List.mem_iff_getElem.1 hfm;have hfk:fs[k]?=some f:=by rw[←hkf];simp at hk ⊢
     have hg:=hget k f hfk;have hkx:k<xs.length:=by rw[hxs];simpa using hk
     rw[List.getElem?_eq_getElem hkx]at hg;obtain⟨d',u',z',hf'⟩:=hT.facts hj;rw[hf'.cells]at hg;exact tX hT hD fuel f.type j _ _ hj hg)
    simpa using this
  | false =>
   obtain⟨c,hc,hs⟩:=hf.plain ha;rw[hc];have hund:=hf.und
   cases u<;>try (simp[lV]at hs;done)
   case bool =>
    obtain⟨b,rfl,_⟩:=DataW.trod_bool hund h;cases c<;>simp[lV]at hs;exact⟨⟨b,[],by simp only[CT.Rep];exact⟨trivial,trivial⟩,by simp,by simp only[CT.wf]⟩,trivial⟩
   case int k =>
    obtain⟨n,rfl,_,hw⟩:=DataW.trod_int hund h;cases c<;>simp[lV]at hs;obtain rfl:=nr hs;simp only[Lit.wf,aT,decide_eq_true_eq]at hw;exact⟨⟨n,[],by simp only[CT.Rep];exact⟨trivial,trivial⟩,by simp,by simp only[CT.wf];exact hw⟩,trivial⟩
   case string =>
    obtain⟨s,rfl,_,hw⟩:=DataW.trod_string hund h;cases c<;>simp[lV]at hs;refine⟨⟨s.data.toList,[],by simp only[CT.Rep];exact⟨by simp,trivial⟩,by simp,?_⟩,trivial⟩;simp only[CT.wf];rw[Array.length_toList];exact hw
   case interface ms =>
    cases c<;>simp[lV]at hs;unfold DataW.trod at h;rw[hund]at h;split at h<;>simp_all
    · exact⟨⟨false,[],by simp only[CT.Rep];exact⟨trivial,.inl ⟨trivial,trivial⟩⟩,by simp,by simp only[CT.wf]⟩,trivial⟩
    · exact⟨⟨true,[],by simp only[CT.Rep];exact⟨trivial,.inr ⟨trivial,_,_,rfl⟩⟩,by simp,by simp only[CT.wf]⟩,trivial⟩
   case slice e =>
    cases c<;>simp[lV]at hs;rename_i f;obtain⟨rfl,hs⟩:=hs;cases hj:kF ti i.elem with
    | none=>rw[hj]at hs;simp at hs
    | some j =>
     rw[hj]at hs;have hjf:j.cs=f:=by
      simp only at hs;cases hsm:Cs.same j.cs f with
      | none=>rw[hsm]at hs;cases hs
      | some q=>exact q.down
     subst hjf;obtain⟨d',u',z',hf'⟩:=hT.facts hj;rcases DataW.trod_slice hund h with ⟨rfl,_⟩|⟨a,len,cap,elems,rest,n,hn,rfl,_,_,hlc,hcap,hel,hget,hsp,_⟩
     · exact⟨⟨[],[],mX.2 (.inl ⟨⟨_,rfl⟩,rfl,rfl⟩),by simp,by simp[CT.wf]⟩,trivial⟩
     obtain rfl:fuel=n:=by omega
     obtain⟨hr1,hr2⟩:=hsp rfl;rw[hf'.cells]at hget hr2;have hpos:=Cs.len_pos j.cs
     have hall:∀k,k<cap->∃vs,w.cells? 0 (a.add (k*j.cs.len)) j.cs.len=some vs/\kM (sV w) j.cs.toL vs:=by
      intro k hk;have key:∀{y:DataW H×List MemPlace},(w.cells? 0 (a.add (k*j.cs.len)) j.cs.len).bind (DataW.trod enc P w 0 (λ_=>true) held fuel i.elem)=some y->∃vs,w.cells? 0 (a.add (k*j.cs.len)) j.cs.len=some vs/\kM (sV w) j.cs.toL vs:=by
       intro y hy;rw[Option.bind_eq_some_iff]at hy;obtain⟨vs,h1,h2⟩:=hy;exact⟨vs,h1,tX hT hD fuel i.elem j vs _ hj h2⟩
      by_cases hkl:k<len
      · have:=hget k hkl;rw[List.getElem?_eq_getElem (by omega)]at this;exact key this
      · have:=hr2 (k-len) (by omega);rw[show len+(k-len)=k by omega,List.getElem?_eq_getElem (by omega)]at this;exact key this
     by_cases hc0:cap=0
     · subst hc0;obtain rfl:len=0:=by omega
       exact⟨⟨[],[],mX.2 (.inl ⟨⟨_,rfl⟩,rfl,rfl⟩),by simp,by simp[CT.wf]⟩,trivial⟩
     obtain⟨vs0,h00,_⟩:=hall 0 (by omega);obtain⟨hl0,hg0⟩:=vq h00;have h0:w.cell? a=some (vs0[0]'(by omega)):=by
      have:=hg0 0 hpos;rw[Nat.zero_mul,List.getElem?_eq_getElem (by omega)]at this;simpa[Addr.add]using this
     obtain⟨hsp0,c,tc,fz,hcell,_⟩:=zj h0;obtain⟨b,off,sp⟩:=a;obtain rfl:sp=none:=hsp0;have hcells:∀k,k<cap->∃vs,vs.length=j.cs.len/\(∀q,q<j.cs.len->c[off+k*j.cs.len+q]?=vs[q]?)/\kM (sV w) j.cs.toL vs:=by
      intro k hk;obtain⟨vs,h1,h2⟩:=hall k hk;obtain⟨hl,hg⟩:=vq h1;refine⟨vs,hl,λq hq=>?_,h2⟩;have:=hg q hq
      rw[ml,ml]at this;rw[←this];simp only[World.cell?,hcell];simp
     have hsize:off+cap*j.cs.len<=c.size:=by
      obtain⟨vs,hl,hg,_⟩:=hcells (cap-1) (by omega);have:=hg (j.cs.len-1) (by omega)
      rw[List.getElem?_eq_getElem (by omega)]at this;have hlt:=(Array.getElem?_eq_some_iff.1 this).1
      have e:cap*j.cs.len=(cap-1)*j.cs.len+j.cs.len:=by rw[←Nat.succ_mul];congr 1;omega
      omega
     have hlensz:len*j.cs.len<=cap*j.cs.len:=Nat.mul_le_mul_right _ hlc
     let vs:=(c.toList.drop off).take (len*j.cs.len)
     have hvl:vs.length=len*j.cs.len:=by simp only[vs,List.length_take,List.length_drop,Array.length_toList];omega
     obtain⟨xs,F,hxl,hL,hQ,hFb⟩:=A4 (R:=Cs.Rep w j.cs) (Q:=λy G=>(∀b∈G,b<w.heap.size)/\Cs.wf j.cs y) len vs hvl (λk hk=>by
      obtain⟨us,hl,hg,hgood⟩:=hcells k (by omega);have e:(vs.drop (k*j.cs.len)).take j.cs.len=us:=by
       have hkk:k*j.cs.len+j.cs.len<=len*j.cs.len:=by rw[←Nat.succ_mul];exact Nat.mul_le_mul_right _ hk
       apply List.ext_getElem?;intro q;by_cases hq:q<j.cs.len
       · rw[List.getElem?_take_of_lt hq,List.getElem?_drop];simp only[vs];rw[List.getElem?_take_of_lt (by omega),List.getElem?_drop,←hg q hq,Array.getElem?_toList]
         congr 1;omega
       · rw[List.getElem?_eq_none (by rw[List.length_take];omega),List.getElem?_eq_none (by omega)]
      rw[e];obtain⟨y,G,k1,k2,k3⟩:=uP j.cs us hgood;exact⟨y,G,k1,k2,k3⟩)
     have hb:b<w.heap.size:=(Array.getElem?_eq_some_iff.1 hcell).1;refine⟨⟨xs,b::F,mX.2 (.inr ⟨b,off,cap,vs,F,?_,rfl,by omega,⟨c,tc,fz,hcell,hsize⟩,⟨c,tc,fz,hcell,?_⟩,hL⟩),λb' hb'=>?_,?_⟩,trivial⟩
     · rw[hxl]
     · rw[hvl]
     · rcases mem_cons.1 hb' with rfl|hb'
       · exact hb
       · obtain⟨y,G,⟨k1,_⟩,k2⟩:=hFb b' hb';exact k1 b' k2
     · simp only[CT.wf];exact⟨by omega,λy hy=>by obtain⟨G,_,k⟩:=hQ y hy;exact k⟩
end
end Go.V

