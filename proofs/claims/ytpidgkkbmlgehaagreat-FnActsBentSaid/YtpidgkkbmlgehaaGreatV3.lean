/- V: a run of the model's code over plain data, and that it is what the machine does. Part 3 of 4. No condition. -/
import Derived.Test.YtpidgkkbmlgehaaGreatV2
import Derived.LoopN
import Derived.Laws.Sem
open List (all_eq_true any_cons append_assoc append_nil cons_append count_append count_cons count_pos_iff flatMap_append flatMap_cons map_append mem_append mem_append_left mem_append_right mem_cons mem_cons_of_mem mem_cons_self mem_flatMap mem_map mem_map_of_mem mem_singleton pairwise_cons)
set_option linter.unusedVariables false
set_option linter.unusedSimpArgs false
namespace Go.V
variable {P:Program} {w0:World} {T N:Nat->Prop} {S:St} {g:Gh} {w w':World} {a:Act} {o:Oper} {G:xC} {uid rid:Nat} {en:List (vv×Entry)} {Q:Exit->Act->World->Prop}

def CT.Slot (E:List (vv×Entry)) (g:Gh):(c:CT)->Cell->Value->List (List Value)->Prop
 | .sl e,x,v,R=>∃r,x=.own r/\(vz E r=some .gone\/vz E r=none)/\g.loc r=v/\g.esz r=e.len/\R=[g.rows r]
 | _,_,_,R=>R=[]
def Cs.Slot (E:List (vv×Entry)) (g:Gh):(c:Cs)->List Cell->List Value->List (List Value)->Prop
 | .one c,xs,vs,R=>∃x v,xs=[x]/\vs=[v]/\CT.Slot E g c x v R
 | .cons c r,xs,vs,R=>∃x v xs' vs' R1 R2,xs=x::xs'/\vs=v::vs'/\R=R1++R2/\CT.Slot E g c x v R1/\Cs.Slot E g r xs' vs' R2
theorem Aq.one {e:Cs} {xs:List e.den} {v:Value} {F:List Nat} {rows:List Value} (h:Aq w e xs v F rows):v.oneCell'=true:=by
 obtain⟨a,c,rfl⟩:=B8 h.slRep;rfl
theorem CT.Slot.mono {E E':List (vv×Entry)} {g':Gh} (hg:∀n,g'.loc n=g.loc n/\g'.esz n=g.esz n/\g'.rows n=g.rows n) {c:CT} {x:Cell} {v:Value} {R:List (List Value)} {y:c.den} (hE:∀n∈(c.held x y).map (·.1),vz E' n=vz E n) (h:CT.Slot E g c x v R):CT.Slot E' g' c x v R:=by
 cases c with
 | sl e =>
  obtain⟨r,rfl,h1,h2,h3,h4⟩:=h;refine⟨r,rfl,?_,by rw[(hg r).1];exact h2,by rw[(hg r).2.1];exact h3,by rw[(hg r).2.2];exact h4⟩;rw[hE r (by simp[CT.held])];exact h1
 | _=>exact h
end Go.V
namespace Go.V
variable {P:Program} {w0:World} {T N:Nat->Prop} {g:Gh} {w:World} {en:List (vv×Entry)}

theorem Rd.bind_runs {α β:Type} {F:vv->Option Entry} {f:α->Rd β} {a:α} {b:β}:∀{x:Rd α} {L1 L2:List vv},x.Runs F a L1->(f a).Runs F b L2->(x.bind f).Runs F b (L1++L2)
 | .ret a',L1,L2,⟨h1,h2⟩,k=>by subst h1;subst h2;exact k
 | .fail,_,_,h,_=>h.elim
 | .get n g,L1,L2,⟨L',h1,h2⟩,k=>by subst h1;exact⟨L'++L2,rfl,Rd.bind_runs h2 k⟩
 | .opt o g,L1,L2,⟨b',h1,h2⟩,k=>⟨b',h1,Rd.bind_runs h2 k⟩
end Go.V
namespace Go.V
variable {P:Program} {w0:World} {T N:Nat->Prop} {S:St} {g:Gh} {w w':World} {a:Act} {o:Oper} {G:xC} {uid rid:Nat} {en:List (vv×Entry)} {Q:Exit->Act->World->Prop}

theorem Gp {f : FuncId} {fn : Func} {c : Code} (hf : P.funcs[f]?=some fn) (hn : (fn.name == "runtime.NumGoroutine")=false) (hb : fn.body=some c) (args : Array Value) : (callFunc f args).run P w=.ok (.enter f args) w := by
 simp only[callFunc,Sem.run_bind,run_program,Result.andThen,hf,hn];simp[hb]
theorem KB (h:wB w0 T N S g w a):∀(xs:List Operand),vT (wP (dom S.en) g w) (xs.map S.eval) (xs.map a.eval)
 | []=>trivial
 | x::xs=>⟨wJ h x,KB h xs⟩
theorem R4 (h:wB w0 T N S g w a) (hG:AW P G) {f:Operand} {args:Array Operand} {c:Call} (hc:c.callee=.value f) (hargs:c.args=args) (ho:o.op=.call c) {e:wN} {L:List vv}
 (hr:(match S.eval f with
  | .cell (.fn g caps)=>(match vz G.fns g with
   | some F=>cond G.trees .fail (EO uid F (args.toList.map S.eval++caps.map λn=>AV.cell (.box n 0)))
   | none=>.fail)
  | _=>.fail:Rd wN).Runs (vz S.en) e L) (hd:∀d,o.dst=some d->d<a.tmps.size) {K:Act->World->Prop}
 (hK:∀v w' g',wB w0 T N (S.put o.dst e) g' w' (a.put o.dst v)->Le (dom S.en) g w (dom (e.ents++S.en)) g' w'->K (a.put o.dst v) w'):o.wp P a w K Q:=by
 split at hr
 · rename_i fid caps e1;have hfv:=BZ h e1
   obtain⟨cvs,hfv,hcaps⟩:=hfv;have plain : ∀{fn : Func} {cd : Code}, P.funcs[fid]?=some fn->(fn.name == "runtime.NumGoroutine")=false->fn.body=some cd->caps=[] ->
    (Calls P fid (args.toList.map a.eval).toArray w fun
     | .returned v,w'=>∃g',MS w0 T N (e.ents++S.en) g' w'/\Le (dom S.en) g w (dom (e.ents++S.en)) g' w'/\wP (dom (e.ents++S.en)) g' w' e.val v
     | _,_=>False)->o.wp P a w K Q:=by
    intro fn cd hf hn hb hcaps0 hcalls;subst hcaps0;have hcv:cvs.toList=[]:=by
     cases hq:cvs.toList with
     | nil=>rfl
     | cons u l=>rw[hq]at hcaps;exact hcaps.elim
    unfold Oper.wp;have hrun:(execOp a.eval o).run P w=.ok (.enter fid (args.toList.map a.eval).toArray) w:=by
     simp only[execOp,ho,resolve,hc,hargs,hfv,Deferred.ofValue,Sem.run_bind,Sem.run_pure,Result.andThen,invoke];rw[Gp hf hn hb]
     congr 2
     apply Array.ext';simp[hcv]
    rw[hrun,Oper.upon_enter];refine Calls.mono hcalls λen' w' he=>?_;cases en' with
    | returned v =>
     obtain⟨g',hM,hle,hv⟩:=he;exact hK v w' g' (h.put hM hle hv hd) hle
    | panicked _=>exact he.elim
    | outgrown=>exact he.elim
   split at hr
   · rename_i F hF;cases ht:G.trees with
     | true =>
      rw[ht]at hr;exact hr.elim
     | false =>
     rw[ht]at hr;simp only[cF]at hr;obtain⟨⟨fn,cd,hf,hn,hb⟩,hmeets⟩:=hG.fns fid F hF;unfold EO at hr;obtain⟨b,L1,L2,_,h1,hr⟩:=Rd.runs_bind hr;obtain⟨_,L3,L4,_,h2,hr⟩:=Rd.runs_bind hr;obtain⟨r,hden,hr⟩:=hr;obtain⟨rfl,hdist,hnew⟩:=Aa hr;have hcs:vT (wP (dom S.en) g w) (caps.map λn=>AV.cell (.box n 0)) cvs.toList:=by
      have key:∀(l:List vv) (m:List Value),vT (λn u=>dom S.en n/\(∃b,g.loc n=.pointer (some ⟨b,0,none⟩))/\u=g.loc n) l m->vT (wP (dom S.en) g w) (l.map λn=>AV.cell (.box n 0)) m:=by
       intro l
       induction l with
       | nil=>intro m h;cases m with
        | nil=>trivial
        | cons _ _=>exact h.elim
       | cons n l ih=>intro m h;cases m with
        | nil=>exact h.elim
        | cons u m =>
         obtain⟨⟨hdn,⟨b,hb⟩,hu⟩,h'⟩:=h;exact⟨⟨hdn,b,hb,hu.trans hb⟩,ih m h'⟩
      exact key caps _ hcaps
     have hcalls:=hmeets w0 T N S.en g w uid _ _ b L1 r h.ms ((KB h args.toList).append hcs) h1 (Rd.runs_need h2).1 hden hdist hnew;unfold Oper.wp;have hrun:(execOp a.eval o).run P w=.ok (.enter fid (args.toList.map a.eval++cvs.toList).toArray) w:=by
      simp only[execOp,ho,resolve,hc,hargs,hfv,Deferred.ofValue,Sem.run_bind,Sem.run_pure,Result.andThen,invoke];rw[Gp hf hn hb]
      congr 2
      apply Array.ext';simp
     rw[hrun,Oper.upon_enter];refine Calls.mono hcalls λen' w' he=>?_;cases en' with
     | returned v =>
      obtain⟨g',hM,hle,hv⟩:=he;exact hK v w' g' (h.put hM hle hv hd) hle
     | panicked _=>exact he.elim
     | outgrown=>exact he.elim
   · exact hr.elim
 · exact hr.elim
end Go.V
namespace Go.V
variable {P:Program} {w0:World} {T N:Nat->Prop} {S:St} {g:Gh} {w w':World} {a:Act} {o:Oper} {G:xC} {uid rid:Nat} {en:List (vv×Entry)} {Q:Exit->Act->World->Prop}

theorem S4 (h:wB w0 T N S g w a) (hG:AW P G) {op:Op} (ho:o.op=op) (hp:∀c x y,op≠.pick c x y) {e:wN} {L:List vv} (hr:(yV G uid S.eval op).Runs (vz S.en) e L) (hd:∀d,o.dst=some d->d<a.tmps.size) {K:Act->World->Prop}
 (hK:∀v w' g',wB w0 T N (S.put o.dst e) g' w' (a.put o.dst v)->Le (dom S.en) g w (dom (e.ents++S.en)) g' w'->K (a.put o.dst v) w'):o.wp P a w K Q:=by
 have fin:wy P w0 T N S g w a o e->o.wp P a w K Q:=λhf=>M1 h hf hd hK;have hr0:=hr
 unfold yV at hr;split at hr
 case h_1=>obtain⟨rfl,_⟩:=hr;exact fin (LT h (.inl ho))
 case h_2=>obtain⟨rfl,_⟩:=hr;exact fin (LT h (.inr ho))
 case h_3=>exact absurd rfl (hp _ _ _)
 case h_4=>exact fin (Pp h hG.tis ho hr0)
 case h_5=>exact fin (RX h hG.tis ho hr0)
 case h_6=>exact fin (Pq h hG.tis ho hr0)
 case h_7=>exact fin (JP h hG.tis ho hr0)
 case h_8=>exact fin (QX h hG.tis ho hr0)
 case h_9=>exact fin (Po h hG.tis ho hr0)
 case h_10=>exact fin (LA h ho hr0)
 case h_11 =>
  replace hr:=wE hr;obtain⟨i,hi,hr⟩:=hr;exact fin (RV h hG.tis ho hi (λxs ys hx hy e L hr=>RZ h hG.tis hG.eqs ho hi hx hy hr) hr)
 case h_12=>exact fin (RT h ho hr0)
 case h_13=>exact fin (RU h ho hr0)
 case h_14=>exact fin (MI h hG.tis ho hr0)
 case h_15=>exact fin (Kj h hG.tis ho hr0)
 case h_16=>exact fin (Pm h hG.tis ho hr0)
 case h_17=>exact fin (Ke h hG.tis ho hr0)
 case h_18=>exact fin (Kf h hG.tis ho hr0)
 case h_19=>exact fin (Pl h hG.tis ho hr0)
 case h_20=>exact fin (MB h ho hr0)
 case h_21=>exact fin (LB h ho hr0)
 case h_22 x t =>
  replace hr:=wE hr;obtain⟨i,hi,hr⟩:=hr;cases hk:I1 i (S.eval x)with
  | false=>rw[hk]at hr;exact hr.elim
  | true=>rw[hk]at hr;exact fin (RW h ho hG.tis hi hk hr)
 case h_23=>exact fin (O3 h hG.tis ho hr0)
 case h_24=>exact fin (Jj h .min (.inl rfl) ho hr)
 case h_25=>exact fin (Jj h .max (.inr rfl) ho hr)
 case h_26=>exact R4 h hG rfl rfl ho hr hd hK
 all_goals exact hr.elim
end Go.V
namespace Go.V
variable {P:Program} {w0:World} {T N:Nat->Prop} {S:St} {g:Gh} {w w':World} {a:Act} {o:Oper} {G:xC} {uid rid:Nat} {en:List (vv×Entry)} {Q:Exit->Act->World->Prop} {ops:Array Oper}

theorem PB (h:wB w0 T N S g w a) (hG:AW P G) {e:wN} {L:List vv} (hr:(CG G uid S.eval o.op).Runs (vz S.en) e L) (hd:∀d,o.dst=some d->d<a.tmps.size) {K:Act->World->Prop}
 (hK:∀v w' g',wB w0 T N (S.put o.dst e) g' w' (a.put o.dst v)->Le (dom S.en) g w (dom (e.ents++S.en)) g' w'->K (a.put o.dst v) w'):o.wp P a w K Q:=by
 by_cases hp:∃c x y,o.op=.pick c x y
 · obtain⟨c,x,y,hp⟩:=hp;rw[hp]at hr;exact M1 h (QV h hp hr) hd hK
 · rw[Kt λc x y he=>hp ⟨c,x,y,he⟩]at hr;exact S4 h hG rfl (λc x y he=>hp ⟨c,x,y,he⟩) hr hd hK
theorem Gq (h:wB w0 T N S g w a) {j:Nat} {t:Tmp} {b:Bool} (hj:zU ops.toList j=some t) (ht:S.tmp t=.cell (.bool b)):yielded ops a.tmps j=some b:=by
 have hv:=h.tmps t;rw[ht]at hv;have hv:a.tmps.getD t undef=.bool b:=hv
 unfold zU at hj;unfold yielded;cases ho:ops[j]? with
 | none=>simp[ho]at hj
 | some p =>
  simp[ho]at hj;simp only[Option.bind_some,hj];have:a.tmps[t]?=some (.bool b):=by
   unfold Array.getD at hv;split at hv
   · rename_i hlt;rw[Array.getElem?_eq_getElem hlt];exact congrArg some hv
   · cases hv
  rw[this]
theorem KC (h:wB w0 T N S g w a) {j:Nat} {t:Tmp} (hj:zU ops.toList j=some t) (ht:S.tmp t=.cell .void):yielded ops a.tmps j=none:=by
 have hv:=h.tmps t;rw[ht]at hv;have hv:a.tmps.getD t undef=undef:=hv
 unfold zU at hj;unfold yielded;cases ho:ops[j]? with
 | none=>simp
 | some p =>
  simp[ho]at hj;simp only[Option.bind_some,hj];cases hq:a.tmps[t]? with
  | none=>rfl
  | some v =>
   have:v=undef:=by
    have hlt:=(Array.getElem?_eq_some_iff.1 hq).1;have he:=(Array.getElem?_eq_some_iff.1 hq).2
    rw[←he];simpa[Array.getD,hlt]using hv
   rw[this];rfl
theorem R5 (h:wB w0 T N S g w a) (hG:AW P G) {i:Nat} {r:BB} (hs:Ba G rid ops.toList S i o r) (hi:ops.toList[i]?=some o) (hd:∀d,o.dst=some d->d<a.tmps.size) {K:Act->World->Prop}
 (hK:∀v w' g',wB w0 T N (S.act o r) g' w' (a.put o.dst v)->Le (dom S.en) g w (dom (S.act o r).en) g' w'->K (a.put o.dst v) w'):wpOp P ops Q i K a w:=by
 have hi':ops[i]?=some o:=by simpa using hi
 unfold wpOp;simp only[hi'];cases r with
 | none =>
  obtain⟨j,want,t,hg,hj,ht⟩:=hs;have hw:Region.wanted o (yielded ops a.tmps)=false:=by
   simp only[Region.wanted,hg];rcases ht with ht|ht
   · rw[Gq h hj ht];cases want<;>rfl
   · rw[KC h hj ht];rfl
  rw[hw];simp only[Bool.false_eq_true,if_false];exact hK undef w g (h.put (e:=⟨.cell .void,[]⟩) h.ms (Le.refl _ _ _) rfl hd) (Le.refl _ _ _)
 | some r =>
  obtain⟨e,L⟩:=r;obtain⟨hwn,hr⟩:=hs;have hw:Region.wanted o (yielded ops a.tmps)=true:=by
   unfold Region.wanted;cases hg:o.guard with
   | none=>rfl
   | some q =>
    obtain⟨j,want⟩:=q;obtain⟨t,hj,ht⟩:=hwn j want hg;simp only[Gq h hj ht];cases want<;>rfl
  rw[hw];simp only[if_true];exact .inl (PB h hG hr hd hK)
end Go.V
namespace Go.V
variable {P:Program} {w0:World} {T N:Nat->Prop} {S S':St} {g:Gh} {w w':World} {a:Act} {G:xC} {rid:Nat} {Q:Exit->Act->World->Prop} {ops:Array Oper} {B:List Nat}

theorem Be:∀{l:List Oper} {i:Nat} {p:Nat×Oper},p∈yd i l->i<=p.1/\l[p.1-i]?=some p.2
 | [],i,p,h=>by simp[yd]at h
 | o::l,i,p,h=>by
  rw[yd]at h;rcases mem_cons.1 h with rfl|h
  · exact⟨Nat.le_refl _,by simp⟩
  · obtain⟨h1,h2⟩:=Be h;refine⟨by omega,?_⟩;rw[show p.1-i=(p.1-(i+1))+1 by omega];simpa using h2
theorem DL:∀(l:List Oper) (i:Nat),(yd i l).map (·.1)=List.range' i l.length
 | [],i=>rfl
 | o::l,i=>by rw[yd,List.map_cons,DL l (i+1)];rfl
theorem DM:∀(l:List Oper) (i:Nat),(yd i l).Pairwise λp q=>p.1<q.1
 | [],i=>List.Pairwise.nil
 | o::l,i=>by
  rw[yd];exact pairwise_cons.2 ⟨λq hq=>by have:=(Be hq).1;show i<q.1;omega,DM l (i+1)⟩
theorem G5:∀{l:List (Nat×Oper)},Ft ops B l=true->l.Pairwise λp q=>yF (y6 B q.1) p.1=true\/Oper.apart ops p.2 q.2=true
 | [],h=>List.Pairwise.nil
 | (i,x)::l,h=>by
  simp only[Ft,aT]at h;refine pairwise_cons.2 ⟨λq hq=>?_,G5 h.2⟩;simpa using all_eq_true.1 h.1 q hq
def At (w0:World) (T N:Nat->Prop) (nt:Nat) (D0:vv->Prop) (g0:Gh) (w1:World) (S:St) (a:Act) (w:World):Prop :=
 ∃g,wB w0 T N S g w a/\nt<=a.tmps.size/\Le D0 g0 w1 (dom S.en) g w
theorem wB.same (h:wB w0 T N S g w a) (hs:yZ S S'):wB w0 T N S' g w a:=by
 have hM:=h.ms.congr hs.en;refine⟨hM.mem,hM.since,λt=>?_,h.plain⟩;rw[←hs.tm t,←Ab hs.en];exact h.tmps t
theorem PC (a:Act) (d:Option Tmp) (v:Value):(a.put d v).tmps.size=a.tmps.size:=by
 unfold Act.put;cases d<;>simp
theorem At.sound (hG:AW P G) {nt:Nat} (hb:∀(i:Nat) o,ops.toList[i]?=some o->∀d,o.dst=some d->d<nt) {D0:vv->Prop} {g0:Gh} {w1:World}:MX P G rid ops Q (At w0 T N nt D0 g0 w1):=by
 refine⟨λS S' a w hs ⟨g,h1,h2,h3⟩=>⟨g,h1.same hs,h2,by rw[←Ab hs.en];exact h3⟩,λS i o r a w K hst hi ⟨g,h1,h2,h3⟩ hK=>?_⟩;exact R5 h1 hG hst hi (λd hd=>Nat.lt_of_lt_of_le (hb i o hi d hd) h2) λv w' g' hI hle=>hK _ _ ⟨g',hI,by rw[PC];exact h2,h3.trans hle⟩
theorem Ba.closed {i:Nat} {o:Oper} {r:BB} {l:List Oper} (h:wV S) (hs:Ba G rid l S i o r):wV (S.act o r):=by
 cases r with
 | none=>exact h.put _ (wh.pure (x:=.cell .void) (wl rfl))
 | some r=>exact h.put _ (Ku (λx=>h.eval x) h.box hs.2)
theorem wV.same (h:wV S) (hs:yZ S S'):wV S':=by
 have hd:=Ab hs.en;refine⟨λt=>by rw[←hs.tm t,←hd];exact h.tmp t,λn cs hn c hc=>?_⟩;rw[←hd];exact h.box n cs ((hs.en n).trans hn) c hc
theorem Tr.closed {l:List Oper}:∀{E:List Ev} {S S':St},wV S->Tr G rid l E S S'->wV S'
 | [],S,S',h,k=>h.same k
 | (i,o,r)::E,S,S',h,⟨k1,k2⟩=>Tr.closed (k1.closed h) k2
theorem Tr.dom {l:List Oper}:∀{E:List Ev} {S S':St},Tr G rid l E S S'->∀n,dom S.en n->dom S'.en n
 | [],S,S',k,n,hn=>by rw[←Ab (show yZ S S' from k).en];exact hn
 | (i,o,r)::E,S,S',⟨k1,k2⟩,n,hn=>by
  refine Tr.dom k2 n ?_;cases r with
  | none=>exact hn
  | some r=>exact zl _ _ n hn
theorem Hq {l:List Oper} {o:Oper} {t:Tmp} (h:t∉o.looksAt l.toArray):¬Ee l o t:=λk=>h (Kv k)
theorem At.drop {nt:Nat} {D0:vv->Prop} {g0:Gh} {w1:World} {Z:List Tmp} {FN:List vv} {S1:St} (h:At w0 T N nt D0 g0 w1 S1 a w) (hs:G3 Z FN S S1) (hc:wV S) (hd:∀n,D0 n->Go.V.dom S.en n):At w0 T N nt D0 g0 w1 S a w:=by
 obtain⟨g,h1,h2,h3⟩:=h;exact⟨g,h1.drop hs hc,h2,⟨hd,h3.loc,h3.esz,h3.imm,h3.mem,h3.rows⟩⟩

structure BJ (S S':St):Prop where
 en:∃nw,S'.en=nw++S.en
 tm:∃nt,S'.tm=nt++S.tm
theorem Og {A:Type} (hG:AW P G) (hm:P.follows .mixedOrders=true) {nt:Nat} {draw:Bool} (hb:Ak nt (.region rid ops draw)=true) (h:wB w0 T N S g w a) (hn:nt<=a.tmps.size) (hc:wV S) {ann:List (Nat×vQ)} {K:E8 A} {r:A}
 (hr:zZ G ann (.region rid ops draw) S K=some r)
 (hQ:∀S' a' w',wV S'->BJ S S'->At w0 T N nt (dom S.en) g w S' a' w'->K.n S'=some r->Q .normal a' w'):(Code.region rid ops draw).wp P Q a w:=by
 have hbel:∀(i:Nat) o,ops.toList[i]?=some o->∀d,o.dst=some d->d<nt:=by
  intro i o ho d hd;have:=all_eq_true.1 hb o (List.mem_of_getElem? ho)
  rw[hd]at this;exact Nat.lt_of_lt_of_le (Nat.lt_succ_self d) (Nat.le_of_ble_eq_true this)
 have hs:=At.sound (rid:=rid) (w0:=w0) (T:=T) (N:=N) (Q:=Q) (D0:=dom S.en) (g0:=g) (w1:=w) hG hbel;have hhere:∀{E:List Ev},E.map (λp=>(p.1,p.2.1))=yd 0 ops.toList->∀p∈E,ops.toList[p.1]?=some p.2.1:=by
  intro E hE p hp;have:=Be (AR hE hp)
  simpa using this.2
 have hfst:∀{E:List Ev},E.map (λp=>(p.1,p.2.1))=yd 0 ops.toList->E.map (·.1)=List.range ops.size:=by
  intro E hE;rw[show E.map (·.1)=(E.map (λp=>(p.1,p.2.1))).map (·.1) by rw[List.map_map];rfl,hE,DL,←List.range_eq_range'];rfl
 rw[zZ]at hr;cases hcase:(draw||ops.toList.any LS)with
 | false =>
  rw[hcase]at hr;simp only[cF]at hr;simp only[Bool.or_eq_false_iff]at hcase;obtain⟨E,S',h1,h2,h3,h4,h5⟩:=Ij hr;rw[hcase.1];refine wp_region ?_;rw[←hfst h2];exact EC hs h1 (hhere h2) ⟨g,h,hn,Le.refl _ _ _⟩ λa' w' hR=>hQ S' a' w' (Tr.closed hc h1) ⟨h4,h5⟩ hR h3
 | true =>
  rw[hcase]at hr;simp only[cT]at hr;cases hck:(Nat.blt ops.toList.length 256&&(DF 0 (cond draw (BF ops.toList []) (I6 ops.toList.length))&&cond draw (K9 ops (BF ops.toList [])) true))with
  | false=>rw[hck]at hr;cases hr
  | true =>
   rw[hck]at hr;simp only[aT,cT]at hck hr;obtain⟨c1,c2,c3⟩:=hck;have hB:EB ops.toList (cond draw (BF ops.toList []) (I6 ops.toList.length)):=EB.of (Nat.lt_of_lt_of_le (Nat.lt_succ_self _) (Nat.le_of_ble_eq_true c1)) c2
   have hin:G4 rid ops.toList (cond draw (BF ops.toList []) (I6 ops.toList.length)) [] (yd 0 ops.toList) S S [] [] [] [] :=
    ⟨⟨λt=>.inl rfl,λn _=>rfl,λn hn=>by simp at hn⟩,λt c ht=>by simp[vz]at ht,λp hp=>by simp at hp,λn hn=>by simp at hn,
     λp hp=>by simpa using (Be hp).2,λp hp t ht=>by simp at ht,λp hp=>by simp at hp,DM _ _,hc⟩
   obtain⟨E,S1',S',acc',Z',FN',nw,k1,k2,k3,⟨k4,k4'⟩,k5,k6,k7,k8,k9,k10,k11,k12⟩:=(Kz hB _ _ _ _ _ _ _ _ _ _ _ _ hr hin).out;have hend:∀a' w',At w0 T N nt (dom S.en) g w S1' a' w'->Q .normal a' w':=λa' w' hR =>
    hQ S' a' w' k4' ⟨⟨nw,k11.1⟩,k11.2⟩ (hR.drop k4 k4' λn hn=>by rw[k11.1];exact zl _ _ n hn) k1
   cases draw with
   | false =>
    refine wp_region ?_;rw[←hfst k3];exact EC hs k2 (hhere k3) ⟨g,h,hn,Le.refl _ _ _⟩ hend
   | true =>
    simp only[cT]at c3 hB k8;simp only[K9,aT]at c3;obtain⟨⟨d1,d2⟩,d3⟩:=c3;refine wp_region_any hm ?_;obtain⟨hM,hle⟩:=h.ms.drew;have hI:wB w0 T N S g w.drew a:=⟨hM.mem,hM.since,λt=>wP.mono hle (h.tmps t),h.plain⟩
    have hlen:E.length=ops.size:=by
     have:=congrArg List.length (hfst k3);simpa using this
    refine Oe hs (B:=BF ops.toList []) ⟨λi o ho b hb'=>?_,λi o ho e he heb=>?_⟩ hlen k2 ⟨by simp,hhere k3,λi hi=>?_,?_,?_,λi hi hl=>?_⟩ ⟨g,hI,hn,hle⟩ hend
    · exact Jz ops.toList [] i o ho b (by simpa using hb')
    · have hmem:(i,o)∈yd 0 ops.toList:=by
       have hi:i∈(yd 0 ops.toList).map (·.1):=by
        rw[DL,←List.range_eq_range'];exact List.mem_range.2 (List.getElem?_eq_some_iff.1 ho).1
       obtain⟨p,hp,rfl⟩:=mem_map.1 hi;have:=(Be hp).2
       rw[Nat.sub_zero,ho]at this;cases this;exact hp
      have:=all_eq_true.1 (all_eq_true.1 d2 _ hmem) e he;rw[heb]at this;simp only[Bool.not_true,Bool.false_or]at this;exact Nat.lt_of_lt_of_le (Nat.lt_succ_self _) (Nat.le_of_ble_eq_true this)
    · have:(Array.replicate ops.size false).getD i true=false:=by simp[Array.getD,hi]
      refine⟨λ_=>?_,λ_=>this⟩;have hi':i∈E.map (·.1):=by rw[hfst k3];exact List.mem_range.2 hi
      obtain⟨p,hp,he⟩:=mem_map.1 hi';exact⟨p,hp,he⟩
    · have:=DM ops.toList 0;rw[←k3,List.pairwise_map]at this;exact this
    · have hap:=G5 d3;rw[←k3,List.pairwise_map]at hap;refine (hap.and k8).imp λ{p q} ⟨h1,h2⟩=>?_;rcases h1 with h1|h1
      · exact .inl h1
      · rcases h2 with h2|h2
        · exact .inl h2
        · obtain⟨e1,e2,e3⟩:=Oper.apart_spec h1;have harr:ops.toList.toArray=ops:=by simp
          exact .inr ⟨λd hd=>Hq (by rw[harr];exact e1 d hd),λd hd=>Hq (by rw[harr];exact e3 d hd),e2,h2.wr,h2.rw,h2.ww⟩
    · simp[Array.getD,hi]at hl
end Go.V
namespace Go.V

theorem Rd.plain_some {α:Type} {S:vv->Option Entry} {a:α}:∀{x:Rd α},x.plain S=some a->∃L,x.Runs S a L
 | .ret b,h=>by simp only[Rd.plain,Option.some.injEq]at h;exact⟨[],h.symm,rfl⟩
 | .fail,h=>by simp[Rd.plain]at h
 | .get n k,h=>by
  simp only[Rd.plain]at h;obtain⟨L,hL⟩:=Rd.plain_some h;exact⟨n::L,L,rfl,hL⟩
 | .opt _ _,h=>by simp[Rd.plain]at h
def EZ (S:St) (σ:List (vv×Cell)):xp->Cell->Cell->Prop
 | .dat c,x,y=>∃a,c.quiet S.ent x=some a/\y=c.cell a
 | .own n,x,y=>y=.own n/\(n,x)∈σ/\((∃r,x=.own r)\/(∃r lo hi,x=.win r lo hi)\/x=.nil)
 | .same n,x,y=>x=.own n/\y=x
 | .box n o,x,y=>x=.box n o/\y=x
 | .nil,x,y=>x=.nil/\y=x
 | .undef,_,y=>y=.undef
 | .fn f cs,x,y=>x=.fn f cs/\y=x
def Ce (S:St) (σ:List (vv×Cell)):List xp->List Cell->List Cell->Prop
 | [],[],[]=>True
 | s::l,x::xs,y::ys=>EZ S σ s x y/\Ce S σ l xs ys
 | _,_,_=>False
variable {S:St} {σ:List (vv×Cell)}
theorem Bf {α:Type} {z:α} {A:Prop} (h:(none:Option α)=some z):A:=by cases h
theorem JR {c:CT} {l:List xp} {R:List Cs} {x:Cell} {xs:List Cell} {y:Option (vI R)}:xD S (.dat c::l) R (x::xs) y =
 (match c.quiet S.ent x,xD S l R xs y with|some a,some b=>some (vI.mk (.one c) (xO l R) a b)|_,_=>none):=rfl
theorem Eh:∀(l:List xp) (R:List Cs) (xs:List Cell) (y:Option (vI R)) (z:vI (xO l R)),xD S l R xs y=some z->(∀p∈Bn l xs,p∈σ) ->
 ∃y',y=some y'/\Ce S σ l xs (wT l R z).1/\(wT l R z).2=y':=by
 intro l
 induction l with
 | nil =>
  intro R xs y z h _;cases xs with
  | nil=>exact⟨z,h,trivial,rfl⟩
  | cons _ _=>exact Bf (show (none:Option (vI (xO [] R)))=some z from h)
 | cons s l ih =>
  intro R xs y z h hσ;cases xs with
  | nil=>cases s<;>exact Bf (show (none:Option (vI (xO _ R)))=some z from h)
  | cons x xs =>
   cases s with
   | dat c =>
    rw[JR]at h;cases h1:c.quiet S.ent x with
    | none=>rw[h1]at h;cases h
    | some a =>
     cases h2:xD S l R xs y with
     | none=>rw[h1,h2]at h;cases h
     | some b =>
      rw[h1,h2]at h;have h:vI.mk (.one c) (xO l R) a b=z:=Option.some.inj h
      subst h;obtain⟨y',e1,e2,e3⟩:=ih R xs y b h2 (λp hp=>hσ p hp);refine⟨y',e1,?_,?_⟩
      · show EZ S σ (.dat c) x (c.cell (vI.hd (.one c) (xO l R) _))/\Ce S σ l xs (wT l R (vI.tl (.one c) (xO l R) _)).1;rw[vI.tl_mk,vI.hd_mk];exact⟨⟨a,h1,rfl⟩,e2⟩
      · show (wT l R (vI.tl (.one c) (xO l R) _)).2=y';rw[vI.tl_mk];exact e3
   | own n =>
    have key:∀(hx:(∃r,x=.own r)\/(∃r lo hi,x=.win r lo hi)\/x=.nil) (h:xD S l R xs y=some z),∃y',y=some y'/\Ce S σ (.own n::l) (x::xs) (wT (.own n::l) R z).1/\(wT (.own n::l) R z).2=y':=by
     intro hx h;obtain⟨y',e1,e2,e3⟩:=ih R xs y z h (λp hp=>hσ p (mem_cons_of_mem _ hp));exact⟨y',e1,⟨⟨rfl,hσ _ mem_cons_self,hx⟩,e2⟩,e3⟩
    cases x<;>first
     | exact Bf (show (none:Option (vI (xO _ R)))=some z from h)
     | exact key (.inl ⟨_,rfl⟩) h
     | exact key (.inr (.inl ⟨_,_,_,rfl⟩)) h
     | exact key (.inr (.inr rfl)) h
   | same n =>
    cases x<;>try exact Bf (show (none:Option (vI (xO _ R)))=some z from h)
    rename_i m;have h':cond (Nat.beq n m) (xD S l R xs y) none=some z:=h
    cases hnm:Nat.beq n m with
    | false=>rw[hnm]at h';cases h'
    | true =>
     rw[hnm]at h';clear h;obtain rfl:=Nat.eq_of_beq_eq_true hnm;obtain⟨y',e1,e2,e3⟩:=ih R xs y z h' (λp hp=>hσ p hp);exact⟨y',e1,⟨⟨rfl,rfl⟩,e2⟩,e3⟩
   | box n o =>
    cases x<;>try exact Bf (show (none:Option (vI (xO _ R)))=some z from h)
    rename_i m p;have h':cond (Nat.beq n m&&Nat.beq o p) (xD S l R xs y) none=some z:=h
    cases hnm:(Nat.beq n m&&Nat.beq o p)with
    | false=>rw[hnm]at h';cases h'
    | true =>
     rw[hnm]at h';clear h;simp only[aT]at hnm;obtain rfl:=Nat.eq_of_beq_eq_true hnm.1;obtain rfl:=Nat.eq_of_beq_eq_true hnm.2;obtain⟨y',e1,e2,e3⟩:=ih R xs y z h' (λp hp=>hσ p hp);exact⟨y',e1,⟨⟨rfl,rfl⟩,e2⟩,e3⟩
   | nil =>
    cases x<;>try exact Bf (show (none:Option (vI (xO _ R)))=some z from h)
    obtain⟨y',e1,e2,e3⟩:=ih R xs y z h (λp hp=>hσ p hp);exact⟨y',e1,⟨⟨rfl,rfl⟩,e2⟩,e3⟩
   | undef =>
    obtain⟨y',e1,e2,e3⟩:=ih R xs y z h (λp hp=>hσ p hp);exact⟨y',e1,⟨rfl,e2⟩,e3⟩
   | fn f cs =>
    cases x<;>try exact Bf (show (none:Option (vI (xO _ R)))=some z from h)
    rename_i g ds;have h':cond (Nat.beq f g&&(cs==ds)) (xD S l R xs y) none=some z:=h
    cases hnm:(Nat.beq f g&&(cs==ds))with
    | false=>rw[hnm]at h';cases h'
    | true =>
     rw[hnm]at h';clear h;simp only[aT]at hnm;obtain rfl:=Nat.eq_of_beq_eq_true hnm.1;obtain rfl:=eq_of_beq hnm.2;obtain⟨y',e1,e2,e3⟩:=ih R xs y z h' (λp hp=>hσ p hp);exact⟨y',e1,⟨⟨rfl,rfl⟩,e2⟩,e3⟩
def F9 (S:St) (σ:List (vv×Cell)) (l:List (Nat×Bool×List xp)) (tm:List (Nat×AV)) (t:Nat):Prop :=
 match vz l t with
 | none=>vz tm t=none
 | some (agg,ss)=>CF agg (S.tmp t)=true/\∃cs,vz tm t=some (zY agg cs)/\Ce S σ ss (S.tmp t).cells cs
theorem G6:∀{l:List (Nat×Bool×List xp)} {R:List Cs} {y:Option (vI R)} {z:vI (BN l R)},Dv S l R y=some z->(∀p∈C7 S l,p∈σ) ->
 ∃y',y=some y'/\(∀t,F9 S σ l (zt l R z).1 t)/\(zt l R z).2=y'
 | [],R,y,z,h,_=>⟨z,h,λt=>rfl,rfl⟩
 | (t,agg,ss)::l,R,y,z,h,hσ=>by
  have h':cond (CF agg (S.tmp t)) (xD S ss (BN l R) (S.tmp t).cells (Dv S l R y)) none=some z:=h;cases hag:CF agg (S.tmp t)with
  | false=>rw[hag]at h';cases h'
  | true =>
   rw[hag]at h';clear h;have h:xD S ss (BN l R) (S.tmp t).cells (Dv S l R y)=some z:=h'
   obtain⟨y1,e1,e2,e3⟩:=Eh _ _ _ _ _ h (λp hp=>hσ p (mem_append_left _ hp));obtain⟨y2,k1,k2,k3⟩:=G6 e1 (λp hp=>hσ p (mem_append_right _ hp));refine⟨y2,k1,λu=>?_,?_⟩
   · unfold F9;simp only[zt];rw[vY,vY];by_cases htu:t=u
     · subst htu;simp only[if_true];exact⟨hag,_,rfl,e2⟩
     · simp only[if_neg htu];have:=k2 u
       unfold F9 at this;rw[e3];exact this
   · simp only[zt];rw[e3];exact k3
def AS (S:St) (σ:List (vv×Cell)) (l:List (vv×zd)) (en:List (vv×Entry)) (n:vv):Prop :=
 match vz l n with
 | none=>vz en n=none
 | some (.root e m)=>∃x xs,vz σ n=some x/\zk S e m x=some xs/\vz en n=some (.root e m xs)
 | some (.keep e m)=>∃xs,zk S e m (.own n)=some xs/\vz en n=some (.root e m xs)
 | some (.box ss)=>∃cs cs',vz S.en n=some (.box cs)/\vz en n=some (.box cs')/\Ce S σ ss cs cs'
 | some (.tree e)=>∃xs,vz S.en n=some (.tree e xs)/\vz en n=some (.tree e xs)
theorem JS {e:Cs} {n:vv} {xs:List e.den} (h:Hx S e n=some xs):vz S.en n=some (.tree e xs):=by
 unfold Hx at h;split at h
 · rename_i f ys hn;split at h
   · rename_i hh _;subst hh;cases h;exact hn
   · cases h
 · cases h
theorem As:∀{l:List (vv×zd)} {z:vI (xn l)},zT S σ l=some z->(∀p∈Af S l,p∈σ)->∀n,AS S σ l (yW l z) n
 | [],z,h,_,n=>rfl
 | (m,.root e d)::l,z,h,hσ,n=>by
  simp only[zT]at h;split at h
  · rename_i x hx;split at h
    · rename_i a b h1 h2;cases h;have ih:=As h2 hσ n
      unfold AS at ih ⊢;simp only[yW];rw[vY,vY,vI.tl_mk,vI.hd_mk];by_cases hmn:m=n
      · subst hmn;simp only[if_true];exact⟨x,a,hx,h1,rfl⟩
      · simp only[if_neg hmn];exact ih
    · cases h
  · cases h
 | (m,.keep e d)::l,z,h,hσ,n=>by
  simp only[zT]at h;split at h
  · rename_i a b h1 h2;cases h;have ih:=As h2 hσ n
    unfold AS at ih ⊢;simp only[yW];rw[vY,vY,vI.tl_mk,vI.hd_mk];by_cases hmn:m=n
    · subst hmn;simp only[if_true];exact⟨a,h1,rfl⟩
    · simp only[if_neg hmn];exact ih
  · cases h
 | (m,.tree e)::l,z,h,hσ,n=>by
  simp only[zT]at h;split at h
  · rename_i a b h1 h2;cases h;have ih:=As h2 hσ n
    unfold AS at ih ⊢;simp only[yW];rw[vY,vY,vI.tl_mk,vI.hd_mk];by_cases hmn:m=n
    · subst hmn;simp only[if_true];exact⟨a,JS h1,rfl⟩
    · simp only[if_neg hmn];exact ih
  · cases h
 | (m,.box ss)::l,z,h,hσ,n=>by
  simp only[zT]at h;cases hcs:S.ent m with
  | none=>rw[hcs]at h;cases h
  | some ec =>
  rw[hcs]at h;cases ec with
  | tree=>cases h
  | gone=>cases h
  | fwd _ _=>cases h
  | root _ _ _=>cases h
  | box cs =>
   simp only at h;obtain⟨y',e1,e2,e3⟩:=Eh _ _ _ _ _ h (λp hp=>hσ p (by
    simp only[Af];rw[hcs];exact mem_append_left _ hp))
   have ih:=As e1 (λp hp=>hσ p (mem_append_right _ hp)) n;unfold AS at ih ⊢;simp only[yW];rw[vY,vY,e3];by_cases hmn:m=n
   · subst hmn;simp only[if_true];exact⟨cs,_,hcs,rfl,e2⟩
   · simp only[if_neg hmn];exact ih
theorem DN:∀{l:List (vv×Cell)},zu l=true->l.Pairwise λp q=>(q.1=p.1->GX p.2 q.2=true)/\(q.1≠p.1->AH p.2 q.2=true)
 | [],_=>List.Pairwise.nil
 | (n,x)::l,h=>by
  simp only[zu,aT]at h;refine pairwise_cons.2 ⟨λq hq=>?_,DN h.2⟩;have:=all_eq_true.1 h.1 q hq
  cases hb:Nat.beq q.1 n with
  | true =>
   rw[hb]at this;exact⟨λ_=>this,λhne=>absurd (Nat.eq_of_beq_eq_true hb) hne⟩
  | false =>
   rw[hb]at this;exact⟨λhe=>by subst he;simp at hb,λ_=>this⟩
theorem MY {x y:Cell} (h:GX x y=true):∃r,x=.own r/\y=.own r:=by
 cases x<;>cases y<;>simp[GX]at h;exact⟨_,rfl,by rw[h]⟩
theorem Ik:∀{l:List (vv×Cell)},zu l=true->∀{n:vv} {x:Cell},(n,x)∈l->∃y,vz l n=some y/\(x=y\/∃r,x=.own r/\y=.own r)
 | [],_,n,x,h=>by simp at h
 | (m,y)::l,hs,n,x,h=>by
  rw[vY];by_cases hmn:m=n
  · subst hmn;rw[if_pos rfl];rcases mem_cons.1 h with h|h
    · cases h;exact⟨_,rfl,.inl rfl⟩
    · obtain⟨r,e1,e2⟩:=MY (((pairwise_cons.1 (DN hs)).1 (m,x) h).1 rfl);exact⟨y,rfl,.inr ⟨r,e2,e1⟩⟩
  · rw[if_neg hmn];rcases mem_cons.1 h with h|h
    · cases h;exact absurd rfl hmn
    · simp only[zu,aT]at hs;exact Ik hs.2 h
theorem Ei {x y:Cell} (h:AH x y=true) {r:vv} (hx:zg x=some r):zg y≠some r:=by
 intro hy;simp[AH,hx,hy]at h
theorem Il {x y:Cell} (h:AH x y=true):AH y x=true:=by
 have e:∀a b,AH a b=(match zg a,zg b with|some r,some s=>!(Nat.beq r s)|_,_=>true):=λa b=>rfl;rw[e]at h ⊢;cases hx:zg x with
 | none=>cases zg y<;>rfl
 | some r=>cases hy:zg y with
  | none=>rfl
  | some s =>
   rw[hx,hy]at h;simp only[Bool.not_eq_true']at h ⊢;cases hb:Nat.beq s r with
   | false=>rfl
   | true=>rw[Nat.eq_of_beq_eq_true hb]at h;simp at h
theorem ED:∀{l:List (vv×Cell)},zu l=true->∀{n m:vv} {x y:Cell},(n,x)∈l->(m,y)∈l->n≠m->∀r,zg x=some r->zg y≠some r
 | [],_,n,m,x,y,h,_,_,r,_=>by simp at h
 | (k,z)::l,hs,n,m,x,y,h1,h2,hnm,r,hr=>by
  have hp:=pairwise_cons.1 (DN hs);simp only[zu,aT]at hs;rcases mem_cons.1 h1 with e1|h1<;>rcases mem_cons.1 h2 with e2|h2
  · cases e1;cases e2;exact absurd rfl hnm
  · cases e1;exact Ei ((hp.1 (m,y) h2).2 (Ne.symm hnm)) hr
  · cases e2;exact Ei (Il ((hp.1 (n,x) h1).2 hnm)) hr
  · exact ED hs.2 h1 h2 hnm r hr
end Go.V
namespace Go.V
variable {w0:World} {T N:Nat->Prop} {en en':List (vv×Entry)} {S S':St} {g g':Gh} {w:World} {a:Act} {s:wZ} {M:List (vv×Entry)} {W:List (Nat×AV)}

theorem Im {e:Entry} (h:e.deep=true):e.alive=true:=by cases e<;>simp_all [Entry.deep,Entry.alive]
theorem MS.rename (h:MS w0 T N en g w) (hI:g'.I=g.I) (hrep:∀n e,vz en' n=some e->B7 (dom en') g' w n e) (Cg:vv->vv->Prop)
 (hφ:∀n e,vz en' n=some e->e.alive=true->(g'.top n=none/\g'.nest n=[])\/∃k f,vz en k=some f/\f.alive=true/\(e.deep=true->f.deep=true)/\g'.top n=g.top k/\(∀b∈g'.nest n,b∈g.nest k)/\Cg n k)
 (htree:∀n e,vz en' n=some e->e.isTree=true->(∃f,vz en n=some f/\f.isTree=true)/\g'.nest n=g.nest n) (inj:∀n m k,Cg n k->Cg m k->n=m) (hone:∀n,dom en' n->(g'.loc n).oneCell'=true):MS w0 T N en' g' w:=by
 have ht:∀n e b,vz en' n=some e->e.alive=true->g'.top n=some b->∃k f,vz en k=some f/\f.alive=true/\g.top k=some b/\Cg n k:=by
  intro n e b hn ha hb;rcases hφ n e hn ha with ⟨h1,_⟩|⟨k,f,h1,h2,_,h4,_,h6⟩
  · rw[h1]at hb;cases hb
  · exact⟨k,f,h1,h2,h4▸hb,h6⟩
 have hs:∀n e b,vz en' n=some e->e.deep=true->b∈g'.nest n->∃k f,vz en k=some f/\f.deep=true/\b∈g.nest k/\Cg n k:=by
  intro n e b hn hd hb;rcases hφ n e hn (Im hd)with ⟨_,h1⟩|⟨k,f,h1,h2,h3,_,h5,h6⟩
  · rw[h1]at hb;simp at hb
  · exact⟨k,f,h1,h3 hd,h5 b hb,h6⟩
 refine⟨⟨hrep,λn m e f b hn hm he hf h1 h2=>?_,λn e b hn he hb=>?_,λn m e f hn hm he hf hnm b hb hb'=>?_,λb hb=>h.mem.old b (hI▸hb),hone,λn e b hn he hb=>?_⟩,
  ⟨h.since.os,h.since.out,h.since.tape,h.since.size,h.since.mem,λn e b hn he hb=>?_,λn e b hn he hb=>?_,λb hb=>h.since.imm b (hI▸hb),λn e b hn he hb=>?_,h.since.soft⟩⟩
 · obtain⟨k,f1,k1,k2,k3,k4⟩:=ht n e b hn he h1;obtain⟨k',f2,l1,l2,l3,l4⟩:=ht m f b hm hf h2;obtain rfl:=h.mem.apart k k' f1 f2 b k1 l1 k2 l2 k3 l3;exact inj n m k k4 l4
 · obtain⟨k,f1,k1,k2,k3,k4⟩:=ht n e b hn he hb;rw[hI];exact h.mem.topI k f1 b k1 k2 k3
 · obtain⟨k,f1,k1,k2,k3,k4⟩:=hs n e b hn he hb;obtain⟨k',f2,l1,l2,l3,l4⟩:=hs m f b hm hf hb';by_cases hkk:k=k'
   · subst hkk;exact hnm (inj n m k k4 l4)
   · exact h.mem.nests k k' f1 f2 k1 l1 k2 l2 hkk b k3 l3
 · obtain⟨⟨f,k1,k2⟩,k3⟩:=htree n e hn he;rw[k3]at hb;obtain⟨l1,l2,l3⟩:=h.mem.wood n f b k1 k2 hb;refine⟨by rw[hI];exact l1,λm f' hm hf' hb'=>?_,λm f' hmn hm hf'=>?_⟩
   · obtain⟨k,f1,j1,j2,j3,_⟩:=ht m f' b hm hf' hb';exact l2 k f1 j1 j2 j3
   · obtain⟨⟨f2,j1,j2⟩,j3⟩:=htree m f' hm hf';rw[j3];exact l3 m f2 hmn j1 j2
 · obtain⟨k,f1,k1,k2,k3,k4⟩:=ht n e b hn he hb;exact h.since.tops k f1 b k1 k2 k3
 · obtain⟨k,f1,k1,k2,k3,k4⟩:=hs n e b hn he hb;exact h.since.nests k f1 b k1 k2 k3
 · obtain⟨⟨f,k1,k2⟩,k3⟩:=htree n e hn he;rw[k3]at hb;exact h.since.born n f b k1 k2 hb

theorem JT {e:Cs} {m:Bool} {x:Cell} {xs:List e.den} (h:zk S e m x=some xs) :
 ∃q us L,(IS e x).Runs (vz S.en) (xs,q,us) L/\(∀m',q=some m'->m=true->m'=true)/\(∀r E,us=[(r,E)]->zg x=some r):=by
 cases x<;>try (exfalso;cases h;done)
 case nil =>
  simp only[zk,Option.some.injEq]at h;subst h;exact⟨none,[],[],⟨rfl,rfl⟩,(λm' h=>by cases h),λr E h=>by cases h⟩
 case own r =>
  simp only[zk]at h;split at h
  · rename_i f m' ys hr;cases hm:Jh m m' with
    | false=>rw[hm]at h;cases h
    | true =>
     rw[hm]at h;simp only[cT]at h;split at h
     · rename_i hfe hsame;cases h;refine⟨some m',[(r,.gone)],[r],⟨[],rfl,?_⟩,(λm'' h hm1=>?_),λr' E h=>by cases h;rfl⟩
       · rw[show vz S.en r=some (.root f m' ys)from hr];simp only[hsame];exact⟨rfl,rfl⟩
       · cases h;subst hm1;simpa[Jh]using hm
     · cases h
  · cases h
 case win r lo hi =>
  simp only[zk]at h;split at h
  · rename_i f m' ys hr;cases hm:Jh m m' with
    | false=>rw[hm]at h;cases h
    | true =>
     rw[hm]at h;simp only[cT]at h;split at h
     · rename_i hfe hsame;cases h;refine⟨some m',[(r,.gone)],[r],⟨[],rfl,?_⟩,(λm'' h hm1=>?_),λr' E h=>by cases h;rfl⟩
       · rw[show vz S.en r=some (.root f m' ys)from hr];simp only[hsame];exact⟨rfl,rfl⟩
       · cases h;subst hm1;simpa[Jh]using hm
     · cases h
  · cases h
structure HB (w:World) (S:St) (g:Gh) (e:Cs) (m:Bool) (x:Cell) (xs:List e.den) (i:NI):Prop where
 esz:i.esz=e.len
 loc:∀v,vJ (dom S.en) g w x v->v=i.loc
 rep:y9 w e xs i.loc i.top i.nest
 imm:∀b∈i.nest,g.I b
 nod:m=true->i.nest.Nodup
 one:i.loc.oneCell'=true
 old:(i.top=none/\i.nest=[])\/∃r m' ys,zg x=some r/\vz S.en r=some (.root e m' ys)/\i.top=g.top r/\(∀b∈i.nest,b∈g.nest r)/\(m=true->m'=true)
theorem Hr {e:Cs} {xs:List e.den} {v:Value} {tp:Option Nat} {F:List Nat} (h:y9 w e xs v tp F):v.oneCell'=true:=by
 obtain⟨x,c,rfl⟩:=h.shape;rfl
theorem PD (hm:zh S.en g w) {e:Cs} {m:Bool} {x:Cell} {xs:List e.den} (h:zk S e m x=some xs) {v:Value} (hv:vJ (dom S.en) g w x v):∃i,HB w S g e m x xs i:=by
 have huni:∀u,vJ (dom S.en) g w x u->u=v:=by
  intro u hu;cases x<;>try (exfalso;cases h;done)
  case nil=>exact (show u=_ from hu).trans (show v=_ from hv).symm
  case own r=>exact hu.2.trans hv.2.symm
  case win r lo hi =>
   obtain⟨_,_,a1,l1,c1,e1,_,rfl⟩:=hu;obtain⟨_,_,a2,l2,c2,e2,_,rfl⟩:=hv;rw[e1]at e2;cases e2;rfl
 obtain⟨q,us,L,h1,h2,h3⟩:=JT h;rcases Gg hm hv h1 with ⟨rfl,h4⟩|⟨ys,r,m',F,h4,hD⟩
 · cases h4;exact⟨⟨.slice none 0 0,e.len,none,[]⟩,rfl,huni,.inl ⟨rfl,rfl,rfl,rfl⟩,by simp,by simp,rfl,.inl ⟨rfl,rfl⟩⟩
 · cases h4;obtain⟨⟨zs,hent⟩,hrep,hcnt⟩:=hD;obtain⟨_,_,hI,hnd⟩:=x8 hm hent;have hsub:∀b∈F,b∈g.nest r:=λb hb=>by
    have h0:=hcnt b;have h1:0<F.count b:=count_pos_iff.2 hb
    exact count_pos_iff.1 (by omega)
   refine⟨⟨v,e.len,g.top r,F⟩,rfl,huni,hrep,λb hb=>hI b (hsub b hb),λhm1=>?_,Hr hrep,.inr ⟨r,m',zs,h3 r _ rfl,hent,rfl,hsub,h2 m' rfl⟩⟩;rw[←yf];intro b;have:=hcnt b
   have h6:=yf.2 (hnd (h2 m' rfl hm1)) b;show F.count b<=1
   omega
end Go.V
namespace Go.V
variable {w0:World} {T N:Nat->Prop} {en en':List (vv×Entry)} {S S':St} {g g':Gh} {w:World} {a:Act} {s:wZ} {M:List (vv×Entry)} {W:List (Nat×AV)}

theorem AT:∀{l:List (vv×zd)},ER l=true->∀{n:vv} {e:zd},(n,e)∈l->vz l n=some e
 | [],_,n,e,h=>by simp at h
 | (m,f)::l,hl,n,e,h=>by
  simp only[ER,aT]at hl;rw[vY];rcases mem_cons.1 h with h|h
  · cases h;rw[if_pos rfl]
  · by_cases hmn:m=n
    · subst hmn;have:=all_eq_true.1 hl.1 _ h
      simp at this
    · rw[if_neg hmn];exact AT hl.2 h
theorem Hs {l:List (vv×zd)} (hl:ER l=true) {n:vv} (h:Kc l n=true):∃e m,vz l n=some (.root e m):=by
 obtain⟨p,hp,hq⟩:=List.any_eq_true.1 h;simp only[aT]at hq;obtain⟨k,f⟩:=p;obtain rfl:=Nat.eq_of_beq_eq_true hq.1;cases f with
 | root e m=>exact⟨e,m,AT hl hp⟩
 | keep e m=>cases hq.2
 | box ss=>cases hq.2
 | tree e=>cases hq.2
theorem Gr {l:List (vv×zd)} (hl:ER l=true) {n:vv} (h:Ap l n=true):∃x,vz l n=some x/\∀e m,x≠.root e m:=by
 obtain⟨p,hp,hq⟩:=List.any_eq_true.1 h;simp only[aT]at hq;obtain⟨k,f⟩:=p;obtain rfl:=Nat.eq_of_beq_eq_true hq.1;refine⟨f,AT hl hp,λe m he=>?_⟩;subst he;cases hq.2
theorem Gt:∀{l:List (vv×zd)} {n:vv} {x:zd},vz l n=some x->(∀e m,x≠.root e m)->Ap l n=true:=by
 intro l n x h hx;refine List.any_eq_true.2 ⟨(n,x),wY h,?_⟩;cases x with
 | root e m=>exact absurd rfl (hx e m)
 | keep e m=>simp
 | tree e=>simp
 | box ss=>simp
theorem zv:∀{l:List (vv×zd)},zH S l=true->∀{n:vv} {e:Cs} {m:Bool},(n,zd.root e m)∈l->vz S.en n=none
 | [],_,n,e,m,h=>by simp at h
 | (k,x)::l,hf,n,e,m,h=>by
  rcases mem_cons.1 h with h'|h'
  · obtain⟨rfl,rfl⟩:=Prod.mk.inj h';simp only[zH,aT]at hf;cases hn:vz S.en n with
    | none=>rfl
    | some y=>rw[show S.ent n=some y from hn]at hf;cases hf.1
  · cases x with
    | root e' m'=>simp only[zH,aT]at hf;exact zv hf.2 h'
    | keep e' m'=>simp only[zH]at hf;exact zv hf h'
    | box ss=>simp only[zH]at hf;exact zv hf h'
    | tree e'=>simp only[zH]at hf;exact zv hf h'
theorem EE {D:vv->Prop}:∀{l:List xp} {xs:List Cell} {vs:List Value},vT (vJ D g w) xs vs->∀p∈Bn l xs,∃v,vJ D g w p.2 v
 | [],xs,vs,_,p,hp=>by cases xs<;>simp[Bn]at hp
 | s::l,[],[],_,p,hp=>by cases s<;>simp[Bn]at hp
 | s::l,x::xs,v::vs,h,p,hp=>by
  have ih:=EE (l:=l) h.2 p;cases s with
  | own n =>
   rcases mem_cons.1 hp with rfl|hp
   · exact⟨v,h.1⟩
   · exact ih hp
  | _=>exact ih hp
theorem KD {D:vv->Prop} {x:AV} {v:Value} (h:wP D g w x v):∃vs,vT (vJ D g w) x.cells vs:=by
 cases x with
 | cell c=>exact⟨[v],h,trivial⟩
 | agg cs=>obtain⟨vs,_,k⟩:=h;exact⟨_,k⟩
 | tup l=>exact⟨[],trivial⟩
theorem Oh (hI:wB w0 T N S' g w a):∀p∈s.sigma S',∃v,vJ (dom S'.en) g w p.2 v:=by
 intro p hp;rcases mem_append.1 hp with hp|hp
 · have key:∀(l:List (Nat×Bool×List xp)),p∈C7 S' l->∃v,vJ (dom S'.en) g w p.2 v:=by
    intro l
    induction l with
    | nil=>intro h;simp[C7]at h
    | cons q l ih =>
     intro h;obtain⟨t,ag,ss⟩:=q;rcases mem_append.1 h with h|h
     · obtain⟨vs,hv⟩:=KD (hI.tmps t);exact EE hv p h
     · exact ih h
   exact key _ hp
 · have key:∀(l:List (vv×zd)),p∈Af S' l->∃v,vJ (dom S'.en) g w p.2 v:=by
    intro l
    induction l with
    | nil=>intro h;simp[Af]at h
    | cons q l ih =>
     intro h;obtain⟨n,x⟩:=q;cases x with
     | box ss =>
      rcases mem_append.1 h with h|h
      · cases hn:S'.ent n with
        | none=>rw[hn]at h;simp at h
        | some e =>
         rw[hn]at h;cases e with
         | box cs =>
          obtain⟨b,us,_,_,_,h4⟩:=hI.mem.rep n _ hn;exact EE h4 p h
         | gone=>simp at h
         | fwd _ _=>simp at h
         | root _ _ _=>simp at h
         | tree _ _=>simp at h
      · exact ih h
     | root e m=>exact ih h
     | keep e m=>exact ih h
     | tree e=>exact ih h
   exact key _ hp
structure Dm (S S':St) (M:List (vv×Entry)) (W:List (Nat×AV)) (s:wZ):Prop where
 gone:∀n e,vz M n=some e->e=.gone
 undef:∀t v,vz W t=some v->v=.undef
 dom:∀n,dom S.en n->Go.V.dom S'.en n
 en:∀n,vz M n=none->Go.V.dom S.en n->vz S'.en n=vz S.en n
 tm:∀t,vz W t=none->S'.tmp t=S.tmp t
 kept:∀n,Ap s.en n=true->vz M n≠none
 ok:s.okAt S=true
 freed:freed S M (s.sigma S')=true
def Fa (S':St) (g:Gh) (w:World) (s:wZ) (n:vv) (i:NI):Prop :=
 match vz s.en n with
 | some (.root e m)=>∃x xs,vz (s.sigma S') n=some x/\zk S' e m x=some xs/\HB w S' g e m x xs i
 | _=>(dom S'.en n->i.loc=g.loc n/\i.esz=g.esz n/\i.top=g.top n/\i.nest=g.nest n)/\(¬dom S'.en n->i.loc=.slice none 0 0)
theorem wZ.read_spec {d:s.den} (h:s.read S'=some d):zu (s.sigma S'++DG s.en)=true/\(∀t,F9 S' (s.sigma S') s.tm (s.st d).tm t)/\(∀n,AS S' (s.sigma S') s.en (s.st d).en n):=by
 unfold wZ.read at h;cases hs:zu (s.sigma S'++DG s.en)with
 | false=>rw[hs]at h;cases h
 | true =>
  rw[hs]at h;have h:Dv S' s.tm (xn s.en) (zT S' (s.sigma S') s.en)=some d:=h
  obtain⟨y',e1,e2,e3⟩:=G6 h (σ:=s.sigma S') (λp hp=>mem_append_left _ hp);refine⟨rfl,e2,?_⟩;have:=As e1 (λp hp=>mem_append_right _ hp)
  show ∀n,AS S' (s.sigma S') s.en (yW s.en (zt s.tm (xn s.en) d).2) n;rw[e3];exact this
theorem DO:∀{l m:List (vv×Cell)},zu (l++m)=true->zu l=true
 | [],m,_=>rfl
 | (n,x)::l,m,h=>by
  simp only[cons_append,zu,aT,List.all_append]at h ⊢;exact⟨h.1.1,DO h.2⟩
theorem Cf:∀{l:List (vv×zd)} {n:vv} {e:Cs} {m:Bool},(n,zd.keep e m)∈l->(n,Cell.own n)∈DG l
 | [],n,e,m,h=>by simp at h
 | (k,x)::l,n,e,m,h=>by
  rcases mem_cons.1 h with h'|h'
  · obtain⟨rfl,rfl⟩:=Prod.mk.inj h';exact mem_cons_self
  · cases x with
    | keep e' m'=>exact mem_cons_of_mem _ (Cf h')
    | root e' m'=>exact Cf (l:=l) h'
    | box ss=>exact Cf (l:=l) h'
    | tree e'=>exact Cf (l:=l) h'
theorem Tp (hI:wB w0 T N S' g w a) {d:s.den} (hr:s.read S'=some d):∃f:vv->NI,∀n,Fa S' g w s n (f n):=by
 apply Classical.skolem.1;intro n;obtain⟨hσ,_,hen⟩:=wZ.read_spec hr;have hn:=hen n
 unfold AS at hn;unfold Fa;cases hf:vz s.en n with
 | none =>
  by_cases hd:dom S'.en n
  · exact⟨⟨g.loc n,g.esz n,g.top n,g.nest n⟩,λ_=>⟨rfl,rfl,rfl,rfl⟩,λh=>absurd hd h⟩
  · exact⟨⟨.slice none 0 0,0,none,[]⟩,λh=>absurd h hd,λ_=>rfl⟩
 | some x =>
  cases x with
  | root e m =>
   rw[hf]at hn;obtain⟨x,xs,h1,h2,_⟩:=hn;obtain⟨v,hv⟩:=Oh (s:=s) hI (n,x) (wY h1);obtain⟨i,hi⟩:=PD hI.mem h2 hv;exact⟨i,x,xs,h1,h2,hi⟩
  | keep e m =>
   by_cases hd:dom S'.en n
   · exact⟨⟨g.loc n,g.esz n,g.top n,g.nest n⟩,λ_=>⟨rfl,rfl,rfl,rfl⟩,λh=>absurd hd h⟩
   · exact⟨⟨.slice none 0 0,0,none,[]⟩,λh=>absurd h hd,λ_=>rfl⟩
  | box ss =>
   by_cases hd:dom S'.en n
   · exact⟨⟨g.loc n,g.esz n,g.top n,g.nest n⟩,λ_=>⟨rfl,rfl,rfl,rfl⟩,λh=>absurd hd h⟩
   · exact⟨⟨.slice none 0 0,0,none,[]⟩,λh=>absurd h hd,λ_=>rfl⟩
  | tree e =>
   by_cases hd:dom S'.en n
   · exact⟨⟨g.loc n,g.esz n,g.top n,g.nest n⟩,λ_=>⟨rfl,rfl,rfl,rfl⟩,λh=>absurd hd h⟩
   · exact⟨⟨.slice none 0 0,0,none,[]⟩,λh=>absurd h hd,λ_=>rfl⟩
def Gh.all (g:Gh) (f:vv->NI):Gh:=⟨g.I,λn=>(f n).loc,λn=>(f n).esz,λn=>(f n).top,λn=>(f n).nest,g.rows⟩
end Go.V
namespace Go.V
variable {w0:World} {T N:Nat->Prop} {en en':List (vv×Entry)} {S S':St} {g g':Gh} {w:World} {a:Act} {s:wZ} {M:List (vv×Entry)} {W:List (Nat×AV)}

theorem KE {e:Cs} {m:Bool} {n:vv} {xs:List e.den} (h:zk S e m (.own n)=some xs):∃m',vz S.en n=some (.root e m' xs)/\(m=true->m'=true):=by
 simp only[zk]at h;split at h
 · rename_i f m' ys hr;cases hm:Jh m m' with
   | false=>rw[hm]at h;cases h
   | true =>
    rw[hm]at h;simp only[cT]at h;split at h
    · rename_i hfe _;cases h;subst hfe;exact⟨m',hr,λhm1=>by subst hm1;simpa[Jh]using hm⟩
    · cases h
 · cases h
theorem Ej {σ:List (vv×Cell)} {D D':vv->Prop} {ok:xp->Bool} (h1:∀c x y v,EZ S σ c x y->ok c=true->vJ D g w x v->vJ D' g' w y v) :
 ∀{ss:List xp} {xs ys:List Cell} {vs:List Value},Ce S σ ss xs ys->ss.all ok=true->vT (vJ D g w) xs vs->vT (vJ D' g' w) ys vs
 | [],[],[],[],_,_,_=>trivial
 | c::ss,x::xs,y::ys,v::vs,h,ho,hv=>by
  simp only[List.all_cons,aT]at ho;exact⟨h1 c x y v h.1 ho.1 hv.1,Ej h1 h.2 ho.2 hv.2⟩
theorem HC {σ:List (vv×Cell)} {D':vv->Prop} {ok:xp->Bool} (h1:∀c x y,EZ S σ c x y->ok c=true->yO D' y) :
 ∀{ss:List xp} {xs ys:List Cell},Ce S σ ss xs ys->ss.all ok=true->∀y∈ys,yO D' y
 | [],[],[],_,_,y,hy=>by simp at hy
 | c::ss,x::xs,z::ys,h,ho,y,hy=>by
  simp only[List.all_cons,aT]at ho;rcases mem_cons.1 hy with rfl|hy
  · exact h1 c x y h.1 ho.1
  · exact HC h1 h.2 ho.2 y hy
theorem Gu {σ:List (vv×Cell)}:∀{ss:List xp} {xs ys:List Cell},Ce S σ ss xs ys->ys.length=xs.length
 | [],[],[],_=>rfl
 | c::ss,x::xs,z::ys,h=>by simp[Gu h.2]
def Cg (S S':St) (M:List (vv×Entry)) (s:wZ) (n k:vv):Prop :=
 (∃e m x e' m' ys,vz s.en n=some (.root e m)/\vz (s.sigma S') n=some x/\zg x=some k/\vz S'.en k=some (.root e' m' ys)) \/
 (n=k/\∃e m,vz s.en n=some (.keep e m)) \/
 (n=k/\∃ss cs,vz s.en n=some (.box ss)/\vz S'.en n=some (.box cs)) \/
 (n=k/\vz s.en n=none/\vz M n=none/\dom S.en n)
theorem Cg.inj (hσ:zu (s.sigma S'++DG s.en)=true) (hfr:freed S M (s.sigma S')=true) {n m k:vv} (h:Cg S S' M s n k) (h':Cg S S' M s m k):n=m:=by
 have hroot:∀{n m k:vv},(∃e m x e' m' ys,vz s.en n=some (.root e m)/\vz (s.sigma S') n=some x/\zg x=some k/\vz S'.en k=some (.root e' m' ys))->Cg S S' M s m k->n=m:=by
  intro n m k ⟨e,d,x,e',d',ys,h1,h2,h3,h4⟩ h';have hx:=wY h2
  rcases h' with ⟨_,_,y,_,_,_,k1,k2,k3,k4⟩|⟨rfl,e2,m2,k1⟩|⟨rfl,ss,cs,k1,k2⟩|⟨rfl,k1,k2,k3⟩
  · by_cases hnm:n=m
    · exact hnm
    · exact absurd k3 (ED (DO hσ) hx (wY k2) hnm k h3)
  · by_cases hnm:n=m
    · exact hnm
    · exact absurd rfl (ED hσ (mem_append_left _ hx) (mem_append_right _ (Cf (wY k1))) hnm m h3)
  · rw[h4]at k2;cases k2
  · have:=all_eq_true.1 hfr _ hx;simp only[h3]at this;cases hd:vz S.en m with
    | none=>exact absurd hd k3
    | some y =>
     rw[hd]at this;simp only at this;rw[k2]at this;cases this
 rcases h with h|h
 · exact hroot h h'
 · rcases h' with h'|h'
   · exact (hroot h' (.inr h)).symm
   · have e1:n=k:=by rcases h with ⟨e,_⟩|⟨e,_⟩|⟨e,_⟩<;>exact e
     have e2:m=k:=by rcases h' with ⟨e,_⟩|⟨e,_⟩|⟨e,_⟩<;>exact e
     exact e1.trans e2.symm
theorem FC (hI:wB w0 T N S' g w a) (hcS:wV S) (hT:Dm S S' M W s) {d:s.den} (hr:s.read S'=some d) :
 ∃g',wB w0 T N (s.over ⟨W++S.tm,M++S.en⟩ d) g' w a/\Le (dom S.en) g w (dom (s.over ⟨W++S.tm,M++S.en⟩ d).en) g' w/\wV (s.over ⟨W++S.tm,M++S.en⟩ d):=by
 obtain⟨hσ,htm,hen⟩:=wZ.read_spec hr;obtain⟨f,hf⟩:=Tp hI hr;have hok:=hT.ok
 simp only[wZ.okAt,aT]at hok;obtain⟨hfr,hnd,hokt,hoke⟩:=hok;have hEd:(s.over ⟨W++S.tm,M++S.en⟩ d).en=(s.st d).en++(M++S.en):=rfl
 have hTd:(s.over ⟨W++S.tm,M++S.en⟩ d).tm=(s.st d).tm++(W++S.tm):=rfl;generalize hE:(s.over ⟨W++S.tm,M++S.en⟩ d).en=E at hEd;have hnr:∀n,dom S.en n->∀e m,vz s.en n≠some (.root e m):=λn hn e m h=>hn (zv hfr (wY h))
 have hold:∀n,dom S'.en n->(∀e m,vz s.en n≠some (.root e m))->(f n).loc=g.loc n/\(f n).esz=g.esz n/\(f n).top=g.top n/\(f n).nest=g.nest n:=by
  intro n hn hne;have:=hf n
  unfold Fa at this;split at this
  · rename_i e m h;exact absurd h (hne e m)
  · exact this.1 hn
 have hdomS:∀n,dom S.en n->dom E n:=λn hn=>by
  rw[hEd];exact zl _ _ n (zl _ _ n hn)
 have hdome:∀n x,vz s.en n=some x->dom E n:=by
  intro n x hx;have:=hen n
  unfold AS at this;rw[hx]at this;rw[hEd];cases x with
  | root e m=>obtain⟨_,_,_,_,h⟩:=this;exact BS (by unfold dom;rw[h];simp)
  | keep e m=>obtain⟨_,_,h⟩:=this;exact BS (by unfold dom;rw[h];simp)
  | box ss=>obtain⟨_,_,_,h,_⟩:=this;exact BS (by unfold dom;rw[h];simp)
  | tree e=>obtain⟨_,_,h⟩:=this;exact BS (by unfold dom;rw[h];simp)
 have hle:Le (dom S.en) g w (dom E) (g.all f) w:=⟨hdomS,λn hn=>(hold n (hT.dom n hn) (hnr n hn)).1,λn hn=>(hold n (hT.dom n hn) (hnr n hn)).2.1,λ_ h=>h,λ_ _=>rfl,λ_ _=>rfl⟩;have hdm:∀n,((vz S.en n).isSome||Ap s.en n)=true->dom S'.en n->dom E n/\(f n).loc=g.loc n/\(f n).esz=g.esz n:=by
  intro n h hd;rw[Bool.or_eq_true]at h;rcases h with h|h
  · have hS:dom S.en n:=by intro h0;rw[h0]at h;cases h
    exact⟨hdomS n hS,(hold n hd (hnr n hS)).1,(hold n hd (hnr n hS)).2.1⟩
  · obtain⟨x,hx,hxr⟩:=Gr hnd h;have hne:∀e m,vz s.en n≠some (.root e m):=λe m h=>by rw[hx]at h;exact hxr e m (Option.some.inj h)
    exact⟨hdome n x hx,(hold n hd hne).1,(hold n hd hne).2.1⟩
 have hdmE:∀n,((vz S.en n).isSome||Ap s.en n)=true->dom E n:=by
  intro n h;rw[Bool.or_eq_true]at h;rcases h with h|h
  · exact hdomS n (by intro h0;rw[h0]at h;cases h)
  · obtain⟨x,hx,_⟩:=Gr hnd h;exact hdome n x hx
 let ok:=xp.okIn (λn=>(vz S.en n).isSome||Ap s.en n) (Kc s.en)
 have g1:∀c x y v,EZ S' (s.sigma S') c x y->ok c=true->vJ (dom S'.en) g w x v->vJ (dom E) (g.all f) w y v:=by
  intro c x y v h ho hv;cases c with
  | dat c =>
   obtain⟨b,hq,rfl⟩:=h;unfold CT.quiet at hq;split at hq
   · rename_i b' hb;cases hq;obtain⟨L,hL⟩:=Rd.plain_some hb;obtain⟨⟨F,hF,hFI⟩,_⟩:=CT.into_shared hI.mem hv hL;refine CT.cell_rep hF λq hq=>(hFI q hq).elim id λ⟨k,hk,_⟩=>?_;simp at hk
   · cases hq
  | own n =>
   obtain⟨rfl,hm,_⟩:=h;obtain⟨e,m,hx⟩:=Hs hnd ho;have:=hf n
   unfold Fa at this;rw[hx]at this;obtain⟨x0,xs,h1,h2,h3⟩:=this;obtain⟨z,hz,hz'⟩:=Ik (DO hσ) hm;rw[h1]at hz;cases hz;have : x=x0 := by
    rcases hz' with h|⟨r, h, h'⟩
    · exact h
    · exact h.trans h'.symm
   subst this;exact⟨hdome n _ hx,h3.loc v hv⟩
  | same n =>
   obtain⟨rfl,rfl⟩:=h;obtain⟨hd,rfl⟩:=hv;obtain⟨h1,h2,_⟩:=hdm n ho hd;exact⟨h1,h2.symm⟩
  | box n o =>
   obtain⟨rfl,rfl⟩:=h;obtain⟨hd,b,hb,e⟩:=hv;obtain⟨h1,h2,_⟩:=hdm n ho hd;exact⟨h1,b,h2.trans hb,e⟩
  | nil=>obtain⟨rfl,rfl⟩:=h;exact hv
  | undef=>obtain rfl:=h;trivial
  | fn q cs =>
   obtain⟨rfl,rfl⟩:=h;obtain⟨vs,e,k⟩:=hv;refine⟨vs,e,?_⟩;have key:∀(l:List vv) (m:List Value),(∀n∈l,((vz S.en n).isSome||Ap s.en n)=true)->vT (λn u=>dom S'.en n/\(∃b,g.loc n=.pointer (some ⟨b,0,none⟩))/\u=g.loc n) l m ->
    vT (λn u=>dom E n/\(∃b,(g.all f).loc n=.pointer (some ⟨b,0,none⟩))/\u=(g.all f).loc n) l m:=by
    intro l
    induction l with
    | nil=>intro m _ h;cases m with
     | nil=>trivial
     | cons _ _=>exact h.elim
    | cons n l ih=>intro m hl h;cases m with
     | nil=>exact h.elim
     | cons u m =>
      obtain⟨hd,⟨b,hb⟩,hu⟩:=h.1;obtain⟨h1,h2,_⟩:=hdm n (hl n (by simp)) hd;exact⟨⟨h1,⟨b,h2.trans hb⟩,hu.trans h2.symm⟩,ih m (λk hk=>hl k (by simp[hk])) h.2⟩
   exact key cs _ (λn hn=>all_eq_true.1 ho n hn) k
 have g2:∀c x y,EZ S' (s.sigma S') c x y->ok c=true->yO (dom E) y:=by
  intro c x y h ho;cases c with
  | dat c=>obtain⟨b,_,rfl⟩:=h;exact CT.cell_in c b
  | own n =>
   obtain⟨rfl,_,_⟩:=h;obtain⟨e,m,hx⟩:=Hs hnd ho;intro k hk;simp[Cell.refs]at hk;subst hk;exact hdome k _ hx
  | same n=>obtain⟨rfl,rfl⟩:=h;intro k hk;simp[Cell.refs]at hk;subst hk;exact hdmE k ho
  | box n o=>obtain⟨rfl,rfl⟩:=h;intro k hk;simp[Cell.refs]at hk;subst hk;exact hdmE k ho
  | nil=>obtain⟨rfl,rfl⟩:=h;exact wl rfl
  | undef=>obtain rfl:=h;exact wl rfl
  | fn q cs=>obtain⟨rfl,rfl⟩:=h;intro k hk;exact hdmE k (all_eq_true.1 ho k hk)
 have hokbox:∀n ss,vz s.en n=some (.box ss)->ss.all ok=true:=λn ss h=>by
  have:=all_eq_true.1 hoke _ (wY h);exact this
 have hlook:∀n e,vz E n=some e ->
  (∃c m x xs,vz s.en n=some (.root c m)/\e=.root c m xs/\vz (s.sigma S') n=some x/\zk S' c m x=some xs/\HB w S' g c m x xs (f n)) \/
  (∃c m m' xs,vz s.en n=some (.keep c m)/\e=.root c m xs/\vz S'.en n=some (.root c m' xs)/\(m=true->m'=true)) \/
  (∃ss cs cs',vz s.en n=some (.box ss)/\e=.box cs'/\vz S'.en n=some (.box cs)/\Ce S' (s.sigma S') ss cs cs') \/
  (vz s.en n=none/\((vz M n≠none/\e=.gone)\/(vz M n=none/\vz S.en n=some e/\vz S'.en n=some e))) \/
  (∃c xs,vz s.en n=some (.tree c)/\e=.tree c xs/\vz S'.en n=some (.tree c xs)):=by
  intro n e he;rw[hEd,wG]at he;have h0:=hen n
  unfold AS at h0;cases hs:vz s.en n with
  | none =>
   rw[hs]at h0;simp only at h0;rw[h0]at he;refine .inr (.inr (.inr (.inl ⟨rfl,?_⟩)));rw[wG]at he;cases hM:vz M n with
   | some y=>rw[hM]at he;cases he;exact .inl ⟨(λh=>by cases h),hT.gone n e hM⟩
   | none =>
    rw[hM]at he;have he:vz S.en n=some e:=he
    exact .inr ⟨rfl,he,(hT.en n hM (by unfold dom;rw[he];simp)).trans he⟩
  | some x =>
   rw[hs]at h0;cases x with
   | root c m =>
    obtain⟨x,xs,h1,h2,h3⟩:=h0;rw[h3]at he;cases he;have:=hf n
    unfold Fa at this;rw[hs]at this;obtain⟨x',xs',k1,k2,k3⟩:=this;rw[h1]at k1;cases k1;rw[h2]at k2;cases k2;exact .inl ⟨c,m,x,xs,rfl,rfl,h1,h2,k3⟩
   | keep c m =>
    obtain⟨xs,h2,h3⟩:=h0;rw[h3]at he;cases he;obtain⟨m',k1,k2⟩:=KE h2;exact .inr (.inl ⟨c,m,m',xs,rfl,rfl,k1,k2⟩)
   | box ss =>
    obtain⟨cs,cs',h1,h2,h3⟩:=h0;rw[h2]at he;cases he;exact .inr (.inr (.inl ⟨ss,cs,cs',rfl,rfl,h1,h3⟩))
   | tree c =>
    obtain⟨xs,h1,h2⟩:=h0;rw[h2]at he;cases he;exact .inr (.inr (.inr (.inr ⟨c,xs,rfl,rfl,h1⟩)))
 have hbox_old:∀n cs,vz S.en n=some (.box cs)->∀c∈cs,yO (dom S.en) c:=hcS.box;have hMS:MS w0 T N E (g.all f) w:=by
  refine MS.rename (en:=S'.en) hI.ms rfl (λn e he=>?_) (Cg S S' M s) (λn e he ha=>?_) (λn e he ht=>?_) (λn m k h h'=>Cg.inj hσ hT.freed h h') (λn hn=>?_)
  · rcases hlook n e he with ⟨c,m,x,xs,h1,rfl,h2,h3,h4⟩|⟨c,m,m',xs,h1,rfl,h2,h3⟩|⟨ss,cs,cs',h1,rfl,h2,h3⟩|⟨h1,h2⟩|⟨c,xs,h1,rfl,h2⟩
    · exact⟨h4.esz,h4.rep,h4.imm,h4.nod⟩
    · obtain⟨k1,k2,k3,k4⟩:=x8 hI.mem h2;obtain⟨e1,e2,e3,e4⟩:=hold n (by unfold dom;rw[h2];simp) (λe m h=>by rw[h1]at h;cases h);refine⟨e2.trans k1,?_,?_,λhm=>?_⟩
      · show y9 w c xs (f n).loc (f n).top (f n).nest;rw[e1,e3,e4];exact k2
      · show ∀b∈(f n).nest,g.I b;rw[e4];exact k3
      · show (f n).nest.Nodup;rw[e4];exact k4 (h3 hm)
    · obtain⟨b,us,k1,k2,k3,k4⟩:=hI.mem.rep n _ h2;obtain⟨e1,e2,e3,e4⟩:=hold n (by unfold dom;rw[h2];simp) (λe m h=>by rw[h1]at h;cases h);exact⟨b,us,e3.trans k1,e1.trans k2,k3,Ej g1 h3 (hokbox n ss h1) k4⟩
    · rcases h2 with ⟨_,rfl⟩|⟨_,h3,h4⟩
      · trivial
      · have hrep:=hI.mem.rep n e h4;obtain⟨e1,e2,e3,e4⟩:=hold n (by unfold dom;rw[h4];simp) (λe m h=>by rw[h1]at h;cases h);cases e with
        | gone=>trivial
        | fwd c xs=>show E9 _ w (.sl c) xs (f n).loc;rw[e1];exact hrep
        | root c m xs =>
         obtain⟨k1,k2,k3,k4⟩:=hrep;refine⟨e2.trans k1,?_,?_,λhm=>?_⟩
         · show y9 w c xs (f n).loc (f n).top (f n).nest;rw[e1,e3,e4];exact k2
         · show ∀b∈(f n).nest,g.I b;rw[e4];exact k3
         · show (f n).nest.Nodup;rw[e4];exact k4 hm
        | box cs =>
         obtain⟨b,us,k1,k2,k3,k4⟩:=hrep;refine⟨b,us,e3.trans k1,e1.trans k2,k3,?_⟩;exact vT.imp (λ_ _ h=>h.mono hle) (Ar k4 (hbox_old n cs h3))
        | tree c xs =>
         obtain⟨k1,k2,k3⟩:=hrep;refine⟨e2.trans k1,?_,?_⟩
         · show Aq w c xs (f n).loc (f n).nest (g.rows n);rw[e1,e4];exact k2
         · show (f n).nest.Nodup;rw[e4];exact k3
    · obtain⟨k1,k2,k3⟩:=hI.mem.rep n _ h2;obtain⟨e1,e2,e3,e4⟩:=hold n (by unfold dom;rw[h2];simp) (λe m h=>by rw[h1]at h;cases h);refine⟨e2.trans k1,?_,?_⟩
      · show Aq w c xs (f n).loc (f n).nest (g.rows n);rw[e1,e4];exact k2
      · show (f n).nest.Nodup;rw[e4];exact k3
  · have hkeep:∀{k:vv} {e':Entry},vz S'.en n=some e'->e'.alive=true->(e.deep=true->e'.deep=true)->(∀e m,vz s.en n≠some (.root e m))->Cg S S' M s n n ->
     ((g.all f).top n=none/\(g.all f).nest n=[])\/∃k f',vz S'.en k=some f'/\f'.alive=true/\(e.deep=true->f'.deep=true)/\(g.all f).top n=g.top k/\(∀b∈(g.all f).nest n,b∈g.nest k)/\Cg S S' M s n k:=by
     intro _ e' h1 h2 h3 h4 h5;obtain⟨e1,e2,e3,e4⟩:=hold n (by unfold dom;rw[h1];simp) h4;exact .inr ⟨n,e',h1,h2,h3,e3,λb hb=>by rw[←e4];exact hb,h5⟩
    rcases hlook n e he with ⟨c,m,x,xs,h1,rfl,h2,h3,h4⟩|⟨c,m,m',xs,h1,rfl,h2,h3⟩|⟨ss,cs,cs',h1,rfl,h2,h3⟩|⟨h1,h2⟩|⟨c,xs,h1,rfl,h2⟩
    · rcases h4.old with ⟨k1,k2⟩|⟨r,m',ys,k1,k2,k3,k4,k5⟩
      · exact .inl ⟨k1,k2⟩
      · exact .inr ⟨r,_,k2,rfl,k5,k3,k4,.inl ⟨c,m,x,c,m',ys,h1,h2,k1,k2⟩⟩
    · exact hkeep (k:=n) h2 rfl h3 (λe m h=>by rw[h1]at h;cases h) (.inr (.inl ⟨rfl,c,m,h1⟩))
    · exact hkeep (k:=n) h2 rfl (λh=>by cases h) (λe m h=>by rw[h1]at h;cases h) (.inr (.inr (.inl ⟨rfl,ss,cs,h1,h2⟩)))
    · rcases h2 with ⟨_,rfl⟩|⟨hM,h3,h4⟩
      · cases ha
      · exact hkeep (k:=n) h4 ha id (λe m h=>by rw[h1]at h;cases h) (.inr (.inr (.inr ⟨rfl,h1,hM,by unfold dom;rw[h3];simp⟩)))
    · cases ha
  · rcases hlook n e he with ⟨c,m,x,xs,h1,rfl,h2,h3,h4⟩|⟨c,m,m',xs,h1,rfl,h2,h3⟩|⟨ss,cs,cs',h1,rfl,h2,h3⟩|⟨h1,h2⟩|⟨c,xs,h1,rfl,h2⟩
    · cases ht
    · cases ht
    · cases ht
    · rcases h2 with ⟨_,rfl⟩|⟨hM,h3,h4⟩
      · cases ht
      · exact⟨⟨e,h4,ht⟩,(hold n (by unfold dom;rw[h4];simp) (λe m h=>by rw[h1]at h;cases h)).2.2.2⟩
    · exact⟨⟨_,h2,rfl⟩,(hold n (by unfold dom;rw[h2];simp) (λe m h=>by rw[h1]at h;cases h)).2.2.2⟩
  · show ((f n).loc).oneCell'=true;have:=hf n
    unfold Fa at this;split at this
    · obtain⟨x,xs,_,_,h⟩:=this;exact h.one
    · by_cases hd:dom S'.en n
      · rw[(this.1 hd).1];exact hI.mem.one n hd
      · rw[this.2 hd];rfl
 have htmv:∀t,(∃agg ss cs,vz s.tm t=some (agg,ss)/\CF agg (S'.tmp t)=true/\(s.over ⟨W++S.tm,M++S.en⟩ d).tmp t=zY agg cs/\Ce S' (s.sigma S') ss (S'.tmp t).cells cs) \/
  (s.over ⟨W++S.tm,M++S.en⟩ d).tmp t=.undef\/(S'.tmp t=S.tmp t/\(s.over ⟨W++S.tm,M++S.en⟩ d).tmp t=S.tmp t):=by
  intro t;have h0:=htm t
  unfold F9 at h0;unfold St.tmp;rw[hTd,wG];cases hs:vz s.tm t with
  | some q =>
   obtain⟨agg,ss⟩:=q;rw[hs]at h0;obtain⟨h1,cs,h2,h3⟩:=h0;rw[h2];exact .inl ⟨agg,ss,cs,rfl,h1,rfl,h3⟩
  | none =>
   rw[hs]at h0;simp only at h0;rw[h0,wG];cases hW:vz W t with
   | some v=>obtain rfl:=hT.undef t v hW;exact .inr (.inl rfl)
   | none=>exact .inr (.inr ⟨hT.tm t hW,rfl⟩)
 have hoktm:∀t agg ss,vz s.tm t=some (agg,ss)->ss.all ok=true:=λt agg ss h=>by
  have:=all_eq_true.1 hokt _ (wY h);exact this
 refine⟨g.all f,⟨by rw[hE];exact hMS.mem,by rw[hE];exact hMS.since,λt=>?_,hI.plain⟩,hle,⟨λt=>?_,?_⟩⟩
 · rw[hE];rcases htmv t with ⟨agg,ss,cs,h1,h2,h3,h4⟩|h|⟨h1,h2⟩
   · rw[h3];have hv:=hI.tmps t
     have hal:=hoktm t agg ss h1;cases hx:S'.tmp t with
     | cell c =>
      rw[hx]at h2 h4 hv;cases agg with
      | true=>cases h2
      | false =>
       have hl:=Gu h4;have:=Ej (vs:=[a.tmps.getD t undef]) g1 h4 hal (show vT _ [c] _ from⟨hv,trivial⟩)
       cases cs with
       | nil=>simp[AV.cells]at hl
       | cons y ys=>cases ys with
        | nil=>exact this.1
        | cons _ _=>simp[AV.cells]at hl
     | agg ds =>
      rw[hx]at h2 h4 hv;cases agg with
      | false=>cases h2
      | true =>
       obtain⟨vs,e,k⟩:=hv;have:=Ej g1 h4 hal k
       have hav:zY true cs=.agg cs:=by cases cs<;>rfl
       rw[hav];exact⟨vs,e,this⟩
     | tup l=>rw[hx]at h2;cases agg<;>cases h2
   · rw[h];exact trivial
   · rw[h2];have hv:=hI.tmps t
     rw[h1]at hv;exact (hv.restrict (hcS.tmp t)).mono hle
 · rw[hE];rcases htmv t with ⟨agg,ss,cs,h1,h2,h3,h4⟩|h|⟨h1,h2⟩
   · rw[h3];have hin:=HC g2 h4 (hoktm t agg ss h1)
     have:=IZ (agg:=agg) hin;cases hav:zY agg cs with
     | cell c=>rw[hav]at this;exact this
     | agg ds=>rw[hav]at this;exact this
     | tup l=>rw[hav]at this;exact this.elim
   · rw[h];exact wl rfl
   · rw[h2];exact (hcS.tmp t).mono hdomS
 · intro n cs hn c hc;rw[hE]at hn ⊢;rcases hlook n _ hn with ⟨_,_,_,_,_,h,_⟩|⟨_,_,_,_,_,h,_⟩|⟨ss,cs1,cs',h1,h,h2,h3⟩|⟨h1,h2⟩|⟨_,_,_,h,_⟩
   · cases h
   · cases h
   · cases h;exact HC g2 h3 (hokbox n ss h1) c hc
   · rcases h2 with ⟨_,h⟩|⟨_,h3,_⟩
     · cases h
     · exact (hbox_old n cs h3 c hc).mono hdomS
   · cases h
end Go.V
namespace Go.V
variable {P:Program} {w0:World} {T N:Nat->Prop} {S S' S1 S2:St} {g g1:Gh} {w w1 w':World} {a a':Act} {G:xC} {nt:Nat} {ann:List (Nat×vQ)}

theorem BJ.refl (S:St):BJ S S:=⟨⟨[],rfl⟩,⟨[],rfl⟩⟩
theorem BJ.trans (h:BJ S S1) (k:BJ S1 S2):BJ S S2:=by
 obtain⟨⟨x,hx⟩,hy⟩:=h;obtain⟨⟨z,hz⟩,ht⟩:=k;exact⟨⟨z++x,by rw[hz,hx,append_assoc]⟩,EW ht hy⟩
theorem At.trans {D0:vv->Prop} {g0:Gh} {w00:World} (hle:Le D0 g0 w00 (dom S.en) g w) (h:At w0 T N nt (dom S.en) g w S' a' w'):At w0 T N nt D0 g0 w00 S' a' w':=by
 obtain⟨g',h1,h2,h3⟩:=h;exact⟨g',h1,h2,hle.trans h3⟩
theorem Gv {α β:Type} {step:α->Option (α⊕β)} {x:α} {y:β} (h:loop step x=some y):∃k,ze step k x=some y:=by
 unfold loop at h;split at h
 · exact⟨_,h⟩
 · cases h

theorem zB:∀{l:List (vv×zd)} {n:vv} {e:Entry},vz (yo l) n=some e->e=.gone
 | [],n,e,h=>by cases h
 | (k,.box ss)::l,n,e,h=>by
  simp only[yo,vY]at h;split at h
  · cases h;rfl
  · exact zB h
 | (k,.keep c m)::l,n,e,h=>by
  simp only[yo,vY]at h;split at h
  · cases h;rfl
  · exact zB h
 | (k,.root c m)::l,n,e,h=>zB (l:=l) h
 | (k,.tree c)::l,n,e,h=>by
  simp only[yo,vY]at h;split at h
  · cases h;rfl
  · exact zB h
theorem Ch:∀{l:List (vv×Cell)} {n:vv} {e:Entry},vz (A5 l) n=some e->e=.gone
 | [],n,e,h=>by cases h
 | (k,x)::l,n,e,h=>by
  simp only[A5]at h;split at h
  · rw[vY]at h;split at h
    · cases h;rfl
    · exact Ch h
  · exact Ch h
theorem JA {L:vQ} {n:vv} {e:Entry} (h:vz (L.mods S) n=some e):e=.gone:=by
 unfold vQ.mods at h;rw[wG]at h;split at h
 · rename_i hx;cases h;exact zB hx
 · rw[wG]at h;split at h
   · rename_i hx;cases h;exact zB hx
   · rw[wG]at h;split at h
     · rename_i hx;cases h;cases hb:L.back with
       | none=>rw[hb]at hx;cases hx
       | some s=>rw[hb]at hx;exact zB hx
     · exact Ch h
theorem JU {l:List (vv×zd)} {n:vv} (h:Ap l n=true):n∈(yo l).map (·.1):=by
 induction l with
 | nil=>cases h
 | cons p l ih =>
  obtain⟨k,x⟩:=p;simp only[Ap,any_cons,Bool.or_eq_true,aT]at h;rcases h with ⟨h1,h2⟩|h
  · obtain rfl:=Nat.eq_of_beq_eq_true h1;cases x with
    | root c m=>cases h2
    | keep c m=>simp[yo]
    | tree c=>simp[yo]
    | box ss=>simp[yo]
  · have:=ih h;cases x with
    | root c m=>exact this
    | keep c m=>exact mem_cons_of_mem _ this
    | tree c=>exact mem_cons_of_mem _ this
    | box ss=>exact mem_cons_of_mem _ this
theorem J1 {l:List (vv×Cell)} {p:vv×Cell} {r:vv} (hp:p∈l) (hr:zg p.2=some r):r∈(A5 l).map (·.1):=by
 induction l with
 | nil=>simp at hp
 | cons q l ih =>
  obtain⟨k,x⟩:=q;simp only[A5];rcases mem_cons.1 hp with rfl|hp
  · simp only at hr;rw[hr];simp
  · split
    · exact mem_cons_of_mem _ (ih hp)
    · exact ih hp
theorem FD {L:vQ} {n:vv} (h:n∈(yo L.head.en).map (·.1)\/n∈(yo L.out.en).map (·.1)\/n∈(Ji L.back).map (·.1)\/n∈(A5 (L.head.sigma S)).map (·.1)):vz (L.mods S) n≠none:=by
 rw[←AQ];unfold vQ.mods;simp only[map_append,mem_append];rcases h with h|h|h|h
 · exact .inl h
 · exact .inr (.inl h)
 · exact .inr (.inr (.inl h))
 · exact .inr (.inr (.inr h))
theorem Io:∀{c:Code} {t:Nat} {v:AV},(t,v)∈BG c->v=.undef:=by
 have hf:∀(l:List (Nat×Oper)) (t:Nat) (v:AV),(t,v)∈yR l->v=.undef:=by
  intro l
  induction l with
  | nil=>intro t v h;simp[yR]at h
  | cons p l ih =>
   intro t v h;obtain⟨i,o⟩:=p;simp only[yR]at h;split at h
   · rcases mem_cons.1 h with h|h
     · exact (Prod.mk.inj h).2
     · exact ih t v h
   · exact ih t v h
 intro c
 induction c with
 | region id ops draw=>intro t v h;exact hf _ t v h
 | seq x y ihx ihy=>intro t v h;exact (mem_append.1 h).elim ihx ihy
 | cond o x y ihx ihy=>intro t v h;exact (mem_append.1 h).elim ihx ihy
 | block i x ih=>intro t v h;exact ih h
 | loop x ih=>intro t v h;exact ih h
 | _=>intro t v h;simp[BG]at h
theorem Au:∀(l:List (vv×zd)) (z:vI (xn l)),(yW l z).map (·.1)=l.map (·.1)
 | [],z=>rfl
 | (n,.root e m)::l,z=>congrArg (n :: ·) (Au l _)
 | (n,.keep e m)::l,z=>congrArg (n :: ·) (Au l _)
 | (n,.box ss)::l,z=>congrArg (n :: ·) (Au l _)
 | (n,.tree e)::l,z=>congrArg (n :: ·) (Au l _)
theorem G7:∀(l:List (Nat×Bool×List xp)) (R:List Cs) (z:vI (BN l R)),(zt l R z).1.map (·.1)=l.map (·.1)
 | [],R,z=>rfl
 | (t,agg,ss)::l,R,z=>congrArg (t :: ·) (G7 l R _)
theorem Fb {α:Type} {old nw:List (Nat×α)}:GY old (nw++old)=nw:=by
 unfold GY;rw[List.length_append,Nat.add_sub_cancel,List.take_left]
theorem Ip {α:Type} {l:List (Nat×α)} {n:Nat} (h:∀p∈l,p.1≠n):vz l n=none:=by
 cases hf:vz l n with
 | none=>rfl
 | some x=>exact absurd rfl (h _ (wY hf))
def vQ.has (L:vQ) (s:wZ):Prop:=s=L.head\/s=L.out\/L.back=some s
theorem vQ.has_ok {L:vQ} {s:wZ} {body:Code} (h:L.has s) (hk:L.okAt body S=true):s.okAt S=true:=by
 simp only[vQ.okAt,aT]at hk;obtain⟨h1,h2,h3,h4⟩:=hk;rcases h with rfl|rfl|h
 · exact h1
 · exact h2
 · rw[h]at h4;exact h4
theorem vQ.has_kept {L:vQ} {s:wZ} (h:L.has s) {n:vv} (hn:Ap s.en n=true):vz (L.mods S) n≠none:=by
 have:=JU hn;rcases h with rfl|rfl|h
 · exact FD (.inl this)
 · exact FD (.inr (.inl this))
 · exact FD (.inr (.inr (.inl (by rw[h];exact this))))
theorem Dm.entry {L:vQ} {body:Code} (hk:L.okAt body S=true):Dm S S (L.mods S) (BG body) L.head:=by
 refine⟨λn e h=>JA h,λt v h=>Io (wY h),λn h=>h,λn _ _=>rfl,λt _=>rfl,λn h=>vQ.has_kept (.inl rfl) h,vQ.has_ok (.inl rfl) hk,?_⟩;refine all_eq_true.2 λp hp=>?_;split
 · rfl
 · rename_i r hr;split
   · rfl
   · have:=FD (L:=L) (S:=S) (.inr (.inr (.inr (J1 hp hr))));cases h:vz (L.mods S) r with
     | none=>exact absurd h this
     | some _=>rfl
theorem Dm.behind {L:vQ} {body:Code} {d:L.head.den} {s:wZ} (hk:L.okAt body S=true) (hs:L.has s) (hx:BJ (L.head.over (L.base body S) d) S') (hn:L.okNew body S (L.head.over (L.base body S) d) S'=true) (hf:Go.V.freed S (L.mods S) (s.sigma S')=true) :
 Dm S S' (L.mods S) (BG body) s:=by
 obtain⟨⟨nw,hen⟩,nt,htm⟩:=hx;have hE:S'.en=nw++((L.head.st d).en++(L.mods S++S.en)):=hen
 have hT:S'.tm=nt++((L.head.st d).tm++(BG body++S.tm)):=htm;have hk':=hk
 simp only[vQ.okAt,aT]at hk';have hk1:=hk'.1
 simp only[wZ.okAt,aT]at hk1;simp only[vQ.okNew,aT]at hn;rw[hen,htm,Fb,Fb]at hn;refine⟨λn e h=>JA h,λt v h=>Io (wY h),λn h=>?_,λn hm hd=>?_,λt ht=>?_,λn h=>vQ.has_kept hs h,vQ.has_ok hs hk,hf⟩
 · rw[hE];exact zl _ _ _ (zl _ _ _ (zl _ _ _ h))
 · rw[hE,wG,Ip λp hp he=>?_]
   · simp only;rw[wG];have:vz (L.head.st d).en n=none:=by
      cases hf:vz (L.head.st d).en n with
      | none=>rfl
      | some y =>
       exfalso;have h1:n∈(yW L.head.en (zt L.head.tm (xn L.head.en) d).2).map (·.1):=AQ.2 (by rw[show vz (yW L.head.en (zt L.head.tm (xn L.head.en) d).2) n=some y from hf];simp)
       rw[Au]at h1;obtain⟨p,hp,rfl⟩:=mem_map.1 h1;obtain⟨k,x⟩:=p;cases x with
       | root e m=>exact hd (zv hk1.1 hp)
       | keep e m=>exact vQ.has_kept (S:=S) (L:=L) (.inl rfl) (Gt (AT hk1.2.1 hp) (by simp)) hm
       | tree e=>exact vQ.has_kept (S:=S) (L:=L) (.inl rfl) (Gt (AT hk1.2.1 hp) (by simp)) hm
       | box ss=>exact vQ.has_kept (S:=S) (L:=L) (.inl rfl) (Gt (AT hk1.2.1 hp) (by simp)) hm
     rw[this];simp only;rw[wG,hm]
   · have:=all_eq_true.1 hn.1 p hp;rw[he]at this;split at this
     · rename_i h;exact hd h
     · rw[hm]at this;cases this
 · unfold St.tmp;rw[hT,wG,Ip λp hp he=>?_]
   · simp only;rw[wG];have:vz (L.head.st d).tm t=none:=by
      cases hf:vz (L.head.st d).tm t with
      | none=>rfl
      | some y =>
       exfalso;have h1:t∈(zt L.head.tm (xn L.head.en) d).1.map (·.1):=AQ.2 (by rw[show vz (zt L.head.tm (xn L.head.en) d).1 t=some y from hf];simp)
       have h1:t∈L.head.tm.map (·.1):=(G7 L.head.tm (xn L.head.en) d)▸h1;obtain⟨p,hp,rfl⟩:=mem_map.1 h1;have:=all_eq_true.1 hk'.2.2.1 p hp
       rw[ht]at this;cases this
     rw[this];simp only;rw[wG,ht]
   · have:=all_eq_true.1 hn.2 p hp;rw[he,ht]at this;cases this
theorem Dn {A:Type} {L:vQ} {body:Code} {H:St} {s:wZ} {k:s.den->Option A} {r:A} (h:L.leave body S H s S' k=some r) :
 vZ (s.seals S')=true/\L.okNew body S H (s.shut S')=true/\freed S (L.mods S) (s.sigma (s.shut S'))=true/\∃d,s.read (s.shut S')=some d/\k d=some r:=by
 unfold vQ.leave at h;cases hc:(vZ (s.seals S')&&(L.okNew body S H (s.shut S')&&freed S (L.mods S) (s.sigma (s.shut S'))))with
 | false=>rw[hc]at h;cases h
 | true =>
  rw[hc]at h;simp only[aT,cT]at hc h;cases hd:s.read (s.shut S')with
  | none=>rw[hd]at h;cases h
  | some d=>rw[hd]at h;exact⟨hc.1,hc.2.1,hc.2.2,d,rfl,h⟩
theorem HD {s:wZ} {L:vQ} {body:Code} {d:s.den}:BJ S (s.over (L.base body S) d):=by
 refine⟨⟨(s.st d).en++L.mods S,?_⟩,⟨(s.st d).tm++BG body,?_⟩⟩
 · show (s.st d).en++(L.mods S++S.en)=_;rw[append_assoc]
 · show (s.st d).tm++(BG body++S.tm)=_;rw[append_assoc]
end Go.V
namespace Go.V
variable {P:Program} {w0:World} {T N:Nat->Prop} {S S' S1 S2:St} {g g1:Gh} {w w1 w':World} {a a':Act} {G:xC} {nt:Nat} {ann:List (Nat×vQ)}

structure S5 (w0:World) (T N:Nat->Prop) (nt:Nat) (S:St) (g:Gh) (w:World) {A:Type} (K:E8 A) (r:A) (Q:Exit->Act->World->Prop):Prop where
 n:∀S' a' w',wV S'->BJ S S'->At w0 T N nt (dom S.en) g w S' a' w'->K.n S'=some r->Q .normal a' w'
 x:∀i S' a' w',wV S'->BJ S S'->At w0 T N nt (dom S.en) g w S' a' w'->K.x i S'=some r->Q (.exit i) a' w'
 r:∀S' a' w',wV S'->BJ S S'->At w0 T N nt (dom S.en) g w S' a' w'->K.r S'=some r->Q .ret a' w'
def Bt (P:Program) (G:xC) (ann:List (Nat×vQ)) (nt:Nat) (c:Code):Prop :=
 ∀{A:Type} {w0:World} {T N:Nat->Prop} {S:St} {K:E8 A} {r:A} {g:Gh} {w:World} {a:Act} {Q:Exit->Act->World->Prop},Ak nt c=true->wB w0 T N S g w a->nt<=a.tmps.size->wV S->zZ G ann c S K=some r ->
  S5 w0 T N nt S g w K r Q->c.wp P Q a w
theorem xj {α β:Type} (step:α->Option (α⊕β)) (k:Nat) (x:α):ze step (k+1) x=(step x).bind (Sum.elim (ze step k) some):=by
 show (step x).bind _=_
 congr 1
 funext v
 cases v<;>rfl
theorem D3 {S:St}:∀{l:List xp} {xs:List Cell},wo S.en false true (AI S l xs)
 | [],xs=>by intro p hp;cases xs<;>simp[AI]at hp
 | s::l,[]=>by intro p hp;cases s<;>simp[AI]at hp
 | s::l,x::xs=>by
  have ih:=D3 (S:=S) (l:=l) (xs:=xs);have key:∀{c:CT} {x:Cell},wo S.en false true (AI S (.dat c::l) (x::xs)):=by
   intro c x;cases c with
   | sl e=>cases x with
    | own r =>
     intro p hp;simp only[AI]at hp;rcases mem_append.1 hp with hp|hp
     · split at hp
       · rename_i e' m ys hr;obtain rfl:=mem_singleton.1 hp;exact⟨e',m,ys,hr,(λh=>by cases h),rfl⟩
       · simp at hp
     · exact ih p hp
    | _=>exact ih
   | _=>exact ih
  cases s with
  | dat c=>exact key
  | _=>exact ih
theorem FE {s:wZ} {S:St}:wo S.en false true (s.seals S):=by
 refine wo.append (λp hp=>?_) (λp hp=>?_)
 · obtain⟨q,_,hp⟩:=mem_flatMap.1 hp;exact D3 p hp
 · obtain⟨q,_,hp⟩:=mem_flatMap.1 hp;split at hp
   · split at hp
     · exact D3 p hp
     · simp at hp
   · simp at hp
theorem KF {l:List (vv×Entry)} {D:vv->Prop} {H:St} (hu:wo S'.en false true l) (hd:vZ l=true) (hc:wV S') (he:BJ H S') (hat:At w0 T N nt D g w S' a' w') :
 wV (S'.more l)/\BJ H (S'.more l)/\At w0 T N nt D g w (S'.more l) a' w':=by
 obtain⟨g1,hI,hn,hle0⟩:=hat;obtain⟨g2,hM,hle,_⟩:=hI.ms.useAll hu hd;have hdom:∀n,dom S'.en n->dom (S'.more l).en n:=λn h=>Bb h
 refine⟨⟨λt=>(hc.tmp t).mono hdom,λn cs h=>?_⟩,he.trans ⟨⟨_,rfl⟩,⟨[],rfl⟩⟩,g2,⟨hM.mem,hM.since,λt=>(hI.tmps t).mono hle,hI.plain⟩,hn,hle0.trans hle⟩;have h:vz (l++S'.en) n=some (.box cs):=h
 rw[wG]at h;split at h
 · rename_i y hy;cases h;obtain⟨_,_,_,_,_,he⟩:=hu _ (wY hy);cases he
 · exact λc hc'=>(hc.box n cs h c hc').mono hdom
theorem Gw {L:vQ} {body:Code} (hb:Bt P G ann nt body) (hbel:Ak nt body=true) (hk:L.okAt body S=true) (hcS:wV S) {β:Type} {KX:L.head.den->Nat->St->Option (L.head.den⊕β)} {KR:L.head.den->St->Option (L.head.den⊕β)} {y:β}
 {Q:Exit->Act->World->Prop} {step:L.head.den->Option (L.head.den⊕β)}
 (hstep:∀d,step d=zZ G ann body (L.head.over (L.base body S) d) ⟨λS'=>L.leave body S (L.head.over (L.base body S) d) L.head S' λd=>some (.inl d),KX d,KR d⟩)
 (hx:∀d i S' a' w' v,wV S'->BJ (L.head.over (L.base body S) d) S'->At w0 T N nt (dom S.en) g w S' a' w'->KX d i S'=some v->(∀d',v≠.inl d')/\(v=.inr y->Q (.exit i) a' w'))
 (hr:∀d S' a' w' v,wV S'->BJ (L.head.over (L.base body S) d) S'->At w0 T N nt (dom S.en) g w S' a' w'->KR d S'=some v->(∀d',v≠.inl d')/\(v=.inr y->Q .ret a' w'))
 (hkx:True):∀(k:Nat) (d:L.head.den) (a':Act) (w':World),ze step k d=some y->wV (L.head.over (L.base body S) d)->At w0 T N nt (dom S.en) g w (L.head.over (L.base body S) d) a' w'->Code.rounds P body Q k a' w'
 | 0,d,a',w',h,_,_=>by cases h
 | k+1,d,a',w',h,hc,hat=>by
  rw[xj]at h;rw[Option.bind_eq_some_iff]at h;obtain⟨v,hv,hgo⟩:=h;rw[hstep]at hv;obtain⟨g1,hI,hn,hle⟩:=hat;rw[rounds_succ];refine hb hbel hI hn hc hv ⟨λS' a2 w2 hc' he hat' hkn=>?_,λi S' a2 w2 hc' he hat' hkx=>?_,λS' a2 w2 hc' he hat' hkr=>?_⟩
  · obtain⟨hd1,hn1,hf1,d',hd',hinl⟩:=Dn hkn;cases hinl;obtain⟨_,he,g2,hI2,hn2,hle2⟩:=KF FE hd1 hc' he hat';have hT:=Dm.behind hk (.inl rfl) he hn1 hf1
    obtain⟨g3,k1,k2,k3⟩:=FC hI2 hcS hT hd';refine Gw hb hbel hk hcS hstep hx hr hkx k d' a2 w2 hgo k3 ⟨g3,k1,hn2,?_⟩;have hle3:=hle.trans hle2
    exact⟨k2.dom,λn hn=>(k2.loc n hn).trans (hle3.loc n hn),λn hn=>(k2.esz n hn).trans (hle3.esz n hn),λb hb=>k2.imm b (hle3.imm b hb),hle3.mem,λn hn=>(k2.rows n hn).trans (hle3.rows n hn)⟩
  · obtain⟨h1,h2⟩:=hx d i S' a2 w2 v hc' he (At.trans hle hat') hkx;cases v with
    | inl d'=>exact absurd rfl (h1 d')
    | inr b=>cases hgo;exact h2 rfl
  · obtain⟨h1,h2⟩:=hr d S' a2 w2 v hc' he (At.trans hle hat') hkr;cases v with
    | inl d'=>exact absurd rfl (h1 d')
    | inr b=>cases hgo;exact h2 rfl
theorem J2 {L:vQ} {body:Code} {s:wZ} {d:L.head.den} {d':s.den} (hk:L.okAt body S=true) (hs:L.has s) (hcS:wV S) (hc':wV S') (he:BJ (L.head.over (L.base body S) d) S') (hat:At w0 T N nt (dom S.en) g w S' a' w')
 (h0:vZ (s.seals S')=true) (h1:L.okNew body S (L.head.over (L.base body S) d) (s.shut S')=true) (h2:freed S (L.mods S) (s.sigma (s.shut S'))=true) (h3:s.read (s.shut S')=some d') :
 wV (s.over (L.base body S) d')/\At w0 T N nt (dom S.en) g w (s.over (L.base body S) d') a' w':=by
 obtain⟨_,he,g2,hI2,hn2,hle2⟩:=KF FE h0 hc' he hat;obtain⟨g3,k1,k2,k3⟩:=FC hI2 hcS (Dm.behind hk hs he h1 h2) h3;exact⟨k3,g3,k1,hn2,⟨k2.dom,λn hn=>(k2.loc n hn).trans (hle2.loc n hn),λn hn=>(k2.esz n hn).trans (hle2.esz n hn),λb hb=>k2.imm b (hle2.imm b hb),hle2.mem,λn hn=>(k2.rows n hn).trans (hle2.rows n hn)⟩⟩
theorem MZ {A:Type} {id:Nat} {b:Code} {S:St} {K:E8 A} (h:∀c,b≠.loop c):zZ G ann (.block id b) S K=zZ G ann b S ⟨K.n,λi S'=>cond (Nat.beq i id) (K.n S') (K.x i S'),K.r⟩:=by
 cases b with
 | loop c=>exact absurd rfl (h c)
 | _=>rfl
theorem BT {id:Nat} {b:Code} (hb:Bt P G ann nt b) (h:∀c,b≠.loop c):Bt P G ann nt (.block id b):=by
 intro A w0 T N S K r g w a Q hbel hI hn hc hr hg;rw[MZ h]at hr;refine wp_block (hb hbel hI hn hc hr ⟨hg.n,λi S' a' w' hc' he hat hk=>?_,hg.r⟩);show if i=id then Q .normal a' w' else Q (.exit i) a' w'
 have hk:cond (Nat.beq i id) (K.n S') (K.x i S')=some r:=hk;by_cases hid:i=id
 · subst hid;rw[show Nat.beq i i=true from Nat.beq_refl i]at hk;rw[if_pos rfl];exact hg.n S' a' w' hc' he hat hk
 · have hb:Nat.beq i id=false:=by cases hbb:Nat.beq i id with
    | false=>rfl
    | true=>exact absurd (Nat.eq_of_beq_eq_true hbb) hid
   rw[hb]at hk;rw[if_neg hid];exact hg.x i S' a' w' hc' he hat hk
theorem PE {id:Nat} {body:Code} (hb:Bt P G ann nt body) {A:Type} {w0:World} {T N:Nat->Prop} {S:St} {K:E8 A} {r:A} {g:Gh} {w:World} {a:Act} {Q:Exit->Act->World->Prop} (hbel:Ak nt body=true) (hI:wB w0 T N S g w a) (hn:nt<=a.tmps.size) (hcS:wV S)
 (hr:Fu ann id body (λS K=>zZ G ann body S K) S K=some r) (hg:S5 w0 T N nt S g w K r Q):(Code.block id (.loop body)).wp P Q a w:=by
 cases hL:vz ann id with
 | none =>
  have hr:(match vz ann id with|none=>none|some L=>_:Option A)=some r:=hr;rw[hL]at hr;cases hr
 | some L =>
  obtain⟨head,out,bk⟩:=L;cases bk with
  | none =>
   have hr:(match vz ann id with
    | none=>none
    | some L=>cond (L.okAt body S) (match L.head.read S with
     | none=>none
     | some d=>match L with
      | ⟨head,out,none⟩=>(loop (λd:head.den=>let H:=head.over (vQ.base ⟨head,out,none⟩ body S) d
       zZ G ann body H ⟨λS'=>vQ.leave ⟨head,out,none⟩ body S H head S' λd=>some (.inl d),
        λi S'=>cond (Nat.beq i id) (vQ.leave ⟨head,out,none⟩ body S H out S' λd=>some (.inr d)) none,λ_=>none⟩) d).bind
       λd=>K.n (out.over (vQ.base ⟨head,out,none⟩ body S) d)
      | ⟨head,out,some back⟩=>_) none:Option A)=some r:=hr
   rw[hL]at hr;simp only at hr;cases hk:vQ.okAt ⟨head,out,none⟩ body S with
   | false=>rw[hk]at hr;cases hr
   | true =>
    rw[hk]at hr;simp only[cT]at hr;cases hd:head.read S with
    | none=>rw[hd]at hr;cases hr
    | some d0 =>
     rw[hd]at hr;simp only at hr;rw[Option.bind_eq_some_iff]at hr;obtain⟨y,hy,hend⟩:=hr;obtain⟨k,hit⟩:=Gv hy;obtain⟨g3,k1,k2,k3⟩:=FC hI hcS (Dm.entry hk) hd;refine wp_block (wp_loop_rounds k (Gw (L:=⟨head,out,none⟩) hb hbel hk hcS (w0:=w0) (T:=T) (N:=N) (g:=g) (w:=w) (β:=out.den) (KX:=λd i S'=>cond (Nat.beq i id) (vQ.leave ⟨head,out,none⟩ body S (head.over (vQ.base ⟨head,out,none⟩ body S) d) out S' λd=>some (.inr d)) none) (KR:=λ_ _=>none) (λd=>rfl) (λd i S' a' w' v hc' he hat hkx=>?_) (λd S' a' w' v hc' he hat hkr=>by cases hkr) trivial k d0 a w hit k3 ⟨g3,k1,hn,k2⟩));have hkx:cond (Nat.beq i id) (vQ.leave ⟨head,out,none⟩ body S (head.over (vQ.base ⟨head,out,none⟩ body S) d) out S' λd=>some (.inr d)) none=some v:=hkx
     cases hid:Nat.beq i id with
     | false=>rw[hid]at hkx;cases hkx
     | true =>
      have hkx':vQ.leave ⟨head,out,none⟩ body S (head.over (vQ.base ⟨head,out,none⟩ body S) d) out S' (λd=>some (.inr d))=some v:=by rw[hid]at hkx;exact hkx
      obtain rfl:=Nat.eq_of_beq_eq_true hid;obtain⟨e0,e1,e2,d',e3,e4⟩:=Dn (L:=⟨head,out,none⟩) hkx';cases e4;refine⟨(λd h=>by cases h),λhv=>?_⟩;cases hv;obtain⟨f1,f2⟩:=J2 (L:=⟨head,out,none⟩) hk (.inr (.inl rfl)) hcS hc' he hat e0 e1 e2 e3;show if i=i then Q .normal a' w' else _
      rw[if_pos rfl];exact hg.n _ a' w' f1 HD f2 hend
  | some back =>
   have hr:(match vz ann id with
    | none=>none
    | some L=>cond (L.okAt body S) (match L.head.read S with
     | none=>none
     | some d=>match L with
      | ⟨head,out,none⟩=>_
      | ⟨head,out,some back⟩=>(loop (β:=out.den⊕back.den) (λd:head.den=>let H:=head.over (vQ.base ⟨head,out,some back⟩ body S) d
       zZ G ann body H ⟨λS'=>vQ.leave ⟨head,out,some back⟩ body S H head S' λd=>some (.inl d),
        λi S'=>cond (Nat.beq i id) (vQ.leave ⟨head,out,some back⟩ body S H out S' λd=>some (.inr (.inl d))) none,
        λS'=>vQ.leave ⟨head,out,some back⟩ body S H back S' λd=>some (.inr (.inr d))⟩) d).bind
       (Sum.elim (λd=>K.n (out.over (vQ.base ⟨head,out,some back⟩ body S) d)) (λd=>K.r (back.over (vQ.base ⟨head,out,some back⟩ body S) d)))) none:Option A)=some r:=hr
   rw[hL]at hr;simp only at hr;cases hk:vQ.okAt ⟨head,out,some back⟩ body S with
   | false=>rw[hk]at hr;cases hr
   | true =>
    rw[hk]at hr;simp only[cT]at hr;cases hd:head.read S with
    | none=>rw[hd]at hr;cases hr
    | some d0 =>
     rw[hd]at hr;simp only at hr;rw[Option.bind_eq_some_iff]at hr;obtain⟨y,hy,hend⟩:=hr;obtain⟨k,hit⟩:=Gv hy;obtain⟨g3,k1,k2,k3⟩:=FC hI hcS (Dm.entry hk) hd;refine wp_block (wp_loop_rounds k (Gw (L:=⟨head,out,some back⟩) hb hbel hk hcS (w0:=w0) (T:=T) (N:=N) (g:=g) (w:=w) (β:=out.den⊕back.den) (KX:=λd i S'=>cond (Nat.beq i id) (vQ.leave ⟨head,out,some back⟩ body S (head.over (vQ.base ⟨head,out,some back⟩ body S) d) out S' λd=>some (Sum.inr (Sum.inl d))) none) (KR:=λd S'=>vQ.leave ⟨head,out,some back⟩ body S (head.over (vQ.base ⟨head,out,some back⟩ body S) d) back S' λd=>some (Sum.inr (Sum.inr d))) (λd=>rfl) (λd i S' a' w' v hc' he hat hkx=>?_) (λd S' a' w' v hc' he hat hkr=>?_) trivial k d0 a w hit k3 ⟨g3,k1,hn,k2⟩))
     · have hkx:cond (Nat.beq i id) (vQ.leave ⟨head,out,some back⟩ body S (head.over (vQ.base ⟨head,out,some back⟩ body S) d) out S' λd=>some (.inr (.inl d))) none=some v:=hkx;cases hid:Nat.beq i id with
       | false=>rw[hid]at hkx;cases hkx
       | true =>
        have hkx':vQ.leave ⟨head,out,some back⟩ body S (head.over (vQ.base ⟨head,out,some back⟩ body S) d) out S' (λd=>some (Sum.inr (Sum.inl d)))=some v:=by rw[hid]at hkx;exact hkx
        obtain rfl:=Nat.eq_of_beq_eq_true hid;obtain⟨e0,e1,e2,d',e3,e4⟩:=Dn (L:=⟨head,out,some back⟩) hkx';cases e4;refine⟨(λd h=>by cases h),λhv=>?_⟩;cases hv;obtain⟨f1,f2⟩:=J2 (L:=⟨head,out,some back⟩) hk (.inr (.inl rfl)) hcS hc' he hat e0 e1 e2 e3;show if i=i then Q .normal a' w' else _
        rw[if_pos rfl];exact hg.n _ a' w' f1 HD f2 hend
     · obtain⟨e0,e1,e2,d',e3,e4⟩:=Dn (L:=⟨head,out,some back⟩) hkr;cases e4;refine⟨(λd h=>by cases h),λhv=>?_⟩;cases hv;obtain⟨f1,f2⟩:=J2 (L:=⟨head,out,some back⟩) hk (.inr (.inr rfl)) hcS hc' he hat e0 e1 e2 e3;exact hg.r _ a' w' f1 HD f2 hend
theorem N0 {S:St} {id:Nat}:wo S.en false true (Bo ann id S):=by
 unfold Bo;split
 · exact FE
 · intro p hp;simp at hp
theorem R6 {id:Nat} {body:Code} (hb:Bt P G ann nt body):Bt P G ann nt (.block id (.loop body)):=by
 intro A w0 T N S K r g w a Q hbel hI hn hcS hr hg;have hr:cond (vZ (Bo ann id S)) (Fu ann id body (λS K=>zZ G ann body S K) (S.more (Bo ann id S)) K) none=some r:=hr
 cases hd:vZ (Bo ann id S)with
 | false=>rw[hd]at hr;cases hr
 | true =>
  rw[hd]at hr;have hr:Fu ann id body (λS K=>zZ G ann body S K) (S.more (Bo ann id S)) K=some r:=hr
  have hu:=N0 (ann:=ann) (S:=S) (id:=id);obtain⟨g1,hM,hle,_⟩:=hI.ms.useAll hu hd;have hdom:∀n,dom S.en n->dom (S.more (Bo ann id S)).en n:=λn h=>Bb h
  have hI1:wB w0 T N (S.more (Bo ann id S)) g1 w a:=⟨hM.mem,hM.since,λt=>(hI.tmps t).mono hle,hI.plain⟩;have hc1:wV (S.more (Bo ann id S)):=⟨λt=>(hcS.tmp t).mono hdom,λn cs h=>by
   have h:vz (Bo ann id S++S.en) n=some (.box cs):=h;rw[wG]at h;split at h
   · rename_i y hy;cases h;obtain⟨_,_,_,_,_,he⟩:=hu _ (wY hy);cases he
   · exact λc hc=>(hcS.box n cs h c hc).mono hdom⟩
  have hx:BJ S (S.more (Bo ann id S)):=⟨⟨_,rfl⟩,⟨[],rfl⟩⟩;exact PE hb hbel hI1 hn hc1 hr ⟨λS' a' w' h1 h2 h3 h4=>hg.n S' a' w' h1 (hx.trans h2) (At.trans hle h3) h4,λi S' a' w' h1 h2 h3 h4=>hg.x i S' a' w' h1 (hx.trans h2) (At.trans hle h3) h4,λS' a' w' h1 h2 h3 h4=>hg.r S' a' w' h1 (hx.trans h2) (At.trans hle h3) h4⟩

theorem S6 {x y:Code} (hx:Bt P G ann nt x) (hy:Bt P G ann nt y):Bt P G ann nt (.seq x y):=by
 intro A w0 T N S K r g w a Q hb hI hn hc hr hg;have hb:(Ak nt x&&Ak nt y)=true:=hb
 rw[aT]at hb;have hr:zZ G ann x S ⟨λS'=>zZ G ann y S' K,K.x,K.r⟩=some r:=hr
 refine wp_seq (hx hb.1 hI hn hc hr ⟨λS1 a1 w1 hc1 he1 hat1 hk1=>?_,λi S1 a1 w1 hc1 he1 hat1 hk1=>hg.x i S1 a1 w1 hc1 he1 hat1 hk1,λS1 a1 w1 hc1 he1 hat1 hk1=>hg.r S1 a1 w1 hc1 he1 hat1 hk1⟩);obtain⟨g1,hI1,hn1,hle1⟩:=hat1;exact hy hb.2 hI1 hn1 hc1 hk1 ⟨λS2 a2 w2 hc2 he2 hat2 hk2=>hg.n S2 a2 w2 hc2 (he1.trans he2) (At.trans hle1 hat2) hk2,
  λi S2 a2 w2 hc2 he2 hat2 hk2=>hg.x i S2 a2 w2 hc2 (he1.trans he2) (At.trans hle1 hat2) hk2,
  λS2 a2 w2 hc2 he2 hat2 hk2=>hg.r S2 a2 w2 hc2 (he1.trans he2) (At.trans hle1 hat2) hk2⟩
theorem R7 {c:Operand} {x y:Code} (hx:Bt P G ann nt x) (hy:Bt P G ann nt y):Bt P G ann nt (.cond c x y):=by
 intro A w0 T N S K r g w a Q hb hI hn hc hr hg;have hb:(Ak nt x&&Ak nt y)=true:=hb
 rw[aT]at hb;have hr:(match S.eval c with | .cell (.bool t)=>cond t (zZ G ann x S K) (zZ G ann y S K)|_=>none:Option A)=some r:=hr
 split at hr
 · rename_i t he;have hv:a.eval c=.bool t:=BZ hI he
   refine wp_cond hv ?_;cases t with
   | true=>exact hx hb.1 hI hn hc hr hg
   | false=>exact hy hb.2 hI hn hc hr hg
 · cases hr
theorem zS (hG:AW P G) (hm:P.follows .mixedOrders=true):∀c,Bt P G ann nt c
 | .skip=>λ_ hI hn hc hr hg=>wp_skip (hg.n _ _ _ hc (BJ.refl _) ⟨_,hI,hn,Le.refl _ _ _⟩ hr)
 | .region id ops draw=>λhb hI hn hc hr hg=>Og hG hm hb hI hn hc hr λS' a' w' hc' he hat hk=>hg.n S' a' w' hc' he hat hk
 | .seq x y=>S6 (zS hG hm x) (zS hG hm y)
 | .cond c x y=>R7 (zS hG hm x) (zS hG hm y)
 | .block id (.loop body)=>R6 (zS hG hm body)
 | .block id .skip=>BT (zS hG hm .skip) (λc h=>by cases h)
 | .block id (.region i o d)=>BT (zS hG hm (.region i o d)) (λc h=>by cases h)
 | .block id (.seq x y)=>BT (zS hG hm (.seq x y)) (λc h=>by cases h)
 | .block id (.cond c x y)=>BT (zS hG hm (.cond c x y)) (λc h=>by cases h)
 | .block id (.block i x)=>BT (zS hG hm (.block i x)) (λc h=>by cases h)
 | .block id (.exit i)=>BT (zS hG hm (.exit i)) (λc h=>by cases h)
 | .block id .ret=>BT (zS hG hm .ret) (λc h=>by cases h)
 | .block id (.scope x)=>λ_ _ _ _ hr _=>by cases hr
 | .block id (.label l)=>λ_ _ _ _ hr _=>by cases hr
 | .block id (.goto l)=>λ_ _ _ _ hr _=>by cases hr
 | .exit id=>λ_ hI hn hc hr hg=>wp_exit (hg.x id _ _ _ hc (BJ.refl _) ⟨_,hI,hn,Le.refl _ _ _⟩ hr)
 | .ret=>λ_ hI hn hc hr hg=>wp_ret (hg.r _ _ _ hc (BJ.refl _) ⟨_,hI,hn,Le.refl _ _ _⟩ hr)
 | .loop _=>λ_ _ _ _ hr _=>by cases hr
 | .scope _=>λ_ _ _ _ hr _=>by cases hr
 | .label _=>λ_ _ _ _ hr _=>by cases hr
 | .goto _=>λ_ _ _ _ hr _=>by cases hr
 | .block id (.rangeFunc ..)=>λ_ _ _ _ hr _=>by cases hr
 | .block id (.refuse ..)=>λ_ _ _ _ hr _=>by cases hr
 | .rangeFunc ..=>λ_ _ _ _ hr _=>by cases hr
 | .refuse ..=>λ_ _ _ _ hr _=>by cases hr
end Go.V
namespace Go.V
variable {w0:World} {T N:Nat->Prop} {en en':List (vv×Entry)} {g g':Gh} {w:World}

def CT.Gifts (I:Nat->Prop) (w:World):(c:CT)->c.den->Value->List Nat->List Nat->Prop
 | .sl e,xs,v,ts,ns=>∃tp:Option Nat,ts=tp.toList/\y9 w e xs v tp ns/\∀b∈ns,I b
 | c,x,v,ts,ns=>ts=[]/\ns=[]/\CT.Rep w c x v []
def Cs.Gifts (I:Nat->Prop) (w:World):(e:Cs)->e.den->List Value->List Nat->List Nat->Prop
 | .one c,x,vs,ts,ns=>∃v,vs=[v]/\CT.Gifts I w c x v ts ns
 | .cons c r,x,vs,ts,ns=>∃v vs' t1 t2 n1 n2,vs=v::vs'/\ts=t1++t2/\ns=n1++n2/\CT.Gifts I w c x.1 v t1 n1/\Cs.Gifts I w r x.2 vs' t2 n2
structure zb (w0:World) (T N:Nat->Prop) (en:List (vv×Entry)) (g:Gh) (ts ns:List Nat):Prop where
 t1:C9 ts
 n1:C9 ns
 tf:∀b∈ts,¬g.I b/\(∀m f,vz en m=some f->f.alive=true->g.top m≠some b)/\(w0.heap.size<=b\/T b)
 nf:∀b∈ns,(∀m f,vz en m=some f->f.deep=true->b∉g.nest m)/\(w0.heap.size<=b\/T b\/N b)
 tw:∀b∈ts,∀m f,vz en m=some f->f.isTree=true->b∉g.nest m
theorem FF {l m:List Nat} {b:Nat} (h:l.count b<=m.count b) (hb:b∈l):b∈m:=by
 have:=count_pos_iff.2 hb;exact count_pos_iff.1 (by omega)
theorem zb.mono {ts ns ts' ns':List Nat} (h:zb w0 T N en g ts ns) (ht:∀b,ts'.count b<=ts.count b) (hn:∀b,ns'.count b<=ns.count b):zb w0 T N en g ts' ns' :=
 ⟨λb=>Nat.le_trans (ht b) (h.t1 b),λb=>Nat.le_trans (hn b) (h.n1 b),λb hb=>h.tf b (FF (ht b) hb),λb hb=>h.nf b (FF (hn b) hb),λb hb=>h.tw b (FF (ht b) hb)⟩
structure yU (w0:World) (T N:Nat->Prop) (en:List (vv×Entry)) (g:Gh) (w:World) (new:List (vv×Entry)) (g':Gh) (ts ns:List Nat):Prop where
 ms:MS w0 T N (new++en) g' w
 le:Le (dom en) g w (dom (new++en)) g' w
 imm:g'.I=g.I
 giv:zb w0 T N (new++en) g' ts ns
theorem yU.refl (h:MS w0 T N en g w) {ts ns:List Nat} (hv:zb w0 T N en g ts ns):yU w0 T N en g w [] g ts ns:=⟨h,Le.refl _ _ _,rfl,hv⟩
theorem CT.give_put (h:MS w0 T N en g w) {mm:Bool} {c:CT} {x:c.den} {v:Value} {ts ns ts' ns':List Nat} {n:vv} (hg:CT.Gifts g.I w c x v ts ns) (hv:zb w0 T N en g (ts++ts') (cond mm ns []++ns')) (hn:vz en n=none) :
 ∃g',yU w0 T N en g w (c.give mm n x).2 g' ts' ns'/\vJ (dom ((c.give mm n x).2++en)) g' w (c.give mm n x).1 v:=by
 have hmono:zb w0 T N en g ts' ns':=hv.mono (λb=>by rw[count_append];omega) (λb=>by rw[count_append];omega);cases c with
 | sl e =>
  obtain⟨tp,rfl,hrep,hI⟩:=hg;have hnd:mm=true->ns.Nodup:=by rintro rfl;rw[←yf];intro b;have:=hv.n1 b;rw[cT,count_append]at this;omega
  have hi1:(g.set n ⟨v,e.len,tp,ns⟩).top n=tp:=by simp[Gh.set]
  have hi2:(g.set n ⟨v,e.len,tp,ns⟩).nest n=ns:=by simp[Gh.set]
  have ho1:∀m,m≠n->(g.set n ⟨v,e.len,tp,ns⟩).top m=g.top m:=λm hm=>by simp[Gh.set,hm]
  have ho2:∀m,m≠n->(g.set n ⟨v,e.len,tp,ns⟩).nest m=g.nest m:=λm hm=>by simp[Gh.set,hm]
  obtain⟨hM,hle⟩:=h.put (n:=n) (e:=.root e mm x) (i:=⟨v,e.len,tp,ns⟩) (λhd=>absurd hn hd) (Hr hrep)
   ⟨by simp[Gh.set],by rw[hi1,hi2];show y9 w e x (if n=n then v else g.loc n) tp ns;rw[if_pos rfl];exact hrep,by rw[hi2];exact hI,λhm=>by rw[hi2];exact hnd hm⟩
   (λ_ b hb=>by
    obtain⟨k1,k2,k3⟩:=hv.tf b (mem_append_left _ (by simpa using hb));exact⟨k1,λm f _ hm ha=>k2 m f hm ha,k3,λm f _ hm ht=>hv.tw b (mem_append_left _ (by simpa using hb)) m f hm ht⟩)
   (λhdp b hb=>by
    obtain rfl:mm=true:=hdp;obtain⟨k1,k2⟩:=hv.nf b (mem_append_left _ hb);exact⟨λm f _ hm hd=>k1 m f hm hd,k2⟩)
  refine⟨_,⟨hM,hle,rfl,hmono.t1,hmono.n1,λb hb=>?_,λb hb=>?_,λb hb m f hm ht=>?_⟩,xz.2 (.inl rfl),?_⟩
  rotate_left 2
  · have hmn:m≠n:=λe=>by
     subst e;have hm:vz ((m,Entry.root _ mm x)::en) m=some f:=hm
     rw[A6]at hm;cases hm;cases ht
    rw[ho2 m hmn];exact hmono.tw b hb m f (by simpa[CT.give,xq (Ne.symm hmn)]using hm) ht
  rotate_left
  · obtain⟨k1,k2,k3⟩:=hmono.tf b hb;refine⟨k1,λm f hm ha=>?_,k3⟩;by_cases hmn:m=n
    · subst hmn;rw[hi1];intro htp;have:=hv.t1 b
      rw[count_append,htp]at this;have h2:=count_pos_iff.2 hb
      simp at this;omega
    · rw[ho1 m hmn];exact k2 m f (by simpa[CT.give,xq (Ne.symm hmn)]using hm) ha
  · obtain⟨k1,k2⟩:=hmono.nf b hb;refine⟨λm f hm hd=>?_,k2⟩;by_cases hmn:m=n
    · subst hmn;obtain rfl:mm=true:=by
       have hm:vz ((m,Entry.root _ mm x)::en) m=some f:=hm;rw[A6]at hm;cases hm;exact hd
      rw[hi2];intro hbn;have:=hv.n1 b
      rw[cT,count_append]at this;have h2:=count_pos_iff.2 hb
      have h3:=count_pos_iff.2 hbn;omega
    · rw[ho2 m hmn];exact k1 m f (by simpa[CT.give,xq (Ne.symm hmn)]using hm) hd
  · show v=(if n=n then v else g.loc n);rw[if_pos rfl]
 | int k=>obtain⟨rfl,rfl,hr⟩:=hg;exact⟨g,yU.refl h hmono,CT.cell_rep (c:=.int k) hr (by simp)⟩
 | bool=>obtain⟨rfl,rfl,hr⟩:=hg;exact⟨g,yU.refl h hmono,CT.cell_rep (c:=.bool) hr (by simp)⟩
 | str=>obtain⟨rfl,rfl,hr⟩:=hg;exact⟨g,yU.refl h hmono,CT.cell_rep (c:=.str) hr (by simp)⟩
 | err=>obtain⟨rfl,rfl,hr⟩:=hg;exact⟨g,yU.refl h hmono,CT.cell_rep (c:=.err) hr (by simp)⟩
theorem yU.trans {new new':List (vv×Entry)} {g1 g2:Gh} {ts ns ts' ns':List Nat} (h:yU w0 T N en g w new g1 ts ns) (k:yU w0 T N (new++en) g1 w new' g2 ts' ns'):yU w0 T N en g w (new'++new) g2 ts' ns':=by
 have e:new'++new++en=new'++(new++en):=append_assoc _ _ _;exact⟨by rw[e];exact k.ms,by rw[e];exact h.le.trans k.le,k.imm.trans h.imm,by rw[e];exact k.giv⟩
theorem CT.give_name {mm:Bool} {n:vv} {c:CT} {x:c.den}:∀p∈(c.give mm n x).2,p.1=n:=by cases c<;>simp[CT.give]
theorem Cs.Gifts.imm {I I':Nat->Prop} (hI:∀b,I b->I' b):{c:Cs}->{x:c.den}->{vs:List Value}->{ts ns:List Nat}->Cs.Gifts I w c x vs ts ns->Cs.Gifts I' w c x vs ts ns:=by
 have hc:∀{c:CT} {x:c.den} {v:Value} {ts ns:List Nat},CT.Gifts I w c x v ts ns->CT.Gifts I' w c x v ts ns:=by
  intro c x v ts ns h;cases c with
  | sl e=>obtain⟨tp,h1,h2,h3⟩:=h;exact⟨tp,h1,h2,λb hb=>hI b (h3 b hb)⟩
  | _=>exact h
 intro c
 induction c using Cs.rec (motive_1:=λ_=>True)with
 | one c _=>intro x vs ts ns h;obtain⟨v,h1,h2⟩:=h;exact⟨v,h1,hc h2⟩
 | cons c r _ ih=>intro x vs ts ns h;obtain⟨v,vs',t1,t2,n1,n2,h1,h2,h3,h4,h5⟩:=h;exact⟨v,vs',t1,t2,n1,n2,h1,h2,h3,hc h4,ih h5⟩
 | _=>trivial
theorem Cs.give_put {mm:Bool}:{c:Cs}->{x:c.den}->{vs:List Value}->{ts ns ts' ns':List Nat}->{n:vv}->{en:List (vv×Entry)}->{g:Gh}->(h:MS w0 T N en g w)->(hg:Cs.Gifts g.I w c x vs ts ns)->(hv:zb w0 T N en g (ts++ts') (cond mm ns []++ns')) ->
 (hn:∀p∈(Cs.give mm n c x).2,vz en p.1=none)->(hd:vZ (Cs.give mm n c x).2=true)->∃g',yU w0 T N en g w (Cs.give mm n c x).2 g' ts' ns'/\vT (vJ (dom ((Cs.give mm n c x).2++en)) g' w) (Cs.give mm n c x).1 vs
 | .one c,x,vs,ts,ns,ts',ns',n,en,g,h,hg,hv,hn,hd=>by
  obtain⟨v,rfl,hg⟩:=hg;cases hs:(c.give mm n x).2 with
  | nil =>
   cases c with
   | sl e=>simp[CT.give]at hs
   | int k=>obtain⟨rfl,rfl,hr⟩:=hg;exact⟨g,yU.refl h (by cases mm<;>simpa using hv),CT.cell_rep (c:=.int k) hr (by simp),trivial⟩
   | bool=>obtain⟨rfl,rfl,hr⟩:=hg;exact⟨g,yU.refl h (by cases mm<;>simpa using hv),CT.cell_rep (c:=.bool) hr (by simp),trivial⟩
   | str=>obtain⟨rfl,rfl,hr⟩:=hg;exact⟨g,yU.refl h (by cases mm<;>simpa using hv),CT.cell_rep (c:=.str) hr (by simp),trivial⟩
   | err=>obtain⟨rfl,rfl,hr⟩:=hg;exact⟨g,yU.refl h (by cases mm<;>simpa using hv),CT.cell_rep (c:=.err) hr (by simp),trivial⟩
  | cons p l =>
   have hp:vz en n=none:=by
    have h1:=hn p (by show p∈(c.give mm n x).2;rw[hs];simp);have h2:=CT.give_name (mm:=mm) (n:=n) (c:=c) (x:=x) p (by rw[hs];simp)
    rw[←h2];exact h1
   obtain⟨g',k1,k2⟩:=CT.give_put h hg hv hp;exact⟨g',k1,k2,trivial⟩
 | .cons c r,x,vs,ts,ns,ts',ns',n,en,g,h,hg,hv,hn,hd=>by
  obtain⟨v,vs',t1,t2,n1,n2,rfl,rfl,rfl,hg1,hg2⟩:=hg;obtain⟨d1,d2,d3⟩:=xE (l:=(c.give mm n x.1).2) (m:=(Cs.give mm (n+1) r x.2).2) hd;obtain⟨g1,k1,k2⟩:=Cs.give_put (n:=n+1) (ts':=t1++ts') (ns':=cond mm n1 []++ns') h hg2 (hv.mono (λb=>by simp only[count_append];omega) (λb=>by cases mm<;>simp only[cT,cF,List.nil_append,count_append]<;>omega)) (λp hp=>hn p (mem_append_right _ hp)) d2;have hg1':CT.Gifts g1.I w c x.1 v t1 n1:=by rw[k1.imm];exact hg1
  cases hs:(c.give mm n x.1).2 with
  | nil =>
   have e:(Cs.give mm n (.cons c r) x).2=(Cs.give mm (n+1) r x.2).2:=by show (c.give mm n x.1).2++_=_;rw[hs];rfl
   have hsc:t1=[]/\n1=[]/\vJ (dom ((Cs.give mm (n+1) r x.2).2++en)) g1 w (c.give mm n x.1).1 v:=by
    cases c with
    | sl e=>simp[CT.give]at hs
    | int k=>obtain⟨rfl,rfl,hr⟩:=hg1;exact⟨rfl,rfl,CT.cell_rep (c:=.int k) hr (by simp)⟩
    | bool=>obtain⟨rfl,rfl,hr⟩:=hg1;exact⟨rfl,rfl,CT.cell_rep (c:=.bool) hr (by simp)⟩
    | str=>obtain⟨rfl,rfl,hr⟩:=hg1;exact⟨rfl,rfl,CT.cell_rep (c:=.str) hr (by simp)⟩
    | err=>obtain⟨rfl,rfl,hr⟩:=hg1;exact⟨rfl,rfl,CT.cell_rep (c:=.err) hr (by simp)⟩
   obtain⟨rfl,rfl,hcr⟩:=hsc;rw[e];exact⟨g1,by cases mm<;>simpa using k1,hcr,k2⟩
  | cons p l =>
   have hpn:=CT.give_name (mm:=mm) (n:=n) (c:=c) (x:=x.1) p (by rw[hs];simp);have hp:vz ((Cs.give mm (n+1) r x.2).2++en) n=none:=by
    rw[xi]
    · rw[←hpn];exact hn p (mem_append_left _ (by rw[hs];simp))
    · intro hm;exact d3 p.1 (mem_map_of_mem (by rw[hs];simp)) (hpn.symm▸hm)
   obtain⟨g2,k3,k4⟩:=CT.give_put k1.ms hg1' k1.giv hp;have e:(Cs.give mm n (.cons c r) x).2++en=(c.give mm n x.1).2++((Cs.give mm (n+1) r x.2).2++en):=append_assoc _ _ _
   refine⟨g2,k1.trans k3,?_,?_⟩
   · rw[e];exact k4
   · rw[e];exact vT.imp (λ_ _=>vJ.mono k3.le) k2
theorem J3 (h:MS w0 T N en g w) {n:vv} {b:Nat} {us:List Value} {cs:List Cell} {ts ns:List Nat} (hb:wX w b us) (hc:vT (vJ (dom en) g w) cs us) (hv:zb w0 T N en g (b::ts) ns) (hn:dom en n->g.loc n=.pointer (some ⟨b,0,none⟩)) (hf:∀e,vz en n=some e->e.alive=false) :
 ∃g',yU w0 T N en g w [(n,.box cs)] g' ts ns/\g'.loc n=.pointer (some ⟨b,0,none⟩):=by
 have hi1:(g.set n ⟨.pointer (some ⟨b,0,none⟩),g.esz n,some b,[]⟩).top n=some b:=by simp[Gh.set]
 have hi2:(g.set n ⟨.pointer (some ⟨b,0,none⟩),g.esz n,some b,[]⟩).nest n=[]:=by simp[Gh.set]
 have ho1:∀m,m≠n->(g.set n ⟨.pointer (some ⟨b,0,none⟩),g.esz n,some b,[]⟩).top m=g.top m:=λm hm=>by simp[Gh.set,hm]
 have ho2:∀m,m≠n->(g.set n ⟨.pointer (some ⟨b,0,none⟩),g.esz n,some b,[]⟩).nest m=g.nest m:=λm hm=>by simp[Gh.set,hm]
 have hle0:=Gh.set_le (en:=en) (g:=g) (w:=w) (n:=n) (.box cs) ⟨.pointer (some ⟨b,0,none⟩),g.esz n,some b,[]⟩ (λhd=>⟨(hn hd).symm,rfl⟩);obtain⟨hM,hle⟩:=h.put (n:=n) (e:=.box cs) (i:=⟨.pointer (some ⟨b,0,none⟩),g.esz n,some b,[]⟩) (λhd=>⟨(hn hd).symm,rfl⟩) rfl
  ⟨b,us,hi1,by simp[Gh.set],hb,vT.imp (λ_ _=>vJ.mono hle0) hc⟩
  (λ_ b' hb'=>by
   cases hb';obtain⟨k1,k2,k3⟩:=hv.tf b mem_cons_self;exact⟨k1,λm f _ hm ha=>k2 m f hm ha,k3,λm f _ hm ht=>hv.tw b mem_cons_self m f hm ht⟩)
  (λhd=>by cases hd)
 have hmono:zb w0 T N en g ts ns:=hv.mono (λc=>by rw[count_cons];omega) (λ_=>Nat.le_refl _);refine⟨_,⟨hM,hle,rfl,hmono.t1,hmono.n1,λc hc=>?_,λc hc=>?_,λc hc m f hm ht=>?_⟩,by simp[Gh.set]⟩
 rotate_left 2
 · have hmn:m≠n:=λe=>by
    subst e;have hm:vz ((m,Entry.box cs)::en) m=some f:=hm
    rw[A6]at hm;cases hm;cases ht
   rw[ho2 m hmn];exact hmono.tw c hc m f (by simpa[xq (Ne.symm hmn)]using hm) ht
 · obtain⟨k1,k2,k3⟩:=hmono.tf c hc;refine⟨k1,λm f hm ha=>?_,k3⟩;by_cases hmn:m=n
   · subst hmn;rw[hi1];intro he;cases he;have:=hv.t1 b
     rw[List.count_cons_self]at this;have h2:=count_pos_iff.2 hc
     omega
   · rw[ho1 m hmn];exact k2 m f (by simpa[xq (Ne.symm hmn)]using hm) ha
 · obtain⟨k1,k2⟩:=hmono.nf c hc;refine⟨λm f hm hd=>?_,k2⟩;by_cases hmn:m=n
   · subst hmn;rw[hi2];simp
   · rw[ho2 m hmn];exact k1 m f (by simpa[xq (Ne.symm hmn)]using hm) hd
end Go.V
namespace Go.V
variable {w0:World} {T N:Nat->Prop} {en en':List (vv×Entry)} {g g':Gh} {w:World}

def Qs:Bool->Option Bool|true=>some true|false=>none
def AL (I:Nat->Prop) (w:World) (own:Option Bool) (c:Cs) (x:c.den) (us:List Value) (ts ns:List Nat):Prop :=
 (∃m ns',own=some m/\Cs.Gifts I w c x us ts ns'/\(m=true->ns'=ns))\/(own=none/\ts=[]/\ns=[]/\∃F,Cs.Rep w c x us F/\∀b∈F,I b)
def Ac (I:Nat->Prop) (w:World):(ps:List wQ)->vI (wi ps)->List Value->List Nat->List Nat->Prop
 | [],_,vs,ts,ns=>vs=[]/\ts=[]/\ns=[]
 | .val agg c mv::ps,x,vs,ts,ns=>∃v vs' us t1 t2 n1 n2,vs=v::vs'/\isAgg agg v us/\ts=t1++t2/\ns=n1++n2/\AL I w (Qs mv) c (vI.hd c (wi ps) x) us t1 n1/\Ac I w ps (vI.tl c (wi ps) x) vs' t2 n2
 | .ptr c own::ps,x,vs,ts,ns=>∃b vs' us t1 t2 n1 n2,vs=.pointer (some ⟨b,0,none⟩)::vs'/\wX w b us/\ts=b::(t1++t2)/\ns=n1++n2/\AL I w own c (vI.hd c (wi ps) x) us t1 n1/\Ac I w ps (vI.tl c (wi ps) x) vs' t2 n2
theorem DP {D:vv->Prop} {agg:Bool} {cs:List Cell} {v:Value} {us:List Value} (h:vT (vJ D g w) cs us) (ha:isAgg agg v us):wP D g w (zY agg cs) v:=by
 rcases ha with ⟨rfl,rfl⟩|⟨rfl,rfl⟩
 · cases cs with
   | nil=>exact h.elim
   | cons c cs=>cases cs with
    | nil=>exact h.1
    | cons _ _=>exact h.2.elim
 · have:zY true cs=.agg cs:=by cases cs<;>rfl
   rw[this];exact⟨_,rfl,h⟩
theorem CS {own:Option Bool} {c:Cs} {x:c.den} {vs:List Value} {ts ns ts' ns':List Nat} {n:vv} (h:MS w0 T N en g w) (hg:AL g.I w own c x vs ts ns) (hv:zb w0 T N en g (ts++ts') (ns++ns'))
 (hn:∀p∈(yJ own n c x).2,vz en p.1=none) (hd:vZ (yJ own n c x).2=true):∃g',yU w0 T N en g w (yJ own n c x).2 g' ts' ns'/\vT (vJ (dom ((yJ own n c x).2++en)) g' w) (yJ own n c x).1 vs:=by
 rcases hg with ⟨m,ns1,rfl,hg,hm⟩|⟨rfl,rfl,rfl,F,hF,hI⟩
 · refine Cs.give_put h hg ?_ hn hd;cases m with
   | true=>rw[hm rfl];exact hv
   | false=>exact hv.mono (λb=>Nat.le_refl _) (λb=>by simp only[cF,List.nil_append,count_append];omega)
 · exact⟨g,yU.refl h (by simpa using hv),Cs.cells_rep hF hI⟩
def D4 (D:vv->Prop) (g:Gh):Nat->List wQ->List Value->Prop
 | _,[],_=>True
 | _,_::_,[]=>False
 | i,.val .. :: ps,_::vs=>D4 D g (i+1) ps vs
 | i,.ptr .. :: ps,v::vs=>(D (64*i+1)/\g.loc (64*i+1)=v)/\D4 D g (i+1) ps vs
theorem D4.mono {D D':vv->Prop} {w':World} (h:Le D g w D' g' w'):∀{i:Nat} {ps:List wQ} {vs:List Value},D4 D g i ps vs->D4 D' g' i ps vs
 | _,[],_,_=>trivial
 | i,.val .. :: ps,v::vs,k=>D4.mono (ps:=ps) (vs:=vs) h k
 | i,.ptr .. :: ps,v::vs,⟨⟨k1,k2⟩,k⟩=>⟨⟨h.dom _ k1,(h.loc _ k1).trans k2⟩,D4.mono h k⟩
 | _,.val .. :: _,[],k=>k
 | _,.ptr .. :: _,[],k=>k
def Iq (D:vv->Prop) (g:Gh) (w:World) (tm:List (Nat×AV)) (i:Nat) (vs:List Value):Prop :=
 ∀t,vz tm t=none\/∃k v x,t=i+k/\vs[k]?=some v/\vz tm t=some x/\wP D g w x v
theorem Iq.cons {D D':vv->Prop} {tm:List (Nat×AV)} {i:Nat} {vs:List Value} {v:Value} {x:AV} (h:Iq D g w tm (i+1) vs) (hle:Le D g w D' g' w) (hx:wP D' g' w x v):Iq D' g' w ((i,x)::tm) i (v::vs):=by
 intro t;rw[vY];by_cases hit:i=t
 · subst hit;exact .inr ⟨0,v,x,rfl,rfl,by rw[if_pos rfl],hx⟩
 · rw[if_neg hit];rcases h t with h|⟨k,u,y,h1,h2,h3,h4⟩
   · exact .inl h
   · exact .inr ⟨k+1,u,y,by omega,by simpa using h2,h3,h4.mono hle⟩
theorem JB {i:Nat} {agg:Bool} {c:Cs} {mv:Bool} {ps:List wQ} {x:vI (wi (.val agg c mv::ps))} :
 entry i (.val agg c mv::ps) x=((i,zY agg (yJ (Qs mv) (64*i+1) c (vI.hd c (wi ps) x)).1)::(entry (i+1) ps (vI.tl c (wi ps) x)).1,(yJ (Qs mv) (64*i+1) c (vI.hd c (wi ps) x)).2++(entry (i+1) ps (vI.tl c (wi ps) x)).2):=by
 cases mv<;>rfl
theorem JC {i:Nat} {c:Cs} {own:Option Bool} {ps:List wQ} {x:vI (wi (.ptr c own::ps))} :
 entry i (.ptr c own::ps) x=((i,.cell (.box (64*i+1) 0))::(entry (i+1) ps (vI.tl c (wi ps) x)).1,(64*i+1,.box (yJ own (64*i+2) c (vI.hd c (wi ps) x)).1)::((yJ own (64*i+2) c (vI.hd c (wi ps) x)).2++(entry (i+1) ps (vI.tl c (wi ps) x)).2)):=rfl
theorem yU.to_nil {new:List (vv×Entry)} {ts ns:List Nat} (h:yU w0 T N [] g w new g' ts ns):MS w0 T N new g' w:=by have:=h.ms;rwa [append_nil]at this
theorem AL.imm {I I':Nat->Prop} (hI:∀b,I b->I' b) {own:Option Bool} {c:Cs} {x:c.den} {us:List Value} {ts ns:List Nat} (h:AL I w own c x us ts ns):AL I' w own c x us ts ns:=by
 rcases h with ⟨m,ns',h1,h2,h3⟩|⟨h1,h2,h3,F,h4,h5⟩
 · exact .inl ⟨m,ns',h1,h2.imm hI,h3⟩
 · exact .inr ⟨h1,h2,h3,F,h4,λb hb=>hI b (h5 b hb)⟩
theorem FG (h0:MS w0 T N [] g w):∀(ps:List wQ) (i:Nat) (x:vI (wi ps)) (vs:List Value) (ts ns ts' ns':List Nat),zb w0 T N [] g (ts++ts') (ns++ns')->Ac g.I w ps x vs ts ns->vZ (entry i ps x).2=true ->
 ∃g',yU w0 T N [] g w (entry i ps x).2 g' ts' ns'/\Iq (dom (entry i ps x).2) g' w (entry i ps x).1 i vs/\D4 (dom (entry i ps x).2) g' i ps vs
 | [],i,x,vs,ts,ns,ts',ns',hv,ha,hd=>by
  obtain⟨rfl,rfl,rfl⟩:=ha;exact⟨g,yU.refl h0 (by simpa using hv),λt=>.inl rfl,trivial⟩
 | .val agg c mv::ps,i,x,vs,ts,ns,ts',ns',hv,ha,hd=>by
  obtain⟨v,vs',us,t1,t2,n1,n2,rfl,hag,rfl,rfl,hin,ha⟩:=ha;rw[JB]at hd ⊢;obtain⟨d1,d2,d3⟩:=xE hd;obtain⟨g1,k1,k2,k3⟩:=FG h0 ps (i+1) (vI.tl c (wi ps) x) vs' t2 n2 (t1++ts') (n1++ns') (hv.mono (λb=>by simp only[count_append];omega) (λb=>by simp only[count_append];omega)) ha d2;obtain⟨g2,k4,k5⟩:=CS (n:=64*i+1) k1.ms (hin.imm λb hb=>by rw[k1.imm];exact hb) k1.giv (λp hp=>by
   rw[append_nil];cases hf:vz (entry (i+1) ps (vI.tl c (wi ps) x)).2 p.1 with
   | none=>rfl
   | some y=>exact absurd (AQ.2 (by rw[hf];simp)) (d3 p.1 (mem_map_of_mem hp))) d1
  have kle:=k4.le;simp only[append_nil]at kle k5;refine⟨g2,k1.trans k4,k2.cons kle (DP k5 hag),?_⟩;exact D4.mono (ps:=ps) (vs:=vs') kle k3
 | .ptr c own::ps,i,x,vs,ts,ns,ts',ns',hv,ha,hd=>by
  obtain⟨b,vs',us,t1,t2,n1,n2,rfl,hob,rfl,rfl,hin,ha⟩:=ha;rw[JC]at hd ⊢;obtain⟨d0,hd⟩:=y7 hd;obtain⟨d1,d2,d3⟩:=xE hd;obtain⟨g1,k1,k2,k3⟩:=FG h0 ps (i+1) (vI.tl c (wi ps) x) vs' t2 n2 (t1++(b::ts')) (n1++ns') (hv.mono (λb'=>by simp only[count_append,count_cons,cons_append];omega) (λb'=>by simp only[count_append];omega)) ha d2;obtain⟨g2,k4,k5⟩:=CS (n:=64*i+2) k1.ms (hin.imm λb hb=>by rw[k1.imm];exact hb) k1.giv (λp hp=>by
   rw[append_nil];cases hf:vz (entry (i+1) ps (vI.tl c (wi ps) x)).2 p.1 with
   | none=>rfl
   | some y=>exact absurd (AQ.2 (by rw[hf];simp)) (d3 p.1 (mem_map_of_mem hp))) d1
  have kle:=k4.le;have k6:=k1.trans k4
  have hfree:vz ((yJ own (64*i+2) c (vI.hd c (wi ps) x)).2++(entry (i+1) ps (vI.tl c (wi ps) x)).2++[]) (64*i+1)=none:=by
   rw[append_nil];cases hf:vz ((yJ own (64*i+2) c (vI.hd c (wi ps) x)).2++(entry (i+1) ps (vI.tl c (wi ps) x)).2) (64*i+1)with
   | none=>rfl
   | some y=>exact absurd (AQ.2 (by rw[hf];simp)) d0
  obtain⟨g3,k7,k8⟩:=J3 k6.ms hob (by simpa using k5) k6.giv (λhd=>absurd hfree hd) (λe he=>by rw[hfree]at he;cases he);have kle2:=k7.le
  simp only[append_nil]at kle kle2;refine⟨g3,k6.trans k7,Iq.cons k2 (kle.trans kle2) ⟨xz.2 (.inl rfl),b,k8,rfl⟩,⟨xz.2 (.inl rfl),k8⟩,?_⟩;exact D4.mono (ps:=ps) (vs:=vs') (kle.trans kle2) k3
end Go.V
namespace Go.V
variable {w0:World} {T N:Nat->Prop} {en en':List (vv×Entry)} {g g':Gh} {w:World} {I:Nat->Prop}

def yD (en:List (vv×Entry)) (used:List (vv×Entry)):Prop :=
 ∀p∈used,(p.2=.gone/\∃e m xs,vz en p.1=some (.root e m xs))\/(p.2=.gone/\∃cs,vz en p.1=some (.box cs))\/(∃e m xs,vz en p.1=some (.root e m xs)/\p.2=.fwd e xs)
def Bu (g:Gh) (p:vv×Entry):List Nat:=match p.2 with | .gone=>(g.top p.1).toList|_=>[]
def Av (en:List (vv×Entry)) (g:Gh) (p:vv×Entry):List Nat:=match p.2 with | .gone=>(match vz en p.1 with|some (.root _ true _)=>g.nest p.1|_=>[])|_=>[]
def yq (g:Gh) (used:List (vv×Entry)):List Nat:=used.flatMap (Bu g)
def yu (en:List (vv×Entry)) (g:Gh) (used:List (vv×Entry)):List Nat:=used.flatMap (Av en g)
theorem Gx {D:vv->Prop} {agg:Bool} {x:AV} {v:Value} (h:wP D g w x v) (ho:CF agg x=true):∃us,isAgg agg v us/\vT (vJ D g w) x.cells us:=by
 cases x with
 | cell c=>cases agg with
  | true=>cases ho
  | false=>exact⟨[v],.inl ⟨rfl,rfl⟩,h,trivial⟩
 | agg cs=>cases agg with
  | false=>cases ho
  | true=>obtain⟨vs,rfl,k⟩:=h;exact⟨vs.toList,.inr ⟨rfl,rfl⟩,k⟩
 | tup l=>cases agg<;>cases ho
theorem JD (hm:zh en g w):∀{used:List (vv×Entry)},wo en true false used->yq g used=(used.map (·.1)).flatMap (λn=>(g.top n).toList)/\yu en g used=(used.map (·.1)).flatMap g.nest/\yD en used/\∀b∈yu en g used,g.I b
 | [],_=>⟨rfl,rfl,λp hp=>by simp at hp,by simp[yu]⟩
 | p::used,h=>by
  obtain⟨k1,k2,k3,k4⟩:=JD hm (used:=used) λq hq=>h q (mem_cons_of_mem _ hq);obtain⟨e,m,xs,h1,h2,h3⟩:=h p mem_cons_self;obtain rfl:=h2 rfl;have h3:p.2=.gone:=h3
  obtain⟨_,_,hI,_⟩:=x8 hm h1;refine⟨?_,?_,λq hq=>?_,λb hb=>?_⟩
  · unfold yq at k1 ⊢;rw[flatMap_cons,k1];simp[Bu,h3]
  · unfold yu at k2 ⊢;rw[flatMap_cons,k2];simp[Av,h3,h1]
  · rcases mem_cons.1 hq with rfl|hq
    · exact .inl ⟨h3,e,true,xs,h1⟩
    · exact k3 q hq
  · unfold yu at hb k4;rw[flatMap_cons]at hb;rcases mem_append.1 hb with hb|hb
    · simp[Av,h3,h1]at hb;exact hI b hb
    · exact k4 b hb
theorem KG:∀{used:List (vv×Entry)},wo en false true used->yq g used=[]/\yu en g used=[]/\yD en used
 | [],_=>⟨rfl,rfl,λp hp=>by simp at hp⟩
 | p::used,h=>by
  obtain⟨k1,k2,k3⟩:=KG (used:=used) λq hq=>h q (mem_cons_of_mem _ hq);obtain⟨e,m,xs,h1,h2,h3⟩:=h p mem_cons_self;have h3:p.2=.fwd e xs:=h3
  refine⟨?_,?_,λq hq=>?_⟩
  · unfold yq at k1 ⊢;rw[flatMap_cons,k1];simp[Bu,h3]
  · unfold yu at k2 ⊢;rw[flatMap_cons,k2];simp[Av,h3]
  · rcases mem_cons.1 hq with rfl|hq
    · exact .inr (.inr ⟨e,m,xs,h1,h3⟩)
    · exact k3 q hq
theorem CT.own_gifts (hI:∀b,g.I b->I b) {c:CT} {x:c.den} {v:Value} {ns:List vv} (h:CT.Own g w c x v ns) (hn:∀b∈ns.flatMap g.nest,g.I b):CT.Gifts I w c x v (ns.flatMap λn=>(g.top n).toList) (ns.flatMap g.nest):=by
 cases c with
 | sl e =>
  rcases h with ⟨rfl,rfl,rfl⟩|⟨n,rfl,rfl,h⟩
  · exact⟨none,rfl,.inl ⟨rfl,rfl,rfl,rfl⟩,by simp⟩
  · exact⟨g.top n,by simp,by simpa using h,λb hb=>hI b (hn b hb)⟩
 | int=>obtain⟨rfl,h⟩:=h;exact⟨rfl,rfl,h⟩
 | bool=>obtain⟨rfl,h⟩:=h;exact⟨rfl,rfl,h⟩
 | str=>obtain⟨rfl,h⟩:=h;exact⟨rfl,rfl,h⟩
 | err=>obtain⟨rfl,h⟩:=h;exact⟨rfl,rfl,h⟩
theorem Cs.own_gifts (hI:∀b,g.I b->I b):{c:Cs}->{x:c.den}->{us:List Value}->{ns:List vv}->Cs.Own g w c x us ns->(∀b∈ns.flatMap g.nest,g.I b)->Cs.Gifts I w c x us (ns.flatMap λn=>(g.top n).toList) (ns.flatMap g.nest)
 | .one c,x,us,ns,h,hn=>by obtain⟨v,rfl,h⟩:=h;exact⟨v,rfl,CT.own_gifts hI h hn⟩
 | .cons c r,x,us,ns,h,hn=>by
  obtain⟨v,vs',n1,n2,rfl,rfl,h1,h2⟩:=h;rw[flatMap_append,flatMap_append];rw[flatMap_append]at hn;exact⟨v,vs',_,_,_,_,rfl,rfl,rfl,CT.own_gifts hI h1 λb hb=>hn b (mem_append_left _ hb),Cs.own_gifts hI h2 λb hb=>hn b (mem_append_right _ hb)⟩
structure JY (en:List (vv×Entry)) (g:Gh) (I:Nat->Prop) (used:List (vv×Entry)) (ro:List vv):Prop where
 old:∀b,g.I b->I b
 fwd:∀p∈used,∀e xs,p.2=.fwd e xs->∀b,g.top p.1=some b->I b
 lent:∀n∈ro,∀f b,vz en n=some f->f.alive=true->g.top n=some b->I b
theorem yD.append {u v:List (vv×Entry)} (h:yD en u) (k:yD en v):yD en (u++v):=λp hp=>(mem_append.1 hp).elim (h p) (k p)
theorem CT.into_top (hI:∀b,g.I b->I b) (hm:zh en g w) {c:CT} {x:Cell} {v:Value} {y:c.den×List (vv×Entry)} {L:List vv} (hc:vJ (dom en) g w x v) (hr:(c.into false false x).Runs (vz en) y L) :
 ∃ns,CT.Gifts I w c y.1 v (yq g y.2) ns/\yD en y.2:=by
 cases hs:c.isSl with
 | true =>
  cases c with
  | sl e =>
   obtain⟨a,L1,L2,_,h1,h2⟩:=Rd.runs_bind (show (JW e x).Runs (vz en) y L from hr);obtain⟨rfl,_⟩:=h2;rcases Gg hm hc h1 with ⟨rfl,rfl⟩|⟨xs,r,m,F,rfl,⟨ys,hn⟩,hrep,hcnt⟩
   · exact⟨[],⟨none,rfl,.inl ⟨rfl,rfl,rfl,rfl⟩,by simp⟩,by intro p hp;simp at hp⟩
   · obtain⟨_,_,hnI,_⟩:=x8 hm hn;refine⟨F,⟨g.top r,by simp[yq,Bu],hrep,λb hb=>hI b (hnI b ?_)⟩,λp hp=>?_⟩
     · have h1:=count_pos_iff.2 hb;have h2:=hcnt b
       exact count_pos_iff.1 (by omega)
     · obtain rfl:=mem_singleton.1 hp;exact .inl ⟨rfl,e,m,ys,hn⟩
  | int=>simp[CT.isSl]at hs
  | bool=>simp[CT.isSl]at hs
  | str=>simp[CT.isSl]at hs
  | err=>simp[CT.isSl]at hs
 | false =>
  obtain⟨h1,L',h2⟩:=CT.into_scalar hs hr;obtain⟨F,hF,_⟩:=CT.read_sound hm hc h2;have ho:=CT.Own_of_rep (g:=g) hs ⟨F,hF⟩
  rw[h1];exact⟨[],CT.own_gifts hI ho (by simp),by intro p hp;simp at hp⟩
theorem Cs.into_top (hI:∀b,g.I b->I b) (hm:zh en g w):{e:Cs}->{xs:List Cell}->{vs:List Value}->{y:e.den×List (vv×Entry)}->{L:List vv}->vT (vJ (dom en) g w) xs vs->(e.into false false xs).Runs (vz en) y L ->
 ∃ns,Cs.Gifts I w e y.1 vs (yq g y.2) ns/\yD en y.2
 | .one c,[],_,_,_,_,hr=>hr.elim
 | .one c,[x],[v],y,L,hc,hr=>by
  obtain⟨ns,h1,h2⟩:=CT.into_top hI hm hc.1 hr;exact⟨ns,⟨v,rfl,h1⟩,h2⟩
 | .one c,_::_::_,_,_,_,_,hr=>hr.elim
 | .cons c r,[],_,_,_,_,hr=>hr.elim
 | .cons c r,x::xs,v::vs,y,L,hc,hr=>by
  simp only[Cs.into]at hr;obtain⟨a,L1,L2,rfl,h1,hr⟩:=Rd.runs_bind hr;obtain⟨b,L3,L4,rfl,h2,hr⟩:=Rd.runs_bind hr;obtain⟨rfl,_⟩:=hr;obtain⟨n1,k1,k2⟩:=CT.into_top hI hm hc.1 h1;obtain⟨n2,k3,k4⟩:=Cs.into_top hI hm hc.2 h2;exact⟨n1++n2,⟨v,vs,yq g a.2,yq g b.2,n1,n2,rfl,flatMap_append,rfl,k1,k3⟩,k2.append k4⟩
theorem C2 (hm:zh en g w) {own:Option Bool} {c:Cs} {xs:List Cell} {us:List Value} {y:c.den×List (vv×Entry)} {L:List vv} (hc:vT (vJ (dom en) g w) xs us) (hr:(c.intoO own xs).Runs (vz en) y L) {used:List (vv×Entry)} {ro:List vv}
 (hs:JY en g I used ro) (hsub:∀p∈y.2,p∈used):AL I w own c y.1 us (yq g y.2) (yu en g y.2)/\yD en y.2:=by
 cases own with
 | some m =>
  cases m with
  | true =>
   obtain⟨h1,h2⟩:=Cs.into_own hm hc hr;obtain⟨k1,k2,k3,k4⟩:=JD hm h2;refine⟨.inl ⟨true,_,rfl,?_,λ_=>rfl⟩,k3⟩;rw[k2]at k4;rw[k1,k2];exact Cs.own_gifts hs.old h1 k4
  | false =>
   obtain⟨ns',h1,h2⟩:=Cs.into_top hs.old hm hc hr;exact⟨.inl ⟨false,ns',rfl,h1,(λh=>by cases h)⟩,h2⟩
 | none =>
  obtain⟨⟨F,h1,h3⟩,h2⟩:=Cs.into_shared hm hc hr;obtain⟨k1,k2,k3⟩:=KG (g:=g) h2;refine⟨.inr ⟨rfl,k1,k2,F,h1,λb hb=>?_⟩,k3⟩;rcases h3 b hb with h|⟨n,hn,f,hf,ha,ht⟩
  · exact hs.old b h
  · obtain⟨p,hp,rfl⟩:=mem_map.1 hn;obtain⟨e,m,xs',e1,_,e3⟩:=h2 p hp;exact hs.fwd p (hsub p hp) e xs' e3 b ht
def Ad (en:List (vv×Entry)) (g:Gh) (used:List (vv×Entry)):List wQ->List Value->List vv->Prop
 | [],_,ns=>ns=[]
 | _::_,[],_=>False
 | .val .. :: ps,_::vs,ns=>Ad en g used ps vs ns
 | .ptr .. :: ps,v::vs,ns=>∃n ns',ns=n::ns'/\(n,.gone)∈used/\(∃cs,vz en n=some (.box cs))/\g.loc n=v/\Ad en g used ps vs ns'
theorem Ad.mono {used used':List (vv×Entry)} (h:∀p∈used,p∈used'):∀{ps:List wQ} {vs:List Value} {ns:List vv},Ad en g used ps vs ns->Ad en g used' ps vs ns
 | [],_,_,k=>k
 | .val .. :: ps,v::vs,ns,k=>Ad.mono (ps:=ps) (vs:=vs) h k
 | .ptr .. :: ps,v::vs,ns,⟨n,ns',k1,k2,k3,k4,k5⟩=>⟨n,ns',k1,h _ k2,k3,k4,Ad.mono h k5⟩
 | .val .. :: _,[],_,k=>k
 | .ptr .. :: _,[],_,k=>k
theorem Ek (hm:zh en g w) {sl:Bool}:∀{ps:List wQ} {args:List AV} {vals:List Value} {b:Fq (wi ps)} {L:List vv},vT (wP (dom en) g w) args vals->(xg sl ps args).Runs (vz en) b L->JY en g I b.used b.ro ->
 Ac I w ps b.args vals (yq g b.used) (yu en g b.used)/\yD en b.used/\Ad en g b.used ps vals b.ptrs
 | [],[],[],b,L,_,hr,_=>by obtain⟨rfl,_⟩:=hr;exact⟨⟨rfl,rfl,rfl⟩,λp hp=>by simp at hp,rfl⟩
 | .val agg c false::ps,v::args,u::vals,b,L,ha,hr,hs=>by
  simp only[xg]at hr;obtain⟨_,L5,L6,_,h0,hr⟩:=Rd.runs_bind hr;obtain⟨a,L1,L2,_,h1,hr⟩:=Rd.runs_bind hr;obtain⟨b',L3,L4,_,h2,hr⟩:=Rd.runs_bind hr;obtain⟨rfl,_⟩:=hr;obtain⟨us,hag,hcs⟩:=Gx ha.1 (Rd.runs_need h0).1;obtain⟨k1,k2,k3⟩:=Ek hm ha.2 h2 ⟨hs.old,λp hp=>hs.fwd p (mem_append_right _ hp),λn hn=>hs.lent n (mem_append_right _ hn)⟩;cases sl with
  | true =>
   obtain⟨k4,k5⟩:=C2 (own:=none) hm hcs h1 hs (λp hp=>mem_append_left _ hp);refine⟨⟨u,vals,us,_,_,_,_,rfl,hag,flatMap_append,flatMap_append,?_,?_⟩,k5.append k2,Ad.mono (ps:=ps) (vs:=vals) (λp hp=>mem_append_right _ hp) k3⟩
   · show AL I w none c (vI.hd c (wi ps) (vI.mk c (wi ps) a.1 b'.args)) us _ _;rw[vI.hd_mk];exact k4
   · show Ac I w ps (vI.tl c (wi ps) (vI.mk c (wi ps) a.1 b'.args)) vals _ _;rw[vI.tl_mk];exact k1
  | false =>
   obtain⟨y,_,_,_,h3,h4⟩:=Rd.runs_bind h1;obtain⟨rfl,_⟩:=h4;obtain⟨F,hF,hFI⟩:=Cs.read_sound hm hcs h3;refine⟨⟨u,vals,us,[],yq g b'.used,[],yu en g b'.used,rfl,hag,by simp,by simp,.inr ⟨rfl,rfl,rfl,F,?_,λq hq=>?_⟩,?_⟩,k2,Ad.mono (ps:=ps) (vs:=vals) (λp hp=>hp) k3⟩
   · show Cs.Rep w c (vI.hd c (wi ps) (vI.mk c (wi ps) y b'.args)) us F;rw[vI.hd_mk];exact hF
   · rcases hFI q hq with h|⟨n,hn,f,hf,hal,ht⟩
     · exact hs.old q h
     · exact hs.lent n (mem_append_left _ hn) f q hf hal ht
   · show Ac I w ps (vI.tl c (wi ps) (vI.mk c (wi ps) y b'.args)) vals _ _;rw[vI.tl_mk];exact k1
 | .val agg c true::ps,v::args,u::vals,b,L,ha,hr,hs=>by
  simp only[xg]at hr;obtain⟨_,L5,L6,_,h0,hr⟩:=Rd.runs_bind hr;obtain⟨a,L1,L2,_,h1,hr⟩:=Rd.runs_bind hr;obtain⟨b',L3,L4,_,h2,hr⟩:=Rd.runs_bind hr;obtain⟨rfl,_⟩:=hr;obtain⟨us,hag,hcs⟩:=Gx ha.1 (Rd.runs_need h0).1;obtain⟨k1,k2,k3⟩:=Ek hm ha.2 h2 ⟨hs.old,λp hp=>hs.fwd p (mem_append_right _ hp),hs.lent⟩;obtain⟨k4,k5⟩:=C2 (own:=some true) hm hcs h1 hs (λp hp=>mem_append_left _ hp);refine⟨⟨u,vals,us,_,_,_,_,rfl,hag,flatMap_append,flatMap_append,?_,?_⟩,k5.append k2,Ad.mono (ps:=ps) (vs:=vals) (λp hp=>mem_append_right _ hp) k3⟩
  · show AL I w (some true) c (vI.hd c (wi ps) (vI.mk c (wi ps) a.1 b'.args)) us _ _;rw[vI.hd_mk];exact k4
  · show Ac I w ps (vI.tl c (wi ps) (vI.mk c (wi ps) a.1 b'.args)) vals _ _;rw[vI.tl_mk];exact k1
 | .ptr c own::ps,.cell (.box n 0)::args,u::vals,b,L,ha,hr,hs=>by
  simp only[xg]at hr;obtain⟨L',_,hr⟩:=hr;dsimp only at hr;split at hr
  · rename_i cs hn;obtain⟨a,L1,L2,_,h1,hr⟩:=Rd.runs_bind hr;obtain⟨b',L3,L4,_,h2,hr⟩:=Rd.runs_bind hr;obtain⟨rfl,_⟩:=hr;obtain⟨k1,k2,k3⟩:=Ek hm ha.2 h2 ⟨hs.old,λp hp=>hs.fwd p (mem_cons_of_mem _ (mem_append_right _ hp)),hs.lent⟩;obtain⟨blk,us,e1,e2,e3,e4⟩:=hm.rep n _ hn;obtain⟨k4,k5⟩:=C2 (own:=own) hm e4 h1 hs (λp hp=>mem_cons_of_mem _ (mem_append_left _ hp));obtain⟨_,blk',e5,e6⟩:=ha.1;rw[e2]at e5;cases e5;refine⟨⟨blk,vals,us,yq g a.2,yq g b'.used,yu en g a.2,yu en g b'.used,?_,e3,?_,?_,?_,?_⟩,?_,n,b'.ptrs,rfl,mem_cons_self,⟨cs,hn⟩,e2.trans e6.symm,Ad.mono (λp hp=>mem_cons_of_mem _ (mem_append_right _ hp)) k3⟩
    · rw[e6]
    · show ((n,Entry.gone)::(a.2++b'.used)).flatMap (Bu g)=_;rw[flatMap_cons,flatMap_append];simp[Bu,e1,yq]
    · show ((n,Entry.gone)::(a.2++b'.used)).flatMap (Av en g)=_;rw[flatMap_cons,flatMap_append];simp[Av,hn,yu]
    · show AL I w own c (vI.hd c (wi ps) (vI.mk c (wi ps) a.1 b'.args)) us _ _;rw[vI.hd_mk];exact k4
    · show Ac I w ps (vI.tl c (wi ps) (vI.mk c (wi ps) a.1 b'.args)) vals _ _;rw[vI.tl_mk];exact k1
    · intro p hp;rcases mem_cons.1 hp with rfl|hp
      · exact .inr (.inl ⟨rfl,cs,hn⟩)
      · exact (k5.append k2) p hp
  · exact hr.elim
 | .val _ _ false::_,[],_,_,_,_,hr,_=>hr.elim
 | .val _ _ true::_,[],_,_,_,_,hr,_=>hr.elim
 | .ptr _ _::_,[],_,_,_,_,hr,_=>hr.elim
end Go.V
namespace Go.V
variable {P:Program} {G:xC} {w0:World} {T N:Nat->Prop} {en en':List (vv×Entry)} {S:St} {g g':Gh} {w:World} {a:Act} {I:Nat->Prop}

def Gy (tmps:Array Value):ResultVar->Sem Value
 | .tmp t=>pure (tmps.getD t undef)
 | .cell a t=>do loadVar t (←asAddr (tmps.getD a undef))
theorem Gz (h:wB w0 T N S g w a) (hT:yp P G.ti):∀{rv:List ResultVar} {vs:List AV},Df G S rv=some vs->∃rvals,vT (wP (dom S.en) g w) vs rvals/\(rv.mapM (Gy a.tmps)).run P w=.ok rvals w
 | [],vs,hr=>by cases hr;exact⟨[],trivial,rfl⟩
 | .tmp t::l,vs,hr=>by
  simp only[Df]at hr;cases hl:Df G S l with
  | none=>rw[hl]at hr;cases hr
  | some us =>
   rw[hl]at hr;cases hr;obtain⟨rvals,h1,h2⟩:=Gz h hT hl;refine⟨a.tmps.getD t undef::rvals,⟨h.tmps t,h1⟩,?_⟩;rw[List.mapM_cons];simp only[Gy,Sem.run_bind,Sem.run_pure,Result.andThen,h2]
 | .cell b t::l,vs,hr=>by
  simp only[Df]at hr;cases hi:vz G.ti t with
  | none=>rw[hi]at hr;cases hr
  | some i =>
   rw[hi]at hr;obtain⟨n,hb⟩:∃n,S.tmp b=.cell (.box n 0):=by
    cases hb:S.tmp b with
    | cell c =>
     rw[hb]at hr;cases c with
     | box n off=>cases off with
      | zero=>exact⟨n,rfl⟩
      | succ _=>cases hr
     | _=>cases hr
    | agg _=>rw[hb]at hr;cases hr
    | tup _=>rw[hb]at hr;cases hr
   rw[hb]at hr;simp only at hr;cases hn:S.ent n with
   | none=>rw[hn]at hr;cases hr
   | some en1 =>
    cases hl:Df G S l with
    | none=>rw[hn,hl]at hr;cases en1<;>cases hr
    | some us =>
     rw[hn,hl]at hr;cases en1 with
     | tree=>cases hr
     | box cs =>
      simp only at hr;cases hlen:Nat.beq cs.length i.cs.len with
      | false=>rw[hlen]at hr;cases hr
      | true =>
       rw[hlen]at hr;cases hr;obtain⟨rvals,h1,h2⟩:=Gz h hT hl;have hbv:=h.tmps b
       rw[hb]at hbv;obtain⟨_,blk,e1,e2⟩:=hbv;obtain⟨blk',ws,e3,e4,e5,e6⟩:=h.mem.rep n _ hn;rw[e1]at e4;cases e4;have hl2:ws.length=i.cs.len:=by rw[←e6.length];exact Nat.eq_of_beq_eq_true hlen
       obtain⟨d,u,z,hf⟩:=hT.facts hi;have hload:=Hj (P:=P) hf (wX.row e5) hl2
       refine⟨(if i.agg then .agg ws.toArray else ws.headD undef)::rvals,⟨?_,h1⟩,?_⟩
       · cases ha:i.agg with
         | true=>exact DP e6 (.inr ⟨rfl,rfl⟩)
         | false =>
          obtain⟨c,hc,_⟩:=hf.plain ha;rw[hc]at hl2
          match ws,hl2,e6 with
          | [v],_,e6=>exact DP e6 (.inl ⟨rfl,rfl⟩)
       · rw[List.mapM_cons];simp only[Gy,e2,asAddr,Sem.run_bind,Sem.run_pure,Result.andThen,hload,h2]
     | gone=>cases hr
     | fwd _ _=>cases hr
     | root _ _ _=>cases hr
def KH (vs:List Value):Value:=match vs with | [v]=>v|vs=>.tuple vs.toArray
theorem LI {fn:Func} {tmps:Array Value} {rvals:List Value} (h:(fn.results.toList.mapM (Gy tmps)).run P w=.ok rvals w):(results fn tmps).run P w=.ok (KH rvals) w:=by
 have e:results fn tmps=(do
  let vs ←fn.results.mapM (Gy tmps)
  pure (if h:vs.size=1 then vs[0]else .tuple vs)):=by
  unfold results
  congr 1
 rw[e,Array.mapM_eq_mapM_toList];simp only[Sem.run_bind,Sem.run_pure,map_eq_pure_bind,Result.andThen,h]
 congr 1
 match rvals with
 | []=>rfl
 | [v]=>rfl
 | _::_::_=>simp[KH]
def BP (I:Nat->Prop) (w:World):(rs:List xY)->vI (xv rs)->List Value->List Nat->List Nat->Prop
 | [],_,vs,ts,ns=>vs=[]/\ts=[]/\ns=[]
 | .val agg c own::rs,x,vs,ts,ns=>∃v vs' us t1 t2 n1 n2,vs=v::vs'/\isAgg agg v us/\ts=t1++t2/\ns=n1++n2/\AL I w own c (vI.hd c (xv rs) x) us t1 n1/\BP I w rs (vI.tl c (xv rs) x) vs' t2 n2
 | .ptr c own::rs,x,vs,ts,ns=>∃b vs' us t1 t2 n1 n2,vs=.pointer (some ⟨b,0,none⟩)::vs'/\wX w b us/\ts=b::(t1++t2)/\ns=n1++n2/\AL I w own c (vI.hd c (xv rs) x) us t1 n1/\BP I w rs (vI.tl c (xv rs) x) vs' t2 n2
def AN (I:Nat->Prop) (w:World):(ps:List wQ)->(rs:List xY)->vI (xo ps rs)->List Nat->List Value->List Nat->List Nat->Prop
 | [],rs,x,bs,vs,ts,ns=>bs=[]/\BP I w rs x vs ts ns
 | .val .. :: ps,rs,x,bs,vs,ts,ns=>AN I w ps rs x bs vs ts ns
 | .ptr c own::ps,rs,x,bs,vs,ts,ns=>∃b bs' us t1 t2 n1 n2,bs=b::bs'/\wX w b us/\ts=b::(t1++t2)/\ns=n1++n2/\AL I w own c (vI.hd c (xo ps rs) x) us t1 n1/\AN I w ps rs (vI.tl c (xo ps rs) x) bs' vs t2 n2
theorem D5 (hm:zh en g w):∀{rs:List xY} {vs:List AV} {rvals:List Value} {y:vI (xv rs)×List (vv×Entry)} {L:List vv},vT (wP (dom en) g w) vs rvals->Dg rs vs=true->(Dw rs vs).Runs (vz en) y L ->
 ∀{used:List (vv×Entry)},JY en g I used []->(∀p∈y.2,p∈used)->BP I w rs y.1 rvals (yq g y.2) (yu en g y.2)/\yD en y.2
 | [],[],[],y,L,_,_,hr,used,hs,hsub=>by obtain⟨rfl,_⟩:=hr;exact⟨⟨rfl,rfl,rfl⟩,λp hp=>by simp at hp⟩
 | .val agg c own::rs,v::vs,u::rvals,y,L,ha,ho,hr,used,hs,hsub=>by
  simp only[Dw]at hr;obtain⟨a,L1,L2,_,h1,hr⟩:=Rd.runs_bind hr;obtain⟨b,L3,L4,_,h2,hr⟩:=Rd.runs_bind hr;obtain⟨rfl,_⟩:=hr;simp only[Dg,aT]at ho;obtain⟨us,hag,hcs⟩:=Gx ha.1 ho.1;obtain⟨k1,k2⟩:=D5 hm ha.2 ho.2 h2 hs (λp hp=>hsub p (mem_append_right _ hp));obtain⟨k4,k5⟩:=C2 hm hcs h1 hs (λp hp=>hsub p (mem_append_left _ hp));refine⟨⟨u,rvals,us,_,_,_,_,rfl,hag,flatMap_append,flatMap_append,?_,?_⟩,k5.append k2⟩
  · show AL I w own c (vI.hd c (xv rs) (vI.mk c (xv rs) a.1 b.1)) us _ _;rw[vI.hd_mk];exact k4
  · show BP I w rs (vI.tl c (xv rs) (vI.mk c (xv rs) a.1 b.1)) rvals _ _;rw[vI.tl_mk];exact k1
 | .ptr c own::rs,.cell (.box n 0)::vs,u::rvals,y,L,ha,ho,hr,used,hs,hsub=>by
  simp only[Dw]at hr;obtain⟨L',_,hr⟩:=hr;dsimp only at hr;split at hr
  · rename_i cs hn;obtain⟨a,L1,L2,_,h1,hr⟩:=Rd.runs_bind hr;obtain⟨b,L3,L4,_,h2,hr⟩:=Rd.runs_bind hr;obtain⟨rfl,_⟩:=hr;obtain⟨k1,k2⟩:=D5 hm ha.2 ho h2 hs (λp hp=>hsub p (mem_cons_of_mem _ (mem_append_right _ hp)));obtain⟨blk,us,e1,e2,e3,e4⟩:=hm.rep n _ hn;obtain⟨k4,k5⟩:=C2 hm e4 h1 hs (λp hp=>hsub p (mem_cons_of_mem _ (mem_append_left _ hp)));obtain⟨_,blk',e5,e6⟩:=ha.1;rw[e2]at e5;cases e5;refine⟨⟨blk,rvals,us,yq g a.2,yq g b.2,yu en g a.2,yu en g b.2,by rw[e6],e3,?_,?_,?_,?_⟩,?_⟩
    · show ((n,Entry.gone)::(a.2++b.2)).flatMap (Bu g)=_;rw[flatMap_cons,flatMap_append];simp[Bu,e1,yq]
    · show ((n,Entry.gone)::(a.2++b.2)).flatMap (Av en g)=_;rw[flatMap_cons,flatMap_append];simp[Av,hn,yu]
    · show AL I w own c (vI.hd c (xv rs) (vI.mk c (xv rs) a.1 b.1)) us _ _;rw[vI.hd_mk];exact k4
    · show BP I w rs (vI.tl c (xv rs) (vI.mk c (xv rs) a.1 b.1)) rvals _ _;rw[vI.tl_mk];exact k1
    · intro p hp;rcases mem_cons.1 hp with rfl|hp
      · exact .inr (.inl ⟨rfl,cs,hn⟩)
      · exact (k5.append k2) p hp
  · exact hr.elim
 | .val _ _ _::_,[],_,_,_,_,_,hr,_,_,_=>hr.elim
 | .ptr _ _::_,[],_,_,_,_,_,hr,_,_,_=>hr.elim
 | [],_::_,_,_,_,_,_,hr,_,_,_=>hr.elim
def N1 (g:Gh):Nat->List wQ->List Nat->Prop
 | _,[],bs=>bs=[]
 | i,.val .. :: ps,bs=>N1 g (i+1) ps bs
 | i,.ptr .. :: ps,bs=>∃b bs',bs=b::bs'/\g.loc (64*i+1)=.pointer (some ⟨b,0,none⟩)/\N1 g (i+1) ps bs'
theorem D6 (hm:zh en g w):∀{ps:List wQ} {rs:List xY} {i:Nat} {vs:List AV} {rvals:List Value} {y:vI (xo ps rs)×List (vv×Entry)} {L:List vv},vT (wP (dom en) g w) vs rvals->Dg rs vs=true->(Cv i ps rs vs).Runs (vz en) y L ->
 ∀{used:List (vv×Entry)},JY en g I used []->(∀p∈y.2,p∈used)->∃bs,AN I w ps rs y.1 bs rvals (yq g y.2) (yu en g y.2)/\yD en y.2/\N1 g i ps bs
 | [],rs,i,vs,rvals,y,L,ha,ho,hr,used,hs,hsub=>by
  obtain⟨k1,k2⟩:=D5 hm ha ho hr hs hsub;exact⟨[],⟨rfl,k1⟩,k2,rfl⟩
 | .val agg c mv::ps,rs,i,vs,rvals,y,L,ha,ho,hr,used,hs,hsub=>D6 (ps:=ps) (i:=i+1) hm ha ho hr hs hsub
 | .ptr c own::ps,rs,i,vs,rvals,y,L,ha,ho,hr,used,hs,hsub=>by
  simp only[Cv]at hr;obtain⟨L',_,hr⟩:=hr;dsimp only at hr;split at hr
  · rename_i cs hn;obtain⟨a,L1,L2,_,h1,hr⟩:=Rd.runs_bind hr;obtain⟨b,L3,L4,_,h2,hr⟩:=Rd.runs_bind hr;obtain⟨rfl,_⟩:=hr;obtain⟨bs,k1,k2,k3⟩:=D6 hm ha ho h2 hs (λp hp=>hsub p (mem_cons_of_mem _ (mem_append_right _ hp)));obtain⟨blk,us,e1,e2,e3,e4⟩:=hm.rep (64*i+1) _ hn;obtain⟨k4,k5⟩:=C2 hm e4 h1 hs (λp hp=>hsub p (mem_cons_of_mem _ (mem_append_left _ hp)));refine⟨blk::bs,⟨blk,bs,us,yq g a.2,yq g b.2,yu en g a.2,yu en g b.2,rfl,e3,?_,?_,?_,?_⟩,?_,blk,bs,rfl,e2,k3⟩
    · show ((64*i+1,Entry.gone)::(a.2++b.2)).flatMap (Bu g)=_;rw[flatMap_cons,flatMap_append];simp[Bu,e1,yq]
    · show ((64*i+1,Entry.gone)::(a.2++b.2)).flatMap (Av en g)=_;rw[flatMap_cons,flatMap_append];simp[Av,hn,yu]
    · show AL I w own c (vI.hd c (xo ps rs) (vI.mk c (xo ps rs) a.1 b.1)) us _ _;rw[vI.hd_mk];exact k4
    · show AN I w ps rs (vI.tl c (xo ps rs) (vI.mk c (xo ps rs) a.1 b.1)) bs rvals _ _;rw[vI.tl_mk];exact k1
    · intro p hp;rcases mem_cons.1 hp with rfl|hp
      · exact .inr (.inl ⟨rfl,cs,hn⟩)
      · exact (k5.append k2) p hp
  · exact hr.elim
end Go.V
namespace Go.V
variable {w0:World} {T N:Nat->Prop} {en E:List (vv×Entry)} {g g':Gh} {w:World} {I:Nat->Prop}

theorem N2 {l:List (vv×Entry)} {n:vv} (h:n∉l.map (·.1)):vz l n=none:=by
 cases hf:vz l n with
 | none=>rfl
 | some y=>exact absurd (AQ.2 (by rw[hf];simp)) h
theorem CU {l m:List (vv×Entry)} {n:vv} (h1:n∉l.map (·.1)) (h2:vz m n=none):vz (l++m) n=none:=by rw[xi h1];exact h2
theorem yU.congr {new new':List (vv×Entry)} {ts ns:List Nat} (h:yU w0 T N E g w new g' ts ns) (he:∀n,vz (new++E) n=vz (new'++E) n):yU w0 T N E g w new' g' ts ns:=by
 refine⟨h.ms.congr he,by rw[←Ab he];exact h.le,h.imm,h.giv.t1,h.giv.n1,λb hb=>?_,λb hb=>?_,λb hb m f hm=>h.giv.tw b hb m f ((he m).trans hm)⟩
 · obtain⟨k1,k2,k3⟩:=h.giv.tf b hb;exact⟨k1,λm f hm=>k2 m f ((he m).trans hm),k3⟩
 · obtain⟨k1,k2⟩:=h.giv.nf b hb;exact⟨λm f hm=>k1 m f ((he m).trans hm),k2⟩
theorem Oi {D:vv->Prop} {agg:Bool} {cs:List Cell} {v:Value} {us:List Value} (h:vT (vJ D g w) cs us) (ha:isAgg agg v us):xP D g w (zY agg cs) v:=by
 have:=DP h ha;cases hx:zY agg cs with
 | cell c=>rw[hx]at this;exact this
 | agg ds=>rw[hx]at this;exact this
 | tup l =>
  exfalso;cases agg with
  | true=>cases cs<;>cases hx
  | false=>cases cs with
   | nil=>cases hx
   | cons c cs=>cases cs<;>cases hx
theorem DQ:∀(rs:List xY) (n:vv) (x:vI (xv rs)) (rvals:List Value) (ts ns ts' ns':List Nat) (g:Gh),MS w0 T N E g w->zb w0 T N E g (ts++ts') (ns++ns')->BP g.I w rs x rvals ts ns->vZ (wx n rs x).news=true ->
 (∀p∈(wx n rs x).news,vz E p.1=none)->(wx n rs x).upds=[]/\∃g',yU w0 T N E g w (wx n rs x).news g' ts' ns'/\vT (xP (dom ((wx n rs x).news++E)) g' w) (wx n rs x).vals rvals
 | [],n,x,rvals,ts,ns,ts',ns',g,h,hv,ha,hd,hf=>by
  obtain⟨rfl,rfl,rfl⟩:=ha;exact⟨rfl,g,yU.refl h (by simpa using hv),trivial⟩
 | .val agg c own::rs,n,x,rvals,ts,ns,ts',ns',g,h,hv,ha,hd,hf=>by
  obtain⟨v,vs',us,t1,t2,n1,n2,rfl,hag,rfl,rfl,hin,ha⟩:=ha;obtain⟨d1,d2,d3⟩:=xE (l:=(yJ own n c (vI.hd c (xv rs) x)).2) (m:=(wx (n+64) rs (vI.tl c (xv rs) x)).news) hd;obtain⟨e0,g1,k1,k2⟩:=DQ rs (n+64) (vI.tl c (xv rs) x) vs' t2 n2 (t1++ts') (n1++ns') g h (hv.mono (λb=>by simp only[count_append];omega) (λb=>by simp only[count_append];omega)) ha d2 (λp hp=>hf p (mem_append_right _ hp));obtain⟨g2,k4,k5⟩:=CS (n:=n) k1.ms (hin.imm λb hb=>by rw[k1.imm];exact hb) k1.giv (λp hp=>CU (d3 p.1 (mem_map_of_mem hp)) (hf p (mem_append_left _ hp))) d1;have e:(wx n (.val agg c own::rs) x).news++E=(yJ own n c (vI.hd c (xv rs) x)).2++((wx (n+64) rs (vI.tl c (xv rs) x)).news++E):=append_assoc _ _ _
  refine⟨e0,g2,k1.trans k4,?_,?_⟩
  · rw[e];exact Oi k5 hag
  · rw[e];exact vT.imp (λ_ _=>xP.mono k4.le) k2
 | .ptr c own::rs,n,x,rvals,ts,ns,ts',ns',g,h,hv,ha,hd,hf=>by
  obtain⟨b,vs',us,t1,t2,n1,n2,rfl,hob,rfl,rfl,hin,ha⟩:=ha;obtain⟨d0,hd⟩:=y7 (n:=n) (l:=(yJ own (n+1) c (vI.hd c (xv rs) x)).2++(wx (n+64) rs (vI.tl c (xv rs) x)).news) hd;obtain⟨d1,d2,d3⟩:=xE hd;have hf1:∀p∈(yJ own (n+1) c (vI.hd c (xv rs) x)).2++(wx (n+64) rs (vI.tl c (xv rs) x)).news,vz E p.1=none:=λp hp=>hf p (mem_cons_of_mem _ hp)
  obtain⟨e0,g1,k1,k2⟩:=DQ rs (n+64) (vI.tl c (xv rs) x) vs' t2 n2 (t1++(b::ts')) (n1++ns') g h (hv.mono (λb'=>by simp only[count_append,count_cons,cons_append];omega) (λb=>by simp only[count_append];omega)) ha d2 (λp hp=>hf1 p (mem_append_right _ hp));obtain⟨g2,k4,k5⟩:=CS (n:=n+1) k1.ms (hin.imm λb hb=>by rw[k1.imm];exact hb) k1.giv (λp hp=>CU (d3 p.1 (mem_map_of_mem hp)) (hf1 p (mem_append_left _ hp))) d1;have k6:=k1.trans k4
  have hfree:vz ((yJ own (n+1) c (vI.hd c (xv rs) x)).2++(wx (n+64) rs (vI.tl c (xv rs) x)).news++E) n=none:=CU d0 (hf (n,_) mem_cons_self);obtain⟨g3,k7,k8⟩:=J3 k6.ms hob (by rw[append_assoc];exact k5) k6.giv (λhd=>absurd hfree hd) (λe he=>by rw[hfree]at he;cases he);refine⟨e0,g3,k6.trans k7,⟨xz.2 (.inl rfl),b,k8,rfl⟩,?_⟩;refine vT.imp (λ_ _ hx=>?_) k2;have h1:=xP.mono k4.le hx
  rw[←append_assoc]at h1;exact xP.mono k7.le h1
theorem DR:∀(rs:List xY) (n:vv) (x:vI (xv rs)),(wx n rs x).upds=[]
 | [],_,_=>rfl
 | .val _ c _::rs,n,x=>DR rs (n+64) (vI.tl c (xv rs) x)
 | .ptr c _::rs,n,x=>DR rs (n+64) (vI.tl c (xv rs) x)
theorem Ci:∀(ps:List wQ) (rs:List xY) (n:vv) (bs:List vv) (x:vI (xo ps rs)),∀p∈(vV n ps rs bs x).upds,p.1∈bs
 | [],rs,n,bs,x,p,hp=>by
  have:(vV n [] rs bs x).upds=[]:=DR rs n x;rw[this]at hp;simp at hp
 | .val .. :: ps,rs,n,bs,x,p,hp=>Ci ps rs n bs x p hp
 | .ptr c own::ps,rs,n,[],x,p,hp=>by simp[vV]at hp
 | .ptr c own::ps,rs,n,b::bs,x,p,hp=>by
  have hp:p∈(b,Entry.box (yJ own n c (vI.hd c (xo ps rs) x)).1)::(vV (n+64) ps rs bs (vI.tl c (xo ps rs) x)).upds:=hp;rcases mem_cons.1 hp with rfl|hp
  · exact mem_cons_self
  · exact mem_cons_of_mem _ (Ci ps rs (n+64) bs _ p hp)
theorem Oj {l m:List (vv×Entry)} {b:vv} {x:Entry} (h:b∉l.map (·.1)) (n:vv):vz ((b,x)::(l++m)) n=vz (l++(b,x)::m) n:=by
 rw[vY,wG,wG,vY];by_cases hbn:b=n
 · subst hbn;rw[if_pos rfl,if_pos rfl,N2 h]
 · rw[if_neg hbn,if_neg hbn]
def N3 (E:List (vv×Entry)) (g:Gh) (n:vv) (b:Nat):Prop:=vz E n=some .gone/\g.loc n=.pointer (some ⟨b,0,none⟩)
theorem DS:∀(ps:List wQ) (rs:List xY) (n:vv) (x:vI (xo ps rs)) (nm:List vv) (bs:List Nat) (rvals:List Value) (ts ns ts' ns':List Nat) (g:Gh),MS w0 T N E g w->zb w0 T N E g (ts++ts') (ns++ns')->AN g.I w ps rs x bs rvals ts ns ->
 vT (N3 E g) nm bs->nm.Nodup->vZ (vV n ps rs nm x).news=true->(∀p∈(vV n ps rs nm x).news,vz E p.1=none) ->
 ∃g',yU w0 T N E g w ((vV n ps rs nm x).news++(vV n ps rs nm x).upds) g' ts' ns'/\vT (xP (dom ((vV n ps rs nm x).news++(vV n ps rs nm x).upds++E)) g' w) (vV n ps rs nm x).vals rvals
 | [],rs,n,x,nm,bs,rvals,ts,ns,ts',ns',g,h,hv,ha,hp,hnd,hd,hf=>by
  obtain⟨rfl,ha⟩:=ha;have hd:vZ (wx n rs x).news=true:=hd
  have hf:∀p∈(wx n rs x).news,vz E p.1=none:=hf;obtain⟨e0,g',k1,k2⟩:=DQ rs n x rvals ts ns ts' ns' g h hv ha hd hf;have e:(wx n rs x).news++(wx n rs x).upds=(wx n rs x).news:=by rw[e0,append_nil]
  refine⟨g',?_,?_⟩
  · show yU w0 T N E g w ((wx n rs x).news++(wx n rs x).upds) g' ts' ns';rw[e];exact k1
  · show vT (xP (dom ((wx n rs x).news++(wx n rs x).upds++E)) g' w) (wx n rs x).vals rvals;rw[e];exact k2
 | .val agg c mv::ps,rs,n,x,nm,bs,rvals,ts,ns,ts',ns',g,h,hv,ha,hp,hnd,hd,hf=>DS ps rs n x nm bs rvals ts ns ts' ns' g h hv ha hp hnd hd hf
 | .ptr c own::ps,rs,n,x,[],bs,rvals,ts,ns,ts',ns',g,h,hv,ha,hp,hnd,hd,hf=>by
  obtain⟨b,bs',us,t1,t2,n1,n2,rfl,_⟩:=ha;exact hp.elim
 | .ptr c own::ps,rs,n,x,m::nm,bs,rvals,ts,ns,ts',ns',g,h,hv,ha,hp,hnd,hd,hf=>by
  obtain⟨b,bs',us,t1,t2,n1,n2,rfl,hob,rfl,rfl,hin,ha⟩:=ha;obtain⟨⟨hp1,hp2⟩,hp⟩:=hp;rw[List.nodup_cons]at hnd
  let r:=vV (n+64) ps rs nm (vI.tl c (xo ps rs) x)
  let q:=yJ own n c (vI.hd c (xo ps rs) x)
  have hd:vZ (q.2++r.news)=true:=hd;have hf:∀p∈q.2++r.news,vz E p.1=none:=hf
  obtain⟨d1,d2,d3⟩:=xE hd;obtain⟨g1,k1,k2⟩:=DS ps rs (n+64) (vI.tl c (xo ps rs) x) nm bs' rvals t2 n2 (t1++(b::ts')) (n1++ns') g h (hv.mono (λb'=>by simp only[count_append,count_cons,cons_append];omega) (λb=>by simp only[count_append];omega)) ha hp hnd.2 d2 (λp hp=>hf p (mem_append_right _ hp));have hup:∀p∈r.upds,p.1∈nm:=Ci ps rs (n+64) nm _
  have hnmE:∀k∈nm,∃y,vz E k=some y:=by
   intro k hk;have key:∀(l:List vv) (bl:List Nat),vT (N3 E g) l bl->k∈l->∃y,vz E k=some y:=by
    intro l
    induction l with
    | nil=>intro bl _ hk;simp at hk
    | cons a l ih=>intro bl hl hk;cases bl with
     | nil=>exact hl.elim
     | cons c bl =>
      rcases mem_cons.1 hk with rfl|hk
      · exact⟨_,hl.1.1⟩
      · exact ih bl hl.2 hk
   exact key nm bs' hp hk
  have hnotup:∀p:vv×Entry,vz E p.1=none->p.1∉r.upds.map (·.1):=by
   intro p hpE hm;obtain⟨u,hu,he⟩:=mem_map.1 hm;obtain⟨y,hy⟩:=hnmE u.1 (hup u hu);rw[he,hpE]at hy;cases hy
  obtain⟨g2,k4,k5⟩:=CS (n:=n) k1.ms (hin.imm λb hb=>by rw[k1.imm];exact hb) k1.giv (λp hp=>by
   have hpE:=hf p (mem_append_left _ hp);refine CU ?_ hpE;rw[map_append,mem_append,not_or];exact⟨d3 p.1 (mem_map_of_mem hp),hnotup p hpE⟩) d1
  have k6:=k1.trans k4;have hmE:dom E m:=by unfold dom;rw[hp1];simp
  have hmq:m∉q.2.map (·.1):=λhm=>by
   obtain⟨u,hu,he⟩:=mem_map.1 hm;have:=hf u (mem_append_left _ hu);rw[he,hp1]at this;cases this
  have hmr:m∉r.news.map (·.1):=λhm=>by
   obtain⟨u,hu,he⟩:=mem_map.1 hm;have:=hf u (mem_append_right _ hu);rw[he,hp1]at this;cases this
  have hmu:m∉r.upds.map (·.1):=λhm=>by
   obtain⟨u,hu,he⟩:=mem_map.1 hm;exact hnd.1 (he▸hup u hu)
  have hfind:vz (q.2++(r.news++r.upds)++E) m=some .gone:=by
   rw[xi]
   · exact hp1
   · rw[map_append,map_append,mem_append,mem_append,not_or,not_or];exact⟨hmq,hmr,hmu⟩
  obtain⟨g3,k7,k8⟩:=J3 (n:=m) k6.ms hob (by rw[append_assoc];exact k5) k6.giv (λ_=>(k6.le.loc m hmE).trans hp2) (λe he=>by
   have:vz (q.2++(r.news++r.upds)++E) m=some e:=he;rw[hfind]at this;cases this;rfl)
  have hcong:∀k,vz ([(m,.box q.1)]++(q.2++(r.news++r.upds))++E) k=vz ((q.2++r.news++((m,.box q.1)::r.upds))++E) k:=by
   intro k;have:=Oj (l:=q.2++r.news) (m:=r.upds++E) (b:=m) (x:=.box q.1) (by rw[map_append,mem_append,not_or];exact⟨hmq,hmr⟩) k
   simpa[append_assoc]using this
  refine⟨g3,(k6.trans k7).congr hcong,?_⟩;show vT (xP (dom ((q.2++r.news++((m,.box q.1)::r.upds))++E)) g3 w) r.vals rvals
  rw[←Ab hcong];refine vT.imp (λ_ _ hx=>?_) k2;have h1:=xP.mono k4.le hx
  rw[←append_assoc]at h1;exact xP.mono k7.le h1
end Go.V
namespace Go.V
variable {w0:World} {T N:Nat->Prop} {en E:List (vv×Entry)} {g g':Gh} {w w':World} {I:Nat->Prop}

theorem MS.useAny (h:MS w0 T N en g w):∀{used:List (vv×Entry)},yD en used->vZ used=true ->
 ∃g1,MS w0 T N (used++en) g1 w/\Le (dom en) g w (dom (used++en)) g1 w/\g1.loc=g.loc/\g1.esz=g.esz/\g1.top=g.top/\g1.nest=g.nest/\(∀b,g1.I b↔g.I b\/∃p∈used,(∃e xs,p.2=.fwd e xs)/\g.top p.1=some b)
 | [],_,_=>⟨g,h,Le.refl _ _ _,rfl,rfl,rfl,rfl,λb=>⟨.inl,λk=>k.elim id λ⟨p,hp,_⟩=>by simp at hp⟩⟩
 | (n,x)::used,hu,hd=>by
  obtain⟨h1,h2⟩:=y7 hd;obtain⟨g1,hM,hle,e1,e2,e3,e4,hI⟩:=h.useAny (used:=used) (λp hp=>hu p (mem_cons_of_mem _ hp)) h2;have hgone:x=.gone->dom en n->∃g1,MS w0 T N ((n,x)::used++en) g1 w/\Le (dom en) g w (dom ((n,x)::used++en)) g1 w/\g1.loc=g.loc/\g1.esz=g.esz/\g1.top=g.top/\g1.nest=g.nest/\(∀b,g1.I b↔g.I b\/∃p∈(n,x)::used,(∃e xs,p.2=.fwd e xs)/\g.top p.1=some b):=by
   intro hx hdn;subst hx;obtain⟨hM2,hle2⟩:=hM.gone (hle.dom n hdn);refine⟨g1,hM2,hle.trans hle2,e1,e2,e3,e4,λb=>(hI b).trans ⟨?_,?_⟩⟩
   · rintro (k|⟨p,hp,k⟩)
     · exact .inl k
     · exact .inr ⟨p,mem_cons_of_mem _ hp,k⟩
   · rintro (k|⟨p,hp,⟨e,xs,k⟩,k'⟩)
     · exact .inl k
     · rcases mem_cons.1 hp with rfl|hp
       · cases k
       · exact .inr ⟨p,hp,⟨e,xs,k⟩,k'⟩
  rcases hu (n,x) mem_cons_self with ⟨hx,e,m,xs,hn⟩|⟨hx,cs,hn⟩|⟨e,m,xs,hn,hx⟩
  · exact hgone hx (by unfold dom;rw[show vz en n=_ from hn];simp)
  · exact hgone hx (by unfold dom;rw[show vz en n=_ from hn];simp)
  · obtain rfl:x=.fwd e xs:=hx;obtain⟨g2,hM2,hle2,f1,f2,f3,f4,hI2⟩:=hM.fwd (n:=n) ((xi h1).trans hn);refine⟨g2,hM2,hle.trans hle2,f1.trans e1,f2.trans e2,f3.trans e3,f4.trans e4,λb=>?_⟩;rw[hI2,hI,e3];constructor
    · rintro ((k|⟨p,hp,k⟩)|k)
      · exact .inl k
      · exact .inr ⟨p,mem_cons_of_mem _ hp,k⟩
      · exact .inr ⟨_,mem_cons_self,⟨e,xs,rfl⟩,k⟩
    · rintro (k|⟨p,hp,k,k'⟩)
      · exact .inl (.inl k)
      · rcases mem_cons.1 hp with rfl|hp
        · exact .inr k'
        · exact .inl (.inr ⟨p,hp,k,k'⟩)
theorem Cx {used:List (vv×Entry)} {b:Nat} (h:b∈yq g used):∃p∈used,p.2=.gone/\g.top p.1=some b:=by
 obtain⟨p,hp,hb⟩:=mem_flatMap.1 h;unfold Bu at hb;split at hb
 · rename_i hx;exact⟨p,hp,hx,by simpa using hb⟩
 · simp at hb
theorem FH {used:List (vv×Entry)} {b:Nat} (h:b∈yu en g used):∃p∈used,p.2=.gone/\(∃e xs,vz en p.1=some (.root e true xs))/\b∈g.nest p.1:=by
 obtain⟨p,hp,hb⟩:=mem_flatMap.1 h;unfold Av at hb;split at hb
 · rename_i hx;split at hb
   · rename_i e xs hn;exact⟨p,hp,hx,⟨e,xs,hn⟩,hb⟩
   · simp at hb
 · simp at hb
theorem xN {used:List (vv×Entry)} (hu:yD en used) {p:vv×Entry} (hp:p∈used):∃f,vz en p.1=some f/\f.alive=true:=by
 rcases hu p hp with ⟨_,e,m,xs,hn⟩|⟨_,cs,hn⟩|⟨e,m,xs,hn,_⟩<;>exact⟨_,hn,rfl⟩
theorem GA (hm:zh en g w):∀{used:List (vv×Entry)},yD en used->vZ used=true->C9 (yq g used)
 | [],_,_=>λb=>by simp[yq]
 | (n,x)::used,hu,hd=>by
  obtain⟨h1,h2⟩:=y7 hd;have ih:=GA hm (used:=used) (λp hp=>hu p (mem_cons_of_mem _ hp)) h2
  rw[yf]at ih ⊢;show ((n,x)::used).flatMap (Bu g) |>.Nodup
  rw[flatMap_cons,List.nodup_append];refine⟨?_,ih,λb hb c hc hbc=>?_⟩
  · unfold Bu;split
    · cases g.top (n,x).1<;>simp
    · simp
  · subst hbc;obtain⟨p,hp,_,hpt⟩:=Cx hc;have hb':b∈yq g [(n,x)]:=by unfold yq;simpa using hb
    obtain⟨q,hq,_,hqt⟩:=Cx hb';rw[mem_singleton]at hq;subst hq;obtain⟨f,hf,hfa⟩:=xN hu (mem_cons_self);obtain⟨f',hf',hfa'⟩:=xN hu (mem_cons_of_mem _ hp);have:=hm.apart n p.1 f f' b hf hf' hfa hfa' hqt hpt
    exact h1 (this▸mem_map_of_mem hp)
theorem El {used:List (vv×Entry)} (hu:yD en used) {p:vv×Entry} (hp:p∈used) (hg:p.2=.gone) (hr:∃e xs,vz en p.1=some (.root e true xs)):∃e xs,vz en p.1=some (.root e true xs):=hr
theorem GB (hm:zh en g w):∀{used:List (vv×Entry)},yD en used->vZ used=true->C9 (yu en g used)
 | [],_,_=>λb=>by simp[yu]
 | (n,x)::used,hu,hd=>by
  obtain⟨h1,h2⟩:=y7 hd;have ih:=GB hm (used:=used) (λp hp=>hu p (mem_cons_of_mem _ hp)) h2
  rw[yf]at ih ⊢;show ((n,x)::used).flatMap (Av en g) |>.Nodup
  rw[flatMap_cons,List.nodup_append];refine⟨?_,ih,λb hb c hc hbc=>?_⟩
  · unfold Av;split
    · rename_i hx;split
      · rename_i e xs hn;obtain⟨_,_,_,hnd⟩:=x8 hm hn;exact hnd rfl
      · simp
    · simp
  · subst hbc;obtain⟨p,hp,hpg,hpr,hpt⟩:=FH hc;have hb':b∈yu en g [(n,x)]:=by unfold yu;simpa using hb
    obtain⟨q,hq,hqg,hqr,hqt⟩:=FH hb';rw[mem_singleton]at hq;subst hq;obtain⟨e1,x1,hn1⟩:=El hu mem_cons_self hqg hqr;obtain⟨e2,x2,hn2⟩:=El hu (mem_cons_of_mem _ hp) hpg hpr;have hne:n≠p.1:=λe=>h1 (e▸mem_map_of_mem hp)
    exact hm.nests n p.1 _ _ hn1 hn2 rfl rfl hne b hqt hpt
theorem Cs.Gifts.flat:{c:Cs}->{x:c.den}->{us:List Value}->{ts ns:List Nat}->c.hasSl=false->Cs.Gifts I w c x us ts ns->ns=[]
 | .one c,x,us,ts,ns,h,⟨v,h1,h2⟩=>by
  cases c with
  | sl e=>simp[Cs.hasSl,CT.isSl]at h
  | _=>exact h2.2.1
 | .cons c r,x,us,ts,ns,h,⟨v,vs',t1,t2,n1,n2,h1,h2,h3,h4,h5⟩=>by
  simp only[Cs.hasSl,Bool.or_eq_false_iff]at h;have:=Cs.Gifts.flat h.2 h5
  subst this;subst h3;cases c with
  | sl e=>simp[CT.isSl]at h
  | _=>rw[append_nil];exact h4.2.1
theorem AL.shift {I':Nat->Prop} {own:Option Bool} {c:Cs} {x:c.den} {us:List Value} {ts ns:List Nat} (hn:∀b∈ns,I b->I' b) (hs:(EN own=true->c.hasSl=false)\/∀b,I b->I' b) (h:AL I w own c x us ts ns):AL I' w own c x us ts ns:=by
 rcases h with ⟨m,ns',rfl,h2,hm⟩|⟨rfl,h2,h3,F,h4,h5⟩
 · refine .inl ⟨m,ns',rfl,?_,hm⟩;have hn2:∀b∈ns',I b->I' b:=by
    cases m with
    | true=>rw[hm rfl];exact hn
    | false =>
     rcases hs with hs|hs
     · rw[h2.flat (hs rfl)];simp
     · exact λb _=>hs b
   clear hm hn;have hc:∀{c:CT} {x:c.den} {v:Value} {ts ns:List Nat},(∀b∈ns,I b->I' b)->CT.Gifts I w c x v ts ns->CT.Gifts I' w c x v ts ns:=by
    intro c x v ts ns hn h;cases c with
    | sl e=>obtain⟨tp,h1,h2,h3⟩:=h;exact⟨tp,h1,h2,λb hb=>hn b hb (h3 b hb)⟩
    | _=>exact h
   clear hs
   revert x us ts ns'
   induction c using Cs.rec (motive_1:=λ_=>True)with
   | one c _=>intro x us ts ns h hn;obtain⟨v,h1,h2⟩:=h;exact⟨v,h1,hc hn h2⟩
   | cons c r _ ih =>
    intro x us ts ns h hn;obtain⟨v,vs',t1,t2,n1,n2,h1,h2,h3,h4,h5⟩:=h;subst h3;exact⟨v,vs',t1,t2,n1,n2,h1,h2,rfl,hc (λb hb=>hn b (mem_append_left _ hb)) h4,ih _ h5 (λb hb=>hn b (mem_append_right _ hb))⟩
   | _=>trivial
 · refine .inr ⟨rfl,h2,h3,F,h4,λb hb=>?_⟩;rcases hs with hs|hs
   · rw[h4.flat (hs rfl)]at hb;simp at hb
   · exact hs b (h5 b hb)
theorem BP.shift {I':Nat->Prop}:∀{rs:List xY} {x:vI (xv rs)} {vs:List Value} {ts ns:List Nat},(∀b∈ns,I b->I' b)->(rs.any xY.sh=false\/∀b,I b->I' b)->BP I w rs x vs ts ns->BP I' w rs x vs ts ns
 | [],_,_,_,_,_,_,h=>h
 | .val agg c own::rs,x,vs,ts,ns,hn,hs,⟨v,vs',us,t1,t2,n1,n2,h1,h2,h3,h4,h5,h6⟩=>by
  subst h4;refine⟨v,vs',us,t1,t2,n1,n2,h1,h2,h3,rfl,h5.shift (λb hb=>hn b (mem_append_left _ hb)) (hs.imp (λhs ho=>?_) id),BP.shift (λb hb=>hn b (mem_append_right _ hb)) (hs.imp (λhs=>?_) id) h6⟩
  · simp only[any_cons,Bool.or_eq_false_iff,xY.sh,ho,Bool.true_and]at hs;exact hs.1
  · simp only[any_cons,Bool.or_eq_false_iff]at hs;exact hs.2
 | .ptr c own::rs,x,vs,ts,ns,hn,hs,⟨v,vs',us,t1,t2,n1,n2,h1,h2,h3,h4,h5,h6⟩=>by
  subst h4;refine⟨v,vs',us,t1,t2,n1,n2,h1,h2,h3,rfl,h5.shift (λb hb=>hn b (mem_append_left _ hb)) (hs.imp (λhs ho=>?_) id),BP.shift (λb hb=>hn b (mem_append_right _ hb)) (hs.imp (λhs=>?_) id) h6⟩
  · simp only[any_cons,Bool.or_eq_false_iff,xY.sh,ho,Bool.true_and]at hs;exact hs.1
  · simp only[any_cons,Bool.or_eq_false_iff]at hs;exact hs.2
theorem AN.shift {I':Nat->Prop}:∀{ps:List wQ} {rs:List xY} {x:vI (xo ps rs)} {bs:List Nat} {vs:List Value} {ts ns:List Nat},(∀b∈ns,I b->I' b)->(zR ps rs=false\/∀b,I b->I' b)->AN I w ps rs x bs vs ts ns->AN I' w ps rs x bs vs ts ns
 | [],rs,x,bs,vs,ts,ns,hn,hs,⟨h1,h2⟩=>⟨h1,h2.shift hn (hs.imp (λhs=>by simpa[zR]using hs) id)⟩
 | .val agg c mv::ps,rs,x,bs,vs,ts,ns,hn,hs,h=>AN.shift (ps:=ps) hn (hs.imp (λhs=>by simpa[zR,wQ.sh]using hs) id) h
 | .ptr c own::ps,rs,x,bs,vs,ts,ns,hn,hs,⟨b,bs',us,t1,t2,n1,n2,h1,h2,h3,h4,h5,h6⟩=>by
  subst h4;refine⟨b,bs',us,t1,t2,n1,n2,h1,h2,h3,rfl,h5.shift (λb hb=>hn b (mem_append_left _ hb)) (hs.imp (λhs ho=>?_) id),AN.shift (λb hb=>hn b (mem_append_right _ hb)) (hs.imp (λhs=>?_) id) h6⟩
  · simp only[zR,any_cons,Bool.or_eq_false_iff,wQ.sh,ho,Bool.true_and]at hs;exact hs.1.1
  · simp only[zR,any_cons,Bool.or_eq_false_iff]at hs ⊢;exact⟨hs.1.2,hs.2⟩
end Go.V
namespace Go.V
variable {P:Program} {G:xC} {w0:World} {T N:Nat->Prop} {en E:List (vv×Entry)} {g g':Gh} {w w':World} {I:Nat->Prop} {nt:Nat} {ann:List (Nat×vQ)}

theorem DT:∀(ps:List wQ) (i:Nat) (x:vI (wi ps)),(∀t v,vz (entry i ps x).1 t=some v->zV (dom (entry i ps x).2) v)/\(∀n cs,(n,Entry.box cs)∈(entry i ps x).2->∀c∈cs,yO (dom (entry i ps x).2) c)
 | [],i,x=>⟨(λt v h=>by cases h),(λn cs h=>by cases h)⟩
 | .val agg c mv::ps,i,x=>by
  obtain⟨k1,k2⟩:=DT ps (i+1) (vI.tl c (wi ps) x);obtain⟨k3,k4⟩:=DJ (Qs mv) (64*i+1) c (vI.hd c (wi ps) x);rw[JB];refine⟨λt v h=>?_,λn cs h=>?_⟩
  · rw[vY]at h;split at h
    · cases h;exact IZ λd hd=>(k4 d hd).mono λn hn=>BS hn
    · exact (k1 t v h).mono λn hn=>Bb hn
  · rcases mem_append.1 h with h|h
    · exact absurd h (k3 n cs)
    · exact λd hd=>(k2 n cs h d hd).mono λn hn=>Bb hn
 | .ptr c own::ps,i,x=>by
  obtain⟨k1,k2⟩:=DT ps (i+1) (vI.tl c (wi ps) x);obtain⟨k3,k4⟩:=DJ own (64*i+2) c (vI.hd c (wi ps) x);rw[JC];refine⟨λt v h=>?_,λn cs h=>?_⟩
  · rw[vY]at h;split at h
    · cases h;intro n hn;simp[Cell.refs]at hn;subst hn;exact Fx
    · exact (k1 t v h).mono λn hn=>xz.2 (.inr (Bb hn))
  · rcases mem_cons.1 h with h|h
    · cases h;exact λd hd=>(k4 d hd).mono λn hn=>xz.2 (.inr (BS hn))
    · rcases mem_append.1 h with h|h
      · exact absurd h (k3 n cs)
      · exact λd hd=>(k2 n cs h d hd).mono λn hn=>xz.2 (.inr (Bb hn))
theorem H3 {F:vv->Option Entry}:∀{ps:List wQ} {args:List AV} {b:Fq (wi ps)} {L:List vv},(xg true ps args).Runs F b L->b.ro=[]
 | [],[],b,L,hr=>by obtain⟨rfl,_⟩:=hr;rfl
 | .val agg c false::ps,v::args,b,L,hr=>by
  simp only[xg]at hr;obtain⟨_,L5,L6,_,h0,hr⟩:=Rd.runs_bind hr;obtain⟨a,L1,L2,_,h1,hr⟩:=Rd.runs_bind hr;obtain⟨b',L3,L4,_,h2,hr⟩:=Rd.runs_bind hr;obtain⟨rfl,_⟩:=hr;have ih:=H3 h2
  exact ih
 | .val agg c true::ps,v::args,b,L,hr=>by
  simp only[xg]at hr;obtain⟨_,L5,L6,_,h0,hr⟩:=Rd.runs_bind hr;obtain⟨a,L1,L2,_,h1,hr⟩:=Rd.runs_bind hr;obtain⟨b',L3,L4,_,h2,hr⟩:=Rd.runs_bind hr;obtain⟨rfl,_⟩:=hr;have ih:=H3 h2
  exact ih
 | .ptr c own::ps,.cell (.box n 0)::args,b,L,hr=>by
  simp only[xg]at hr;obtain⟨L',_,hr⟩:=hr;dsimp only at hr;split at hr
  · obtain⟨a,L1,L2,_,h1,hr⟩:=Rd.runs_bind hr;obtain⟨b',L3,L4,_,h2,hr⟩:=Rd.runs_bind hr;obtain⟨rfl,_⟩:=hr;have ih:=H3 h2
    exact ih
  · exact hr.elim
theorem Em {F:vv->Option Entry} {sl:Bool}:∀{ps:List wQ} {args:List AV} {b:Fq (wi ps)} {L:List vv},(xg sl ps args).Runs F b L->vZ b.used=true->b.ptrs.Nodup/\∀n∈b.ptrs,n∈b.used.map (·.1)
 | [],[],b,L,hr,_=>by obtain⟨rfl,_⟩:=hr;exact⟨List.nodup_nil,by simp⟩
 | .val agg c false::ps,v::args,b,L,hr,hd=>by
  simp only[xg]at hr;obtain⟨_,L5,L6,_,h0,hr⟩:=Rd.runs_bind hr;obtain⟨a,L1,L2,_,h1,hr⟩:=Rd.runs_bind hr;obtain⟨b',L3,L4,_,h2,hr⟩:=Rd.runs_bind hr;obtain⟨rfl,_⟩:=hr;obtain⟨k1,k2⟩:=Em h2 (xE hd).2.1;exact⟨k1,λn hn=>by rw[map_append];exact mem_append_right _ (k2 n hn)⟩
 | .val agg c true::ps,v::args,b,L,hr,hd=>by
  simp only[xg]at hr;obtain⟨_,L5,L6,_,h0,hr⟩:=Rd.runs_bind hr;obtain⟨a,L1,L2,_,h1,hr⟩:=Rd.runs_bind hr;obtain⟨b',L3,L4,_,h2,hr⟩:=Rd.runs_bind hr;obtain⟨rfl,_⟩:=hr;obtain⟨k1,k2⟩:=Em h2 (xE hd).2.1;exact⟨k1,λn hn=>by rw[map_append];exact mem_append_right _ (k2 n hn)⟩
 | .ptr c own::ps,.cell (.box n 0)::args,b,L,hr,hd=>by
  simp only[xg]at hr;obtain⟨L',_,hr⟩:=hr;dsimp only at hr;split at hr
  · obtain⟨a,L1,L2,_,h1,hr⟩:=Rd.runs_bind hr;obtain⟨b',L3,L4,_,h2,hr⟩:=Rd.runs_bind hr;obtain⟨rfl,_⟩:=hr;obtain⟨d1,d2⟩:=y7 hd;obtain⟨k1,k2⟩:=Em h2 (xE d2).2.1;refine⟨List.nodup_cons.2 ⟨λhn=>d1 (by rw[map_append];exact mem_append_right _ (k2 n hn)),k1⟩,λm hm=>?_⟩;rcases mem_cons.1 hm with rfl|hm
    · simp
    · simp only[List.map_cons,map_append];exact mem_cons_of_mem _ (mem_append_right _ (k2 m hm))
  · exact hr.elim
theorem J4 {used:List (vv×Entry)} {g1 g2 gc gf:Gh} {D D':vv->Prop} {wc wf:World} (hd:vZ used=true) (hloc:∀n,g2.loc n=g.loc n) (hle:Le D gc wc D' gf wf):∀{ps:List wQ} {i:Nat} {vals:List Value} {nm:List vv} {bs:List Nat},Ad en g used ps vals nm->D4 D gc i ps vals->N1 gf i ps bs ->
 vT (N3 (used++en) g2) nm bs
 | [],i,vals,nm,bs,h1,_,h3=>by obtain rfl:=h1;obtain rfl:=h3;exact trivial
 | .val .. :: ps,i,v::vals,nm,bs,h1,h2,h3=>J4 (ps:=ps) (i:=i+1) (vals:=vals) (g1:=g1) hd hloc hle h1 h2 h3
 | .ptr .. :: ps,i,v::vals,nm,bs,h1,h2,h3=>by
  obtain⟨n,ns',rfl,k1,k2,k3,k4⟩:=h1;obtain⟨⟨l1,l2⟩,l3⟩:=h2;obtain⟨b,bs',rfl,m1,m2⟩:=h3;refine⟨⟨?_,?_⟩,J4 (g1:=g1) hd hloc hle k4 l3 m2⟩
  · rw[AK (mem_map_of_mem k1:n∈used.map (·.1))];exact yH hd k1
  · rw[hloc,k3,←l2,←hle.loc _ l1];exact m1
 | .val .. :: _,_,[],_,_,_,h2,_=>h2.elim
 | .ptr .. :: _,_,[],_,_,_,h2,_=>h2.elim
theorem Ok {D:vv->Prop} {l:List AV} {rvals:List Value} (h:vT (xP D g w) l rvals):wP D g w (EY l) (KH rvals):=by
 have h0:∀{x:AV} {v:Value},xP D g w x v->wP D g w x v:=by
  intro x v h;cases x with
  | cell c=>exact h
  | agg cs=>exact h
  | tup l=>exact h.elim
 match l,rvals,h with
 | [],[],_=>exact⟨#[],rfl,trivial⟩
 | [x],[v],h=>exact h0 h.1
 | x::y::l,v::u::r,h=>exact⟨(v::u::r).toArray,rfl,h⟩
theorem MS.begin (g:Gh) (Tc Nc:Nat->Prop) (h1:∀b,g.I b->b<w.heap.size) (h2:∀b,g.I b->MA w Nc b) (hs:∀b,Tc b->soft w b):MS w Tc Nc [] g w :=
 ⟨⟨(λn e h=>by cases h),(λn m e f b h=>by cases h),(λn e b h=>by cases h),(λn m e f h=>by cases h),h1,λn h=>absurd rfl h,(λn e b h=>by cases h)⟩,
  ⟨rfl,rfl,rfl,Nat.le_refl _,λb _ _=>rfl,(λn e b h=>by cases h),(λn e b h=>by cases h),λb hb=>.inr (.inr (h2 b hb)),(λn e b h=>by cases h),λb hb=>hb.elim (λhl c t lo hi hc=>by have:=Ea hc;omega) (hs b)⟩⟩
theorem MS.start (Ic:Nat->Prop) (Tc Nc:Nat->Prop) (h1:∀b,Ic b->b<w.heap.size) (h2:∀b,Ic b->MA w Nc b) (hs:∀b,Tc b->soft w b):MS w Tc Nc [] ⟨Ic,λ_=>.slice none 0 0,λ_=>0,λ_=>none,λ_=>[],λ_=>[]⟩ w :=
 MS.begin _ Tc Nc h1 h2 hs
end Go.V
namespace Go.V
variable {P:Program} {G:xC} {w0:World} {T N:Nat->Prop} {en E:List (vv×Entry)} {g g':Gh} {w w':World} {I:Nat->Prop} {nt:Nat} {ann:List (Nat×vQ)}

theorem R8 {ps:List wQ} {rs:List xY} {used:List (vv×Entry)} {ro nm:List vv} {ts ns:List Nat} {vals:List Value} {D:vv->Prop} {gc gf:Gh} {Sf:St} {g1:Gh} {Tc Nc:Nat->Prop} {Ic:Nat->Prop} {uid:vv}
 (hM:MS w0 T N en g w) (hu:yD en used) (hd:vZ used=true) (hro:∀n∈ro,vz used n=none) (hsl:zR ps rs=true->ro=[])
 (hM1:MS w0 T N (used++en) g1 w) (hle1:Le (dom en) g w (dom (used++en)) g1 w) (e1:g1.loc=g.loc) (e3:g1.top=g.top) (e4:g1.nest=g.nest) (hI1:∀b,g1.I b↔g.I b\/∃p∈used,(∃e xs,p.2=.fwd e xs)/\g.top p.1=some b)
 (hts:ts=yq g used) (hns:ns=yu en g used) (hIc:∀b,Ic b↔g1.I b\/∃n∈ro,∃f,vz en n=some f/\f.alive=true/\g.top n=some b) (hTc:∀b,Tc b↔b∈ts) (hNc:∀b,Nc b↔b∈ns\/∃c,b=w.heap.size+c/\Ic c)
 (hnames:Ad en g used ps vals nm) (hnd:nm.Nodup) (hploc:D4 D gc 0 ps vals) (hgc:gc.I=Ic) (hMf:MS w Tc Nc Sf.en gf w') (hle:Le D gc w (dom Sf.en) gf w')
 {vs:List AV} {rvals:List Value} {r:vI (xo ps rs)} {ents:List (vv×Entry)} {L:List vv} (hrv:vT (wP (dom Sf.en) gf w') vs rvals) (hok:Dg rs vs=true) (hto:(Cv 0 ps rs vs).Runs (vz Sf.en) (r,ents) L) (hde:vZ ents=true)
 (hdist:vZ (vV uid ps rs nm r).news=true) (hnew:∀p∈(vV uid ps rs nm r).news,vz en p.1=none) :
 ∃g',MS w0 T N ((vV uid ps rs nm r).news++((vV uid ps rs nm r).upds++used)++en) g' w'/\Le (dom en) g w (dom ((vV uid ps rs nm r).news++((vV uid ps rs nm r).upds++used)++en)) g' w' /\
  wP (dom ((vV uid ps rs nm r).news++((vV uid ps rs nm r).upds++used)++en)) g' w' (EY (vV uid ps rs nm r).vals) (KH rvals):=by
 have hM1I:∀b,g1.I b->b<w.heap.size:=hM1.mem.old;have htsU:∀b∈ts,b<w.heap.size/\¬g1.I b/\∃p∈used,p.2=.gone/\g.top p.1=some b:=by
  intro b hb;rw[hts]at hb;obtain⟨p,hp,hpg,hpt⟩:=Cx hb;obtain⟨f,hf,hfa⟩:=xN hu hp;refine⟨(hM.mem.rep p.1 f hf).top_lt hfa hpt,λhI=>?_,p,hp,hpg,hpt⟩;rcases (hI1 b).1 hI with h|⟨q,hq,⟨e,xs,hqe⟩,hqt⟩
  · exact hM.mem.topI p.1 f b hf hfa hpt h
  · obtain⟨f',hf',hfa'⟩:=xN hu hq;have:=hM.mem.apart p.1 q.1 f f' b hf hf' hfa hfa' hpt hqt
    have h1:=yH hd hp;have h2:=yH hd hq
    rw[this,h2]at h1;rw[hpg,hqe]at h1;cases h1
 have hnsU:∀b∈ns,g.I b/\∃p∈used,(∃e xs,vz en p.1=some (.root e true xs))/\b∈g.nest p.1:=by
  intro b hb;rw[hns]at hb;obtain⟨p,hp,hpg,hpr,hpt⟩:=FH hb;obtain⟨e,xs,hn⟩:=El hu hp hpg hpr;obtain⟨_,_,hI,_⟩:=x8 hM.mem hn;exact⟨hI b hpt,p,hp,⟨e,xs,hn⟩,hpt⟩
 have hgI:∀b,g.I b->g1.I b:=λb hb=>(hI1 b).2 (.inl hb);have halive:∀n f,vz (used++en) n=some f->f.alive=true->vz en n=some f/\n∉used.map (·.1):=by
  intro n f hf ha;by_cases hn:n∈used.map (·.1)
  · exfalso;rw[AK hn]at hf;have hp:=wY hf
    rcases hu (n,f) hp with ⟨h,_⟩|⟨h,_⟩|⟨e,m,xs,_,h⟩
    · have h:f=.gone:=h;subst h;cases ha
    · have h:f=.gone:=h;subst h;cases ha
    · have h:f=.fwd e xs:=h;subst h;cases ha
  · rw[xi hn]at hf;exact⟨hf,hn⟩
 have hlent:∀b,(∃n∈ro,∃f,vz en n=some f/\f.alive=true/\g.top n=some b)->b<w.heap.size/\b∉ts/\¬g1.I b:=by
  rintro b ⟨n,hn,f,hf,hfa,ht⟩;have hnu:n∉used.map (·.1):=λhm=>by
   have:=hro n hn;exact absurd (AQ.1 hm) (by rw[this];simp)
  refine⟨(hM.mem.rep n f hf).top_lt hfa ht,λhb=>?_,λhI=>?_⟩
  · obtain⟨_,_,p,hp,_,hpt⟩:=htsU b hb;obtain⟨f',hf',hfa'⟩:=xN hu hp;have:=hM.mem.apart n p.1 f f' b hf hf' hfa hfa' ht hpt
    exact hnu (this▸mem_map_of_mem hp)
  · rcases (hI1 b).1 hI with h|⟨q,hq,_,hqt⟩
    · exact hM.mem.topI n f b hf hfa ht h
    · obtain⟨f',hf',hfa'⟩:=xN hu hq;have:=hM.mem.apart n q.1 f f' b hf hf' hfa hfa' ht hqt
      exact hnu (this▸mem_map_of_mem hq)
 have haliveT:∀n f b,vz (used++en) n=some f->f.alive=true->g1.top n=some b->b<w.heap.size/\b∉ts/\¬g1.I b:=by
  intro n f b hf ha ht;obtain⟨hfe,hnu⟩:=halive n f hf ha;rw[e3]at ht;refine⟨(hM.mem.rep n f hfe).top_lt ha ht,λhb=>?_,λhI=>hM1.mem.topI n f b hf ha (by rw[e3];exact ht) hI⟩;obtain⟨_,_,p,hp,_,hpt⟩:=htsU b hb;obtain⟨f',hf',hfa'⟩:=xN hu hp;have:=hM.mem.apart n p.1 f f' b hfe hf' ha hfa' ht hpt
  exact hnu (this▸mem_map_of_mem hp)
 have htree:∀n f,vz (used++en) n=some f->f.isTree=true->vz en n=some f/\n∉used.map (·.1):=by
  intro n f hf ha;by_cases hn:n∈used.map (·.1)
  · exfalso;rw[AK hn]at hf;have hp:=wY hf
    rcases hu (n,f) hp with ⟨h,_⟩|⟨h,_⟩|⟨e,m,xs,_,h⟩
    · have h:f=.gone:=h;subst h;cases ha
    · have h:f=.gone:=h;subst h;cases ha
    · have h:f=.fwd e xs:=h;subst h;cases ha
  · rw[xi hn]at hf;exact⟨hf,hn⟩
 have htreeT:∀n f b,vz (used++en) n=some f->f.isTree=true->b∈g1.nest n->b<w.heap.size/\b∉ts:=by
  intro n f b hf ht hb;obtain⟨hfe,hnu⟩:=htree n f hf ht;rw[e4]at hb;refine⟨GZ (hM.mem.rep n f hfe) ht hb,λhbt=>?_⟩;obtain⟨_,_,p,hp,_,hpt⟩:=htsU b hbt;obtain⟨f',hf',hfa'⟩:=xN hu hp;exact (hM.mem.wood n f b hfe ht hb).2.1 p.1 f' hf' hfa' hpt
 let I3:Nat->Prop:=λb=>gf.I b\/∃p∈ents,(∃e xs,p.2=.fwd e xs)/\gf.top p.1=some b
 obtain⟨bs,houts,hue,hbl⟩:=D6 (I:=I3) hMf.mem hrv hok hto (used:=ents) ⟨λb hb=>.inl hb,λp hp e xs he b hb=>.inr ⟨p,hp,⟨e,xs,he⟩,hb⟩,λn hn=>by simp at hn⟩ (λp hp=>hp);obtain⟨g3,hM3,hle3,_,_,e33,e34,hI3⟩:=hMf.useAny hue hde;have hI3':∀b,I3 b↔g3.I b:=λb=>(hI3 b).symm
 have houts:AN I3 w' ps rs r bs rvals (yq gf ents) (yu Sf.en gf ents):=houts;have hsize:=hMf.since.size
 have hmem:∀b,b<w.heap.size->b∉ts->w'.heap[b]?=w.heap[b]?:=λb hb hn=>hMf.since.mem b hb λhT=>hn ((hTc b).1 hT);have himm:∀b,I3 b->w.heap.size<=b\/b∈ts\/Ic b:=by
  intro b hb;rcases hM3.since.imm b ((hI3' b).1 hb)with h|h|h
  · exact .inl h
  · exact .inr (.inl ((hTc b).1 h))
  · rcases (hNc _).1 h with h|⟨c,hc,hI⟩
    · have:=hM1I _ (hgI _ (hnsU _ h).1);omega
    · obtain rfl:b=c:=by omega
      exact .inr (.inr hI)
 let lent:Nat->Prop:=λb=>∃n∈ro,∃f,vz en n=some f/\f.alive=true/\g.top n=some b
 let J:Nat->Prop:=λb=>I3 b/\¬lent b
 obtain⟨hM2,hle2⟩:=hM1.world (w':=w') (λb hb=>hmem b (hM1I b hb) λht=>(htsU b ht).2.1 hb) (λn f b hf ha hb=>hmem b (haliveT n f b hf ha hb).1 (haliveT n f b hf ha hb).2.1) hMf.since.os hMf.since.out hMf.since.tape hsize
  (λb hb hT=>hmem b (Nat.lt_of_lt_of_le hb hM1.since.size) λht=>by
   obtain⟨_,_,p,hp,_,hpt⟩:=htsU b ht;obtain⟨f,hf,hfa⟩:=xN hu hp;rcases hM.since.tops p.1 f b hf hfa hpt with h|h
   · omega
   · exact hT h)
  (λn f b hf ht hb=>by
   obtain⟨k1,k2⟩:=htreeT n f b hf ht hb;exact hmem b k1 k2) (λb hb=>by
   rcases Nat.lt_or_ge b w.heap.size with hl|hl
   · by_cases ht:b∈ts
     · exact hMf.since.soft b (.inr ((hTc b).2 ht))
     · exact (hM1.since.soft b hb).of_same (hmem b hl ht)
   · exact hMf.since.soft b (.inl hl))
 have htsT:∀b∈ts,w0.heap.size<=b\/T b:=by
  intro b hb;obtain⟨_,_,p,hp,_,hpt⟩:=htsU b hb;obtain⟨f,hf,hfa⟩:=xN hu hp;exact hM.since.tops p.1 f b hf hfa hpt
 obtain⟨hM4,hle4⟩:=hM2.freeze J (λb hb=>hM3.mem.old b ((hI3' b).1 hb.1))
  (λn f b hf ha hb hJ=>by
   obtain⟨k1,k2,k3⟩:=haliveT n f b hf ha hb;rcases himm b hJ.1 with h|h|h
   · omega
   · exact k2 h
   · rcases (hIc b).1 h with h|h
     · exact k3 h
     · exact hJ.2 h)
  (λn f b hf ht hb hJ=>by
   obtain⟨k1,k2⟩:=htreeT n f b hf ht hb;rcases himm b hJ.1 with h|h|h
   · omega
   · exact k2 h
   · rcases (hIc b).1 h with h|h
     · exact (hM1.mem.wood n f b hf ht hb).1 h
     · exact hJ.2 h)
  (λb hJ=>by
   rcases himm b hJ.1 with h|h|h
   · exact .inl (Nat.le_trans hM1.since.size h)
   · exact (htsT b h).imp id .inl
   · rcases (hIc b).1 h with h|h
     · exact hM1.since.imm b h
     · exact absurd h hJ.2)
 let g2:Gh:={ g1 with I:=λb=>g1.I b\/J b }
 have hts3:∀b∈yq gf ents,¬I3 b/\(w.heap.size<=b\/b∈ts):=by
  intro b hb;obtain⟨p,hp,hpg,hpt⟩:=Cx hb;obtain⟨f,hf,hfa⟩:=xN hue hp;refine⟨λhI=>?_,(hMf.since.tops p.1 f b hf hfa hpt).imp id (hTc b).1⟩;rcases hI with h|⟨q,hq,⟨e,xs,hqe⟩,hqt⟩
  · exact hMf.mem.topI p.1 f b hf hfa hpt h
  · obtain⟨f',hf',hfa'⟩:=xN hue hq;have:=hMf.mem.apart p.1 q.1 f f' b hf hf' hfa hfa' hpt hqt
    have h1:=yH hde hp;have h2:=yH hde hq
    rw[this,h2]at h1;rw[hpg,hqe]at h1;cases h1
 have hns3:∀b∈yu Sf.en gf ents,w.heap.size<=b\/b∈ts\/b∈ns:=by
  intro b hb;obtain⟨p,hp,hpg,hpr,hpt⟩:=FH hb;obtain⟨e,xs,hn⟩:=El hue hp hpg hpr;rcases hMf.since.nests p.1 _ b hn rfl hpt with h|h|h
  · exact .inl h
  · exact .inr (.inl ((hTc b).1 h))
  · rcases (hNc b).1 h with h|⟨c,hc,_⟩
    · exact .inr (.inr h)
    · exact .inl (by omega)
 have hIcI3:∀b,g1.I b->I3 b:=λb hb=>.inl (hle.imm b (by rw[hgc];exact (hIc b).2 (.inl hb)));have hgiv:zb w0 T N (used++en) g2 (yq gf ents++[]) (yu Sf.en gf ents++[]):=by
  rw[append_nil,append_nil];refine⟨GA hMf.mem hue hde,GB hMf.mem hue hde,λb hb=>?_,λb hb=>?_,λb hb m f hf ht hbm=>?_⟩
  rotate_left 2
  · obtain⟨k1,k2⟩:=hts3 b hb;have hbm:b∈g1.nest m:=hbm
    obtain⟨j1,j2⟩:=htreeT m f b hf ht hbm;rcases k2 with h|h
    · omega
    · exact j2 h
  · obtain⟨k1,k2⟩:=hts3 b hb;refine⟨λhI=>hI.elim (λh=>k1 (hIcI3 b h)) (λh=>k1 h.1),λm f hf ha ht=>?_,k2.elim (λh=>.inl (Nat.le_trans hM1.since.size h)) (htsT b)⟩;obtain⟨j1,j2,_⟩:=haliveT m f b hf ha ht;rcases k2 with h|h
    · omega
    · exact j2 h
  · have k2:=hns3 b hb;refine⟨λm f hf hfd hbm=>?_,?_⟩
    · obtain⟨hfe,hnu⟩:=halive m f hf (Im hfd);have hbm:b∈g.nest m:=by have:b∈g1.nest m:=hbm;rw[e4]at this;exact this
      have hbI:g.I b:=by
       cases f with
       | root e mm xs=>exact (x8 hM.mem hfe).2.2.1 b hbm
       | gone=>cases hfd
       | fwd _ _=>cases hfd
       | box _=>cases hfd
       | tree _ _=>cases hfd
      rcases k2 with h|h|h
      · have:=hM1I b (hgI b hbI);omega
      · exact (htsU b h).2.1 (hgI b hbI)
      · obtain⟨_,p,hp,⟨e,xs,hn⟩,hpb⟩:=hnsU b h;have hne:m≠p.1:=λh=>hnu (h▸mem_map_of_mem hp)
        exact hM.mem.nests m p.1 f _ hfe hn hfd rfl hne b hbm hpb
    · rcases k2 with h|h|h
      · exact .inl (Nat.le_trans hM1.since.size h)
      · exact (htsT b h).imp id .inl
      · obtain⟨_,p,hp,⟨e,xs,hn⟩,hpb⟩:=hnsU b h;exact hM.since.nests p.1 _ b hn rfl hpb
 have hlentns:∀b∈yu Sf.en gf ents,¬lent b:=by
  intro b hb hl;obtain⟨j1,j2,j3⟩:=hlent b hl;rcases hns3 b hb with h|h|h
  · omega
  · exact j2 h
  · exact j3 (hgI b (hnsU b h).1)
 have houts2:AN g2.I w' ps rs r bs rvals (yq gf ents) (yu Sf.en gf ents):=by
  refine houts.shift (λb hb hI=>.inr ⟨hI,hlentns b hb⟩) ?_;cases hs:zR ps rs with
  | false=>exact .inl rfl
  | true =>
   refine .inr λb hb=>.inr ⟨hb,λ⟨n,hn,_⟩=>?_⟩;rw[hsl hs]at hn;simp at hn
 have hptr:=J4 (en:=en) (g:=g) (g1:=g1) (g2:=g2) hd (λn=>congrFun e1 n) hle hnames hploc hbl;have hfresh:∀p∈(vV uid ps rs nm r).news,vz (used++en) p.1=none:=by
  intro p hp;refine CU (λhm=>?_) (hnew p hp);obtain⟨q,hq,he⟩:=mem_map.1 hm;obtain⟨f,hf,_⟩:=xN hu hq;rw[he,hnew p hp]at hf;cases hf
 obtain⟨g5,hG5,hv5⟩:=DS ps rs uid r nm bs rvals _ _ [] [] g2 hM4 hgiv houts2 hptr hnd hdist hfresh;have e5:(vV uid ps rs nm r).news++((vV uid ps rs nm r).upds++used)++en=(vV uid ps rs nm r).news++(vV uid ps rs nm r).upds++(used++en):=by simp only[append_assoc]
 rw[e5];exact⟨g5,hG5.ms,(hle1.trans (hle2.trans hle4)).trans hG5.le,Ok hv5⟩
end Go.V
namespace Go.V
variable {P:Program} {G:xC} {ann:List (Nat×vQ)}

theorem N4 {G:xC} {rv:List ResultVar} {ps:List wQ} {rs:List xY} {S:St} {r:vI (xo ps rs)} (h:leave G rv ps rs S=some r) :
 ∃vs ents L,Df G S rv=some vs/\Dg rs vs=true/\(Cv 0 ps rs vs).Runs (vz S.en) (r,ents) L/\vZ ents=true:=by
 unfold leave at h;split at h
 · rename_i vs hvs;cases ho:Dg rs vs with
   | false=>rw[ho]at h;cases h
   | true =>
    rw[ho]at h;simp only[cT]at h;obtain⟨y,L,h1,h2⟩:=Rd.run_some h;cases hd:vZ y.2 with
    | false=>rw[hd]at h2;cases h2
    | true =>
     rw[hd]at h2;simp only[cT,Option.some.injEq]at h2;exact⟨vs,y.2,L,hvs,ho,by rw[←h2];exact h1,hd⟩
 · cases h
theorem PF (hG : AW P G) (hm : P.follows .mixedOrders=true) {f : FuncId} {fn : Func} {c : Code} {ps : List wQ} {rs : List xY} (hf : P.funcs[f]?=some fn) (hn : (fn.name == "runtime.NumGoroutine")=false) (hb : fn.body=some c) :
 Eg P f ⟨ps,rs,I8 G ann fn c ps rs⟩:=by
 refine⟨⟨fn,c,hf,hn,hb⟩,?_⟩;intro w0 T N en g w uid args vals b L r hM hargs hbind hro hden hdist hnew;simp only[aT]at hro;obtain⟨hd,hro⟩:=hro;have hro:∀n∈b.ro,vz b.used n=none:=λn hn=>by
  have:=all_eq_true.1 hro n hn;cases h:vz b.used n with
  | none=>rfl
  | some y=>rw[h]at this;cases this
 have hden:I8 G ann fn c ps rs b.args=some r:=hden;unfold I8 at hden;cases hck:(Ak fn.ntmps c&&(Nat.ble ps.length fn.ntmps&&vZ (entry 0 ps b.args).2))with
 | false=>rw[hck]at hden;cases hden
 | true =>
 rw[hck]at hden;simp only[aT,cT]at hck hden;obtain⟨hbel,_,hdis⟩:=hck
 let Ic:Nat->Prop:=λb'=>(g.I b'\/∃p∈b.used,(∃e xs,p.2=.fwd e xs)/\g.top p.1=some b')\/∃n∈b.ro,∃f,vz en n=some f/\f.alive=true/\g.top n=some b'
 obtain⟨hat,hu,hnames⟩:=Ek (I:=Ic) hM.mem hargs hbind ⟨λb' hb'=>.inl (.inl hb'),λp hp e xs he b' hb'=>.inl (.inr ⟨p,hp,⟨e,xs,he⟩,hb'⟩),λn hn f b' hf ha ht=>.inr ⟨n,hn,f,hf,ha,ht⟩⟩;obtain⟨g1,hM1,hle1,e1,e2,e3,e4,hI1⟩:=hM.useAny hu hd;have hIc:∀b',Ic b'↔g1.I b'\/∃n∈b.ro,∃f,vz en n=some f/\f.alive=true/\g.top n=some b':=λb'=>by
  constructor
  · rintro (h|h)
    · exact .inl ((hI1 b').2 h)
    · exact .inr h
  · rintro (h|h)
    · exact .inl ((hI1 b').1 h)
    · exact .inr h
 let Tc:Nat->Prop:=λb'=>b'∈yq g b.used
 let Nc:Nat->Prop:=λk=>k∈yu en g b.used\/∃c,k=w.heap.size+c/\Ic c
 have hIsz:∀b',Ic b'->b'<w.heap.size:=λb' h=>by
  rcases (hIc b').1 h with h|⟨n,_,f,hf,ha,ht⟩
  · exact hM1.mem.old b' h
  · exact (hM.mem.rep n f hf).top_lt ha ht
 have hMc:=MS.start (w:=w) Ic Tc Nc hIsz (λb' h=>.inr ⟨b',rfl,h⟩) (λb' hb'=>by
  obtain⟨p,hp,hpg,hpt⟩:=Cx hb';obtain⟨f,hf,hfa⟩:=xN hu hp;exact hM.since.soft b' (hM.since.tops p.1 f b' hf hfa hpt))
 have hgiv:zb w Tc Nc [] ⟨Ic,λ_=>.slice none 0 0,λ_=>0,λ_=>none,λ_=>[],λ_=>[]⟩ (yq g b.used++[]) (yu en g b.used++[]):=by
  rw[append_nil,append_nil];refine⟨GA hM.mem hu hd,GB hM.mem hu hd,λb' hb'=>⟨λhI=>?_,(λm f h=>by cases h),.inr hb'⟩,λb' hb'=>⟨(λm f h=>by cases h),.inr (.inr (.inl hb'))⟩,(λb' hb' m f h=>by cases h)⟩;obtain⟨p,hp,hpg,hpt⟩:=Cx hb';obtain⟨f,hf,hfa⟩:=xN hu hp;rcases hI with (h|⟨q,hq,⟨e,xs,hqe⟩,hqt⟩)|⟨n,hn,f',hf',hfa',ht⟩
  · exact hM.mem.topI p.1 f b' hf hfa hpt h
  · obtain⟨f',hf',hfa'⟩:=xN hu hq;have:=hM.mem.apart p.1 q.1 f f' b' hf hf' hfa hfa' hpt hqt
    have h1:=yH hd hp;have h2:=yH hd hq
    rw[this,h2]at h1;rw[hpg,hqe]at h1;cases h1
  · have:=hM.mem.apart p.1 n f f' b' hf hf' hfa hfa' hpt ht;have h1:=yH hd hp
    rw[this,hro n hn]at h1;cases h1
 obtain⟨gc,hgave,hslots,hploc⟩:=FG hMc ps 0 b.args vals _ _ [] [] hgiv hat hdis;have hInv:wB w Tc Nc ⟨(entry 0 ps b.args).1,(entry 0 ps b.args).2⟩ gc w { tmps:=vals.toArray++Array.replicate (fn.ntmps-vals.toArray.size) undef,defers:=[] }:=by
  refine⟨hgave.to_nil.mem,hgave.to_nil.since,λt=>?_,rfl⟩;rcases hslots t with h|⟨k,v,x,h1,h2,h3,h4⟩
  · show wP _ _ _ (match vz (entry 0 ps b.args).1 t with|some v=>v|none=>.undef) _;rw[h];trivial
  · show wP _ _ _ (match vz (entry 0 ps b.args).1 t with|some v=>v|none=>.undef) _;rw[h3];obtain rfl:t=k:=by omega
    have hlt:t<vals.length:=(List.getElem?_eq_some_iff.1 h2).1;have:(vals.toArray++Array.replicate (fn.ntmps-vals.toArray.size) undef).getD t undef=v:=by
     have hv:=(List.getElem?_eq_some_iff.1 h2).2;have hsz':t<(vals.toArray++Array.replicate (fn.ntmps-vals.toArray.size) undef).size:=by rw[Array.size_append,List.size_toArray];omega
     unfold Array.getD;rw[dif_pos hsz'];show (vals.toArray++Array.replicate (fn.ntmps-vals.toArray.size) undef)[t]'hsz'=v
     rw[Array.getElem_append_left (by simpa using hlt)];simpa using hv
    rw[this];exact h4
 have hsz:fn.ntmps<=(vals.toArray++Array.replicate (fn.ntmps-vals.toArray.size) undef).size:=by simp;omega
 have hc0:wV ⟨(entry 0 ps b.args).1,(entry 0 ps b.args).2⟩:=by
  obtain⟨k1,k2⟩:=DT ps 0 b.args;refine⟨λt=>?_,λn cs hn=>k2 n cs (wY hn)⟩;show z0 _ (match vz (entry 0 ps b.args).1 t with|some v=>v|none=>.undef)
  cases hf:vz (entry 0 ps b.args).1 t with
  | none=>exact wl rfl
  | some v =>
   have:=k1 t v hf;cases v with
   | cell c=>exact this
   | agg cs=>exact this
   | tup l=>exact this.elim
 have key:∀(S':St) (a':Act) (w':World),At w Tc Nc fn.ntmps (dom (entry 0 ps b.args).2) gc w S' a' w'->leave G fn.results.toList ps rs S'=some r ->
  a'.defers=[]/\∃v,(results fn a'.tmps).run P w'=.ok v w'/\∃g',MS w0 T N ((vV uid ps rs b.ptrs r).news++((vV uid ps rs b.ptrs r).upds++b.used)++en) g' w' /\
   Le (dom en) g w (dom ((vV uid ps rs b.ptrs r).news++((vV uid ps rs b.ptrs r).upds++b.used)++en)) g' w' /\
   wP (dom ((vV uid ps rs b.ptrs r).news++((vV uid ps rs b.ptrs r).upds++b.used)++en)) g' w' (EY (vV uid ps rs b.ptrs r).vals) v:=by
  intro S' a' w' ⟨gf,hIf,_,hle⟩ hl;obtain⟨vs,ents,L',h1,h2,h3,h4⟩:=N4 hl;obtain⟨rvals,h5,h6⟩:=Gz hIf hG.tis h1;refine⟨hIf.plain,KH rvals,LI h6,?_⟩;exact R8 (Tc:=Tc) (Nc:=Nc) (Ic:=Ic) hM hu hd hro (λhs=>by rw[hs]at hbind;exact H3 hbind) hM1 hle1 e1 e3 e4 hI1 rfl rfl hIc (λ_=>Iff.rfl) (λ_=>Iff.rfl) hnames (Em hbind hd).1 hploc hgave.imm hIf.ms hle h5 h2 h3 h4 hdist hnew
 refine calls_of_wp hf hb (zS hG hm c hbel hInv hsz hc0 hden ⟨λS' a' w' _ _ hat hk=>?_,(λi S' a' w' _ _ hat hk=>by cases hk),λS' a' w' _ _ hat hk=>?_⟩)
 · obtain⟨k1,v,k2,k3⟩:=key S' a' w' hat hk;exact⟨k1,v,k2,k3⟩
 · obtain⟨k1,v,k2,k3⟩:=key S' a' w' hat hk;exact⟨k1,v,k2,k3⟩
end Go.V

