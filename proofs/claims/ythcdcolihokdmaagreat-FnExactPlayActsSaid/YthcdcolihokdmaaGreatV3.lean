/- V: a run of the model's code over plain data, and that it is what the machine does. Part 3 of 4. No condition. -/
import Derived.Test.YthcdcolihokdmaaGreatV2
import Derived.LoopN
open List (all_cons all_eq_true append_assoc append_nil count_append count_pos_iff flatMap_append flatMap_cons map_append map_cons mem_append mem_append_left mem_append_right mem_cons mem_cons_of_mem mem_cons_self mem_flatMap mem_map mem_map_of_mem mem_singleton nodup_append nodup_cons pairwise_cons)
set_option linter.unusedVariables false
set_option linter.unusedSimpArgs false
namespace Go.V
variable {w0:World} {T N:Nat->Prop} {g:Gh} {w:World} {a:Act} {en en1:List (th×Entry)} {D D':th->Prop}

theorem xd.restrict {c:Cell} {v:Value} (h:xd D g w c v) (hc:zQ D' c):xd D' g w c v:=by
 cases c with
 | own r=>exact⟨hc r (by simp[Cell.refs]),h.2⟩
 | win r lo hi=>exact⟨hc r (by simp[Cell.refs]),h.2⟩
 | box n off=>exact⟨hc n (by simp[Cell.refs]),h.2⟩
 | elem r i off=>exact⟨hc r (by simp[Cell.refs]),h.2⟩
 | sub r i j=>exact⟨hc r (by simp[Cell.refs]),h.2⟩
 | kid r j e xs=>exact⟨h.1,hc r (by simp[Cell.refs]),h.2.2⟩
 | fn f caps =>
  obtain⟨vs,e,k⟩:=h;refine⟨vs,e,?_⟩;have key:∀(l:List th) (m:List Value),(∀n∈l,D' n)->xn (λn u=>D n/\(∃b,g.loc n=.pointer (some ⟨b,0,none⟩))/\u=g.loc n) l m->xn (λn u=>D' n/\(∃b,g.loc n=.pointer (some ⟨b,0,none⟩))/\u=g.loc n) l m:=by
   intro l
   induction l with
   | nil=>intro m _ h;cases m with
    | nil=>trivial
    | cons _ _=>exact h.elim
   | cons n l ih=>intro m hl h;cases m with
    | nil=>exact h.elim
    | cons u m=>exact⟨⟨hl n (by simp),h.1.2⟩,ih m (λk hk=>hl k (by simp[hk])) h.2⟩
  exact key caps _ hc k
 | undef=>exact h
 | void=>exact h
 | nil=>exact h
 | int _ _=>exact h
 | bool _=>exact h
 | str _=>exact h
 | err _=>exact h
 | sh _ _=>exact h
 | shel _ _ _=>exact h
theorem C0:∀{cs:List Cell} {vs:List Value},xn (xd D g w) cs vs->(∀c∈cs,zQ D' c)->xn (xd D' g w) cs vs
 | [],[],_,_=>trivial
 | c::cs,v::vs,h,hc=>⟨h.1.restrict (hc c (by simp)),C0 h.2 λd hd=>hc d (by simp[hd])⟩
theorem yK.restrict {x:AV} {v:Value} (h:yK D g w x v) (hx:AU D' x):yK D' g w x v:=by
 cases x with
 | cell c=>exact xd.restrict h hx
 | agg cs=>obtain⟨vs,e,k⟩:=h;exact⟨vs,e,C0 k hx⟩
 | tup _=>exact h
theorem xO.restrict {x:AV} {v:Value} (h:xO D g w x v) (hx:A9 D' x):xO D' g w x v:=by
 cases x with
 | cell c=>exact xd.restrict h hx
 | agg cs=>obtain⟨vs,e,k⟩:=h;exact⟨vs,e,C0 k hx⟩
 | tup l =>
  obtain⟨vs,e,k⟩:=h;refine⟨vs,e,?_⟩;have key:∀(l:List AV) (m:List Value),(∀v∈l,AU D' v)->xn (yK D g w) l m->xn (yK D' g w) l m:=by
   intro l
   induction l with
   | nil=>intro m _ h;cases m with
    | nil=>trivial
    | cons _ _=>exact h.elim
   | cons n l ih=>intro m hl h;cases m with
    | nil=>exact h.elim
    | cons u m=>exact⟨h.1.restrict (hl n (by simp)),ih m (λk hk=>hl k (by simp[hk])) h.2⟩
  exact key l _ hx k
theorem MS.drop (h:MS w0 T N en1 g w) (hs:∀n e,wW en n=some e->wW en1 n=some e) (hb:Jj en):MS w0 T N en g w:=by
 have hd:∀n,dom en n->dom en1 n:=λn hn=>by
  cases hf:wW en n with
  | none=>exact absurd hf hn
  | some e=>unfold dom;rw[hs n e hf];simp
 refine⟨⟨λn e hn=>?_,λn m e f b hn hm=>h.mem.apart n m e f b (hs n e hn) (hs m f hm),λn e b hn=>h.mem.topI n e b (hs n e hn),λn m e f hn hm=>h.mem.nests n m e f (hs n e hn) (hs m f hm),h.mem.old,λn hn=>h.mem.one n (hd n hn),λn e b hn ht hb=>?_⟩,
  ⟨h.since.os,h.since.out,h.since.tape,h.since.size,h.since.mem,λn e b hn=>h.since.tops n e b (hs n e hn),λn e b hn=>h.since.nests n e b (hs n e hn),h.since.imm,λn e b hn=>h.since.born n e b (hs n e hn),h.since.soft⟩⟩
 rotate_left
 · obtain⟨k1,k2,k3⟩:=h.mem.wood n e b (hs n e hn) ht hb;exact⟨k1,λm f hm=>k2 m f (hs m f hm),λm f hmn hm=>k3 m f hmn (hs m f hm)⟩
 have hr:=h.mem.rep n e (hs n e hn);cases e with
 | gone=>exact hr
 | fwd _ _=>exact hr
 | root _ _ _=>exact hr
 | tree _ _=>exact hr
 | frz _ _=>exact hr
 | box cs=>obtain⟨b,us,h1,h2,h3,h4⟩:=hr;exact⟨b,us,h1,h2,h3,C0 h4 (hb n cs hn)⟩
theorem xR.drop {Z:List Tmp} {FN:List th} {S S1:St} (h:xR w0 T N S1 g w a) (hs:Il Z FN S S1) (hc:yp S):xR w0 T N S g w a:=by
 have hf:∀n e,wW S.en n=some e->wW S1.en n=some e:=λn e hn=>by
  by_cases hF:n∈FN
  · rw[hs.no n hF]at hn;cases hn
  · rw[←hs.en n hF];exact hn
 have hM:=MS.drop ⟨h.mem,h.since⟩ hf hc.box;refine⟨hM.mem,hM.since,λt=>?_,h.plain⟩;rcases hs.tm t with k|⟨_,k⟩
 · exact (show xO (dom S1.en) g w (S.tmp t) _ by rw[k];exact h.tmps t).restrict (hc.tmp t)
 · rw[k];exact trivial
end Go.V
namespace Go.V
variable {P:Program} {w0:World} {T N:Nat->Prop} {S:St} {g:Gh} {w w':World} {a:Act} {o:Oper} {G:yU} {uid rid:Nat} {en:List (th×Entry)}

def D5:List AV->AV | [v]=>v|vs=>.tup vs
def EU (P:Program) (f:FuncId) (Fn':Fn):Prop :=
 (∃fn c, P.funcs[f]?=some fn/\(fn.name == "runtime.NumGoroutine")=false/\fn.body=some c) /\
 ∀(w0:World) (T N:Nat->Prop) (en:List (th×Entry)) (g:Gh) (w:World) (uid:th) (args:List AV) (vals:List Value) (b:HE (xz Fn'.ps)) (L:List th) (r:xc (yD Fn'.ps Fn'.rs)),
  MS w0 T N en g w->xn (xO (dom en) g w) args vals->(yH (AQ Fn'.ps Fn'.rs) Fn'.ps args).Runs (wW en) b L->(xm b.used&&b.ro.all λn=>(wW b.used n).isNone)=true->Fn'.den b.args=some r ->
  xm (xg uid Fn'.ps Fn'.rs b.ptrs r).news=true->(∀p∈(xg uid Fn'.ps Fn'.rs b.ptrs r).news,wW en p.1=none) ->
  Calls P f vals.toArray w fun
   | .returned v,w'=>∃g',MS w0 T N ((xg uid Fn'.ps Fn'.rs b.ptrs r).news++((xg uid Fn'.ps Fn'.rs b.ptrs r).upds++b.used)++en) g' w' /\
    Le (dom en) g w (dom ((xg uid Fn'.ps Fn'.rs b.ptrs r).news++((xg uid Fn'.ps Fn'.rs b.ptrs r).upds++b.used)++en)) g' w' /\
    xO (dom ((xg uid Fn'.ps Fn'.rs b.ptrs r).news++((xg uid Fn'.ps Fn'.rs b.ptrs r).upds++b.used)++en)) g' w' (D5 (xg uid Fn'.ps Fn'.rs b.ptrs r).vals) v
   | _,_=>False
def IG (w:World):(ps:List yj)->xc (xz ps)->List Value->Prop
 | [],_,vs=>vs=[]
 | .val agg c false::ps,x,vs=>∃v vs' us F,vs=v::vs'/\isAgg agg v us/\Cs.Rep w c (xc.hd c (xz ps) x) us F/\IG w ps (xc.tl c (xz ps) x) vs'
 | .val _ _ true::_,_,_=>False
 | .ptr .. :: _,_,_=>False
def NQ (P:Program) (f:FuncId) (Fn':Fn):Prop :=
 (∃fn c, P.funcs[f]?=some fn/\(fn.name == "runtime.NumGoroutine")=false/\fn.body=some c) /\
 ∀(w:World) (uid:th) (x:xc (xz Fn'.ps)) (vals:List Value) (r:xc (yD Fn'.ps Fn'.rs)),IG w Fn'.ps x vals->Fn'.den x=some r->xm (xg uid Fn'.ps Fn'.rs [] r).news=true ->
  Calls P f vals.toArray w fun
   | .returned v,w'=>∃g' T' N',(∀b,¬T' b)/\(∀b,b<w.heap.size->¬N' b)/\MS w T' N' (xg uid Fn'.ps Fn'.rs [] r).news g' w'/\xO (dom (xg uid Fn'.ps Fn'.rs [] r).news) g' w' (D5 (xg uid Fn'.ps Fn'.rs [] r).vals) v
   | _,_=>False
def zb (P:Program) (f:FuncId) (M:AK):Prop :=
 (∃fn c, P.funcs[f]?=some fn/\(fn.name == "runtime.NumGoroutine")=false/\fn.body=some c) /\
 ∀(w:World) (v:Value) (us:List Value) (x x':M.cs.den) (F:List Nat) (R:List (List Value)) (k k':Int),isAgg M.agg v us->Cs.TRep w M.cs x us F R->F.Nodup->(∀b∈F,soft w b)->M.den x k=some (x',k') ->
  Calls P f #[v,.int .i64 k] w fun
   | .returned r,w'=>r=.int .i64 k'/\(∃F',Cs.TRep w' M.cs x' us F' R/\F'.Nodup/\∀b∈F',b∈F\/w.heap.size<=b)/\(∀b,b∈F\/w.heap.size<=b->soft w' b) /\
    w'.os=w.os/\w'.output=w.output/\w'.tape=w.tape/\w.heap.size<=w'.heap.size/\∀b,b<w.heap.size->b∉F->w'.heap[b]?=w.heap[b]?
   | _,_=>False
structure zS (P:Program) (G:yU):Prop where
 tis:zG P G.ti
 eqs:ND P G.ti
 fns:∀f Fn',wW G.fns f=some Fn'->EU P f Fn'
 marks:∀f M,wW G.marks f=some M->zb P f M
 tfns:G.trees=true->∀f Fn',wW G.fns f=some Fn'->zh Fn'.ps=true->H8 Fn'.rs=true->NQ P f Fn'
theorem xR.put (h:xR w0 T N S g w a) {e:y8} {v:Value} {g':Gh} (hM:MS w0 T N (e.ents++S.en) g' w') (hle:Le (dom S.en) g w (dom (e.ents++S.en)) g' w') (hv:xO (dom (e.ents++S.en)) g' w' e.val v) (hd:∀d,o.dst=some d->d<a.tmps.size) :
 xR w0 T N (S.put o.dst e) g' w' (a.put o.dst v):=by
 refine⟨hM.mem,hM.since,λt=>?_,?_⟩
 · rw[St.tmp_put,St.en_put];unfold Act.put;cases hdst:o.dst with
   | none=>simpa using xO.mono hle (h.tmps t)
   | some d =>
    simp only[Option.some.injEq];by_cases hdt:d=t
    · subst hdt;have hlt:=hd d hdst
      simpa[Array.getD,hlt]using hv
    · rw[if_neg hdt];have:(a.tmps.setIfInBounds d v).getD t undef=a.tmps.getD t undef:=by
       simp only[Array.getD,Array.size_setIfInBounds];split
       · rename_i hl;show (a.tmps.setIfInBounds d v)[t]'(by simpa using hl)=a.tmps[t]
         rw[Array.getElem_setIfInBounds (by simpa using hl),if_neg hdt]
       · rfl
      rw[this];exact xO.mono hle (h.tmps t)
 · unfold Act.put;cases o.dst<;>exact h.plain
theorem Py (h:xR w0 T N S g w a) {e:y8} (hf:xS P w0 T N S g w a o e) (hd:∀d,o.dst=some d->d<a.tmps.size) {K:Act->World->Prop} {Q:Exit->Act->World->Prop}
 (hK:∀v w' g',xR w0 T N (S.put o.dst e) g' w' (a.put o.dst v)->Le (dom S.en) g w (dom (e.ents++S.en)) g' w'->K (a.put o.dst v) w'):o.wp P a w K Q:=by
 obtain⟨v,w',g',hdo,hM,hle,hv⟩:=hf;have:=hK v w' g' (h.put hM hle hv hd) hle
 unfold Oper.wp;rcases hdo with hr|⟨rfl,hr⟩
 · rw[hr];exact this
 · rw[hr];exact this
end Go.V
namespace Go.V
variable {P:Program} {w0:World} {T N:Nat->Prop} {S:St} {g:Gh} {w w':World} {a:Act} {o:Oper} {G:yU} {uid rid:Nat} {en:List (th×Entry)} {Q:Exit->Act->World->Prop}

theorem xc.hd_mk:∀(c:Cs) (r:List Cs) (x:c.den) (y:xc r),xc.hd c r (xc.mk c r x y)=x
 | _,[],_,_=>rfl
 | _,_::_,_,_=>rfl
theorem xc.tl_mk:∀(c:Cs) (r:List Cs) (x:c.den) (y:xc r),xc.tl c r (xc.mk c r x y)=y
 | _,[],_,_=>rfl
 | _,_::_,_,_=>rfl
theorem KT {D:th->Prop} {agg:Bool} {x:AV} {v:Value} (h:xO D g w x v) (ho:C7 agg x=true):∃us,isAgg agg v us/\xn (xd D g w) x.cells us:=by
 cases x with
 | cell c=>cases agg with
  | true=>cases ho
  | false=>exact⟨[v],.inl ⟨rfl,rfl⟩,h,trivial⟩
 | agg cs=>cases agg with
  | false=>cases ho
  | true=>obtain⟨vs,rfl,k⟩:=h;exact⟨vs.toList,.inr ⟨rfl,rfl⟩,k⟩
 | tup l=>cases agg<;>cases ho
theorem P9 (hm:zv en g w) {e:Cs} {c:Cell} {v:Value} {xs:List e.den} {L:List th} (hc:xd (dom en) g w c v) (hr:(Kz e c).Runs (wW en) xs L):∃F,CT.Rep w (.sl e) xs v F:=by
 unfold Kz at hr;split at hr
 · rename_i f ys;split at hr
   · rename_i hfe _;obtain rfl:=hfe;obtain⟨rfl,_⟩:=hr;obtain⟨F,hF,_⟩:=hc;exact⟨F,hF⟩
   · exact hr.elim
 · obtain⟨rfl,_⟩:=hr;obtain rfl:=hc;exact⟨[],by simp only[CT.Rep];exact .inl ⟨⟨_,rfl⟩,rfl,rfl⟩⟩
 · rename_i r;obtain⟨L',_,hr⟩:=hr;dsimp only at hr;split at hr
   · rename_i f ys hn;split at hr
     · rename_i hfe _;obtain rfl:=hfe;obtain⟨rfl,_⟩:=hr;obtain⟨_,h2,_⟩:=hm.rep r _ hn;obtain⟨_,rfl⟩:=hc;exact⟨_,h2.slRep⟩
     · exact hr.elim
   · exact hr.elim
 · exact hr.elim
theorem CT.lend_sound (hm:zv en g w) {c:CT} {x:Cell} {v:Value} {y:c.den} {L:List th} (hc:xd (dom en) g w x v) (hr:(c.lend x).Runs (wW en) y L):∃F,CT.Rep w c y v F:=by
 cases c with
 | sl e=>exact P9 hm hc hr
 | int k=>obtain⟨F,h,_⟩:=CT.read_sound (c:=.int k) hm hc hr;exact⟨F,h⟩
 | bool=>obtain⟨F,h,_⟩:=CT.read_sound (c:=.bool) hm hc hr;exact⟨F,h⟩
 | str=>obtain⟨F,h,_⟩:=CT.read_sound (c:=.str) hm hc hr;exact⟨F,h⟩
 | err=>obtain⟨F,h,_⟩:=CT.read_sound (c:=.err) hm hc hr;exact⟨F,h⟩
theorem Cs.lend_sound (hm:zv en g w):∀{c:Cs} {xs:List Cell} {vs:List Value} {y:c.den} {L:List th},xn (xd (dom en) g w) xs vs->(c.lend xs).Runs (wW en) y L->∃F,Cs.Rep w c y vs F
 | .one c,[x],[v],y,L,hc,hr=>by
  obtain⟨F,h⟩:=CT.lend_sound hm hc.1 hr;exact⟨F,by simp only[Cs.Rep];exact⟨v,rfl,h⟩⟩
 | .cons c r,x::xs,v::vs,y,L,hc,hr=>by
  simp only[Cs.lend]at hr;obtain⟨a,L1,L2,_,h1,hr⟩:=Rd.runs_bind hr;obtain⟨b,L3,L4,_,h2,hr⟩:=Rd.runs_bind hr;obtain⟨rfl,_⟩:=hr;obtain⟨F1,k1⟩:=CT.lend_sound hm hc.1 h1;obtain⟨F2,k2⟩:=Cs.lend_sound hm hc.2 h2;exact⟨F1++F2,by simp only[Cs.Rep];exact⟨v,vs,F1,F2,rfl,rfl,k1,k2⟩⟩
 | .one _,[],_,_,_,_,hr=>hr.elim
 | .one _,_::_::_,_,_,_,_,hr=>hr.elim
 | .cons _ _,[],_,_,_,_,hr=>hr.elim
 | .one _,[_],[],_,_,hc,_=>hc.elim
 | .one _,[_],_::_::_,_,_,hc,_=>hc.2.elim
 | .cons _ _,_::_,[],_,_,hc,_=>hc.elim
theorem JH (hm:zv en g w):∀{ps:List yj} {args:List AV} {vals:List Value} {x:xc (xz ps)} {L:List th},xn (xO (dom en) g w) args vals->(HF ps args).Runs (wW en) x L->IG w ps x vals
 | [],[],[],x,L,_,hr=>rfl
 | .val agg c false::ps,v::args,u::vals,x,L,ha,hr=>by
  simp only[HF]at hr;obtain⟨_,L5,L6,_,h0,hr⟩:=Rd.runs_bind hr;obtain⟨y,L1,L2,_,h1,hr⟩:=Rd.runs_bind hr;obtain⟨z,L3,L4,_,h2,hr⟩:=Rd.runs_bind hr;obtain⟨rfl,_⟩:=hr;obtain⟨us,hag,hcs⟩:=KT ha.1 (Rd.runs_need h0).1;obtain⟨F,hF⟩:=Cs.lend_sound hm hcs h1;refine⟨u,vals,us,F,rfl,hag,?_,?_⟩
  · show Cs.Rep w c (xc.hd c (xz ps) (xc.mk c (xz ps) y z)) us F;rw[xc.hd_mk];exact hF
  · show IG w ps (xc.tl c (xz ps) (xc.mk c (xz ps) y z)) vals;rw[xc.tl_mk];exact JH hm ha.2 h2
 | [],_::_,_,_,_,_,hr=>hr.elim
 | .val _ _ false::_,[],_,_,_,_,hr=>hr.elim
 | .val _ _ true::_,_,_,_,_,_,hr=>by cases ‹List AV› <;> exact hr.elim
 | .ptr _ _::_,_,_,_,_,_,hr=>by cases ‹List AV› <;> exact hr.elim
 | [],[],_::_,_,_,ha,_=>ha.elim
 | .val _ _ false::_,_::_,[],_,_,ha,_=>ha.elim

theorem Bk (l:List (th×Entry)):(ya l).map (·.1)=l.map (·.1):=by
 unfold ya;rw[List.map_map];rfl
theorem KU:∀(l:List (th×Entry)) (n:th),wW (ya l) n=(wW l n).map Entry.plant
 | [],n=>rfl
 | (m,e)::l,n=>by
  show wW ((m,e.plant)::ya l) n=_;rw[xr,xr];split
  · rfl
  · exact KU l n
theorem Hp:∀{l m:List (th×Entry)},l.map (·.1)=m.map (·.1)->xm l=xm m
 | [],[],_=>rfl
 | (n,e)::l,(k,f)::m,h=>by
  simp only[map_cons,List.cons.injEq]at h;obtain⟨rfl,h⟩:=h;simp only[xm];have:(l.any λp=>Nat.beq p.1 n)=m.any λp=>Nat.beq p.1 n:=by
   have e1:(l.any λp=>Nat.beq p.1 n)=(l.map (·.1)).any λp=>Nat.beq p n:=by rw[List.any_map];rfl
   have e2:(m.any λp=>Nat.beq p.1 n)=(m.map (·.1)).any λp=>Nat.beq p n:=by rw[List.any_map];rfl
   rw[e1,e2,h]
  rw[this,Hp h]
 | [],_::_,h=>by cases h
 | _::_,[],h=>by cases h
theorem MS.adopt (h:MS w0 T N en g w) {T' N':Nat->Prop} {news:List (th×Entry)} {g':Gh} (k:MS w T' N' news g' w') (hT':∀b,¬T' b) (hN':∀b,b<w.heap.size->¬N' b)
 (hroots:∀n e,wW news n=some e->∃c xs,e=.root c true xs) (hfresh:∀n,dom news n->wW en n=none) :
 ∃g'',MS w0 T N (ya news++en) g'' w'/\Le (dom en) g w (dom (ya news++en)) g'' w'/\∀n,dom news n->g''.loc n=g'.loc n:=by
 classical
 have hrows:∀n,∃rows:List Value,∀e xs,wW news n=some (.root e true xs)->AT w' e xs (g'.loc n) (ze g' n) rows:=by
  intro n;cases hn:wW news n with
  | none=>exact⟨[],λe xs h=>by cases h⟩
  | some f =>
   obtain⟨c,xs,rfl⟩:=hroots n f hn;obtain⟨_,hr,_,_⟩:=k.mem.rep n _ hn;rcases hr with ⟨h1,h2,h3,h4⟩|⟨b,off,cap,us,vs,h1,h2,h3,h4,h5,h6,h7⟩
   · refine⟨[],λe ys he=>?_⟩;cases he;exact .inl ⟨⟨_,h1⟩,h2,by simp[ze,h3,h4]⟩
   · refine⟨vs,λe ys he=>?_⟩;cases he;obtain⟨c1,t1,lo,hi,hc1,rfl,_⟩:=id h4;exact .inr ⟨b,off,cap,vs,g'.nest n,h1,by simp[ze,h2],h3,⟨c1,t1,_,hc1,by simpa using h5⟩,h4.row_at h6,h7,λ_ _ _ _=>rfl⟩
 obtain⟨rows,hrows⟩:=Classical.skolem.1 hrows
 let g'':Gh:=⟨g.I,λn=>if dom news n then g'.loc n else g.loc n,λn=>if dom news n then g'.esz n else g.esz n,λn=>if dom news n then none else g.top n,λn=>if dom news n then ze g' n else g.nest n,λn=>if dom news n then rows n else g.rows n⟩
 have hsame:∀b,b<w.heap.size->w'.heap[b]?=w.heap[b]?:=λb hb=>k.since.mem b hb (hT' b);have hnew:∀n e b,wW news n=some e->b∈ze g' n->w.heap.size<=b:=by
  intro n e b hn hb;obtain⟨c,xs,rfl⟩:=hroots n e hn;rcases mem_append.1 hb with hb|hb
  · exact (k.since.tops n _ b hn rfl (by simpa using hb)).elim id λh=>absurd h (hT' b)
  · rcases k.since.nests n _ b hn rfl hb with h|h|h
    · exact h
    · exact absurd h (hT' b)
    · rcases Nat.lt_or_ge b w.heap.size with hl|hl
      · exact absurd h (hN' b hl)
      · exact hl
 have hnd:∀n,dom en n->¬dom news n:=λn hn hd=>hn (hfresh n hd);have hdn:∀n e,wW news n=some e->dom news n:=λn e hn=>by unfold dom;rw[hn];simp
 have hE:∀n f,wW (ya news++en) n=some f->(∃e xs,wW news n=some (.root e true xs)/\f=.tree e xs)\/(¬dom news n/\wW en n=some f):=by
  intro n f hf;by_cases hd:n∈(ya news).map (·.1)
  · rw[AE hd,KU]at hf;cases hn:wW news n with
    | none=>rw[hn]at hf;cases hf
    | some e =>
     rw[hn]at hf;obtain⟨c,xs,rfl⟩:=hroots n e hn;cases hf;exact .inl ⟨c,xs,rfl,rfl⟩
  · rw[xV hd]at hf;refine .inr ⟨λh=>hd ?_,hf⟩;rw[Bk];exact Av.2 h
 have hdE:∀n,dom en n->dom (ya news++en) n:=λn hn=>BG hn;have i1:∀n,dom news n->g''.loc n=g'.loc n/\g''.esz n=g'.esz n/\g''.nest n=ze g' n/\g''.rows n=rows n:=λn hn=>⟨if_pos hn,if_pos hn,if_pos hn,if_pos hn⟩
 have i2:∀n,¬dom news n->g''.loc n=g.loc n/\g''.esz n=g.esz n/\g''.top n=g.top n/\g''.nest n=g.nest n/\g''.rows n=g.rows n:=λn hn=>⟨if_neg hn,if_neg hn,if_neg hn,if_neg hn,if_neg hn⟩;have hle:Le (dom en) g w (dom (ya news++en)) g'' w' :=
  ⟨hdE,λn hn=>(i2 n (hnd n hn)).1,λn hn=>(i2 n (hnd n hn)).2.1,λ_ h=>h,λb hb=>hsame b (h.mem.old b hb),λn hn=>(i2 n (hnd n hn)).2.2.2.2⟩
 have alive:∀n f,wW (ya news++en) n=some f->f.alive=true\/f.deep=true->¬dom news n/\wW en n=some f:=by
  intro n f hf ha;rcases hE n f hf with ⟨e,xs,_,rfl⟩|h
  · rcases ha with ha|ha<;>cases ha
  · exact h
 have tlt:∀n f b,wW en n=some f->f.isTree=true->b∈g.nest n->b<w.heap.size:=λn f b hn ht hb=>Bx (h.mem.rep n f hn) ht hb;refine⟨g'',⟨⟨λn f hf=>?_,λn m e f b hn hm he hf h1 h2=>?_,λn e b hn he hb=>?_,λn m e f hn hm he hf hnm b hb=>?_,λb hb=>Nat.lt_of_lt_of_le (h.mem.old b hb) k.since.size,λn hn=>?_,λn e b hn ht hb=>?_⟩,
  ⟨k.since.os.trans h.since.os,k.since.out.trans h.since.out,k.since.tape.trans h.since.tape,Nat.le_trans h.since.size k.since.size,λb hb hT=>(hsame b (Nat.lt_of_lt_of_le hb h.since.size)).trans (h.since.mem b hb hT),λn e b hn he hb=>?_,λn e b hn he hb=>?_,h.since.imm,λn e b hn ht hb=>?_,λb hb=>?_⟩⟩,hle,λn hn=>(i1 n hn).1⟩
 · rcases hE n f hf with ⟨e,xs,hn,rfl⟩|⟨hd,hn⟩
   · obtain⟨j1,j2,j3,j4⟩:=i1 n (hdn n _ hn);obtain⟨k1,_,kI,k4⟩:=k.mem.rep n _ hn;refine⟨j2.trans k1,by rw[j1,j3,j4];exact hrows n e xs hn,?_⟩;rw[j3];exact yC.1 (KG k.mem hn rfl)
   · obtain⟨j1,j2,j3,j4,j5⟩:=i2 n hd;exact (h.mem.rep n f hn).mono hle (by unfold dom;rw[hn];simp) j3 j4 (λha b hb=>hsame b ((h.mem.rep n f hn).top_lt ha hb)) λht b hb=>hsame b (tlt n f b hn ht hb)
 · obtain⟨d1,k1⟩:=alive n e hn (.inl he);obtain⟨d2,k2⟩:=alive m f hm (.inl hf);rw[(i2 n d1).2.2.1]at h1;rw[(i2 m d2).2.2.1]at h2;exact h.mem.apart n m e f b k1 k2 he hf h1 h2
 · obtain⟨d1,k1⟩:=alive n e hn (.inl he);rw[(i2 n d1).2.2.1]at hb;exact h.mem.topI n e b k1 he hb
 · obtain⟨d1,k1⟩:=alive n e hn (.inr he);obtain⟨d2,k2⟩:=alive m f hm (.inr hf);rw[(i2 n d1).2.2.2.1]at hb;rw[(i2 m d2).2.2.2.1];exact h.mem.nests n m e f k1 k2 he hf hnm b hb
 · by_cases hd:dom news n
   · rw[(i1 n hd).1];exact k.mem.one n hd
   · rw[(i2 n hd).1];refine h.mem.one n λh0=>hn ?_;rw[xV (by rw[Bk];exact λh=>hd (Av.1 h))];exact h0
 · rcases hE n e hn with ⟨c,xs,hn',rfl⟩|⟨hd,hn'⟩
   · rw[(i1 n (hdn n _ hn')).2.2.1]at hb;have hge:=hnew n _ b hn' hb
     refine⟨λhI=>by have:=h.mem.old b hI;omega,λm f hm hf ht=>?_,λm f hmn hm hf hbm=>?_⟩
     · obtain⟨d2,k2⟩:=alive m f hm (.inl hf);rw[(i2 m d2).2.2.1]at ht;have:=(h.mem.rep m f k2).top_lt hf ht;omega
     · rcases hE m f hm with ⟨c2,ys,hm',rfl⟩|⟨hd2,hm'⟩
       · rw[(i1 m (hdn m _ hm')).2.2.1]at hbm;exact HI k.mem hn' rfl hm' rfl (Ne.symm hmn) hb hbm
       · rw[(i2 m hd2).2.2.2.1]at hbm;have:=tlt m f b hm' hf hbm;omega
   · rw[(i2 n hd).2.2.2.1]at hb;obtain⟨k1,k2,k3⟩:=h.mem.wood n e b hn' ht hb;have hlt:=tlt n e b hn' ht hb
     refine⟨k1,λm f hm hf ht'=>?_,λm f hmn hm hf hbm=>?_⟩
     · obtain⟨d2,k4⟩:=alive m f hm (.inl hf);rw[(i2 m d2).2.2.1]at ht';exact k2 m f k4 hf ht'
     · rcases hE m f hm with ⟨c2,ys,hm',rfl⟩|⟨hd2,hm'⟩
       · rw[(i1 m (hdn m _ hm')).2.2.1]at hbm;have:=hnew m _ b hm' hbm;omega
       · rw[(i2 m hd2).2.2.2.1]at hbm;exact k3 m f hmn hm' hf hbm
 · obtain⟨d1,k1⟩:=alive n e hn (.inl he);rw[(i2 n d1).2.2.1]at hb;exact h.since.tops n e b k1 he hb
 · obtain⟨d1,k1⟩:=alive n e hn (.inr he);rw[(i2 n d1).2.2.2.1]at hb;exact h.since.nests n e b k1 he hb
 · rcases hE n e hn with ⟨c,xs,hn',rfl⟩|⟨hd,hn'⟩
   · rw[(i1 n (hdn n _ hn')).2.2.1]at hb;exact .inl (Nat.le_trans h.since.size (hnew n _ b hn' hb))
   · rw[(i2 n hd).2.2.2.1]at hb;exact h.since.born n e b hn' ht hb
 · rcases Nat.lt_or_ge b w.heap.size with hl|hl
   · exact (h.since.soft b hb).of_same (hsame b hl)
   · exact k.since.soft b (.inl hl)
def Cell.easy:Cell->Bool | .own _=>true | .int _ _=>true | .bool _=>true | .str _=>true | .err _=>true|_=>false
theorem NR {D D':th->Prop} {g':Gh} (hD:∀n,D n->D' n/\g'.loc n=g.loc n) {c:Cell} {v:Value} (he:c.easy=true) (h:xd D g w c v):xd D' g' w' c v:=by
 cases c with
 | own n=>exact⟨(hD n h.1).1,h.2.trans (hD n h.1).2.symm⟩
 | int _ _=>exact h
 | bool _=>exact h
 | str _=>exact h
 | err _=>exact h
 | _=>cases he
theorem MF {D D':th->Prop} {g':Gh} (hD:∀n,D n->D' n/\g'.loc n=g.loc n):∀{l:List Cell} {vs:List Value},l.all Cell.easy=true->xn (xd D g w) l vs->xn (xd D' g' w') l vs
 | [],[],_,_=>trivial
 | c::l,v::vs,he,h=>by
  simp only[all_cons,aT]at he;exact⟨NR hD he.1 h.1,MF hD he.2 h.2⟩
 | [],_::_,_,h=>h.elim
 | _::_,[],_,h=>h.elim
theorem LT {D D':th->Prop} {g':Gh} (hD:∀n,D n->D' n/\g'.loc n=g.loc n) {x:AV} {v:Value} (he:x.cells.all Cell.easy=true) (h:yK D g w x v):yK D' g' w' x v:=by
 cases x with
 | cell c=>exact NR hD (by simpa[AV.cells]using he) h
 | agg cs=>obtain⟨vs,h1,h2⟩:=h;exact⟨vs,h1,MF hD he h2⟩
 | tup _=>exact h.elim
theorem CT.give_easy {n:th} {c:CT} {x:c.den}:(c.give true n x).1.easy=true:=by cases c<;>rfl
theorem Cs.give_easy:∀{c:Cs} {n:th} {x:c.den},(Cs.give true n c x).1.all Cell.easy=true
 | .one c,n,x=>by simp[Cs.give,CT.give_easy]
 | .cons c r,n,x=>by simp[Cs.give,CT.give_easy,Cs.give_easy (c:=r)]
theorem Cs.cells_easy:∀{c:Cs} {x:c.den},c.hasSl=false->(c.cells x).all Cell.easy=true
 | .one c,x,h=>by cases c<;>first|rfl | (simp[Cs.hasSl,CT.isSl]at h)
 | .cons c r,x,h=>by
  simp only[Cs.hasSl,Bool.or_eq_false_iff]at h;have h1:(c.cell x.1).easy=true:=by cases c<;>first|rfl | (simp[CT.isSl]at h)
  simp[Cs.cells,h1,Cs.cells_easy h.2]
theorem QB {agg:Bool} {l:List Cell}:(Ah agg l).cells=l:=by
 cases agg with
 | true=>cases l<;>rfl
 | false=>match l with
  | []=>rfl
  | [c]=>rfl
  | c::d::l=>rfl
theorem Cs.give_flat {mm:Bool}:∀{c:Cs} {n:th} {x:c.den},c.hasSl=false->(Cs.give mm n c x).1.all Cell.easy=true/\(Cs.give mm n c x).2=[]
 | .one c,n,x,h=>by
  cases c with
  | sl e=>simp[Cs.hasSl,CT.isSl]at h
  | _=>exact⟨by simp[Cs.give,CT.give,CT.cell,Cell.easy],rfl⟩
 | .cons c r,n,x,h=>by
  simp only[Cs.hasSl,Bool.or_eq_false_iff]at h;obtain⟨k1,k2⟩:=Cs.give_flat (mm:=mm) (c:=r) (n:=n+1) (x:=x.2) h.2;cases c with
  | sl e=>simp[CT.isSl]at h
  | _=>exact⟨by simp only[Cs.give,all_cons,k1,Bool.and_true];rfl,by simp only[Cs.give,k2,append_nil];rfl⟩
theorem JI:∀(rs:List yY) (n:th) (x:xc (xZ rs)),H8 rs=true->(∀v∈(xB n rs x).vals,v.cells.all Cell.easy=true/\∀l,v≠.tup l)/\∀p∈(xB n rs x).news,∃c xs,p.2=.root c true xs
 | [],n,x,_=>⟨by simp[xB],by simp[xB]⟩
 | .val agg c own::rs,n,x,h=>by
  simp only[H8,all_cons,aT]at h;obtain⟨k1,k2⟩:=JI rs (n+64) (xc.tl c (xZ rs) x) h.2;have hroot:∀{c:Cs} {n:th} {y:c.den},∀p∈(Cs.give true n c y).2,∃c xs,p.2=.root c true xs:=by
   have h1:∀{c:CT} {n:th} {y:c.den},∀p∈(c.give true n y).2,∃c xs,p.2=.root c true xs:=by
    intro c n y p hp;cases c with
    | sl e=>simp[CT.give]at hp;subst hp;exact⟨e,y,rfl⟩
    | _=>simp[CT.give]at hp
   intro c
   induction c using Cs.rec (motive_1:=λ_=>True)with
   | one c _=>intro n y p hp;exact h1 p hp
   | cons c r _ ih=>intro n y p hp;exact (mem_append.1 hp).elim (h1 p) (ih p)
   | _=>trivial
  refine⟨λv hv=>?_,λp hp=>?_⟩
  · rcases mem_cons.1 hv with rfl|hv
    · rw[QB];refine⟨?_,λl hl=>?_⟩
      · match own,h.1 with
        | some true,_=>exact Cs.give_easy
        | none,h1=>exact Cs.cells_easy (by simpa[DE]using h1)
        | some false,h1=>exact (Cs.give_flat (by simpa[DE]using h1)).1
      · cases agg with
        | true=>cases hc:(zJ own n c (xc.hd c (xZ rs) x)).1<;>(rw[hc]at hl;cases hl)
        | false=>match hc:(zJ own n c (xc.hd c (xZ rs) x)).1 with
         | []=>rw[hc]at hl;cases hl
         | [_]=>rw[hc]at hl;cases hl
         | _::_::_=>rw[hc]at hl;cases hl
    · exact k1 v hv
  · rcases mem_append.1 hp with hp|hp
    · match own,h.1,hp with
      | some true,_,hp=>exact hroot p hp
      | none,_,hp=>simp[zJ]at hp
      | some false,h1,hp =>
       have hp:p∈(Cs.give false n c (xc.hd c (xZ rs) x)).2:=hp;rw[(Cs.give_flat (by simpa[DE]using h1)).2]at hp;exact absurd hp (by simp)
    · exact k2 p hp
 | .ptr c own::rs,n,x,h=>by simp[H8]at h
theorem JJ:∀(ps:List yj) (rs:List yY) (n:th) (x:xc (yD ps rs)),zh ps=true->H8 rs=true->(∀v∈(xg n ps rs [] x).vals,v.cells.all Cell.easy=true/\∀l,v≠.tup l)/\∀p∈(xg n ps rs [] x).news,∃c xs,p.2=.root c true xs
 | [],rs,n,x,_,h=>JI rs n x h
 | .val _ _ false::ps,rs,n,x,hl,h=>JJ ps rs n x (by simpa[zh]using hl) h
 | .val _ _ true::_,_,_,_,hl,_=>by simp[zh]at hl
 | .ptr _ _::_,_,_,_,hl,_=>by simp[zh]at hl
theorem RL {D D':th->Prop} {g':Gh} (hD:∀n,D n->D' n/\g'.loc n=g.loc n) {l:List AV} {v:Value} (he:∀x∈l,x.cells.all Cell.easy=true/\∀l,x≠.tup l) (h:xO D g w (D5 l) v):xO D' g' w' (D5 l) v:=by
 have h0:∀{l:List AV} {vs:List Value},(∀x∈l,x.cells.all Cell.easy=true/\∀l,x≠.tup l)->xn (yK D g w) l vs->xn (yK D' g' w') l vs:=by
  intro l
  induction l with
  | nil=>intro vs _ h;cases vs with
   | nil=>trivial
   | cons _ _=>exact h.elim
  | cons x l ih=>intro vs he h;cases vs with
   | nil=>exact h.elim
   | cons u vs=>exact⟨LT hD (he x mem_cons_self).1 h.1,ih (λy hy=>he y (mem_cons_of_mem _ hy)) h.2⟩
 match l,he,h with
 | [],he,h=>obtain⟨vs,h1,h2⟩:=h;exact⟨vs,h1,h0 (by simp) h2⟩
 | [x],he,h =>
  cases x with
  | cell c=>exact LT (x:=.cell c) hD (he _ mem_cons_self).1 h
  | agg cs=>exact LT (x:=.agg cs) hD (he _ mem_cons_self).1 h
  | tup k=>exact absurd rfl ((he _ mem_cons_self).2 k)
 | x::y::l,he,h=>obtain⟨vs,h1,h2⟩:=h;exact⟨vs,h1,h0 he h2⟩
end Go.V
namespace Go.V
variable {P:Program} {w0:World} {T N:Nat->Prop} {S:St} {g:Gh} {w w':World} {a:Act} {o:Oper} {G:yU} {uid rid:Nat} {en:List (th×Entry)} {Q:Exit->Act->World->Prop}

def CT.Slot (E:List (th×Entry)) (g:Gh):(c:CT)->Cell->Value->List (List Value)->Prop
 | .sl e,x,v,R=>∃r,x=.own r/\(wW E r=some .gone\/wW E r=none)/\g.loc r=v/\g.esz r=e.len/\R=[g.rows r]
 | _,_,_,R=>R=[]
def Cs.Slot (E:List (th×Entry)) (g:Gh):(c:Cs)->List Cell->List Value->List (List Value)->Prop
 | .one c,xs,vs,R=>∃x v,xs=[x]/\vs=[v]/\CT.Slot E g c x v R
 | .cons c r,xs,vs,R=>∃x v xs' vs' R1 R2,xs=x::xs'/\vs=v::vs'/\R=R1++R2/\CT.Slot E g c x v R1/\Cs.Slot E g r xs' vs' R2
def N5 (w0:World) (T:Nat->Prop) (E:List (th×Entry)) (g:Gh) (F:List Nat):Prop :=
 ∀b∈F,¬g.I b/\(∀m f,wW E m=some f->f.alive=true->g.top m≠some b)/\(∀m f,wW E m=some f->f.isTree=true->b∉g.nest m)/\(w0.heap.size<=b\/T b)
structure LU (E E':List (th×Entry)) (g g':Gh) (F:List Nat):Prop where
 imm:g'.I=g.I
 tops:∀m f,wW E' m=some f->f.alive=true->wW E m=some f/\g'.top m=g.top m
 trees:∀m f b,wW E' m=some f->f.isTree=true->b∈g'.nest m->b∈F\/∃f',wW E m=some f'/\f'.isTree=true/\b∈g.nest m
theorem AT.one {e:Cs} {xs:List e.den} {v:Value} {F:List Nat} {rows:List Value} (h:AT w e xs v F rows):v.oneCell'=true:=by
 obtain⟨a,c,rfl⟩:=Bm h.slRep;rfl
theorem CT.held_put {E:List (th×Entry)} {c:CT} {x:Cell} {v:Value} {y:c.den} {F:List Nat} {R:List (List Value)} (h:MS w0 T N E g w) (hr:CT.TRep w c y v F R) (hn:F.Nodup) (hb:N5 w0 T E g F) (hs:CT.Slot E g c x v R) :
 ∃g',MS w0 T N (c.held x y++E) g' w/\Le (dom E) g w (dom (c.held x y++E)) g' w/\LU E (c.held x y++E) g g' F/\(∀n,g'.loc n=g.loc n/\g'.esz n=g.esz n/\g'.rows n=g.rows n):=by
 have none:c.isSl=false->∃g',MS w0 T N (c.held x y++E) g' w/\Le (dom E) g w (dom (c.held x y++E)) g' w/\LU E (c.held x y++E) g g' F/\(∀n,g'.loc n=g.loc n/\g'.esz n=g.esz n/\g'.rows n=g.rows n):=by
  intro hc;have:c.held x y=[]:=by cases c<;>first|rfl | (simp[CT.isSl]at hc)
  rw[this];exact⟨g,h,Le.refl _ _ _,⟨rfl,λm f hm _=>⟨hm,rfl⟩,λm f b hm ht hb=>.inr ⟨f,hm,ht,hb⟩⟩,λn=>⟨rfl,rfl,rfl⟩⟩
 cases c with
 | sl e =>
  obtain⟨r,rfl,hg,hl,he,rfl⟩:=hs;obtain⟨rows,hR,ht⟩:=hr;obtain rfl:g.rows r=rows:=by simpa using hR
  subst hl;have hne:∀m f,wW E m=some f->f.alive=true\/f.isTree=true->m≠r:=λm f hm ha e=>by
   subst e;rcases hg with h0|h0<;>rw[h0]at hm<;>cases hm
   rcases ha with ha|ha<;>cases ha
  obtain⟨h1,l1⟩:=h.put (n:=r) (e:=.tree e y) (i:=⟨g.loc r,g.esz r,g.top r,F⟩) (λ_=>⟨rfl,rfl⟩) ht.one
   ⟨by simpa[Gh.set]using he,by simpa[Gh.set]using ht,by simpa[Gh.set]using hn⟩ (λha=>by cases ha) (λhd=>by cases hd)
   (λ_ b hbF=>by
    obtain⟨k1,k2,k3,k4⟩:=hb b hbF;exact⟨k1,λm f _=>k2 m f,λm f _=>k3 m f,k4⟩)
  refine⟨_,h1,l1,⟨rfl,λm f hm ha=>?_,λm f b hm ht' hbm=>?_⟩,λn=>?_⟩
  · have hm:wW ((r,Entry.tree e y)::E) m=some f:=hm;rw[xr]at hm;split at hm
    · cases hm;cases ha
    · rename_i hmr;exact⟨hm,by simp[Gh.set,Ne.symm hmr]⟩
  · have hm:wW ((r,Entry.tree e y)::E) m=some f:=hm;rw[xr]at hm;split at hm
    · rename_i hmr;subst hmr;exact .inl (by simpa[Gh.set]using hbm)
    · rename_i hmr;exact .inr ⟨f,hm,ht',by simpa[Gh.set,Ne.symm hmr]using hbm⟩
  · refine⟨?_,?_,rfl⟩
    · show (if n=r then g.loc r else g.loc n)=g.loc n;split
      · rename_i e;rw[e]
      · rfl
    · show (if n=r then g.esz r else g.esz n)=g.esz n;split
      · rename_i e;rw[e]
      · rfl
 | _=>exact none rfl
theorem CT.Slot.mono {E E':List (th×Entry)} {g':Gh} (hg:∀n,g'.loc n=g.loc n/\g'.esz n=g.esz n/\g'.rows n=g.rows n) {c:CT} {x:Cell} {v:Value} {R:List (List Value)} {y:c.den} (hE:∀n∈(c.held x y).map (·.1),wW E' n=wW E n) (h:CT.Slot E g c x v R):CT.Slot E' g' c x v R:=by
 cases c with
 | sl e =>
  obtain⟨r,rfl,h1,h2,h3,h4⟩:=h;refine⟨r,rfl,?_,by rw[(hg r).1];exact h2,by rw[(hg r).2.1];exact h3,by rw[(hg r).2.2];exact h4⟩;rw[hE r (by simp[CT.held])];exact h1
 | _=>exact h
theorem Cs.held_put:∀{c:Cs} {E:List (th×Entry)} {g:Gh} {xs:List Cell} {vs:List Value} {y:c.den} {F:List Nat} {R:List (List Value)},MS w0 T N E g w->Cs.TRep w c y vs F R->F.Nodup->N5 w0 T E g F->Cs.Slot E g c xs vs R->xm (c.held xs y)=true ->
 ∃g',MS w0 T N (c.held xs y++E) g' w/\Le (dom E) g w (dom (c.held xs y++E)) g' w/\LU E (c.held xs y++E) g g' F/\(∀n,g'.loc n=g.loc n/\g'.esz n=g.esz n/\g'.rows n=g.rows n)
 | .one c,E,g,xs,vs,y,F,R,h,hr,hn,hb,hs,hd=>by
  obtain⟨x,v,rfl,rfl,hs⟩:=hs;obtain⟨v',hv,hr⟩:=hr;cases hv;exact CT.held_put h hr hn hb hs
 | .cons c r,E,g,xs,vs,y,F,R,h,hr,hn,hb,hs,hd=>by
  obtain⟨x,v,xs',vs',R1,R2,rfl,rfl,rfl,hs1,hs2⟩:=hs;obtain⟨v',vs'',F1,F2,S1,S2,hv,rfl,hS,hr1,hr2⟩:=hr;cases hv;have hlen:∀{c:CT} {y:c.den} {v:Value} {F:List Nat} {R S:List (List Value)} {x:Cell},CT.TRep w c y v F S->CT.Slot E g c x v R->R.length=S.length:=by
   intro c y v F R S x h1 h2;cases c with
   | sl e=>obtain⟨_,_,_,_,_,rfl⟩:=h2;obtain⟨_,rfl,_⟩:=h1;rfl
   | _=>rw[show R=[]from h2,h1.1]
  obtain⟨rfl,rfl⟩:=List.append_inj hS (hlen hr1 hs1);obtain⟨d1,d2,d3⟩:=yw (l:=c.held x y.1) (m:=r.held xs' y.2) hd;obtain⟨n1,n2,n3⟩:=nodup_append.1 hn;obtain⟨g1,h1,l1,p1,q1⟩:=Cs.held_put (c:=r) h hr2 n2 (λb hb'=>hb b (mem_append_right _ hb')) hs2 d2;have hs1':CT.Slot (r.held xs' y.2++E) g1 c x v R1:=CT.Slot.mono q1 (y:=y.1) (λn hn=>xV (d3 n hn)) hs1
  have hb1:N5 w0 T (r.held xs' y.2++E) g1 F1:=by
   intro b hb';obtain⟨k1,k2,k3,k4⟩:=hb b (mem_append_left _ hb');refine⟨by rw[p1.imm];exact k1,λm f hm ha ht=>?_,λm f hm ht hbm=>?_,k4⟩
   · obtain⟨j1,j2⟩:=p1.tops m f hm ha;rw[j2]at ht;exact k2 m f j1 ha ht
   · rcases p1.trees m f b hm ht hbm with j|⟨f',j1,j2,j3⟩
     · exact n3 b hb' b j rfl
     · exact k3 m f' j1 j2 j3
  obtain⟨g2,h2,l2,p2,q2⟩:=CT.held_put h1 hr1 n1 hb1 hs1';have e:Cs.held (.cons c r) (x::xs') y++E=c.held x y.1++(r.held xs' y.2++E):=append_assoc _ _ _
  rw[e];refine⟨g2,h2,l1.trans l2,⟨p2.imm.trans p1.imm,λm f hm ha=>?_,λm f b hm ht hbm=>?_⟩,λn=>⟨(q2 n).1.trans (q1 n).1,(q2 n).2.1.trans (q1 n).2.1,(q2 n).2.2.trans (q1 n).2.2⟩⟩
  · obtain⟨j1,j2⟩:=p2.tops m f hm ha;obtain⟨j3,j4⟩:=p1.tops m f j1 ha;exact⟨j3,j2.trans j4⟩
  · rcases p2.trees m f b hm ht hbm with j|⟨f',j1,j2,j3⟩
    · exact .inl (mem_append_left _ j)
    · rcases p1.trees m f' b j1 j2 j3 with j|j
      · exact .inl (mem_append_right _ j)
      · exact .inr j

theorem CT.hold_sound (hm:zv en g w) {c:CT} {x:Cell} {v:Value} {y:c.den} {L:List th} (hc:xd (dom en) g w x v) (hr:(c.hold x).Runs (wW en) y L) :
 ∃ns:List th,CT.TRep w c y v (ns.flatMap g.nest) (ns.map g.rows)/\(∀z,(c.held x z).map (·.1)=ns)/\(∀n∈ns,∃e xs,wW en n=some (.tree e xs)) /\
  ∀E,(∀n∈ns,wW E n=some .gone)->CT.Slot E g c x v (ns.map g.rows):=by
 have scalar:c.isSl=false->(∃F,CT.Rep w c y v F)->∃ns:List th,CT.TRep w c y v (ns.flatMap g.nest) (ns.map g.rows)/\(∀z,(c.held x z).map (·.1)=ns)/\(∀n∈ns,∃e xs,wW en n=some (.tree e xs)) /\
  ∀E,(∀n∈ns,wW E n=some .gone)->CT.Slot E g c x v (ns.map g.rows):=by
  intro hs ⟨F,hF⟩;have hF0:=CT.rep_foot hs hF
  subst hF0;refine⟨[],?_,λz=>?_,by simp,λE _=>?_⟩
  · cases c<;>first|exact⟨rfl,hF⟩ | (simp[CT.isSl]at hs)
  · cases c<;>first|rfl | (simp[CT.isSl]at hs)
  · cases c<;>first|rfl | (simp[CT.isSl]at hs)
 cases c with
 | sl e =>
  replace hr:(Qa e x).Runs (wW en) y L:=hr;unfold Qa at hr;split at hr
  · rename_i r;obtain⟨L',_,hr⟩:=hr;dsimp only at hr;split at hr
    · rename_i f ys hn;split at hr
      · rename_i hfe _;obtain rfl:=hfe;obtain⟨rfl,_⟩:=hr;obtain⟨k1,k2,k3⟩:=hm.rep r _ hn;obtain⟨hd,rfl⟩:=hc;refine⟨[r],⟨g.rows r,rfl,by simpa using k2⟩,λz=>rfl,λn hn'=>?_,λE hE=>⟨r,rfl,.inl (hE r (by simp)),rfl,k1,rfl⟩⟩;obtain rfl:n=r:=by simpa using hn'
        exact⟨f,_,hn⟩
      · exact hr.elim
    · exact hr.elim
  · exact hr.elim
 | int k=>obtain⟨F,h,_⟩:=CT.read_sound (c:=.int k) hm hc hr;exact scalar rfl ⟨F,h⟩
 | bool=>obtain⟨F,h,_⟩:=CT.read_sound (c:=.bool) hm hc hr;exact scalar rfl ⟨F,h⟩
 | str=>obtain⟨F,h,_⟩:=CT.read_sound (c:=.str) hm hc hr;exact scalar rfl ⟨F,h⟩
 | err=>obtain⟨F,h,_⟩:=CT.read_sound (c:=.err) hm hc hr;exact scalar rfl ⟨F,h⟩
theorem Cs.hold_sound (hm:zv en g w):∀{c:Cs} {xs:List Cell} {vs:List Value} {y:c.den} {L:List th},xn (xd (dom en) g w) xs vs->(c.hold xs).Runs (wW en) y L ->
 ∃ns:List th,Cs.TRep w c y vs (ns.flatMap g.nest) (ns.map g.rows)/\(∀z,(c.held xs z).map (·.1)=ns)/\(∀n∈ns,∃e xs,wW en n=some (.tree e xs)) /\
  ∀E,(∀n∈ns,wW E n=some .gone)->Cs.Slot E g c xs vs (ns.map g.rows)
 | .one c,[x],[v],y,L,hc,hr=>by
  obtain⟨ns,k1,k2,k3,k4⟩:=CT.hold_sound hm hc.1 hr;exact⟨ns,⟨v,rfl,k1⟩,k2,k3,λE hE=>⟨x,v,rfl,rfl,k4 E hE⟩⟩
 | .cons c r,x::xs,v::vs,y,L,hc,hr=>by
  simp only[Cs.hold]at hr;obtain⟨a,L1,L2,_,h1,hr⟩:=Rd.runs_bind hr;obtain⟨b,L3,L4,_,h2,hr⟩:=Rd.runs_bind hr;obtain⟨rfl,_⟩:=hr;obtain⟨ns,k1,k2,k3,k4⟩:=CT.hold_sound hm hc.1 h1;obtain⟨ms,j1,j2,j3,j4⟩:=Cs.hold_sound hm hc.2 h2;refine⟨ns++ms,⟨v,vs,_,_,_,_,rfl,flatMap_append,map_append,k1,j1⟩,λz=>?_,λn hn=>(mem_append.1 hn).elim (k3 n) (j3 n),λE hE=>?_⟩
  · simp only[Cs.held,map_append,k2 z.1,j2 z.2]
  · exact⟨x,v,xs,vs,_,_,rfl,rfl,map_append,k4 E λn hn=>hE n (mem_append_left _ hn),j4 E λn hn=>hE n (mem_append_right _ hn)⟩
 | .one _,[],_,_,_,_,hr=>hr.elim
 | .one _,_::_::_,_,_,_,_,hr=>hr.elim
 | .cons _ _,[],_,_,_,_,hr=>hr.elim
 | .one _,[_],[],_,_,hc,_=>hc.elim
 | .one _,[_],_::_::_,_,_,hc,_=>hc.2.elim
 | .cons _ _,_::_,[],_,_,hc,_=>hc.elim
theorem HL (hm:zv en g w):∀{ns:List th},ns.Nodup->(∀n∈ns,∃e xs,wW en n=some (.tree e xs))->(ns.flatMap g.nest).Nodup
 | [],_,_=>by simp
 | n::ns,hd,ht=>by
  obtain⟨h1,h2⟩:=nodup_cons.1 hd;obtain⟨e,xs,hn⟩:=ht n (by simp);rw[flatMap_cons,nodup_append];refine⟨(hm.rep n _ hn).2.2,HL hm h2 λm hm'=>ht m (by simp[hm']),λb hb c hc hbc=>?_⟩;subst hbc;obtain⟨m,hmn,hbm⟩:=mem_flatMap.1 hc;obtain⟨f,ys,hm'⟩:=ht m (by simp[hmn]);exact (hm.wood n _ b hn rfl hb).2.2 m _ (λe=>h1 (e▸hmn)) hm' rfl hbm
theorem E6:∀{l:List (th×Entry)},xm l=true->(l.map (·.1)).Nodup
 | [],_=>by simp
 | (n,e)::l,h=>by
  obtain⟨h1,h2⟩:=yP h;exact nodup_cons.2 ⟨h1,E6 h2⟩
theorem KV {ns:List th} {n:th} (h:n∈ns) (E:List (th×Entry)):wW ((ns.map λn=>(n,Entry.gone))++E) n=some .gone:=by
 induction ns with
 | nil=>simp at h
 | cons m ns ih =>
  show wW ((m,Entry.gone)::((ns.map λn=>(n,Entry.gone))++E)) n=_;rw[xr];split
  · rfl
  · rename_i hmn;exact ih ((mem_cons.1 h).resolve_left λe=>hmn e.symm)
theorem KW {ns:List th} {n:th} (h:n∉ns) (E:List (th×Entry)):wW ((ns.map λn=>(n,Entry.gone))++E) n=wW E n:=by
 rw[xV];simpa using h
theorem MS.retrees (h:MS w0 T N en g w) {c:Cs} {xs:List Cell} {vs:List Value} {y:c.den} {F:List Nat} {ns:List th} (hns:(c.held xs y).map (·.1)=ns) (hd:ns.Nodup) (ht:∀n∈ns,∃e xs,wW en n=some (.tree e xs))
 (hslot:∀E,(∀n∈ns,wW E n=some .gone)->Cs.Slot E g c xs vs (ns.map g.rows)) (hr:Cs.TRep w' c y vs F (ns.map g.rows)) (hn:F.Nodup)
 (hF:∀b∈F,b∈ns.flatMap g.nest\/w.heap.size<=b) (hsoft:∀b,b∈ns.flatMap g.nest\/w.heap.size<=b->Go.V.soft w' b)
 (hos:w'.os=w.os) (hout:w'.output=w.output) (htape:w'.tape=w.tape) (hsize:w.heap.size<=w'.heap.size) (hmem:∀b,b<w.heap.size->b∉ns.flatMap g.nest->w'.heap[b]?=w.heap[b]?) :
 ∃g',MS w0 T N (c.held xs y++en) g' w'/\Le (dom en) g w (dom (c.held xs y++en)) g' w':=by
 have hdn:∀n∈ns,dom en n:=λn hn=>by obtain⟨e,xs,h⟩:=ht n hn;unfold dom;rw[h];simp
 obtain⟨h1,l1⟩:=h.useGone (used:=ns.map λn=>(n,Entry.gone)) (λp hp=>by
  obtain⟨n,hn,rfl⟩:=mem_map.1 hp;exact⟨hdn n hn,rfl⟩)
 have hE:∀m f,wW ((ns.map λn=>(n,Entry.gone))++en) m=some f->f≠.gone->m∉ns/\wW en m=some f:=λm f hm hf=>by
  by_cases hmn:m∈ns
  · rw[KV hmn]at hm;cases hm;exact absurd rfl hf
  · rw[KW hmn]at hm;exact⟨hmn,hm⟩
 have al:∀f:Entry,f.alive=true->f≠.gone:=λf ha e=>by subst e;cases ha
 have tr:∀f:Entry,f.isTree=true->f≠.gone:=λf ha e=>by subst e;cases ha
 have hw:∀b∈ns.flatMap g.nest,∃n∈ns,∃e xs,wW en n=some (.tree e xs)/\b∈g.nest n:=λb hb=>by
  obtain⟨n,hn,hb⟩:=mem_flatMap.1 hb;obtain⟨e,xs,h⟩:=ht n hn;exact⟨n,hn,e,xs,h,hb⟩
 obtain⟨h2,l2⟩:=h1.world (w':=w') (λb hb=>hmem b (h.mem.old b hb) λhbn=>by
  obtain⟨n,_,e,xs,hn,hbn⟩:=hw b hbn;exact (h.mem.wood n _ b hn rfl hbn).1 hb)
  (λm f b hm ha hb=>by
   obtain⟨_,hm'⟩:=hE m f hm (al f ha);refine hmem b ((h.mem.rep m f hm').top_lt ha hb) λhbn=>?_;obtain⟨n,_,e,xs,hn,hbn⟩:=hw b hbn;exact (h.mem.wood n _ b hn rfl hbn).2.1 m f hm' ha hb)
  hos hout htape hsize
  (λb hb hT=>hmem b (Nat.lt_of_lt_of_le hb h.since.size) λhbn=>by
   obtain⟨n,_,e,xs,hn,hbn⟩:=hw b hbn;exact (h.since.born n _ b hn rfl hbn).elim (λk=>by omega) hT)
  (λm f b hm ht' hb=>by
   obtain⟨hmn,hm'⟩:=hE m f hm (tr f ht');refine hmem b (Bx (h.mem.rep m f hm') ht' hb) λhbn=>?_;obtain⟨n,hnn,e,xs,hn,hbn⟩:=hw b hbn;exact (h.mem.wood n _ b hn rfl hbn).2.2 m f (λe=>hmn (e▸hnn)) hm' ht' hb)
  (λb hb=>by
   by_cases hbn:b∈ns.flatMap g.nest
   · exact hsoft b (.inl hbn)
   · rcases Nat.lt_or_ge b w.heap.size with hl|hl
     · exact (h.since.soft b hb).of_same (hmem b hl hbn)
     · exact hsoft b (.inr hl))
 have hblank:N5 w0 T ((ns.map λn=>(n,Entry.gone))++en) g F:=by
  intro b hb;rcases hF b hb with hbn|hbl
  · obtain⟨n,hnn,e,xs,hn,hbn⟩:=hw b hbn;obtain⟨k1,k2,k3⟩:=h.mem.wood n _ b hn rfl hbn;exact⟨k1,λm f hm ha=>k2 m f (hE m f hm (al f ha)).2 ha,λm f hm ht'=>k3 m f (λe=>(hE m f hm (tr f ht')).1 (e▸hnn)) (hE m f hm (tr f ht')).2 ht',h.since.born n _ b hn rfl hbn⟩
  · exact⟨λhI=>by have:=h.mem.old b hI;omega,λm f hm ha ht'=>by have:=(h.mem.rep m f (hE m f hm (al f ha)).2).top_lt ha ht';omega,
     λm f hm ht' hbm=>by have:=Bx (h.mem.rep m f (hE m f hm (tr f ht')).2) ht' hbm;omega,.inl (Nat.le_trans h.since.size hbl)⟩
 obtain⟨g',h3,l3,_,_⟩:=Cs.held_put h2 hr hn hblank (hslot _ λn hn=>KV hn _) (by
  have:xm (c.held xs y)=true:=by
   have key:∀{l:List (th×Entry)},(l.map (·.1)).Nodup->xm l=true:=by
    intro l
    induction l with
    | nil=>intro _;rfl
    | cons p l ih =>
     intro hl;obtain⟨n,e⟩:=p;obtain⟨k1,k2⟩:=nodup_cons.1 hl;simp only[xm];have:(l.any λp=>Nat.beq p.1 n)=false:=by
      rw[List.any_eq_false];intro p hp he;exact k1 (mem_map.2 ⟨p,hp,Nat.eq_of_beq_eq_true he⟩)
     rw[this];exact ih k2
   exact key (by rw[hns];exact hd)
  exact this)
 have hc:∀m,wW (c.held xs y++((ns.map λn=>(n,Entry.gone))++en)) m=wW (c.held xs y++en) m:=by
  intro m;by_cases hm:m∈(c.held xs y).map (·.1)
  · rw[AE hm,AE hm]
  · rw[xV hm,xV hm,KW (by rw[←hns];exact hm)]
 refine⟨g',h3.congr hc,?_⟩;rw[←AM hc];exact (l1.trans l2).trans l3

theorem xt.set2 {α:Type} {n:Nat} {R:α->List Value->List Nat->Prop}:∀{xs:List α} {vs:List Value} {F:List Nat} {i:Nat} {x:α},xt n R xs vs F->xs[i]?=some x ->
 ∃G1 Gi G2,F=G1++Gi++G2/\R x ((vs.drop (i*n)).take n) Gi/\∀(R':α->List Value->List Nat->Prop) y Gj,(∀x v G,(∀b∈G,b∈G1++G2)->R x v G->R' x v G)->R' y ((vs.drop (i*n)).take n) Gj->xt n R' (xs.set i y) vs (G1++Gj++G2)
 | [],_,_,i,x,_,hx=>by simp at hx
 | z::xs,_,_,0,x,h,hx=>by
  obtain⟨v1,v2,F1,F2,rfl,h1,rfl,hr,h⟩:=h;obtain rfl:z=x:=by simpa using hx
  subst h1;have e:((v1++v2).drop (0*v1.length)).take v1.length=v1:=by simp
  rw[e];refine⟨[],F1,F2,rfl,hr,λR' y Gj hi hy=>?_⟩;exact⟨v1,v2,Gj,F2,rfl,rfl,by simp,hy,h.imp λx v G _ hG hr=>hi x v G (by simpa using hG) hr⟩
 | z::xs,_,_,i+1,x,h,hx=>by
  obtain⟨v1,v2,F1,F2,rfl,h1,rfl,hr,h⟩:=h;obtain⟨G1,Gi,G2,rfl,k1,k2⟩:=h.set2 (i:=i) (x:=x) (by simpa using hx);have e:((v1++v2).drop ((i+1)*n)).take n=(v2.drop (i*n)).take n:=by
   rw[List.drop_append,List.drop_of_length_le (by rw[h1,Nat.add_mul];omega),List.nil_append]
   congr 2
   rw[h1,Nat.add_mul];omega
  rw[e];refine⟨F1++G1,Gi,G2,by simp,k1,λR' y Gj hi hy=>?_⟩;exact⟨v1,v2,F1,G1++Gj++G2,rfl,h1,by simp,hi z v1 F1 (λb hb=>by simp[hb]) hr,k2 R' y Gj (λx v G hG hr=>hi x v G (λb hb=>by
   have:=hG b hb;simp only[mem_append]at this ⊢;rcases this with h|h<;>simp[h]) hr) hy⟩
theorem Cs.slice_focus {e:Cs}:∀{f:Cs} {j:Nat} {x:f.den} {us:List Value} {G:List Nat} {ys:List e.den},Cs.Rep w f x us G->Cs.slice e f j x=some ys ->
 ∃v H1 H H2,us[j]?=some v/\f.slAt j=true/\G=H1++H++H2/\CT.Rep w (.sl e) ys v H /\
  ∀(w':World) (zs:List e.den) (H':List Nat) (x':f.den),(∀b∈H1++H2,w'.heap[b]?=w.heap[b]?)->CT.Rep w' (.sl e) zs v H'->Cs.setSlice e f j x zs=some x'->Cs.Rep w' f x' us (H1++H'++H2)
 | .one (.sl e'),0,x,us,G,ys,h,hs=>by
  simp only[Cs.Rep]at h;obtain⟨v,rfl,h⟩:=h;simp only[Cs.slice]at hs;split at hs
  · rename_i hh _;subst hh;cases hs;refine⟨v,[],G,[],rfl,rfl,by simp,h,λw' zs H' x' _ hz hx=>?_⟩;simp only[Cs.setSlice]at hx;split at hx
    · cases hx;simp only[Cs.Rep];exact⟨v,rfl,by rw[Mo];simpa using hz⟩
    · cases hx
  · cases hs
 | .cons (.sl e') r,0,x,us,G,ys,h,hs=>by
  simp only[Cs.Rep]at h;obtain⟨v,vs',F1,F2,rfl,rfl,h1,h2⟩:=h;simp only[Cs.slice]at hs;split at hs
  · rename_i hh _;subst hh;cases hs;refine⟨v,[],F1,F2,rfl,rfl,by simp,h1,λw' zs H' x' hb hz hx=>?_⟩;simp only[Cs.setSlice]at hx;split at hx
    · cases hx;simp only[Cs.Rep];exact⟨v,vs',H',F2,rfl,by simp,by rw[Mo];exact hz,Cs.Rep.of_same (λb hb'=>hb b (by simpa using hb')) h2⟩
    · cases hx
  · cases hs
 | .cons c r,j+1,x,us,G,ys,h,hs=>by
  simp only[Cs.Rep]at h;obtain⟨v,vs',F1,F2,rfl,rfl,h1,h2⟩:=h;have hs:Cs.slice e r j x.2=some ys:=by simpa only[Cs.slice]using hs
  obtain⟨u,H1,H,H2,k1,k2,rfl,k3,k4⟩:=Cs.slice_focus (f:=r) h2 hs;refine⟨u,F1++H1,H,H2,by simpa using k1,by simpa[Cs.slAt]using k2,by simp,k3,λw' zs H' x' hb hz hx=>?_⟩;cases hx':Cs.setSlice e r j x.2 zs with
  | none=>simp only[Cs.setSlice,hx']at hx;cases hx
  | some y =>
   simp only[Cs.setSlice,hx']at hx;cases hx;simp only[Cs.Rep];exact⟨v,vs',F1,H1++H'++H2,rfl,by simp,CT.Rep.of_same (λb hb'=>hb b (by simp[hb'])) h1,k4 w' zs H' y (λb hb'=>hb b (by
    simp only[mem_append]at hb' ⊢;rcases hb' with h|h<;>simp[h])) hz hx'⟩
 | .one (.int _),_,_,_,_,_,_,hs=>by simp[Cs.slice]at hs
 | .one .bool,_,_,_,_,_,_,hs=>by simp[Cs.slice]at hs
 | .one .str,_,_,_,_,_,_,hs=>by simp[Cs.slice]at hs
 | .one .err,_,_,_,_,_,_,hs=>by simp[Cs.slice]at hs
 | .one (.sl _),_+1,_,_,_,_,_,hs=>by simp[Cs.slice]at hs
 | .cons (.int _) _,0,_,_,_,_,_,hs=>by simp[Cs.slice]at hs
 | .cons .bool _,0,_,_,_,_,_,hs=>by simp[Cs.slice]at hs
 | .cons .str _,0,_,_,_,_,_,hs=>by simp[Cs.slice]at hs
 | .cons .err _,0,_,_,_,_,_,hs=>by simp[Cs.slice]at hs
theorem Pa {e:Cs} {xs:List e.den} {v:Value} {F:List Nat} (h:CT.Rep w (.sl e) xs v F):∃rows,AT w e xs v F rows:=by
 simp only[CT.Rep]at h;rcases h with h|⟨b,off,cap,vs,F',h1,h2,h3,h4,h5,h6⟩
 · exact⟨[],.inl h⟩
 · exact⟨vs,.inr ⟨b,off,cap,vs,F',h1,h2,h3,h4,h5,h6,λ_ _ _ _=>rfl⟩⟩

theorem Pb {f:FuncId} {M:AK} (hM:zb P f M) (h:MS w0 T N en g w) {args:List AV} {vals:List Value} (ha:xn (xO (dom en) g w) args vals) {e:y8} {L:List th} (hr:(Fc M args).Runs (wW en) e L) :
 Calls P f vals.toArray w fun
  | .returned v,w'=>∃g',MS w0 T N (e.ents++en) g' w'/\Le (dom en) g w (dom (e.ents++en)) g' w'/\xO (dom (e.ents++en)) g' w' e.val v
  | _,_=>False:=by
 unfold Fc at hr;split at hr
 · rename_i r i j n
   match vals,ha with
   | [v,u],ha =>
   obtain⟨hv,hu,_⟩:=ha;have hu:u=.int .i64 n:=hu
   subst hu;split at hr
   · rename_i el den;obtain⟨L',_,hr⟩:=hr;dsimp only at hr;split at hr
     · rename_i fc xs hn;obtain⟨x,hx,hr⟩:=hr;obtain⟨ys,hys,hr⟩:=hr;obtain⟨z,hz,hr⟩:=hr;obtain⟨x',hx',hr⟩:=hr;obtain⟨rfl,_⟩:=hr;obtain⟨hd,hrow,hone⟩:=hv;obtain⟨he,htr,hnd⟩:=h.mem.rep r _ hn;have hi:i<xs.length:=(List.getElem?_eq_some_iff.1 hx).1
       rcases htr with ⟨_,rfl,_⟩|⟨b,off,cap,vs,F0,e1,e2,e3,e4,e5,e6,e7⟩
       · simp at hi
       · obtain⟨G1,Gi,G2,hF,hri,hset⟩:=e6.set2 hx;obtain⟨v1,H1,H,H2,k1,k2,rfl,k3,k4⟩:=Cs.slice_focus hri hys;have hjl:=Cs.slAt_lt k2
         have hv1:v1=v:=by
          rw[List.getElem?_take_of_lt hjl,List.getElem?_drop,e7 i j hi k2]at k1;rw[he]at hrow;rw[k1]at hrow;exact Option.some.inj hrow
         subst hv1;obtain⟨rows,hrows⟩:=Pa k3;have hHn:∀c∈H,c∈g.nest r:=λc hc=>by rw[e2,hF];simp[hc]
         have hF0:F0.Nodup/\b∉F0:=by have:=hnd;rw[e2]at this;exact⟨(nodup_cons.1 this).2,(nodup_cons.1 this).1⟩
         have hHnd:H.Nodup:=by
          have:=hF0.1;rw[hF]at this;have h1:=(nodup_append.1 (nodup_append.1 this).1).2.1
          exact (nodup_append.1 (nodup_append.1 h1).1).2.1
         have hsoft:∀c∈H,soft w c:=λc hc=>h.since.soft c (h.since.born r _ c hn rfl (hHn c hc));refine Calls.mono (hM.2 w v1 [v1] ys z.1 H [rows] n z.2 (.inl ⟨rfl,rfl⟩) ⟨v1,rfl,rows,rfl,hrows⟩ hHnd hsoft hz) λen' w' hpost=>?_;cases en' with
         | panicked _=>exact hpost.elim
         | outgrown=>exact hpost.elim
         | returned rv =>
          obtain⟨rfl,⟨H',⟨v2,hv2,rows',hrw',ht'⟩,hnd',hsub'⟩,hsf,hos,hout,htape,hsize,hmem⟩:=hpost;cases hv2;have hdis:∀c,c∈G1++(H1++H2)++G2->c∉H:=by
           intro c hc hcH;have:=hF0.1
           rw[hF]at this;have:=(yC.2 this) c
           have h1:=count_pos_iff.2 hcH;simp only[mem_append]at hc;simp only[AN]at this;rcases hc with (hc|hc|hc)|hc<;>(have h2:=count_pos_iff.2 hc;omega)
          have hltF:∀c∈F0,c<w.heap.size:=λc hc=>Bx (h.mem.rep r _ hn) rfl (by rw[e2];simp[hc]);have hbl:b<w.heap.size:=Bx (h.mem.rep r _ hn) rfl (by rw[e2];simp)
          have hbH:b∉H:=λhc=>hF0.2 (by rw[hF];simp[hc]);have hsame:∀c,c∈G1++(H1++H2)++G2->w'.heap[c]?=w.heap[c]?:=λc hc=>hmem c (hltF c (by
           rw[hF];simp only[mem_append]at hc ⊢;rcases hc with (hc|hc|hc)|hc<;>simp[hc])) (hdis c hc)
          have hx2:=k4 w' z.1 H' x' (λc hc=>hsame c (by simp only[mem_append]at hc ⊢;rcases hc with hc|hc<;>simp[hc])) ht'.slRep hx';have hL:=hset (Cs.Rep w' fc) x' (H1++H'++H2) (λy u G hG hy=>Cs.Rep.of_same (λc hc=>hsame c (by have:=hG c hc;simp only[mem_append]at this ⊢;rcases this with h|h<;>simp[h])) hy) hx2
          have hcnt:(G1++(H1++H'++H2)++G2).Nodup:=by
           rw[←yC];intro c;have h0:=(yC.2 hF0.1) c
           rw[hF]at h0;have h1:=(yC.2 hnd') c
           simp only[AN]at h0 ⊢;by_cases hc:c∈H'
           · rcases hsub' c hc with hcH|hcl
             · have:=count_pos_iff.2 hcH;omega
             · have hz:∀l:List Nat,(∀d∈l,d∈F0)->l.count c=0:=λl hl=>List.count_eq_zero.2 λhm=>by have:=hltF c (hl c hm);omega
               rw[hz G1 (λd hd=>by rw[hF];simp[hd]),hz H1 (λd hd=>by rw[hF];simp[hd]),hz H2 (λd hd=>by rw[hF];simp[hd]),hz G2 (λd hd=>by rw[hF];simp[hd])];omega
           · rw[List.count_eq_zero.2 hc];omega
          have hmemF:∀c∈G1++(H1++H'++H2)++G2,c∈F0\/w.heap.size<=c:=by
           intro c hc;simp only[mem_append]at hc;rcases hc with (hc | (hc|hc)|hc)|hc
           · exact .inl (by rw[hF];simp[hc])
           · exact .inl (by rw[hF];simp[hc])
           · rcases hsub' c hc with h|h
             · exact .inl (by rw[hF];simp[h])
             · exact .inr h
           · exact .inl (by rw[hF];simp[hc])
           · exact .inl (by rw[hF];simp[hc])
          obtain⟨hM2,hle2⟩:=h.retree (w':=w') (ys:=xs.set i x') (F:=b::(G1++(H1++H'++H2)++G2)) hn hos hout htape hsize
           (λc hc hcn=>hmem c hc λhcH=>hcn (hHn c hcH))
           (λc hc=>by
            by_cases hcH:c∈H
            · exact hsf c (.inl hcH)
            · rcases hc with hc|hc
              · have hlt:=Bx (h.mem.rep r _ hn) rfl hc;exact (h.since.soft c (h.since.born r _ c hn rfl hc)).of_same (hmem c hlt hcH)
              · exact hsf c (.inr hc))
           (.inr ⟨b,off,cap,vs,_,by simpa using e1,rfl,by simpa using e3,e4.of_same (hmem b hbl hbH),e5.of_same (hmem b hbl hbH),hL,by simpa using e7⟩)
           (nodup_cons.2 ⟨λhm=>(hmemF b hm).elim hF0.2 λh=>by omega,hcnt⟩)
           (λc hc=>by
            rcases mem_cons.1 hc with rfl|hc
            · exact .inl (by rw[e2];simp)
            · exact (hmemF c hc).imp (λh=>by rw[e2];simp[h]) id)
          exact⟨_,hM2,hle2,rfl⟩
     · exact hr.elim
   · exact hr.elim
 · rename_i v n _
   match vals,ha with
   | [u,u'],ha =>
   obtain⟨hv,hu,_⟩:=ha;have hu:u'=.int .i64 n:=hu
   subst hu;obtain⟨_,L1,L2,_,h0,hr⟩:=Rd.runs_bind hr;obtain⟨x,L3,L4,_,h1,hr⟩:=Rd.runs_bind hr;obtain⟨z,hz,hr⟩:=hr;obtain⟨_,L5,L6,_,h2,hr⟩:=Rd.runs_bind hr;obtain⟨rfl,_⟩:=hr;obtain⟨us,hag,hcs⟩:=KT hv (Rd.runs_need h0).1;obtain⟨ns,k1,k2,k3,k4⟩:=Cs.hold_sound h.mem hcs h1;have hnd:ns.Nodup:=by rw[←k2 z.1];exact E6 (Rd.runs_need h2).1
   have hw:=HL h.mem hnd k3;have hsoft:∀b∈ns.flatMap g.nest,soft w b:=λb hb=>by
    obtain⟨m,hm,hb⟩:=mem_flatMap.1 hb;obtain⟨e,ys,hf⟩:=k3 m hm;exact h.since.soft b (h.since.born m _ b hf rfl hb)
   refine Calls.mono (hM.2 w u us x z.1 _ _ n z.2 hag k1 hw hsoft hz) λen' w' hpost=>?_;cases en' with
   | panicked _=>exact hpost.elim
   | outgrown=>exact hpost.elim
   | returned rv =>
    obtain⟨rfl,⟨F',ht',hnd',hsub'⟩,hsf,hos,hout,htape,hsize,hmem⟩:=hpost;obtain⟨g',h3,l3⟩:=h.retrees (k2 z.1) hnd k3 k4 ht' hnd' hsub' hsf hos hout htape hsize hmem;exact⟨g',h3,l3,rfl⟩
 · exact hr.elim
theorem Pc {f:FuncId} {F:Fn} (hM:NQ P f F) (h:MS w0 T N en g w) {args:List AV} {vals:List Value} (ha:xn (xO (dom en) g w) args vals) {e:y8} {L:List th} (hr:(Fh uid F args).Runs (wW en) e L) :
 Calls P f vals.toArray w fun
  | .returned v,w'=>∃g',MS w0 T N (e.ents++en) g' w'/\Le (dom en) g w (dom (e.ents++en)) g' w'/\xO (dom (e.ents++en)) g' w' e.val v
  | _,_=>False:=by
 unfold Fh at hr;cases hk:(zh F.ps&&H8 F.rs)with
 | false=>rw[hk]at hr;exact hr.elim
 | true =>
  rw[hk]at hr;simp only[aT]at hk;obtain⟨x,L1,L2,_,h1,hr⟩:=Rd.runs_bind hr;obtain⟨r,hden,hr⟩:=hr;obtain⟨rfl,hdist,hnew⟩:=Az hr;have hdist:xm (ya (xg uid F.ps F.rs [] r).news)=true:=hdist
  rw[Hp (Bk _)]at hdist;obtain⟨c1,c2⟩:=JJ F.ps F.rs uid r hk.1 hk.2;refine Calls.mono (hM.2 w uid x vals r (JH h.mem ha h1) hden hdist) λen' w' hpost=>?_;cases en' with
  | panicked _=>exact hpost.elim
  | outgrown=>exact hpost.elim
  | returned rv =>
   obtain⟨g',T',N',t1,t2,hM',hv⟩:=hpost;obtain⟨g'',k1,k2,k3⟩:=h.adopt hM' t1 t2 (λn e hn=>c2 (n,e) (yk hn)) (λn hn=>by
    have hm:n∈(ya (xg uid F.ps F.rs [] r).news).map (·.1):=by rw[Bk];exact Av.2 hn
    obtain⟨p,hp,rfl⟩:=mem_map.1 hm;exact hnew p hp)
   have e0:ya (xg uid F.ps F.rs [] r).news++[]++en=ya (xg uid F.ps F.rs [] r).news++en:=by rw[append_nil]
   have hval:(match (xg uid F.ps F.rs [] r).vals with | [v]=>v|vs=>AV.tup vs)=D5 (xg uid F.ps F.rs [] r).vals:=rfl;show ∃g',MS w0 T N (ya (xg uid F.ps F.rs [] r).news++[]++en) g' w'/\Le (dom en) g w (dom (ya (xg uid F.ps F.rs [] r).news++[]++en)) g' w'/\xO (dom (ya (xg uid F.ps F.rs [] r).news++[]++en)) g' w' _ rv
   rw[e0];refine⟨g'',k1,k2,?_⟩;show xO _ g'' w' (D5 (xg uid F.ps F.rs [] r).vals) rv
   exact RL (λn hn=>⟨Ca (by
    rw[BZ,Bk];exact Av.2 hn),k3 n hn⟩) c1 hv
end Go.V
namespace Go.V
variable {P:Program} {w0:World} {T N:Nat->Prop} {g:Gh} {w:World} {en:List (th×Entry)}

theorem Rd.bind_runs {α β:Type} {F:th->Option Entry} {f:α->Rd β} {a:α} {b:β}:∀{x:Rd α} {L1 L2:List th},x.Runs F a L1->(f a).Runs F b L2->(x.bind f).Runs F b (L1++L2)
 | .ret a',L1,L2,⟨h1,h2⟩,k=>by subst h1;subst h2;exact k
 | .fail,_,_,h,_=>h.elim
 | .get n g,L1,L2,⟨L',h1,h2⟩,k=>by subst h1;exact⟨L'++L2,rfl,Rd.bind_runs h2 k⟩
 | .opt o g,L1,L2,⟨b',h1,h2⟩,k=>⟨b',h1,Rd.bind_runs h2 k⟩
theorem MS.shutTrees (h:MS w0 T N en g w):∀{olds:List (th×Entry)},(∀p∈olds,∃e xs,wW en p.1=some (.tree e xs)/\p.2=.fwd e xs)->xm olds=true ->
 ∃g',MS w0 T N (olds++en) g' w/\Le (dom en) g w (dom (olds++en)) g' w
 | [],_,_=>⟨g,h,Le.refl _ _ _⟩
 | (n,E)::olds,hu,hd=>by
  obtain⟨h1,h2⟩:=yP hd;obtain⟨g1,hM,hle⟩:=h.shutTrees (olds:=olds) (λp hp=>hu p (mem_cons_of_mem _ hp)) h2;obtain⟨e,xs,hn,he⟩:=hu (n,E) mem_cons_self;obtain rfl:E=.fwd e xs:=he;obtain⟨g2,hM2,hle2,_⟩:=hM.shutTree (n:=n) ((xV h1).trans hn);exact⟨g2,hM2,hle.trans hle2⟩
theorem KY {olds:List (th×Entry)} (hu:∀p∈olds,∃e xs,wW en p.1=some (.tree e xs)/\p.2=.fwd e xs) {c:CT} {x:Cell} {y:c.den} {L:List th} (hc:∀r,x=.own r->r∈olds.map (·.1)) (hr:(c.lend x).Runs (wW en) y L) :
 (∃L',(c.into false true x).Runs (wW (olds++en)) (y,[]) L')/\∃L',(c.read x).Runs (wW (olds++en)) y L':=by
 have flat:c.isSl=false->(∃L',(c.read x).Runs (wW (olds++en)) y L')->(∃L',(c.into false true x).Runs (wW (olds++en)) (y,[]) L')/\∃L',(c.read x).Runs (wW (olds++en)) y L':=λhs h=>by
  refine⟨?_,h⟩;obtain⟨L',h⟩:=h;refine⟨L'++[],?_⟩;cases c with
  | sl e=>simp[CT.isSl]at hs
  | int=>exact Rd.bind_runs h ⟨rfl,rfl⟩
  | bool=>exact Rd.bind_runs h ⟨rfl,rfl⟩
  | str=>exact Rd.bind_runs h ⟨rfl,rfl⟩
  | err=>exact Rd.bind_runs h ⟨rfl,rfl⟩
 cases c with
 | sl e =>
  replace hr:(Kz e x).Runs (wW en) y L:=hr;cases x<;>try exact hr.elim
  case sh f ys =>
   simp only[Kz]at hr;split at hr
   · rename_i hfe hse;subst hfe;obtain⟨rfl,_⟩:=hr;refine⟨⟨[],?_⟩,[],?_⟩
     · show (EL _ (.sh _ _)).Runs _ _ _;simp only[EL];rw[hse];exact⟨rfl,rfl⟩
     · show (DB _ (.sh _ _)).Runs _ _ _;simp only[DB];rw[hse];exact⟨rfl,rfl⟩
   · exact hr.elim
  case nil =>
   obtain⟨rfl,_⟩:=hr;exact⟨⟨[],rfl,rfl⟩,[],rfl,rfl⟩
  case own r =>
   obtain⟨L',_,hr⟩:=hr;dsimp only at hr;split at hr
   · rename_i f ys hn;split at hr
     · rename_i hfe hse;subst hfe;obtain⟨rfl,_⟩:=hr;have hm:=hc r rfl
       obtain⟨E,hE,hEm⟩:∃E,wW (olds++en) r=some E/\(r,E)∈olds:=by
        rw[AE hm];cases hf:wW olds r with
        | none=>exact absurd hf (Av.1 hm)
        | some E=>exact⟨E,rfl,yk hf⟩
       obtain⟨e',xs',k1,k2⟩:=hu _ hEm;have k2:E=.fwd e' xs':=k2
       have k1:wW en r=some (.tree e' xs'):=k1;rw[hn]at k1;cases k1;subst k2;refine⟨⟨[r],?_⟩,[r],?_⟩
       · show (EL _ (.own r)).Runs _ _ _;refine⟨[],rfl,?_⟩;rw[hE];simp only;rw[hse];exact⟨rfl,rfl⟩
       · show (DB _ (.own r)).Runs _ _ _;refine⟨[],rfl,?_⟩;rw[hE];simp only;rw[hse];exact⟨rfl,rfl⟩
     · exact hr.elim
   · exact hr.elim
 | int k =>
  refine flat rfl ⟨[],?_⟩;cases x<;>try exact hr.elim
  rename_i j n;replace hr:(CT.read (.int k) (.int j n)).Runs (wW en) y L:=hr;simp only[CT.read]at hr ⊢;cases hk:Nat.beq (yv j) (yv k)with
  | false=>rw[hk]at hr;exact hr.elim
  | true=>rw[hk]at hr;obtain⟨rfl,_⟩:=hr;exact⟨rfl,rfl⟩
 | bool =>
  refine flat rfl ⟨[], ?_⟩;cases x<;>try exact hr.elim
  obtain⟨rfl,_⟩:=hr;exact⟨rfl,rfl⟩
 | str =>
  refine flat rfl ⟨[], ?_⟩;cases x<;>try exact hr.elim
  obtain⟨rfl,_⟩:=hr;exact⟨rfl,rfl⟩
 | err =>
  refine flat rfl ⟨[], ?_⟩;cases x<;>try exact hr.elim
  obtain⟨rfl,_⟩:=hr;exact⟨rfl,rfl⟩
theorem JK {olds:List (th×Entry)} (hu:∀p∈olds,∃e xs,wW en p.1=some (.tree e xs)/\p.2=.fwd e xs):∀{c:Cs} {xs:List Cell} {y:c.den} {L:List th},(∀r,Cell.own r∈xs->r∈olds.map (·.1))->(c.lend xs).Runs (wW en) y L ->
 (∃L',(c.into false true xs).Runs (wW (olds++en)) (y,[]) L')/\∃L',(c.read xs).Runs (wW (olds++en)) y L'
 | .one c,[x],y,L,hc,hr=>KY hu (λr hx=>hc r (by rw[hx];simp)) hr
 | .cons c r,x::xs,y,L,hc,hr=>by
  simp only[Cs.lend]at hr;obtain⟨a,L1,L2,_,h1,hr⟩:=Rd.runs_bind hr;obtain⟨b,L3,L4,_,h2,hr⟩:=Rd.runs_bind hr;obtain⟨rfl,_⟩:=hr;obtain⟨⟨M1,k1⟩,M2,k2⟩:=KY hu (λr hx=>hc r (by rw[hx];simp)) h1;obtain⟨⟨M3,k3⟩,M4,k4⟩:=JK hu (c:=r) (λr hx=>hc r (mem_cons_of_mem _ hx)) h2;exact⟨⟨_,Rd.bind_runs k1 (Rd.bind_runs k3 ⟨rfl,rfl⟩)⟩,_,Rd.bind_runs k2 (Rd.bind_runs k4 ⟨rfl,rfl⟩)⟩
 | .one _,[],_,_,_,hr=>hr.elim
 | .one _,_::_::_,_,_,_,hr=>hr.elim
 | .cons _ _,[],_,_,_,hr=>hr.elim
theorem KZ {olds:List (th×Entry)} (hu:∀p∈olds,∃e xs,wW en p.1=some (.tree e xs)/\p.2=.fwd e xs) (sl:Bool):∀{ps:List yj} {args:List AV} {x:xc (xz ps)} {L:List th},(∀r,Cell.own r∈args.flatMap AV.cells->r∈olds.map (·.1))->(HF ps args).Runs (wW en) x L ->
 ∃b L',(yH sl ps args).Runs (wW (olds++en)) b L'/\b.args=x/\b.used=[]/\b.ptrs=[]
 | [],[],x,L,_,hr=>⟨_,_,⟨rfl,rfl⟩,rfl,rfl,rfl⟩
 | .val agg c false::ps,v::args,x,L,hc,hr=>by
  simp only[HF]at hr;obtain⟨u,L5,L6,_,h0,hr⟩:=Rd.runs_bind hr;obtain⟨y,L1,L2,_,h1,hr⟩:=Rd.runs_bind hr;obtain⟨z,L3,L4,_,h2,hr⟩:=Rd.runs_bind hr;obtain⟨rfl,_⟩:=hr;obtain⟨⟨M1,k1⟩,M2,k2⟩:=JK hu (c:=c) (xs:=v.cells) (λr hx=>hc r (by rw[flatMap_cons];exact mem_append_left _ hx)) h1;obtain⟨b,M3,k3,e1,e2,e3⟩:=KZ hu sl (ps:=ps) (args:=args) (λr hx=>hc r (by rw[flatMap_cons];exact mem_append_right _ hx)) h2;have hok:=(Rd.runs_need h0).1
  have hn:(Rd.need (C7 agg v)).Runs (wW (olds++en)) () []:=by rw[hok];exact⟨rfl,rfl⟩
  cases sl with
  | true=>exact⟨_,_,Rd.bind_runs hn (Rd.bind_runs k1 (Rd.bind_runs k3 ⟨rfl,rfl⟩)),by rw[e1],by rw[e2];rfl,e3⟩
  | false=>exact⟨_,_,Rd.bind_runs hn (Rd.bind_runs (Rd.bind_runs k2 ⟨rfl,rfl⟩) (Rd.bind_runs k3 ⟨rfl,rfl⟩)),by rw[e1],by rw[e2];rfl,e3⟩
 | [],_::_,_,_,_,hr=>hr.elim
 | .val _ _ false::_,[],_,_,_,hr=>hr.elim
 | .val _ _ true::_,_,_,_,_,hr=>by cases ‹List AV› <;> exact hr.elim
 | .ptr _ _::_,_,_,_,_,hr=>by cases ‹List AV› <;> exact hr.elim
theorem Pd {f:FuncId} {F:Fn} (hM:EU P f F) (h:MS w0 T N en g w) {args:List AV} {vals:List Value} (ha:xn (xO (dom en) g w) args vals) {uid:th} {e:y8} {L:List th} (hr:(Fi uid F args).Runs (wW en) e L) :
 Calls P f vals.toArray w fun
  | .returned v,w'=>∃g',MS w0 T N (e.ents++en) g' w'/\Le (dom en) g w (dom (e.ents++en)) g' w'/\xO (dom (e.ents++en)) g' w' e.val v
  | _,_=>False:=by
 unfold Fi at hr;cases hk:(zh F.ps&&VE F.rs)with
 | false=>rw[hk]at hr;exact hr.elim
 | true =>
  rw[hk]at hr;obtain⟨x,L1,L2,_,h1,hr⟩:=Rd.runs_bind hr;obtain⟨olds,L3,L4,_,h2,hr⟩:=Rd.runs_bind hr;obtain⟨_,L5,L6,_,h3,hr⟩:=Rd.runs_bind hr;obtain⟨r,hden,hr⟩:=hr;obtain⟨rfl,hdist,hnew⟩:=Az hr;have hdo:=(Rd.runs_need h3).1
  obtain⟨hu,hc⟩:=ET h2;obtain⟨g1,hM1,hle1⟩:=h.shutTrees hu hdo;obtain⟨b,M1,k1,e1,e2,e3⟩:=KZ hu (AQ F.ps F.rs) hc h1;have hro:∀n∈b.ro,wW b.used n=none:=λn _=>by rw[e2];rfl
  have hnew':∀p∈(xg uid F.ps F.rs b.ptrs r).news,wW (olds++en) p.1=none:=by
   rw[e3];intro p hp;have hp0:=hnew p hp
   rw[xV]
   · exact hp0
   · intro hm;obtain⟨q,hq,he⟩:=mem_map.1 hm;obtain⟨f,ys,hf,_⟩:=hu q hq;rw[he,hp0]at hf;cases hf
  have key:=hM.2 w0 T N (olds++en) g1 w uid args vals b M1 r hM1 (xn.imp (λ_ _=>xO.mono hle1) ha) k1 (by
   rw[e2];simp[xm,wW]) (by rw[e1];exact hden) (by rw[e3];exact hdist) hnew'
  refine key.mono λen' w' hpost=>?_;cases en' with
  | panicked _=>exact hpost.elim
  | outgrown=>exact hpost.elim
  | returned rv =>
   obtain⟨g',k4,k5,k6⟩:=hpost;rw[e3,e2,Ik]at k4 k5 k6;simp only[append_nil]at k4 k5 k6;have e0:(xg uid F.ps F.rs [] r).news++olds++en=(xg uid F.ps F.rs [] r).news++(olds++en):=append_assoc _ _ _
   show ∃g',MS w0 T N ((xg uid F.ps F.rs [] r).news++olds++en) g' w'/\Le (dom en) g w (dom ((xg uid F.ps F.rs [] r).news++olds++en)) g' w'/\xO (dom ((xg uid F.ps F.rs [] r).news++olds++en)) g' w' _ rv;rw[e0];exact⟨g',k4,hle1.trans k5,k6⟩
end Go.V
namespace Go.V
variable {P:Program} {w0:World} {T N:Nat->Prop} {S:St} {g:Gh} {w w':World} {a:Act} {o:Oper} {G:yU} {uid rid:Nat} {en:List (th×Entry)} {Q:Exit->Act->World->Prop}

theorem II {f : FuncId} {fn : Func} {c : Code} (hf : P.funcs[f]?=some fn) (hn : (fn.name == "runtime.NumGoroutine")=false) (hb : fn.body=some c) (args : Array Value) : (callFunc f args).run P w=.ok (.enter f args) w := by
 simp only[callFunc,Sem.run_bind,run_program,Result.andThen,hf,hn];simp[hb]
theorem Fv (h:xR w0 T N S g w a):∀(xs:List Operand),xn (xO (dom S.en) g w) (xs.map S.eval) (xs.map a.eval)
 | []=>trivial
 | x::xs=>⟨yd h x,Fv h xs⟩
theorem UD (h:xR w0 T N S g w a) (hG:zS P G) {f:Operand} {args:Array Operand} {c:Call} (hc:c.callee=.value f) (hargs:c.args=args) (ho:o.op=.call c) {e:y8} {L:List th}
 (hr:(match S.eval f with
  | .cell (.fn g caps)=>(match wW G.fns g with
   | some F=>cond G.trees (match caps with | []=>Fj uid F (args.toList.map S.eval)|_=>.fail) (H7 uid F (args.toList.map S.eval++caps.map λn=>AV.cell (.box n 0)))
   | none=>match wW G.marks g,caps with|some M,[]=>Fc M (args.toList.map S.eval)|_,_=>.fail)
  | _=>.fail:Rd y8).Runs (wW S.en) e L) (hd:∀d,o.dst=some d->d<a.tmps.size) {K:Act->World->Prop}
 (hK:∀v w' g',xR w0 T N (S.put o.dst e) g' w' (a.put o.dst v)->Le (dom S.en) g w (dom (e.ents++S.en)) g' w'->K (a.put o.dst v) w'):o.wp P a w K Q:=by
 split at hr
 · rename_i fid caps e1;have hfv:=Do h e1
   obtain⟨cvs,hfv,hcaps⟩:=hfv;have plain : ∀{fn : Func} {cd : Code}, P.funcs[fid]?=some fn->(fn.name == "runtime.NumGoroutine")=false->fn.body=some cd->caps=[] ->
    (Calls P fid (args.toList.map a.eval).toArray w fun
     | .returned v,w'=>∃g',MS w0 T N (e.ents++S.en) g' w'/\Le (dom S.en) g w (dom (e.ents++S.en)) g' w'/\xO (dom (e.ents++S.en)) g' w' e.val v
     | _,_=>False)->o.wp P a w K Q:=by
    intro fn cd hf hn hb hcaps0 hcalls;subst hcaps0;have hcv:cvs.toList=[]:=by
     cases hq:cvs.toList with
     | nil=>rfl
     | cons u l=>rw[hq]at hcaps;exact hcaps.elim
    unfold Oper.wp;have hrun:(execOp a.eval o).run P w=.ok (.enter fid (args.toList.map a.eval).toArray) w:=by
     simp only[execOp,ho,resolve,hc,hargs,hfv,Deferred.ofValue,Sem.run_bind,Sem.run_pure,Result.andThen,invoke];rw[II hf hn hb]
     congr 2
     apply Array.ext';simp[hcv]
    rw[hrun,Oper.upon_enter];refine Calls.mono hcalls λen' w' he=>?_;cases en' with
    | returned v =>
     obtain⟨g',hM,hle,hv⟩:=he;exact hK v w' g' (h.put hM hle hv hd) hle
    | panicked _=>exact he.elim
    | outgrown=>exact he.elim
   split at hr
   · rename_i F hF;cases ht:G.trees with
     | true =>
      rw[ht]at hr;simp only[cT]at hr;split at hr
      · unfold Fj at hr;cases hk:(zh F.ps&&H8 F.rs)with
        | true =>
         rw[hk]at hr;simp only[aT]at hk;have hmt:=hG.tfns ht fid F hF hk.1 hk.2
         obtain⟨fn,cd,hf,hn,hb⟩:=hmt.1;exact plain hf hn hb rfl (Pc hmt h.ms (Fv h args.toList) hr)
        | false =>
         rw[hk]at hr;have hmt:=hG.fns fid F hF
         obtain⟨fn,cd,hf,hn,hb⟩:=hmt.1;exact plain hf hn hb rfl (Pd hmt h.ms (Fv h args.toList) hr)
      · exact hr.elim
     | false =>
     rw[ht]at hr;simp only[cF]at hr;obtain⟨⟨fn,cd,hf,hn,hb⟩,hmeets⟩:=hG.fns fid F hF;unfold H7 at hr;obtain⟨b,L1,L2,_,h1,hr⟩:=Rd.runs_bind hr;obtain⟨_,L3,L4,_,h2,hr⟩:=Rd.runs_bind hr;obtain⟨r,hden,hr⟩:=hr;obtain⟨rfl,hdist,hnew⟩:=Az hr;have hcs:xn (xO (dom S.en) g w) (caps.map λn=>AV.cell (.box n 0)) cvs.toList:=by
      have key:∀(l:List th) (m:List Value),xn (λn u=>dom S.en n/\(∃b,g.loc n=.pointer (some ⟨b,0,none⟩))/\u=g.loc n) l m->xn (xO (dom S.en) g w) (l.map λn=>AV.cell (.box n 0)) m:=by
       intro l
       induction l with
       | nil=>intro m h;cases m with
        | nil=>trivial
        | cons _ _=>exact h.elim
       | cons n l ih=>intro m h;cases m with
        | nil=>exact h.elim
        | cons u m =>
         obtain⟨⟨hdn,⟨b,hb⟩,hu⟩,h'⟩:=h;exact⟨⟨hdn,b,hb,hu.trans hb⟩,ih m h'⟩
      exact key caps _ hcaps
     have hcalls:=hmeets w0 T N S.en g w uid _ _ b L1 r h.ms ((Fv h args.toList).append hcs) h1 (Rd.runs_need h2).1 hden hdist hnew;unfold Oper.wp;have hrun:(execOp a.eval o).run P w=.ok (.enter fid (args.toList.map a.eval++cvs.toList).toArray) w:=by
      simp only[execOp,ho,resolve,hc,hargs,hfv,Deferred.ofValue,Sem.run_bind,Sem.run_pure,Result.andThen,invoke];rw[II hf hn hb]
      congr 2
      apply Array.ext';simp
     rw[hrun,Oper.upon_enter];refine Calls.mono hcalls λen' w' he=>?_;cases en' with
     | returned v =>
      obtain⟨g',hM,hle,hv⟩:=he;exact hK v w' g' (h.put hM hle hv hd) hle
     | panicked _=>exact he.elim
     | outgrown=>exact he.elim
   · split at hr
     · rename_i M hM;have hmk:=hG.marks fid M hM
       obtain⟨fn,cd,hf,hn,hb⟩:=hmk.1;exact plain hf hn hb rfl (Pb hmk h.ms (Fv h args.toList) hr)
     · exact hr.elim
 · exact hr.elim
end Go.V
namespace Go.V
variable {P:Program} {w0:World} {T N:Nat->Prop} {S:St} {g:Gh} {w w':World} {a:Act} {o:Oper} {G:yU} {uid rid:Nat} {en:List (th×Entry)} {Q:Exit->Act->World->Prop}

theorem VP (h:xR w0 T N S g w a) (hG:zS P G) {op:Op} (ho:o.op=op) (hp:∀c x y,op≠.pick c x y) {e:y8} {L:List th} (hr:(Ai G uid S.eval op).Runs (wW S.en) e L) (hd:∀d,o.dst=some d->d<a.tmps.size) {K:Act->World->Prop}
 (hK:∀v w' g',xR w0 T N (S.put o.dst e) g' w' (a.put o.dst v)->Le (dom S.en) g w (dom (e.ents++S.en)) g' w'->K (a.put o.dst v) w'):o.wp P a w K Q:=by
 have fin:xS P w0 T N S g w a o e->o.wp P a w K Q:=λhf=>Py h hf hd hK;have hr0:=hr
 unfold Ai at hr;split at hr
 case h_1=>obtain⟨rfl,_⟩:=hr;exact fin (Pp h (.inl ho))
 case h_2=>obtain⟨rfl,_⟩:=hr;exact fin (Pp h (.inr ho))
 case h_3=>exact absurd rfl (hp _ _ _)
 case h_4=>exact fin (SY h hG.tis ho hr0)
 case h_5=>exact fin (VK h hG.tis ho hr0)
 case h_6=>exact fin (SZ h hG.tis ho hr0)
 case h_7=>exact fin (MW h hG.tis ho hr0)
 case h_8=>exact fin (Uy h hG.tis ho hr0)
 case h_9=>exact fin (SX h hG.tis ho hr0)
 case h_10=>exact fin (OT h ho hr0)
 case h_11 =>
  replace hr:=xY hr;obtain⟨i,hi,hr⟩:=hr;exact fin (VI h hG.tis ho hi (λxs ys hx hy e L hr=>VM h hG.tis hG.eqs ho hi hx hy hr) hr)
 case h_12=>exact fin (VG h ho hr0)
 case h_13=>exact fin (VH h ho hr0)
 case h_14=>exact fin (Qs h hG.tis ho hr0)
 case h_15=>exact fin (Nw h hG.tis ho hr0)
 case h_16=>exact fin (SV h hG.tis ho hr0)
 case h_17=>exact fin (Nr h hG.tis ho hr0)
 case h_18=>exact fin (Ns h hG.tis ho hr0)
 case h_19=>exact fin (SU h hG.tis ho hr0)
 case h_20=>exact fin (Qd h ho hr0)
 case h_21=>exact fin (OU h ho hr0)
 case h_22 x t =>
  replace hr:=xY hr;obtain⟨i,hi,hr⟩:=hr;cases hk:Kx i (S.eval x)with
  | false=>rw[hk]at hr;exact hr.elim
  | true=>rw[hk]at hr;exact fin (VJ h ho hG.tis hi hk hr)
 case h_23=>exact fin (Rx h hG.tis ho hr0)
 case h_24=>exact fin (Mp h .min (.inl rfl) ho hr)
 case h_25=>exact fin (Mp h .max (.inr rfl) ho hr)
 case h_26=>exact UD h hG rfl rfl ho hr hd hK
 all_goals exact hr.elim
end Go.V
namespace Go.V
variable {P:Program} {w0:World} {T N:Nat->Prop} {S:St} {g:Gh} {w w':World} {a:Act} {o:Oper} {G:yU} {uid rid:Nat} {en:List (th×Entry)} {Q:Exit->Act->World->Prop} {ops:Array Oper}

theorem Ta (h:xR w0 T N S g w a) (hG:zS P G) {e:y8} {L:List th} (hr:(Ej G uid S.eval o.op).Runs (wW S.en) e L) (hd:∀d,o.dst=some d->d<a.tmps.size) {K:Act->World->Prop}
 (hK:∀v w' g',xR w0 T N (S.put o.dst e) g' w' (a.put o.dst v)->Le (dom S.en) g w (dom (e.ents++S.en)) g' w'->K (a.put o.dst v) w'):o.wp P a w K Q:=by
 by_cases hp:∃c x y,o.op=.pick c x y
 · obtain⟨c,x,y,hp⟩:=hp;rw[hp]at hr;exact Py h (Uw h hp hr) hd hK
 · rw[NJ λc x y he=>hp ⟨c,x,y,he⟩]at hr;exact VP h hG rfl (λc x y he=>hp ⟨c,x,y,he⟩) hr hd hK
theorem IJ (h:xR w0 T N S g w a) {j:Nat} {t:Tmp} {b:Bool} (hj:Bq ops.toList j=some t) (ht:S.tmp t=.cell (.bool b)):yielded ops a.tmps j=some b:=by
 have hv:=h.tmps t;rw[ht]at hv;have hv:a.tmps.getD t undef=.bool b:=hv
 unfold Bq at hj;unfold yielded;cases ho:ops[j]? with
 | none=>simp[ho]at hj
 | some p =>
  simp[ho]at hj;simp only[Option.bind_some,hj];have:a.tmps[t]?=some (.bool b):=by
   unfold Array.getD at hv;split at hv
   · rename_i hlt;rw[Array.getElem?_eq_getElem hlt];exact congrArg some hv
   · cases hv
  rw[this]
theorem NS (h:xR w0 T N S g w a) {j:Nat} {t:Tmp} (hj:Bq ops.toList j=some t) (ht:S.tmp t=.cell .void):yielded ops a.tmps j=none:=by
 have hv:=h.tmps t;rw[ht]at hv;have hv:a.tmps.getD t undef=undef:=hv
 unfold Bq at hj;unfold yielded;cases ho:ops[j]? with
 | none=>simp
 | some p =>
  simp[ho]at hj;simp only[Option.bind_some,hj];cases hq:a.tmps[t]? with
  | none=>rfl
  | some v =>
   have:v=undef:=by
    have hlt:=(Array.getElem?_eq_some_iff.1 hq).1;have he:=(Array.getElem?_eq_some_iff.1 hq).2
    rw[←he];simpa[Array.getD,hlt]using hv
   rw[this];rfl
theorem UE (h:xR w0 T N S g w a) (hG:zS P G) {i:Nat} {r:CW} (hs:CA G rid ops.toList S i o r) (hi:ops.toList[i]?=some o) (hd:∀d,o.dst=some d->d<a.tmps.size) {K:Act->World->Prop}
 (hK:∀v w' g',xR w0 T N (S.act o r) g' w' (a.put o.dst v)->Le (dom S.en) g w (dom (S.act o r).en) g' w'->K (a.put o.dst v) w'):wpOp P ops Q i K a w:=by
 have hi':ops[i]?=some o:=by simpa using hi
 unfold wpOp;simp only[hi'];cases r with
 | none =>
  obtain⟨j,want,t,hg,hj,ht⟩:=hs;have hw:Region.wanted o (yielded ops a.tmps)=false:=by
   simp only[Region.wanted,hg];rcases ht with ht|ht
   · rw[IJ h hj ht];cases want<;>rfl
   · rw[NS h hj ht];rfl
  rw[hw];simp only[Bool.false_eq_true,if_false];exact hK undef w g (h.put (e:=⟨.cell .void,[]⟩) h.ms (Le.refl _ _ _) rfl hd) (Le.refl _ _ _)
 | some r =>
  obtain⟨e,L⟩:=r;obtain⟨hwn,hr⟩:=hs;have hw:Region.wanted o (yielded ops a.tmps)=true:=by
   unfold Region.wanted;cases hg:o.guard with
   | none=>rfl
   | some q =>
    obtain⟨j,want⟩:=q;obtain⟨t,hj,ht⟩:=hwn j want hg;simp only[IJ h hj ht];cases want<;>rfl
  rw[hw];simp only[if_true];exact .inl (Ta h hG hr hd hK)
end Go.V
namespace Go.V
variable {P:Program} {w0:World} {T N:Nat->Prop} {S S':St} {g:Gh} {w w':World} {a:Act} {G:yU} {rid:Nat} {Q:Exit->Act->World->Prop} {ops:Array Oper} {B:List Nat}

theorem CD:∀{l:List Oper} {i:Nat} {p:Nat×Oper},p∈zB i l->i<=p.1/\l[p.1-i]?=some p.2
 | [],i,p,h=>by simp[zB]at h
 | o::l,i,p,h=>by
  rw[zB]at h;rcases mem_cons.1 h with rfl|h
  · exact⟨Nat.le_refl _,by simp⟩
  · obtain⟨h1,h2⟩:=CD h;refine⟨by omega,?_⟩;rw[show p.1-i=(p.1-(i+1))+1 by omega];simpa using h2
theorem Fw:∀(l:List Oper) (i:Nat),(zB i l).map (·.1)=List.range' i l.length
 | [],i=>rfl
 | o::l,i=>by rw[zB,map_cons,Fw l (i+1)];rfl
theorem Fx:∀(l:List Oper) (i:Nat),(zB i l).Pairwise λp q=>p.1<q.1
 | [],i=>List.Pairwise.nil
 | o::l,i=>by
  rw[zB];exact pairwise_cons.2 ⟨λq hq=>by have:=(CD hq).1;show i<q.1;omega,Fx l (i+1)⟩
theorem Io:∀{l:List (Nat×Oper)},HH ops B l=true->l.Pairwise λp q=>zX (zu B q.1) p.1=true\/Oper.apart ops p.2 q.2=true
 | [],h=>List.Pairwise.nil
 | (i,x)::l,h=>by
  simp only[HH,aT]at h;refine pairwise_cons.2 ⟨λq hq=>?_,Io h.2⟩;simpa using all_eq_true.1 h.1 q hq
def At (w0:World) (T N:Nat->Prop) (nt:Nat) (D0:th->Prop) (g0:Gh) (w1:World) (S:St) (a:Act) (w:World):Prop :=
 ∃g,xR w0 T N S g w a/\nt<=a.tmps.size/\Le D0 g0 w1 (dom S.en) g w
theorem xR.same (h:xR w0 T N S g w a) (hs:Al S S'):xR w0 T N S' g w a:=by
 have hM:=h.ms.congr hs.en;refine⟨hM.mem,hM.since,λt=>?_,h.plain⟩;rw[←hs.tm t,←AM hs.en];exact h.tmps t
theorem Tb (a:Act) (d:Option Tmp) (v:Value):(a.put d v).tmps.size=a.tmps.size:=by
 unfold Act.put;cases d<;>simp
theorem At.sound (hG:zS P G) {nt:Nat} (hb:∀(i:Nat) o,ops.toList[i]?=some o->∀d,o.dst=some d->d<nt) {D0:th->Prop} {g0:Gh} {w1:World}:QA P G rid ops Q (At w0 T N nt D0 g0 w1):=by
 refine⟨λS S' a w hs ⟨g,h1,h2,h3⟩=>⟨g,h1.same hs,h2,by rw[←AM hs.en];exact h3⟩,λS i o r a w K hst hi ⟨g,h1,h2,h3⟩ hK=>?_⟩;exact UE h1 hG hst hi (λd hd=>Nat.lt_of_lt_of_le (hb i o hi d hd) h2) λv w' g' hI hle=>hK _ _ ⟨g',hI,by rw[Tb];exact h2,h3.trans hle⟩
theorem CA.closed {i:Nat} {o:Oper} {r:CW} {l:List Oper} (h:yp S) (hs:CA G rid l S i o r):yp (S.act o r):=by
 cases r with
 | none=>exact h.put _ (xw.pure (x:=.cell .void) (xA rfl))
 | some r=>exact h.put _ (NK (λx=>h.eval x) h.box hs.2)
theorem yp.same (h:yp S) (hs:Al S S'):yp S':=by
 have hd:=AM hs.en;refine⟨λt=>by rw[←hs.tm t,←hd];exact h.tmp t,λn cs hn c hc=>?_⟩;rw[←hd];exact h.box n cs ((hs.en n).trans hn) c hc
theorem Tr.closed {l:List Oper}:∀{E:List Ev} {S S':St},yp S->Tr G rid l E S S'->yp S'
 | [],S,S',h,k=>h.same k
 | (i,o,r)::E,S,S',h,⟨k1,k2⟩=>Tr.closed (k1.closed h) k2
theorem Tr.dom {l:List Oper}:∀{E:List Ev} {S S':St},Tr G rid l E S S'->∀n,dom S.en n->dom S'.en n
 | [],S,S',k,n,hn=>by rw[←AM (show Al S S' from k).en];exact hn
 | (i,o,r)::E,S,S',⟨k1,k2⟩,n,hn=>by
  refine Tr.dom k2 n ?_;cases r with
  | none=>exact hn
  | some r=>exact AF _ _ n hn
theorem JL {l:List Oper} {o:Oper} {t:Tmp} (h:t∉o.looksAt l.toArray):¬G9 l o t:=λk=>h (NL k)
theorem At.drop {nt:Nat} {D0:th->Prop} {g0:Gh} {w1:World} {Z:List Tmp} {FN:List th} {S1:St} (h:At w0 T N nt D0 g0 w1 S1 a w) (hs:Il Z FN S S1) (hc:yp S) (hd:∀n,D0 n->Go.V.dom S.en n):At w0 T N nt D0 g0 w1 S a w:=by
 obtain⟨g,h1,h2,h3⟩:=h;exact⟨g,h1.drop hs hc,h2,⟨hd,h3.loc,h3.esz,h3.imm,h3.mem,h3.rows⟩⟩

structure D6 (S S':St):Prop where
 en:∃nw,S'.en=nw++S.en
 tm:∃nt,S'.tm=nt++S.tm
theorem RM {A:Type} (hG:zS P G) (hm:P.follows .mixedOrders=true) {nt:Nat} {draw:Bool} (hb:Br nt (.region rid ops draw)=true) (h:xR w0 T N S g w a) (hn:nt<=a.tmps.size) (hc:yp S) {ann:List (Nat×xi)} {K:EN A} {r:A}
 (hr:Bv G ann (.region rid ops draw) S K=some r)
 (hQ:∀S' a' w',yp S'->D6 S S'->At w0 T N nt (dom S.en) g w S' a' w'->K.n S'=some r->Q .normal a' w'):(Code.region rid ops draw).wp P Q a w:=by
 have hbel:∀(i:Nat) o,ops.toList[i]?=some o->∀d,o.dst=some d->d<nt:=by
  intro i o ho d hd;have:=all_eq_true.1 hb o (List.mem_of_getElem? ho)
  rw[hd]at this;exact Nat.lt_of_lt_of_le (Nat.lt_succ_self d) (Nat.le_of_ble_eq_true this)
 have hs:=At.sound (rid:=rid) (w0:=w0) (T:=T) (N:=N) (Q:=Q) (D0:=dom S.en) (g0:=g) (w1:=w) hG hbel;have hhere:∀{E:List Ev},E.map (λp=>(p.1,p.2.1))=zB 0 ops.toList->∀p∈E,ops.toList[p.1]?=some p.2.1:=by
  intro E hE p hp;have:=CD (Cj hE hp)
  simpa using this.2
 have hfst:∀{E:List Ev},E.map (λp=>(p.1,p.2.1))=zB 0 ops.toList->E.map (·.1)=List.range ops.size:=by
  intro E hE;rw[show E.map (·.1)=(E.map (λp=>(p.1,p.2.1))).map (·.1) by rw[List.map_map];rfl,hE,Fw,←List.range_eq_range'];rfl
 rw[Bv]at hr;cases hcase:(draw||ops.toList.any Pn)with
 | false =>
  rw[hcase]at hr;simp only[cF]at hr;simp only[Bool.or_eq_false_iff]at hcase;obtain⟨E,S',h1,h2,h3,h4,h5⟩:=KS hr;rw[hcase.1];refine wp_region ?_;rw[←hfst h2];exact GU hs h1 (hhere h2) ⟨g,h,hn,Le.refl _ _ _⟩ λa' w' hR=>hQ S' a' w' (Tr.closed hc h1) ⟨h4,h5⟩ hR h3
 | true =>
  rw[hcase]at hr;simp only[cT]at hr;cases hck:(Nat.blt ops.toList.length 256&&(Fk 0 (cond draw (D1 ops.toList []) (KD ops.toList.length))&&cond draw (Nk ops (D1 ops.toList [])) true))with
  | false=>rw[hck]at hr;cases hr
  | true =>
   rw[hck]at hr;simp only[aT,cT]at hck hr;obtain⟨c1,c2,c3⟩:=hck;have hB:GT ops.toList (cond draw (D1 ops.toList []) (KD ops.toList.length)):=GT.of (Nat.lt_of_lt_of_le (Nat.lt_succ_self _) (Nat.le_of_ble_eq_true c1)) c2
   have hin:Im rid ops.toList (cond draw (D1 ops.toList []) (KD ops.toList.length)) [] (zB 0 ops.toList) S S [] [] [] [] :=
    ⟨⟨λt=>.inl rfl,λn _=>rfl,λn hn=>by simp at hn⟩,λt c ht=>by simp[wW]at ht,λp hp=>by simp at hp,λn hn=>by simp at hn,
     λp hp=>by simpa using (CD hp).2,λp hp t ht=>by simp at ht,λp hp=>by simp at hp,Fx _ _,hc⟩
   obtain⟨E,S1',S',acc',Z',FN',nw,k1,k2,k3,⟨k4,k4'⟩,k5,k6,k7,k8,k9,k10,k11,k12⟩:=(NP hB _ _ _ _ _ _ _ _ _ _ _ _ hr hin).out;have hend:∀a' w',At w0 T N nt (dom S.en) g w S1' a' w'->Q .normal a' w':=λa' w' hR =>
    hQ S' a' w' k4' ⟨⟨nw,k11.1⟩,k11.2⟩ (hR.drop k4 k4' λn hn=>by rw[k11.1];exact AF _ _ n hn) k1
   cases draw with
   | false =>
    refine wp_region ?_;rw[←hfst k3];exact GU hs k2 (hhere k3) ⟨g,h,hn,Le.refl _ _ _⟩ hend
   | true =>
    simp only[cT]at c3 hB k8;simp only[Nk,aT]at c3;obtain⟨⟨d1,d2⟩,d3⟩:=c3;refine wp_region_any hm ?_;obtain⟨hM,hle⟩:=h.ms.drew;have hI:xR w0 T N S g w.drew a:=⟨hM.mem,hM.since,λt=>xO.mono hle (h.tmps t),h.plain⟩
    have hlen:E.length=ops.size:=by
     have:=congrArg List.length (hfst k3);simpa using this
    refine RK hs (B:=D1 ops.toList []) ⟨λi o ho b hb'=>?_,λi o ho e he heb=>?_⟩ hlen k2 ⟨by simp,hhere k3,λi hi=>?_,?_,?_,λi hi hl=>?_⟩ ⟨g,hI,hn,hle⟩ hend
    · exact ME ops.toList [] i o ho b (by simpa using hb')
    · have hmem:(i,o)∈zB 0 ops.toList:=by
       have hi:i∈(zB 0 ops.toList).map (·.1):=by
        rw[Fw,←List.range_eq_range'];exact List.mem_range.2 (List.getElem?_eq_some_iff.1 ho).1
       obtain⟨p,hp,rfl⟩:=mem_map.1 hi;have:=(CD hp).2
       rw[Nat.sub_zero,ho]at this;cases this;exact hp
      have:=all_eq_true.1 (all_eq_true.1 d2 _ hmem) e he;rw[heb]at this;simp only[Bool.not_true,Bool.false_or]at this;exact Nat.lt_of_lt_of_le (Nat.lt_succ_self _) (Nat.le_of_ble_eq_true this)
    · have:(Array.replicate ops.size false).getD i true=false:=by simp[Array.getD,hi]
      refine⟨λ_=>?_,λ_=>this⟩;have hi':i∈E.map (·.1):=by rw[hfst k3];exact List.mem_range.2 hi
      obtain⟨p,hp,he⟩:=mem_map.1 hi';exact⟨p,hp,he⟩
    · have:=Fx ops.toList 0;rw[←k3,List.pairwise_map]at this;exact this
    · have hap:=Io d3;rw[←k3,List.pairwise_map]at hap;refine (hap.and k8).imp λ{p q} ⟨h1,h2⟩=>?_;rcases h1 with h1|h1
      · exact .inl h1
      · rcases h2 with h2|h2
        · exact .inl h2
        · obtain⟨e1,e2,e3⟩:=Oper.apart_spec h1;have harr:ops.toList.toArray=ops:=by simp
          exact .inr ⟨λd hd=>JL (by rw[harr];exact e1 d hd),λd hd=>JL (by rw[harr];exact e3 d hd),e2,h2.wr,h2.rw,h2.ww⟩
    · simp[Array.getD,hi]at hl
end Go.V
namespace Go.V

theorem Rd.plain_some {α:Type} {S:th->Option Entry} {a:α}:∀{x:Rd α},x.plain S=some a->∃L,x.Runs S a L
 | .ret b,h=>by simp only[Rd.plain,Option.some.injEq]at h;exact⟨[],h.symm,rfl⟩
 | .fail,h=>by simp[Rd.plain]at h
 | .get n k,h=>by
  simp only[Rd.plain]at h;obtain⟨L,hL⟩:=Rd.plain_some h;exact⟨n::L,L,rfl,hL⟩
 | .opt _ _,h=>by simp[Rd.plain]at h
def Fy (S:St) (σ:List (th×Cell)):yO->Cell->Cell->Prop
 | .dat c,x,y=>∃a,c.quiet S.ent x=some a/\y=c.cell a
 | .own n,x,y=>y=.own n/\(n,x)∈σ/\((∃r,x=.own r)\/(∃r lo hi,x=.win r lo hi)\/x=.nil)
 | .same n,x,y=>x=.own n/\y=x
 | .box n o,x,y=>x=.box n o/\y=x
 | .nil,x,y=>x=.nil/\y=x
 | .undef,_,y=>y=.undef
 | .fn f cs,x,y=>x=.fn f cs/\y=x
 | .kid r j e,x,y=>∃xs,x=.kid r j e xs/\y=x
def Db (S:St) (σ:List (th×Cell)):List yO->List Cell->List Cell->Prop
 | [],[],[]=>True
 | s::l,x::xs,y::ys=>Fy S σ s x y/\Db S σ l xs ys
 | _,_,_=>False
variable {S:St} {σ:List (th×Cell)}
theorem CE {α:Type} {z:α} {A:Prop} (h:(none:Option α)=some z):A:=by cases h
theorem MY {c:CT} {l:List yO} {R:List Cs} {x:Cell} {xs:List Cell} {y:Option (xc R)}:yB S (.dat c::l) R (x::xs) y =
 (match c.quiet S.ent x,yB S l R xs y with|some a,some b=>some (xc.mk (.one c) (yt l R) a b)|_,_=>none):=rfl
theorem IK {r:th} {j:Nat} {e:Cs} {x:Cell} {a:List e.den} (h:Hb r j e x=some a):x=.kid r j e a:=by
 unfold Hb at h;split at h
 · rename_i s k f xs;cases hk:(Nat.beq r s&&Nat.beq j k)with
   | false=>rw[hk]at h;cases h
   | true =>
    rw[hk]at h;simp only[aT]at hk;obtain rfl:=Nat.eq_of_beq_eq_true hk.1;obtain rfl:=Nat.eq_of_beq_eq_true hk.2;simp only[cT]at h;split at h
    · rename_i hh _;subst hh;cases h;rfl
    · cases h
 · cases h
theorem MZ {r:th} {j:Nat} {e:Cs} {l:List yO} {R:List Cs} {x:Cell} {xs:List Cell} {y:Option (xc R)}:yB S (.kid r j e::l) R (x::xs) y =
 (match Hb r j e x,yB S l R xs y with|some a,some b=>some (xc.mk (.one (.sl e)) (yt l R) a b)|_,_=>none):=rfl
theorem Gb:∀(l:List yO) (R:List Cs) (xs:List Cell) (y:Option (xc R)) (z:xc (yt l R)),yB S l R xs y=some z->(∀p∈CK l xs,p∈σ) ->
 ∃y',y=some y'/\Db S σ l xs (yg l R z).1/\(yg l R z).2=y':=by
 intro l
 induction l with
 | nil =>
  intro R xs y z h _;cases xs with
  | nil=>exact⟨z,h,trivial,rfl⟩
  | cons _ _=>exact CE (show (none:Option (xc (yt [] R)))=some z from h)
 | cons s l ih =>
  intro R xs y z h hσ;cases xs with
  | nil=>cases s<;>exact CE (show (none:Option (xc (yt _ R)))=some z from h)
  | cons x xs =>
   cases s with
   | dat c =>
    rw[MY]at h;cases h1:c.quiet S.ent x with
    | none=>rw[h1]at h;cases h
    | some a =>
     cases h2:yB S l R xs y with
     | none=>rw[h1,h2]at h;cases h
     | some b =>
      rw[h1,h2]at h;have h:xc.mk (.one c) (yt l R) a b=z:=Option.some.inj h
      subst h;obtain⟨y',e1,e2,e3⟩:=ih R xs y b h2 (λp hp=>hσ p hp);refine⟨y',e1,?_,?_⟩
      · show Fy S σ (.dat c) x (c.cell (xc.hd (.one c) (yt l R) _))/\Db S σ l xs (yg l R (xc.tl (.one c) (yt l R) _)).1;rw[xc.tl_mk,xc.hd_mk];exact⟨⟨a,h1,rfl⟩,e2⟩
      · show (yg l R (xc.tl (.one c) (yt l R) _)).2=y';rw[xc.tl_mk];exact e3
   | kid r j c =>
    rw[MZ]at h;cases h1:Hb r j c x with
    | none=>rw[h1]at h;cases h
    | some a =>
     cases h2:yB S l R xs y with
     | none=>rw[h1,h2]at h;cases h
     | some b =>
      rw[h1,h2]at h;have h:xc.mk (.one (.sl c)) (yt l R) a b=z:=Option.some.inj h
      subst h;obtain⟨y',e1,e2,e3⟩:=ih R xs y b h2 (λp hp=>hσ p hp);refine⟨y',e1,?_,?_⟩
      · show Fy S σ (.kid r j c) x (.kid r j c (xc.hd (.one (.sl c)) (yt l R) _))/\Db S σ l xs (yg l R (xc.tl (.one (.sl c)) (yt l R) _)).1;rw[xc.tl_mk,xc.hd_mk];exact⟨⟨a,IK h1,(IK h1).symm⟩,e2⟩
      · show (yg l R (xc.tl (.one (.sl c)) (yt l R) _)).2=y';rw[xc.tl_mk];exact e3
   | own n =>
    have key:∀(hx:(∃r,x=.own r)\/(∃r lo hi,x=.win r lo hi)\/x=.nil) (h:yB S l R xs y=some z),∃y',y=some y'/\Db S σ (.own n::l) (x::xs) (yg (.own n::l) R z).1/\(yg (.own n::l) R z).2=y':=by
     intro hx h;obtain⟨y',e1,e2,e3⟩:=ih R xs y z h (λp hp=>hσ p (mem_cons_of_mem _ hp));exact⟨y',e1,⟨⟨rfl,hσ _ mem_cons_self,hx⟩,e2⟩,e3⟩
    cases x<;>first
     | exact CE (show (none:Option (xc (yt _ R)))=some z from h)
     | exact key (.inl ⟨_,rfl⟩) h
     | exact key (.inr (.inl ⟨_,_,_,rfl⟩)) h
     | exact key (.inr (.inr rfl)) h
   | same n =>
    cases x<;>try exact CE (show (none:Option (xc (yt _ R)))=some z from h)
    rename_i m;have h':cond (Nat.beq n m) (yB S l R xs y) none=some z:=h
    cases hnm:Nat.beq n m with
    | false=>rw[hnm]at h';cases h'
    | true =>
     rw[hnm]at h';clear h;obtain rfl:=Nat.eq_of_beq_eq_true hnm;obtain⟨y',e1,e2,e3⟩:=ih R xs y z h' (λp hp=>hσ p hp);exact⟨y',e1,⟨⟨rfl,rfl⟩,e2⟩,e3⟩
   | box n o =>
    cases x<;>try exact CE (show (none:Option (xc (yt _ R)))=some z from h)
    rename_i m p;have h':cond (Nat.beq n m&&Nat.beq o p) (yB S l R xs y) none=some z:=h
    cases hnm:(Nat.beq n m&&Nat.beq o p)with
    | false=>rw[hnm]at h';cases h'
    | true =>
     rw[hnm]at h';clear h;simp only[aT]at hnm;obtain rfl:=Nat.eq_of_beq_eq_true hnm.1;obtain rfl:=Nat.eq_of_beq_eq_true hnm.2;obtain⟨y',e1,e2,e3⟩:=ih R xs y z h' (λp hp=>hσ p hp);exact⟨y',e1,⟨⟨rfl,rfl⟩,e2⟩,e3⟩
   | nil =>
    cases x<;>try exact CE (show (none:Option (xc (yt _ R)))=some z from h)
    obtain⟨y',e1,e2,e3⟩:=ih R xs y z h (λp hp=>hσ p hp);exact⟨y',e1,⟨⟨rfl,rfl⟩,e2⟩,e3⟩
   | undef =>
    obtain⟨y',e1,e2,e3⟩:=ih R xs y z h (λp hp=>hσ p hp);exact⟨y',e1,⟨rfl,e2⟩,e3⟩
   | fn f cs =>
    cases x<;>try exact CE (show (none:Option (xc (yt _ R)))=some z from h)
    rename_i g ds;have h':cond (Nat.beq f g&&(cs==ds)) (yB S l R xs y) none=some z:=h
    cases hnm:(Nat.beq f g&&(cs==ds))with
    | false=>rw[hnm]at h';cases h'
    | true =>
     rw[hnm]at h';clear h;simp only[aT]at hnm;obtain rfl:=Nat.eq_of_beq_eq_true hnm.1;obtain rfl:=eq_of_beq hnm.2;obtain⟨y',e1,e2,e3⟩:=ih R xs y z h' (λp hp=>hσ p hp);exact⟨y',e1,⟨⟨rfl,rfl⟩,e2⟩,e3⟩
def Hq (S:St) (σ:List (th×Cell)) (l:List (Nat×Bool×List yO)) (tm:List (Nat×AV)) (t:Nat):Prop :=
 match wW l t with
 | none=>wW tm t=none
 | some (agg,ss)=>C7 agg (S.tmp t)=true/\∃cs,wW tm t=some (Ah agg cs)/\Db S σ ss (S.tmp t).cells cs
theorem Ip:∀{l:List (Nat×Bool×List yO)} {R:List Cs} {y:Option (xc R)} {z:xc (D9 l R)},Fe S l R y=some z->(∀p∈DF S l,p∈σ) ->
 ∃y',y=some y'/\(∀t,Hq S σ l (AR l R z).1 t)/\(AR l R z).2=y'
 | [],R,y,z,h,_=>⟨z,h,λt=>rfl,rfl⟩
 | (t,agg,ss)::l,R,y,z,h,hσ=>by
  have h':cond (C7 agg (S.tmp t)) (yB S ss (D9 l R) (S.tmp t).cells (Fe S l R y)) none=some z:=h;cases hag:C7 agg (S.tmp t)with
  | false=>rw[hag]at h';cases h'
  | true =>
   rw[hag]at h';clear h;have h:yB S ss (D9 l R) (S.tmp t).cells (Fe S l R y)=some z:=h'
   obtain⟨y1,e1,e2,e3⟩:=Gb _ _ _ _ _ h (λp hp=>hσ p (mem_append_left _ hp));obtain⟨y2,k1,k2,k3⟩:=Ip e1 (λp hp=>hσ p (mem_append_right _ hp));refine⟨y2,k1,λu=>?_,?_⟩
   · unfold Hq;simp only[AR];rw[xr,xr];by_cases htu:t=u
     · subst htu;simp only[if_true];exact⟨hag,_,rfl,e2⟩
     · simp only[if_neg htu];have:=k2 u
       unfold Hq at this;rw[e3];exact this
   · simp only[AR];rw[e3];exact k3
def Ck (S:St) (σ:List (th×Cell)) (l:List (th×AA)) (en:List (th×Entry)) (n:th):Prop :=
 match wW l n with
 | none=>wW en n=none
 | some (.root e m)=>∃x xs,wW σ n=some x/\AD S e m x=some xs/\wW en n=some (.root e m xs)
 | some (.keep e m)=>∃xs,AD S e m (.own n)=some xs/\wW en n=some (.root e m xs)
 | some (.box ss)=>∃cs cs',wW S.en n=some (.box cs)/\wW en n=some (.box cs')/\Db S σ ss cs cs'
 | some (.tree e)=>∃xs,wW S.en n=some (.tree e xs)/\wW en n=some (.tree e xs)
theorem Iq {e:Cs} {n:th} {xs:List e.den} (h:Fl S e n=some xs):wW S.en n=some (.tree e xs):=by
 unfold Fl at h;split at h
 · rename_i f ys hn;split at h
   · rename_i hh _;subst hh;cases h;exact hn
   · cases h
 · cases h
theorem C1:∀{l:List (th×AA)} {z:xc (yQ l)},Bl S σ l=some z->(∀p∈BO S l,p∈σ)->∀n,Ck S σ l (Aj l z) n
 | [],z,h,_,n=>rfl
 | (m,.root e d)::l,z,h,hσ,n=>by
  simp only[Bl]at h;split at h
  · rename_i x hx;split at h
    · rename_i a b h1 h2;cases h;have ih:=C1 h2 hσ n
      unfold Ck at ih ⊢;simp only[Aj];rw[xr,xr,xc.tl_mk,xc.hd_mk];by_cases hmn:m=n
      · subst hmn;simp only[if_true];exact⟨x,a,hx,h1,rfl⟩
      · simp only[if_neg hmn];exact ih
    · cases h
  · cases h
 | (m,.keep e d)::l,z,h,hσ,n=>by
  simp only[Bl]at h;split at h
  · rename_i a b h1 h2;cases h;have ih:=C1 h2 hσ n
    unfold Ck at ih ⊢;simp only[Aj];rw[xr,xr,xc.tl_mk,xc.hd_mk];by_cases hmn:m=n
    · subst hmn;simp only[if_true];exact⟨a,h1,rfl⟩
    · simp only[if_neg hmn];exact ih
  · cases h
 | (m,.tree e)::l,z,h,hσ,n=>by
  simp only[Bl]at h;split at h
  · rename_i a b h1 h2;cases h;have ih:=C1 h2 hσ n
    unfold Ck at ih ⊢;simp only[Aj];rw[xr,xr,xc.tl_mk,xc.hd_mk];by_cases hmn:m=n
    · subst hmn;simp only[if_true];exact⟨a,Iq h1,rfl⟩
    · simp only[if_neg hmn];exact ih
  · cases h
 | (m,.box ss)::l,z,h,hσ,n=>by
  simp only[Bl]at h;cases hcs:S.ent m with
  | none=>rw[hcs]at h;cases h
  | some ec =>
  rw[hcs]at h;cases ec with
  | tree=>cases h
  | frz=>cases h
  | gone=>cases h
  | fwd _ _=>cases h
  | root _ _ _=>cases h
  | box cs =>
   simp only at h;obtain⟨y',e1,e2,e3⟩:=Gb _ _ _ _ _ h (λp hp=>hσ p (by
    simp only[BO];rw[hcs];exact mem_append_left _ hp))
   have ih:=C1 e1 (λp hp=>hσ p (mem_append_right _ hp)) n;unfold Ck at ih ⊢;simp only[Aj];rw[xr,xr,e3];by_cases hmn:m=n
   · subst hmn;simp only[if_true];exact⟨cs,_,hcs,rfl,e2⟩
   · simp only[if_neg hmn];exact ih
theorem Fz:∀{l:List (th×Cell)},AS l=true->l.Pairwise λp q=>(q.1=p.1->Jf p.2 q.2=true)/\(q.1≠p.1->C8 p.2 q.2=true)
 | [],_=>List.Pairwise.nil
 | (n,x)::l,h=>by
  simp only[AS,aT]at h;refine pairwise_cons.2 ⟨λq hq=>?_,Fz h.2⟩;have:=all_eq_true.1 h.1 q hq
  cases hb:Nat.beq q.1 n with
  | true =>
   rw[hb]at this;exact⟨λ_=>this,λhne=>absurd (Nat.eq_of_beq_eq_true hb) hne⟩
  | false =>
   rw[hb]at this;exact⟨λhe=>by subst he;simp at hb,λ_=>this⟩
theorem QC {x y:Cell} (h:Jf x y=true):∃r,x=.own r/\y=.own r:=by
 cases x<;>cases y<;>simp[Jf]at h;exact⟨_,rfl,by rw[h]⟩
theorem L7:∀{l:List (th×Cell)},AS l=true->∀{n:th} {x:Cell},(n,x)∈l->∃y,wW l n=some y/\(x=y\/∃r,x=.own r/\y=.own r)
 | [],_,n,x,h=>by simp at h
 | (m,y)::l,hs,n,x,h=>by
  rw[xr];by_cases hmn:m=n
  · subst hmn;rw[if_pos rfl];rcases mem_cons.1 h with h|h
    · cases h;exact⟨_,rfl,.inl rfl⟩
    · obtain⟨r,e1,e2⟩:=QC (((pairwise_cons.1 (Fz hs)).1 (m,x) h).1 rfl);exact⟨y,rfl,.inr ⟨r,e2,e1⟩⟩
  · rw[if_neg hmn];rcases mem_cons.1 h with h|h
    · cases h;exact absurd rfl hmn
    · simp only[AS,aT]at hs;exact L7 hs.2 h
theorem Gc {x y:Cell} (h:C8 x y=true) {r:th} (hx:AB x=some r):AB y≠some r:=by
 intro hy;simp[C8,hx,hy]at h
theorem L8 {x y:Cell} (h:C8 x y=true):C8 y x=true:=by
 have e:∀a b,C8 a b=(match AB a,AB b with|some r,some s=>!(Nat.beq r s)|_,_=>true):=λa b=>rfl;rw[e]at h ⊢;cases hx:AB x with
 | none=>cases AB y<;>rfl
 | some r=>cases hy:AB y with
  | none=>rfl
  | some s =>
   rw[hx,hy]at h;simp only[Bool.not_eq_true']at h ⊢;cases hb:Nat.beq s r with
   | false=>rfl
   | true=>rw[Nat.eq_of_beq_eq_true hb]at h;simp at h
theorem GV:∀{l:List (th×Cell)},AS l=true->∀{n m:th} {x y:Cell},(n,x)∈l->(m,y)∈l->n≠m->∀r,AB x=some r->AB y≠some r
 | [],_,n,m,x,y,h,_,_,r,_=>by simp at h
 | (k,z)::l,hs,n,m,x,y,h1,h2,hnm,r,hr=>by
  have hp:=pairwise_cons.1 (Fz hs);simp only[AS,aT]at hs;rcases mem_cons.1 h1 with e1|h1<;>rcases mem_cons.1 h2 with e2|h2
  · cases e1;cases e2;exact absurd rfl hnm
  · cases e1;exact Gc ((hp.1 (m,y) h2).2 (Ne.symm hnm)) hr
  · cases e2;exact Gc (L8 ((hp.1 (n,x) h1).2 hnm)) hr
  · exact GV hs.2 h1 h2 hnm r hr
end Go.V
namespace Go.V
variable {w0:World} {T N:Nat->Prop} {en en':List (th×Entry)} {S S':St} {g g':Gh} {w:World} {a:Act} {s:yA} {M:List (th×Entry)} {W:List (Nat×AV)}

theorem MS.rename (h:MS w0 T N en g w) (hI:g'.I=g.I) (hrep:∀n e,wW en' n=some e->Cz (dom en') g' w n e) (DQ:th->th->Prop)
 (hφ:∀n e,wW en' n=some e->e.alive=true\/e.deep=true->(g'.top n=none/\g'.nest n=[])\/∃k f,wW en k=some f/\(e.alive=true->f.alive=true)/\(e.deep=true->f.deep=true)/\g'.top n=g.top k/\(∀b∈g'.nest n,b∈g.nest k)/\DQ n k)
 (htree:∀n e,wW en' n=some e->e.isTree=true->(∃f,wW en n=some f/\f.isTree=true)/\g'.nest n=g.nest n) (inj:∀n m k,DQ n k->DQ m k->n=m) (hone:∀n,dom en' n->(g'.loc n).oneCell'=true):MS w0 T N en' g' w:=by
 have ht:∀n e b,wW en' n=some e->e.alive=true->g'.top n=some b->∃k f,wW en k=some f/\f.alive=true/\g.top k=some b/\DQ n k:=by
  intro n e b hn ha hb;rcases hφ n e hn (.inl ha)with ⟨h1,_⟩|⟨k,f,h1,h2,_,h4,_,h6⟩
  · rw[h1]at hb;cases hb
  · exact⟨k,f,h1,h2 ha,h4▸hb,h6⟩
 have hs:∀n e b,wW en' n=some e->e.deep=true->b∈g'.nest n->∃k f,wW en k=some f/\f.deep=true/\b∈g.nest k/\DQ n k:=by
  intro n e b hn hd hb;rcases hφ n e hn (.inr hd)with ⟨_,h1⟩|⟨k,f,h1,h2,h3,_,h5,h6⟩
  · rw[h1]at hb;simp at hb
  · exact⟨k,f,h1,h3 hd,h5 b hb,h6⟩
 refine⟨⟨hrep,λn m e f b hn hm he hf h1 h2=>?_,λn e b hn he hb=>?_,λn m e f hn hm he hf hnm b hb hb'=>?_,λb hb=>h.mem.old b (hI▸hb),hone,λn e b hn he hb=>?_⟩,
  ⟨h.since.os,h.since.out,h.since.tape,h.since.size,h.since.mem,λn e b hn he hb=>?_,λn e b hn he hb=>?_,λb hb=>h.since.imm b (hI▸hb),λn e b hn he hb=>?_,h.since.soft⟩⟩
 · obtain⟨k,f1,k1,k2,k3,k4⟩:=ht n e b hn he h1;obtain⟨k',f2,l1,l2,l3,l4⟩:=ht m f b hm hf h2;obtain rfl:=h.mem.apart k k' f1 f2 b k1 l1 k2 l2 k3 l3;exact inj n m k k4 l4
 · obtain⟨k,f1,k1,k2,k3,k4⟩:=ht n e b hn he hb;rw[hI];exact h.mem.topI k f1 b k1 k2 k3
 · obtain⟨k,f1,k1,k2,k3,k4⟩:=hs n e b hn he hb;obtain⟨k',f2,l1,l2,l3,l4⟩:=hs m f b hm hf hb';by_cases hkk:k=k'
   · subst hkk;exact hnm (inj n m k k4 l4)
   · exact h.mem.nests k k' f1 f2 k1 l1 k2 l2 hkk b k3 l3
 · obtain⟨⟨f,k1,k2⟩,k3⟩:=htree n e hn he;rw[k3]at hb;obtain⟨l1,l2,l3⟩:=h.mem.wood n f b k1 k2 hb;refine⟨by rw[hI];exact l1,λm f' hm hf' hb'=>?_,λm f' hmn hm hf'=>?_⟩
   · obtain⟨k,f1,j1,j2,j3,_⟩:=ht m f' b hm hf' hb';exact l2 k f1 j1 j2 j3
   · obtain⟨⟨f2,j1,j2⟩,j3⟩:=htree m f' hm hf';rw[j3];exact l3 m f2 hmn j1 j2
 · obtain⟨k,f1,k1,k2,k3,k4⟩:=ht n e b hn he hb;exact h.since.tops k f1 b k1 k2 k3
 · obtain⟨k,f1,k1,k2,k3,k4⟩:=hs n e b hn he hb;exact h.since.nests k f1 b k1 k2 k3
 · obtain⟨⟨f,k1,k2⟩,k3⟩:=htree n e hn he;rw[k3]at hb;exact h.since.born n f b k1 k2 hb

theorem N0 {e:Cs} {m:Bool} {x:Cell} {xs:List e.den} (h:AD S e m x=some xs) :
 ∃q us L,(LN e x).Runs (wW S.en) (xs,q,us) L/\(∀m',q=some m'->m=true->m'=true)/\(∀r E,us=[(r,E)]->AB x=some r):=by
 cases x<;>try (exfalso;cases h;done)
 case nil =>
  simp only[AD,Option.some.injEq]at h;subst h;exact⟨none,[],[],⟨rfl,rfl⟩,(λm' h=>by cases h),λr E h=>by cases h⟩
 case own r =>
  simp only[AD]at h;split at h
  · rename_i f m' ys hr;cases hm:Mm m m' with
    | false=>rw[hm]at h;cases h
    | true =>
     rw[hm]at h;simp only[cT]at h;split at h
     · rename_i hfe hsame;cases h;refine⟨some m',[(r,.gone)],[r],⟨[],rfl,?_⟩,(λm'' h hm1=>?_),λr' E h=>by cases h;rfl⟩
       · rw[show wW S.en r=some (.root f m' ys)from hr];simp only[hsame];exact⟨rfl,rfl⟩
       · cases h;subst hm1;simpa[Mm]using hm
     · cases h
  · cases h
 case win r lo hi =>
  simp only[AD]at h;split at h
  · rename_i f m' ys hr;cases hm:Mm m m' with
    | false=>rw[hm]at h;cases h
    | true =>
     rw[hm]at h;simp only[cT]at h;split at h
     · rename_i hfe hsame;cases h;refine⟨some m',[(r,.gone)],[r],⟨[],rfl,?_⟩,(λm'' h hm1=>?_),λr' E h=>by cases h;rfl⟩
       · rw[show wW S.en r=some (.root f m' ys)from hr];simp only[hsame];exact⟨rfl,rfl⟩
       · cases h;subst hm1;simpa[Mm]using hm
     · cases h
  · cases h
structure JY (w:World) (S:St) (g:Gh) (e:Cs) (m:Bool) (x:Cell) (xs:List e.den) (i:NI):Prop where
 esz:i.esz=e.len
 loc:∀v,xd (dom S.en) g w x v->v=i.loc
 rep:zw w e xs i.loc i.top i.nest
 imm:∀b∈i.nest,g.I b
 nod:m=true->i.nest.Nodup
 one:i.loc.oneCell'=true
 old:(i.top=none/\i.nest=[])\/∃r m' ys,AB x=some r/\wW S.en r=some (.root e m' ys)/\i.top=g.top r/\(∀b∈i.nest,b∈g.nest r)/\(m=true->m'=true)
theorem JM {e:Cs} {xs:List e.den} {v:Value} {tp:Option Nat} {F:List Nat} (h:zw w e xs v tp F):v.oneCell'=true:=by
 obtain⟨x,c,rfl⟩:=h.shape;rfl
theorem Td (hm:zv S.en g w) {e:Cs} {m:Bool} {x:Cell} {xs:List e.den} (h:AD S e m x=some xs) {v:Value} (hv:xd (dom S.en) g w x v):∃i,JY w S g e m x xs i:=by
 have huni:∀u,xd (dom S.en) g w x u->u=v:=by
  intro u hu;cases x<;>try (exfalso;cases h;done)
  case nil=>exact (show u=_ from hu).trans (show v=_ from hv).symm
  case own r=>exact hu.2.trans hv.2.symm
  case win r lo hi =>
   obtain⟨_,_,a1,l1,c1,e1,_,rfl⟩:=hu;obtain⟨_,_,a2,l2,c2,e2,_,rfl⟩:=hv;rw[e1]at e2;cases e2;rfl
 obtain⟨q,us,L,h1,h2,h3⟩:=N0 h;rcases IC hm hv h1 with ⟨rfl,h4⟩|⟨ys,r,m',F,h4,hD⟩
 · cases h4;exact⟨⟨.slice none 0 0,e.len,none,[]⟩,rfl,huni,.inl ⟨rfl,rfl,rfl,rfl⟩,by simp,by simp,rfl,.inl ⟨rfl,rfl⟩⟩
 · cases h4;obtain⟨⟨zs,hent⟩,hrep,hcnt⟩:=hD;obtain⟨_,_,hI,hnd⟩:=yM hm hent;have hsub:∀b∈F,b∈g.nest r:=λb hb=>by
    have h0:=hcnt b;have h1:0<F.count b:=count_pos_iff.2 hb
    exact count_pos_iff.1 (by omega)
   refine⟨⟨v,e.len,g.top r,F⟩,rfl,huni,hrep,λb hb=>hI b (hsub b hb),λhm1=>?_,JM hrep,.inr ⟨r,m',zs,h3 r _ rfl,hent,rfl,hsub,h2 m' rfl⟩⟩;rw[←yC];intro b;have:=hcnt b
   have h6:=yC.2 (hnd (h2 m' rfl hm1)) b;show F.count b<=1
   omega
end Go.V
namespace Go.V
variable {w0:World} {T N:Nat->Prop} {en en':List (th×Entry)} {S S':St} {g g':Gh} {w:World} {a:Act} {s:yA} {M:List (th×Entry)} {W:List (Nat×AV)}

theorem Cl:∀{l:List (th×AA)},Hc l=true->∀{n:th} {e:AA},(n,e)∈l->wW l n=some e
 | [],_,n,e,h=>by simp at h
 | (m,f)::l,hl,n,e,h=>by
  simp only[Hc,aT]at hl;rw[xr];rcases mem_cons.1 h with h|h
  · cases h;rw[if_pos rfl]
  · by_cases hmn:m=n
    · subst hmn;have:=all_eq_true.1 hl.1 _ h
      simp at this
    · rw[if_neg hmn];exact Cl hl.2 h
theorem JN {l:List (th×AA)} (hl:Hc l=true) {n:th} (h:Np l n=true):∃e m,wW l n=some (.root e m):=by
 obtain⟨p,hp,hq⟩:=List.any_eq_true.1 h;simp only[aT]at hq;obtain⟨k,f⟩:=p;obtain rfl:=Nat.eq_of_beq_eq_true hq.1;cases f with
 | root e m=>exact⟨e,m,Cl hl hp⟩
 | keep e m=>cases hq.2
 | box ss=>cases hq.2
 | tree e=>cases hq.2
theorem IL {l:List (th×AA)} (hl:Hc l=true) {n:th} (h:BV l n=true):∃x,wW l n=some x/\∀e m,x≠.root e m:=by
 obtain⟨p,hp,hq⟩:=List.any_eq_true.1 h;simp only[aT]at hq;obtain⟨k,f⟩:=p;obtain rfl:=Nat.eq_of_beq_eq_true hq.1;refine⟨f,Cl hl hp,λe m he=>?_⟩;subst he;cases hq.2
theorem IM:∀{l:List (th×AA)} {n:th} {x:AA},wW l n=some x->(∀e m,x≠.root e m)->BV l n=true:=by
 intro l n x h hx;refine List.any_eq_true.2 ⟨(n,x),yk h,?_⟩;cases x with
 | root e m=>exact absurd rfl (hx e m)
 | keep e m=>simp
 | tree e=>simp
 | box ss=>simp
theorem AW:∀{l:List (th×AA)},B9 S l=true->∀{n:th} {e:Cs} {m:Bool},(n,AA.root e m)∈l->wW S.en n=none
 | [],_,n,e,m,h=>by simp at h
 | (k,x)::l,hf,n,e,m,h=>by
  rcases mem_cons.1 h with h'|h'
  · obtain⟨rfl,rfl⟩:=Prod.mk.inj h';simp only[B9,aT]at hf;cases hn:wW S.en n with
    | none=>rfl
    | some y=>rw[show S.ent n=some y from hn]at hf;cases hf.1
  · cases x with
    | root e' m'=>simp only[B9,aT]at hf;exact AW hf.2 h'
    | keep e' m'=>simp only[B9]at hf;exact AW hf h'
    | box ss=>simp only[B9]at hf;exact AW hf h'
    | tree e'=>simp only[B9]at hf;exact AW hf h'
theorem GW {D:th->Prop}:∀{l:List yO} {xs:List Cell} {vs:List Value},xn (xd D g w) xs vs->∀p∈CK l xs,∃v,xd D g w p.2 v
 | [],xs,vs,_,p,hp=>by cases xs<;>simp[CK]at hp
 | s::l,[],[],_,p,hp=>by cases s<;>simp[CK]at hp
 | s::l,x::xs,v::vs,h,p,hp=>by
  have ih:=GW (l:=l) h.2 p;cases s with
  | own n =>
   rcases mem_cons.1 hp with rfl|hp
   · exact⟨v,h.1⟩
   · exact ih hp
  | _=>exact ih hp
theorem NT {D:th->Prop} {x:AV} {v:Value} (h:xO D g w x v):∃vs,xn (xd D g w) x.cells vs:=by
 cases x with
 | cell c=>exact⟨[v],h,trivial⟩
 | agg cs=>obtain⟨vs,_,k⟩:=h;exact⟨_,k⟩
 | tup l=>exact⟨[],trivial⟩
theorem RN (hI:xR w0 T N S' g w a):∀p∈s.sigma S',∃v,xd (dom S'.en) g w p.2 v:=by
 intro p hp;rcases mem_append.1 hp with hp|hp
 · have key:∀(l:List (Nat×Bool×List yO)),p∈DF S' l->∃v,xd (dom S'.en) g w p.2 v:=by
    intro l
    induction l with
    | nil=>intro h;simp[DF]at h
    | cons q l ih =>
     intro h;obtain⟨t,ag,ss⟩:=q;rcases mem_append.1 h with h|h
     · obtain⟨vs,hv⟩:=NT (hI.tmps t);exact GW hv p h
     · exact ih h
   exact key _ hp
 · have key:∀(l:List (th×AA)),p∈BO S' l->∃v,xd (dom S'.en) g w p.2 v:=by
    intro l
    induction l with
    | nil=>intro h;simp[BO]at h
    | cons q l ih =>
     intro h;obtain⟨n,x⟩:=q;cases x with
     | box ss =>
      rcases mem_append.1 h with h|h
      · cases hn:S'.ent n with
        | none=>rw[hn]at h;simp at h
        | some e =>
         rw[hn]at h;cases e with
         | box cs =>
          obtain⟨b,us,_,_,_,h4⟩:=hI.mem.rep n _ hn;exact GW h4 p h
         | gone=>simp at h
         | fwd _ _=>simp at h
         | root _ _ _=>simp at h
         | tree _ _=>simp at h
         | frz _ _=>simp at h
      · exact ih h
     | root e m=>exact ih h
     | keep e m=>exact ih h
     | tree e=>exact ih h
   exact key _ hp
structure EV (S S':St) (M:List (th×Entry)) (W:List (Nat×AV)) (s:yA):Prop where
 gone:∀n e,wW M n=some e->e=.gone
 undef:∀t v,wW W t=some v->v=.undef
 dom:∀n,dom S.en n->Go.V.dom S'.en n
 en:∀n,wW M n=none->Go.V.dom S.en n->wW S'.en n=wW S.en n
 tm:∀t,wW W t=none->S'.tmp t=S.tmp t
 kept:∀n,BV s.en n=true->wW M n≠none
 ok:s.okAt S=true
 freed:freed S M (s.sigma S')=true
def Hr (S':St) (g:Gh) (w:World) (s:yA) (n:th) (i:NI):Prop :=
 match wW s.en n with
 | some (.root e m)=>∃x xs,wW (s.sigma S') n=some x/\AD S' e m x=some xs/\JY w S' g e m x xs i
 | _=>(dom S'.en n->i.loc=g.loc n/\i.esz=g.esz n/\i.top=g.top n/\i.nest=g.nest n)/\(¬dom S'.en n->i.loc=.slice none 0 0)
theorem yA.read_spec {d:s.den} (h:s.read S'=some d):AS (s.sigma S'++Fm s.en)=true/\(∀t,Hq S' (s.sigma S') s.tm (s.st d).tm t)/\(∀n,Ck S' (s.sigma S') s.en (s.st d).en n):=by
 unfold yA.read at h;cases hs:AS (s.sigma S'++Fm s.en)with
 | false=>rw[hs]at h;cases h
 | true =>
  rw[hs]at h;have h:Fe S' s.tm (yQ s.en) (Bl S' (s.sigma S') s.en)=some d:=h
  obtain⟨y',e1,e2,e3⟩:=Ip h (σ:=s.sigma S') (λp hp=>mem_append_left _ hp);refine⟨rfl,e2,?_⟩;have:=C1 e1 (λp hp=>mem_append_right _ hp)
  show ∀n,Ck S' (s.sigma S') s.en (Aj s.en (AR s.tm (yQ s.en) d).2) n;rw[e3];exact this
theorem FA:∀{l m:List (th×Cell)},AS (l++m)=true->AS l=true
 | [],m,_=>rfl
 | (n,x)::l,m,h=>by
  simp only[List.cons_append,AS,aT,List.all_append]at h ⊢;exact⟨h.1.1,FA h.2⟩
theorem DP:∀{l:List (th×AA)} {n:th} {e:Cs} {m:Bool},(n,AA.keep e m)∈l->(n,Cell.own n)∈Fm l
 | [],n,e,m,h=>by simp at h
 | (k,x)::l,n,e,m,h=>by
  rcases mem_cons.1 h with h'|h'
  · obtain⟨rfl,rfl⟩:=Prod.mk.inj h';exact mem_cons_self
  · cases x with
    | keep e' m'=>exact mem_cons_of_mem _ (DP h')
    | root e' m'=>exact DP (l:=l) h'
    | box ss=>exact DP (l:=l) h'
    | tree e'=>exact DP (l:=l) h'
theorem Xs (hI:xR w0 T N S' g w a) {d:s.den} (hr:s.read S'=some d):∃f:th->NI,∀n,Hr S' g w s n (f n):=by
 apply Classical.skolem.1;intro n;obtain⟨hσ,_,hen⟩:=yA.read_spec hr;have hn:=hen n
 unfold Ck at hn;unfold Hr;cases hf:wW s.en n with
 | none =>
  by_cases hd:dom S'.en n
  · exact⟨⟨g.loc n,g.esz n,g.top n,g.nest n⟩,λ_=>⟨rfl,rfl,rfl,rfl⟩,λh=>absurd hd h⟩
  · exact⟨⟨.slice none 0 0,0,none,[]⟩,λh=>absurd h hd,λ_=>rfl⟩
 | some x =>
  cases x with
  | root e m =>
   rw[hf]at hn;obtain⟨x,xs,h1,h2,_⟩:=hn;obtain⟨v,hv⟩:=RN (s:=s) hI (n,x) (yk h1);obtain⟨i,hi⟩:=Td hI.mem h2 hv;exact⟨i,x,xs,h1,h2,hi⟩
  | keep e m =>
   by_cases hd:dom S'.en n
   · exact⟨⟨g.loc n,g.esz n,g.top n,g.nest n⟩,λ_=>⟨rfl,rfl,rfl,rfl⟩,λh=>absurd hd h⟩
   · exact⟨⟨.slice none 0 0,0,none,[]⟩,λh=>absurd h hd,λ_=>rfl⟩
  | box ss =>
   by_cases hd:dom S'.en n
   · exact⟨⟨g.loc n,g.esz n,g.top n,g.nest n⟩,λ_=>⟨rfl,rfl,rfl,rfl⟩,λh=>absurd hd h⟩
   · exact⟨⟨.slice none 0 0,0,none,[]⟩,λh=>absurd h hd,λ_=>rfl⟩
  | tree e =>
   by_cases hd:dom S'.en n
   · exact⟨⟨g.loc n,g.esz n,g.top n,g.nest n⟩,λ_=>⟨rfl,rfl,rfl,rfl⟩,λh=>absurd hd h⟩
   · exact⟨⟨.slice none 0 0,0,none,[]⟩,λh=>absurd h hd,λ_=>rfl⟩
def Gh.all (g:Gh) (f:th->NI):Gh:=⟨g.I,λn=>(f n).loc,λn=>(f n).esz,λn=>(f n).top,λn=>(f n).nest,g.rows⟩
end Go.V
namespace Go.V
variable {w0:World} {T N:Nat->Prop} {en en':List (th×Entry)} {S S':St} {g g':Gh} {w:World} {a:Act} {s:yA} {M:List (th×Entry)} {W:List (Nat×AV)}

theorem NU {e:Cs} {m:Bool} {n:th} {xs:List e.den} (h:AD S e m (.own n)=some xs):∃m',wW S.en n=some (.root e m' xs)/\(m=true->m'=true):=by
 simp only[AD]at h;split at h
 · rename_i f m' ys hr;cases hm:Mm m m' with
   | false=>rw[hm]at h;cases h
   | true =>
    rw[hm]at h;simp only[cT]at h;split at h
    · rename_i hfe _;cases h;subst hfe;exact⟨m',hr,λhm1=>by subst hm1;simpa[Mm]using hm⟩
    · cases h
 · cases h
theorem Ge {σ:List (th×Cell)} {D D':th->Prop} {ok:yO->Bool} (h1:∀c x y v,Fy S σ c x y->ok c=true->xd D g w x v->xd D' g' w y v) :
 ∀{ss:List yO} {xs ys:List Cell} {vs:List Value},Db S σ ss xs ys->ss.all ok=true->xn (xd D g w) xs vs->xn (xd D' g' w) ys vs
 | [],[],[],[],_,_,_=>trivial
 | c::ss,x::xs,y::ys,v::vs,h,ho,hv=>by
  simp only[all_cons,aT]at ho;exact⟨h1 c x y v h.1 ho.1 hv.1,Ge h1 h.2 ho.2 hv.2⟩
theorem JZ {σ:List (th×Cell)} {D':th->Prop} {ok:yO->Bool} (h1:∀c x y,Fy S σ c x y->ok c=true->zQ D' y) :
 ∀{ss:List yO} {xs ys:List Cell},Db S σ ss xs ys->ss.all ok=true->∀y∈ys,zQ D' y
 | [],[],[],_,_,y,hy=>by simp at hy
 | c::ss,x::xs,z::ys,h,ho,y,hy=>by
  simp only[all_cons,aT]at ho;rcases mem_cons.1 hy with rfl|hy
  · exact h1 c x y h.1 ho.1
  · exact JZ h1 h.2 ho.2 y hy
theorem IN {σ:List (th×Cell)}:∀{ss:List yO} {xs ys:List Cell},Db S σ ss xs ys->ys.length=xs.length
 | [],[],[],_=>rfl
 | c::ss,x::xs,z::ys,h=>by simp[IN h.2]
def DQ (S S':St) (M:List (th×Entry)) (s:yA) (n k:th):Prop :=
 (∃e m x e' m' ys,wW s.en n=some (.root e m)/\wW (s.sigma S') n=some x/\AB x=some k/\wW S'.en k=some (.root e' m' ys)) \/
 (n=k/\∃e m,wW s.en n=some (.keep e m)) \/
 (n=k/\∃ss cs,wW s.en n=some (.box ss)/\wW S'.en n=some (.box cs)) \/
 (n=k/\wW s.en n=none/\wW M n=none/\dom S.en n)
theorem DQ.inj (hσ:AS (s.sigma S'++Fm s.en)=true) (hfr:freed S M (s.sigma S')=true) {n m k:th} (h:DQ S S' M s n k) (h':DQ S S' M s m k):n=m:=by
 have hroot:∀{n m k:th},(∃e m x e' m' ys,wW s.en n=some (.root e m)/\wW (s.sigma S') n=some x/\AB x=some k/\wW S'.en k=some (.root e' m' ys))->DQ S S' M s m k->n=m:=by
  intro n m k ⟨e,d,x,e',d',ys,h1,h2,h3,h4⟩ h';have hx:=yk h2
  rcases h' with ⟨_,_,y,_,_,_,k1,k2,k3,k4⟩|⟨rfl,e2,m2,k1⟩|⟨rfl,ss,cs,k1,k2⟩|⟨rfl,k1,k2,k3⟩
  · by_cases hnm:n=m
    · exact hnm
    · exact absurd k3 (GV (FA hσ) hx (yk k2) hnm k h3)
  · by_cases hnm:n=m
    · exact hnm
    · exact absurd rfl (GV hσ (mem_append_left _ hx) (mem_append_right _ (DP (yk k1))) hnm m h3)
  · rw[h4]at k2;cases k2
  · have:=all_eq_true.1 hfr _ hx;simp only[h3]at this;cases hd:wW S.en m with
    | none=>exact absurd hd k3
    | some y =>
     rw[hd]at this;simp only at this;rw[k2]at this;cases this
 rcases h with h|h
 · exact hroot h h'
 · rcases h' with h'|h'
   · exact (hroot h' (.inr h)).symm
   · have e1:n=k:=by rcases h with ⟨e,_⟩|⟨e,_⟩|⟨e,_⟩<;>exact e
     have e2:m=k:=by rcases h' with ⟨e,_⟩|⟨e,_⟩|⟨e,_⟩<;>exact e
     exact e1.trans e2.symm
theorem HM (hI:xR w0 T N S' g w a) (hcS:yp S) (hT:EV S S' M W s) {d:s.den} (hr:s.read S'=some d) :
 ∃g',xR w0 T N (s.over ⟨W++S.tm,M++S.en⟩ d) g' w a/\Le (dom S.en) g w (dom (s.over ⟨W++S.tm,M++S.en⟩ d).en) g' w/\yp (s.over ⟨W++S.tm,M++S.en⟩ d):=by
 obtain⟨hσ,htm,hen⟩:=yA.read_spec hr;obtain⟨f,hf⟩:=Xs hI hr;have hok:=hT.ok
 simp only[yA.okAt,aT]at hok;obtain⟨hfr,hnd,hokt,hoke⟩:=hok;have hEd:(s.over ⟨W++S.tm,M++S.en⟩ d).en=(s.st d).en++(M++S.en):=rfl
 have hTd:(s.over ⟨W++S.tm,M++S.en⟩ d).tm=(s.st d).tm++(W++S.tm):=rfl;generalize hE:(s.over ⟨W++S.tm,M++S.en⟩ d).en=E at hEd;have hnr:∀n,dom S.en n->∀e m,wW s.en n≠some (.root e m):=λn hn e m h=>hn (AW hfr (yk h))
 have hold:∀n,dom S'.en n->(∀e m,wW s.en n≠some (.root e m))->(f n).loc=g.loc n/\(f n).esz=g.esz n/\(f n).top=g.top n/\(f n).nest=g.nest n:=by
  intro n hn hne;have:=hf n
  unfold Hr at this;split at this
  · rename_i e m h;exact absurd h (hne e m)
  · exact this.1 hn
 have hdomS:∀n,dom S.en n->dom E n:=λn hn=>by
  rw[hEd];exact AF _ _ n (AF _ _ n hn)
 have hdome:∀n x,wW s.en n=some x->dom E n:=by
  intro n x hx;have:=hen n
  unfold Ck at this;rw[hx]at this;rw[hEd];cases x with
  | root e m=>obtain⟨_,_,_,_,h⟩:=this;exact Ca (by unfold dom;rw[h];simp)
  | keep e m=>obtain⟨_,_,h⟩:=this;exact Ca (by unfold dom;rw[h];simp)
  | box ss=>obtain⟨_,_,_,h,_⟩:=this;exact Ca (by unfold dom;rw[h];simp)
  | tree e=>obtain⟨_,_,h⟩:=this;exact Ca (by unfold dom;rw[h];simp)
 have hle:Le (dom S.en) g w (dom E) (g.all f) w:=⟨hdomS,λn hn=>(hold n (hT.dom n hn) (hnr n hn)).1,λn hn=>(hold n (hT.dom n hn) (hnr n hn)).2.1,λ_ h=>h,λ_ _=>rfl,λ_ _=>rfl⟩;have hdm:∀n,((wW S.en n).isSome||BV s.en n)=true->dom S'.en n->dom E n/\(f n).loc=g.loc n/\(f n).esz=g.esz n:=by
  intro n h hd;rw[Bool.or_eq_true]at h;rcases h with h|h
  · have hS:dom S.en n:=by intro h0;rw[h0]at h;cases h
    exact⟨hdomS n hS,(hold n hd (hnr n hS)).1,(hold n hd (hnr n hS)).2.1⟩
  · obtain⟨x,hx,hxr⟩:=IL hnd h;have hne:∀e m,wW s.en n≠some (.root e m):=λe m h=>by rw[hx]at h;exact hxr e m (Option.some.inj h)
    exact⟨hdome n x hx,(hold n hd hne).1,(hold n hd hne).2.1⟩
 have hdmE:∀n,((wW S.en n).isSome||BV s.en n)=true->dom E n:=by
  intro n h;rw[Bool.or_eq_true]at h;rcases h with h|h
  · exact hdomS n (by intro h0;rw[h0]at h;cases h)
  · obtain⟨x,hx,_⟩:=IL hnd h;exact hdome n x hx
 let ok:=yO.okIn (λn=>(wW S.en n).isSome||BV s.en n) (Np s.en)
 have g1:∀c x y v,Fy S' (s.sigma S') c x y->ok c=true->xd (dom S'.en) g w x v->xd (dom E) (g.all f) w y v:=by
  intro c x y v h ho hv;cases c with
  | dat c =>
   obtain⟨b,hq,rfl⟩:=h;unfold CT.quiet at hq;split at hq
   · rename_i b' hb;cases hq;obtain⟨L,hL⟩:=Rd.plain_some hb;obtain⟨⟨F,hF,hFI⟩,_⟩:=CT.into_shared hI.mem hv hL;refine CT.cell_rep hF λq hq=>(hFI q hq).elim id λ⟨k,hk,_⟩=>?_;simp at hk
   · cases hq
  | own n =>
   obtain⟨rfl,hm,_⟩:=h;obtain⟨e,m,hx⟩:=JN hnd ho;have:=hf n
   unfold Hr at this;rw[hx]at this;obtain⟨x0,xs,h1,h2,h3⟩:=this;obtain⟨z,hz,hz'⟩:=L7 (FA hσ) hm;rw[h1]at hz;cases hz;have : x=x0 := by
    rcases hz' with h|⟨r, h, h'⟩
    · exact h
    · exact h.trans h'.symm
   subst this;exact⟨hdome n _ hx,h3.loc v hv⟩
  | same n =>
   obtain⟨rfl,rfl⟩:=h;obtain⟨hd,rfl⟩:=hv;obtain⟨h1,h2,_⟩:=hdm n ho hd;exact⟨h1,h2.symm⟩
  | box n o =>
   obtain⟨rfl,rfl⟩:=h;obtain⟨hd,b,hb,e⟩:=hv;obtain⟨h1,h2,_⟩:=hdm n ho hd;exact⟨h1,b,h2.trans hb,e⟩
  | nil=>obtain⟨rfl,rfl⟩:=h;exact hv
  | kid r j e =>
   obtain⟨xs,rfl,rfl⟩:=h;obtain⟨hsh,hd,b,o,len,cap,i,k1,k2,k3,k4⟩:=hv;obtain⟨h1,h2,h3⟩:=hdm r ho hd;exact⟨hsh,h1,b,o,len,cap,i,h2.trans k1,k2,k3,by rw[show (g.all f).esz r=g.esz r from h3];exact k4⟩
  | undef=>obtain rfl:=h;trivial
  | fn q cs =>
   obtain⟨rfl,rfl⟩:=h;obtain⟨vs,e,k⟩:=hv;refine⟨vs,e,?_⟩;have key:∀(l:List th) (m:List Value),(∀n∈l,((wW S.en n).isSome||BV s.en n)=true)->xn (λn u=>dom S'.en n/\(∃b,g.loc n=.pointer (some ⟨b,0,none⟩))/\u=g.loc n) l m ->
    xn (λn u=>dom E n/\(∃b,(g.all f).loc n=.pointer (some ⟨b,0,none⟩))/\u=(g.all f).loc n) l m:=by
    intro l
    induction l with
    | nil=>intro m _ h;cases m with
     | nil=>trivial
     | cons _ _=>exact h.elim
    | cons n l ih=>intro m hl h;cases m with
     | nil=>exact h.elim
     | cons u m =>
      obtain⟨hd,⟨b,hb⟩,hu⟩:=h.1;obtain⟨h1,h2,_⟩:=hdm n (hl n (by simp)) hd;exact⟨⟨h1,⟨b,h2.trans hb⟩,hu.trans h2.symm⟩,ih m (λk hk=>hl k (by simp[hk])) h.2⟩
   exact key cs _ (λn hn=>all_eq_true.1 ho n hn) k
 have g2:∀c x y,Fy S' (s.sigma S') c x y->ok c=true->zQ (dom E) y:=by
  intro c x y h ho;cases c with
  | dat c=>obtain⟨b,_,rfl⟩:=h;exact CT.cell_in c b
  | own n =>
   obtain⟨rfl,_,_⟩:=h;obtain⟨e,m,hx⟩:=JN hnd ho;intro k hk;simp[Cell.refs]at hk;subst hk;exact hdome k _ hx
  | same n=>obtain⟨rfl,rfl⟩:=h;intro k hk;simp[Cell.refs]at hk;subst hk;exact hdmE k ho
  | box n o=>obtain⟨rfl,rfl⟩:=h;intro k hk;simp[Cell.refs]at hk;subst hk;exact hdmE k ho
  | nil=>obtain⟨rfl,rfl⟩:=h;exact xA rfl
  | kid r j e=>obtain⟨xs,rfl,rfl⟩:=h;intro k hk;simp[Cell.refs]at hk;subst hk;exact hdmE k ho
  | undef=>obtain rfl:=h;exact xA rfl
  | fn q cs=>obtain⟨rfl,rfl⟩:=h;intro k hk;exact hdmE k (all_eq_true.1 ho k hk)
 have hokbox:∀n ss,wW s.en n=some (.box ss)->ss.all ok=true:=λn ss h=>by
  have:=all_eq_true.1 hoke _ (yk h);exact this
 have hlook:∀n e,wW E n=some e ->
  (∃c m x xs,wW s.en n=some (.root c m)/\e=.root c m xs/\wW (s.sigma S') n=some x/\AD S' c m x=some xs/\JY w S' g c m x xs (f n)) \/
  (∃c m m' xs,wW s.en n=some (.keep c m)/\e=.root c m xs/\wW S'.en n=some (.root c m' xs)/\(m=true->m'=true)) \/
  (∃ss cs cs',wW s.en n=some (.box ss)/\e=.box cs'/\wW S'.en n=some (.box cs)/\Db S' (s.sigma S') ss cs cs') \/
  (wW s.en n=none/\((wW M n≠none/\e=.gone)\/(wW M n=none/\wW S.en n=some e/\wW S'.en n=some e))) \/
  (∃c xs,wW s.en n=some (.tree c)/\e=.tree c xs/\wW S'.en n=some (.tree c xs)):=by
  intro n e he;rw[hEd,yf]at he;have h0:=hen n
  unfold Ck at h0;cases hs:wW s.en n with
  | none =>
   rw[hs]at h0;simp only at h0;rw[h0]at he;refine .inr (.inr (.inr (.inl ⟨rfl,?_⟩)));rw[yf]at he;cases hM:wW M n with
   | some y=>rw[hM]at he;cases he;exact .inl ⟨(λh=>by cases h),hT.gone n e hM⟩
   | none =>
    rw[hM]at he;have he:wW S.en n=some e:=he
    exact .inr ⟨rfl,he,(hT.en n hM (by unfold dom;rw[he];simp)).trans he⟩
  | some x =>
   rw[hs]at h0;cases x with
   | root c m =>
    obtain⟨x,xs,h1,h2,h3⟩:=h0;rw[h3]at he;cases he;have:=hf n
    unfold Hr at this;rw[hs]at this;obtain⟨x',xs',k1,k2,k3⟩:=this;rw[h1]at k1;cases k1;rw[h2]at k2;cases k2;exact .inl ⟨c,m,x,xs,rfl,rfl,h1,h2,k3⟩
   | keep c m =>
    obtain⟨xs,h2,h3⟩:=h0;rw[h3]at he;cases he;obtain⟨m',k1,k2⟩:=NU h2;exact .inr (.inl ⟨c,m,m',xs,rfl,rfl,k1,k2⟩)
   | box ss =>
    obtain⟨cs,cs',h1,h2,h3⟩:=h0;rw[h2]at he;cases he;exact .inr (.inr (.inl ⟨ss,cs,cs',rfl,rfl,h1,h3⟩))
   | tree c =>
    obtain⟨xs,h1,h2⟩:=h0;rw[h2]at he;cases he;exact .inr (.inr (.inr (.inr ⟨c,xs,rfl,rfl,h1⟩)))
 have hbox_old:∀n cs,wW S.en n=some (.box cs)->∀c∈cs,zQ (dom S.en) c:=hcS.box;have hMS:MS w0 T N E (g.all f) w:=by
  refine MS.rename (en:=S'.en) hI.ms rfl (λn e he=>?_) (DQ S S' M s) (λn e he ha=>?_) (λn e he ht=>?_) (λn m k h h'=>DQ.inj hσ hT.freed h h') (λn hn=>?_)
  · rcases hlook n e he with ⟨c,m,x,xs,h1,rfl,h2,h3,h4⟩|⟨c,m,m',xs,h1,rfl,h2,h3⟩|⟨ss,cs,cs',h1,rfl,h2,h3⟩|⟨h1,h2⟩|⟨c,xs,h1,rfl,h2⟩
    · exact⟨h4.esz,h4.rep,h4.imm,h4.nod⟩
    · obtain⟨k1,k2,k3,k4⟩:=yM hI.mem h2;obtain⟨e1,e2,e3,e4⟩:=hold n (by unfold dom;rw[h2];simp) (λe m h=>by rw[h1]at h;cases h);refine⟨e2.trans k1,?_,?_,λhm=>?_⟩
      · show zw w c xs (f n).loc (f n).top (f n).nest;rw[e1,e3,e4];exact k2
      · show ∀b∈(f n).nest,g.I b;rw[e4];exact k3
      · show (f n).nest.Nodup;rw[e4];exact k4 (h3 hm)
    · obtain⟨b,us,k1,k2,k3,k4⟩:=hI.mem.rep n _ h2;obtain⟨e1,e2,e3,e4⟩:=hold n (by unfold dom;rw[h2];simp) (λe m h=>by rw[h1]at h;cases h);exact⟨b,us,e3.trans k1,e1.trans k2,k3,Ge g1 h3 (hokbox n ss h1) k4⟩
    · rcases h2 with ⟨_,rfl⟩|⟨_,h3,h4⟩
      · trivial
      · have hrep:=hI.mem.rep n e h4;obtain⟨e1,e2,e3,e4⟩:=hold n (by unfold dom;rw[h4];simp) (λe m h=>by rw[h1]at h;cases h);cases e with
        | gone=>trivial
        | fwd c xs=>show DI _ w (.sl c) xs (f n).loc;rw[e1];exact hrep
        | root c m xs =>
         obtain⟨k1,k2,k3,k4⟩:=hrep;refine⟨e2.trans k1,?_,?_,λhm=>?_⟩
         · show zw w c xs (f n).loc (f n).top (f n).nest;rw[e1,e3,e4];exact k2
         · show ∀b∈(f n).nest,g.I b;rw[e4];exact k3
         · show (f n).nest.Nodup;rw[e4];exact k4 hm
        | box cs =>
         obtain⟨b,us,k1,k2,k3,k4⟩:=hrep;refine⟨b,us,e3.trans k1,e1.trans k2,k3,?_⟩;exact xn.imp (λ_ _ h=>h.mono hle) (C0 k4 (hbox_old n cs h3))
        | frz c xs =>
         obtain⟨k1,k2,k3,k4,k5⟩:=hrep;refine⟨e2.trans k1,e3.trans k2,?_,?_,?_⟩
         · show CT.Rep w (.sl c) xs (f n).loc (f n).nest;rw[e1,e4];exact k3
         · show ∀b∈(f n).nest,g.I b;rw[e4];exact k4
         · show (f n).nest.Nodup;rw[e4];exact k5
        | tree c xs =>
         obtain⟨k1,k2,k3⟩:=hrep;refine⟨e2.trans k1,?_,?_⟩
         · show AT w c xs (f n).loc (f n).nest (g.rows n);rw[e1,e4];exact k2
         · show (f n).nest.Nodup;rw[e4];exact k3
    · obtain⟨k1,k2,k3⟩:=hI.mem.rep n _ h2;obtain⟨e1,e2,e3,e4⟩:=hold n (by unfold dom;rw[h2];simp) (λe m h=>by rw[h1]at h;cases h);refine⟨e2.trans k1,?_,?_⟩
      · show AT w c xs (f n).loc (f n).nest (g.rows n);rw[e1,e4];exact k2
      · show (f n).nest.Nodup;rw[e4];exact k3
  · have hkeep:∀{k:th} {e':Entry},wW S'.en n=some e'->(e.alive=true->e'.alive=true)->(e.deep=true->e'.deep=true)->(∀e m,wW s.en n≠some (.root e m))->DQ S S' M s n n ->
     ((g.all f).top n=none/\(g.all f).nest n=[])\/∃k f',wW S'.en k=some f'/\(e.alive=true->f'.alive=true)/\(e.deep=true->f'.deep=true)/\(g.all f).top n=g.top k/\(∀b∈(g.all f).nest n,b∈g.nest k)/\DQ S S' M s n k:=by
     intro _ e' h1 h2 h3 h4 h5;obtain⟨e1,e2,e3,e4⟩:=hold n (by unfold dom;rw[h1];simp) h4;exact .inr ⟨n,e',h1,h2,h3,e3,λb hb=>by rw[←e4];exact hb,h5⟩
    rcases hlook n e he with ⟨c,m,x,xs,h1,rfl,h2,h3,h4⟩|⟨c,m,m',xs,h1,rfl,h2,h3⟩|⟨ss,cs,cs',h1,rfl,h2,h3⟩|⟨h1,h2⟩|⟨c,xs,h1,rfl,h2⟩
    · rcases h4.old with ⟨k1,k2⟩|⟨r,m',ys,k1,k2,k3,k4,k5⟩
      · exact .inl ⟨k1,k2⟩
      · exact .inr ⟨r,_,k2,λ_=>rfl,k5,k3,k4,.inl ⟨c,m,x,c,m',ys,h1,h2,k1,k2⟩⟩
    · exact hkeep (k:=n) h2 (λ_=>rfl) h3 (λe m h=>by rw[h1]at h;cases h) (.inr (.inl ⟨rfl,c,m,h1⟩))
    · exact hkeep (k:=n) h2 (λ_=>rfl) (λh=>by cases h) (λe m h=>by rw[h1]at h;cases h) (.inr (.inr (.inl ⟨rfl,ss,cs,h1,h2⟩)))
    · rcases h2 with ⟨_,rfl⟩|⟨hM,h3,h4⟩
      · rcases ha with ha|ha<;>cases ha
      · exact hkeep (k:=n) h4 id id (λe m h=>by rw[h1]at h;cases h) (.inr (.inr (.inr ⟨rfl,h1,hM,by unfold dom;rw[h3];simp⟩)))
    · rcases ha with ha|ha<;>cases ha
  · rcases hlook n e he with ⟨c,m,x,xs,h1,rfl,h2,h3,h4⟩|⟨c,m,m',xs,h1,rfl,h2,h3⟩|⟨ss,cs,cs',h1,rfl,h2,h3⟩|⟨h1,h2⟩|⟨c,xs,h1,rfl,h2⟩
    · cases ht
    · cases ht
    · cases ht
    · rcases h2 with ⟨_,rfl⟩|⟨hM,h3,h4⟩
      · cases ht
      · exact⟨⟨e,h4,ht⟩,(hold n (by unfold dom;rw[h4];simp) (λe m h=>by rw[h1]at h;cases h)).2.2.2⟩
    · exact⟨⟨_,h2,rfl⟩,(hold n (by unfold dom;rw[h2];simp) (λe m h=>by rw[h1]at h;cases h)).2.2.2⟩
  · show ((f n).loc).oneCell'=true;have:=hf n
    unfold Hr at this;split at this
    · obtain⟨x,xs,_,_,h⟩:=this;exact h.one
    · by_cases hd:dom S'.en n
      · rw[(this.1 hd).1];exact hI.mem.one n hd
      · rw[this.2 hd];rfl
 have htmv:∀t,(∃agg ss cs,wW s.tm t=some (agg,ss)/\C7 agg (S'.tmp t)=true/\(s.over ⟨W++S.tm,M++S.en⟩ d).tmp t=Ah agg cs/\Db S' (s.sigma S') ss (S'.tmp t).cells cs) \/
  (s.over ⟨W++S.tm,M++S.en⟩ d).tmp t=.undef\/(S'.tmp t=S.tmp t/\(s.over ⟨W++S.tm,M++S.en⟩ d).tmp t=S.tmp t):=by
  intro t;have h0:=htm t
  unfold Hq at h0;unfold St.tmp;rw[hTd,yf];cases hs:wW s.tm t with
  | some q =>
   obtain⟨agg,ss⟩:=q;rw[hs]at h0;obtain⟨h1,cs,h2,h3⟩:=h0;rw[h2];exact .inl ⟨agg,ss,cs,rfl,h1,rfl,h3⟩
  | none =>
   rw[hs]at h0;simp only at h0;rw[h0,yf];cases hW:wW W t with
   | some v=>obtain rfl:=hT.undef t v hW;exact .inr (.inl rfl)
   | none=>exact .inr (.inr ⟨hT.tm t hW,rfl⟩)
 have hoktm:∀t agg ss,wW s.tm t=some (agg,ss)->ss.all ok=true:=λt agg ss h=>by
  have:=all_eq_true.1 hokt _ (yk h);exact this
 refine⟨g.all f,⟨by rw[hE];exact hMS.mem,by rw[hE];exact hMS.since,λt=>?_,hI.plain⟩,hle,⟨λt=>?_,?_⟩⟩
 · rw[hE];rcases htmv t with ⟨agg,ss,cs,h1,h2,h3,h4⟩|h|⟨h1,h2⟩
   · rw[h3];have hv:=hI.tmps t
     have hal:=hoktm t agg ss h1;cases hx:S'.tmp t with
     | cell c =>
      rw[hx]at h2 h4 hv;cases agg with
      | true=>cases h2
      | false =>
       have hl:=IN h4;have:=Ge (vs:=[a.tmps.getD t undef]) g1 h4 hal (show xn _ [c] _ from⟨hv,trivial⟩)
       cases cs with
       | nil=>simp[AV.cells]at hl
       | cons y ys=>cases ys with
        | nil=>exact this.1
        | cons _ _=>simp[AV.cells]at hl
     | agg ds =>
      rw[hx]at h2 h4 hv;cases agg with
      | false=>cases h2
      | true =>
       obtain⟨vs,e,k⟩:=hv;have:=Ge g1 h4 hal k
       have hav:Ah true cs=.agg cs:=by cases cs<;>rfl
       rw[hav];exact⟨vs,e,this⟩
     | tup l=>rw[hx]at h2;cases agg<;>cases h2
   · rw[h];exact trivial
   · rw[h2];have hv:=hI.tmps t
     rw[h1]at hv;exact (hv.restrict (hcS.tmp t)).mono hle
 · rw[hE];rcases htmv t with ⟨agg,ss,cs,h1,h2,h3,h4⟩|h|⟨h1,h2⟩
   · rw[h3];have hin:=JZ g2 h4 (hoktm t agg ss h1)
     have:=Hl (agg:=agg) hin;cases hav:Ah agg cs with
     | cell c=>rw[hav]at this;exact this
     | agg ds=>rw[hav]at this;exact this
     | tup l=>rw[hav]at this;exact this.elim
   · rw[h];exact xA rfl
   · rw[h2];exact (hcS.tmp t).mono hdomS
 · intro n cs hn c hc;rw[hE]at hn ⊢;rcases hlook n _ hn with ⟨_,_,_,_,_,h,_⟩|⟨_,_,_,_,_,h,_⟩|⟨ss,cs1,cs',h1,h,h2,h3⟩|⟨h1,h2⟩|⟨_,_,_,h,_⟩
   · cases h
   · cases h
   · cases h;exact JZ g2 h3 (hokbox n ss h1) c hc
   · rcases h2 with ⟨_,h⟩|⟨_,h3,_⟩
     · cases h
     · exact (hbox_old n cs h3 c hc).mono hdomS
   · cases h
end Go.V
namespace Go.V
variable {P:Program} {w0:World} {T N:Nat->Prop} {S S' S1 S2:St} {g g1:Gh} {w w1 w':World} {a a':Act} {G:yU} {nt:Nat} {ann:List (Nat×xi)}

theorem D6.refl (S:St):D6 S S:=⟨⟨[],rfl⟩,⟨[],rfl⟩⟩
theorem D6.trans (h:D6 S S1) (k:D6 S1 S2):D6 S S2:=by
 obtain⟨⟨x,hx⟩,hy⟩:=h;obtain⟨⟨z,hz⟩,ht⟩:=k;exact⟨⟨z++x,by rw[hz,hx,append_assoc]⟩,Hn ht hy⟩
theorem At.trans {D0:th->Prop} {g0:Gh} {w00:World} (hle:Le D0 g0 w00 (dom S.en) g w) (h:At w0 T N nt (dom S.en) g w S' a' w'):At w0 T N nt D0 g0 w00 S' a' w':=by
 obtain⟨g',h1,h2,h3⟩:=h;exact⟨g',h1,h2,hle.trans h3⟩
theorem IO {α β:Type} {step:α->Option (α⊕β)} {x:α} {y:β} (h:loop step x=some y):∃k,zY step k x=some y:=by
 unfold loop at h;split at h
 · exact⟨_,h⟩
 · cases h

theorem B2:∀{l:List (th×AA)} {n:th} {e:Entry},wW (zL l) n=some e->e=.gone
 | [],n,e,h=>by cases h
 | (k,.box ss)::l,n,e,h=>by
  simp only[zL,xr]at h;split at h
  · cases h;rfl
  · exact B2 h
 | (k,.keep c m)::l,n,e,h=>by
  simp only[zL,xr]at h;split at h
  · cases h;rfl
  · exact B2 h
 | (k,.root c m)::l,n,e,h=>B2 (l:=l) h
 | (k,.tree c)::l,n,e,h=>by
  simp only[zL,xr]at h;split at h
  · cases h;rfl
  · exact B2 h
theorem DR:∀{l:List (th×Cell)} {n:th} {e:Entry},wW (BC l) n=some e->e=.gone
 | [],n,e,h=>by cases h
 | (k,x)::l,n,e,h=>by
  simp only[BC]at h;split at h
  · rw[xr]at h;split at h
    · cases h;rfl
    · exact DR h
  · exact DR h
theorem MG {L:xi} {n:th} {e:Entry} (h:wW (L.mods S) n=some e):e=.gone:=by
 unfold xi.mods at h;rw[yf]at h;split at h
 · rename_i hx;cases h;exact B2 hx
 · rw[yf]at h;split at h
   · rename_i hx;cases h;exact B2 hx
   · rw[yf]at h;split at h
     · rename_i hx;cases h;cases hb:L.back with
       | none=>rw[hb]at hx;cases hx
       | some s=>rw[hb]at hx;exact B2 hx
     · exact DR h
theorem N1 {l:List (th×AA)} {n:th} (h:BV l n=true):n∈(zL l).map (·.1):=by
 induction l with
 | nil=>cases h
 | cons p l ih =>
  obtain⟨k,x⟩:=p;simp only[BV,List.any_cons,Bool.or_eq_true,aT]at h;rcases h with ⟨h1,h2⟩|h
  · obtain rfl:=Nat.eq_of_beq_eq_true h1;cases x with
    | root c m=>cases h2
    | keep c m=>simp[zL]
    | tree c=>simp[zL]
    | box ss=>simp[zL]
  · have:=ih h;cases x with
    | root c m=>exact this
    | keep c m=>exact mem_cons_of_mem _ this
    | tree c=>exact mem_cons_of_mem _ this
    | box ss=>exact mem_cons_of_mem _ this
theorem LV {l:List (th×Cell)} {p:th×Cell} {r:th} (hp:p∈l) (hr:AB p.2=some r):r∈(BC l).map (·.1):=by
 induction l with
 | nil=>simp at hp
 | cons q l ih =>
  obtain⟨k,x⟩:=q;simp only[BC];rcases mem_cons.1 hp with rfl|hp
  · simp only at hr;rw[hr];simp
  · split
    · exact mem_cons_of_mem _ (ih hp)
    · exact ih hp
theorem HN {L:xi} {n:th} (h:n∈(zL L.head.en).map (·.1)\/n∈(zL L.out.en).map (·.1)\/n∈(Mn L.back).map (·.1)\/n∈(BC (L.head.sigma S)).map (·.1)):wW (L.mods S) n≠none:=by
 rw[←Av];unfold xi.mods;simp only[map_append,mem_append];rcases h with h|h|h|h
 · exact .inl h
 · exact .inr (.inl h)
 · exact .inr (.inr (.inl h))
 · exact .inr (.inr (.inr h))
theorem L9:∀{c:Code} {t:Nat} {v:AV},(t,v)∈D2 c->v=.undef:=by
 have hf:∀(l:List (Nat×Oper)) (t:Nat) (v:AV),(t,v)∈Aa l->v=.undef:=by
  intro l
  induction l with
  | nil=>intro t v h;simp[Aa]at h
  | cons p l ih =>
   intro t v h;obtain⟨i,o⟩:=p;simp only[Aa]at h;split at h
   · rcases mem_cons.1 h with h|h
     · exact (Prod.mk.inj h).2
     · exact ih t v h
   · exact ih t v h
 intro c
 induction c with
 | region id ops draw=>intro t v h;exact hf _ t v h
 | seq x y ihx ihy=>intro t v h;exact (mem_append.1 h).elim ihx ihy
 | cond o x y ihx ihy=>intro t v h;exact (mem_append.1 h).elim ihx ihy
 | block i x ih=>intro t v h;exact ih h
 | loop x ih=>intro t v h;exact ih h
 | _=>intro t v h;simp[D2]at h
theorem C2:∀(l:List (th×AA)) (z:xc (yQ l)),(Aj l z).map (·.1)=l.map (·.1)
 | [],z=>rfl
 | (n,.root e m)::l,z=>congrArg (n :: ·) (C2 l _)
 | (n,.keep e m)::l,z=>congrArg (n :: ·) (C2 l _)
 | (n,.box ss)::l,z=>congrArg (n :: ·) (C2 l _)
 | (n,.tree e)::l,z=>congrArg (n :: ·) (C2 l _)
theorem Ir:∀(l:List (Nat×Bool×List yO)) (R:List Cs) (z:xc (D9 l R)),(AR l R z).1.map (·.1)=l.map (·.1)
 | [],R,z=>rfl
 | (t,agg,ss)::l,R,z=>congrArg (t :: ·) (Ir l R _)
theorem Hs {α:Type} {old nw:List (Nat×α)}:Jg old (nw++old)=nw:=by
 unfold Jg;rw[List.length_append,Nat.add_sub_cancel,List.take_left]
theorem La {α:Type} {l:List (Nat×α)} {n:Nat} (h:∀p∈l,p.1≠n):wW l n=none:=by
 cases hf:wW l n with
 | none=>rfl
 | some x=>exact absurd rfl (h _ (yk hf))
def xi.has (L:xi) (s:yA):Prop:=s=L.head\/s=L.out\/L.back=some s
theorem xi.has_ok {L:xi} {s:yA} {body:Code} (h:L.has s) (hk:L.okAt body S=true):s.okAt S=true:=by
 simp only[xi.okAt,aT]at hk;obtain⟨h1,h2,h3,h4⟩:=hk;rcases h with rfl|rfl|h
 · exact h1
 · exact h2
 · rw[h]at h4;exact h4
theorem xi.has_kept {L:xi} {s:yA} (h:L.has s) {n:th} (hn:BV s.en n=true):wW (L.mods S) n≠none:=by
 have:=N1 hn;rcases h with rfl|rfl|h
 · exact HN (.inl this)
 · exact HN (.inr (.inl this))
 · exact HN (.inr (.inr (.inl (by rw[h];exact this))))
theorem EV.entry {L:xi} {body:Code} (hk:L.okAt body S=true):EV S S (L.mods S) (D2 body) L.head:=by
 refine⟨λn e h=>MG h,λt v h=>L9 (yk h),λn h=>h,λn _ _=>rfl,λt _=>rfl,λn h=>xi.has_kept (.inl rfl) h,xi.has_ok (.inl rfl) hk,?_⟩;refine all_eq_true.2 λp hp=>?_;split
 · rfl
 · rename_i r hr;split
   · rfl
   · have:=HN (L:=L) (S:=S) (.inr (.inr (.inr (LV hp hr))));cases h:wW (L.mods S) r with
     | none=>exact absurd h this
     | some _=>rfl
theorem EV.behind {L:xi} {body:Code} {d:L.head.den} {s:yA} (hk:L.okAt body S=true) (hs:L.has s) (hx:D6 (L.head.over (L.base body S) d) S') (hn:L.okNew body S (L.head.over (L.base body S) d) S'=true) (hf:Go.V.freed S (L.mods S) (s.sigma S')=true) :
 EV S S' (L.mods S) (D2 body) s:=by
 obtain⟨⟨nw,hen⟩,nt,htm⟩:=hx;have hE:S'.en=nw++((L.head.st d).en++(L.mods S++S.en)):=hen
 have hT:S'.tm=nt++((L.head.st d).tm++(D2 body++S.tm)):=htm;have hk':=hk
 simp only[xi.okAt,aT]at hk';have hk1:=hk'.1
 simp only[yA.okAt,aT]at hk1;simp only[xi.okNew,aT]at hn;rw[hen,htm,Hs,Hs]at hn;refine⟨λn e h=>MG h,λt v h=>L9 (yk h),λn h=>?_,λn hm hd=>?_,λt ht=>?_,λn h=>xi.has_kept hs h,xi.has_ok hs hk,hf⟩
 · rw[hE];exact AF _ _ _ (AF _ _ _ (AF _ _ _ h))
 · rw[hE,yf,La λp hp he=>?_]
   · simp only;rw[yf];have:wW (L.head.st d).en n=none:=by
      cases hf:wW (L.head.st d).en n with
      | none=>rfl
      | some y =>
       exfalso;have h1:n∈(Aj L.head.en (AR L.head.tm (yQ L.head.en) d).2).map (·.1):=Av.2 (by rw[show wW (Aj L.head.en (AR L.head.tm (yQ L.head.en) d).2) n=some y from hf];simp)
       rw[C2]at h1;obtain⟨p,hp,rfl⟩:=mem_map.1 h1;obtain⟨k,x⟩:=p;cases x with
       | root e m=>exact hd (AW hk1.1 hp)
       | keep e m=>exact xi.has_kept (S:=S) (L:=L) (.inl rfl) (IM (Cl hk1.2.1 hp) (by simp)) hm
       | tree e=>exact xi.has_kept (S:=S) (L:=L) (.inl rfl) (IM (Cl hk1.2.1 hp) (by simp)) hm
       | box ss=>exact xi.has_kept (S:=S) (L:=L) (.inl rfl) (IM (Cl hk1.2.1 hp) (by simp)) hm
     rw[this];simp only;rw[yf,hm]
   · have:=all_eq_true.1 hn.1 p hp;rw[he]at this;split at this
     · rename_i h;exact hd h
     · rw[hm]at this;cases this
 · unfold St.tmp;rw[hT,yf,La λp hp he=>?_]
   · simp only;rw[yf];have:wW (L.head.st d).tm t=none:=by
      cases hf:wW (L.head.st d).tm t with
      | none=>rfl
      | some y =>
       exfalso;have h1:t∈(AR L.head.tm (yQ L.head.en) d).1.map (·.1):=Av.2 (by rw[show wW (AR L.head.tm (yQ L.head.en) d).1 t=some y from hf];simp)
       have h1:t∈L.head.tm.map (·.1):=(Ir L.head.tm (yQ L.head.en) d)▸h1;obtain⟨p,hp,rfl⟩:=mem_map.1 h1;have:=all_eq_true.1 hk'.2.2.1 p hp
       rw[ht]at this;cases this
     rw[this];simp only;rw[yf,ht]
   · have:=all_eq_true.1 hn.2 p hp;rw[he,ht]at this;cases this
theorem EW {A:Type} {L:xi} {body:Code} {H:St} {s:yA} {k:s.den->Option A} {r:A} (h:L.leave body S H s S' k=some r) :
 xm (s.seals S')=true/\L.okNew body S H (s.shut S')=true/\freed S (L.mods S) (s.sigma (s.shut S'))=true/\∃d,s.read (s.shut S')=some d/\k d=some r:=by
 unfold xi.leave at h;cases hc:(xm (s.seals S')&&(L.okNew body S H (s.shut S')&&freed S (L.mods S) (s.sigma (s.shut S'))))with
 | false=>rw[hc]at h;cases h
 | true =>
  rw[hc]at h;simp only[aT,cT]at hc h;cases hd:s.read (s.shut S')with
  | none=>rw[hd]at h;cases h
  | some d=>rw[hd]at h;exact⟨hc.1,hc.2.1,hc.2.2,d,rfl,h⟩
theorem K0 {s:yA} {L:xi} {body:Code} {d:s.den}:D6 S (s.over (L.base body S) d):=by
 refine⟨⟨(s.st d).en++L.mods S,?_⟩,⟨(s.st d).tm++D2 body,?_⟩⟩
 · show (s.st d).en++(L.mods S++S.en)=_;rw[append_assoc]
 · show (s.st d).tm++(D2 body++S.tm)=_;rw[append_assoc]
end Go.V
namespace Go.V
variable {P:Program} {w0:World} {T N:Nat->Prop} {S S' S1 S2:St} {g g1:Gh} {w w1 w':World} {a a':Act} {G:yU} {nt:Nat} {ann:List (Nat×xi)}

structure QD (w0:World) (T N:Nat->Prop) (nt:Nat) (S:St) (g:Gh) (w:World) {A:Type} (K:EN A) (r:A) (Q:Exit->Act->World->Prop):Prop where
 n:∀S' a' w',yp S'->D6 S S'->At w0 T N nt (dom S.en) g w S' a' w'->K.n S'=some r->Q .normal a' w'
 x:∀i S' a' w',yp S'->D6 S S'->At w0 T N nt (dom S.en) g w S' a' w'->K.x i S'=some r->Q (.exit i) a' w'
 r:∀S' a' w',yp S'->D6 S S'->At w0 T N nt (dom S.en) g w S' a' w'->K.r S'=some r->Q .ret a' w'
def CQ (P:Program) (G:yU) (ann:List (Nat×xi)) (nt:Nat) (c:Code):Prop :=
 ∀{A:Type} {w0:World} {T N:Nat->Prop} {S:St} {K:EN A} {r:A} {g:Gh} {w:World} {a:Act} {Q:Exit->Act->World->Prop},Br nt c=true->xR w0 T N S g w a->nt<=a.tmps.size->yp S->Bv G ann c S K=some r ->
  QD w0 T N nt S g w K r Q->c.wp P Q a w
theorem yh {α β:Type} (step:α->Option (α⊕β)) (k:Nat) (x:α):zY step (k+1) x=(step x).bind (Sum.elim (zY step k) some):=by
 show (step x).bind _=_
 congr 1
 funext v
 cases v<;>rfl
theorem EE {S:St}:∀{l:List yO} {xs:List Cell},xJ S.en false true (C9 S l xs)
 | [],xs=>by intro p hp;cases xs<;>simp[C9]at hp
 | s::l,[]=>by intro p hp;cases s<;>simp[C9]at hp
 | s::l,x::xs=>by
  have ih:=EE (S:=S) (l:=l) (xs:=xs);have key:∀{c:CT} {x:Cell},xJ S.en false true (C9 S (.dat c::l) (x::xs)):=by
   intro c x;cases c with
   | sl e=>cases x with
    | own r =>
     intro p hp;simp only[C9]at hp;rcases mem_append.1 hp with hp|hp
     · split at hp
       · rename_i e' m ys hr;obtain rfl:=mem_singleton.1 hp;exact .inl ⟨e',m,ys,hr,(λh=>by cases h),rfl⟩
       · simp at hp
     · exact ih p hp
    | _=>exact ih
   | _=>exact ih
  cases s with
  | dat c=>exact key
  | _=>exact ih
theorem HO {s:yA} {S:St}:xJ S.en false true (s.seals S):=by
 refine xJ.append (λp hp=>?_) (λp hp=>?_)
 · obtain⟨q,_,hp⟩:=mem_flatMap.1 hp;exact EE p hp
 · obtain⟨q,_,hp⟩:=mem_flatMap.1 hp;split at hp
   · split at hp
     · exact EE p hp
     · simp at hp
   · simp at hp
theorem Lb {en l:List (th×Entry)} {deep:Bool} (hu:xJ en deep true l) (n:th) (cs:List Cell):(n,Entry.box cs)∉l:=λh=>by
 rcases hu _ h with ⟨_,_,_,_,_,he⟩|⟨_,_,_,_,he⟩<;>cases he
def NV (en l:List (th×Entry)):Prop:=∀p∈l,∃e xs,wW en p.1=some (.root e true xs)/\p.2=.frz e xs
theorem Pz {S:St} {l:List th}:NV S.en (S.cold l):=by
 intro p hp;obtain⟨r,_,hp⟩:=mem_flatMap.1 hp;split at hp
 · rename_i e xs hn;obtain rfl:=mem_singleton.1 hp;exact⟨e,xs,hn,rfl⟩
 · simp at hp
theorem MS.coldAll {en:List (th×Entry)} (h:MS w0 T N en g w):∀{l:List (th×Entry)},NV en l->xm l=true->∃g',MS w0 T N (l++en) g' w/\Le (dom en) g w (dom (l++en)) g' w
 | [],_,_=>⟨g,h,Le.refl _ _ _⟩
 | (n,E)::l,hu,hd=>by
  obtain⟨h1,h2⟩:=yP hd;obtain⟨g1,hM,hle⟩:=h.coldAll (l:=l) (λp hp=>hu p (mem_cons_of_mem _ hp)) h2;obtain⟨e,xs,hn,he⟩:=hu (n,E) mem_cons_self;obtain rfl:E=.frz e xs:=he;obtain⟨g2,hM2,hle2,_⟩:=hM.frz (n:=n) ((xV h1).trans hn);exact⟨g2,hM2,hle.trans hle2⟩
theorem PA {c:Code} {l:List (th×Entry)} {A:Type} {K:EN A} {r:A} {Q:Exit->Act->World->Prop} {a:Act} (hI:xR w0 T N S g w a) (hcS:yp S) (hg:QD w0 T N nt S g w K r Q)
 (hm:∃g1,MS w0 T N (l++S.en) g1 w/\Le (dom S.en) g w (dom (l++S.en)) g1 w) (hnb:∀n cs,(n,Entry.box cs)∉l)
 (k:∀g1,xR w0 T N (S.more l) g1 w a->yp (S.more l)->QD w0 T N nt (S.more l) g1 w K r Q->c.wp P Q a w):c.wp P Q a w:=by
 obtain⟨g1,hM,hle⟩:=hm;have hdom:∀n,dom S.en n->dom (S.more l).en n:=λn h=>BG h
 have hI1:xR w0 T N (S.more l) g1 w a:=⟨hM.mem,hM.since,λt=>(hI.tmps t).mono hle,hI.plain⟩;have hc1:yp (S.more l):=⟨λt=>(hcS.tmp t).mono hdom,λn cs h=>by
  have h:wW (l++S.en) n=some (.box cs):=h;rw[yf]at h;split at h
  · rename_i y hy;cases h;exact absurd (yk hy) (hnb n cs)
  · exact λc hc=>(hcS.box n cs h c hc).mono hdom⟩
 have hx:D6 S (S.more l):=⟨⟨_,rfl⟩,⟨[],rfl⟩⟩;exact k g1 hI1 hc1 ⟨λS' a' w' h1 h2 h3 h4=>hg.n S' a' w' h1 (hx.trans h2) (At.trans hle h3) h4,λi S' a' w' h1 h2 h3 h4=>hg.x i S' a' w' h1 (hx.trans h2) (At.trans hle h3) h4,λS' a' w' h1 h2 h3 h4=>hg.r S' a' w' h1 (hx.trans h2) (At.trans hle h3) h4⟩
theorem NW {l:List (th×Entry)} {D:th->Prop} {H:St} (hu:xJ S'.en false true l) (hd:xm l=true) (hc:yp S') (he:D6 H S') (hat:At w0 T N nt D g w S' a' w') :
 yp (S'.more l)/\D6 H (S'.more l)/\At w0 T N nt D g w (S'.more l) a' w':=by
 obtain⟨g1,hI,hn,hle0⟩:=hat;obtain⟨g2,hM,hle,_⟩:=hI.ms.useAll hu hd;have hdom:∀n,dom S'.en n->dom (S'.more l).en n:=λn h=>BG h
 refine⟨⟨λt=>(hc.tmp t).mono hdom,λn cs h=>?_⟩,he.trans ⟨⟨_,rfl⟩,⟨[],rfl⟩⟩,g2,⟨hM.mem,hM.since,λt=>(hI.tmps t).mono hle,hI.plain⟩,hn,hle0.trans hle⟩;have h:wW (l++S'.en) n=some (.box cs):=h
 rw[yf]at h;split at h
 · rename_i y hy;cases h;exact absurd (yk hy) (Lb hu n cs)
 · exact λc hc'=>(hc.box n cs h c hc').mono hdom
theorem IP {L:xi} {body:Code} (hb:CQ P G ann nt body) (hbel:Br nt body=true) (hk:L.okAt body S=true) (hcS:yp S) {β:Type} {KX:L.head.den->Nat->St->Option (L.head.den⊕β)} {KR:L.head.den->St->Option (L.head.den⊕β)} {y:β}
 {Q:Exit->Act->World->Prop} {step:L.head.den->Option (L.head.den⊕β)}
 (hstep:∀d,step d=Bv G ann body (L.head.over (L.base body S) d) ⟨λS'=>L.leave body S (L.head.over (L.base body S) d) L.head S' λd=>some (.inl d),KX d,KR d⟩)
 (hx:∀d i S' a' w' v,yp S'->D6 (L.head.over (L.base body S) d) S'->At w0 T N nt (dom S.en) g w S' a' w'->KX d i S'=some v->(∀d',v≠.inl d')/\(v=.inr y->Q (.exit i) a' w'))
 (hr:∀d S' a' w' v,yp S'->D6 (L.head.over (L.base body S) d) S'->At w0 T N nt (dom S.en) g w S' a' w'->KR d S'=some v->(∀d',v≠.inl d')/\(v=.inr y->Q .ret a' w'))
 (hkx:True):∀(k:Nat) (d:L.head.den) (a':Act) (w':World),zY step k d=some y->yp (L.head.over (L.base body S) d)->At w0 T N nt (dom S.en) g w (L.head.over (L.base body S) d) a' w'->Code.rounds P body Q k a' w'
 | 0,d,a',w',h,_,_=>by cases h
 | k+1,d,a',w',h,hc,hat=>by
  rw[yh]at h;rw[Option.bind_eq_some_iff]at h;obtain⟨v,hv,hgo⟩:=h;rw[hstep]at hv;obtain⟨g1,hI,hn,hle⟩:=hat;rw[rounds_succ];refine hb hbel hI hn hc hv ⟨λS' a2 w2 hc' he hat' hkn=>?_,λi S' a2 w2 hc' he hat' hkx=>?_,λS' a2 w2 hc' he hat' hkr=>?_⟩
  · obtain⟨hd1,hn1,hf1,d',hd',hinl⟩:=EW hkn;cases hinl;obtain⟨_,he,g2,hI2,hn2,hle2⟩:=NW HO hd1 hc' he hat';have hT:=EV.behind hk (.inl rfl) he hn1 hf1
    obtain⟨g3,k1,k2,k3⟩:=HM hI2 hcS hT hd';refine IP hb hbel hk hcS hstep hx hr hkx k d' a2 w2 hgo k3 ⟨g3,k1,hn2,?_⟩;have hle3:=hle.trans hle2
    exact⟨k2.dom,λn hn=>(k2.loc n hn).trans (hle3.loc n hn),λn hn=>(k2.esz n hn).trans (hle3.esz n hn),λb hb=>k2.imm b (hle3.imm b hb),hle3.mem,λn hn=>(k2.rows n hn).trans (hle3.rows n hn)⟩
  · obtain⟨h1,h2⟩:=hx d i S' a2 w2 v hc' he (At.trans hle hat') hkx;cases v with
    | inl d'=>exact absurd rfl (h1 d')
    | inr b=>cases hgo;exact h2 rfl
  · obtain⟨h1,h2⟩:=hr d S' a2 w2 v hc' he (At.trans hle hat') hkr;cases v with
    | inl d'=>exact absurd rfl (h1 d')
    | inr b=>cases hgo;exact h2 rfl
theorem LW {L:xi} {body:Code} {s:yA} {d:L.head.den} {d':s.den} (hk:L.okAt body S=true) (hs:L.has s) (hcS:yp S) (hc':yp S') (he:D6 (L.head.over (L.base body S) d) S') (hat:At w0 T N nt (dom S.en) g w S' a' w')
 (h0:xm (s.seals S')=true) (h1:L.okNew body S (L.head.over (L.base body S) d) (s.shut S')=true) (h2:freed S (L.mods S) (s.sigma (s.shut S'))=true) (h3:s.read (s.shut S')=some d') :
 yp (s.over (L.base body S) d')/\At w0 T N nt (dom S.en) g w (s.over (L.base body S) d') a' w':=by
 obtain⟨_,he,g2,hI2,hn2,hle2⟩:=NW HO h0 hc' he hat;obtain⟨g3,k1,k2,k3⟩:=HM hI2 hcS (EV.behind hk hs he h1 h2) h3;exact⟨k3,g3,k1,hn2,⟨k2.dom,λn hn=>(k2.loc n hn).trans (hle2.loc n hn),λn hn=>(k2.esz n hn).trans (hle2.esz n hn),λb hb=>k2.imm b (hle2.imm b hb),hle2.mem,λn hn=>(k2.rows n hn).trans (hle2.rows n hn)⟩⟩
theorem QE {A:Type} {id:Nat} {b:Code} {S:St} {K:EN A} (h:∀c,b≠.loop c):Bv G ann (.block id b) S K=Bv G ann b S ⟨K.n,λi S'=>cond (Nat.beq i id) (K.n S') (K.x i S'),K.r⟩:=by
 cases b with
 | loop c=>exact absurd rfl (h c)
 | _=>rfl
theorem Dg {id:Nat} {b:Code} (hb:CQ P G ann nt b) (h:∀c,b≠.loop c):CQ P G ann nt (.block id b):=by
 intro A w0 T N S K r g w a Q hbel hI hn hc hr hg;rw[QE h]at hr;refine wp_block (hb hbel hI hn hc hr ⟨hg.n,λi S' a' w' hc' he hat hk=>?_,hg.r⟩);show if i=id then Q .normal a' w' else Q (.exit i) a' w'
 have hk:cond (Nat.beq i id) (K.n S') (K.x i S')=some r:=hk;by_cases hid:i=id
 · subst hid;rw[show Nat.beq i i=true from Nat.beq_refl i]at hk;rw[if_pos rfl];exact hg.n S' a' w' hc' he hat hk
 · have hb:Nat.beq i id=false:=by cases hbb:Nat.beq i id with
    | false=>rfl
    | true=>exact absurd (Nat.eq_of_beq_eq_true hbb) hid
   rw[hb]at hk;rw[if_neg hid];exact hg.x i S' a' w' hc' he hat hk
theorem Te {id:Nat} {body:Code} (hb:CQ P G ann nt body) {A:Type} {w0:World} {T N:Nat->Prop} {S:St} {K:EN A} {r:A} {g:Gh} {w:World} {a:Act} {Q:Exit->Act->World->Prop} (hbel:Br nt body=true) (hI:xR w0 T N S g w a) (hn:nt<=a.tmps.size) (hcS:yp S)
 (hr:JT ann id body (λS K=>Bv G ann body S K) S K=some r) (hg:QD w0 T N nt S g w K r Q):(Code.block id (.loop body)).wp P Q a w:=by
 cases hL:wW ann id with
 | none =>
  have hr:(match wW ann id with|none=>none|some L=>_:Option A)=some r:=hr;rw[hL]at hr;cases hr
 | some L =>
  obtain⟨head,out,bk⟩:=L;cases bk with
  | none =>
   have hr:(match wW ann id with
    | none=>none
    | some L=>cond (L.okAt body S) (match L.head.read S with
     | none=>none
     | some d=>match L with
      | ⟨head,out,none⟩=>(loop (λd:head.den=>let H:=head.over (xi.base ⟨head,out,none⟩ body S) d
       Bv G ann body H ⟨λS'=>xi.leave ⟨head,out,none⟩ body S H head S' λd=>some (.inl d),
        λi S'=>cond (Nat.beq i id) (xi.leave ⟨head,out,none⟩ body S H out S' λd=>some (.inr d)) none,λ_=>none⟩) d).bind
       λd=>K.n (out.over (xi.base ⟨head,out,none⟩ body S) d)
      | ⟨head,out,some back⟩=>_) none:Option A)=some r:=hr
   rw[hL]at hr;simp only at hr;cases hk:xi.okAt ⟨head,out,none⟩ body S with
   | false=>rw[hk]at hr;cases hr
   | true =>
    rw[hk]at hr;simp only[cT]at hr;cases hd:head.read S with
    | none=>rw[hd]at hr;cases hr
    | some d0 =>
     rw[hd]at hr;simp only at hr;rw[Option.bind_eq_some_iff]at hr;obtain⟨y,hy,hend⟩:=hr;obtain⟨k,hit⟩:=IO hy;obtain⟨g3,k1,k2,k3⟩:=HM hI hcS (EV.entry hk) hd;refine wp_block (wp_loop_rounds k (IP (L:=⟨head,out,none⟩) hb hbel hk hcS (w0:=w0) (T:=T) (N:=N) (g:=g) (w:=w) (β:=out.den) (KX:=λd i S'=>cond (Nat.beq i id) (xi.leave ⟨head,out,none⟩ body S (head.over (xi.base ⟨head,out,none⟩ body S) d) out S' λd=>some (.inr d)) none) (KR:=λ_ _=>none) (λd=>rfl) (λd i S' a' w' v hc' he hat hkx=>?_) (λd S' a' w' v hc' he hat hkr=>by cases hkr) trivial k d0 a w hit k3 ⟨g3,k1,hn,k2⟩));have hkx:cond (Nat.beq i id) (xi.leave ⟨head,out,none⟩ body S (head.over (xi.base ⟨head,out,none⟩ body S) d) out S' λd=>some (.inr d)) none=some v:=hkx
     cases hid:Nat.beq i id with
     | false=>rw[hid]at hkx;cases hkx
     | true =>
      have hkx':xi.leave ⟨head,out,none⟩ body S (head.over (xi.base ⟨head,out,none⟩ body S) d) out S' (λd=>some (.inr d))=some v:=by rw[hid]at hkx;exact hkx
      obtain rfl:=Nat.eq_of_beq_eq_true hid;obtain⟨e0,e1,e2,d',e3,e4⟩:=EW (L:=⟨head,out,none⟩) hkx';cases e4;refine⟨(λd h=>by cases h),λhv=>?_⟩;cases hv;obtain⟨f1,f2⟩:=LW (L:=⟨head,out,none⟩) hk (.inr (.inl rfl)) hcS hc' he hat e0 e1 e2 e3;show if i=i then Q .normal a' w' else _
      rw[if_pos rfl];exact hg.n _ a' w' f1 K0 f2 hend
  | some back =>
   have hr:(match wW ann id with
    | none=>none
    | some L=>cond (L.okAt body S) (match L.head.read S with
     | none=>none
     | some d=>match L with
      | ⟨head,out,none⟩=>_
      | ⟨head,out,some back⟩=>(loop (β:=out.den⊕back.den) (λd:head.den=>let H:=head.over (xi.base ⟨head,out,some back⟩ body S) d
       Bv G ann body H ⟨λS'=>xi.leave ⟨head,out,some back⟩ body S H head S' λd=>some (.inl d),
        λi S'=>cond (Nat.beq i id) (xi.leave ⟨head,out,some back⟩ body S H out S' λd=>some (.inr (.inl d))) none,
        λS'=>xi.leave ⟨head,out,some back⟩ body S H back S' λd=>some (.inr (.inr d))⟩) d).bind
       (Sum.elim (λd=>K.n (out.over (xi.base ⟨head,out,some back⟩ body S) d)) (λd=>K.r (back.over (xi.base ⟨head,out,some back⟩ body S) d)))) none:Option A)=some r:=hr
   rw[hL]at hr;simp only at hr;cases hk:xi.okAt ⟨head,out,some back⟩ body S with
   | false=>rw[hk]at hr;cases hr
   | true =>
    rw[hk]at hr;simp only[cT]at hr;cases hd:head.read S with
    | none=>rw[hd]at hr;cases hr
    | some d0 =>
     rw[hd]at hr;simp only at hr;rw[Option.bind_eq_some_iff]at hr;obtain⟨y,hy,hend⟩:=hr;obtain⟨k,hit⟩:=IO hy;obtain⟨g3,k1,k2,k3⟩:=HM hI hcS (EV.entry hk) hd;refine wp_block (wp_loop_rounds k (IP (L:=⟨head,out,some back⟩) hb hbel hk hcS (w0:=w0) (T:=T) (N:=N) (g:=g) (w:=w) (β:=out.den⊕back.den) (KX:=λd i S'=>cond (Nat.beq i id) (xi.leave ⟨head,out,some back⟩ body S (head.over (xi.base ⟨head,out,some back⟩ body S) d) out S' λd=>some (Sum.inr (Sum.inl d))) none) (KR:=λd S'=>xi.leave ⟨head,out,some back⟩ body S (head.over (xi.base ⟨head,out,some back⟩ body S) d) back S' λd=>some (Sum.inr (Sum.inr d))) (λd=>rfl) (λd i S' a' w' v hc' he hat hkx=>?_) (λd S' a' w' v hc' he hat hkr=>?_) trivial k d0 a w hit k3 ⟨g3,k1,hn,k2⟩))
     · have hkx:cond (Nat.beq i id) (xi.leave ⟨head,out,some back⟩ body S (head.over (xi.base ⟨head,out,some back⟩ body S) d) out S' λd=>some (.inr (.inl d))) none=some v:=hkx;cases hid:Nat.beq i id with
       | false=>rw[hid]at hkx;cases hkx
       | true =>
        have hkx':xi.leave ⟨head,out,some back⟩ body S (head.over (xi.base ⟨head,out,some back⟩ body S) d) out S' (λd=>some (Sum.inr (Sum.inl d)))=some v:=by rw[hid]at hkx;exact hkx
        obtain rfl:=Nat.eq_of_beq_eq_true hid;obtain⟨e0,e1,e2,d',e3,e4⟩:=EW (L:=⟨head,out,some back⟩) hkx';cases e4;refine⟨(λd h=>by cases h),λhv=>?_⟩;cases hv;obtain⟨f1,f2⟩:=LW (L:=⟨head,out,some back⟩) hk (.inr (.inl rfl)) hcS hc' he hat e0 e1 e2 e3;show if i=i then Q .normal a' w' else _
        rw[if_pos rfl];exact hg.n _ a' w' f1 K0 f2 hend
     · obtain⟨e0,e1,e2,d',e3,e4⟩:=EW (L:=⟨head,out,some back⟩) hkr;cases e4;refine⟨(λd h=>by cases h),λhv=>?_⟩;cases hv;obtain⟨f1,f2⟩:=LW (L:=⟨head,out,some back⟩) hk (.inr (.inr rfl)) hcS hc' he hat e0 e1 e2 e3;exact hg.r _ a' w' f1 K0 f2 hend
theorem QF {S:St} {id:Nat}:xJ S.en false true (G6 ann id S):=by
 unfold G6;split
 · exact HO
 · intro p hp;simp at hp
theorem NX {S:St} {id:Nat}:NV S.en (CL ann id S):=by
 unfold CL;split
 · exact Pz
 · intro p hp;simp at hp
theorem UF {id:Nat} {body:Code} (hb:CQ P G ann nt body):CQ P G ann nt (.block id (.loop body)):=by
 intro A w0 T N S K r g w a Q hbel hI hn hcS hr hg;have hr:cond (xm (CL ann id S)) (cond (xm (G6 ann id (S.more (CL ann id S)))) (JT ann id body (λS K=>Bv G ann body S K) ((S.more (CL ann id S)).more (G6 ann id (S.more (CL ann id S)))) K) none) none=some r:=hr
 cases hd0:xm (CL ann id S)with
 | false=>rw[hd0]at hr;cases hr
 | true =>
 rw[hd0,cT]at hr;generalize hS1:S.more (CL ann id S)=S1 at hr;refine PA (l:=CL ann id S) hI hcS hg (hI.ms.coldAll NX hd0) (λn cs h=>by obtain⟨_,_,_,he⟩:=NX _ h;cases he) λg1 hI1 hc1 hg1=>?_;rw[hS1]at hI1 hc1 hg1;cases hd:xm (G6 ann id S1)with
 | false=>rw[hd]at hr;cases hr
 | true =>
  rw[hd,cT]at hr;have hu:=QF (ann:=ann) (S:=S1) (id:=id)
  obtain⟨g2,hM,hle,_⟩:=hI1.ms.useAll hu hd;refine PA (l:=G6 ann id S1) hI1 hc1 hg1 ⟨g2,hM,hle⟩ (Lb hu) λg3 hI3 hc3 hg3=>?_;exact Te hb hbel hI3 hn hc3 hr hg3

theorem VQ {x y:Code} (hx:CQ P G ann nt x) (hy:CQ P G ann nt y):CQ P G ann nt (.seq x y):=by
 intro A w0 T N S K r g w a Q hb hI hn hc hr hg;have hb:(Br nt x&&Br nt y)=true:=hb
 rw[aT]at hb;have hr:Bv G ann x S ⟨λS'=>Bv G ann y S' K,K.x,K.r⟩=some r:=hr
 refine wp_seq (hx hb.1 hI hn hc hr ⟨λS1 a1 w1 hc1 he1 hat1 hk1=>?_,λi S1 a1 w1 hc1 he1 hat1 hk1=>hg.x i S1 a1 w1 hc1 he1 hat1 hk1,λS1 a1 w1 hc1 he1 hat1 hk1=>hg.r S1 a1 w1 hc1 he1 hat1 hk1⟩);obtain⟨g1,hI1,hn1,hle1⟩:=hat1;exact hy hb.2 hI1 hn1 hc1 hk1 ⟨λS2 a2 w2 hc2 he2 hat2 hk2=>hg.n S2 a2 w2 hc2 (he1.trans he2) (At.trans hle1 hat2) hk2,
  λi S2 a2 w2 hc2 he2 hat2 hk2=>hg.x i S2 a2 w2 hc2 (he1.trans he2) (At.trans hle1 hat2) hk2,
  λS2 a2 w2 hc2 he2 hat2 hk2=>hg.r S2 a2 w2 hc2 (he1.trans he2) (At.trans hle1 hat2) hk2⟩
theorem UG {c:Operand} {x y:Code} (hx:CQ P G ann nt x) (hy:CQ P G ann nt y):CQ P G ann nt (.cond c x y):=by
 intro A w0 T N S K r g w a Q hb hI hn hc hr hg;have hb:(Br nt x&&Br nt y)=true:=hb
 rw[aT]at hb;have hr:(match S.eval c with | .cell (.bool t)=>cond t (Bv G ann x S K) (Bv G ann y S K)|_=>none:Option A)=some r:=hr
 split at hr
 · rename_i t he;have hv:a.eval c=.bool t:=Do hI he
   refine wp_cond hv ?_;cases t with
   | true=>exact hx hb.1 hI hn hc hr hg
   | false=>exact hy hb.2 hI hn hc hr hg
 · cases hr
theorem AX (hG:zS P G) (hm:P.follows .mixedOrders=true):∀c,CQ P G ann nt c
 | .skip=>λ_ hI hn hc hr hg=>wp_skip (hg.n _ _ _ hc (D6.refl _) ⟨_,hI,hn,Le.refl _ _ _⟩ hr)
 | .region id ops draw=>λhb hI hn hc hr hg=>RM hG hm hb hI hn hc hr λS' a' w' hc' he hat hk=>hg.n S' a' w' hc' he hat hk
 | .seq x y=>VQ (AX hG hm x) (AX hG hm y)
 | .cond c x y=>UG (AX hG hm x) (AX hG hm y)
 | .block id (.loop body)=>UF (AX hG hm body)
 | .block id .skip=>Dg (AX hG hm .skip) (λc h=>by cases h)
 | .block id (.region i o d)=>Dg (AX hG hm (.region i o d)) (λc h=>by cases h)
 | .block id (.seq x y)=>Dg (AX hG hm (.seq x y)) (λc h=>by cases h)
 | .block id (.cond c x y)=>Dg (AX hG hm (.cond c x y)) (λc h=>by cases h)
 | .block id (.block i x)=>Dg (AX hG hm (.block i x)) (λc h=>by cases h)
 | .block id (.exit i)=>Dg (AX hG hm (.exit i)) (λc h=>by cases h)
 | .block id .ret=>Dg (AX hG hm .ret) (λc h=>by cases h)
 | .block id (.scope x)=>λ_ _ _ _ hr _=>by cases hr
 | .block id (.label l)=>λ_ _ _ _ hr _=>by cases hr
 | .block id (.goto l)=>λ_ _ _ _ hr _=>by cases hr
 | .exit id=>λ_ hI hn hc hr hg=>wp_exit (hg.x id _ _ _ hc (D6.refl _) ⟨_,hI,hn,Le.refl _ _ _⟩ hr)
 | .ret=>λ_ hI hn hc hr hg=>wp_ret (hg.r _ _ _ hc (D6.refl _) ⟨_,hI,hn,Le.refl _ _ _⟩ hr)
 | .loop _=>λ_ _ _ _ hr _=>by cases hr
 | .scope _=>λ_ _ _ _ hr _=>by cases hr
 | .label _=>λ_ _ _ _ hr _=>by cases hr
 | .goto _=>λ_ _ _ _ hr _=>by cases hr
 | .block id (.rangeFunc ..)=>λ_ _ _ _ hr _=>by cases hr
 | .block id (.refuse ..)=>λ_ _ _ _ hr _=>by cases hr
 | .rangeFunc ..=>λ_ _ _ _ hr _=>by cases hr
 | .refuse ..=>λ_ _ _ _ hr _=>by cases hr
end Go.V
namespace Go.V
variable {w0:World} {T N:Nat->Prop} {en en':List (th×Entry)} {g g':Gh} {w:World}

def CT.Gifts (I:Nat->Prop) (w:World):(c:CT)->c.den->Value->List Nat->List Nat->Prop
 | .sl e,xs,v,ts,ns=>∃tp:Option Nat,ts=tp.toList/\zw w e xs v tp ns/\∀b∈ns,I b
 | c,x,v,ts,ns=>ts=[]/\ns=[]/\CT.Rep w c x v []
def Cs.Gifts (I:Nat->Prop) (w:World):(e:Cs)->e.den->List Value->List Nat->List Nat->Prop
 | .one c,x,vs,ts,ns=>∃v,vs=[v]/\CT.Gifts I w c x v ts ns
 | .cons c r,x,vs,ts,ns=>∃v vs' t1 t2 n1 n2,vs=v::vs'/\ts=t1++t2/\ns=n1++n2/\CT.Gifts I w c x.1 v t1 n1/\Cs.Gifts I w r x.2 vs' t2 n2
structure zx (w0:World) (T N:Nat->Prop) (en:List (th×Entry)) (g:Gh) (ts ns:List Nat):Prop where
 t1:DL ts
 n1:DL ns
 tf:∀b∈ts,¬g.I b/\(∀m f,wW en m=some f->f.alive=true->g.top m≠some b)/\(w0.heap.size<=b\/T b)
 nf:∀b∈ns,(∀m f,wW en m=some f->f.deep=true->b∉g.nest m)/\(w0.heap.size<=b\/T b\/N b)
 tw:∀b∈ts,∀m f,wW en m=some f->f.isTree=true->b∉g.nest m
theorem DS {l m:List Nat} {b:Nat} (h:l.count b<=m.count b) (hb:b∈l):b∈m:=by
 have:=count_pos_iff.2 hb;exact count_pos_iff.1 (by omega)
theorem zx.mono {ts ns ts' ns':List Nat} (h:zx w0 T N en g ts ns) (ht:∀b,ts'.count b<=ts.count b) (hn:∀b,ns'.count b<=ns.count b):zx w0 T N en g ts' ns' :=
 ⟨λb=>Nat.le_trans (ht b) (h.t1 b),λb=>Nat.le_trans (hn b) (h.n1 b),λb hb=>h.tf b (DS (ht b) hb),λb hb=>h.nf b (DS (hn b) hb),λb hb=>h.tw b (DS (ht b) hb)⟩
structure zk (w0:World) (T N:Nat->Prop) (en:List (th×Entry)) (g:Gh) (w:World) (new:List (th×Entry)) (g':Gh) (ts ns:List Nat):Prop where
 ms:MS w0 T N (new++en) g' w
 le:Le (dom en) g w (dom (new++en)) g' w
 imm:g'.I=g.I
 giv:zx w0 T N (new++en) g' ts ns
theorem zk.refl (h:MS w0 T N en g w) {ts ns:List Nat} (hv:zx w0 T N en g ts ns):zk w0 T N en g w [] g ts ns:=⟨h,Le.refl _ _ _,rfl,hv⟩
theorem CT.give_put (h:MS w0 T N en g w) {mm:Bool} {c:CT} {x:c.den} {v:Value} {ts ns ts' ns':List Nat} {n:th} (hg:CT.Gifts g.I w c x v ts ns) (hv:zx w0 T N en g (ts++ts') (cond mm ns []++ns')) (hn:wW en n=none) :
 ∃g',zk w0 T N en g w (c.give mm n x).2 g' ts' ns'/\xd (dom ((c.give mm n x).2++en)) g' w (c.give mm n x).1 v:=by
 have hmono:zx w0 T N en g ts' ns':=hv.mono (λb=>by rw[count_append];omega) (λb=>by rw[count_append];omega);cases c with
 | sl e =>
  obtain⟨tp,rfl,hrep,hI⟩:=hg;have hnd:mm=true->ns.Nodup:=by rintro rfl;rw[←yC];intro b;have:=hv.n1 b;rw[cT,count_append]at this;omega
  have hi1:(g.set n ⟨v,e.len,tp,ns⟩).top n=tp:=by simp[Gh.set]
  have hi2:(g.set n ⟨v,e.len,tp,ns⟩).nest n=ns:=by simp[Gh.set]
  have ho1:∀m,m≠n->(g.set n ⟨v,e.len,tp,ns⟩).top m=g.top m:=λm hm=>by simp[Gh.set,hm]
  have ho2:∀m,m≠n->(g.set n ⟨v,e.len,tp,ns⟩).nest m=g.nest m:=λm hm=>by simp[Gh.set,hm]
  obtain⟨hM,hle⟩:=h.put (n:=n) (e:=.root e mm x) (i:=⟨v,e.len,tp,ns⟩) (λhd=>absurd hn hd) (JM hrep)
   ⟨by simp[Gh.set],by rw[hi1,hi2];show zw w e x (if n=n then v else g.loc n) tp ns;rw[if_pos rfl];exact hrep,by rw[hi2];exact hI,λhm=>by rw[hi2];exact hnd hm⟩
   (λ_ b hb=>by
    obtain⟨k1,k2,k3⟩:=hv.tf b (mem_append_left _ (by simpa using hb));exact⟨k1,λm f _ hm ha=>k2 m f hm ha,k3,λm f _ hm ht=>hv.tw b (mem_append_left _ (by simpa using hb)) m f hm ht⟩)
   (λhdp b hb=>by
    obtain rfl:mm=true:=hdp;obtain⟨k1,k2⟩:=hv.nf b (mem_append_left _ hb);exact⟨λm f _ hm hd=>k1 m f hm hd,k2⟩)
  refine⟨_,⟨hM,hle,rfl,hmono.t1,hmono.n1,λb hb=>?_,λb hb=>?_,λb hb m f hm ht=>?_⟩,yz.2 (.inl rfl),?_⟩
  rotate_left 2
  · have hmn:m≠n:=λe=>by
     subst e;have hm:wW ((m,Entry.root _ mm x)::en) m=some f:=hm
     rw[Ab]at hm;cases hm;cases ht
    rw[ho2 m hmn];exact hmono.tw b hb m f (by simpa[CT.give,yb (Ne.symm hmn)]using hm) ht
  rotate_left
  · obtain⟨k1,k2,k3⟩:=hmono.tf b hb;refine⟨k1,λm f hm ha=>?_,k3⟩;by_cases hmn:m=n
    · subst hmn;rw[hi1];intro htp;have:=hv.t1 b
      rw[count_append,htp]at this;have h2:=count_pos_iff.2 hb
      simp at this;omega
    · rw[ho1 m hmn];exact k2 m f (by simpa[CT.give,yb (Ne.symm hmn)]using hm) ha
  · obtain⟨k1,k2⟩:=hmono.nf b hb;refine⟨λm f hm hd=>?_,k2⟩;by_cases hmn:m=n
    · subst hmn;obtain rfl:mm=true:=by
       have hm:wW ((m,Entry.root _ mm x)::en) m=some f:=hm;rw[Ab]at hm;cases hm;exact hd
      rw[hi2];intro hbn;have:=hv.n1 b
      rw[cT,count_append]at this;have h2:=count_pos_iff.2 hb
      have h3:=count_pos_iff.2 hbn;omega
    · rw[ho2 m hmn];exact k1 m f (by simpa[CT.give,yb (Ne.symm hmn)]using hm) hd
  · show v=(if n=n then v else g.loc n);rw[if_pos rfl]
 | int k=>obtain⟨rfl,rfl,hr⟩:=hg;exact⟨g,zk.refl h hmono,CT.cell_rep (c:=.int k) hr (by simp)⟩
 | bool=>obtain⟨rfl,rfl,hr⟩:=hg;exact⟨g,zk.refl h hmono,CT.cell_rep (c:=.bool) hr (by simp)⟩
 | str=>obtain⟨rfl,rfl,hr⟩:=hg;exact⟨g,zk.refl h hmono,CT.cell_rep (c:=.str) hr (by simp)⟩
 | err=>obtain⟨rfl,rfl,hr⟩:=hg;exact⟨g,zk.refl h hmono,CT.cell_rep (c:=.err) hr (by simp)⟩
theorem zk.trans {new new':List (th×Entry)} {g1 g2:Gh} {ts ns ts' ns':List Nat} (h:zk w0 T N en g w new g1 ts ns) (k:zk w0 T N (new++en) g1 w new' g2 ts' ns'):zk w0 T N en g w (new'++new) g2 ts' ns':=by
 have e:new'++new++en=new'++(new++en):=append_assoc _ _ _;exact⟨by rw[e];exact k.ms,by rw[e];exact h.le.trans k.le,k.imm.trans h.imm,by rw[e];exact k.giv⟩
theorem CT.give_name {mm:Bool} {n:th} {c:CT} {x:c.den}:∀p∈(c.give mm n x).2,p.1=n:=by cases c<;>simp[CT.give]
theorem Cs.Gifts.imm {I I':Nat->Prop} (hI:∀b,I b->I' b):{c:Cs}->{x:c.den}->{vs:List Value}->{ts ns:List Nat}->Cs.Gifts I w c x vs ts ns->Cs.Gifts I' w c x vs ts ns:=by
 have hc:∀{c:CT} {x:c.den} {v:Value} {ts ns:List Nat},CT.Gifts I w c x v ts ns->CT.Gifts I' w c x v ts ns:=by
  intro c x v ts ns h;cases c with
  | sl e=>obtain⟨tp,h1,h2,h3⟩:=h;exact⟨tp,h1,h2,λb hb=>hI b (h3 b hb)⟩
  | _=>exact h
 intro c
 induction c using Cs.rec (motive_1:=λ_=>True)with
 | one c _=>intro x vs ts ns h;obtain⟨v,h1,h2⟩:=h;exact⟨v,h1,hc h2⟩
 | cons c r _ ih=>intro x vs ts ns h;obtain⟨v,vs',t1,t2,n1,n2,h1,h2,h3,h4,h5⟩:=h;exact⟨v,vs',t1,t2,n1,n2,h1,h2,h3,hc h4,ih h5⟩
 | _=>trivial
theorem Cs.give_put {mm:Bool}:{c:Cs}->{x:c.den}->{vs:List Value}->{ts ns ts' ns':List Nat}->{n:th}->{en:List (th×Entry)}->{g:Gh}->(h:MS w0 T N en g w)->(hg:Cs.Gifts g.I w c x vs ts ns)->(hv:zx w0 T N en g (ts++ts') (cond mm ns []++ns')) ->
 (hn:∀p∈(Cs.give mm n c x).2,wW en p.1=none)->(hd:xm (Cs.give mm n c x).2=true)->∃g',zk w0 T N en g w (Cs.give mm n c x).2 g' ts' ns'/\xn (xd (dom ((Cs.give mm n c x).2++en)) g' w) (Cs.give mm n c x).1 vs
 | .one c,x,vs,ts,ns,ts',ns',n,en,g,h,hg,hv,hn,hd=>by
  obtain⟨v,rfl,hg⟩:=hg;cases hs:(c.give mm n x).2 with
  | nil =>
   cases c with
   | sl e=>simp[CT.give]at hs
   | int k=>obtain⟨rfl,rfl,hr⟩:=hg;exact⟨g,zk.refl h (by cases mm<;>simpa using hv),CT.cell_rep (c:=.int k) hr (by simp),trivial⟩
   | bool=>obtain⟨rfl,rfl,hr⟩:=hg;exact⟨g,zk.refl h (by cases mm<;>simpa using hv),CT.cell_rep (c:=.bool) hr (by simp),trivial⟩
   | str=>obtain⟨rfl,rfl,hr⟩:=hg;exact⟨g,zk.refl h (by cases mm<;>simpa using hv),CT.cell_rep (c:=.str) hr (by simp),trivial⟩
   | err=>obtain⟨rfl,rfl,hr⟩:=hg;exact⟨g,zk.refl h (by cases mm<;>simpa using hv),CT.cell_rep (c:=.err) hr (by simp),trivial⟩
  | cons p l =>
   have hp:wW en n=none:=by
    have h1:=hn p (by show p∈(c.give mm n x).2;rw[hs];simp);have h2:=CT.give_name (mm:=mm) (n:=n) (c:=c) (x:=x) p (by rw[hs];simp)
    rw[←h2];exact h1
   obtain⟨g',k1,k2⟩:=CT.give_put h hg hv hp;exact⟨g',k1,k2,trivial⟩
 | .cons c r,x,vs,ts,ns,ts',ns',n,en,g,h,hg,hv,hn,hd=>by
  obtain⟨v,vs',t1,t2,n1,n2,rfl,rfl,rfl,hg1,hg2⟩:=hg;obtain⟨d1,d2,d3⟩:=yw (l:=(c.give mm n x.1).2) (m:=(Cs.give mm (n+1) r x.2).2) hd;obtain⟨g1,k1,k2⟩:=Cs.give_put (n:=n+1) (ts':=t1++ts') (ns':=cond mm n1 []++ns') h hg2 (hv.mono (λb=>by simp only[count_append];omega) (λb=>by cases mm<;>simp only[cT,cF,List.nil_append,count_append]<;>omega)) (λp hp=>hn p (mem_append_right _ hp)) d2;have hg1':CT.Gifts g1.I w c x.1 v t1 n1:=by rw[k1.imm];exact hg1
  cases hs:(c.give mm n x.1).2 with
  | nil =>
   have e:(Cs.give mm n (.cons c r) x).2=(Cs.give mm (n+1) r x.2).2:=by show (c.give mm n x.1).2++_=_;rw[hs];rfl
   have hsc:t1=[]/\n1=[]/\xd (dom ((Cs.give mm (n+1) r x.2).2++en)) g1 w (c.give mm n x.1).1 v:=by
    cases c with
    | sl e=>simp[CT.give]at hs
    | int k=>obtain⟨rfl,rfl,hr⟩:=hg1;exact⟨rfl,rfl,CT.cell_rep (c:=.int k) hr (by simp)⟩
    | bool=>obtain⟨rfl,rfl,hr⟩:=hg1;exact⟨rfl,rfl,CT.cell_rep (c:=.bool) hr (by simp)⟩
    | str=>obtain⟨rfl,rfl,hr⟩:=hg1;exact⟨rfl,rfl,CT.cell_rep (c:=.str) hr (by simp)⟩
    | err=>obtain⟨rfl,rfl,hr⟩:=hg1;exact⟨rfl,rfl,CT.cell_rep (c:=.err) hr (by simp)⟩
   obtain⟨rfl,rfl,hcr⟩:=hsc;rw[e];exact⟨g1,by cases mm<;>simpa using k1,hcr,k2⟩
  | cons p l =>
   have hpn:=CT.give_name (mm:=mm) (n:=n) (c:=c) (x:=x.1) p (by rw[hs];simp);have hp:wW ((Cs.give mm (n+1) r x.2).2++en) n=none:=by
    rw[xV]
    · rw[←hpn];exact hn p (mem_append_left _ (by rw[hs];simp))
    · intro hm;exact d3 p.1 (mem_map_of_mem (by rw[hs];simp)) (hpn.symm▸hm)
   obtain⟨g2,k3,k4⟩:=CT.give_put k1.ms hg1' k1.giv hp;have e:(Cs.give mm n (.cons c r) x).2++en=(c.give mm n x.1).2++((Cs.give mm (n+1) r x.2).2++en):=append_assoc _ _ _
   refine⟨g2,k1.trans k3,?_,?_⟩
   · rw[e];exact k4
   · rw[e];exact xn.imp (λ_ _=>xd.mono k3.le) k2
theorem CT.giveF_put (h:MS w0 T N en g w) {c:CT} {x:c.den} {v:Value} {F ts' ns':List Nat} {n:th} (hg:CT.Rep w c x v F) (hI:∀b∈F,g.I b) (hv:zx w0 T N en g ts' (F++ns')) (hn:wW en n=none) :
 ∃g',zk w0 T N en g w (c.giveF n x).2 g' ts' ns'/\xd (dom ((c.giveF n x).2++en)) g' w (c.giveF n x).1 v:=by
 have hmono:zx w0 T N en g ts' ns':=hv.mono (λb=>Nat.le_refl _) (λb=>by rw[count_append];omega);cases c with
 | sl e =>
  have hnd:F.Nodup:=by rw[←yC];intro b;have:=hv.n1 b;rw[count_append]at this;omega
  have hi1:(g.set n ⟨v,e.len,none,F⟩).top n=none:=by simp[Gh.set]
  have hi2:(g.set n ⟨v,e.len,none,F⟩).nest n=F:=by simp[Gh.set]
  have ho1:∀m,m≠n->(g.set n ⟨v,e.len,none,F⟩).top m=g.top m:=λm hm=>by simp[Gh.set,hm]
  have ho2:∀m,m≠n->(g.set n ⟨v,e.len,none,F⟩).nest m=g.nest m:=λm hm=>by simp[Gh.set,hm]
  have hone:v.oneCell'=true:=by obtain⟨ad,cap,rfl⟩:=Bm hg;rfl
  obtain⟨hM,hle⟩:=h.put (n:=n) (e:=.frz e x) (i:=⟨v,e.len,none,F⟩) (λhd=>absurd hn hd) hone
   ⟨by simp[Gh.set],hi1,by rw[hi2];show CT.Rep w (.sl e) x (if n=n then v else g.loc n) F;rw[if_pos rfl];exact hg,by rw[hi2];exact hI,by rw[hi2];exact hnd⟩
   (λha=>by cases ha)
   (λhdp b hb=>by
    obtain⟨k1,k2⟩:=hv.nf b (mem_append_left _ hb);exact⟨λm f _ hm hd=>k1 m f hm hd,k2⟩)
  refine⟨_,⟨hM,hle,rfl,hmono.t1,hmono.n1,λb hb=>?_,λb hb=>?_,λb hb m f hm ht=>?_⟩,yz.2 (.inl rfl),?_⟩
  rotate_left 2
  · have hmn:m≠n:=λe=>by
     subst e;have hm:wW ((m,Entry.frz _ x)::en) m=some f:=hm
     rw[Ab]at hm;cases hm;cases ht
    rw[ho2 m hmn];exact hmono.tw b hb m f (by simpa[CT.giveF,yb (Ne.symm hmn)]using hm) ht
  rotate_left
  · obtain⟨k1,k2,k3⟩:=hmono.tf b hb;refine⟨k1,λm f hm ha=>?_,k3⟩;by_cases hmn:m=n
    · subst hmn;rw[hi1];intro htp;cases htp
    · rw[ho1 m hmn];exact k2 m f (by simpa[CT.giveF,yb (Ne.symm hmn)]using hm) ha
  · obtain⟨k1,k2⟩:=hmono.nf b hb;refine⟨λm f hm hd=>?_,k2⟩;by_cases hmn:m=n
    · subst hmn;rw[hi2];intro hbn;have:=hv.n1 b
      rw[count_append]at this;have h2:=count_pos_iff.2 hb
      have h3:=count_pos_iff.2 hbn;omega
    · rw[ho2 m hmn];exact k1 m f (by simpa[CT.giveF,yb (Ne.symm hmn)]using hm) hd
  · show v=(if n=n then v else g.loc n);rw[if_pos rfl]
 | int k=>exact⟨g,zk.refl h hmono,CT.cell_rep (c:=.int k) hg hI⟩
 | bool=>exact⟨g,zk.refl h hmono,CT.cell_rep (c:=.bool) hg hI⟩
 | str=>exact⟨g,zk.refl h hmono,CT.cell_rep (c:=.str) hg hI⟩
 | err=>exact⟨g,zk.refl h hmono,CT.cell_rep (c:=.err) hg hI⟩
theorem CT.giveF_any (h:MS w0 T N en g w) {c:CT} {x:c.den} {v:Value} {F ts' ns':List Nat} {n:th} (hg:CT.Rep w c x v F) (hI:∀b∈F,g.I b) (hv:zx w0 T N en g ts' (F++ns')) (hn:∀p∈(c.giveF n x).2,wW en p.1=none) :
 ∃g',zk w0 T N en g w (c.giveF n x).2 g' ts' ns'/\xd (dom ((c.giveF n x).2++en)) g' w (c.giveF n x).1 v:=by
 have hmono:zx w0 T N en g ts' ns':=hv.mono (λb=>Nat.le_refl _) (λb=>by rw[count_append];omega);cases c with
 | sl e=>exact CT.giveF_put h hg hI hv (hn (n,.frz e x) (by simp[CT.giveF]))
 | int k=>exact⟨g,zk.refl h hmono,CT.cell_rep (c:=.int k) hg hI⟩
 | bool=>exact⟨g,zk.refl h hmono,CT.cell_rep (c:=.bool) hg hI⟩
 | str=>exact⟨g,zk.refl h hmono,CT.cell_rep (c:=.str) hg hI⟩
 | err=>exact⟨g,zk.refl h hmono,CT.cell_rep (c:=.err) hg hI⟩
theorem Cs.giveF_put:{c:Cs}->{x:c.den}->{vs:List Value}->{F ts' ns':List Nat}->{n:th}->{en:List (th×Entry)}->{g:Gh}->(h:MS w0 T N en g w)->(hg:Cs.Rep w c x vs F)->(hI:∀b∈F,g.I b)->(hv:zx w0 T N en g ts' (F++ns')) ->
 (hn:∀p∈(Cs.giveF n c x).2,wW en p.1=none)->(hd:xm (Cs.giveF n c x).2=true)->∃g',zk w0 T N en g w (Cs.giveF n c x).2 g' ts' ns'/\xn (xd (dom ((Cs.giveF n c x).2++en)) g' w) (Cs.giveF n c x).1 vs
 | .one c,x,vs,F,ts',ns',n,en,g,h,hg,hI,hv,hn,hd=>by
  simp only[Cs.Rep]at hg;obtain⟨v,rfl,hg⟩:=hg;obtain⟨g',k1,k2⟩:=CT.giveF_any h hg hI hv hn;exact⟨g',k1,k2,trivial⟩
 | .cons c r,x,vs,F,ts',ns',n,en,g,h,hg,hI,hv,hn,hd=>by
  simp only[Cs.Rep]at hg;obtain⟨v,vs',F1,F2,rfl,rfl,hg1,hg2⟩:=hg;obtain⟨d1,d2,d3⟩:=yw (l:=(c.giveF n x.1).2) (m:=(Cs.giveF (n+1) r x.2).2) hd;obtain⟨g1,k1,k2⟩:=Cs.giveF_put (n:=n+1) (ts':=ts') (ns':=F1++ns') h hg2 (λb hb=>hI b (mem_append_right _ hb)) (hv.mono (λb=>Nat.le_refl _) (λb=>by simp only[count_append];omega)) (λp hp=>hn p (mem_append_right _ hp)) d2;obtain⟨g2,k3,k4⟩:=CT.giveF_any (n:=n) k1.ms hg1 (λb hb=>by rw[k1.imm];exact hI b (mem_append_left _ hb)) k1.giv (λp hp=>by
   rw[xV (d3 p.1 (mem_map_of_mem hp))];exact hn p (mem_append_left _ hp))
  have e:(Cs.giveF n (.cons c r) x).2++en=(c.giveF n x.1).2++((Cs.giveF (n+1) r x.2).2++en):=append_assoc _ _ _;refine⟨g2,k1.trans k3,?_,?_⟩
  · rw[e];exact k4
  · rw[e];exact xn.imp (λ_ _=>xd.mono k3.le) k2
theorem LX (h:MS w0 T N en g w) {n:th} {b:Nat} {us:List Value} {cs:List Cell} {ts ns:List Nat} (hb:yr w b us) (hc:xn (xd (dom en) g w) cs us) (hv:zx w0 T N en g (b::ts) ns) (hn:dom en n->g.loc n=.pointer (some ⟨b,0,none⟩)) (hf:∀e,wW en n=some e->e.alive=false) :
 ∃g',zk w0 T N en g w [(n,.box cs)] g' ts ns/\g'.loc n=.pointer (some ⟨b,0,none⟩):=by
 have hi1:(g.set n ⟨.pointer (some ⟨b,0,none⟩),g.esz n,some b,[]⟩).top n=some b:=by simp[Gh.set]
 have hi2:(g.set n ⟨.pointer (some ⟨b,0,none⟩),g.esz n,some b,[]⟩).nest n=[]:=by simp[Gh.set]
 have ho1:∀m,m≠n->(g.set n ⟨.pointer (some ⟨b,0,none⟩),g.esz n,some b,[]⟩).top m=g.top m:=λm hm=>by simp[Gh.set,hm]
 have ho2:∀m,m≠n->(g.set n ⟨.pointer (some ⟨b,0,none⟩),g.esz n,some b,[]⟩).nest m=g.nest m:=λm hm=>by simp[Gh.set,hm]
 have hle0:=Gh.set_le (en:=en) (g:=g) (w:=w) (n:=n) (.box cs) ⟨.pointer (some ⟨b,0,none⟩),g.esz n,some b,[]⟩ (λhd=>⟨(hn hd).symm,rfl⟩);obtain⟨hM,hle⟩:=h.put (n:=n) (e:=.box cs) (i:=⟨.pointer (some ⟨b,0,none⟩),g.esz n,some b,[]⟩) (λhd=>⟨(hn hd).symm,rfl⟩) rfl
  ⟨b,us,hi1,by simp[Gh.set],hb,xn.imp (λ_ _=>xd.mono hle0) hc⟩
  (λ_ b' hb'=>by
   cases hb';obtain⟨k1,k2,k3⟩:=hv.tf b mem_cons_self;exact⟨k1,λm f _ hm ha=>k2 m f hm ha,k3,λm f _ hm ht=>hv.tw b mem_cons_self m f hm ht⟩)
  (λhd=>by cases hd)
 have hmono:zx w0 T N en g ts ns:=hv.mono (λc=>by rw[List.count_cons];omega) (λ_=>Nat.le_refl _);refine⟨_,⟨hM,hle,rfl,hmono.t1,hmono.n1,λc hc=>?_,λc hc=>?_,λc hc m f hm ht=>?_⟩,by simp[Gh.set]⟩
 rotate_left 2
 · have hmn:m≠n:=λe=>by
    subst e;have hm:wW ((m,Entry.box cs)::en) m=some f:=hm
    rw[Ab]at hm;cases hm;cases ht
   rw[ho2 m hmn];exact hmono.tw c hc m f (by simpa[yb (Ne.symm hmn)]using hm) ht
 · obtain⟨k1,k2,k3⟩:=hmono.tf c hc;refine⟨k1,λm f hm ha=>?_,k3⟩;by_cases hmn:m=n
   · subst hmn;rw[hi1];intro he;cases he;have:=hv.t1 b
     rw[List.count_cons_self]at this;have h2:=count_pos_iff.2 hc
     omega
   · rw[ho1 m hmn];exact k2 m f (by simpa[yb (Ne.symm hmn)]using hm) ha
 · obtain⟨k1,k2⟩:=hmono.nf c hc;refine⟨λm f hm hd=>?_,k2⟩;by_cases hmn:m=n
   · subst hmn;rw[hi2];simp
   · rw[ho2 m hmn];exact k1 m f (by simpa[yb (Ne.symm hmn)]using hm) hd
end Go.V
namespace Go.V
variable {w0:World} {T N:Nat->Prop} {en en':List (th×Entry)} {g g':Gh} {w:World}

def TU:Bool->Option Bool|true=>some true|false=>none
def Cb (I:Nat->Prop) (w:World) (own:Option Bool) (c:Cs) (x:c.den) (us:List Value) (ts ns:List Nat):Prop :=
 (∃m ns',own=some m/\Cs.Gifts I w c x us ts ns'/\(m=true->ns'=ns))\/(own=none/\ts=[]/\ns=[]/\∃F,Cs.Rep w c x us F/\∀b∈F,I b)
def BH (I:Nat->Prop) (w:World):(ps:List yj)->xc (xz ps)->List Value->List Nat->List Nat->Prop
 | [],_,vs,ts,ns=>vs=[]/\ts=[]/\ns=[]
 | .val agg c mv::ps,x,vs,ts,ns=>∃v vs' us t1 t2 n1 n2,vs=v::vs'/\isAgg agg v us/\ts=t1++t2/\ns=n1++n2/\Cb I w (TU mv) c (xc.hd c (xz ps) x) us t1 n1/\BH I w ps (xc.tl c (xz ps) x) vs' t2 n2
 | .ptr c own::ps,x,vs,ts,ns=>∃b vs' us t1 t2 n1 n2,vs=.pointer (some ⟨b,0,none⟩)::vs'/\yr w b us/\ts=b::(t1++t2)/\ns=n1++n2/\Cb I w own c (xc.hd c (xz ps) x) us t1 n1/\BH I w ps (xc.tl c (xz ps) x) vs' t2 n2
theorem E7 {D:th->Prop} {agg:Bool} {cs:List Cell} {v:Value} {us:List Value} (h:xn (xd D g w) cs us) (ha:isAgg agg v us):xO D g w (Ah agg cs) v:=by
 rcases ha with ⟨rfl,rfl⟩|⟨rfl,rfl⟩
 · cases cs with
   | nil=>exact h.elim
   | cons c cs=>cases cs with
    | nil=>exact h.1
    | cons _ _=>exact h.2.elim
 · have:Ah true cs=.agg cs:=by cases cs<;>rfl
   rw[this];exact⟨_,rfl,h⟩
theorem Ey {own:Option Bool} {c:Cs} {x:c.den} {vs:List Value} {ts ns ts' ns':List Nat} {n:th} (h:MS w0 T N en g w) (hg:Cb g.I w own c x vs ts ns) (hv:zx w0 T N en g (ts++ts') (ns++ns'))
 (hn:∀p∈(zJ own n c x).2,wW en p.1=none) (hd:xm (zJ own n c x).2=true):∃g',zk w0 T N en g w (zJ own n c x).2 g' ts' ns'/\xn (xd (dom ((zJ own n c x).2++en)) g' w) (zJ own n c x).1 vs:=by
 rcases hg with ⟨m,ns1,rfl,hg,hm⟩|⟨rfl,rfl,rfl,F,hF,hI⟩
 · refine Cs.give_put h hg ?_ hn hd;cases m with
   | true=>rw[hm rfl];exact hv
   | false=>exact hv.mono (λb=>Nat.le_refl _) (λb=>by simp only[cF,List.nil_append,count_append];omega)
 · exact⟨g,zk.refl h (by simpa using hv),Cs.cells_rep hF hI⟩
def EF (D:th->Prop) (g:Gh):Nat->List yj->List Value->Prop
 | _,[],_=>True
 | _,_::_,[]=>False
 | i,.val .. :: ps,_::vs=>EF D g (i+1) ps vs
 | i,.ptr .. :: ps,v::vs=>(D (64*i+1)/\g.loc (64*i+1)=v)/\EF D g (i+1) ps vs
theorem EF.mono {D D':th->Prop} {w':World} (h:Le D g w D' g' w'):∀{i:Nat} {ps:List yj} {vs:List Value},EF D g i ps vs->EF D' g' i ps vs
 | _,[],_,_=>trivial
 | i,.val .. :: ps,v::vs,k=>EF.mono (ps:=ps) (vs:=vs) h k
 | i,.ptr .. :: ps,v::vs,⟨⟨k1,k2⟩,k⟩=>⟨⟨h.dom _ k1,(h.loc _ k1).trans k2⟩,EF.mono h k⟩
 | _,.val .. :: _,[],k=>k
 | _,.ptr .. :: _,[],k=>k
def Lc (D:th->Prop) (g:Gh) (w:World) (tm:List (Nat×AV)) (i:Nat) (vs:List Value):Prop :=
 ∀t,wW tm t=none\/∃k v x,t=i+k/\vs[k]?=some v/\wW tm t=some x/\xO D g w x v
theorem Lc.cons {D D':th->Prop} {tm:List (Nat×AV)} {i:Nat} {vs:List Value} {v:Value} {x:AV} (h:Lc D g w tm (i+1) vs) (hle:Le D g w D' g' w) (hx:xO D' g' w x v):Lc D' g' w ((i,x)::tm) i (v::vs):=by
 intro t;rw[xr];by_cases hit:i=t
 · subst hit;exact .inr ⟨0,v,x,rfl,rfl,by rw[if_pos rfl],hx⟩
 · rw[if_neg hit];rcases h t with h|⟨k,u,y,h1,h2,h3,h4⟩
   · exact .inl h
   · exact .inr ⟨k+1,u,y,by omega,by simpa using h2,h3,h4.mono hle⟩
theorem MH {i:Nat} {agg:Bool} {c:Cs} {mv:Bool} {ps:List yj} {x:xc (xz (.val agg c mv::ps))} :
 entry i (.val agg c mv::ps) x=((i,Ah agg (zJ (TU mv) (64*i+1) c (xc.hd c (xz ps) x)).1)::(entry (i+1) ps (xc.tl c (xz ps) x)).1,(zJ (TU mv) (64*i+1) c (xc.hd c (xz ps) x)).2++(entry (i+1) ps (xc.tl c (xz ps) x)).2):=by
 cases mv<;>rfl
theorem MI {i:Nat} {c:Cs} {own:Option Bool} {ps:List yj} {x:xc (xz (.ptr c own::ps))} :
 entry i (.ptr c own::ps) x=((i,.cell (.box (64*i+1) 0))::(entry (i+1) ps (xc.tl c (xz ps) x)).1,(64*i+1,.box (zJ own (64*i+2) c (xc.hd c (xz ps) x)).1)::((zJ own (64*i+2) c (xc.hd c (xz ps) x)).2++(entry (i+1) ps (xc.tl c (xz ps) x)).2)):=rfl
theorem zk.to_nil {new:List (th×Entry)} {ts ns:List Nat} (h:zk w0 T N [] g w new g' ts ns):MS w0 T N new g' w:=by have:=h.ms;rwa [append_nil]at this
theorem Cb.imm {I I':Nat->Prop} (hI:∀b,I b->I' b) {own:Option Bool} {c:Cs} {x:c.den} {us:List Value} {ts ns:List Nat} (h:Cb I w own c x us ts ns):Cb I' w own c x us ts ns:=by
 rcases h with ⟨m,ns',h1,h2,h3⟩|⟨h1,h2,h3,F,h4,h5⟩
 · exact .inl ⟨m,ns',h1,h2.imm hI,h3⟩
 · exact .inr ⟨h1,h2,h3,F,h4,λb hb=>hI b (h5 b hb)⟩
theorem HP (h0:MS w0 T N [] g w):∀(ps:List yj) (i:Nat) (x:xc (xz ps)) (vs:List Value) (ts ns ts' ns':List Nat),zx w0 T N [] g (ts++ts') (ns++ns')->BH g.I w ps x vs ts ns->xm (entry i ps x).2=true ->
 ∃g',zk w0 T N [] g w (entry i ps x).2 g' ts' ns'/\Lc (dom (entry i ps x).2) g' w (entry i ps x).1 i vs/\EF (dom (entry i ps x).2) g' i ps vs
 | [],i,x,vs,ts,ns,ts',ns',hv,ha,hd=>by
  obtain⟨rfl,rfl,rfl⟩:=ha;exact⟨g,zk.refl h0 (by simpa using hv),λt=>.inl rfl,trivial⟩
 | .val agg c mv::ps,i,x,vs,ts,ns,ts',ns',hv,ha,hd=>by
  obtain⟨v,vs',us,t1,t2,n1,n2,rfl,hag,rfl,rfl,hin,ha⟩:=ha;rw[MH]at hd ⊢;obtain⟨d1,d2,d3⟩:=yw hd;obtain⟨g1,k1,k2,k3⟩:=HP h0 ps (i+1) (xc.tl c (xz ps) x) vs' t2 n2 (t1++ts') (n1++ns') (hv.mono (λb=>by simp only[count_append];omega) (λb=>by simp only[count_append];omega)) ha d2;obtain⟨g2,k4,k5⟩:=Ey (n:=64*i+1) k1.ms (hin.imm λb hb=>by rw[k1.imm];exact hb) k1.giv (λp hp=>by
   rw[append_nil];cases hf:wW (entry (i+1) ps (xc.tl c (xz ps) x)).2 p.1 with
   | none=>rfl
   | some y=>exact absurd (Av.2 (by rw[hf];simp)) (d3 p.1 (mem_map_of_mem hp))) d1
  have kle:=k4.le;simp only[append_nil]at kle k5;refine⟨g2,k1.trans k4,k2.cons kle (E7 k5 hag),?_⟩;exact EF.mono (ps:=ps) (vs:=vs') kle k3
 | .ptr c own::ps,i,x,vs,ts,ns,ts',ns',hv,ha,hd=>by
  obtain⟨b,vs',us,t1,t2,n1,n2,rfl,hob,rfl,rfl,hin,ha⟩:=ha;rw[MI]at hd ⊢;obtain⟨d0,hd⟩:=yP hd;obtain⟨d1,d2,d3⟩:=yw hd;obtain⟨g1,k1,k2,k3⟩:=HP h0 ps (i+1) (xc.tl c (xz ps) x) vs' t2 n2 (t1++(b::ts')) (n1++ns') (hv.mono (λb'=>by simp only[count_append,List.count_cons,List.cons_append];omega) (λb'=>by simp only[count_append];omega)) ha d2;obtain⟨g2,k4,k5⟩:=Ey (n:=64*i+2) k1.ms (hin.imm λb hb=>by rw[k1.imm];exact hb) k1.giv (λp hp=>by
   rw[append_nil];cases hf:wW (entry (i+1) ps (xc.tl c (xz ps) x)).2 p.1 with
   | none=>rfl
   | some y=>exact absurd (Av.2 (by rw[hf];simp)) (d3 p.1 (mem_map_of_mem hp))) d1
  have kle:=k4.le;have k6:=k1.trans k4
  have hfree:wW ((zJ own (64*i+2) c (xc.hd c (xz ps) x)).2++(entry (i+1) ps (xc.tl c (xz ps) x)).2++[]) (64*i+1)=none:=by
   rw[append_nil];cases hf:wW ((zJ own (64*i+2) c (xc.hd c (xz ps) x)).2++(entry (i+1) ps (xc.tl c (xz ps) x)).2) (64*i+1)with
   | none=>rfl
   | some y=>exact absurd (Av.2 (by rw[hf];simp)) d0
  obtain⟨g3,k7,k8⟩:=LX k6.ms hob (by simpa using k5) k6.giv (λhd=>absurd hfree hd) (λe he=>by rw[hfree]at he;cases he);have kle2:=k7.le
  simp only[append_nil]at kle kle2;refine⟨g3,k6.trans k7,Lc.cons k2 (kle.trans kle2) ⟨yz.2 (.inl rfl),b,k8,rfl⟩,⟨yz.2 (.inl rfl),k8⟩,?_⟩;exact EF.mono (ps:=ps) (vs:=vs') (kle.trans kle2) k3
end Go.V
namespace Go.V
variable {w0:World} {T N:Nat->Prop} {en en':List (th×Entry)} {g g':Gh} {w:World} {I:Nat->Prop}

def zy (en:List (th×Entry)) (used:List (th×Entry)):Prop :=
 ∀p∈used,(p.2=.gone/\∃e m xs,wW en p.1=some (.root e m xs))\/(p.2=.gone/\∃cs,wW en p.1=some (.box cs))\/(∃e m xs,wW en p.1=some (.root e m xs)/\p.2=.fwd e xs)\/(∃e xs,wW en p.1=some (.frz e xs)/\(p.2=.gone\/p.2=.fwd e xs))
def Bs (g:Gh) (p:th×Entry):List Nat:=match p.2 with | .gone=>(g.top p.1).toList|_=>[]
def B4 (en:List (th×Entry)) (g:Gh) (p:th×Entry):List Nat:=match p.2 with | .gone=>(match wW en p.1 with|some (.root _ true _)=>g.nest p.1|some (.frz _ _)=>g.nest p.1|_=>[])|_=>[]
def z5 (g:Gh) (used:List (th×Entry)):List Nat:=used.flatMap (Bs g)
def zf (en:List (th×Entry)) (g:Gh) (used:List (th×Entry)):List Nat:=used.flatMap (B4 en g)
theorem Gf {D:th->Prop} {agg:Bool} {x:AV} {v:Value} (h:xO D g w x v) (ho:C7 agg x=true):∃us,isAgg agg v us/\xn (xd D g w) x.cells us:=by
 cases x with
 | cell c=>cases agg with
  | true=>cases ho
  | false=>exact⟨[v],.inl ⟨rfl,rfl⟩,h,trivial⟩
 | agg cs=>cases agg with
  | false=>cases ho
  | true=>obtain⟨vs,rfl,k⟩:=h;exact⟨vs.toList,.inr ⟨rfl,rfl⟩,k⟩
 | tup l=>cases agg<;>cases ho
theorem MJ (hm:zv en g w):∀{used:List (th×Entry)},xJ en true false used->z5 g used=(used.map (·.1)).flatMap (λn=>(g.top n).toList)/\zf en g used=(used.map (·.1)).flatMap g.nest/\zy en used/\∀b∈zf en g used,g.I b
 | [],_=>⟨rfl,rfl,λp hp=>by simp at hp,by simp[zf]⟩
 | p::used,h=>by
  obtain⟨k1,k2,k3,k4⟩:=MJ hm (used:=used) λq hq=>h q (mem_cons_of_mem _ hq);obtain⟨e,m,xs,h1,h2,h3⟩|⟨h0,_⟩:=h p mem_cons_self
  rotate_left
  · cases h0
  obtain rfl:=h2 rfl;have h3:p.2=.gone:=h3
  obtain⟨_,_,hI,_⟩:=yM hm h1;refine⟨?_,?_,λq hq=>?_,λb hb=>?_⟩
  · unfold z5 at k1 ⊢;rw[flatMap_cons,k1];simp[Bs,h3]
  · unfold zf at k2 ⊢;rw[flatMap_cons,k2];simp[B4,h3,h1]
  · rcases mem_cons.1 hq with rfl|hq
    · exact .inl ⟨h3,e,true,xs,h1⟩
    · exact k3 q hq
  · unfold zf at hb k4;rw[flatMap_cons]at hb;rcases mem_append.1 hb with hb|hb
    · simp[B4,h3,h1]at hb;exact hI b hb
    · exact k4 b hb
theorem NY:∀{used:List (th×Entry)},xJ en false true used->z5 g used=[]/\zf en g used=[]/\zy en used
 | [],_=>⟨rfl,rfl,λp hp=>by simp at hp⟩
 | p::used,h=>by
  obtain⟨k1,k2,k3⟩:=NY (used:=used) λq hq=>h q (mem_cons_of_mem _ hq);obtain⟨e,m,xs,h1,h2,h3⟩|⟨_,e,xs,h1,h3⟩:=h p mem_cons_self
  rotate_left
  · refine⟨?_,?_,λq hq=>?_⟩
    · unfold z5 at k1 ⊢;rw[flatMap_cons,k1];simp[Bs,h3]
    · unfold zf at k2 ⊢;rw[flatMap_cons,k2];simp[B4,h3]
    · rcases mem_cons.1 hq with rfl|hq
      · exact .inr (.inr (.inr ⟨e,xs,h1,.inr h3⟩))
      · exact k3 q hq
  have h3:p.2=.fwd e xs:=h3;refine⟨?_,?_,λq hq=>?_⟩
  · unfold z5 at k1 ⊢;rw[flatMap_cons,k1];simp[Bs,h3]
  · unfold zf at k2 ⊢;rw[flatMap_cons,k2];simp[B4,h3]
  · rcases mem_cons.1 hq with rfl|hq
    · exact .inr (.inr (.inl ⟨e,m,xs,h1,h3⟩))
    · exact k3 q hq
theorem CT.own_gifts (hI:∀b,g.I b->I b) {c:CT} {x:c.den} {v:Value} {ns:List th} (h:CT.Own false g w c x v ns) (hn:∀b∈ns.flatMap g.nest,g.I b):CT.Gifts I w c x v (ns.flatMap λn=>(g.top n).toList) (ns.flatMap g.nest):=by
 cases c with
 | sl e =>
  rcases h with ⟨rfl,rfl,rfl⟩|⟨n,rfl,rfl,h⟩
  · exact⟨none,rfl,.inl ⟨rfl,rfl,rfl,rfl⟩,by simp⟩
  · exact⟨g.top n,by simp,by simpa using h.resolve_right (λh=>by cases h.1),λb hb=>hI b (hn b hb)⟩
 | int=>obtain⟨rfl,h⟩:=h;exact⟨rfl,rfl,h⟩
 | bool=>obtain⟨rfl,h⟩:=h;exact⟨rfl,rfl,h⟩
 | str=>obtain⟨rfl,h⟩:=h;exact⟨rfl,rfl,h⟩
 | err=>obtain⟨rfl,h⟩:=h;exact⟨rfl,rfl,h⟩
theorem Cs.own_gifts (hI:∀b,g.I b->I b):{c:Cs}->{x:c.den}->{us:List Value}->{ns:List th}->Cs.Own false g w c x us ns->(∀b∈ns.flatMap g.nest,g.I b)->Cs.Gifts I w c x us (ns.flatMap λn=>(g.top n).toList) (ns.flatMap g.nest)
 | .one c,x,us,ns,h,hn=>by obtain⟨v,rfl,h⟩:=h;exact⟨v,rfl,CT.own_gifts hI h hn⟩
 | .cons c r,x,us,ns,h,hn=>by
  obtain⟨v,vs',n1,n2,rfl,rfl,h1,h2⟩:=h;rw[flatMap_append,flatMap_append];rw[flatMap_append]at hn;exact⟨v,vs',_,_,_,_,rfl,rfl,rfl,CT.own_gifts hI h1 λb hb=>hn b (mem_append_left _ hb),Cs.own_gifts hI h2 λb hb=>hn b (mem_append_right _ hb)⟩
structure N6 (en:List (th×Entry)) (g:Gh) (I:Nat->Prop) (used:List (th×Entry)) (ro:List th):Prop where
 old:∀b,g.I b->I b
 fwd:∀p∈used,∀e xs,p.2=.fwd e xs->∀b,g.top p.1=some b->I b
 lent:∀n∈ro,∀f b,wW en n=some f->f.alive=true->g.top n=some b->I b
theorem zy.append {u v:List (th×Entry)} (h:zy en u) (k:zy en v):zy en (u++v):=λp hp=>(mem_append.1 hp).elim (h p) (k p)
theorem CT.into_top (hI:∀b,g.I b->I b) (hm:zv en g w) {c:CT} {x:Cell} {v:Value} {y:c.den×List (th×Entry)} {L:List th} (hc:xd (dom en) g w x v) (hr:(c.into false false x).Runs (wW en) y L) :
 ∃ns,CT.Gifts I w c y.1 v (z5 g y.2) ns/\zy en y.2:=by
 cases hs:c.isSl with
 | true =>
  cases c with
  | sl e =>
   obtain⟨a,L1,L2,_,h1,h2⟩:=Rd.runs_bind (show (N3 e x).Runs (wW en) y L from hr);obtain⟨rfl,_⟩:=h2;rcases IC hm hc h1 with ⟨rfl,rfl⟩|⟨xs,r,m,F,rfl,⟨ys,hn⟩,hrep,hcnt⟩
   · exact⟨[],⟨none,rfl,.inl ⟨rfl,rfl,rfl,rfl⟩,by simp⟩,by intro p hp;simp at hp⟩
   · obtain⟨_,_,hnI,_⟩:=yM hm hn;refine⟨F,⟨g.top r,by simp[z5,Bs],hrep,λb hb=>hI b (hnI b ?_)⟩,λp hp=>?_⟩
     · have h1:=count_pos_iff.2 hb;have h2:=hcnt b
       exact count_pos_iff.1 (by omega)
     · obtain rfl:=mem_singleton.1 hp;exact .inl ⟨rfl,e,m,ys,hn⟩
  | int=>simp[CT.isSl]at hs
  | bool=>simp[CT.isSl]at hs
  | str=>simp[CT.isSl]at hs
  | err=>simp[CT.isSl]at hs
 | false =>
  obtain⟨h1,L',h2⟩:=CT.into_scalar hs hr;obtain⟨F,hF,_⟩:=CT.read_sound hm hc h2;have ho:=CT.Own_of_rep (kp:=false) (g:=g) hs ⟨F,hF⟩
  rw[h1];exact⟨[],CT.own_gifts hI ho (by simp),by intro p hp;simp at hp⟩
theorem Cs.into_top (hI:∀b,g.I b->I b) (hm:zv en g w):{e:Cs}->{xs:List Cell}->{vs:List Value}->{y:e.den×List (th×Entry)}->{L:List th}->xn (xd (dom en) g w) xs vs->(e.into false false xs).Runs (wW en) y L ->
 ∃ns,Cs.Gifts I w e y.1 vs (z5 g y.2) ns/\zy en y.2
 | .one c,[],_,_,_,_,hr=>hr.elim
 | .one c,[x],[v],y,L,hc,hr=>by
  obtain⟨ns,h1,h2⟩:=CT.into_top hI hm hc.1 hr;exact⟨ns,⟨v,rfl,h1⟩,h2⟩
 | .one c,_::_::_,_,_,_,_,hr=>hr.elim
 | .cons c r,[],_,_,_,_,hr=>hr.elim
 | .cons c r,x::xs,v::vs,y,L,hc,hr=>by
  simp only[Cs.into]at hr;obtain⟨a,L1,L2,rfl,h1,hr⟩:=Rd.runs_bind hr;obtain⟨b,L3,L4,rfl,h2,hr⟩:=Rd.runs_bind hr;obtain⟨rfl,_⟩:=hr;obtain⟨n1,k1,k2⟩:=CT.into_top hI hm hc.1 h1;obtain⟨n2,k3,k4⟩:=Cs.into_top hI hm hc.2 h2;exact⟨n1++n2,⟨v,vs,z5 g a.2,z5 g b.2,n1,n2,rfl,flatMap_append,rfl,k1,k3⟩,k2.append k4⟩
theorem Ds (hm:zv en g w) {own:Option Bool} {c:Cs} {xs:List Cell} {us:List Value} {y:c.den×List (th×Entry)} {L:List th} (hc:xn (xd (dom en) g w) xs us) (hr:(c.intoO own xs).Runs (wW en) y L) {used:List (th×Entry)} {ro:List th}
 (hs:N6 en g I used ro) (hsub:∀p∈y.2,p∈used):Cb I w own c y.1 us (z5 g y.2) (zf en g y.2)/\zy en y.2:=by
 cases own with
 | some m =>
  cases m with
  | true =>
   obtain⟨h1,h2⟩:=Cs.into_own hm hc hr;obtain⟨k1,k2,k3,k4⟩:=MJ hm h2;refine⟨.inl ⟨true,_,rfl,?_,λ_=>rfl⟩,k3⟩;rw[k2]at k4;rw[k1,k2];exact Cs.own_gifts hs.old h1 k4
  | false =>
   obtain⟨ns',h1,h2⟩:=Cs.into_top hs.old hm hc hr;exact⟨.inl ⟨false,ns',rfl,h1,(λh=>by cases h)⟩,h2⟩
 | none =>
  obtain⟨⟨F,h1,h3⟩,h2⟩:=Cs.into_shared hm hc hr;obtain⟨k1,k2,k3⟩:=NY (g:=g) h2;refine⟨.inr ⟨rfl,k1,k2,F,h1,λb hb=>?_⟩,k3⟩;rcases h3 b hb with h|⟨n,hn,f,hf,ha,ht⟩
  · exact hs.old b h
  · obtain⟨p,hp,rfl⟩:=mem_map.1 hn;obtain⟨e,m,xs',e1,_,e3⟩|⟨_,e,xs',e1,e3⟩:=h2 p hp
    · exact hs.fwd p (hsub p hp) e xs' e3 b ht
    · rw[e1]at hf;cases hf;cases ha
def BI (en:List (th×Entry)) (g:Gh) (used:List (th×Entry)):List yj->List Value->List th->Prop
 | [],_,ns=>ns=[]
 | _::_,[],_=>False
 | .val .. :: ps,_::vs,ns=>BI en g used ps vs ns
 | .ptr .. :: ps,v::vs,ns=>∃n ns',ns=n::ns'/\(n,.gone)∈used/\(∃cs,wW en n=some (.box cs))/\g.loc n=v/\BI en g used ps vs ns'
theorem BI.mono {used used':List (th×Entry)} (h:∀p∈used,p∈used'):∀{ps:List yj} {vs:List Value} {ns:List th},BI en g used ps vs ns->BI en g used' ps vs ns
 | [],_,_,k=>k
 | .val .. :: ps,v::vs,ns,k=>BI.mono (ps:=ps) (vs:=vs) h k
 | .ptr .. :: ps,v::vs,ns,⟨n,ns',k1,k2,k3,k4,k5⟩=>⟨n,ns',k1,h _ k2,k3,k4,BI.mono h k5⟩
 | .val .. :: _,[],_,k=>k
 | .ptr .. :: _,[],_,k=>k
theorem Gg (hm:zv en g w) {sl:Bool}:∀{ps:List yj} {args:List AV} {vals:List Value} {b:HE (xz ps)} {L:List th},xn (xO (dom en) g w) args vals->(yH sl ps args).Runs (wW en) b L->N6 en g I b.used b.ro ->
 BH I w ps b.args vals (z5 g b.used) (zf en g b.used)/\zy en b.used/\BI en g b.used ps vals b.ptrs
 | [],[],[],b,L,_,hr,_=>by obtain⟨rfl,_⟩:=hr;exact⟨⟨rfl,rfl,rfl⟩,λp hp=>by simp at hp,rfl⟩
 | .val agg c false::ps,v::args,u::vals,b,L,ha,hr,hs=>by
  simp only[yH]at hr;obtain⟨_,L5,L6,_,h0,hr⟩:=Rd.runs_bind hr;obtain⟨a,L1,L2,_,h1,hr⟩:=Rd.runs_bind hr;obtain⟨b',L3,L4,_,h2,hr⟩:=Rd.runs_bind hr;obtain⟨rfl,_⟩:=hr;obtain⟨us,hag,hcs⟩:=Gf ha.1 (Rd.runs_need h0).1;obtain⟨k1,k2,k3⟩:=Gg hm ha.2 h2 ⟨hs.old,λp hp=>hs.fwd p (mem_append_right _ hp),λn hn=>hs.lent n (mem_append_right _ hn)⟩;cases sl with
  | true =>
   obtain⟨k4,k5⟩:=Ds (own:=none) hm hcs h1 hs (λp hp=>mem_append_left _ hp);refine⟨⟨u,vals,us,_,_,_,_,rfl,hag,flatMap_append,flatMap_append,?_,?_⟩,k5.append k2,BI.mono (ps:=ps) (vs:=vals) (λp hp=>mem_append_right _ hp) k3⟩
   · show Cb I w none c (xc.hd c (xz ps) (xc.mk c (xz ps) a.1 b'.args)) us _ _;rw[xc.hd_mk];exact k4
   · show BH I w ps (xc.tl c (xz ps) (xc.mk c (xz ps) a.1 b'.args)) vals _ _;rw[xc.tl_mk];exact k1
  | false =>
   obtain⟨y,_,_,_,h3,h4⟩:=Rd.runs_bind h1;obtain⟨rfl,_⟩:=h4;obtain⟨F,hF,hFI⟩:=Cs.read_sound hm hcs h3;refine⟨⟨u,vals,us,[],z5 g b'.used,[],zf en g b'.used,rfl,hag,by simp,by simp,.inr ⟨rfl,rfl,rfl,F,?_,λq hq=>?_⟩,?_⟩,k2,BI.mono (ps:=ps) (vs:=vals) (λp hp=>hp) k3⟩
   · show Cs.Rep w c (xc.hd c (xz ps) (xc.mk c (xz ps) y b'.args)) us F;rw[xc.hd_mk];exact hF
   · rcases hFI q hq with h|⟨n,hn,f,hf,hal,ht⟩
     · exact hs.old q h
     · exact hs.lent n (mem_append_left _ hn) f q hf hal ht
   · show BH I w ps (xc.tl c (xz ps) (xc.mk c (xz ps) y b'.args)) vals _ _;rw[xc.tl_mk];exact k1
 | .val agg c true::ps,v::args,u::vals,b,L,ha,hr,hs=>by
  simp only[yH]at hr;obtain⟨_,L5,L6,_,h0,hr⟩:=Rd.runs_bind hr;obtain⟨a,L1,L2,_,h1,hr⟩:=Rd.runs_bind hr;obtain⟨b',L3,L4,_,h2,hr⟩:=Rd.runs_bind hr;obtain⟨rfl,_⟩:=hr;obtain⟨us,hag,hcs⟩:=Gf ha.1 (Rd.runs_need h0).1;obtain⟨k1,k2,k3⟩:=Gg hm ha.2 h2 ⟨hs.old,λp hp=>hs.fwd p (mem_append_right _ hp),hs.lent⟩;obtain⟨k4,k5⟩:=Ds (own:=some true) hm hcs h1 hs (λp hp=>mem_append_left _ hp);refine⟨⟨u,vals,us,_,_,_,_,rfl,hag,flatMap_append,flatMap_append,?_,?_⟩,k5.append k2,BI.mono (ps:=ps) (vs:=vals) (λp hp=>mem_append_right _ hp) k3⟩
  · show Cb I w (some true) c (xc.hd c (xz ps) (xc.mk c (xz ps) a.1 b'.args)) us _ _;rw[xc.hd_mk];exact k4
  · show BH I w ps (xc.tl c (xz ps) (xc.mk c (xz ps) a.1 b'.args)) vals _ _;rw[xc.tl_mk];exact k1
 | .ptr c own::ps,.cell (.box n 0)::args,u::vals,b,L,ha,hr,hs=>by
  simp only[yH]at hr;obtain⟨L',_,hr⟩:=hr;dsimp only at hr;split at hr
  · rename_i cs hn;obtain⟨a,L1,L2,_,h1,hr⟩:=Rd.runs_bind hr;obtain⟨b',L3,L4,_,h2,hr⟩:=Rd.runs_bind hr;obtain⟨rfl,_⟩:=hr;obtain⟨k1,k2,k3⟩:=Gg hm ha.2 h2 ⟨hs.old,λp hp=>hs.fwd p (mem_cons_of_mem _ (mem_append_right _ hp)),hs.lent⟩;obtain⟨blk,us,e1,e2,e3,e4⟩:=hm.rep n _ hn;obtain⟨k4,k5⟩:=Ds (own:=own) hm e4 h1 hs (λp hp=>mem_cons_of_mem _ (mem_append_left _ hp));obtain⟨_,blk',e5,e6⟩:=ha.1;rw[e2]at e5;cases e5;refine⟨⟨blk,vals,us,z5 g a.2,z5 g b'.used,zf en g a.2,zf en g b'.used,?_,e3,?_,?_,?_,?_⟩,?_,n,b'.ptrs,rfl,mem_cons_self,⟨cs,hn⟩,e2.trans e6.symm,BI.mono (λp hp=>mem_cons_of_mem _ (mem_append_right _ hp)) k3⟩
    · rw[e6]
    · show ((n,Entry.gone)::(a.2++b'.used)).flatMap (Bs g)=_;rw[flatMap_cons,flatMap_append];simp[Bs,e1,z5]
    · show ((n,Entry.gone)::(a.2++b'.used)).flatMap (B4 en g)=_;rw[flatMap_cons,flatMap_append];simp[B4,hn,zf]
    · show Cb I w own c (xc.hd c (xz ps) (xc.mk c (xz ps) a.1 b'.args)) us _ _;rw[xc.hd_mk];exact k4
    · show BH I w ps (xc.tl c (xz ps) (xc.mk c (xz ps) a.1 b'.args)) vals _ _;rw[xc.tl_mk];exact k1
    · intro p hp;rcases mem_cons.1 hp with rfl|hp
      · exact .inr (.inl ⟨rfl,cs,hn⟩)
      · exact (k5.append k2) p hp
  · exact hr.elim
 | .val _ _ false::_,[],_,_,_,_,hr,_=>hr.elim
 | .val _ _ true::_,[],_,_,_,_,hr,_=>hr.elim
 | .ptr _ _::_,[],_,_,_,_,hr,_=>hr.elim
end Go.V
namespace Go.V
variable {w0:World} {T N:Nat->Prop} {en en':List (th×Entry)} {g g':Gh} {w:World} {I:Nat->Prop}

theorem Tf {b off:Nat} {vs us:List Value} (h:row w b off vs) (k:row w b off us) (hl:vs.length=us.length):vs=us:=by
 obtain⟨c,t,fz,h1,h2⟩:=h;obtain⟨c',t',fz',k1,k2⟩:=k;rw[h1]at k1;cases k1;rw[←h2,←k2,hl]
theorem xt.uniq {α:Type} {n:Nat} {R:α->List Value->List Nat->Prop} (hR:∀x y v F G,R x v F->R y v G->x=y):∀{xs ys:List α} {vs:List Value} {F G:List Nat},xs.length=ys.length->xt n R xs vs F->xt n R ys vs G->xs=ys
 | [],[],_,_,_,_,_,_=>rfl
 | x::xs,y::ys,vs,F,G,hl,h,k=>by
  obtain⟨v1,v2,F1,F2,rfl,h1,rfl,hr,h⟩:=h;obtain⟨u1,u2,G1,G2,he,k1,rfl,kr,k⟩:=k;obtain⟨rfl,rfl⟩:=List.append_inj he (by omega);rw[hR x y v1 F1 G1 hr kr,xt.uniq hR (by simpa using hl) h k]
 | [],_::_,_,_,_,hl,_,_=>by simp at hl
 | _::_,[],_,_,_,hl,_,_=>by simp at hl
mutual
theorem CT.Rep.uniq:∀{c:CT} {x y:c.den} {v:Value} {F G:List Nat},CT.Rep w c x v F->CT.Rep w c y v G->x=y
 | .int k,x,y,v,F,G,h,h'=>by
  simp only[CT.Rep]at h h';have:=h.1.symm.trans h'.1
  cases this;rfl
 | .bool,x,y,v,F,G,h,h'=>by
  simp only[CT.Rep]at h h';have:=h.1.symm.trans h'.1
  cases this;rfl
 | .str,x,y,v,F,G,h,h'=>by
  simp only[CT.Rep]at h h';have:=h.1.symm.trans h'.1
  simp only[Value.string.injEq]at this;have:=congrArg (λb:ByteArray=>b.data.toList) this
  simpa using this
 | .err,x,y,v,F,G,h,h'=>by
  simp only[CT.Rep]at h h';rcases h.2 with ⟨h1,h2⟩|⟨h1,t,u,h2⟩<;>rcases h'.2 with ⟨k1,k2⟩|⟨k1,t',u',k2⟩
  · rw[h1,k1]
  · rw[h2]at k2;cases k2
  · rw[h2]at k2;cases k2
  · rw[h1,k1]
 | .sl e,x,y,v,F,G,h,h'=>by
  rw[zN]at h h';rcases h with ⟨⟨a,h1⟩,h2,_⟩|⟨b,off,cap,vs,F',h1,_,h3,h4,h5,h6⟩<;>rcases h' with ⟨⟨a',k1⟩,k2,_⟩|⟨b',off',cap',vs',G',k1,_,k3,k4,k5,k6⟩
  · rw[h2,k2]
  · rw[h1]at k1;have:y.length=0:=by simp only[Value.slice.injEq]at k1;exact k1.2.1.symm
    rw[h2];exact (List.eq_nil_of_length_eq_zero this).symm
  · rw[k1]at h1;have:x.length=0:=by simp only[Value.slice.injEq]at h1;exact h1.2.1.symm
    rw[k2];exact List.eq_nil_of_length_eq_zero this
  · rw[h1]at k1;simp only[Value.slice.injEq,Option.some.injEq,Addr.mk.injEq]at k1;obtain⟨⟨rfl,rfl,_⟩,hl,_⟩:=k1;have e1:=h6.length
    have e2:=k6.length;have:=Tf h5 k5 (by rw[e1,e2,hl])
    subst this;exact xt.uniq (R:=Cs.Rep w e) (λx y v F G h k=>Cs.Rep.uniq h k) hl h6 k6
theorem Cs.Rep.uniq:∀{e:Cs} {x y:e.den} {vs:List Value} {F G:List Nat},Cs.Rep w e x vs F->Cs.Rep w e y vs G->x=y
 | .one c,x,y,vs,F,G,h,k=>by
  simp only[Cs.Rep]at h k;obtain⟨v,rfl,h⟩:=h;obtain⟨u,hu,k⟩:=k;cases hu;exact CT.Rep.uniq h k
 | .cons c r,x,y,vs,F,G,h,k=>by
  simp only[Cs.Rep]at h k;obtain⟨v,vs',F1,F2,rfl,rfl,h1,h2⟩:=h;obtain⟨u,us',G1,G2,hu,rfl,k1,k2⟩:=k;cases hu;exact Prod.ext (CT.Rep.uniq h1 k1) (Cs.Rep.uniq h2 k2)
end
theorem Cs.slIs_lt:∀{e:Cs} {j:Nat} {f:Cs},e.slIs j f=true->j<e.len
 | .one c,0,_,_=>by simp[Cs.len]
 | .one c,j+1,f,h=>by cases c<;>simp[Cs.slIs]at h
 | .cons c r,0,_,_=>by simp[Cs.len]
 | .cons c r,j+1,f,h=>by
  have h:r.slIs j f=true:=by cases c<;>exact h
  have:=Cs.slIs_lt h;simp[Cs.len];omega
theorem JO (n m:Nat) (P:Nat->List Nat):(List.range (n+m)).flatMap P=(List.range n).flatMap P++(List.range m).flatMap λk=>P (n+k):=by
 rw[List.range_add,flatMap_append,List.flatMap_map]
theorem Cs.Rep.feet:∀{e:Cs} {x:e.den} {vs:List Value} {F:List Nat},Cs.Rep w e x vs F->∃P:Nat->List Nat,F=(List.range e.len).flatMap P/\∀j f,e.slIs j f=true->∃v zs,vs[j]?=some v/\CT.Rep w (.sl f) zs v (P j)
 | .one c,x,vs,F,h=>by
  simp only[Cs.Rep]at h;obtain⟨v,rfl,h⟩:=h;refine⟨λ_=>F,by simp[Cs.len],λj f hj=>?_⟩;obtain rfl:j=0:=by have:=Cs.slIs_lt hj;simp[Cs.len]at this;exact this
  cases c with
  | sl e =>
   obtain rfl:=Ay (show yI e f=true from hj);exact⟨v,x,rfl,h⟩
  | _=>cases hj
 | .cons c r,x,vs,F,h=>by
  simp only[Cs.Rep]at h;obtain⟨v,vs',F1,F2,rfl,rfl,h1,h2⟩:=h;obtain⟨P,hP,hk⟩:=Cs.Rep.feet h2;refine⟨fun|0=>F1|k+1=>P k,?_,λj f hj=>?_⟩
  · rw[show Cs.len (.cons c r)=1+r.len by simp[Cs.len];omega,JO,hP]
    congr 1
    · simp
    · congr 1;funext k;rw[show 1+k=k+1 by omega]
  · cases j with
    | zero =>
     cases c with
     | sl e =>
      obtain rfl:=Ay (show yI e f=true from hj);exact⟨v,x.1,rfl,h1⟩
     | _=>cases hj
    | succ j =>
     obtain⟨u,zs,k1,k2⟩:=hk j f (by cases c<;>exact hj);exact⟨u,zs,by simpa using k1,k2⟩
theorem IQ {α β:Type} {f g:α->List β} {l:List α} (h:∀x∈l,f x=g x):l.flatMap f=l.flatMap g:=by
 rw[List.flatMap_def,List.flatMap_def,List.map_congr_left h]
theorem xt.feet {e:Cs}:∀{ys:List e.den} {vs:List Value} {F:List Nat},xt e.len (Cs.Rep w e) ys vs F->∃P:Nat->List Nat,F=(List.range (ys.length*e.len)).flatMap P/\∀i j f,i<ys.length->e.slIs j f=true->∃v zs,vs[i*e.len+j]?=some v/\CT.Rep w (.sl f) zs v (P (i*e.len+j))
 | [],vs,F,h=>by obtain⟨_,rfl⟩:=h;exact⟨λ_=>[],by simp,λi j f hi=>by simp at hi⟩
 | y::ys,vs,F,h=>by
  obtain⟨v1,v2,F1,F2,rfl,hv,rfl,hr,h⟩:=h;obtain⟨P1,p1,p2⟩:=Cs.Rep.feet hr;obtain⟨P2,q1,q2⟩:=xt.feet h;refine⟨λp=>if p<e.len then P1 p else P2 (p-e.len),?_,λi j f hi hj=>?_⟩
  · rw[show (y::ys).length*e.len=e.len+ys.length*e.len by rw[List.length_cons,Nat.succ_mul];omega,JO,p1,q1]
    congr 1
    · refine IQ λp hp=>?_;rw[if_pos (List.mem_range.1 hp)]
    · refine IQ λp hp=>?_;rw[if_neg (by omega),Nat.add_sub_cancel_left]
  · have hjl:=Cs.slIs_lt hj;cases i with
    | zero =>
     obtain⟨v,zs,k1,k2⟩:=p2 j f hj;refine⟨v,zs,?_,?_⟩
     · rw[Nat.zero_mul,Nat.zero_add,List.getElem?_append_left (by omega)];exact k1
     · rw[Nat.zero_mul,Nat.zero_add];simp only[if_pos hjl];exact k2
    | succ i =>
     obtain⟨v,zs,k1,k2⟩:=q2 i j f (by simpa using hi) hj;have e1:(i+1)*e.len+j=e.len+(i*e.len+j):=by rw[Nat.succ_mul];omega
     refine⟨v,zs,?_,?_⟩
     · rw[e1,List.getElem?_append_right (by omega),hv,Nat.add_sub_cancel_left];exact k1
     · rw[e1];simp only[if_neg (show ¬e.len+(i*e.len+j)<e.len by omega),Nat.add_sub_cancel_left];exact k2
theorem HQ {P:Nat->List Nat} {b:Nat}:∀(n:Nat) (ps:List Nat),ps.Nodup->(∀p∈ps,p<n)->(ps.flatMap P).count b<=((List.range n).flatMap P).count b
 | 0,ps,_,h=>by
  cases ps with
  | nil=>simp
  | cons p ps=>have:=h p (by simp);omega
 | n+1,ps,hn,h=>by
  rw[List.range_succ,flatMap_append,count_append];by_cases hm:n∈ps
  · have h1:=List.perm_cons_erase hm;have h2:(ps.flatMap P).count b=((n::ps.erase n).flatMap P).count b:=by
     rw[List.count_flatMap,List.count_flatMap];exact (h1.map _).sum_nat
    rw[h2,flatMap_cons,count_append];have h3:=HQ n (ps.erase n) (hn.erase n) (λp hp=>by
     have h4:=h p (List.mem_of_mem_erase hp);have h5:p≠n:=λe=>by subst e;exact (List.Nodup.not_mem_erase hn) hp
     omega) (P:=P) (b:=b)
    simp only[flatMap_cons,List.flatMap_nil,append_nil];omega
  · have h3:=HQ n ps hn (λp hp=>by
     have h4:=h p hp;have h5:p≠n:=λe=>by subst e;exact hm hp
     omega) (P:=P) (b:=b)
    omega
def Ld (en:List (th×Entry)) (g:Gh) (w:World) (r:th) (P:Nat->List Nat):Prop :=
 ∀e ys,wW en r=some (.frz e ys)->(∀b,((List.range (ys.length*e.len)).flatMap P).count b<=(g.nest r).count b) /\
  ∀j f (xs:List f.den) v,xd (dom en) g w (.kid r j f xs) v->e.slIs j f=true->∃p,p%e.len=j/\p<ys.length*e.len/\CT.Rep w (.sl f) xs v (P p)
theorem UH (hm:zv en g w):∃P:th->Nat->List Nat,∀r,Ld en g w r (P r):=by
 apply Classical.skolem.1;intro r;cases hn:wW en r with
 | none=>exact⟨λ_=>[],λe ys h=>by rw[hn]at h;cases h⟩
 | some E =>
  cases E with
  | frz e ys =>
   obtain⟨k1,k2,k3,k4,k5⟩:=hm.rep r _ hn;rw[zN]at k3;rcases k3 with ⟨⟨a,h1⟩,rfl,h3⟩|⟨b,off,cap,vs,F',h1,h2,h3,h4,h5,h6⟩
   · refine⟨λ_=>[],λe' ys' h=>?_⟩;rw[hn]at h;cases h;refine⟨λb=>by simp,λj f xs v hv hj=>?_⟩;obtain⟨_,_,b,o,len,cap,i,q1,q2,_⟩:=hv;rw[h1]at q1;cases q1;omega
   · obtain⟨P,p1,p2⟩:=xt.feet h6;refine⟨P,λe' ys' h=>?_⟩;rw[hn]at h;cases h;refine⟨λc=>by rw[←p1,h2,List.count_cons];omega,λj f xs v hv hj=>?_⟩;obtain⟨⟨F,hF,_⟩,_,b',o,len,cap',i,q1,q2,q3,q4⟩:=hv;rw[h1]at q1;cases q1;have hjl:=Cs.slIs_lt hj
     obtain⟨u,zs,r1,r2⟩:=p2 i j f q2 hj;have hvl:=h6.length
     have hu:u=v:=by
      rw[k1]at q4;have hlt:i*e.len+j<vs.length:=(List.getElem?_eq_some_iff.1 r1).1
      obtain⟨c,t,fz,hc,hr⟩:=h5;obtain⟨c',t',fz',hc',hr'⟩:=q4;rw[hc]at hc';cases hc';have e1:vs[i*e.len+j]?=c.toList[off+(i*e.len+j)]?:=by
       rw[←hr,List.getElem?_take_of_lt hlt,List.getElem?_drop]
      have e2:c.toList[off+(i*e.len+j)]?=some v:=by
       have:=congrArg (λl:List Value=>l[0]?) hr';simp only[List.length_singleton,List.getElem?_take_of_lt (show 0<1 by omega),List.getElem?_drop,Nat.add_zero]at this;simpa using this
      rw[e1,e2]at r1;cases r1;rfl
     subst hu;have hxz:zs=xs:=CT.Rep.uniq r2 hF
     subst hxz;refine⟨i*e.len+j,?_,?_,r2⟩
     · rw[Nat.mul_comm,Nat.mul_add_mod,Nat.mod_eq_of_lt hjl]
     · have:=Nat.mul_le_mul_right e.len (show i+1<=ys.length from q2);rw[Nat.succ_mul]at this;omega
  | _=>exact⟨λ_=>[],λe ys h=>by rw[hn]at h;cases h⟩
def Jl (en:List (th×Entry)) (g:Gh) (P:th->Nat->List Nat) (c:th×Option Nat) (G:List Nat):Prop :=
 ∃e ys,wW en c.1=some (.frz e ys)/\match c.2 with|none=>G=g.nest c.1|some j=>∃p,p%e.len=j/\p<ys.length*e.len/\G=P c.1 p
theorem CT.chill_sound (hm:zv en g w) {P:th->Nat->List Nat} (hP:∀r,Ld en g w r (P r)) {c:CT} {x:Cell} {v:Value} {y:c.den×List (th×Option Nat)} {L:List th} (hc:xd (dom en) g w x v) (hr:(c.chill x).Runs (wW en) y L) :
 ∃F Gs,CT.Rep w c y.1 v F/\F=Gs.flatten/\xn (Jl en g P) y.2 Gs:=by
 cases c with
 | sl e =>
  cases x<;>try exact hr.elim
  case nil=>obtain⟨rfl,_⟩:=hr;exact⟨[],[],zN.2 (.inl ⟨⟨_,hc⟩,rfl,rfl⟩),rfl,trivial⟩
  case own r =>
   obtain⟨L',_,hr⟩:=hr;dsimp only at hr;split at hr
   · rename_i f ys hn;split at hr
     · rename_i h _;subst h;obtain⟨rfl,_⟩:=hr;obtain⟨_,_,k3,_⟩:=hm.rep r _ hn;obtain⟨_,rfl⟩:=hc;exact⟨_,[g.nest r],k3,by simp,⟨_,ys,hn,rfl⟩,trivial⟩
     · exact hr.elim
   · exact hr.elim
  case kid r j f xs =>
   simp only[CT.chill]at hr;split at hr
   · rename_i h _;subst h;obtain⟨L',_,hr⟩:=hr;dsimp only at hr;split at hr
     · rename_i q ys hn;cases hk:q.slIs j f with
       | false=>rw[hk]at hr;exact hr.elim
       | true =>
        rw[hk]at hr;obtain⟨rfl,_⟩:=hr;obtain⟨p,p1,p2,p3⟩:=(hP r q ys hn).2 j f xs v hc hk;exact⟨_,[P r p],p3,by simp,⟨q,ys,hn,p,p1,p2,rfl⟩,trivial⟩
     · exact hr.elim
   · exact hr.elim
 | int k =>
  obtain⟨a,L1,L2,_,h1,rfl,_⟩:=Rd.runs_bind hr;obtain⟨F,hF,_⟩:=CT.read_sound (c:=.int k) hm hc h1;rw[CT.rep_foot rfl hF]at hF;exact⟨[],[],hF,rfl,trivial⟩
 | bool =>
  obtain⟨a,L1,L2,_,h1,rfl,_⟩:=Rd.runs_bind hr;obtain⟨F,hF,_⟩:=CT.read_sound (c:=.bool) hm hc h1;rw[CT.rep_foot rfl hF]at hF;exact⟨[],[],hF,rfl,trivial⟩
 | str =>
  obtain⟨a,L1,L2,_,h1,rfl,_⟩:=Rd.runs_bind hr;obtain⟨F,hF,_⟩:=CT.read_sound (c:=.str) hm hc h1;rw[CT.rep_foot rfl hF]at hF;exact⟨[],[],hF,rfl,trivial⟩
 | err =>
  obtain⟨a,L1,L2,_,h1,rfl,_⟩:=Rd.runs_bind hr;obtain⟨F,hF,_⟩:=CT.read_sound (c:=.err) hm hc h1;rw[CT.rep_foot rfl hF]at hF;exact⟨[],[],hF,rfl,trivial⟩
theorem Cs.chill_sound (hm:zv en g w) {P:th->Nat->List Nat} (hP:∀r,Ld en g w r (P r)):∀{e:Cs} {xs:List Cell} {vs:List Value} {y:e.den×List (th×Option Nat)} {L:List th},xn (xd (dom en) g w) xs vs->(e.chill xs).Runs (wW en) y L ->
 ∃F Gs,Cs.Rep w e y.1 vs F/\F=Gs.flatten/\xn (Jl en g P) y.2 Gs
 | .one c,[x],[v],y,L,hc,hr=>by
  obtain⟨F,Gs,h1,h2,h3⟩:=CT.chill_sound hm hP hc.1 hr;exact⟨F,Gs,by simp only[Cs.Rep];exact⟨v,rfl,h1⟩,h2,h3⟩
 | .cons c r,x::xs,v::vs,y,L,hc,hr=>by
  simp only[Cs.chill]at hr;obtain⟨a,L1,L2,_,h1,hr⟩:=Rd.runs_bind hr;obtain⟨b,L3,L4,_,h2,hr⟩:=Rd.runs_bind hr;obtain⟨rfl,_⟩:=hr;obtain⟨F1,G1,a1,a2,a3⟩:=CT.chill_sound hm hP hc.1 h1;obtain⟨F2,G2,b1,b2,b3⟩:=Cs.chill_sound hm hP hc.2 h2;exact⟨F1++F2,G1++G2,by simp only[Cs.Rep];exact⟨v,vs,F1,F2,rfl,rfl,a1,b1⟩,by rw[a2,b2,List.flatten_append],a3.append b3⟩
 | .one _,[],_,_,_,_,hr=>hr.elim
 | .one _,_::_::_,_,_,_,_,hr=>hr.elim
 | .cons _ _,[],_,_,_,_,hr=>hr.elim
theorem NZ {P:th->Nat->List Nat} {r:th} {e:Cs} {ys:List e.den} (hn:wW en r=some (.frz e ys)):∀{lo:Nat} {l:List (th×Option Nat)} {Gs:List (List Nat)},Hd r lo l=true->xn (Jl en g P) l Gs ->
 ∃ps:List Nat,Gs=ps.map (P r)/\(∀p∈ps,p<ys.length*e.len/\lo<=p%e.len)/\ps.Nodup
 | _,[],[],_,_=>⟨[],rfl,by simp,List.nodup_nil⟩
 | lo,(s,some j)::l,G::Gs,hk,h=>by
  simp only[Hd,aT]at hk;obtain⟨⟨h1,h2⟩,h3⟩:=hk;obtain rfl:=Nat.eq_of_beq_eq_true h1;obtain⟨⟨e',ys',hn',p,p1,p2,p3⟩,hA⟩:=h;rw[show wW en s=_ from hn]at hn';cases hn';obtain⟨ps,q1,q2,q3⟩:=NZ hn h3 hA;refine⟨p::ps,by rw[q1,p3];rfl,λq hq=>?_,nodup_cons.2 ⟨λhp=>?_,q3⟩⟩
  · rcases mem_cons.1 hq with rfl|hq
    · exact⟨p2,by rw[p1];exact Nat.le_of_ble_eq_true h2⟩
    · obtain⟨z1,z2⟩:=q2 q hq;exact⟨z1,by have:=Nat.le_of_ble_eq_true h2;omega⟩
  · have:=(q2 p hp).2;omega
 | _,(_,none)::_,_::_,hk,_=>by cases hk
theorem O0 (hm:zv en g w) {P:th->Nat->List Nat} (hP:∀r,Ld en g w r (P r)) {l:List (th×Option Nat)} {Gs:List (List Nat)} (hk:Po l=true) (h:xn (Jl en g P) l Gs) :
 (∀b,Gs.flatten.count b<=(zf en g (DG l)).count b)/\z5 g (DG l)=[]/\zy en (DG l)/\∀b∈Gs.flatten,g.I b:=by
 have kidCase:∀(r:th) (j:Nat) (l:List (th×Option Nat)) (Gs:List (List Nat)),Hd r (j+1) l=true->xn (Jl en g P) ((r,some j)::l) Gs ->
  (∀b,Gs.flatten.count b<=(zf en g [(r,.gone)]).count b)/\z5 g [(r,.gone)]=[]/\zy en [(r,.gone)]/\∀b∈Gs.flatten,g.I b:=by
  intro r j l Gs hk h;cases Gs with
  | nil=>exact h.elim
  | cons G Gs =>
   obtain⟨⟨e,ys,hn,_⟩,_⟩:=id h;obtain⟨ps,q1,q2,q3⟩:=NZ (lo:=j) hn (by simp only[Hd,aT];exact⟨⟨by simp,by simp⟩,hk⟩) h;obtain⟨_,k2,_,k4,_⟩:=hm.rep r _ hn;have hcnt:∀b,(G::Gs).flatten.count b<=(g.nest r).count b:=λb=>by
    rw[q1,←List.flatMap_def];exact Nat.le_trans (HQ _ ps q3 (λp hp=>(q2 p hp).1)) ((hP r e ys hn).1 b)
   refine⟨λb=>?_,by simp[z5,Bs,k2],λp hp=>?_,λb hb=>k4 b (DS (hcnt b) hb)⟩
   · simp only[zf,flatMap_cons,List.flatMap_nil,append_nil,B4,hn];exact hcnt b
   · obtain rfl:=mem_singleton.1 hp;exact .inr (.inr (.inr ⟨e,ys,hn,.inl rfl⟩))
 have ownCase:∀(l:List (th×Option Nat)) (Gs:List (List Nat)),(l.all λp=>p.2.isNone)=true->xn (Jl en g P) l Gs ->
  Gs.flatten=zf en g (l.map λp=>(p.1,Entry.gone))/\z5 g (l.map λp=>(p.1,Entry.gone))=[]/\zy en (l.map λp=>(p.1,Entry.gone))/\∀b∈Gs.flatten,g.I b:=by
  intro l
  induction l with
  | nil =>
   intro Gs _ h;cases Gs with
   | nil=>exact⟨rfl,rfl,λp hp=>by simp at hp,λb hb=>by simp at hb⟩
   | cons _ _=>exact h.elim
  | cons c l ih =>
   intro Gs hk h;cases Gs with
   | nil=>exact h.elim
   | cons G Gs =>
    obtain⟨r,x⟩:=c;simp only[all_cons,aT]at hk;cases x with
    | some j=>cases hk.1
    | none =>
     obtain⟨⟨e,ys,hn,hG⟩,hA⟩:=h;obtain⟨i1,i2,i3,i4⟩:=ih Gs hk.2 hA;have hG:G=g.nest r:=hG
     have hn:wW en r=some (.frz e ys):=hn;obtain⟨_,k2,_,k4,_⟩:=hm.rep r _ hn;refine⟨?_,?_,λp hp=>?_,λb hb=>?_⟩
     · rw[List.flatten_cons,i1,map_cons];unfold zf;rw[flatMap_cons];simp[B4,hn,hG]
     · rw[map_cons];unfold z5 at i2 ⊢;rw[flatMap_cons,i2];simp[Bs,k2]
     · rcases mem_cons.1 hp with rfl|hp
       · exact .inr (.inr (.inr ⟨e,ys,hn,.inl rfl⟩))
       · exact i3 p hp
     · rw[List.flatten_cons]at hb;rcases mem_append.1 hb with hb|hb
       · rw[hG]at hb;exact k4 b hb
       · exact i4 b hb
 match l,hk,h with
 | (r,some j)::l,hk,h=>exact kidCase r j l Gs hk h
 | [],hk,h =>
  obtain⟨i1,i2,i3,i4⟩:=ownCase [] Gs rfl h;exact⟨λb=>by rw[i1];exact Nat.le_refl _,i2,i3,i4⟩
 | (r,none)::l,hk,h =>
  obtain⟨i1,i2,i3,i4⟩:=ownCase ((r,none)::l) Gs hk h;exact⟨λb=>by rw[i1];exact Nat.le_refl _,i2,i3,i4⟩
end Go.V

