/- V: a run of the model's code over plain data, and that it is what the machine does. Part 4 of 4. No condition. -/
import Derived.Test.YthcdcolihokdmaaGreatV3
import Derived.Laws.Sem
import Derived.ChangeOld
import Derived.WideShapes
import Derived.ChangeArms
import Derived.Carry
import Derived.Below
open List (all_eq_true any_cons append_assoc append_eq_nil_iff append_nil count_append flatMap_append flatMap_cons length_cons length_take map_append mem_append mem_append_left mem_append_right mem_cons mem_cons_of_mem mem_cons_self mem_map mem_map_of_mem mem_singleton)
set_option linter.unusedVariables false
set_option linter.unusedSimpArgs false
namespace Go.V
variable {w0:World} {T N:Nat->Prop} {en en':List (mF×Entry)} {g g':Gh} {w:World} {I:Nat->Prop}

def oF (en:List (mF×Entry)) (used:List (mF×Entry)):Prop :=
 ∀p∈used,(p.2=.gone/\∃e m xs,mG en p.1=some (.root e m xs))\/(p.2=.gone/\∃cs,mG en p.1=some (.box cs))\/(∃e m xs,mG en p.1=some (.root e m xs)/\p.2=.fwd e xs)\/(∃e xs,mG en p.1=some (.frz e xs)/\(p.2=.gone\/p.2=.fwd e xs))
def qf (g:Gh) (p:mF×Entry):List Nat:=match p.2 with | .gone=>(g.top p.1).toList|_=>[]
def pQ (en:List (mF×Entry)) (g:Gh) (p:mF×Entry):List Nat:=match p.2 with | .gone=>(match mG en p.1 with|some (.root _ true _)=>g.nest p.1|some (.frz _ _)=>g.nest p.1|_=>[])|_=>[]
def od (g:Gh) (used:List (mF×Entry)):List Nat:=used.flatMap (qf g)
def om (en:List (mF×Entry)) (g:Gh) (used:List (mF×Entry)):List Nat:=used.flatMap (pQ en g)
theorem uH {D:mF->Prop} {agg:Bool} {x:AV} {v:Value} (h:nc D g w x v) (ho:qM agg x=true):∃us,isAgg agg v us/\mQ (mJ D g w) x.cells us:=by
 cases x with
 | cell c=>cases agg with
  | true=>cases ho
  | false=>exact⟨[v],.inl ⟨rfl,rfl⟩,h,trivial⟩
 | agg cs=>cases agg with
  | false=>cases ho
  | true=>obtain⟨vs,rfl,k⟩:=h;exact⟨vs.toList,.inr ⟨rfl,rfl⟩,k⟩
 | tup l=>cases agg<;>cases ho
theorem Aw (hm:oA en g w):∀{used:List (mF×Entry)},nb en true false used->od g used=(used.map (·.1)).flatMap (λn=>(g.top n).toList)/\om en g used=(used.map (·.1)).flatMap g.nest/\oF en used/\∀b∈om en g used,g.I b
 | [],_=>⟨rfl,rfl,λp hp=>by simp at hp,by simp[om]⟩
 | p::used,h=>by
  obtain⟨k1,k2,k3,k4⟩:=Aw hm (used:=used) λq hq=>h q (mem_cons_of_mem _ hq);obtain⟨e,m,xs,h1,h2,h3⟩|⟨h0,_⟩:=h p mem_cons_self
  rotate_left
  · cases h0
  obtain rfl:=h2 rfl;have h3:p.2=.gone:=h3
  obtain⟨_,_,hI,_⟩:=nX hm h1;refine⟨?_,?_,λq hq=>?_,λb hb=>?_⟩
  · unfold od at k1 ⊢;rw[flatMap_cons,k1];simp[qf,h3]
  · unfold om at k2 ⊢;rw[flatMap_cons,k2];simp[pQ,h3,h1]
  · rcases mem_cons.1 hq with rfl|hq
    · exact .inl ⟨h3,e,true,xs,h1⟩
    · exact k3 q hq
  · unfold om at hb k4;rw[flatMap_cons]at hb;rcases mem_append.1 hb with hb|hb
    · simp[pQ,h3,h1]at hb;exact hI b hb
    · exact k4 b hb
theorem By:∀{used:List (mF×Entry)},nb en false true used->od g used=[]/\om en g used=[]/\oF en used
 | [],_=>⟨rfl,rfl,λp hp=>by simp at hp⟩
 | p::used,h=>by
  obtain⟨k1,k2,k3⟩:=By (used:=used) λq hq=>h q (mem_cons_of_mem _ hq);obtain⟨e,m,xs,h1,h2,h3⟩|⟨_,e,xs,h1,h3⟩:=h p mem_cons_self
  rotate_left
  · refine⟨?_,?_,λq hq=>?_⟩
    · unfold od at k1 ⊢;rw[flatMap_cons,k1];simp[qf,h3]
    · unfold om at k2 ⊢;rw[flatMap_cons,k2];simp[pQ,h3]
    · rcases mem_cons.1 hq with rfl|hq
      · exact .inr (.inr (.inr ⟨e,xs,h1,.inr h3⟩))
      · exact k3 q hq
  have h3:p.2=.fwd e xs:=h3;refine⟨?_,?_,λq hq=>?_⟩
  · unfold od at k1 ⊢;rw[flatMap_cons,k1];simp[qf,h3]
  · unfold om at k2 ⊢;rw[flatMap_cons,k2];simp[pQ,h3]
  · rcases mem_cons.1 hq with rfl|hq
    · exact .inr (.inr (.inl ⟨e,m,xs,h1,h3⟩))
    · exact k3 q hq
theorem CT.own_gifts (hI:∀b,g.I b->I b) {c:CT} {x:c.den} {v:Value} {ns:List mF} (h:CT.Own false g w c x v ns) (hn:∀b∈ns.flatMap g.nest,g.I b):CT.Gifts I w c x v (ns.flatMap λn=>(g.top n).toList) (ns.flatMap g.nest):=by
 cases c with
 | sl e =>
  rcases h with ⟨rfl,rfl,rfl⟩|⟨n,rfl,rfl,h⟩
  · exact⟨none,rfl,.inl ⟨rfl,rfl,rfl,rfl⟩,by simp⟩
  · exact⟨g.top n,by simp,by simpa using h.resolve_right (λh=>by cases h.1),λb hb=>hI b (hn b hb)⟩
 | int=>obtain⟨rfl,h⟩:=h;exact⟨rfl,rfl,h⟩
 | bool=>obtain⟨rfl,h⟩:=h;exact⟨rfl,rfl,h⟩
 | str=>obtain⟨rfl,h⟩:=h;exact⟨rfl,rfl,h⟩
 | err=>obtain⟨rfl,h⟩:=h;exact⟨rfl,rfl,h⟩
theorem Cs.own_gifts (hI:∀b,g.I b->I b):{c:Cs}->{x:c.den}->{us:List Value}->{ns:List mF}->Cs.Own false g w c x us ns->(∀b∈ns.flatMap g.nest,g.I b)->Cs.Gifts I w c x us (ns.flatMap λn=>(g.top n).toList) (ns.flatMap g.nest)
 | .one c,x,us,ns,h,hn=>by obtain⟨v,rfl,h⟩:=h;exact⟨v,rfl,CT.own_gifts hI h hn⟩
 | .cons c r,x,us,ns,h,hn=>by
  obtain⟨v,vs',n1,n2,rfl,rfl,h1,h2⟩:=h;rw[flatMap_append,flatMap_append];rw[flatMap_append]at hn;exact⟨v,vs',_,_,_,_,rfl,rfl,rfl,CT.own_gifts hI h1 λb hb=>hn b (mem_append_left _ hb),Cs.own_gifts hI h2 λb hb=>hn b (mem_append_right _ hb)⟩
structure AQ (en:List (mF×Entry)) (g:Gh) (I:Nat->Prop) (used:List (mF×Entry)) (ro:List mF):Prop where
 old:∀b,g.I b->I b
 fwd:∀p∈used,∀e xs,p.2=.fwd e xs->∀b,g.top p.1=some b->I b
 lent:∀n∈ro,∀f b,mG en n=some f->f.alive=true->g.top n=some b->I b
theorem oF.append {u v:List (mF×Entry)} (h:oF en u) (k:oF en v):oF en (u++v):=λp hp=>(mem_append.1 hp).elim (h p) (k p)
theorem CT.into_top (hI:∀b,g.I b->I b) (hm:oA en g w) {c:CT} {x:Cell} {v:Value} {y:c.den×List (mF×Entry)} {L:List mF} (hc:mJ (dom en) g w x v) (hr:(c.into false false x).Runs (mG en) y L) :
 ∃ns,CT.Gifts I w c y.1 v (od g y.2) ns/\oF en y.2:=by
 cases hs:c.isSl with
 | true =>
  cases c with
  | sl e =>
   obtain⟨a,L1,L2,_,h1,h2⟩:=Rd.runs_bind (show (AN e x).Runs (mG en) y L from hr);obtain⟨rfl,_⟩:=h2;rcases x8 hm hc h1 with ⟨rfl,rfl⟩|⟨xs,r,m,F,rfl,⟨ys,hn⟩,hrep,hcnt⟩
   · exact⟨[],⟨none,rfl,.inl ⟨rfl,rfl,rfl,rfl⟩,by simp⟩,by intro p hp;simp at hp⟩
   · obtain⟨_,_,hnI,_⟩:=nX hm hn;refine⟨F,⟨g.top r,by simp[od,qf],hrep,λb hb=>hI b (hnI b ?_)⟩,λp hp=>?_⟩
     · have h1:=List.count_pos_iff.2 hb;have h2:=hcnt b
       exact List.count_pos_iff.1 (by omega)
     · obtain rfl:=mem_singleton.1 hp;exact .inl ⟨rfl,e,m,ys,hn⟩
  | int=>simp[CT.isSl]at hs
  | bool=>simp[CT.isSl]at hs
  | str=>simp[CT.isSl]at hs
  | err=>simp[CT.isSl]at hs
 | false =>
  obtain⟨h1,L',h2⟩:=CT.into_scalar hs hr;obtain⟨F,hF,_⟩:=CT.read_sound hm hc h2;have ho:=CT.Own_of_rep (kp:=false) (g:=g) hs ⟨F,hF⟩
  rw[h1];exact⟨[],CT.own_gifts hI ho (by simp),by intro p hp;simp at hp⟩
theorem Cs.into_top (hI:∀b,g.I b->I b) (hm:oA en g w):{e:Cs}->{xs:List Cell}->{vs:List Value}->{y:e.den×List (mF×Entry)}->{L:List mF}->mQ (mJ (dom en) g w) xs vs->(e.into false false xs).Runs (mG en) y L ->
 ∃ns,Cs.Gifts I w e y.1 vs (od g y.2) ns/\oF en y.2
 | .one c,[],_,_,_,_,hr=>hr.elim
 | .one c,[x],[v],y,L,hc,hr=>by
  obtain⟨ns,h1,h2⟩:=CT.into_top hI hm hc.1 hr;exact⟨ns,⟨v,rfl,h1⟩,h2⟩
 | .one c,_::_::_,_,_,_,_,hr=>hr.elim
 | .cons c r,[],_,_,_,_,hr=>hr.elim
 | .cons c r,x::xs,v::vs,y,L,hc,hr=>by
  simp only[Cs.into]at hr;obtain⟨a,L1,L2,rfl,h1,hr⟩:=Rd.runs_bind hr;obtain⟨b,L3,L4,rfl,h2,hr⟩:=Rd.runs_bind hr;obtain⟨rfl,_⟩:=hr;obtain⟨n1,k1,k2⟩:=CT.into_top hI hm hc.1 h1;obtain⟨n2,k3,k4⟩:=Cs.into_top hI hm hc.2 h2;exact⟨n1++n2,⟨v,vs,od g a.2,od g b.2,n1,n2,rfl,flatMap_append,rfl,k1,k3⟩,k2.append k4⟩
theorem s8 (hm:oA en g w) {own:Option Bool} {c:Cs} {xs:List Cell} {us:List Value} {y:c.den×List (mF×Entry)} {L:List mF} (hc:mQ (mJ (dom en) g w) xs us) (hr:(c.intoO own xs).Runs (mG en) y L) {used:List (mF×Entry)} {ro:List mF}
 (hs:AQ en g I used ro) (hsub:∀p∈y.2,p∈used):qP I w own c y.1 us (od g y.2) (om en g y.2)/\oF en y.2:=by
 cases own with
 | some m =>
  cases m with
  | true =>
   obtain⟨h1,h2⟩:=Cs.into_own hm hc hr;obtain⟨k1,k2,k3,k4⟩:=Aw hm h2;refine⟨.inl ⟨true,_,rfl,?_,λ_=>rfl⟩,k3⟩;rw[k2]at k4;rw[k1,k2];exact Cs.own_gifts hs.old h1 k4
  | false =>
   obtain⟨ns',h1,h2⟩:=Cs.into_top hs.old hm hc hr;exact⟨.inl ⟨false,ns',rfl,h1,(λh=>by cases h)⟩,h2⟩
 | none =>
  obtain⟨⟨F,h1,h3⟩,h2⟩:=Cs.into_shared hm hc hr;obtain⟨k1,k2,k3⟩:=By (g:=g) h2;refine⟨.inr ⟨rfl,k1,k2,F,h1,λb hb=>?_⟩,k3⟩;rcases h3 b hb with h|⟨n,hn,f,hf,ha,ht⟩
  · exact hs.old b h
  · obtain⟨p,hp,rfl⟩:=mem_map.1 hn;obtain⟨e,m,xs',e1,_,e3⟩|⟨_,e,xs',e1,e3⟩:=h2 p hp
    · exact hs.fwd p (hsub p hp) e xs' e3 b ht
    · rw[e1]at hf;cases hf;cases ha
def qr (en:List (mF×Entry)) (g:Gh) (used:List (mF×Entry)):List nB->List Value->List mF->Prop
 | [],_,ns=>ns=[]
 | _::_,[],_=>False
 | .val .. :: ps,_::vs,ns=>qr en g used ps vs ns
 | .ptr .. :: ps,v::vs,ns=>∃n ns',ns=n::ns'/\(n,.gone)∈used/\(∃cs,mG en n=some (.box cs))/\g.loc n=v/\qr en g used ps vs ns'
theorem qr.mono {used used':List (mF×Entry)} (h:∀p∈used,p∈used'):∀{ps:List nB} {vs:List Value} {ns:List mF},qr en g used ps vs ns->qr en g used' ps vs ns
 | [],_,_,k=>k
 | .val .. :: ps,v::vs,ns,k=>qr.mono (ps:=ps) (vs:=vs) h k
 | .ptr .. :: ps,v::vs,ns,⟨n,ns',k1,k2,k3,k4,k5⟩=>⟨n,ns',k1,h _ k2,k3,k4,qr.mono h k5⟩
 | .val .. :: _,[],_,k=>k
 | .ptr .. :: _,[],_,k=>k
theorem uI (hm:oA en g w) {sl:Bool}:∀{ps:List nB} {args:List AV} {vals:List Value} {b:w6 (mY ps)} {L:List mF},mQ (nc (dom en) g w) args vals->(nT sl ps args).Runs (mG en) b L->AQ en g I b.used b.ro ->
 qq I w ps b.args vals (od g b.used) (om en g b.used)/\oF en b.used/\qr en g b.used ps vals b.ptrs
 | [],[],[],b,L,_,hr,_=>by obtain⟨rfl,_⟩:=hr;exact⟨⟨rfl,rfl,rfl⟩,λp hp=>by simp at hp,rfl⟩
 | .val agg c false::ps,v::args,u::vals,b,L,ha,hr,hs=>by
  simp only[nT]at hr;obtain⟨_,L5,L6,_,h0,hr⟩:=Rd.runs_bind hr;obtain⟨a,L1,L2,_,h1,hr⟩:=Rd.runs_bind hr;obtain⟨b',L3,L4,_,h2,hr⟩:=Rd.runs_bind hr;obtain⟨rfl,_⟩:=hr;obtain⟨us,hag,hcs⟩:=uH ha.1 (Rd.runs_need h0).1;obtain⟨k1,k2,k3⟩:=uI hm ha.2 h2 ⟨hs.old,λp hp=>hs.fwd p (mem_append_right _ hp),λn hn=>hs.lent n (mem_append_right _ hn)⟩;cases sl with
  | true =>
   obtain⟨k4,k5⟩:=s8 (own:=none) hm hcs h1 hs (λp hp=>mem_append_left _ hp);refine⟨⟨u,vals,us,_,_,_,_,rfl,hag,flatMap_append,flatMap_append,?_,?_⟩,k5.append k2,qr.mono (ps:=ps) (vs:=vals) (λp hp=>mem_append_right _ hp) k3⟩
   · show qP I w none c (mI.hd c (mY ps) (mI.mk c (mY ps) a.1 b'.args)) us _ _;rw[mI.hd_mk];exact k4
   · show qq I w ps (mI.tl c (mY ps) (mI.mk c (mY ps) a.1 b'.args)) vals _ _;rw[mI.tl_mk];exact k1
  | false =>
   obtain⟨y,_,_,_,h3,h4⟩:=Rd.runs_bind h1;obtain⟨rfl,_⟩:=h4;obtain⟨F,hF,hFI⟩:=Cs.read_sound hm hcs h3;refine⟨⟨u,vals,us,[],od g b'.used,[],om en g b'.used,rfl,hag,by simp,by simp,.inr ⟨rfl,rfl,rfl,F,?_,λq hq=>?_⟩,?_⟩,k2,qr.mono (ps:=ps) (vs:=vals) (λp hp=>hp) k3⟩
   · show Cs.Rep w c (mI.hd c (mY ps) (mI.mk c (mY ps) y b'.args)) us F;rw[mI.hd_mk];exact hF
   · rcases hFI q hq with h|⟨n,hn,f,hf,hal,ht⟩
     · exact hs.old q h
     · exact hs.lent n (mem_append_left _ hn) f q hf hal ht
   · show qq I w ps (mI.tl c (mY ps) (mI.mk c (mY ps) y b'.args)) vals _ _;rw[mI.tl_mk];exact k1
 | .val agg c true::ps,v::args,u::vals,b,L,ha,hr,hs=>by
  simp only[nT]at hr;obtain⟨_,L5,L6,_,h0,hr⟩:=Rd.runs_bind hr;obtain⟨a,L1,L2,_,h1,hr⟩:=Rd.runs_bind hr;obtain⟨b',L3,L4,_,h2,hr⟩:=Rd.runs_bind hr;obtain⟨rfl,_⟩:=hr;obtain⟨us,hag,hcs⟩:=uH ha.1 (Rd.runs_need h0).1;obtain⟨k1,k2,k3⟩:=uI hm ha.2 h2 ⟨hs.old,λp hp=>hs.fwd p (mem_append_right _ hp),hs.lent⟩;obtain⟨k4,k5⟩:=s8 (own:=some true) hm hcs h1 hs (λp hp=>mem_append_left _ hp);refine⟨⟨u,vals,us,_,_,_,_,rfl,hag,flatMap_append,flatMap_append,?_,?_⟩,k5.append k2,qr.mono (ps:=ps) (vs:=vals) (λp hp=>mem_append_right _ hp) k3⟩
  · show qP I w (some true) c (mI.hd c (mY ps) (mI.mk c (mY ps) a.1 b'.args)) us _ _;rw[mI.hd_mk];exact k4
  · show qq I w ps (mI.tl c (mY ps) (mI.mk c (mY ps) a.1 b'.args)) vals _ _;rw[mI.tl_mk];exact k1
 | .ptr c own::ps,.cell (.box n 0)::args,u::vals,b,L,ha,hr,hs=>by
  simp only[nT]at hr;obtain⟨L',_,hr⟩:=hr;dsimp only at hr;split at hr
  · rename_i cs hn;obtain⟨a,L1,L2,_,h1,hr⟩:=Rd.runs_bind hr;obtain⟨b',L3,L4,_,h2,hr⟩:=Rd.runs_bind hr;obtain⟨rfl,_⟩:=hr;obtain⟨k1,k2,k3⟩:=uI hm ha.2 h2 ⟨hs.old,λp hp=>hs.fwd p (mem_cons_of_mem _ (mem_append_right _ hp)),hs.lent⟩;obtain⟨blk,us,e1,e2,e3,e4⟩:=hm.rep n _ hn;obtain⟨k4,k5⟩:=s8 (own:=own) hm e4 h1 hs (λp hp=>mem_cons_of_mem _ (mem_append_left _ hp));obtain⟨_,blk',e5,e6⟩:=ha.1;rw[e2]at e5;cases e5;refine⟨⟨blk,vals,us,od g a.2,od g b'.used,om en g a.2,om en g b'.used,?_,e3,?_,?_,?_,?_⟩,?_,n,b'.ptrs,rfl,mem_cons_self,⟨cs,hn⟩,e2.trans e6.symm,qr.mono (λp hp=>mem_cons_of_mem _ (mem_append_right _ hp)) k3⟩
    · rw[e6]
    · show ((n,Entry.gone)::(a.2++b'.used)).flatMap (qf g)=_;rw[flatMap_cons,flatMap_append];simp[qf,e1,od]
    · show ((n,Entry.gone)::(a.2++b'.used)).flatMap (pQ en g)=_;rw[flatMap_cons,flatMap_append];simp[pQ,hn,om]
    · show qP I w own c (mI.hd c (mY ps) (mI.mk c (mY ps) a.1 b'.args)) us _ _;rw[mI.hd_mk];exact k4
    · show qq I w ps (mI.tl c (mY ps) (mI.mk c (mY ps) a.1 b'.args)) vals _ _;rw[mI.tl_mk];exact k1
    · intro p hp;rcases mem_cons.1 hp with rfl|hp
      · exact .inr (.inl ⟨rfl,cs,hn⟩)
      · exact (k5.append k2) p hp
  · exact hr.elim
 | .val _ _ false::_,[],_,_,_,_,hr,_=>hr.elim
 | .val _ _ true::_,[],_,_,_,_,hr,_=>hr.elim
 | .ptr _ _::_,[],_,_,_,_,hr,_=>hr.elim
end Go.V
namespace Go.V
variable {w0:World} {T N:Nat->Prop} {en en':List (mF×Entry)} {g g':Gh} {w:World} {I:Nat->Prop}

theorem Fu {b off:Nat} {vs us:List Value} (h:row w b off vs) (k:row w b off us) (hl:vs.length=us.length):vs=us:=by
 obtain⟨c,t,fz,h1,h2⟩:=h;obtain⟨c',t',fz',k1,k2⟩:=k;rw[h1]at k1;cases k1;rw[←h2,←k2,hl]
theorem mS.uniq {α:Type} {n:Nat} {R:α->List Value->List Nat->Prop} (hR:∀x y v F G,R x v F->R y v G->x=y):∀{xs ys:List α} {vs:List Value} {F G:List Nat},xs.length=ys.length->mS n R xs vs F->mS n R ys vs G->xs=ys
 | [],[],_,_,_,_,_,_=>rfl
 | x::xs,y::ys,vs,F,G,hl,h,k=>by
  obtain⟨v1,v2,F1,F2,rfl,h1,rfl,hr,h⟩:=h;obtain⟨u1,u2,G1,G2,he,k1,rfl,kr,k⟩:=k;obtain⟨rfl,rfl⟩:=List.append_inj he (by omega);rw[hR x y v1 F1 G1 hr kr,mS.uniq hR (by simpa using hl) h k]
 | [],_::_,_,_,_,hl,_,_=>by simp at hl
 | _::_,[],_,_,_,hl,_,_=>by simp at hl
mutual
theorem CT.Rep.uniq:∀{c:CT} {x y:c.den} {v:Value} {F G:List Nat},CT.Rep w c x v F->CT.Rep w c y v G->x=y
 | .int k,x,y,v,F,G,h,h'=>by
  simp only[CT.Rep]at h h';have:=h.1.symm.trans h'.1
  cases this;rfl
 | .bool,x,y,v,F,G,h,h'=>by
  simp only[CT.Rep]at h h';have:=h.1.symm.trans h'.1
  cases this;rfl
 | .str,x,y,v,F,G,h,h'=>by
  simp only[CT.Rep]at h h';have:=h.1.symm.trans h'.1
  simp only[Value.string.injEq]at this;have:=congrArg (λb:ByteArray=>b.data.toList) this
  simpa using this
 | .err,x,y,v,F,G,h,h'=>by
  simp only[CT.Rep]at h h';rcases h.2 with ⟨h1,h2⟩|⟨h1,t,u,h2⟩<;>rcases h'.2 with ⟨k1,k2⟩|⟨k1,t',u',k2⟩
  · rw[h1,k1]
  · rw[h2]at k2;cases k2
  · rw[h2]at k2;cases k2
  · rw[h1,k1]
 | .sl e,x,y,v,F,G,h,h'=>by
  rw[oM]at h h';rcases h with ⟨⟨a,h1⟩,h2,_⟩|⟨b,off,cap,vs,F',h1,_,h3,h4,h5,h6⟩<;>rcases h' with ⟨⟨a',k1⟩,k2,_⟩|⟨b',off',cap',vs',G',k1,_,k3,k4,k5,k6⟩
  · rw[h2,k2]
  · rw[h1]at k1;have:y.length=0:=by simp only[Value.slice.injEq]at k1;exact k1.2.1.symm
    rw[h2];exact (List.eq_nil_of_length_eq_zero this).symm
  · rw[k1]at h1;have:x.length=0:=by simp only[Value.slice.injEq]at h1;exact h1.2.1.symm
    rw[k2];exact List.eq_nil_of_length_eq_zero this
  · rw[h1]at k1;simp only[Value.slice.injEq,Option.some.injEq,Addr.mk.injEq]at k1;obtain⟨⟨rfl,rfl,_⟩,hl,_⟩:=k1;have e1:=h6.length
    have e2:=k6.length;have:=Fu h5 k5 (by rw[e1,e2,hl])
    subst this;exact mS.uniq (R:=Cs.Rep w e) (λx y v F G h k=>Cs.Rep.uniq h k) hl h6 k6
theorem Cs.Rep.uniq:∀{e:Cs} {x y:e.den} {vs:List Value} {F G:List Nat},Cs.Rep w e x vs F->Cs.Rep w e y vs G->x=y
 | .one c,x,y,vs,F,G,h,k=>by
  simp only[Cs.Rep]at h k;obtain⟨v,rfl,h⟩:=h;obtain⟨u,hu,k⟩:=k;cases hu;exact CT.Rep.uniq h k
 | .cons c r,x,y,vs,F,G,h,k=>by
  simp only[Cs.Rep]at h k;obtain⟨v,vs',F1,F2,rfl,rfl,h1,h2⟩:=h;obtain⟨u,us',G1,G2,hu,rfl,k1,k2⟩:=k;cases hu;exact Prod.ext (CT.Rep.uniq h1 k1) (Cs.Rep.uniq h2 k2)
end
theorem Cs.slIs_lt:∀{e:Cs} {j:Nat} {f:Cs},e.slIs j f=true->j<e.len
 | .one c,0,_,_=>by simp[Cs.len]
 | .one c,j+1,f,h=>by cases c<;>simp[Cs.slIs]at h
 | .cons c r,0,_,_=>by simp[Cs.len]
 | .cons c r,j+1,f,h=>by
  have h:r.slIs j f=true:=by cases c<;>exact h
  have:=Cs.slIs_lt h;simp[Cs.len];omega
theorem yf (n m:Nat) (P:Nat->List Nat):(List.range (n+m)).flatMap P=(List.range n).flatMap P++(List.range m).flatMap λk=>P (n+k):=by
 rw[List.range_add,flatMap_append,List.flatMap_map]
theorem Cs.Rep.feet:∀{e:Cs} {x:e.den} {vs:List Value} {F:List Nat},Cs.Rep w e x vs F->∃P:Nat->List Nat,F=(List.range e.len).flatMap P/\∀j f,e.slIs j f=true->∃v zs,vs[j]?=some v/\CT.Rep w (.sl f) zs v (P j)
 | .one c,x,vs,F,h=>by
  simp only[Cs.Rep]at h;obtain⟨v,rfl,h⟩:=h;refine⟨λ_=>F,by simp[Cs.len],λj f hj=>?_⟩;obtain rfl:j=0:=by have:=Cs.slIs_lt hj;simp[Cs.len]at this;exact this
  cases c with
  | sl e =>
   obtain rfl:=oS (show nF e f=true from hj);exact⟨v,x,rfl,h⟩
  | _=>cases hj
 | .cons c r,x,vs,F,h=>by
  simp only[Cs.Rep]at h;obtain⟨v,vs',F1,F2,rfl,rfl,h1,h2⟩:=h;obtain⟨P,hP,hk⟩:=Cs.Rep.feet h2;refine⟨fun|0=>F1|k+1=>P k,?_,λj f hj=>?_⟩
  · rw[show Cs.len (.cons c r)=1+r.len by simp[Cs.len];omega,yf,hP]
    congr 1
    · simp
    · congr 1;funext k;rw[show 1+k=k+1 by omega]
  · cases j with
    | zero =>
     cases c with
     | sl e =>
      obtain rfl:=oS (show nF e f=true from hj);exact⟨v,x.1,rfl,h1⟩
     | _=>cases hj
    | succ j =>
     obtain⟨u,zs,k1,k2⟩:=hk j f (by cases c<;>exact hj);exact⟨u,zs,by simpa using k1,k2⟩
theorem xk {α β:Type} {f g:α->List β} {l:List α} (h:∀x∈l,f x=g x):l.flatMap f=l.flatMap g:=by
 rw[List.flatMap_def,List.flatMap_def,List.map_congr_left h]
theorem mS.feet {e:Cs}:∀{ys:List e.den} {vs:List Value} {F:List Nat},mS e.len (Cs.Rep w e) ys vs F->∃P:Nat->List Nat,F=(List.range (ys.length*e.len)).flatMap P/\∀i j f,i<ys.length->e.slIs j f=true->∃v zs,vs[i*e.len+j]?=some v/\CT.Rep w (.sl f) zs v (P (i*e.len+j))
 | [],vs,F,h=>by obtain⟨_,rfl⟩:=h;exact⟨λ_=>[],by simp,λi j f hi=>by simp at hi⟩
 | y::ys,vs,F,h=>by
  obtain⟨v1,v2,F1,F2,rfl,hv,rfl,hr,h⟩:=h;obtain⟨P1,p1,p2⟩:=Cs.Rep.feet hr;obtain⟨P2,q1,q2⟩:=mS.feet h;refine⟨λp=>if p<e.len then P1 p else P2 (p-e.len),?_,λi j f hi hj=>?_⟩
  · rw[show (y::ys).length*e.len=e.len+ys.length*e.len by rw[length_cons,Nat.succ_mul];omega,yf,p1,q1]
    congr 1
    · refine xk λp hp=>?_;rw[if_pos (List.mem_range.1 hp)]
    · refine xk λp hp=>?_;rw[if_neg (by omega),Nat.add_sub_cancel_left]
  · have hjl:=Cs.slIs_lt hj;cases i with
    | zero =>
     obtain⟨v,zs,k1,k2⟩:=p2 j f hj;refine⟨v,zs,?_,?_⟩
     · rw[Nat.zero_mul,Nat.zero_add,List.getElem?_append_left (by omega)];exact k1
     · rw[Nat.zero_mul,Nat.zero_add];simp only[if_pos hjl];exact k2
    | succ i =>
     obtain⟨v,zs,k1,k2⟩:=q2 i j f (by simpa using hi) hj;have e1:(i+1)*e.len+j=e.len+(i*e.len+j):=by rw[Nat.succ_mul];omega
     refine⟨v,zs,?_,?_⟩
     · rw[e1,List.getElem?_append_right (by omega),hv,Nat.add_sub_cancel_left];exact k1
     · rw[e1];simp only[if_neg (show ¬e.len+(i*e.len+j)<e.len by omega),Nat.add_sub_cancel_left];exact k2
theorem wl {P:Nat->List Nat} {b:Nat}:∀(n:Nat) (ps:List Nat),ps.Nodup->(∀p∈ps,p<n)->(ps.flatMap P).count b<=((List.range n).flatMap P).count b
 | 0,ps,_,h=>by
  cases ps with
  | nil=>simp
  | cons p ps=>have:=h p (by simp);omega
 | n+1,ps,hn,h=>by
  rw[List.range_succ,flatMap_append,count_append];by_cases hm:n∈ps
  · have h1:=List.perm_cons_erase hm;have h2:(ps.flatMap P).count b=((n::ps.erase n).flatMap P).count b:=by
     rw[List.count_flatMap,List.count_flatMap];exact (h1.map _).sum_nat
    rw[h2,flatMap_cons,count_append];have h3:=wl n (ps.erase n) (hn.erase n) (λp hp=>by
     have h4:=h p (List.mem_of_mem_erase hp);have h5:p≠n:=λe=>by subst e;exact (List.Nodup.not_mem_erase hn) hp
     omega) (P:=P) (b:=b)
    simp only[flatMap_cons,List.flatMap_nil,append_nil];omega
  · have h3:=wl n ps hn (λp hp=>by
     have h4:=h p hp;have h5:p≠n:=λe=>by subst e;exact hm hp
     omega) (P:=P) (b:=b)
    omega
def zm (en:List (mF×Entry)) (g:Gh) (w:World) (r:mF) (P:Nat->List Nat):Prop :=
 ∀e ys,mG en r=some (.frz e ys)->(∀b,((List.range (ys.length*e.len)).flatMap P).count b<=(g.nest r).count b) /\
  ∀j f (xs:List f.den) v,mJ (dom en) g w (.kid r j f xs) v->e.slIs j f=true->∃p,p%e.len=j/\p<ys.length*e.len/\CT.Rep w (.sl f) xs v (P p)
theorem GF (hm:oA en g w):∃P:mF->Nat->List Nat,∀r,zm en g w r (P r):=by
 apply Classical.skolem.1;intro r;cases hn:mG en r with
 | none=>exact⟨λ_=>[],λe ys h=>by rw[hn]at h;cases h⟩
 | some E =>
  cases E with
  | frz e ys =>
   obtain⟨k1,k2,k3,k4,k5⟩:=hm.rep r _ hn;rw[oM]at k3;rcases k3 with ⟨⟨a,h1⟩,rfl,h3⟩|⟨b,off,cap,vs,F',h1,h2,h3,h4,h5,h6⟩
   · refine⟨λ_=>[],λe' ys' h=>?_⟩;rw[hn]at h;cases h;refine⟨λb=>by simp,λj f xs v hv hj=>?_⟩;obtain⟨_,_,b,o,len,cap,i,q1,q2,_⟩:=hv;rw[h1]at q1;cases q1;omega
   · obtain⟨P,p1,p2⟩:=mS.feet h6;refine⟨P,λe' ys' h=>?_⟩;rw[hn]at h;cases h;refine⟨λc=>by rw[←p1,h2,List.count_cons];omega,λj f xs v hv hj=>?_⟩;obtain⟨⟨F,hF,_⟩,_,b',o,len,cap',i,q1,q2,q3,q4⟩:=hv;rw[h1]at q1;cases q1;have hjl:=Cs.slIs_lt hj
     obtain⟨u,zs,r1,r2⟩:=p2 i j f q2 hj;have hvl:=h6.length
     have hu:u=v:=by
      rw[k1]at q4;have hlt:i*e.len+j<vs.length:=(List.getElem?_eq_some_iff.1 r1).1
      obtain⟨c,t,fz,hc,hr⟩:=h5;obtain⟨c',t',fz',hc',hr'⟩:=q4;rw[hc]at hc';cases hc';have e1:vs[i*e.len+j]?=c.toList[off+(i*e.len+j)]?:=by
       rw[←hr,List.getElem?_take_of_lt hlt,List.getElem?_drop]
      have e2:c.toList[off+(i*e.len+j)]?=some v:=by
       have:=congrArg (λl:List Value=>l[0]?) hr';simp only[List.length_singleton,List.getElem?_take_of_lt (show 0<1 by omega),List.getElem?_drop,Nat.add_zero]at this;simpa using this
      rw[e1,e2]at r1;cases r1;rfl
     subst hu;have hxz:zs=xs:=CT.Rep.uniq r2 hF
     subst hxz;refine⟨i*e.len+j,?_,?_,r2⟩
     · rw[Nat.mul_comm,Nat.mul_add_mod,Nat.mod_eq_of_lt hjl]
     · have:=Nat.mul_le_mul_right e.len (show i+1<=ys.length from q2);rw[Nat.succ_mul]at this;omega
  | _=>exact⟨λ_=>[],λe ys h=>by rw[hn]at h;cases h⟩
def xM (en:List (mF×Entry)) (g:Gh) (P:mF->Nat->List Nat) (c:mF×Option Nat) (G:List Nat):Prop :=
 ∃e ys,mG en c.1=some (.frz e ys)/\match c.2 with|none=>G=g.nest c.1|some j=>∃p,p%e.len=j/\p<ys.length*e.len/\G=P c.1 p
theorem CT.chill_sound (hm:oA en g w) {P:mF->Nat->List Nat} (hP:∀r,zm en g w r (P r)) {c:CT} {x:Cell} {v:Value} {y:c.den×List (mF×Option Nat)} {L:List mF} (hc:mJ (dom en) g w x v) (hr:(c.chill x).Runs (mG en) y L) :
 ∃F Gs,CT.Rep w c y.1 v F/\F=Gs.flatten/\mQ (xM en g P) y.2 Gs:=by
 cases c with
 | sl e =>
  cases x<;>try exact hr.elim
  case nil=>obtain⟨rfl,_⟩:=hr;exact⟨[],[],oM.2 (.inl ⟨⟨_,hc⟩,rfl,rfl⟩),rfl,trivial⟩
  case own r =>
   obtain⟨L',_,hr⟩:=hr;dsimp only at hr;split at hr
   · rename_i f ys hn;split at hr
     · rename_i h _;subst h;obtain⟨rfl,_⟩:=hr;obtain⟨_,_,k3,_⟩:=hm.rep r _ hn;obtain⟨_,rfl⟩:=hc;exact⟨_,[g.nest r],k3,by simp,⟨_,ys,hn,rfl⟩,trivial⟩
     · exact hr.elim
   · exact hr.elim
  case kid r j f xs =>
   simp only[CT.chill]at hr;split at hr
   · rename_i h _;subst h;obtain⟨L',_,hr⟩:=hr;dsimp only at hr;split at hr
     · rename_i q ys hn;cases hk:q.slIs j f with
       | false=>rw[hk]at hr;exact hr.elim
       | true =>
        rw[hk]at hr;obtain⟨rfl,_⟩:=hr;obtain⟨p,p1,p2,p3⟩:=(hP r q ys hn).2 j f xs v hc hk;exact⟨_,[P r p],p3,by simp,⟨q,ys,hn,p,p1,p2,rfl⟩,trivial⟩
     · exact hr.elim
   · exact hr.elim
 | int k =>
  obtain⟨a,L1,L2,_,h1,rfl,_⟩:=Rd.runs_bind hr;obtain⟨F,hF,_⟩:=CT.read_sound (c:=.int k) hm hc h1;rw[CT.rep_foot rfl hF]at hF;exact⟨[],[],hF,rfl,trivial⟩
 | bool =>
  obtain⟨a,L1,L2,_,h1,rfl,_⟩:=Rd.runs_bind hr;obtain⟨F,hF,_⟩:=CT.read_sound (c:=.bool) hm hc h1;rw[CT.rep_foot rfl hF]at hF;exact⟨[],[],hF,rfl,trivial⟩
 | str =>
  obtain⟨a,L1,L2,_,h1,rfl,_⟩:=Rd.runs_bind hr;obtain⟨F,hF,_⟩:=CT.read_sound (c:=.str) hm hc h1;rw[CT.rep_foot rfl hF]at hF;exact⟨[],[],hF,rfl,trivial⟩
 | err =>
  obtain⟨a,L1,L2,_,h1,rfl,_⟩:=Rd.runs_bind hr;obtain⟨F,hF,_⟩:=CT.read_sound (c:=.err) hm hc h1;rw[CT.rep_foot rfl hF]at hF;exact⟨[],[],hF,rfl,trivial⟩
theorem Cs.chill_sound (hm:oA en g w) {P:mF->Nat->List Nat} (hP:∀r,zm en g w r (P r)):∀{e:Cs} {xs:List Cell} {vs:List Value} {y:e.den×List (mF×Option Nat)} {L:List mF},mQ (mJ (dom en) g w) xs vs->(e.chill xs).Runs (mG en) y L ->
 ∃F Gs,Cs.Rep w e y.1 vs F/\F=Gs.flatten/\mQ (xM en g P) y.2 Gs
 | .one c,[x],[v],y,L,hc,hr=>by
  obtain⟨F,Gs,h1,h2,h3⟩:=CT.chill_sound hm hP hc.1 hr;exact⟨F,Gs,by simp only[Cs.Rep];exact⟨v,rfl,h1⟩,h2,h3⟩
 | .cons c r,x::xs,v::vs,y,L,hc,hr=>by
  simp only[Cs.chill]at hr;obtain⟨a,L1,L2,_,h1,hr⟩:=Rd.runs_bind hr;obtain⟨b,L3,L4,_,h2,hr⟩:=Rd.runs_bind hr;obtain⟨rfl,_⟩:=hr;obtain⟨F1,G1,a1,a2,a3⟩:=CT.chill_sound hm hP hc.1 h1;obtain⟨F2,G2,b1,b2,b3⟩:=Cs.chill_sound hm hP hc.2 h2;exact⟨F1++F2,G1++G2,by simp only[Cs.Rep];exact⟨v,vs,F1,F2,rfl,rfl,a1,b1⟩,by rw[a2,b2,List.flatten_append],a3.append b3⟩
 | .one _,[],_,_,_,_,hr=>hr.elim
 | .one _,_::_::_,_,_,_,_,hr=>hr.elim
 | .cons _ _,[],_,_,_,_,hr=>hr.elim
theorem Bz {P:mF->Nat->List Nat} {r:mF} {e:Cs} {ys:List e.den} (hn:mG en r=some (.frz e ys)):∀{lo:Nat} {l:List (mF×Option Nat)} {Gs:List (List Nat)},vC r lo l=true->mQ (xM en g P) l Gs ->
 ∃ps:List Nat,Gs=ps.map (P r)/\(∀p∈ps,p<ys.length*e.len/\lo<=p%e.len)/\ps.Nodup
 | _,[],[],_,_=>⟨[],rfl,by simp,List.nodup_nil⟩
 | lo,(s,some j)::l,G::Gs,hk,h=>by
  simp only[vC,aT]at hk;obtain⟨⟨h1,h2⟩,h3⟩:=hk;obtain rfl:=Nat.eq_of_beq_eq_true h1;obtain⟨⟨e',ys',hn',p,p1,p2,p3⟩,hA⟩:=h;rw[show mG en s=_ from hn]at hn';cases hn';obtain⟨ps,q1,q2,q3⟩:=Bz hn h3 hA;refine⟨p::ps,by rw[q1,p3];rfl,λq hq=>?_,List.nodup_cons.2 ⟨λhp=>?_,q3⟩⟩
  · rcases mem_cons.1 hq with rfl|hq
    · exact⟨p2,by rw[p1];exact Nat.le_of_ble_eq_true h2⟩
    · obtain⟨z1,z2⟩:=q2 q hq;exact⟨z1,by have:=Nat.le_of_ble_eq_true h2;omega⟩
  · have:=(q2 p hp).2;omega
 | _,(_,none)::_,_::_,hk,_=>by cases hk
theorem BA (hm:oA en g w) {P:mF->Nat->List Nat} (hP:∀r,zm en g w r (P r)) {l:List (mF×Option Nat)} {Gs:List (List Nat)} (hk:Cy l=true) (h:mQ (xM en g P) l Gs) :
 (∀b,Gs.flatten.count b<=(om en g (si l)).count b)/\od g (si l)=[]/\oF en (si l)/\∀b∈Gs.flatten,g.I b:=by
 have kidCase:∀(r:mF) (j:Nat) (l:List (mF×Option Nat)) (Gs:List (List Nat)),vC r (j+1) l=true->mQ (xM en g P) ((r,some j)::l) Gs ->
  (∀b,Gs.flatten.count b<=(om en g [(r,.gone)]).count b)/\od g [(r,.gone)]=[]/\oF en [(r,.gone)]/\∀b∈Gs.flatten,g.I b:=by
  intro r j l Gs hk h;cases Gs with
  | nil=>exact h.elim
  | cons G Gs =>
   obtain⟨⟨e,ys,hn,_⟩,_⟩:=id h;obtain⟨ps,q1,q2,q3⟩:=Bz (lo:=j) hn (by simp only[vC,aT];exact⟨⟨by simp,by simp⟩,hk⟩) h;obtain⟨_,k2,_,k4,_⟩:=hm.rep r _ hn;have hcnt:∀b,(G::Gs).flatten.count b<=(g.nest r).count b:=λb=>by
    rw[q1,←List.flatMap_def];exact Nat.le_trans (wl _ ps q3 (λp hp=>(q2 p hp).1)) ((hP r e ys hn).1 b)
   refine⟨λb=>?_,by simp[od,qf,k2],λp hp=>?_,λb hb=>k4 b (sw (hcnt b) hb)⟩
   · simp only[om,flatMap_cons,List.flatMap_nil,append_nil,pQ,hn];exact hcnt b
   · obtain rfl:=mem_singleton.1 hp;exact .inr (.inr (.inr ⟨e,ys,hn,.inl rfl⟩))
 have ownCase:∀(l:List (mF×Option Nat)) (Gs:List (List Nat)),(l.all λp=>p.2.isNone)=true->mQ (xM en g P) l Gs ->
  Gs.flatten=om en g (l.map λp=>(p.1,Entry.gone))/\od g (l.map λp=>(p.1,Entry.gone))=[]/\oF en (l.map λp=>(p.1,Entry.gone))/\∀b∈Gs.flatten,g.I b:=by
  intro l
  induction l with
  | nil =>
   intro Gs _ h;cases Gs with
   | nil=>exact⟨rfl,rfl,λp hp=>by simp at hp,λb hb=>by simp at hb⟩
   | cons _ _=>exact h.elim
  | cons c l ih =>
   intro Gs hk h;cases Gs with
   | nil=>exact h.elim
   | cons G Gs =>
    obtain⟨r,x⟩:=c;simp only[List.all_cons,aT]at hk;cases x with
    | some j=>cases hk.1
    | none =>
     obtain⟨⟨e,ys,hn,hG⟩,hA⟩:=h;obtain⟨i1,i2,i3,i4⟩:=ih Gs hk.2 hA;have hG:G=g.nest r:=hG
     have hn:mG en r=some (.frz e ys):=hn;obtain⟨_,k2,_,k4,_⟩:=hm.rep r _ hn;refine⟨?_,?_,λp hp=>?_,λb hb=>?_⟩
     · rw[List.flatten_cons,i1,List.map_cons];unfold om;rw[flatMap_cons];simp[pQ,hn,hG]
     · rw[List.map_cons];unfold od at i2 ⊢;rw[flatMap_cons,i2];simp[qf,k2]
     · rcases mem_cons.1 hp with rfl|hp
       · exact .inr (.inr (.inr ⟨e,ys,hn,.inl rfl⟩))
       · exact i3 p hp
     · rw[List.flatten_cons]at hb;rcases mem_append.1 hb with hb|hb
       · rw[hG]at hb;exact k4 b hb
       · exact i4 b hb
 match l,hk,h with
 | (r,some j)::l,hk,h=>exact kidCase r j l Gs hk h
 | [],hk,h =>
  obtain⟨i1,i2,i3,i4⟩:=ownCase [] Gs rfl h;exact⟨λb=>by rw[i1];exact Nat.le_refl _,i2,i3,i4⟩
 | (r,none)::l,hk,h =>
  obtain⟨i1,i2,i3,i4⟩:=ownCase ((r,none)::l) Gs hk h;exact⟨λb=>by rw[i1];exact Nat.le_refl _,i2,i3,i4⟩
end Go.V
namespace Go.V
variable {P:Program} {G:o9} {w0:World} {T N:Nat->Prop} {en en':List (mF×Entry)} {S:St} {g g':Gh} {w:World} {a:Act} {I:Nat->Prop}

def xl (tmps:Array Value):ResultVar->Sem Value
 | .tmp t=>pure (tmps.getD t undef)
 | .cell a t=>do loadVar t (←asAddr (tmps.getD a undef))
theorem uJ (h:nk w0 T N S g w a) (hT:oG P G.ti):∀{rv:List ResultVar} {vs:List AV},sV G S rv=some vs->∃rvals,mQ (nc (dom S.en) g w) vs rvals/\(rv.mapM (xl a.tmps)).run P w=.ok rvals w
 | [],vs,hr=>by cases hr;exact⟨[],trivial,rfl⟩
 | .tmp t::l,vs,hr=>by
  simp only[sV]at hr;cases hl:sV G S l with
  | none=>rw[hl]at hr;cases hr
  | some us =>
   rw[hl]at hr;cases hr;obtain⟨rvals,h1,h2⟩:=uJ h hT hl;refine⟨a.tmps.getD t undef::rvals,⟨h.tmps t,h1⟩,?_⟩;rw[List.mapM_cons];simp only[xl,Sem.run_bind,Sem.run_pure,Result.andThen,h2]
 | .cell b t::l,vs,hr=>by
  simp only[sV]at hr;cases hi:mG G.ti t with
  | none=>rw[hi]at hr;cases hr
  | some i =>
   rw[hi]at hr;obtain⟨n,hb⟩:∃n,S.tmp b=.cell (.box n 0):=by
    cases hb:S.tmp b with
    | cell c =>
     rw[hb]at hr;cases c with
     | box n off=>cases off with
      | zero=>exact⟨n,rfl⟩
      | succ _=>cases hr
     | _=>cases hr
    | agg _=>rw[hb]at hr;cases hr
    | tup _=>rw[hb]at hr;cases hr
   rw[hb]at hr;simp only at hr;cases hn:S.ent n with
   | none=>rw[hn]at hr;cases hr
   | some en1 =>
    cases hl:sV G S l with
    | none=>rw[hn,hl]at hr;cases en1<;>cases hr
    | some us =>
     rw[hn,hl]at hr;cases en1 with
     | tree=>cases hr
     | frz=>cases hr
     | pop=>cases hr
     | box cs =>
      simp only at hr;cases hlen:Nat.beq cs.length i.cs.len with
      | false=>rw[hlen]at hr;cases hr
      | true =>
       rw[hlen]at hr;cases hr;obtain⟨rvals,h1,h2⟩:=uJ h hT hl;have hbv:=h.tmps b
       rw[hb]at hbv;obtain⟨_,blk,e1,e2⟩:=hbv;obtain⟨blk',ws,e3,e4,e5,e6⟩:=h.mem.rep n _ hn;rw[e1]at e4;cases e4;have hl2:ws.length=i.cs.len:=by rw[←e6.length];exact Nat.eq_of_beq_eq_true hlen
       obtain⟨d,u,z,hf⟩:=hT.facts hi;have hload:=ve (P:=P) hf (nG.row e5) hl2
       refine⟨(if i.agg then .agg ws.toArray else ws.headD undef)::rvals,⟨?_,h1⟩,?_⟩
       · cases ha:i.agg with
         | true=>exact sP e6 (.inr ⟨rfl,rfl⟩)
         | false =>
          obtain⟨c,hc,_⟩:=hf.plain ha;rw[hc]at hl2
          match ws,hl2,e6 with
          | [v],_,e6=>exact sP e6 (.inl ⟨rfl,rfl⟩)
       · rw[List.mapM_cons];simp only[xl,e2,asAddr,Sem.run_bind,Sem.run_pure,Result.andThen,hload,h2]
     | gone=>cases hr
     | fwd _ _=>cases hr
     | root _ _ _=>cases hr
def zX (vs:List Value):Value:=match vs with | [v]=>v|vs=>.tuple vs.toArray
theorem yg {fn:Func} {tmps:Array Value} {rvals:List Value} (h:(fn.results.toList.mapM (xl tmps)).run P w=.ok rvals w):(results fn tmps).run P w=.ok (zX rvals) w:=by
 have e:results fn tmps=(do
  let vs ←fn.results.mapM (xl tmps)
  pure (if h:vs.size=1 then vs[0]else .tuple vs)):=by
  unfold results
  congr 1
 rw[e,Array.mapM_eq_mapM_toList];simp only[Sem.run_bind,Sem.run_pure,map_eq_pure_bind,Result.andThen,h]
 congr 1
 match rvals with
 | []=>rfl
 | [v]=>rfl
 | _::_::_=>simp[zX]
def qQ (I:Nat->Prop) (w:World):(rs:List ob)->mI (nr rs)->List Value->List Nat->List Nat->Prop
 | [],_,vs,ts,ns=>vs=[]/\ts=[]/\ns=[]
 | .val agg c own::rs,x,vs,ts,ns=>∃v vs' us t1 t2 n1 n2,vs=v::vs'/\isAgg agg v us/\ts=t1++t2/\ns=n1++n2/\qP I w own c (mI.hd c (nr rs) x) us t1 n1/\qQ I w rs (mI.tl c (nr rs) x) vs' t2 n2
 | .ptr c own::rs,x,vs,ts,ns=>∃b vs' us t1 t2 n1 n2,vs=.pointer (some ⟨b,0,none⟩)::vs'/\nG w b us/\ts=b::(t1++t2)/\ns=n1++n2/\qP I w own c (mI.hd c (nr rs) x) us t1 n1/\qQ I w rs (mI.tl c (nr rs) x) vs' t2 n2
 | .cold agg c::rs,x,vs,ts,ns=>∃v vs' us n1 n2,vs=v::vs'/\isAgg agg v us/\ns=n1++n2/\(∃F,Cs.Rep w c (mI.hd c (nr rs) x) us F/\(∀b∈F,I b)/\∀b,F.count b<=n1.count b)/\qQ I w rs (mI.tl c (nr rs) x) vs' ts n2
def qU (I:Nat->Prop) (w:World):(ps:List nB)->(rs:List ob)->mI (nS ps rs)->List Nat->List Value->List Nat->List Nat->Prop
 | [],rs,x,bs,vs,ts,ns=>bs=[]/\qQ I w rs x vs ts ns
 | .val .. :: ps,rs,x,bs,vs,ts,ns=>qU I w ps rs x bs vs ts ns
 | .ptr c own::ps,rs,x,bs,vs,ts,ns=>∃b bs' us t1 t2 n1 n2,bs=b::bs'/\nG w b us/\ts=b::(t1++t2)/\ns=n1++n2/\qP I w own c (mI.hd c (nS ps rs) x) us t1 n1/\qU I w ps rs (mI.tl c (nS ps rs) x) bs' vs t2 n2
theorem rT (hm:oA en g w):∀{rs:List ob} {vs:List AV} {rvals:List Value} {y:mI (nr rs)×List (mF×Entry)} {L:List mF},mQ (nc (dom en) g w) vs rvals->sj rs vs=true->(s4 rs vs).Runs (mG en) y L ->
 ∀{used:List (mF×Entry)},AQ en g I used []->(∀p∈y.2,p∈used)->qQ I w rs y.1 rvals (od g y.2) (om en g y.2)/\oF en y.2
 | [],[],[],y,L,_,_,hr,used,hs,hsub=>by obtain⟨rfl,_⟩:=hr;exact⟨⟨rfl,rfl,rfl⟩,λp hp=>by simp at hp⟩
 | .val agg c own::rs,v::vs,u::rvals,y,L,ha,ho,hr,used,hs,hsub=>by
  simp only[s4]at hr;obtain⟨a,L1,L2,_,h1,hr⟩:=Rd.runs_bind hr;obtain⟨b,L3,L4,_,h2,hr⟩:=Rd.runs_bind hr;obtain⟨rfl,_⟩:=hr;simp only[sj,aT]at ho;obtain⟨us,hag,hcs⟩:=uH ha.1 ho.1;obtain⟨k1,k2⟩:=rT hm ha.2 ho.2 h2 hs (λp hp=>hsub p (mem_append_right _ hp));obtain⟨k4,k5⟩:=s8 hm hcs h1 hs (λp hp=>hsub p (mem_append_left _ hp));refine⟨⟨u,rvals,us,_,_,_,_,rfl,hag,flatMap_append,flatMap_append,?_,?_⟩,k5.append k2⟩
  · show qP I w own c (mI.hd c (nr rs) (mI.mk c (nr rs) a.1 b.1)) us _ _;rw[mI.hd_mk];exact k4
  · show qQ I w rs (mI.tl c (nr rs) (mI.mk c (nr rs) a.1 b.1)) rvals _ _;rw[mI.tl_mk];exact k1
 | .ptr c own::rs,.cell (.box n 0)::vs,u::rvals,y,L,ha,ho,hr,used,hs,hsub=>by
  simp only[s4]at hr;obtain⟨L',_,hr⟩:=hr;dsimp only at hr;split at hr
  · rename_i cs hn;obtain⟨a,L1,L2,_,h1,hr⟩:=Rd.runs_bind hr;obtain⟨b,L3,L4,_,h2,hr⟩:=Rd.runs_bind hr;obtain⟨rfl,_⟩:=hr;obtain⟨k1,k2⟩:=rT hm ha.2 ho h2 hs (λp hp=>hsub p (mem_cons_of_mem _ (mem_append_right _ hp)));obtain⟨blk,us,e1,e2,e3,e4⟩:=hm.rep n _ hn;obtain⟨k4,k5⟩:=s8 hm e4 h1 hs (λp hp=>hsub p (mem_cons_of_mem _ (mem_append_left _ hp)));obtain⟨_,blk',e5,e6⟩:=ha.1;rw[e2]at e5;cases e5;refine⟨⟨blk,rvals,us,od g a.2,od g b.2,om en g a.2,om en g b.2,by rw[e6],e3,?_,?_,?_,?_⟩,?_⟩
    · show ((n,Entry.gone)::(a.2++b.2)).flatMap (qf g)=_;rw[flatMap_cons,flatMap_append];simp[qf,e1,od]
    · show ((n,Entry.gone)::(a.2++b.2)).flatMap (pQ en g)=_;rw[flatMap_cons,flatMap_append];simp[pQ,hn,om]
    · show qP I w own c (mI.hd c (nr rs) (mI.mk c (nr rs) a.1 b.1)) us _ _;rw[mI.hd_mk];exact k4
    · show qQ I w rs (mI.tl c (nr rs) (mI.mk c (nr rs) a.1 b.1)) rvals _ _;rw[mI.tl_mk];exact k1
    · intro p hp;rcases mem_cons.1 hp with rfl|hp
      · exact .inr (.inl ⟨rfl,cs,hn⟩)
      · exact (k5.append k2) p hp
  · exact hr.elim
 | .cold agg c::rs,v::vs,u::rvals,y,L,ha,ho,hr,used,hs,hsub=>by
  simp only[s4]at hr;obtain⟨a,L1,L2,_,h1,hr⟩:=Rd.runs_bind hr;obtain⟨_,L5,L6,_,h0,hr⟩:=Rd.runs_bind hr;obtain⟨b,L3,L4,_,h2,hr⟩:=Rd.runs_bind hr;obtain⟨rfl,_⟩:=hr;simp only[sj,aT]at ho;obtain⟨us,hag,hcs⟩:=uH ha.1 ho.1;obtain⟨k1,k2⟩:=rT hm ha.2 ho.2 h2 hs (λp hp=>hsub p (mem_append_right _ hp));obtain⟨P,hP⟩:=GF hm;obtain⟨F,Gs,c1,c2,c3⟩:=Cs.chill_sound hm hP hcs h1;obtain⟨d1,d2,d3,d4⟩:=BA hm hP (Rd.runs_need h0).1 c3;rw[←c2]at d1 d4;have et:od g (si a.2++b.2)=od g b.2:=by
   show (si a.2++b.2).flatMap (qf g)=_;rw[flatMap_append,show (si a.2).flatMap (qf g)=[]from d2,List.nil_append];rfl
  refine⟨⟨u,rvals,us,om en g (si a.2),om en g b.2,rfl,hag,flatMap_append,?_,?_⟩,d3.append k2⟩
  · refine⟨F,?_,λq hq=>hs.old q (d4 q hq),d1⟩;show Cs.Rep w c (mI.hd c (nr rs) (mI.mk c (nr rs) a.1 b.1)) us F;rw[mI.hd_mk];exact c1
  · show qQ I w rs (mI.tl c (nr rs) (mI.mk c (nr rs) a.1 b.1)) rvals (od g (si a.2++b.2)) _;rw[mI.tl_mk,et];exact k1
 | .cold _ _::_,[],_,_,_,_,_,hr,_,_,_=>hr.elim
 | .val _ _ _::_,[],_,_,_,_,_,hr,_,_,_=>hr.elim
 | .ptr _ _::_,[],_,_,_,_,_,hr,_,_,_=>hr.elim
 | [],_::_,_,_,_,_,_,hr,_,_,_=>hr.elim
def Dz (g:Gh):Nat->List nB->List Nat->Prop
 | _,[],bs=>bs=[]
 | i,.val .. :: ps,bs=>Dz g (i+1) ps bs
 | i,.ptr .. :: ps,bs=>∃b bs',bs=b::bs'/\g.loc (64*i+1)=.pointer (some ⟨b,0,none⟩)/\Dz g (i+1) ps bs'
theorem tu (hm:oA en g w):∀{ps:List nB} {rs:List ob} {i:Nat} {vs:List AV} {rvals:List Value} {y:mI (nS ps rs)×List (mF×Entry)} {L:List mF},mQ (nc (dom en) g w) vs rvals->sj rs vs=true->(sL i ps rs vs).Runs (mG en) y L ->
 ∀{used:List (mF×Entry)},AQ en g I used []->(∀p∈y.2,p∈used)->∃bs,qU I w ps rs y.1 bs rvals (od g y.2) (om en g y.2)/\oF en y.2/\Dz g i ps bs
 | [],rs,i,vs,rvals,y,L,ha,ho,hr,used,hs,hsub=>by
  obtain⟨k1,k2⟩:=rT hm ha ho hr hs hsub;exact⟨[],⟨rfl,k1⟩,k2,rfl⟩
 | .val agg c mv::ps,rs,i,vs,rvals,y,L,ha,ho,hr,used,hs,hsub=>tu (ps:=ps) (i:=i+1) hm ha ho hr hs hsub
 | .ptr c own::ps,rs,i,vs,rvals,y,L,ha,ho,hr,used,hs,hsub=>by
  simp only[sL]at hr;obtain⟨L',_,hr⟩:=hr;dsimp only at hr;split at hr
  · rename_i cs hn;obtain⟨a,L1,L2,_,h1,hr⟩:=Rd.runs_bind hr;obtain⟨b,L3,L4,_,h2,hr⟩:=Rd.runs_bind hr;obtain⟨rfl,_⟩:=hr;obtain⟨bs,k1,k2,k3⟩:=tu hm ha ho h2 hs (λp hp=>hsub p (mem_cons_of_mem _ (mem_append_right _ hp)));obtain⟨blk,us,e1,e2,e3,e4⟩:=hm.rep (64*i+1) _ hn;obtain⟨k4,k5⟩:=s8 hm e4 h1 hs (λp hp=>hsub p (mem_cons_of_mem _ (mem_append_left _ hp)));refine⟨blk::bs,⟨blk,bs,us,od g a.2,od g b.2,om en g a.2,om en g b.2,rfl,e3,?_,?_,?_,?_⟩,?_,blk,bs,rfl,e2,k3⟩
    · show ((64*i+1,Entry.gone)::(a.2++b.2)).flatMap (qf g)=_;rw[flatMap_cons,flatMap_append];simp[qf,e1,od]
    · show ((64*i+1,Entry.gone)::(a.2++b.2)).flatMap (pQ en g)=_;rw[flatMap_cons,flatMap_append];simp[pQ,hn,om]
    · show qP I w own c (mI.hd c (nS ps rs) (mI.mk c (nS ps rs) a.1 b.1)) us _ _;rw[mI.hd_mk];exact k4
    · show qU I w ps rs (mI.tl c (nS ps rs) (mI.mk c (nS ps rs) a.1 b.1)) bs rvals _ _;rw[mI.tl_mk];exact k1
    · intro p hp;rcases mem_cons.1 hp with rfl|hp
      · exact .inr (.inl ⟨rfl,cs,hn⟩)
      · exact (k5.append k2) p hp
  · exact hr.elim
end Go.V
namespace Go.V
variable {w0:World} {T N:Nat->Prop} {en E:List (mF×Entry)} {g g':Gh} {w:World} {I:Nat->Prop}

theorem DA {l:List (mF×Entry)} {n:mF} (h:n∉l.map (·.1)):mG l n=none:=by
 cases hf:mG l n with
 | none=>rfl
 | some y=>exact absurd (p9.2 (by rw[hf];simp)) h
theorem s9 {l m:List (mF×Entry)} {n:mF} (h1:n∉l.map (·.1)) (h2:mG m n=none):mG (l++m) n=none:=by rw[ne h1];exact h2
theorem ov.congr {new new':List (mF×Entry)} {ts ns:List Nat} (h:ov w0 T N E g w new g' ts ns) (he:∀n,mG (new++E) n=mG (new'++E) n):ov w0 T N E g w new' g' ts ns:=by
 refine⟨h.ms.congr he,by rw[←pD he];exact h.le,h.imm,h.giv.t1,h.giv.n1,λb hb=>?_,λb hb=>?_,λb hb m f hm=>h.giv.tw b hb m f ((he m).trans hm)⟩
 · obtain⟨k1,k2,k3⟩:=h.giv.tf b hb;exact⟨k1,λm f hm=>k2 m f ((he m).trans hm),k3⟩
 · obtain⟨k1,k2⟩:=h.giv.nf b hb;exact⟨λm f hm=>k1 m f ((he m).trans hm),k2⟩
theorem Ax {D:mF->Prop} {agg:Bool} {cs:List Cell} {v:Value} {us:List Value} (h:mQ (mJ D g w) cs us) (ha:isAgg agg v us):nV D g w (pb agg cs) v:=by
 have:=sP h ha;cases hx:pb agg cs with
 | cell c=>rw[hx]at this;exact this
 | agg ds=>rw[hx]at this;exact this
 | tup l =>
  exfalso;cases agg with
  | true=>cases cs<;>cases hx
  | false=>cases cs with
   | nil=>cases hx
   | cons c cs=>cases cs<;>cases hx
theorem sx:∀(rs:List ob) (n:mF) (x:mI (nr rs)) (rvals:List Value) (ts ns ts' ns':List Nat) (g:Gh),MS w0 T N E g w->oE w0 T N E g (ts++ts') (ns++ns')->qQ g.I w rs x rvals ts ns->mP (mZ n rs x).news=true ->
 (∀p∈(mZ n rs x).news,mG E p.1=none)->(mZ n rs x).upds=[]/\∃g',ov w0 T N E g w (mZ n rs x).news g' ts' ns'/\mQ (nV (dom ((mZ n rs x).news++E)) g' w) (mZ n rs x).vals rvals
 | [],n,x,rvals,ts,ns,ts',ns',g,h,hv,ha,hd,hf=>by
  obtain⟨rfl,rfl,rfl⟩:=ha;exact⟨rfl,g,ov.refl h (by simpa using hv),trivial⟩
 | .val agg c own::rs,n,x,rvals,ts,ns,ts',ns',g,h,hv,ha,hd,hf=>by
  obtain⟨v,vs',us,t1,t2,n1,n2,rfl,hag,rfl,rfl,hin,ha⟩:=ha;obtain⟨d1,d2,d3⟩:=nH (l:=(oL own n c (mI.hd c (nr rs) x)).2) (m:=(mZ (n+64) rs (mI.tl c (nr rs) x)).news) hd;obtain⟨e0,g1,k1,k2⟩:=sx rs (n+64) (mI.tl c (nr rs) x) vs' t2 n2 (t1++ts') (n1++ns') g h (hv.mono (λb=>by simp only[count_append];omega) (λb=>by simp only[count_append];omega)) ha d2 (λp hp=>hf p (mem_append_right _ hp));obtain⟨g2,k4,k5⟩:=tg (n:=n) k1.ms (hin.imm λb hb=>by rw[k1.imm];exact hb) k1.giv (λp hp=>s9 (d3 p.1 (mem_map_of_mem hp)) (hf p (mem_append_left _ hp))) d1;have e:(mZ n (.val agg c own::rs) x).news++E=(oL own n c (mI.hd c (nr rs) x)).2++((mZ (n+64) rs (mI.tl c (nr rs) x)).news++E):=append_assoc _ _ _
  refine⟨e0,g2,k1.trans k4,?_,?_⟩
  · rw[e];exact Ax k5 hag
  · rw[e];exact mQ.imp (λ_ _=>nV.mono k4.le) k2
 | .cold agg c::rs,n,x,rvals,ts,ns,ts',ns',g,h,hv,ha,hd,hf=>by
  obtain⟨v,vs',us,n1,n2,rfl,hag,rfl,⟨F,hF,hFI,hFc⟩,ha⟩:=ha;obtain⟨d1,d2,d3⟩:=nH (l:=(Cs.giveF n c (mI.hd c (nr rs) x)).2) (m:=(mZ (n+64) rs (mI.tl c (nr rs) x)).news) hd;obtain⟨e0,g1,k1,k2⟩:=sx rs (n+64) (mI.tl c (nr rs) x) vs' ts n2 ts' (F++ns') g h (hv.mono (λb=>Nat.le_refl _) (λb=>by have:=hFc b;simp only[count_append];omega)) ha d2 (λp hp=>hf p (mem_append_right _ hp));obtain⟨g2,k4,k5⟩:=Cs.giveF_put (n:=n) k1.ms hF (λb hb=>by rw[k1.imm];exact hFI b hb) k1.giv (λp hp=>s9 (d3 p.1 (mem_map_of_mem hp)) (hf p (mem_append_left _ hp))) d1;have e:(mZ n (.cold agg c::rs) x).news++E=(Cs.giveF n c (mI.hd c (nr rs) x)).2++((mZ (n+64) rs (mI.tl c (nr rs) x)).news++E):=append_assoc _ _ _
  refine⟨e0,g2,k1.trans k4,?_,?_⟩
  · rw[e];exact Ax k5 hag
  · rw[e];exact mQ.imp (λ_ _=>nV.mono k4.le) k2
 | .ptr c own::rs,n,x,rvals,ts,ns,ts',ns',g,h,hv,ha,hd,hf=>by
  obtain⟨b,vs',us,t1,t2,n1,n2,rfl,hob,rfl,rfl,hin,ha⟩:=ha;obtain⟨d0,hd⟩:=o0 (n:=n) (l:=(oL own (n+1) c (mI.hd c (nr rs) x)).2++(mZ (n+64) rs (mI.tl c (nr rs) x)).news) hd;obtain⟨d1,d2,d3⟩:=nH hd;have hf1:∀p∈(oL own (n+1) c (mI.hd c (nr rs) x)).2++(mZ (n+64) rs (mI.tl c (nr rs) x)).news,mG E p.1=none:=λp hp=>hf p (mem_cons_of_mem _ hp)
  obtain⟨e0,g1,k1,k2⟩:=sx rs (n+64) (mI.tl c (nr rs) x) vs' t2 n2 (t1++(b::ts')) (n1++ns') g h (hv.mono (λb'=>by simp only[count_append,List.count_cons,List.cons_append];omega) (λb=>by simp only[count_append];omega)) ha d2 (λp hp=>hf1 p (mem_append_right _ hp));obtain⟨g2,k4,k5⟩:=tg (n:=n+1) k1.ms (hin.imm λb hb=>by rw[k1.imm];exact hb) k1.giv (λp hp=>s9 (d3 p.1 (mem_map_of_mem hp)) (hf1 p (mem_append_left _ hp))) d1;have k6:=k1.trans k4
  have hfree:mG ((oL own (n+1) c (mI.hd c (nr rs) x)).2++(mZ (n+64) rs (mI.tl c (nr rs) x)).news++E) n=none:=s9 d0 (hf (n,_) mem_cons_self);obtain⟨g3,k7,k8⟩:=zW k6.ms hob (by rw[append_assoc];exact k5) k6.giv (λhd=>absurd hfree hd) (λe he=>by rw[hfree]at he;cases he);refine⟨e0,g3,k6.trans k7,⟨nJ.2 (.inl rfl),b,k8,rfl⟩,?_⟩;refine mQ.imp (λ_ _ hx=>?_) k2;have h1:=nV.mono k4.le hx
  rw[←append_assoc]at h1;exact nV.mono k7.le h1
theorem sy:∀(rs:List ob) (n:mF) (x:mI (nr rs)),(mZ n rs x).upds=[]
 | [],_,_=>rfl
 | .val _ c _::rs,n,x=>sy rs (n+64) (mI.tl c (nr rs) x)
 | .ptr c _::rs,n,x=>sy rs (n+64) (mI.tl c (nr rs) x)
 | .cold _ c::rs,n,x=>sy rs (n+64) (mI.tl c (nr rs) x)
theorem sA:∀(ps:List nB) (rs:List ob) (n:mF) (bs:List mF) (x:mI (nS ps rs)),∀p∈(mN n ps rs bs x).upds,p.1∈bs
 | [],rs,n,bs,x,p,hp=>by
  have:(mN n [] rs bs x).upds=[]:=sy rs n x;rw[this]at hp;simp at hp
 | .val .. :: ps,rs,n,bs,x,p,hp=>sA ps rs n bs x p hp
 | .ptr c own::ps,rs,n,[],x,p,hp=>by simp[mN]at hp
 | .ptr c own::ps,rs,n,b::bs,x,p,hp=>by
  have hp:p∈(b,Entry.box (oL own n c (mI.hd c (nS ps rs) x)).1)::(mN (n+64) ps rs bs (mI.tl c (nS ps rs) x)).upds:=hp;rcases mem_cons.1 hp with rfl|hp
  · exact mem_cons_self
  · exact mem_cons_of_mem _ (sA ps rs (n+64) bs _ p hp)
theorem Eq {l m:List (mF×Entry)} {b:mF} {x:Entry} (h:b∉l.map (·.1)) (n:mF):mG ((b,x)::(l++m)) n=mG (l++(b,x)::m) n:=by
 rw[mR,nq,nq,mR];by_cases hbn:b=n
 · subst hbn;rw[if_pos rfl,if_pos rfl,DA h]
 · rw[if_neg hbn,if_neg hbn]
def DB (E:List (mF×Entry)) (g:Gh) (n:mF) (b:Nat):Prop:=mG E n=some .gone/\g.loc n=.pointer (some ⟨b,0,none⟩)
theorem ug:∀(ps:List nB) (rs:List ob) (n:mF) (x:mI (nS ps rs)) (nm:List mF) (bs:List Nat) (rvals:List Value) (ts ns ts' ns':List Nat) (g:Gh),MS w0 T N E g w->oE w0 T N E g (ts++ts') (ns++ns')->qU g.I w ps rs x bs rvals ts ns ->
 mQ (DB E g) nm bs->nm.Nodup->mP (mN n ps rs nm x).news=true->(∀p∈(mN n ps rs nm x).news,mG E p.1=none) ->
 ∃g',ov w0 T N E g w ((mN n ps rs nm x).news++(mN n ps rs nm x).upds) g' ts' ns'/\mQ (nV (dom ((mN n ps rs nm x).news++(mN n ps rs nm x).upds++E)) g' w) (mN n ps rs nm x).vals rvals
 | [],rs,n,x,nm,bs,rvals,ts,ns,ts',ns',g,h,hv,ha,hp,hnd,hd,hf=>by
  obtain⟨rfl,ha⟩:=ha;have hd:mP (mZ n rs x).news=true:=hd
  have hf:∀p∈(mZ n rs x).news,mG E p.1=none:=hf;obtain⟨e0,g',k1,k2⟩:=sx rs n x rvals ts ns ts' ns' g h hv ha hd hf;have e:(mZ n rs x).news++(mZ n rs x).upds=(mZ n rs x).news:=by rw[e0,append_nil]
  refine⟨g',?_,?_⟩
  · show ov w0 T N E g w ((mZ n rs x).news++(mZ n rs x).upds) g' ts' ns';rw[e];exact k1
  · show mQ (nV (dom ((mZ n rs x).news++(mZ n rs x).upds++E)) g' w) (mZ n rs x).vals rvals;rw[e];exact k2
 | .val agg c mv::ps,rs,n,x,nm,bs,rvals,ts,ns,ts',ns',g,h,hv,ha,hp,hnd,hd,hf=>ug ps rs n x nm bs rvals ts ns ts' ns' g h hv ha hp hnd hd hf
 | .ptr c own::ps,rs,n,x,[],bs,rvals,ts,ns,ts',ns',g,h,hv,ha,hp,hnd,hd,hf=>by
  obtain⟨b,bs',us,t1,t2,n1,n2,rfl,_⟩:=ha;exact hp.elim
 | .ptr c own::ps,rs,n,x,m::nm,bs,rvals,ts,ns,ts',ns',g,h,hv,ha,hp,hnd,hd,hf=>by
  obtain⟨b,bs',us,t1,t2,n1,n2,rfl,hob,rfl,rfl,hin,ha⟩:=ha;obtain⟨⟨hp1,hp2⟩,hp⟩:=hp;rw[List.nodup_cons]at hnd
  let r:=mN (n+64) ps rs nm (mI.tl c (nS ps rs) x)
  let q:=oL own n c (mI.hd c (nS ps rs) x)
  have hd:mP (q.2++r.news)=true:=hd;have hf:∀p∈q.2++r.news,mG E p.1=none:=hf
  obtain⟨d1,d2,d3⟩:=nH hd;obtain⟨g1,k1,k2⟩:=ug ps rs (n+64) (mI.tl c (nS ps rs) x) nm bs' rvals t2 n2 (t1++(b::ts')) (n1++ns') g h (hv.mono (λb'=>by simp only[count_append,List.count_cons,List.cons_append];omega) (λb=>by simp only[count_append];omega)) ha hp hnd.2 d2 (λp hp=>hf p (mem_append_right _ hp));have hup:∀p∈r.upds,p.1∈nm:=sA ps rs (n+64) nm _
  have hnmE:∀k∈nm,∃y,mG E k=some y:=by
   intro k hk;have key:∀(l:List mF) (bl:List Nat),mQ (DB E g) l bl->k∈l->∃y,mG E k=some y:=by
    intro l
    induction l with
    | nil=>intro bl _ hk;simp at hk
    | cons a l ih=>intro bl hl hk;cases bl with
     | nil=>exact hl.elim
     | cons c bl =>
      rcases mem_cons.1 hk with rfl|hk
      · exact⟨_,hl.1.1⟩
      · exact ih bl hl.2 hk
   exact key nm bs' hp hk
  have hnotup:∀p:mF×Entry,mG E p.1=none->p.1∉r.upds.map (·.1):=by
   intro p hpE hm;obtain⟨u,hu,he⟩:=mem_map.1 hm;obtain⟨y,hy⟩:=hnmE u.1 (hup u hu);rw[he,hpE]at hy;cases hy
  obtain⟨g2,k4,k5⟩:=tg (n:=n) k1.ms (hin.imm λb hb=>by rw[k1.imm];exact hb) k1.giv (λp hp=>by
   have hpE:=hf p (mem_append_left _ hp);refine s9 ?_ hpE;rw[map_append,mem_append,not_or];exact⟨d3 p.1 (mem_map_of_mem hp),hnotup p hpE⟩) d1
  have k6:=k1.trans k4;have hmE:dom E m:=by unfold dom;rw[hp1];simp
  have hmq:m∉q.2.map (·.1):=λhm=>by
   obtain⟨u,hu,he⟩:=mem_map.1 hm;have:=hf u (mem_append_left _ hu);rw[he,hp1]at this;cases this
  have hmr:m∉r.news.map (·.1):=λhm=>by
   obtain⟨u,hu,he⟩:=mem_map.1 hm;have:=hf u (mem_append_right _ hu);rw[he,hp1]at this;cases this
  have hmu:m∉r.upds.map (·.1):=λhm=>by
   obtain⟨u,hu,he⟩:=mem_map.1 hm;exact hnd.1 (he▸hup u hu)
  have hfind:mG (q.2++(r.news++r.upds)++E) m=some .gone:=by
   rw[ne]
   · exact hp1
   · rw[map_append,map_append,mem_append,mem_append,not_or,not_or];exact⟨hmq,hmr,hmu⟩
  obtain⟨g3,k7,k8⟩:=zW (n:=m) k6.ms hob (by rw[append_assoc];exact k5) k6.giv (λ_=>(k6.le.loc m hmE).trans hp2) (λe he=>by
   have:mG (q.2++(r.news++r.upds)++E) m=some e:=he;rw[hfind]at this;cases this;rfl)
  have hcong:∀k,mG ([(m,.box q.1)]++(q.2++(r.news++r.upds))++E) k=mG ((q.2++r.news++((m,.box q.1)::r.upds))++E) k:=by
   intro k;have:=Eq (l:=q.2++r.news) (m:=r.upds++E) (b:=m) (x:=.box q.1) (by rw[map_append,mem_append,not_or];exact⟨hmq,hmr⟩) k
   simpa[append_assoc]using this
  refine⟨g3,(k6.trans k7).congr hcong,?_⟩;show mQ (nV (dom ((q.2++r.news++((m,.box q.1)::r.upds))++E)) g3 w) r.vals rvals
  rw[←pD hcong];refine mQ.imp (λ_ _ hx=>?_) k2;have h1:=nV.mono k4.le hx
  rw[←append_assoc]at h1;exact nV.mono k7.le h1
end Go.V
namespace Go.V
variable {w0:World} {T N:Nat->Prop} {en E:List (mF×Entry)} {g g':Gh} {w w':World} {I:Nat->Prop}

theorem MS.useAny (h:MS w0 T N en g w):∀{used:List (mF×Entry)},oF en used->mP used=true ->
 ∃g1,MS w0 T N (used++en) g1 w/\Le (dom en) g w (dom (used++en)) g1 w/\g1.loc=g.loc/\g1.esz=g.esz/\g1.top=g.top/\g1.nest=g.nest/\(∀b,g1.I b↔g.I b\/∃p∈used,(∃e xs,p.2=.fwd e xs)/\g.top p.1=some b)
 | [],_,_=>⟨g,h,Le.refl _ _ _,rfl,rfl,rfl,rfl,λb=>⟨.inl,λk=>k.elim id λ⟨p,hp,_⟩=>by simp at hp⟩⟩
 | (n,x)::used,hu,hd=>by
  obtain⟨h1,h2⟩:=o0 hd;obtain⟨g1,hM,hle,e1,e2,e3,e4,hI⟩:=h.useAny (used:=used) (λp hp=>hu p (mem_cons_of_mem _ hp)) h2;have hgone:x=.gone->dom en n->∃g1,MS w0 T N ((n,x)::used++en) g1 w/\Le (dom en) g w (dom ((n,x)::used++en)) g1 w/\g1.loc=g.loc/\g1.esz=g.esz/\g1.top=g.top/\g1.nest=g.nest/\(∀b,g1.I b↔g.I b\/∃p∈(n,x)::used,(∃e xs,p.2=.fwd e xs)/\g.top p.1=some b):=by
   intro hx hdn;subst hx;obtain⟨hM2,hle2⟩:=hM.gone (hle.dom n hdn);refine⟨g1,hM2,hle.trans hle2,e1,e2,e3,e4,λb=>(hI b).trans ⟨?_,?_⟩⟩
   · rintro (k|⟨p,hp,k⟩)
     · exact .inl k
     · exact .inr ⟨p,mem_cons_of_mem _ hp,k⟩
   · rintro (k|⟨p,hp,⟨e,xs,k⟩,k'⟩)
     · exact .inl k
     · rcases mem_cons.1 hp with rfl|hp
       · cases k
       · exact .inr ⟨p,hp,⟨e,xs,k⟩,k'⟩
  rcases hu (n,x) mem_cons_self with ⟨hx,e,m,xs,hn⟩|⟨hx,cs,hn⟩|⟨e,m,xs,hn,hx⟩|⟨e,xs,hn,hx|hx⟩
  rotate_left 3
  · exact hgone hx (by unfold dom;rw[show mG en n=_ from hn];simp)
  · obtain rfl:x=.fwd e xs:=hx;obtain⟨hM2,hle2⟩:=hM.fwdZ (n:=n) ((ne h1).trans hn);refine⟨g1,hM2,hle.trans hle2,e1,e2,e3,e4,λb=>(hI b).trans ⟨?_,?_⟩⟩
    · rintro (k|⟨p,hp,k⟩)
      · exact .inl k
      · exact .inr ⟨p,mem_cons_of_mem _ hp,k⟩
    · rintro (k|⟨p,hp,k,k'⟩)
      · exact .inl k
      · rcases mem_cons.1 hp with rfl|hp
        · have ht:g.top n=some b:=k';rw[(h.mem.rep n _ hn).2.1]at ht;cases ht
        · exact .inr ⟨p,hp,k,k'⟩
  · exact hgone hx (by unfold dom;rw[show mG en n=_ from hn];simp)
  · exact hgone hx (by unfold dom;rw[show mG en n=_ from hn];simp)
  · obtain rfl:x=.fwd e xs:=hx;obtain⟨g2,hM2,hle2,f1,f2,f3,f4,hI2⟩:=hM.fwd (n:=n) ((ne h1).trans hn);refine⟨g2,hM2,hle.trans hle2,f1.trans e1,f2.trans e2,f3.trans e3,f4.trans e4,λb=>?_⟩;rw[hI2,hI,e3];constructor
    · rintro ((k|⟨p,hp,k⟩)|k)
      · exact .inl k
      · exact .inr ⟨p,mem_cons_of_mem _ hp,k⟩
      · exact .inr ⟨_,mem_cons_self,⟨e,xs,rfl⟩,k⟩
    · rintro (k|⟨p,hp,k,k'⟩)
      · exact .inl (.inl k)
      · rcases mem_cons.1 hp with rfl|hp
        · exact .inr k'
        · exact .inl (.inr ⟨p,hp,k,k'⟩)
theorem sQ {used:List (mF×Entry)} {b:Nat} (h:b∈od g used):∃p∈used,p.2=.gone/\g.top p.1=some b:=by
 obtain⟨p,hp,hb⟩:=List.mem_flatMap.1 h;unfold qf at hb;split at hb
 · rename_i hx;exact⟨p,hp,hx,by simpa using hb⟩
 · simp at hb
theorem wm {used:List (mF×Entry)} {b:Nat} (h:b∈om en g used):∃p∈used,p.2=.gone/\(∃f,mG en p.1=some f/\f.deep=true)/\b∈g.nest p.1:=by
 obtain⟨p,hp,hb⟩:=List.mem_flatMap.1 h;unfold pQ at hb;split at hb
 · rename_i hx;split at hb
   · rename_i e xs hn;exact⟨p,hp,hx,⟨_,hn,rfl⟩,hb⟩
   · rename_i e xs hn;exact⟨p,hp,hx,⟨_,hn,rfl⟩,hb⟩
   · simp at hb
 · simp at hb
theorem Fv {used:List (mF×Entry)} (hu:oF en used) {p:mF×Entry} (hp:p∈used):dom en p.1:=by
 unfold dom;rcases hu p hp with ⟨_,e,m,xs,hn⟩|⟨_,cs,hn⟩|⟨e,m,xs,hn,_⟩|⟨e,xs,hn,_⟩<;>(rw[hn];simp)
theorem ox (hm:oA en g w) {used:List (mF×Entry)} (hu:oF en used) {p:mF×Entry} (hp:p∈used) {b:Nat} (ht:g.top p.1=some b):∃f,mG en p.1=some f/\f.alive=true:=by
 rcases hu p hp with ⟨_,e,m,xs,hn⟩|⟨_,cs,hn⟩|⟨e,m,xs,hn,_⟩|⟨e,xs,hn,_⟩
 · exact⟨_,hn,rfl⟩
 · exact⟨_,hn,rfl⟩
 · exact⟨_,hn,rfl⟩
 · rw[(hm.rep p.1 _ hn).2.1]at ht;cases ht
theorem xm (hm:oA en g w):∀{used:List (mF×Entry)},oF en used->mP used=true->so (od g used)
 | [],_,_=>λb=>by simp[od]
 | (n,x)::used,hu,hd=>by
  obtain⟨h1,h2⟩:=o0 hd;have ih:=xm hm (used:=used) (λp hp=>hu p (mem_cons_of_mem _ hp)) h2
  rw[nR]at ih ⊢;show ((n,x)::used).flatMap (qf g) |>.Nodup
  rw[flatMap_cons,List.nodup_append];refine⟨?_,ih,λb hb c hc hbc=>?_⟩
  · unfold qf;split
    · cases g.top (n,x).1<;>simp
    · simp
  · subst hbc;obtain⟨p,hp,_,hpt⟩:=sQ hc;have hb':b∈od g [(n,x)]:=by unfold od;simpa using hb
    obtain⟨q,hq,_,hqt⟩:=sQ hb';rw[mem_singleton]at hq;subst hq;obtain⟨f,hf,hfa⟩:=ox hm hu (mem_cons_self) hqt;obtain⟨f',hf',hfa'⟩:=ox hm hu (mem_cons_of_mem _ hp) hpt;have:=hm.apart n p.1 f f' b hf hf' hfa hfa' hqt hpt
    exact h1 (this▸mem_map_of_mem hp)
theorem xn (hm:oA en g w):∀{used:List (mF×Entry)},oF en used->mP used=true->so (om en g used)
 | [],_,_=>λb=>by simp[om]
 | (n,x)::used,hu,hd=>by
  obtain⟨h1,h2⟩:=o0 hd;have ih:=xn hm (used:=used) (λp hp=>hu p (mem_cons_of_mem _ hp)) h2
  rw[nR]at ih ⊢;show ((n,x)::used).flatMap (pQ en g) |>.Nodup
  rw[flatMap_cons,List.nodup_append];refine⟨?_,ih,λb hb c hc hbc=>?_⟩
  · unfold pQ;split
    · rename_i hx;split
      · rename_i e xs hn;obtain⟨_,_,_,hnd⟩:=nX hm hn;exact hnd rfl
      · rename_i e xs hn;exact (hm.rep _ _ hn).2.2.2.2
      · simp
    · simp
  · subst hbc;obtain⟨p,hp,hpg,hpr,hpt⟩:=wm hc;have hb':b∈om en g [(n,x)]:=by unfold om;simpa using hb
    obtain⟨q,hq,hqg,hqr,hqt⟩:=wm hb';rw[mem_singleton]at hq;subst hq;obtain⟨f1,hn1,hd1⟩:=hqr;obtain⟨f2,hn2,hd2⟩:=hpr;have hne:n≠p.1:=λe=>h1 (e▸mem_map_of_mem hp)
    exact hm.nests n p.1 _ _ hn1 hn2 hd1 hd2 hne b hqt hpt
theorem Cs.Gifts.flat:{c:Cs}->{x:c.den}->{us:List Value}->{ts ns:List Nat}->c.hasSl=false->Cs.Gifts I w c x us ts ns->ns=[]
 | .one c,x,us,ts,ns,h,⟨v,h1,h2⟩=>by
  cases c with
  | sl e=>simp[Cs.hasSl,CT.isSl]at h
  | _=>exact h2.2.1
 | .cons c r,x,us,ts,ns,h,⟨v,vs',t1,t2,n1,n2,h1,h2,h3,h4,h5⟩=>by
  simp only[Cs.hasSl,Bool.or_eq_false_iff]at h;have:=Cs.Gifts.flat h.2 h5
  subst this;subst h3;cases c with
  | sl e=>simp[CT.isSl]at h
  | _=>rw[append_nil];exact h4.2.1
theorem qP.shift {I':Nat->Prop} {own:Option Bool} {c:Cs} {x:c.den} {us:List Value} {ts ns:List Nat} (hn:∀b∈ns,I b->I' b) (hs:(sf own=true->c.hasSl=false)\/∀b,I b->I' b) (h:qP I w own c x us ts ns):qP I' w own c x us ts ns:=by
 rcases h with ⟨m,ns',rfl,h2,hm⟩|⟨rfl,h2,h3,F,h4,h5⟩
 · refine .inl ⟨m,ns',rfl,?_,hm⟩;have hn2:∀b∈ns',I b->I' b:=by
    cases m with
    | true=>rw[hm rfl];exact hn
    | false =>
     rcases hs with hs|hs
     · rw[h2.flat (hs rfl)];simp
     · exact λb _=>hs b
   clear hm hn;have hc:∀{c:CT} {x:c.den} {v:Value} {ts ns:List Nat},(∀b∈ns,I b->I' b)->CT.Gifts I w c x v ts ns->CT.Gifts I' w c x v ts ns:=by
    intro c x v ts ns hn h;cases c with
    | sl e=>obtain⟨tp,h1,h2,h3⟩:=h;exact⟨tp,h1,h2,λb hb=>hn b hb (h3 b hb)⟩
    | _=>exact h
   clear hs
   revert x us ts ns'
   induction c using Cs.rec (motive_1:=λ_=>True)with
   | one c _=>intro x us ts ns h hn;obtain⟨v,h1,h2⟩:=h;exact⟨v,h1,hc hn h2⟩
   | cons c r _ ih =>
    intro x us ts ns h hn;obtain⟨v,vs',t1,t2,n1,n2,h1,h2,h3,h4,h5⟩:=h;subst h3;exact⟨v,vs',t1,t2,n1,n2,h1,h2,rfl,hc (λb hb=>hn b (mem_append_left _ hb)) h4,ih _ h5 (λb hb=>hn b (mem_append_right _ hb))⟩
   | _=>trivial
 · refine .inr ⟨rfl,h2,h3,F,h4,λb hb=>?_⟩;rcases hs with hs|hs
   · rw[h4.flat (hs rfl)]at hb;simp at hb
   · exact hs b (h5 b hb)
theorem qQ.shift {I':Nat->Prop}:∀{rs:List ob} {x:mI (nr rs)} {vs:List Value} {ts ns:List Nat},(∀b∈ns,I b->I' b)->(rs.any ob.sh=false\/∀b,I b->I' b)->qQ I w rs x vs ts ns->qQ I' w rs x vs ts ns
 | [],_,_,_,_,_,_,h=>h
 | .val agg c own::rs,x,vs,ts,ns,hn,hs,⟨v,vs',us,t1,t2,n1,n2,h1,h2,h3,h4,h5,h6⟩=>by
  subst h4;refine⟨v,vs',us,t1,t2,n1,n2,h1,h2,h3,rfl,h5.shift (λb hb=>hn b (mem_append_left _ hb)) (hs.imp (λhs ho=>?_) id),qQ.shift (λb hb=>hn b (mem_append_right _ hb)) (hs.imp (λhs=>?_) id) h6⟩
  · simp only[any_cons,Bool.or_eq_false_iff,ob.sh,ho,Bool.true_and]at hs;exact hs.1
  · simp only[any_cons,Bool.or_eq_false_iff]at hs;exact hs.2
 | .cold agg c::rs,x,vs,ts,ns,hn,hs,⟨v,vs',us,n1,n2,h1,h2,h4,⟨F,hF,hFI,hFc⟩,h6⟩=>by
  subst h4;refine⟨v,vs',us,n1,n2,h1,h2,rfl,⟨F,hF,λb hb=>hn b (mem_append_left _ (sw (hFc b) hb)) (hFI b hb),hFc⟩,qQ.shift (λb hb=>hn b (mem_append_right _ hb)) (hs.imp (λhs=>?_) id) h6⟩;simp only[any_cons,Bool.or_eq_false_iff]at hs;exact hs.2
 | .ptr c own::rs,x,vs,ts,ns,hn,hs,⟨v,vs',us,t1,t2,n1,n2,h1,h2,h3,h4,h5,h6⟩=>by
  subst h4;refine⟨v,vs',us,t1,t2,n1,n2,h1,h2,h3,rfl,h5.shift (λb hb=>hn b (mem_append_left _ hb)) (hs.imp (λhs ho=>?_) id),qQ.shift (λb hb=>hn b (mem_append_right _ hb)) (hs.imp (λhs=>?_) id) h6⟩
  · simp only[any_cons,Bool.or_eq_false_iff,ob.sh,ho,Bool.true_and]at hs;exact hs.1
  · simp only[any_cons,Bool.or_eq_false_iff]at hs;exact hs.2
theorem qU.shift {I':Nat->Prop}:∀{ps:List nB} {rs:List ob} {x:mI (nS ps rs)} {bs:List Nat} {vs:List Value} {ts ns:List Nat},(∀b∈ns,I b->I' b)->(pG ps rs=false\/∀b,I b->I' b)->qU I w ps rs x bs vs ts ns->qU I' w ps rs x bs vs ts ns
 | [],rs,x,bs,vs,ts,ns,hn,hs,⟨h1,h2⟩=>⟨h1,h2.shift hn (hs.imp (λhs=>by simpa[pG]using hs) id)⟩
 | .val agg c mv::ps,rs,x,bs,vs,ts,ns,hn,hs,h=>qU.shift (ps:=ps) hn (hs.imp (λhs=>by simpa[pG,nB.sh]using hs) id) h
 | .ptr c own::ps,rs,x,bs,vs,ts,ns,hn,hs,⟨b,bs',us,t1,t2,n1,n2,h1,h2,h3,h4,h5,h6⟩=>by
  subst h4;refine⟨b,bs',us,t1,t2,n1,n2,h1,h2,h3,rfl,h5.shift (λb hb=>hn b (mem_append_left _ hb)) (hs.imp (λhs ho=>?_) id),qU.shift (λb hb=>hn b (mem_append_right _ hb)) (hs.imp (λhs=>?_) id) h6⟩
  · simp only[pG,any_cons,Bool.or_eq_false_iff,nB.sh,ho,Bool.true_and]at hs;exact hs.1.1
  · simp only[pG,any_cons,Bool.or_eq_false_iff]at hs ⊢;exact⟨hs.1.2,hs.2⟩
end Go.V
namespace Go.V
variable {P:Program} {G:o9} {w0:World} {T N:Nat->Prop} {en E:List (mF×Entry)} {g g':Gh} {w w':World} {I:Nat->Prop} {nt:Nat} {ann:List (Nat×mO)}

theorem uh:∀(ps:List nB) (i:Nat) (x:mI (mY ps)),(∀t v,mG (entry i ps x).1 t=some v->pK (dom (entry i ps x).2) v)/\(∀n cs,(n,Entry.box cs)∈(entry i ps x).2->∀c∈cs,oN (dom (entry i ps x).2) c)
 | [],i,x=>⟨(λt v h=>by cases h),(λn cs h=>by cases h)⟩
 | .val agg c mv::ps,i,x=>by
  obtain⟨k1,k2⟩:=uh ps (i+1) (mI.tl c (mY ps) x);obtain⟨k3,k4⟩:=sN (FR mv) (64*i+1) c (mI.hd c (mY ps) x);rw[Au];refine⟨λt v h=>?_,λn cs h=>?_⟩
  · rw[mR]at h;split at h
    · cases h;exact vJ λd hd=>(k4 d hd).mono λn hn=>pz hn
    · exact (k1 t v h).mono λn hn=>qp hn
  · rcases mem_append.1 h with h|h
    · exact absurd h (k3 n cs)
    · exact λd hd=>(k2 n cs h d hd).mono λn hn=>qp hn
 | .ptr c own::ps,i,x=>by
  obtain⟨k1,k2⟩:=uh ps (i+1) (mI.tl c (mY ps) x);obtain⟨k3,k4⟩:=sN own (64*i+2) c (mI.hd c (mY ps) x);rw[Av];refine⟨λt v h=>?_,λn cs h=>?_⟩
  · rw[mR]at h;split at h
    · cases h;intro n hn;simp[Cell.refs]at hn;subst hn;exact u7
    · exact (k1 t v h).mono λn hn=>nJ.2 (.inr (qp hn))
  · rcases mem_cons.1 h with h|h
    · cases h;exact λd hd=>(k4 d hd).mono λn hn=>nJ.2 (.inr (pz hn))
    · rcases mem_append.1 h with h|h
      · exact absurd h (k3 n cs)
      · exact λd hd=>(k2 n cs h d hd).mono λn hn=>nJ.2 (.inr (qp hn))
theorem xN {F:mF->Option Entry}:∀{ps:List nB} {args:List AV} {b:w6 (mY ps)} {L:List mF},(nT true ps args).Runs F b L->b.ro=[]
 | [],[],b,L,hr=>by obtain⟨rfl,_⟩:=hr;rfl
 | .val agg c false::ps,v::args,b,L,hr=>by
  simp only[nT]at hr;obtain⟨_,L5,L6,_,h0,hr⟩:=Rd.runs_bind hr;obtain⟨a,L1,L2,_,h1,hr⟩:=Rd.runs_bind hr;obtain⟨b',L3,L4,_,h2,hr⟩:=Rd.runs_bind hr;obtain⟨rfl,_⟩:=hr;have ih:=xN h2
  exact ih
 | .val agg c true::ps,v::args,b,L,hr=>by
  simp only[nT]at hr;obtain⟨_,L5,L6,_,h0,hr⟩:=Rd.runs_bind hr;obtain⟨a,L1,L2,_,h1,hr⟩:=Rd.runs_bind hr;obtain⟨b',L3,L4,_,h2,hr⟩:=Rd.runs_bind hr;obtain⟨rfl,_⟩:=hr;have ih:=xN h2
  exact ih
 | .ptr c own::ps,.cell (.box n 0)::args,b,L,hr=>by
  simp only[nT]at hr;obtain⟨L',_,hr⟩:=hr;dsimp only at hr;split at hr
  · obtain⟨a,L1,L2,_,h1,hr⟩:=Rd.runs_bind hr;obtain⟨b',L3,L4,_,h2,hr⟩:=Rd.runs_bind hr;obtain⟨rfl,_⟩:=hr;have ih:=xN h2
    exact ih
  · exact hr.elim
theorem uK {F:mF->Option Entry} {sl:Bool}:∀{ps:List nB} {args:List AV} {b:w6 (mY ps)} {L:List mF},(nT sl ps args).Runs F b L->mP b.used=true->b.ptrs.Nodup/\∀n∈b.ptrs,n∈b.used.map (·.1)
 | [],[],b,L,hr,_=>by obtain⟨rfl,_⟩:=hr;exact⟨List.nodup_nil,by simp⟩
 | .val agg c false::ps,v::args,b,L,hr,hd=>by
  simp only[nT]at hr;obtain⟨_,L5,L6,_,h0,hr⟩:=Rd.runs_bind hr;obtain⟨a,L1,L2,_,h1,hr⟩:=Rd.runs_bind hr;obtain⟨b',L3,L4,_,h2,hr⟩:=Rd.runs_bind hr;obtain⟨rfl,_⟩:=hr;obtain⟨k1,k2⟩:=uK h2 (nH hd).2.1;exact⟨k1,λn hn=>by rw[map_append];exact mem_append_right _ (k2 n hn)⟩
 | .val agg c true::ps,v::args,b,L,hr,hd=>by
  simp only[nT]at hr;obtain⟨_,L5,L6,_,h0,hr⟩:=Rd.runs_bind hr;obtain⟨a,L1,L2,_,h1,hr⟩:=Rd.runs_bind hr;obtain⟨b',L3,L4,_,h2,hr⟩:=Rd.runs_bind hr;obtain⟨rfl,_⟩:=hr;obtain⟨k1,k2⟩:=uK h2 (nH hd).2.1;exact⟨k1,λn hn=>by rw[map_append];exact mem_append_right _ (k2 n hn)⟩
 | .ptr c own::ps,.cell (.box n 0)::args,b,L,hr,hd=>by
  simp only[nT]at hr;obtain⟨L',_,hr⟩:=hr;dsimp only at hr;split at hr
  · obtain⟨a,L1,L2,_,h1,hr⟩:=Rd.runs_bind hr;obtain⟨b',L3,L4,_,h2,hr⟩:=Rd.runs_bind hr;obtain⟨rfl,_⟩:=hr;obtain⟨d1,d2⟩:=o0 hd;obtain⟨k1,k2⟩:=uK h2 (nH d2).2.1;refine⟨List.nodup_cons.2 ⟨λhn=>d1 (by rw[map_append];exact mem_append_right _ (k2 n hn)),k1⟩,λm hm=>?_⟩;rcases mem_cons.1 hm with rfl|hm
    · simp
    · simp only[List.map_cons,map_append];exact mem_cons_of_mem _ (mem_append_right _ (k2 m hm))
  · exact hr.elim
theorem zY {used:List (mF×Entry)} {g1 g2 gc gf:Gh} {D D':mF->Prop} {wc wf:World} (hd:mP used=true) (hloc:∀n,g2.loc n=g.loc n) (hle:Le D gc wc D' gf wf):∀{ps:List nB} {i:Nat} {vals:List Value} {nm:List mF} {bs:List Nat},qr en g used ps vals nm->tq D gc i ps vals->Dz gf i ps bs ->
 mQ (DB (used++en) g2) nm bs
 | [],i,vals,nm,bs,h1,_,h3=>by obtain rfl:=h1;obtain rfl:=h3;exact trivial
 | .val .. :: ps,i,v::vals,nm,bs,h1,h2,h3=>zY (ps:=ps) (i:=i+1) (vals:=vals) (g1:=g1) hd hloc hle h1 h2 h3
 | .ptr .. :: ps,i,v::vals,nm,bs,h1,h2,h3=>by
  obtain⟨n,ns',rfl,k1,k2,k3,k4⟩:=h1;obtain⟨⟨l1,l2⟩,l3⟩:=h2;obtain⟨b,bs',rfl,m1,m2⟩:=h3;refine⟨⟨?_,?_⟩,zY (g1:=g1) hd hloc hle k4 l3 m2⟩
  · rw[pw (mem_map_of_mem k1:n∈used.map (·.1))];exact oX hd k1
  · rw[hloc,k3,←l2,←hle.loc _ l1];exact m1
 | .val .. :: _,_,[],_,_,_,h2,_=>h2.elim
 | .ptr .. :: _,_,[],_,_,_,h2,_=>h2.elim
theorem Er {D:mF->Prop} {l:List AV} {rvals:List Value} (h:mQ (nV D g w) l rvals):nc D g w (rM l) (zX rvals):=by
 have h0:∀{x:AV} {v:Value},nV D g w x v->nc D g w x v:=by
  intro x v h;cases x with
  | cell c=>exact h
  | agg cs=>exact h
  | tup l=>exact h.elim
 match l,rvals,h with
 | [],[],_=>exact⟨#[],rfl,trivial⟩
 | [x],[v],h=>exact h0 h.1
 | x::y::l,v::u::r,h=>exact⟨(v::u::r).toArray,rfl,h⟩
theorem MS.begin (g:Gh) (Tc Nc:Nat->Prop) (h1:∀b,g.I b->b<w.heap.size) (h2:∀b,g.I b->D4 w Nc b) (hs:∀b,Tc b->soft w b):MS w Tc Nc [] g w :=
 ⟨⟨(λn e h=>by cases h),(λn m e f b h=>by cases h),(λn e b h=>by cases h),(λn m e f h=>by cases h),h1,λn h=>absurd rfl h,(λn e b h=>by cases h)⟩,
  ⟨rfl,rfl,rfl,Nat.le_refl _,λb _ _=>rfl,(λn e b h=>by cases h),(λn e b h=>by cases h),λb hb=>.inr (.inr (h2 b hb)),(λn e b h=>by cases h),λb hb=>hb.elim (λhl c t lo hi hc=>by have:=ta hc;omega) (hs b)⟩⟩
theorem MS.start (Ic:Nat->Prop) (Tc Nc:Nat->Prop) (h1:∀b,Ic b->b<w.heap.size) (h2:∀b,Ic b->D4 w Nc b) (hs:∀b,Tc b->soft w b):MS w Tc Nc [] ⟨Ic,λ_=>.slice none 0 0,λ_=>0,λ_=>none,λ_=>[],λ_=>[]⟩ w :=
 MS.begin _ Tc Nc h1 h2 hs
end Go.V
namespace Go.V
variable {P:Program} {G:o9} {w0:World} {T N:Nat->Prop} {en E:List (mF×Entry)} {g g':Gh} {w w':World} {I:Nat->Prop} {nt:Nat} {ann:List (Nat×mO)}

theorem GG {ps:List nB} {rs:List ob} {used:List (mF×Entry)} {ro nm:List mF} {ts ns:List Nat} {vals:List Value} {D:mF->Prop} {gc gf:Gh} {Sf:St} {g1:Gh} {Tc Nc:Nat->Prop} {Ic:Nat->Prop} {uid:mF}
 (hM:MS w0 T N en g w) (hu:oF en used) (hd:mP used=true) (hro:∀n∈ro,mG used n=none) (hsl:pG ps rs=true->ro=[])
 (hM1:MS w0 T N (used++en) g1 w) (hle1:Le (dom en) g w (dom (used++en)) g1 w) (e1:g1.loc=g.loc) (e3:g1.top=g.top) (e4:g1.nest=g.nest) (hI1:∀b,g1.I b↔g.I b\/∃p∈used,(∃e xs,p.2=.fwd e xs)/\g.top p.1=some b)
 (hts:ts=od g used) (hns:ns=om en g used) (hIc:∀b,Ic b↔g1.I b\/∃n∈ro,∃f,mG en n=some f/\f.alive=true/\g.top n=some b) (hTc:∀b,Tc b↔b∈ts) (hNc:∀b,Nc b↔b∈ns\/∃c,b=w.heap.size+c/\Ic c)
 (hnames:qr en g used ps vals nm) (hnd:nm.Nodup) (hploc:tq D gc 0 ps vals) (hgc:gc.I=Ic) (hMf:MS w Tc Nc Sf.en gf w') (hle:Le D gc w (dom Sf.en) gf w')
 {vs:List AV} {rvals:List Value} {r:mI (nS ps rs)} {ents:List (mF×Entry)} {L:List mF} (hrv:mQ (nc (dom Sf.en) gf w') vs rvals) (hok:sj rs vs=true) (hto:(sL 0 ps rs vs).Runs (mG Sf.en) (r,ents) L) (hde:mP ents=true)
 (hdist:mP (mN uid ps rs nm r).news=true) (hnew:∀p∈(mN uid ps rs nm r).news,mG en p.1=none) :
 ∃g',MS w0 T N ((mN uid ps rs nm r).news++((mN uid ps rs nm r).upds++used)++en) g' w'/\Le (dom en) g w (dom ((mN uid ps rs nm r).news++((mN uid ps rs nm r).upds++used)++en)) g' w' /\
  nc (dom ((mN uid ps rs nm r).news++((mN uid ps rs nm r).upds++used)++en)) g' w' (rM (mN uid ps rs nm r).vals) (zX rvals):=by
 have hM1I:∀b,g1.I b->b<w.heap.size:=hM1.mem.old;have htsU:∀b∈ts,b<w.heap.size/\¬g1.I b/\∃p∈used,p.2=.gone/\g.top p.1=some b:=by
  intro b hb;rw[hts]at hb;obtain⟨p,hp,hpg,hpt⟩:=sQ hb;obtain⟨f,hf,hfa⟩:=ox hM.mem hu hp hpt;refine⟨(hM.mem.rep p.1 f hf).top_lt hfa hpt,λhI=>?_,p,hp,hpg,hpt⟩;rcases (hI1 b).1 hI with h|⟨q,hq,⟨e,xs,hqe⟩,hqt⟩
  · exact hM.mem.topI p.1 f b hf hfa hpt h
  · obtain⟨f',hf',hfa'⟩:=ox hM.mem hu hq hqt;have:=hM.mem.apart p.1 q.1 f f' b hf hf' hfa hfa' hpt hqt
    have h1:=oX hd hp;have h2:=oX hd hq
    rw[this,h2]at h1;rw[hpg,hqe]at h1;cases h1
 have hnsU:∀b∈ns,g.I b/\∃p∈used,(∃f,mG en p.1=some f/\f.deep=true)/\b∈g.nest p.1:=by
  intro b hb;rw[hns]at hb;obtain⟨p,hp,hpg,⟨f,hn,hfd⟩,hpt⟩:=wm hb;exact⟨(vG hM.mem hn hfd).1 b hpt,p,hp,⟨f,hn,hfd⟩,hpt⟩
 have hgI:∀b,g.I b->g1.I b:=λb hb=>(hI1 b).2 (.inl hb);have halive:∀n f,mG (used++en) n=some f->f.alive=true\/f.deep=true->mG en n=some f/\n∉used.map (·.1):=by
  intro n f hf ha;by_cases hn:n∈used.map (·.1)
  · exfalso;rw[pw hn]at hf;have hp:=nz hf
    have hfe:f=.gone\/∃e xs,f=.fwd e xs:=by
     rcases hu (n,f) hp with ⟨h,_⟩|⟨h,_⟩|⟨e,m,xs,_,h⟩|⟨e,xs,_,h|h⟩
     · exact .inl h
     · exact .inl h
     · exact .inr ⟨e,xs,h⟩
     · exact .inl h
     · exact .inr ⟨e,xs,h⟩
    rcases hfe with rfl|⟨e,xs,rfl⟩<;>first | (rcases ha with ha|ha<;>cases ha;done) | (cases ha;done)
  · rw[ne hn]at hf;exact⟨hf,hn⟩
 have hlent:∀b,(∃n∈ro,∃f,mG en n=some f/\f.alive=true/\g.top n=some b)->b<w.heap.size/\b∉ts/\¬g1.I b:=by
  rintro b ⟨n,hn,f,hf,hfa,ht⟩;have hnu:n∉used.map (·.1):=λhm=>by
   have:=hro n hn;exact absurd (p9.1 hm) (by rw[this];simp)
  refine⟨(hM.mem.rep n f hf).top_lt hfa ht,λhb=>?_,λhI=>?_⟩
  · obtain⟨_,_,p,hp,_,hpt⟩:=htsU b hb;obtain⟨f',hf',hfa'⟩:=ox hM.mem hu hp hpt;have:=hM.mem.apart n p.1 f f' b hf hf' hfa hfa' ht hpt
    exact hnu (this▸mem_map_of_mem hp)
  · rcases (hI1 b).1 hI with h|⟨q,hq,_,hqt⟩
    · exact hM.mem.topI n f b hf hfa ht h
    · obtain⟨f',hf',hfa'⟩:=ox hM.mem hu hq hqt;have:=hM.mem.apart n q.1 f f' b hf hf' hfa hfa' ht hqt
      exact hnu (this▸mem_map_of_mem hq)
 have haliveT:∀n f b,mG (used++en) n=some f->f.alive=true->g1.top n=some b->b<w.heap.size/\b∉ts/\¬g1.I b:=by
  intro n f b hf ha ht;obtain⟨hfe,hnu⟩:=halive n f hf (.inl ha);rw[e3]at ht;refine⟨(hM.mem.rep n f hfe).top_lt ha ht,λhb=>?_,λhI=>hM1.mem.topI n f b hf ha (by rw[e3];exact ht) hI⟩;obtain⟨_,_,p,hp,_,hpt⟩:=htsU b hb;obtain⟨f',hf',hfa'⟩:=ox hM.mem hu hp hpt;have:=hM.mem.apart n p.1 f f' b hfe hf' ha hfa' ht hpt
  exact hnu (this▸mem_map_of_mem hp)
 have htree:∀n f,mG (used++en) n=some f->f.isTree=true->mG en n=some f/\n∉used.map (·.1):=by
  intro n f hf ha;by_cases hn:n∈used.map (·.1)
  · exfalso;rw[pw hn]at hf;have hp:=nz hf
    have hfe:f=.gone\/∃e xs,f=.fwd e xs:=by
     rcases hu (n,f) hp with ⟨h,_⟩|⟨h,_⟩|⟨e,m,xs,_,h⟩|⟨e,xs,_,h|h⟩
     · exact .inl h
     · exact .inl h
     · exact .inr ⟨e,xs,h⟩
     · exact .inl h
     · exact .inr ⟨e,xs,h⟩
    rcases hfe with rfl|⟨e,xs,rfl⟩<;>first | (rcases ha with ha|ha<;>cases ha;done) | (cases ha;done)
  · rw[ne hn]at hf;exact⟨hf,hn⟩
 have htreeT:∀n f b,mG (used++en) n=some f->f.isTree=true->b∈g1.nest n->b<w.heap.size/\b∉ts:=by
  intro n f b hf ht hb;obtain⟨hfe,hnu⟩:=htree n f hf ht;rw[e4]at hb;refine⟨qh (hM.mem.rep n f hfe) ht hb,λhbt=>?_⟩;obtain⟨_,_,p,hp,_,hpt⟩:=htsU b hbt;obtain⟨f',hf',hfa'⟩:=ox hM.mem hu hp hpt;exact (hM.mem.wood n f b hfe ht hb).2.1 p.1 f' hf' hfa' hpt
 let I3:Nat->Prop:=λb=>gf.I b\/∃p∈ents,(∃e xs,p.2=.fwd e xs)/\gf.top p.1=some b
 obtain⟨bs,houts,hue,hbl⟩:=tu (I:=I3) hMf.mem hrv hok hto (used:=ents) ⟨λb hb=>.inl hb,λp hp e xs he b hb=>.inr ⟨p,hp,⟨e,xs,he⟩,hb⟩,λn hn=>by simp at hn⟩ (λp hp=>hp);obtain⟨g3,hM3,hle3,_,_,e33,e34,hI3⟩:=hMf.useAny hue hde;have hI3':∀b,I3 b↔g3.I b:=λb=>(hI3 b).symm
 have houts:qU I3 w' ps rs r bs rvals (od gf ents) (om Sf.en gf ents):=houts;have hsize:=hMf.since.size
 have hmem:∀b,b<w.heap.size->b∉ts->w'.heap[b]?=w.heap[b]?:=λb hb hn=>hMf.since.mem b hb λhT=>hn ((hTc b).1 hT);have himm:∀b,I3 b->w.heap.size<=b\/b∈ts\/Ic b:=by
  intro b hb;rcases hM3.since.imm b ((hI3' b).1 hb)with h|h|h
  · exact .inl h
  · exact .inr (.inl ((hTc b).1 h))
  · rcases (hNc _).1 h with h|⟨c,hc,hI⟩
    · have:=hM1I _ (hgI _ (hnsU _ h).1);omega
    · obtain rfl:b=c:=by omega
      exact .inr (.inr hI)
 let lent:Nat->Prop:=λb=>∃n∈ro,∃f,mG en n=some f/\f.alive=true/\g.top n=some b
 let J:Nat->Prop:=λb=>I3 b/\¬lent b
 obtain⟨hM2,hle2⟩:=hM1.world (w':=w') (λb hb=>hmem b (hM1I b hb) λht=>(htsU b ht).2.1 hb) (λn f b hf ha hb=>hmem b (haliveT n f b hf ha hb).1 (haliveT n f b hf ha hb).2.1) hMf.since.os hMf.since.out hMf.since.tape hsize
  (λb hb hT=>hmem b (Nat.lt_of_lt_of_le hb hM1.since.size) λht=>by
   obtain⟨_,_,p,hp,_,hpt⟩:=htsU b ht;obtain⟨f,hf,hfa⟩:=ox hM.mem hu hp hpt;rcases hM.since.tops p.1 f b hf hfa hpt with h|h
   · omega
   · exact hT h)
  (λn f b hf ht hb=>by
   obtain⟨k1,k2⟩:=htreeT n f b hf ht hb;exact hmem b k1 k2) (λb hb=>by
   rcases Nat.lt_or_ge b w.heap.size with hl|hl
   · by_cases ht:b∈ts
     · exact hMf.since.soft b (.inr ((hTc b).2 ht))
     · exact (hM1.since.soft b hb).of_same (hmem b hl ht)
   · exact hMf.since.soft b (.inl hl))
 have htsT:∀b∈ts,w0.heap.size<=b\/T b:=by
  intro b hb;obtain⟨_,_,p,hp,_,hpt⟩:=htsU b hb;obtain⟨f,hf,hfa⟩:=ox hM.mem hu hp hpt;exact hM.since.tops p.1 f b hf hfa hpt
 obtain⟨hM4,hle4⟩:=hM2.freeze J (λb hb=>hM3.mem.old b ((hI3' b).1 hb.1))
  (λn f b hf ha hb hJ=>by
   obtain⟨k1,k2,k3⟩:=haliveT n f b hf ha hb;rcases himm b hJ.1 with h|h|h
   · omega
   · exact k2 h
   · rcases (hIc b).1 h with h|h
     · exact k3 h
     · exact hJ.2 h)
  (λn f b hf ht hb hJ=>by
   obtain⟨k1,k2⟩:=htreeT n f b hf ht hb;rcases himm b hJ.1 with h|h|h
   · omega
   · exact k2 h
   · rcases (hIc b).1 h with h|h
     · exact (hM1.mem.wood n f b hf ht hb).1 h
     · exact hJ.2 h)
  (λb hJ=>by
   rcases himm b hJ.1 with h|h|h
   · exact .inl (Nat.le_trans hM1.since.size h)
   · exact (htsT b h).imp id .inl
   · rcases (hIc b).1 h with h|h
     · exact hM1.since.imm b h
     · exact absurd h hJ.2)
 let g2:Gh:={ g1 with I:=λb=>g1.I b\/J b }
 have hts3:∀b∈od gf ents,¬I3 b/\(w.heap.size<=b\/b∈ts):=by
  intro b hb;obtain⟨p,hp,hpg,hpt⟩:=sQ hb;obtain⟨f,hf,hfa⟩:=ox hMf.mem hue hp hpt;refine⟨λhI=>?_,(hMf.since.tops p.1 f b hf hfa hpt).imp id (hTc b).1⟩;rcases hI with h|⟨q,hq,⟨e,xs,hqe⟩,hqt⟩
  · exact hMf.mem.topI p.1 f b hf hfa hpt h
  · obtain⟨f',hf',hfa'⟩:=ox hMf.mem hue hq hqt;have:=hMf.mem.apart p.1 q.1 f f' b hf hf' hfa hfa' hpt hqt
    have h1:=oX hde hp;have h2:=oX hde hq
    rw[this,h2]at h1;rw[hpg,hqe]at h1;cases h1
 have hns3:∀b∈om Sf.en gf ents,w.heap.size<=b\/b∈ts\/b∈ns:=by
  intro b hb;obtain⟨p,hp,hpg,⟨f,hn,hfd⟩,hpt⟩:=wm hb;rcases hMf.since.nests p.1 _ b hn hfd hpt with h|h|h
  · exact .inl h
  · exact .inr (.inl ((hTc b).1 h))
  · rcases (hNc b).1 h with h|⟨c,hc,_⟩
    · exact .inr (.inr h)
    · exact .inl (by omega)
 have hIcI3:∀b,g1.I b->I3 b:=λb hb=>.inl (hle.imm b (by rw[hgc];exact (hIc b).2 (.inl hb)));have hgiv:oE w0 T N (used++en) g2 (od gf ents++[]) (om Sf.en gf ents++[]):=by
  rw[append_nil,append_nil];refine⟨xm hMf.mem hue hde,xn hMf.mem hue hde,λb hb=>?_,λb hb=>?_,λb hb m f hf ht hbm=>?_⟩
  rotate_left 2
  · obtain⟨k1,k2⟩:=hts3 b hb;have hbm:b∈g1.nest m:=hbm
    obtain⟨j1,j2⟩:=htreeT m f b hf ht hbm;rcases k2 with h|h
    · omega
    · exact j2 h
  · obtain⟨k1,k2⟩:=hts3 b hb;refine⟨λhI=>hI.elim (λh=>k1 (hIcI3 b h)) (λh=>k1 h.1),λm f hf ha ht=>?_,k2.elim (λh=>.inl (Nat.le_trans hM1.since.size h)) (htsT b)⟩;obtain⟨j1,j2,_⟩:=haliveT m f b hf ha ht;rcases k2 with h|h
    · omega
    · exact j2 h
  · have k2:=hns3 b hb;refine⟨λm f hf hfd hbm=>?_,?_⟩
    · obtain⟨hfe,hnu⟩:=halive m f hf (.inr hfd);have hbm:b∈g.nest m:=by have:b∈g1.nest m:=hbm;rw[e4]at this;exact this
      have hbI:g.I b:=(vG hM.mem hfe hfd).1 b hbm;rcases k2 with h|h|h
      · have:=hM1I b (hgI b hbI);omega
      · exact (htsU b h).2.1 (hgI b hbI)
      · obtain⟨_,p,hp,⟨f2,hn,hd2⟩,hpb⟩:=hnsU b h;have hne:m≠p.1:=λh=>hnu (h▸mem_map_of_mem hp)
        exact hM.mem.nests m p.1 f _ hfe hn hfd hd2 hne b hbm hpb
    · rcases k2 with h|h|h
      · exact .inl (Nat.le_trans hM1.since.size h)
      · exact (htsT b h).imp id .inl
      · obtain⟨_,p,hp,⟨f2,hn,hd2⟩,hpb⟩:=hnsU b h;exact hM.since.nests p.1 _ b hn hd2 hpb
 have hlentns:∀b∈om Sf.en gf ents,¬lent b:=by
  intro b hb hl;obtain⟨j1,j2,j3⟩:=hlent b hl;rcases hns3 b hb with h|h|h
  · omega
  · exact j2 h
  · exact j3 (hgI b (hnsU b h).1)
 have houts2:qU g2.I w' ps rs r bs rvals (od gf ents) (om Sf.en gf ents):=by
  refine houts.shift (λb hb hI=>.inr ⟨hI,hlentns b hb⟩) ?_;cases hs:pG ps rs with
  | false=>exact .inl rfl
  | true =>
   refine .inr λb hb=>.inr ⟨hb,λ⟨n,hn,_⟩=>?_⟩;rw[hsl hs]at hn;simp at hn
 have hptr:=zY (en:=en) (g:=g) (g1:=g1) (g2:=g2) hd (λn=>congrFun e1 n) hle hnames hploc hbl;have hfresh:∀p∈(mN uid ps rs nm r).news,mG (used++en) p.1=none:=by
  intro p hp;refine s9 (λhm=>?_) (hnew p hp);obtain⟨q,hq,he⟩:=mem_map.1 hm;have hdq:=Fv hu hq
  rw[he]at hdq;exact hdq (hnew p hp)
 obtain⟨g5,hG5,hv5⟩:=ug ps rs uid r nm bs rvals _ _ [] [] g2 hM4 hgiv houts2 hptr hnd hdist hfresh;have e5:(mN uid ps rs nm r).news++((mN uid ps rs nm r).upds++used)++en=(mN uid ps rs nm r).news++(mN uid ps rs nm r).upds++(used++en):=by simp only[append_assoc]
 rw[e5];exact⟨g5,hG5.ms,(hle1.trans (hle2.trans hle4)).trans hG5.le,Er hv5⟩
end Go.V
namespace Go.V
variable {P:Program} {G:o9} {ann:List (Nat×mO)}

theorem DC {G:o9} {rv:List ResultVar} {ps:List nB} {rs:List ob} {S:St} {r:mI (nS ps rs)} (h:leave G rv ps rs S=some r) :
 ∃vs ents L,sV G S rv=some vs/\mP (S.cold (qm rs vs))=true/\sj rs vs=true/\(sL 0 ps rs vs).Runs (mG (S.more (S.cold (qm rs vs))).en) (r,ents) L/\mP ents=true:=by
 unfold leave at h;split at h
 · rename_i vs hvs;cases ho:(mP (S.cold (qm rs vs))&&sj rs vs)with
   | false=>rw[ho]at h;cases h
   | true =>
    rw[ho]at h;simp only[cT]at h;simp only[aT]at ho;obtain⟨y,L,h1,h2⟩:=Rd.run_some h;cases hd:mP y.2 with
    | false=>rw[hd]at h2;cases h2
    | true =>
     rw[hd]at h2;simp only[cT,Option.some.injEq]at h2;exact⟨vs,y.2,L,hvs,ho.1,ho.2,by rw[←h2];exact h1,hd⟩
 · cases h
theorem BB (hG : p5 P G) (hm : P.follows .mixedOrders=true) {f : FuncId} {fn : Func} {c : Code} {ps : List nB} {rs : List ob} (hf : P.funcs[f]?=some fn) (hn : (fn.name == "runtime.NumGoroutine")=false) (hb : fn.body=some c) :
 tK P f ⟨ps,rs,xI G ann fn c ps rs⟩:=by
 refine⟨⟨fn,c,hf,hn,hb⟩,?_⟩;intro w0 T N en g w uid args vals b L r hM hargs hbind hro hden hdist hnew;simp only[aT]at hro;obtain⟨hd,hro⟩:=hro;have hro:∀n∈b.ro,mG b.used n=none:=λn hn=>by
  have:=all_eq_true.1 hro n hn;cases h:mG b.used n with
  | none=>rfl
  | some y=>rw[h]at this;cases this
 have hden:xI G ann fn c ps rs b.args=some r:=hden;unfold xI at hden;cases hck:(qe fn.ntmps c&&(Nat.ble ps.length fn.ntmps&&mP (entry 0 ps b.args).2))with
 | false=>rw[hck]at hden;cases hden
 | true =>
 rw[hck]at hden;simp only[aT,cT]at hck hden;obtain⟨hbel,_,hdis⟩:=hck
 let Ic:Nat->Prop:=λb'=>(g.I b'\/∃p∈b.used,(∃e xs,p.2=.fwd e xs)/\g.top p.1=some b')\/∃n∈b.ro,∃f,mG en n=some f/\f.alive=true/\g.top n=some b'
 obtain⟨hat,hu,hnames⟩:=uI (I:=Ic) hM.mem hargs hbind ⟨λb' hb'=>.inl (.inl hb'),λp hp e xs he b' hb'=>.inl (.inr ⟨p,hp,⟨e,xs,he⟩,hb'⟩),λn hn f b' hf ha ht=>.inr ⟨n,hn,f,hf,ha,ht⟩⟩;obtain⟨g1,hM1,hle1,e1,e2,e3,e4,hI1⟩:=hM.useAny hu hd;have hIc:∀b',Ic b'↔g1.I b'\/∃n∈b.ro,∃f,mG en n=some f/\f.alive=true/\g.top n=some b':=λb'=>by
  constructor
  · rintro (h|h)
    · exact .inl ((hI1 b').2 h)
    · exact .inr h
  · rintro (h|h)
    · exact .inl ((hI1 b').1 h)
    · exact .inr h
 let Tc:Nat->Prop:=λb'=>b'∈od g b.used
 let Nc:Nat->Prop:=λk=>k∈om en g b.used\/∃c,k=w.heap.size+c/\Ic c
 have hIsz:∀b',Ic b'->b'<w.heap.size:=λb' h=>by
  rcases (hIc b').1 h with h|⟨n,_,f,hf,ha,ht⟩
  · exact hM1.mem.old b' h
  · exact (hM.mem.rep n f hf).top_lt ha ht
 have hMc:=MS.start (w:=w) Ic Tc Nc hIsz (λb' h=>.inr ⟨b',rfl,h⟩) (λb' hb'=>by
  obtain⟨p,hp,hpg,hpt⟩:=sQ hb';obtain⟨f,hf,hfa⟩:=ox hM.mem hu hp hpt;exact hM.since.soft b' (hM.since.tops p.1 f b' hf hfa hpt))
 have hgiv:oE w Tc Nc [] ⟨Ic,λ_=>.slice none 0 0,λ_=>0,λ_=>none,λ_=>[],λ_=>[]⟩ (od g b.used++[]) (om en g b.used++[]):=by
  rw[append_nil,append_nil];refine⟨xm hM.mem hu hd,xn hM.mem hu hd,λb' hb'=>⟨λhI=>?_,(λm f h=>by cases h),.inr hb'⟩,λb' hb'=>⟨(λm f h=>by cases h),.inr (.inr (.inl hb'))⟩,(λb' hb' m f h=>by cases h)⟩;obtain⟨p,hp,hpg,hpt⟩:=sQ hb';obtain⟨f,hf,hfa⟩:=ox hM.mem hu hp hpt;rcases hI with (h|⟨q,hq,⟨e,xs,hqe⟩,hqt⟩)|⟨n,hn,f',hf',hfa',ht⟩
  · exact hM.mem.topI p.1 f b' hf hfa hpt h
  · obtain⟨f',hf',hfa'⟩:=ox hM.mem hu hq hqt;have:=hM.mem.apart p.1 q.1 f f' b' hf hf' hfa hfa' hpt hqt
    have h1:=oX hd hp;have h2:=oX hd hq
    rw[this,h2]at h1;rw[hpg,hqe]at h1;cases h1
  · have:=hM.mem.apart p.1 n f f' b' hf hf' hfa hfa' hpt ht;have h1:=oX hd hp
    rw[this,hro n hn]at h1;cases h1
 obtain⟨gc,hgave,hslots,hploc⟩:=wk hMc ps 0 b.args vals _ _ [] [] hgiv hat hdis;have hInv:nk w Tc Nc ⟨(entry 0 ps b.args).1,(entry 0 ps b.args).2⟩ gc w { tmps:=vals.toArray++Array.replicate (fn.ntmps-vals.toArray.size) undef,defers:=[] }:=by
  refine⟨hgave.to_nil.mem,hgave.to_nil.since,λt=>?_,rfl⟩;rcases hslots t with h|⟨k,v,x,h1,h2,h3,h4⟩
  · show nc _ _ _ (match mG (entry 0 ps b.args).1 t with|some v=>v|none=>.undef) _;rw[h];trivial
  · show nc _ _ _ (match mG (entry 0 ps b.args).1 t with|some v=>v|none=>.undef) _;rw[h3];obtain rfl:t=k:=by omega
    have hlt:t<vals.length:=(List.getElem?_eq_some_iff.1 h2).1;have:(vals.toArray++Array.replicate (fn.ntmps-vals.toArray.size) undef).getD t undef=v:=by
     have hv:=(List.getElem?_eq_some_iff.1 h2).2;have hsz':t<(vals.toArray++Array.replicate (fn.ntmps-vals.toArray.size) undef).size:=by rw[Array.size_append,List.size_toArray];omega
     unfold Array.getD;rw[dif_pos hsz'];show (vals.toArray++Array.replicate (fn.ntmps-vals.toArray.size) undef)[t]'hsz'=v
     rw[Array.getElem_append_left (by simpa using hlt)];simpa using hv
    rw[this];exact h4
 have hsz:fn.ntmps<=(vals.toArray++Array.replicate (fn.ntmps-vals.toArray.size) undef).size:=by simp;omega
 have hc0:nE ⟨(entry 0 ps b.args).1,(entry 0 ps b.args).2⟩:=by
  obtain⟨k1,k2⟩:=uh ps 0 b.args;refine⟨λt=>?_,λn cs hn=>k2 n cs (nz hn)⟩;show p4 _ (match mG (entry 0 ps b.args).1 t with|some v=>v|none=>.undef)
  cases hf:mG (entry 0 ps b.args).1 t with
  | none=>exact mX rfl
  | some v =>
   have:=k1 t v hf;cases v with
   | cell c=>exact this
   | agg cs=>exact this
   | tup l=>exact this.elim
 have key:∀(S':St) (a':Act) (w':World),At w Tc Nc fn.ntmps (dom (entry 0 ps b.args).2) gc w S' a' w'->leave G fn.results.toList ps rs S'=some r ->
  a'.defers=[]/\∃v,(results fn a'.tmps).run P w'=.ok v w'/\∃g',MS w0 T N ((mN uid ps rs b.ptrs r).news++((mN uid ps rs b.ptrs r).upds++b.used)++en) g' w' /\
   Le (dom en) g w (dom ((mN uid ps rs b.ptrs r).news++((mN uid ps rs b.ptrs r).upds++b.used)++en)) g' w' /\
   nc (dom ((mN uid ps rs b.ptrs r).news++((mN uid ps rs b.ptrs r).upds++b.used)++en)) g' w' (rM (mN uid ps rs b.ptrs r).vals) v:=by
  intro S' a' w' ⟨gf,hIf,_,hle⟩ hl;obtain⟨vs,ents,L',h1,h0,h2,h3,h4⟩:=DC hl;obtain⟨rvals,h5,h6⟩:=uJ hIf hG.tis h1;refine⟨hIf.plain,zX rvals,yg h6,?_⟩;obtain⟨gf2,hMf2,hle2⟩:=hIf.ms.coldAll (l:=S'.cold (qm rs vs)) CI h0;exact GG (Sf:=S'.more (S'.cold (qm rs vs))) (Tc:=Tc) (Nc:=Nc) (Ic:=Ic) hM hu hd hro (λhs=>by rw[hs]at hbind;exact xN hbind) hM1 hle1 e1 e3 e4 hI1 rfl rfl hIc (λ_=>Iff.rfl) (λ_=>Iff.rfl) hnames (uK hbind hd).1 hploc hgave.imm hMf2 (hle.trans hle2) (mQ.imp (λ_ _ h=>h.mono hle2) h5) h2 h3 h4 hdist hnew
 refine calls_of_wp hf hb (pL hG hm c hbel hInv hsz hc0 hden ⟨λS' a' w' _ _ hat hk=>?_,(λi S' a' w' _ _ hat hk=>by cases hk),λS' a' w' _ _ hat hk=>?_⟩)
 · obtain⟨k1,v,k2,k3⟩:=key S' a' w' hat hk;exact⟨k1,v,k2,k3⟩
 · obtain⟨k1,v,k2,k3⟩:=key S' a' w' hat hk;exact⟨k1,v,k2,k3⟩
end Go.V
namespace Go.V

mutual
/-- Whole numbers lie in their kind's range; lengths are lengths. -/
def CT.wf:(c:CT)->c.den->Prop
 | .int k,n=>k.min<=n/\n<=k.max
 | .bool,_=>True
 | .str,s=>s.length<=maxLen
 | .err,_=>True
 | .sl e,xs=>xs.length<=maxLen/\∀x∈xs,Cs.wf e x
def Cs.wf:(e:Cs)->e.den->Prop
 | .one c,x=>CT.wf c x
 | .cons c r,x=>CT.wf c x.1/\Cs.wf r x.2
end
def Cs.toL:Cs->List CT | .one c=>[c] | .cons c r=>c::r.toL
theorem Cs.toL_length:∀e:Cs,e.toL.length=e.len
 | .one _=>rfl
 | .cons _ r=>by simp[Cs.toL,Cs.len,Cs.toL_length r]
def AR:List CT->List CT->Bool
 | [],[]=>true
 | c::l,d::m=>(CT.same c d).isSome&&AR l m
 | _,_=>false
theorem BC:∀{l m:List CT},AR l m=true->l=m
 | [],[],_=>rfl
 | c::l,d::m,h=>by
  simp only[AR,aT]at h;cases hs:CT.same c d with
  | none=>rw[hs]at h;cases h.1
  | some e=>obtain⟨rfl⟩:=e;rw[BC h.2]
 | [],_::_,h=>by cases h
 | _::_,[],h=>by cases h
def rF (ti:List (Nat×n7)):List Field->Nat->Option (List CT)
 | [],_=>some []
 | f::fs,o=>cond (Nat.beq f.offset o) (match mG ti f.type with|some j=>(match rF ti fs (o+j.cs.len)with|some l=>some (j.cs.toL++l)|none=>none)|none=>none) none
def BD (P:Program) (ti:List (Nat×n7)) (p:Nat×n7):Bool :=
 match P.underlying p.1 with
 | some (.struct fs)=>(match rF ti fs.toList 0 with|some l=>AR l p.2.cs.toL|none=>false)
 | _=>true
def Deep (P:Program) (ti:List (Nat×n7)):Prop:=∀t i,mG ti t=some i->BD P ti (t,i)=true
theorem Deep.of_all {P:Program} {ti:List (Nat×n7)} (h:ti.all (BD P ti)=true):Deep P ti:=λt i hi=>all_eq_true.1 h _ (sM hi)
variable {P:Program} {ti:List (Nat×n7)} {w:World}
def wn (w:World) (c:CT) (v:Value):Prop:=∃x F,CT.Rep w c x v F/\(∀b∈F,b<w.heap.size)/\CT.wf c x
theorem yr:∀(e:Cs) (vs:List Value),mQ (wn w) e.toL vs->∃x F,Cs.Rep w e x vs F/\(∀b∈F,b<w.heap.size)/\Cs.wf e x
 | .one c,[v],h=>by
  obtain⟨x,F,h1,h2,h3⟩:=h.1;exact⟨x,F,by simp only[Cs.Rep];exact⟨v,rfl,h1⟩,h2,by simp only[Cs.wf];exact h3⟩
 | .one c,[],h=>h.elim
 | .one c,_::_::_,h=>h.2.elim
 | .cons c r,[],h=>h.elim
 | .cons c r,v::vs,h=>by
  obtain⟨x,F,h1,h2,h3⟩:=h.1;obtain⟨y,F',k1,k2,k3⟩:=yr r vs h.2;refine⟨(x,y),F++F',by simp only[Cs.Rep];exact⟨v,vs,F,F',rfl,rfl,h1,k1⟩,λb hb=>(mem_append.1 hb).elim (h2 b) (k2 b),by simp only[Cs.wf];exact⟨h3,k3⟩⟩
theorem Es {α:Type} {n:Nat} {R:α->List Value->List Nat->Prop} {Q:α->List Nat->Prop}:∀(m:Nat) (vs:List Value),vs.length=m*n->(∀i,i<m->∃y F,R y ((vs.drop (i*n)).take n) F/\Q y F) ->
 ∃xs F,xs.length=m/\mS n R xs vs F/\(∀x∈xs,∃G,Q x G)/\∀b∈F,∃x G,Q x G/\b∈G
 | 0,vs,h,_=>⟨[],[],rfl,⟨by simpa using h,rfl⟩,by simp,by simp⟩
 | m+1,vs,h,hr=>by
  obtain⟨y,F,h1,h2⟩:=hr 0 (by omega);rw[Nat.zero_mul,List.drop_zero]at h1;have hn:n<=vs.length:=by rw[h,Nat.add_mul];omega
  obtain⟨xs,F',k1,k2,k3,k4⟩:=Es (n:=n) (R:=R) (Q:=Q) m (vs.drop n) (by rw[List.length_drop,h,Nat.add_mul];omega) (λi hi=>by
   obtain⟨y,F,h1,h2⟩:=hr (i+1) (by omega);exact⟨y,F,by rw[List.drop_drop];rw[Nat.add_mul,Nat.one_mul,Nat.add_comm]at h1;exact h1,h2⟩)
  refine⟨y::xs,F++F',by simp[k1],⟨vs.take n,vs.drop n,F,F',(List.take_append_drop n vs).symm,by rw[length_take];omega,rfl,h1,k2⟩,λx hx=>?_,λb hb=>?_⟩
  · rcases mem_cons.1 hx with rfl|hx
    · exact⟨F,h2⟩
    · exact k3 x hx
  · rcases mem_append.1 hb with hb|hb
    · exact⟨y,F,h2,hb⟩
    · exact k4 b hb
theorem uL:∀{fs:List Field} {o:Nat} {l:List CT} {vs:List Value},rF ti fs o=some l->vs.length=o+l.length ->
 (∀f∈fs,∀j,mG ti f.type=some j->mQ (wn w) j.cs.toL ((vs.drop f.offset).take j.cs.len))->mQ (wn w) l (vs.drop o)
 | [],o,l,vs,h,hl,_=>by
  cases h;rw[List.drop_of_length_le (by simpa using Nat.le_of_eq hl)];trivial
 | f::fs,o,l,vs,h,hl,hg=>by
  simp only[rF]at h;cases ho:Nat.beq f.offset o with
  | false=>rw[ho]at h;cases h
  | true =>
   rw[ho]at h;obtain rfl:=Nat.eq_of_beq_eq_true ho;cases hj:mG ti f.type with
   | none=>rw[hj]at h;cases h
   | some j =>
    rw[hj]at h;simp only[cT]at h;cases hr:rF ti fs (f.offset+j.cs.len)with
    | none=>rw[hr]at h;cases h
    | some m =>
     rw[hr]at h;cases h;rw[List.length_append,Cs.toL_length]at hl;have h1:=hg f mem_cons_self j hj
     have h2:=uL hr (vs:=vs) (by omega) (λf' hf'=>hg f' (mem_cons_of_mem _ hf'));have e:vs.drop f.offset=(vs.drop f.offset).take j.cs.len++vs.drop (f.offset+j.cs.len):=by
      conv=>lhs;rw[←List.take_append_drop j.cs.len (vs.drop f.offset)]
      rw[List.drop_drop]
     rw[e];exact h1.append h2
section
variable {H:Type} {enc:TypeId×Value->H} {held:Bool}
theorem qn.cells {t:Nat} {i:n7} {d:TypeInfo} {u:TypeDesc} {z:Value} (h:qn P ti t i d u z):P.cellsOf t=i.cs.len:=by
 simp[Program.cellsOf,h.info,h.size]
theorem zn {base:Nat} {a:Addr} {n:Nat} {vs:List Value} (h:w.cells? base a n=some vs):vs.length=n/\∀k,k<n->w.cell? (a.add k)=vs[k]?:=by
 unfold World.cells? at h;split at h
 · refine⟨by simpa using mapM_some_length h,λk hk=>?_⟩;exact mapM_some_get h k k (by simp[hk])
 · cases h
theorem DD {a:Addr} {v:Value} (h:w.cell? a=some v):a.spot=none/\∃c t fz,w.heap[a.block]?=some (.cells c t fz)/\c[a.off]?=some v:=by
 unfold World.cell? at h;split at h
 · rename_i c t fz hc;split at h
   · cases h
   · rename_i hs;exact⟨by
      cases hsp : a.spot with
      | none=>rfl
      | some _=>rw[hsp]at hs;simp at hs,c,t,fz,hc,h⟩
 · cases h
theorem xo (hT:oG P ti) (hD:Deep P ti):∀(fuel:Nat) (t:Nat) (i:n7) (cs:List Value) (x:DataW H×List MemPlace),mG ti t=some i->DataW.trod enc P w 0 (λ_=>true) held fuel t cs=some x->mQ (wn w) i.cs.toL cs
 | 0,t,i,cs,x,hi,h=>by simp[DataW.trod]at h
 | fuel+1,t,i,cs,x,hi,h=>by
  obtain⟨d,u,z,hf⟩:=hT.facts hi;cases ha:i.agg with
  | true =>
   obtain⟨fs,hu,_⟩:=hf.agg ha;have hund:=hf.und
   rw[hu]at hund;obtain⟨xs,n,hn,_,hlen,hxs,hget⟩:=DataW.trod_struct hund h;obtain rfl:fuel=n:=by omega
   have hd:=hD t i hi;unfold BD at hd;simp only[hund]at hd;cases hdf:rF ti fs.toList 0 with
   | none=>rw[hdf]at hd;cases hd
   | some l =>
    rw[hdf]at hd;obtain rfl:=BC hd;have hlen':cs.length=0+i.cs.toL.length:=by rw[hlen,hf.cells,Cs.toL_length];omega
    have:=uL (w:=w) hdf hlen' (λf hfm j hj=>by
     obtain⟨k,hk,hkf⟩:=List.mem_iff_getElem.1 hfm;have hfk:fs[k]?=some f:=by rw[←hkf];simp at hk ⊢
     have hg:=hget k f hfk;have hkx:k<xs.length:=by rw[hxs];simpa using hk
     rw[List.getElem?_eq_getElem hkx]at hg;obtain⟨d',u',z',hf'⟩:=hT.facts hj;rw[hf'.cells]at hg;exact xo hT hD fuel f.type j _ _ hj hg)
    simpa using this
  | false =>
   obtain⟨c,hc,hs⟩:=hf.plain ha;rw[hc];have hund:=hf.und
   cases u<;>try (simp[og]at hs;done)
   case bool =>
    obtain⟨b,rfl,_⟩:=DataW.trod_bool hund h;cases c<;>simp[og]at hs;exact⟨⟨b,[],by simp only[CT.Rep];exact⟨trivial,trivial⟩,by simp,by simp only[CT.wf]⟩,trivial⟩
   case int k =>
    obtain⟨n,rfl,_,hw⟩:=DataW.trod_int hund h;cases c<;>simp[og]at hs;obtain rfl:=pV hs;simp only[Lit.wf,aT,decide_eq_true_eq]at hw;exact⟨⟨n,[],by simp only[CT.Rep];exact⟨trivial,trivial⟩,by simp,by simp only[CT.wf];exact hw⟩,trivial⟩
   case string =>
    obtain⟨s,rfl,_,hw⟩:=DataW.trod_string hund h;cases c<;>simp[og]at hs;refine⟨⟨s.data.toList,[],by simp only[CT.Rep];exact⟨by simp,trivial⟩,by simp,?_⟩,trivial⟩;simp only[CT.wf];rw[Array.length_toList];exact hw
   case interface ms =>
    cases c<;>simp[og]at hs;unfold DataW.trod at h;rw[hund]at h;split at h<;>simp_all
    · exact⟨⟨false,[],by simp only[CT.Rep];exact⟨trivial,.inl ⟨trivial,trivial⟩⟩,by simp,by simp only[CT.wf]⟩,trivial⟩
    · exact⟨⟨true,[],by simp only[CT.Rep];exact⟨trivial,.inr ⟨trivial,_,_,rfl⟩⟩,by simp,by simp only[CT.wf]⟩,trivial⟩
   case slice e =>
    cases c<;>simp[og]at hs;rename_i f;obtain⟨rfl,hs⟩:=hs;cases hj:mG ti i.elem with
    | none=>rw[hj]at hs;simp at hs
    | some j =>
     rw[hj]at hs;have hjf:j.cs=f:=by
      simp only at hs;cases hsm:Cs.same j.cs f with
      | none=>rw[hsm]at hs;cases hs
      | some q=>exact q.down
     subst hjf;obtain⟨d',u',z',hf'⟩:=hT.facts hj;rcases DataW.trod_slice hund h with ⟨rfl,_⟩|⟨a,len,cap,elems,rest,n,hn,rfl,_,_,hlc,hcap,hel,hget,hsp,_⟩
     · exact⟨⟨[],[],oM.2 (.inl ⟨⟨_,rfl⟩,rfl,rfl⟩),by simp,by simp[CT.wf]⟩,trivial⟩
     obtain rfl:fuel=n:=by omega
     obtain⟨hr1,hr2⟩:=hsp rfl;rw[hf'.cells]at hget hr2;have hpos:=Cs.len_pos j.cs
     have hall:∀k,k<cap->∃vs,w.cells? 0 (a.add (k*j.cs.len)) j.cs.len=some vs/\mQ (wn w) j.cs.toL vs:=by
      intro k hk;have key:∀{y:DataW H×List MemPlace},(w.cells? 0 (a.add (k*j.cs.len)) j.cs.len).bind (DataW.trod enc P w 0 (λ_=>true) held fuel i.elem)=some y->∃vs,w.cells? 0 (a.add (k*j.cs.len)) j.cs.len=some vs/\mQ (wn w) j.cs.toL vs:=by
       intro y hy;rw[Option.bind_eq_some_iff]at hy;obtain⟨vs,h1,h2⟩:=hy;exact⟨vs,h1,xo hT hD fuel i.elem j vs _ hj h2⟩
      by_cases hkl:k<len
      · have:=hget k hkl;rw[List.getElem?_eq_getElem (by omega)]at this;exact key this
      · have:=hr2 (k-len) (by omega);rw[show len+(k-len)=k by omega,List.getElem?_eq_getElem (by omega)]at this;exact key this
     by_cases hc0:cap=0
     · subst hc0;obtain rfl:len=0:=by omega
       exact⟨⟨[],[],oM.2 (.inl ⟨⟨_,rfl⟩,rfl,rfl⟩),by simp,by simp[CT.wf]⟩,trivial⟩
     obtain⟨vs0,h00,_⟩:=hall 0 (by omega);obtain⟨hl0,hg0⟩:=zn h00;have h0:w.cell? a=some (vs0[0]'(by omega)):=by
      have:=hg0 0 hpos;rw[Nat.zero_mul,List.getElem?_eq_getElem (by omega)]at this;simpa[Addr.add]using this
     obtain⟨hsp0,c,tc,fz,hcell,_⟩:=DD h0;obtain⟨b,off,sp⟩:=a;obtain rfl:sp=none:=hsp0;have hcells:∀k,k<cap->∃vs,vs.length=j.cs.len/\(∀q,q<j.cs.len->c[off+k*j.cs.len+q]?=vs[q]?)/\mQ (wn w) j.cs.toL vs:=by
      intro k hk;obtain⟨vs,h1,h2⟩:=hall k hk;obtain⟨hl,hg⟩:=zn h1;refine⟨vs,hl,λq hq=>?_,h2⟩;have:=hg q hq
      rw[oI,oI]at this;rw[←this];simp only[World.cell?,hcell];simp
     have hsize:off+cap*j.cs.len<=c.size:=by
      obtain⟨vs,hl,hg,_⟩:=hcells (cap-1) (by omega);have:=hg (j.cs.len-1) (by omega)
      rw[List.getElem?_eq_getElem (by omega)]at this;have hlt:=(Array.getElem?_eq_some_iff.1 this).1
      have e:cap*j.cs.len=(cap-1)*j.cs.len+j.cs.len:=by rw[←Nat.succ_mul];congr 1;omega
      omega
     have hlensz:len*j.cs.len<=cap*j.cs.len:=Nat.mul_le_mul_right _ hlc
     let vs:=(c.toList.drop off).take (len*j.cs.len)
     have hvl:vs.length=len*j.cs.len:=by simp only[vs,length_take,List.length_drop,Array.length_toList];omega
     obtain⟨xs,F,hxl,hL,hQ,hFb⟩:=Es (R:=Cs.Rep w j.cs) (Q:=λy G=>(∀b∈G,b<w.heap.size)/\Cs.wf j.cs y) len vs hvl (λk hk=>by
      obtain⟨us,hl,hg,hgood⟩:=hcells k (by omega);have e:(vs.drop (k*j.cs.len)).take j.cs.len=us:=by
       have hkk:k*j.cs.len+j.cs.len<=len*j.cs.len:=by rw[←Nat.succ_mul];exact Nat.mul_le_mul_right _ hk
       apply List.ext_getElem?;intro q;by_cases hq:q<j.cs.len
       · rw[List.getElem?_take_of_lt hq,List.getElem?_drop];simp only[vs];rw[List.getElem?_take_of_lt (by omega),List.getElem?_drop,←hg q hq,Array.getElem?_toList]
         congr 1;omega
       · rw[List.getElem?_eq_none (by rw[length_take];omega),List.getElem?_eq_none (by omega)]
      rw[e];obtain⟨y,G,k1,k2,k3⟩:=yr j.cs us hgood;exact⟨y,G,k1,k2,k3⟩)
     have hb:b<w.heap.size:=(Array.getElem?_eq_some_iff.1 hcell).1;refine⟨⟨xs,b::F,oM.2 (.inr ⟨b,off,cap,vs,F,?_,rfl,by omega,⟨c,tc,fz,hcell,hsize⟩,⟨c,tc,fz,hcell,?_⟩,hL⟩),λb' hb'=>?_,?_⟩,trivial⟩
     · rw[hxl]
     · rw[hvl]
     · rcases mem_cons.1 hb' with rfl|hb'
       · exact hb
       · obtain⟨y,G,⟨k1,_⟩,k2⟩:=hFb b' hb';exact k1 b' k2
     · simp only[CT.wf];exact⟨by omega,λy hy=>by obtain⟨G,_,k⟩:=hQ y hy;exact k⟩
end
end Go.V
namespace Go.V
open Go.RowKit
variable {P:Program} {ti:List (Nat×n7)} {W w:World}

mutual
theorem CT.same_refl:∀c:CT,CT.same c c=some ⟨rfl⟩
 | .int k=>by simp[CT.same]
 | .bool=>rfl
 | .str=>rfl
 | .err=>rfl
 | .sl e=>by simp only[CT.same,Cs.same_refl e]
theorem Cs.same_refl:∀e:Cs,Cs.same e e=some ⟨rfl⟩
 | .one c=>by simp only[Cs.same,CT.same_refl c]
 | .cons c r=>by simp only[Cs.same,CT.same_refl c,Cs.same_refl r]
end
theorem CT.read_cell {F:mF->Option Entry} (c:CT) (x:c.den):(c.read (c.cell x)).Runs F x []:=by
 cases c with
 | int k=>exact (show (cond (Nat.beq (nK k) (nK k)) (Rd.ret x) .fail).Runs F x []from by rw[show Nat.beq (nK k) (nK k)=true from Nat.beq_refl _];exact⟨rfl,rfl⟩)
 | bool=>exact⟨rfl,rfl⟩
 | str=>exact⟨rfl,rfl⟩
 | err=>exact⟨rfl,rfl⟩
 | sl e =>
  show (sc e (.sh e x)).Runs F x [];simp only[sc,Cs.same_refl];exact⟨rfl,rfl⟩
theorem Cs.read_cells {F:mF->Option Entry}:∀(c:Cs) (x:c.den),(c.read (c.cells x)).Runs F x []
 | .one c,x=>CT.read_cell c x
 | .cons c r,x=>by
  show ((c.read (c.cell x.1)).bind λa=>(r.read (r.cells x.2)).bind λb=>.ret (a,b)).Runs F x [];exact Rd.bind_runs (L1:=[]) (L2:=[]) (CT.read_cell c x.1) (Rd.bind_runs (L1:=[]) (L2:=[]) (Cs.read_cells r x.2) ⟨rfl,rfl⟩)
def ui:(ps:List nB)->mI (mY ps)->List AV
 | [],_=>[]
 | .val agg c _::ps,x=>pb agg (c.cells (mI.hd c (mY ps) x))::ui ps (mI.tl c (mY ps) x)
 | .ptr c _::ps,x=>ui ps (mI.tl c (mY ps) x)
theorem wo {D:mF->Prop} {g:Gh}:∀{ps:List nB} {x:mI (mY ps)} {vs:List Value},oo ps=true->qq g.I w ps x vs [] []->mQ (nc D g w) (ui ps x) vs
 | [],x,vs,_,⟨h,_⟩=>by subst h;trivial
 | .val agg c false::ps,x,vs,hl,⟨v,vs',us,t1,t2,n1,n2,h1,h2,h3,h4,h5,h6⟩=>by
  subst h1;obtain⟨rfl,rfl⟩:=append_eq_nil_iff.1 h3.symm;obtain⟨rfl,rfl⟩:=append_eq_nil_iff.1 h4.symm;rcases h5 with ⟨_,_,h,_⟩|⟨_,_,_,F,hF,hI⟩
  · cases h
  · exact⟨sP (Cs.cells_rep hF hI) h2,wo (by simpa[oo]using hl) h6⟩
 | .val _ _ true::_,_,_,hl,_=>by simp[oo]at hl
 | .ptr _ _::_,_,_,hl,_=>by simp[oo]at hl
theorem Fw {D:mF->Prop} {g:Gh} {agg:Bool} {c:Cs} {x:c.den} {v:Value} {us:List Value} {F:List Nat} (h:isAgg agg v us) (hF:Cs.Rep w c x us F):qM agg (pb agg (c.cells x))=true/\(pb agg (c.cells x)).cells=c.cells x:=by
 rcases h with ⟨rfl,rfl⟩|⟨rfl,_⟩
 · have hl:=hF.length;cases c with
   | one c=>exact⟨rfl,rfl⟩
   | cons c r =>
    exfalso;have:=Cs.len_pos r
    simp[Cs.len]at hl;omega
 · have:pb true (c.cells x)=.agg (c.cells x):=by cases c.cells x<;>rfl
   rw[this];exact⟨rfl,rfl⟩
theorem vl {I:Nat->Prop} {F:mF->Option Entry}:∀{ps:List nB} {x:mI (mY ps)} {vs:List Value},oo ps=true->qq I w ps x vs [] []->∃b:w6 (mY ps),(nT false ps (ui ps x)).Runs F b []/\b.args=x/\b.used=[]/\b.ptrs=[]
 | [],x,vs,_,⟨h,_⟩=>⟨⟨(),[],[],[]⟩,⟨rfl,rfl⟩,rfl,rfl,rfl⟩
 | .val agg c false::ps,x,vs,hl,⟨v,vs',us,t1,t2,n1,n2,h1,h2,h3,h4,h5,h6⟩=>by
  subst h1;obtain⟨rfl,rfl⟩:=append_eq_nil_iff.1 h3.symm;obtain⟨rfl,rfl⟩:=append_eq_nil_iff.1 h4.symm;rcases h5 with ⟨_,_,h,_⟩|⟨_,_,_,G,hG,hI⟩
  · cases h
  · obtain⟨k1,k2⟩:=Fw (D:=λ_=>False) (g:=⟨λ_=>False,λ_=>.slice none 0 0,λ_=>0,λ_=>none,λ_=>[],λ_=>[]⟩) h2 hG;obtain⟨b,e1,e2,e3,e4⟩:=vl (F:=F) (show oo ps=true by simpa[oo]using hl) h6;refine⟨⟨mI.mk c (mY ps) (mI.hd c (mY ps) x) b.args,[]++b.used,b.ptrs,cond false [] ((pb agg (c.cells (mI.hd c (mY ps) x))).cells.flatMap Cell.names)++b.ro⟩,?_,?_,?_,e4⟩
    · show (nT false (.val agg c false::ps) (pb agg (c.cells (mI.hd c (mY ps) x))::ui ps (mI.tl c (mY ps) x))).Runs F _ [];rw[nT,k1];refine Rd.bind_runs (L1:=[]) (L2:=[]) (a:=()) ⟨rfl,rfl⟩ ?_;refine Rd.bind_runs (L1:=[]) (L2:=[]) (a:=(mI.hd c (mY ps) x,[])) ?_ ?_
      · refine Rd.bind_runs (L1:=[]) (L2:=[]) (a:=mI.hd c (mY ps) x) ?_ ⟨rfl,rfl⟩;rw[k2];exact Cs.read_cells c _
      · exact Rd.bind_runs (L1:=[]) (L2:=[]) e1 ⟨rfl,rfl⟩
    · show mI.mk c (mY ps) (mI.hd c (mY ps) x) b.args=x;rw[e2];have eta:∀(c:Cs) (r:List Cs) (x:mI (c::r)),mI.mk c r (mI.hd c r x) (mI.tl c r x)=x:=by
       intro c r x;cases r with
       | nil=>rfl
       | cons _ _=>rfl
      exact eta c (mY ps) x
    · simpa using e3
 | .val _ _ true::_,_,_,hl,_=>by simp[oo]at hl
 | .ptr _ _::_,_,_,hl,_=>by simp[oo]at hl
abbrev yesR:List ob:=[.val false (.one .bool) (some true)]
def zo:(ps:List nB)->mI (nS ps yesR)
 | []=>true
 | .val _ _ _::ps=>zo ps
 | .ptr c _::ps=>mI.mk c (nS ps yesR) c.zero (zo ps)
theorem yh:∀(ps:List nB) (n:mF),oo ps=true->mN n ps yesR [] (zo ps)=⟨[.cell (.bool true)],[],[]⟩
 | [],n,_=>rfl
 | .val _ _ false::ps,n,h=>yh ps n (by simpa[oo]using h)
 | .val _ _ true::_,_,h=>by simp[oo]at h
 | .ptr _ _::_,_,h=>by simp[oo]at h
theorem Co:∀(ps:List nB),oo ps=true->pG ps yesR=false:=by
 intro ps h;unfold pG;rw[show yesR.any ob.sh=false from rfl,Bool.or_false];rw[List.any_eq_false];intro p hp;have:=all_eq_true.1 h p hp
 cases p with
 | val _ _ _=>simp[nB.sh]
 | ptr _ _=>cases this
theorem Et {f:FuncId} {ps:List nB} {den:mI (mY ps)->Option (mI (nS ps yesR))} (hm:tK P f ⟨ps,yesR,den⟩) (hl:oo ps=true) {x:mI (mY ps)} {vs:List Value} (ha:qq (λb=>b<w.heap.size) w ps x vs [] []) (hd:den x=some (zo ps)) :
 Calls P f vs.toArray w λe w'=>e=.returned (.bool true)/\Below w.heap.size w w':=by
 have hM:=MS.start (w:=w) (λb=>b<w.heap.size) (λ_=>False) (λk=>∃b,k=w.heap.size+b/\b<w.heap.size) (λ_ h=>h) (λb h=>⟨b,rfl,h⟩) (λ_ h=>h.elim);have h1:=wo (D:=dom []) (g:=⟨λb=>b<w.heap.size,λ_=>.slice none 0 0,λ_=>0,λ_=>none,λ_=>[],λ_=>[]⟩) hl ha
 obtain⟨b,h2,e1,e2,e3⟩:=vl (F:=mG []) hl ha;have hs:=Co ps hl
 have hg:=yh ps 0 hl;have key:=hm.2 w (λ_=>False) (λk=>∃b,k=w.heap.size+b/\b<w.heap.size) [] _ w 0 (ui ps x) vs b [] (zo ps) hM h1 (by rw[hs];exact h2)
  (by rw[e2];simp[mP,mG]) (by show den b.args=_;rw[e1];exact hd)
  (by show mP (mN 0 ps yesR b.ptrs (zo ps)).news=true;rw[e3,hg];rfl) (by intro p hp;have hp:p∈(mN 0 ps yesR b.ptrs (zo ps)).news:=hp;rw[e3,hg]at hp;simp at hp)
 refine key.mono λe w' he=>?_;cases e with
 | returned v =>
  obtain⟨g',hM',_,hv⟩:=he;have hv:nc _ g' w' (rM (mN 0 ps yesR b.ptrs (zo ps)).vals) v:=hv
  rw[e3,hg]at hv;have hv:v=.bool true:=hv
  exact⟨by rw[hv],⟨hM'.since.os,hM'.since.tape,hM'.since.out,hM'.since.size,λk hk=>hM'.since.mem k hk (λh=>h)⟩⟩
 | panicked _=>exact he.elim
 | outgrown=>exact he.elim

theorem Ay:∀{ps:List nB} {x:mI (mY ps)} {vs:List Value},xc w ps x vs->qq (λb=>b<w.heap.size) w ps x vs [] []
 | [],x,vs,h=>⟨h,rfl,rfl⟩
 | .val agg c false::ps,x,vs,⟨v,vs',us,F,h1,h2,h3,h4⟩=>⟨v,vs',us,[],[],[],[],h1,h2,rfl,rfl,.inr ⟨rfl,rfl,rfl,F,h3,λb hb=>h3.lt b hb⟩,Ay h4⟩
 | .val _ _ true::_,_,_,h=>h.elim
 | .ptr .. :: _,_,_,h=>h.elim
theorem Cp {ps:List nB} {rs:List ob} (h:oo ps=true) (k:vv rs=true):pG ps rs=false:=by
 unfold pG;rw[Bool.or_eq_false_iff,List.any_eq_false,List.any_eq_false];refine⟨λp hp=>?_,λr hr=>?_⟩
 · have:=all_eq_true.1 h p hp;cases p with
   | val _ _ _=>simp[nB.sh]
   | ptr _ _=>cases this
 · have:=all_eq_true.1 k r hr;cases r with
   | val agg c own=>cases hx:sf own<;>simp_all [ob.sh]
   | ptr _ _=>cases this
   | cold _ _=>cases this
theorem Eu {f:FuncId} {F:Fn} (hm:tK P f F) (hl:oo F.ps=true) (hk:vv F.rs=true):Bq P f F:=by
 refine⟨hm.1,λw uid x vs r ha hd hdist=>?_⟩;have hM:=MS.start (w:=w) (λb=>b<w.heap.size) (λ_=>False) (λk=>∃b,k=w.heap.size+b/\b<w.heap.size) (λ_ h=>h) (λb h=>⟨b,rfl,h⟩) (λ_ h=>h.elim)
 have ha':=Ay ha;have h1:=wo (D:=dom []) (g:=⟨λb=>b<w.heap.size,λ_=>.slice none 0 0,λ_=>0,λ_=>none,λ_=>[],λ_=>[]⟩) hl ha'
 obtain⟨b,h2,e1,e2,e3⟩:=vl (F:=mG []) hl ha';have hs:=Cp hl hk
 have hu:(mN uid F.ps F.rs [] r).upds=[]:=by
  have:=sA F.ps F.rs uid [] r;cases hq:(mN uid F.ps F.rs [] r).upds with
  | nil=>rfl
  | cons p l=>exact absurd (this p (by rw[hq];simp)) (by simp)
 have key:=hm.2 w (λ_=>False) (λk=>∃b,k=w.heap.size+b/\b<w.heap.size) [] _ w uid (ui F.ps x) vs b [] r hM h1 (by rw[hs];exact h2)
  (by rw[e2];simp[mP,mG]) (by rw[e1];exact hd) (by rw[e3];exact hdist) (by intro p hp;rfl)
 refine key.mono λe w' he=>?_;cases e with
 | returned v =>
  obtain⟨g',hM',_,hv⟩:=he;rw[e3,e2,hu]at hM' hv;simp only[append_nil]at hM' hv;exact⟨g',_,_,λ_ h=>h,λb hb ⟨c,hc,_⟩=>by omega,hM',hv⟩
 | panicked _=>exact he.elim
 | outgrown=>exact he.elim
theorem p5.cons {l:List (FuncId×Fn)} {f:FuncId} {F:Fn} (h:p5 P ⟨ti,l,[],false⟩) (hm:tK P f F):p5 P ⟨ti,(f,F)::l,[],false⟩:=by
 refine⟨h.tis,h.eqs,λk F' hk=>?_,(λf M hf=>by cases hf),(λh=>by cases h)⟩;have hk':(if f=k then some F else mG l k)=some F':=by rw[←mR];exact hk
 clear hk;split at hk'
 · rename_i e;subst e;cases hk';exact hm
 · exact h.fns k F' hk'
theorem p5.trees {l:List (FuncId×Fn)} {m:List (FuncId×q9)} (h:p5 P ⟨ti,l,[],false⟩) (hm:∀f M,mG m f=some M->oC P f M):p5 P ⟨ti,l,m,true⟩ :=
 ⟨h.tis,h.eqs,h.fns,hm,λ_ f F hf hl hk=>Eu (h.fns f F hf) hl hk⟩

def zp:(ps:List nB)->mI (mY ps)->Prop
 | [],_=>True
 | .val _ c _::ps,x=>Cs.wf c (mI.hd c (mY ps) x)/\zp ps (mI.tl c (mY ps) x)
 | .ptr c _::ps,x=>Cs.wf c (mI.hd c (mY ps) x)/\zp ps (mI.tl c (mY ps) x)
def xO (ti:List (Nat×n7)):List TypeId->List nB->Bool
 | [],[]=>true
 | t::ts,.val agg c false::ps=>(match mG ti t with|some i=>w8 i.agg agg&&(Cs.same i.cs c).isSome|none=>false)&&xO ti ts ps
 | _,_=>false
theorem yi:∀{ts:List TypeId} {ps:List nB},xO ti ts ps=true->oo ps=true
 | [],[],_=>rfl
 | t::ts,.val agg c false::ps,h=>by
  simp only[xO,aT]at h;simpa[oo]using yi h.2
 | [],_::_,h=>by cases h
 | _::_,[],h=>by cases h
 | _::_,.val _ _ true::_,h=>by cases h
 | _::_,.ptr _ _::_,h=>by cases h
theorem DE (hT:oG P ti) {t:Nat} {i:n7} (hi:mG ti t=some i) {base:Nat} {v:Value} (hv:Value.okWide P W .any base t v):isAgg i.agg v v.cells.toList:=by
 obtain⟨d,u,z,hf⟩:=hT.facts hi;cases ha:i.agg with
 | true =>
  obtain⟨fs,hu,_⟩:=hf.agg ha;have hund:=hf.und
  rw[hu]at hund;simp only[Value.okWide,hund]at hv;obtain⟨cs,rfl,_⟩:=hv;exact .inr ⟨rfl,rfl⟩
 | false =>
  obtain⟨c,_,hs⟩:=hf.plain ha;have hund:=hf.und
  left;refine⟨rfl,?_⟩;cases u<;>try (simp[og]at hs;done)
  all_goals
   simp only[Value.okWide,hund,Cell.okWide]at hv;cases v<;>first|rfl | (simp_all [Cell.ok];done)
theorem BE {H:Type} {enc:TypeId×Value->H} {held:Bool} (hT:oG P ti) (hD:Deep P ti) {base:Nat}:∀{ts:List TypeId} {ps:List nB} {vs:List Value} {ds:List (DataW H)} {p:List MemPlace},xO ti ts ps=true->DataW.TrodAll enc P W 0 (λ_=>true) held ts vs ds p ->
 (∀(j:Nat) t v,ts[j]?=some t->vs[j]?=some v->Value.okWide P W .any base t v)->∃x,qq (λb=>b<W.heap.size) W ps x vs [] []/\zp ps x
 | [],[],[],[],p,_,_,_=>⟨(),⟨rfl,rfl,rfl⟩,trivial⟩
 | t::ts,.val agg c false::ps,v::vs,d::ds,p,hs,h,hv=>by
  obtain⟨p1,q1,⟨fuel,h1⟩,h2,_⟩:=h;simp only[xO,aT]at hs;cases hi:mG ti t with
  | none=>rw[hi]at hs;cases hs.1
  | some i =>
   rw[hi]at hs;simp only[aT]at hs;obtain⟨⟨ha,hc⟩,hs⟩:=hs;obtain rfl:=xL ha;cases hsm:Cs.same i.cs c with
   | none=>rw[hsm]at hc;cases hc
   | some e =>
    obtain⟨e⟩:=e;subst e;obtain⟨x1,F,k1,k2,k3⟩:=yr i.cs _ (xo hT hD fuel t i _ _ hi h1);obtain⟨x2,k4,k5⟩:=BE (ps:=ps) hT hD hs h2 (λj t v ht hv'=>hv (j+1) t v (by simpa using ht) (by simpa using hv'));have hag:=DE hT hi (hv 0 t v rfl rfl)
    refine⟨mI.mk i.cs (mY ps) x1 x2,⟨v,vs,v.cells.toList,[],[],[],[],rfl,hag,rfl,rfl,.inr ⟨rfl,rfl,rfl,F,?_,k2⟩,?_⟩,?_⟩
    · show Cs.Rep W i.cs (mI.hd i.cs (mY ps) (mI.mk i.cs (mY ps) x1 x2)) _ F;rw[mI.hd_mk];exact k1
    · show qq _ W ps (mI.tl i.cs (mY ps) (mI.mk i.cs (mY ps) x1 x2)) vs [] [];rw[mI.tl_mk];exact k4
    · show Cs.wf i.cs (mI.hd i.cs (mY ps) (mI.mk i.cs (mY ps) x1 x2))/\zp ps (mI.tl i.cs (mY ps) (mI.mk i.cs (mY ps) x1 x2));rw[mI.hd_mk,mI.tl_mk];exact⟨k3,k5⟩
 | [],[],_::_,_,_,_,h,_=>by cases h
 | [],[],[],_::_,_,_,h,_=>by cases h
 | _::_,_,[],_,_,_,h,_=>by cases h
 | _::_,_,_::_,[],_,_,h,_=>by cases h
 | [],_::_,_,_,_,hs,_,_=>by cases hs
 | _::_,[],_,_,_,hs,_,_=>by cases hs
 | _::_,.val _ _ true::_,_,_,_,hs,_,_=>by cases hs
 | _::_,.ptr _ _::_,_,_,_,hs,_,_=>by cases hs
theorem law_walk {H:Type} {enc:TypeId×Value->H} {held:Bool} {f:FuncId} {ps:List nB} {den:mI (mY ps)->Option (mI (nS ps yesR))} (hm:tK P f ⟨ps,yesR,den⟩) (hT:oG P ti) (hD:Deep P ti) {ts:List TypeId} (hs:xO ti ts ps=true) (hden:∀x,zp ps x->den x=some (zo ps))
 {base:Nat} {vs:List Value} {ds:List (DataW H)} {p:List MemPlace} (h:DataW.TrodAll enc P W 0 (λ_=>true) held ts vs ds p) (hv:∀(j:Nat) t v,ts[j]?=some t->vs[j]?=some v->Value.okWide P W .any base t v) :
 Calls P f vs.toArray W λe W'=>e=.returned (.bool true)/\Below W.heap.size W W':=by
 obtain⟨x,h1,h2⟩:=BE hT hD hs h hv;exact Et hm (yi hs) h1 (hden x h2)
end Go.V
namespace Go.V
variable {P:Program} {G:o9} {ann:List (Nat×mO)} {w w':World}

def xp (agg:Bool) (c:Cs) (x:c.den) (k:Int):St:=⟨[(0,pb agg (Cs.give true 1 c x).1),(1,.cell (.int .i64 k))],nv (Cs.give true 1 c x).2⟩
def CT.reap (S:St) (n:mF):(c:CT)->c.den->Option c.den
 | .sl e,_=>tX S e n
 | .int _,x=>some x
 | .bool,x=>some x
 | .str,x=>some x
 | .err,x=>some x
def Cs.reap (S:St):mF->(c:Cs)->c.den->Option c.den
 | n,.one c,x=>c.reap S n x
 | n,.cons c r,x=>match c.reap S n x.1,Cs.reap S (n+1) r x.2 with|some a,some b=>some (a,b)|_,_=>none
def uM (G:o9) (rv:List ResultVar) (c:Cs) (x:c.den) (S:St):Option (c.den×Int) :=
 match sV G S rv with
 | some [.cell (.int .i64 k)]=>match Cs.reap S 1 c x with|some y=>some (y,k)|none=>none
 | _=>none
noncomputable def pM (G:o9) (ann:List (Nat×mO)) (fn:Func) (c:Code) (agg:Bool) (cs:Cs) (x:cs.den) (k:Int):Option (cs.den×Int) :=
 cond (qe fn.ntmps c&&(Nat.ble 2 fn.ntmps&&mP (nv (Cs.give true 1 cs x).2))) (qg G ann c (xp agg cs x k) ⟨uM G fn.results.toList cs x,λ_ _=>none,uM G fn.results.toList cs x⟩) none

theorem uN:∀{c:Cs} {n:mF} {x:c.den},c.held (Cs.give true n c x).1 x=nv (Cs.give true n c x).2
 | .one c,n,x=>by cases c<;>rfl
 | .cons c r,n,x=>by
  have ih:=uN (c:=r) (n:=n+1) (x:=x.2);simp only[Cs.give,Cs.held,nv,map_append];rw[ih];cases c<;>rfl
theorem Az:∀{c:Cs} {n:mF} {x:c.den} {us:List Value} {F:List Nat} {R:List (List Value)},Cs.TRep w c x us F R ->
 ∃(loc:mF->Value) (esz:mF->Nat) (rows:mF->List Value),∀(g:Gh),(∀m,n<=m->g.loc m=loc m/\g.esz m=esz m/\g.rows m=rows m)->Cs.Slot [] g c (Cs.give true n c x).1 us R
 | .one c,n,x,us,F,R,h=>by
  obtain⟨v,rfl,h⟩:=h;cases c with
  | sl e =>
   obtain⟨rw,rfl,_⟩:=h;exact⟨λ_=>v,λ_=>e.len,λ_=>rw,λg hg=>⟨_,v,rfl,rfl,n,rfl,.inr rfl,(hg n (Nat.le_refl _)).1,(hg n (Nat.le_refl _)).2.1,by rw[(hg n (Nat.le_refl _)).2.2]⟩⟩
  | int k=>obtain⟨rfl,_⟩:=h;exact⟨λ_=>v,λ_=>0,λ_=>[],λg hg=>⟨_,v,rfl,rfl,rfl⟩⟩
  | bool=>obtain⟨rfl,_⟩:=h;exact⟨λ_=>v,λ_=>0,λ_=>[],λg hg=>⟨_,v,rfl,rfl,rfl⟩⟩
  | str=>obtain⟨rfl,_⟩:=h;exact⟨λ_=>v,λ_=>0,λ_=>[],λg hg=>⟨_,v,rfl,rfl,rfl⟩⟩
  | err=>obtain⟨rfl,_⟩:=h;exact⟨λ_=>v,λ_=>0,λ_=>[],λg hg=>⟨_,v,rfl,rfl,rfl⟩⟩
 | .cons c r,n,x,us,F,R,h=>by
  obtain⟨v,vs',F1,F2,R1,R2,rfl,rfl,rfl,h1,h2⟩:=h;obtain⟨loc,esz,rows,ih⟩:=Az (n:=n+1) h2;have tail:∀(l:Value) (e:Nat) (rw:List Value) (g:Gh),(∀m,n<=m->g.loc m=(if m=n then l else loc m)/\g.esz m=(if m=n then e else esz m)/\g.rows m=(if m=n then rw else rows m))->Cs.Slot [] g r (Cs.give true (n+1) r x.2).1 vs' R2:=by
   intro l e rw g hg;refine ih g λm hm=>?_;have hne:¬m=n:=Nat.ne_of_gt (Nat.lt_of_succ_le hm)
   have:=hg m (Nat.le_of_succ_le hm);rw[if_neg hne,if_neg hne,if_neg hne]at this;exact this
  cases c with
  | sl e =>
   obtain⟨rw,rfl,_⟩:=h1;refine⟨λm=>if m=n then v else loc m,λm=>if m=n then e.len else esz m,λm=>if m=n then rw else rows m,λg hg=>⟨_,v,_,vs',[rw],R2,rfl,rfl,rfl,⟨n,rfl,.inr rfl,?_⟩,tail v e.len rw g hg⟩⟩;have:=hg n (Nat.le_refl _)
   simp only[if_true]at this;exact⟨this.1,this.2.1,by rw[this.2.2]⟩
  | int k=>obtain⟨rfl,_⟩:=h1;exact⟨λm=>if m=n then v else loc m,λm=>if m=n then 0 else esz m,λm=>if m=n then []else rows m,λg hg=>⟨_,v,_,vs',[],R2,rfl,rfl,rfl,rfl,tail v 0 [] g hg⟩⟩
  | bool=>obtain⟨rfl,_⟩:=h1;exact⟨λm=>if m=n then v else loc m,λm=>if m=n then 0 else esz m,λm=>if m=n then []else rows m,λg hg=>⟨_,v,_,vs',[],R2,rfl,rfl,rfl,rfl,tail v 0 [] g hg⟩⟩
  | str=>obtain⟨rfl,_⟩:=h1;exact⟨λm=>if m=n then v else loc m,λm=>if m=n then 0 else esz m,λm=>if m=n then []else rows m,λg hg=>⟨_,v,_,vs',[],R2,rfl,rfl,rfl,rfl,tail v 0 [] g hg⟩⟩
  | err=>obtain⟨rfl,_⟩:=h1;exact⟨λm=>if m=n then v else loc m,λm=>if m=n then 0 else esz m,λm=>if m=n then []else rows m,λg hg=>⟨_,v,_,vs',[],R2,rfl,rfl,rfl,rfl,tail v 0 [] g hg⟩⟩
theorem Ew {D:mF->Prop} {g g':Gh} (hg:∀n,g'.loc n=g.loc n):∀{c:Cs} {n:mF} {x:c.den} {us:List Value} {F:List Nat} {R:List (List Value)},Cs.TRep w c x us F R->Cs.Slot [] g c (Cs.give true n c x).1 us R->(∀m∈(Cs.give true n c x).2.map (·.1),D m)->mQ (mJ D g' w') (Cs.give true n c x).1 us:=by
 have one:∀{c:CT} {n:mF} {x:c.den} {v:Value} {F:List Nat} {R S:List (List Value)},CT.TRep w c x v F R->CT.Slot [] g c (c.give true n x).1 v S->(∀m∈(c.give true n x).2.map (·.1),D m)->mJ D g' w' (c.give true n x).1 v:=by
  intro c n x v F R S h hs hd;cases c with
  | sl e =>
   obtain⟨r,hr,_,hl,_⟩:=hs;cases hr;exact⟨hd n (by simp[CT.give]),hl.symm.trans (hg n).symm⟩
  | int k=>have:=h.2;simp only[CT.Rep]at this;exact this.1
  | bool=>have:=h.2;simp only[CT.Rep]at this;exact this.1
  | str=>have:=h.2;simp only[CT.Rep]at this;exact this.1
  | err=>have:=h.2;simp only[CT.Rep]at this;exact this.2
 intro c
 induction c using Cs.rec (motive_1:=λ_=>True)with
 | one c _ =>
  intro n x us F R h hs hd;obtain⟨v,rfl,h⟩:=h;obtain⟨y,v',hy,hv,hs⟩:=hs;cases hv;cases hy;exact⟨one h hs hd,trivial⟩
 | cons c r _ ih =>
  intro n x us F R h hs hd;obtain⟨v,vs',F1,F2,R1,R2,rfl,rfl,rfl,h1,h2⟩:=h;obtain⟨y,v',ys,vs'',S1,S2,hy,hv,hS,hs1,hs2⟩:=hs;cases hv;have hlen:∀{c:CT} {y:c.den} {v:Value} {F:List Nat} {R S:List (List Value)} {x:Cell},CT.TRep w c y v F S->CT.Slot [] g c x v R->S.length=R.length:=by
   intro c y v F R S x h1 h2;cases c with
   | sl e=>obtain⟨_,_,_,_,_,rfl⟩:=h2;obtain⟨_,rfl,_⟩:=h1;rfl
   | _=>rw[show R=[]from h2,h1.1]
  obtain⟨rfl,rfl⟩:=List.append_inj hS (hlen h1 hs1);have hy':(c.give true n x.1).1::(Cs.give true (n+1) r x.2).1=y::ys:=hy
  simp only[List.cons.injEq]at hy';obtain⟨rfl,rfl⟩:=hy';refine⟨one h1 hs1 λm hm=>hd m ?_,ih h2 hs2 λm hm=>hd m ?_⟩
  · show m∈((c.give true n x.1).2++(Cs.give true (n+1) r x.2).2).map (·.1);rw[map_append];exact mem_append_left _ hm
  · show m∈((c.give true n x.1).2++(Cs.give true (n+1) r x.2).2).map (·.1);rw[map_append];exact mem_append_right _ hm
 | _=>trivial
theorem DF {S:St} {g gf:Gh} (hm:oA S.en gf w'):∀{c:Cs} {n:mF} {x x':c.den} {us:List Value} {F:List Nat} {R:List (List Value)},Cs.TRep w c x us F R->Cs.Slot [] g c (Cs.give true n c x).1 us R ->
 (∀m∈(Cs.give true n c x).2.map (·.1),gf.loc m=g.loc m/\gf.rows m=g.rows m)->Cs.reap S n c x=some x'->Cs.TRep w' c x' us (((Cs.give true n c x).2.map (·.1)).flatMap gf.nest) R/\∀m∈(Cs.give true n c x).2.map (·.1),∃e xs,mG S.en m=some (.tree e xs):=by
 have one:∀{c:CT} {n:mF} {x x':c.den} {v:Value} {F:List Nat} {R:List (List Value)},CT.TRep w c x v F R->CT.Slot [] g c (c.give true n x).1 v R ->
  (∀m∈(c.give true n x).2.map (·.1),gf.loc m=g.loc m/\gf.rows m=g.rows m)->CT.reap S n c x=some x'->CT.TRep w' c x' v (((c.give true n x).2.map (·.1)).flatMap gf.nest) R/\∀m∈(c.give true n x).2.map (·.1),∃e xs,mG S.en m=some (.tree e xs):=by
  intro c n x x' v F R h hs hg hr;cases c with
  | sl e =>
   obtain⟨r,hr',_,hl,_,hR⟩:=hs;cases hr';have hn:=wT (show tX S e n=some x' from hr)
   obtain⟨_,k2,_⟩:=hm.rep n _ hn;obtain⟨g1,g2⟩:=hg n (by simp[CT.give]);refine⟨⟨g.rows n,hR,?_⟩,λm hm'=>?_⟩
   · rw[g1,g2,hl]at k2;simpa[CT.give]using k2
   · obtain rfl:m=n:=by simpa[CT.give]using hm'
     exact⟨e,x',hn⟩
  | int k=>cases hr;obtain⟨rfl,hr⟩:=h;refine⟨⟨rfl,?_⟩,by simp[CT.give]⟩;simp only[CT.Rep]at hr ⊢;exact⟨hr.1,rfl⟩
  | bool=>cases hr;obtain⟨rfl,hr⟩:=h;refine⟨⟨rfl,?_⟩,by simp[CT.give]⟩;simp only[CT.Rep]at hr ⊢;exact⟨hr.1,rfl⟩
  | str=>cases hr;obtain⟨rfl,hr⟩:=h;refine⟨⟨rfl,?_⟩,by simp[CT.give]⟩;simp only[CT.Rep]at hr ⊢;exact⟨hr.1,rfl⟩
  | err=>cases hr;obtain⟨rfl,hr⟩:=h;refine⟨⟨rfl,?_⟩,by simp[CT.give]⟩;simp only[CT.Rep]at hr ⊢;exact⟨rfl,hr.2⟩
 intro c
 induction c using Cs.rec (motive_1:=λ_=>True)with
 | one c _ =>
  intro n x x' us F R h hs hg hr;obtain⟨v,rfl,h⟩:=h;obtain⟨y,v',hy,hv,hs⟩:=hs;cases hv;cases hy;obtain⟨k1,k2⟩:=one h hs hg hr;exact⟨⟨v,rfl,k1⟩,k2⟩
 | cons c r _ ih =>
  intro n x x' us F R h hs hg hr;obtain⟨v,vs',F1,F2,R1,R2,rfl,rfl,rfl,h1,h2⟩:=h;obtain⟨y,v',ys,vs'',S1,S2,hy,hv,hS,hs1,hs2⟩:=hs;cases hv;have hlen:∀{c:CT} {y:c.den} {v:Value} {F:List Nat} {R S:List (List Value)} {x:Cell},CT.TRep w c y v F S->CT.Slot [] g c x v R->S.length=R.length:=by
   intro c y v F R S x h1 h2;cases c with
   | sl e=>obtain⟨_,_,_,_,_,rfl⟩:=h2;obtain⟨_,rfl,_⟩:=h1;rfl
   | _=>rw[show R=[]from h2,h1.1]
  obtain⟨rfl,rfl⟩:=List.append_inj hS (hlen h1 hs1);have hy':(c.give true n x.1).1::(Cs.give true (n+1) r x.2).1=y::ys:=hy
  simp only[List.cons.injEq]at hy';obtain⟨rfl,rfl⟩:=hy';have hnm:(Cs.give true n (.cons c r) x).2.map (·.1)=(c.give true n x.1).2.map (·.1)++(Cs.give true (n+1) r x.2).2.map (·.1):=map_append
  rw[hnm]at hg ⊢;simp only[Cs.reap]at hr;split at hr
  · rename_i p q hp hq;cases hr;obtain⟨k1,k2⟩:=one h1 hs1 (λm hm'=>hg m (mem_append_left _ hm')) hp;obtain⟨k3,k4⟩:=ih h2 hs2 (λm hm'=>hg m (mem_append_right _ hm')) hq;exact⟨⟨v,vs',_,_,R1,R2,rfl,flatMap_append,rfl,k1,k3⟩,λm hm'=>(mem_append.1 hm').elim (k2 m) (k4 m)⟩
  · cases hr
 | _=>trivial
theorem GH:∀{c:Cs} {n:mF} {x:c.den} (m:mF) (cs:List Cell),(m,Entry.box cs)∉nv (Cs.give true n c x).2:=by
 intro c n x m cs h;rw[←uN]at h;exact Cs.held_nb m cs h
theorem qa (hG : p5 P G) (hm : P.follows .mixedOrders=true) {f : FuncId} {fn : Func} {c : Code} {agg : Bool} {cs : Cs} (hf : P.funcs[f]?=some fn) (hn : (fn.name == "runtime.NumGoroutine")=false) (hb : fn.body=some c) :
 oC P f ⟨agg,cs,pM G ann fn c agg cs⟩:=by
 refine⟨⟨fn,c,hf,hn,hb⟩,?_⟩;intro w v us x x' F R k k' hag htr hnd hsoft hden;have hden:pM G ann fn c agg cs x k=some (x',k'):=hden
 unfold pM at hden;cases hck:(qe fn.ntmps c&&(Nat.ble 2 fn.ntmps&&mP (nv (Cs.give true 1 cs x).2)))with
 | false=>rw[hck]at hden;cases hden
 | true =>
 rw[hck]at hden;simp only[aT,cT]at hck hden;obtain⟨hbel,hnt,hdis⟩:=hck;obtain⟨loc,esz,rows,hslots⟩:=Az (n:=1) htr
 let g0:Gh:=⟨λ_=>False,loc,esz,λ_=>none,λ_=>[],rows⟩
 have hslot:=hslots g0 λm _=>⟨rfl,rfl,rfl⟩;have hM0:=MS.begin (w:=w) g0 (· ∈ F) (λ_=>False) (λb h=>h.elim) (λb h=>h.elim) hsoft
 obtain⟨gc,hMc,_,_,hgc⟩:=Cs.held_put hM0 htr hnd (λb hb=>⟨λh=>h.elim,(λm f h=>by cases h),(λm f h=>by cases h),.inr hb⟩) hslot (by rw[uN];exact hdis);rw[uN,append_nil]at hMc;have hdomG:∀m∈(Cs.give true 1 cs x).2.map (·.1),dom (nv (Cs.give true 1 cs x).2) m:=λm hm=>by rw[qF,pY];exact hm
 have hcells:=Ew (w':=w) (D:=dom (nv (Cs.give true 1 cs x).2)) (g:=g0) (g':=gc) (λn=>(hgc n).1) htr hslot hdomG
 let vals:List Value:=[v,.int .i64 k]
 have hInv:nk w (· ∈ F) (λ_=>False) (xp agg cs x k) gc w { tmps:=vals.toArray++Array.replicate (fn.ntmps-vals.toArray.size) undef,defers:=[] }:=by
  refine⟨hMc.mem,hMc.since,λt=>?_,rfl⟩;have hget:∀(t:Nat) (u:Value),vals[t]?=some u->(vals.toArray++Array.replicate (fn.ntmps-vals.toArray.size) undef).getD t undef=u:=by
   intro t u hu;have hlt:t<vals.length:=(List.getElem?_eq_some_iff.1 hu).1
   have hv:=(List.getElem?_eq_some_iff.1 hu).2;have hsz':t<(vals.toArray++Array.replicate (fn.ntmps-vals.toArray.size) undef).size:=by rw[Array.size_append,List.size_toArray];omega
   unfold Array.getD;rw[dif_pos hsz'];show (vals.toArray++Array.replicate (fn.ntmps-vals.toArray.size) undef)[t]'hsz'=u
   rw[Array.getElem_append_left (by simpa using hlt)];simpa using hv
  show nc _ _ _ (match mG [(0,pb agg (Cs.give true 1 cs x).1),(1,AV.cell (.int .i64 k))] t with|some v=>v|none=>.undef) _
  match t with
  | 0=>rw[hget 0 v rfl];exact sP hcells hag
  | 1=>rw[hget 1 (.int .i64 k) rfl];rfl
  | t+2=>trivial
 have hsz:fn.ntmps<=(vals.toArray++Array.replicate (fn.ntmps-vals.toArray.size) undef).size:=by simp;omega
 have hc0:nE (xp agg cs x k):=by
  refine⟨λt=>?_,λn ds hn=>absurd (nz hn) (GH n ds)⟩;show p4 _ (match mG [(0,pb agg (Cs.give true 1 cs x).1),(1,AV.cell (.int .i64 k))] t with|some v=>v|none=>.undef)
  match t with
  | 0 =>
   have h1:=vJ (D:=dom (nv (Cs.give true 1 cs x).2)) (agg:=agg) (cs:=(Cs.give true 1 cs x).1) (by
    obtain⟨_,k4⟩:=sN (some true) 1 cs x;intro d hd;refine (k4 d hd).mono λn hn=>?_;rw[qF,pY];exact p9.2 hn)
   show p4 _ (pb agg (Cs.give true 1 cs x).1);cases hx:pb agg (Cs.give true 1 cs x).1 with
   | cell c=>rw[hx]at h1;exact h1
   | agg ds=>rw[hx]at h1;exact h1
   | tup l=>rw[hx]at h1;exact h1.elim
  | 1=>exact mX rfl
  | t+2=>exact mX rfl
 have key:∀(S':St) (a':Act) (w':World),At w (· ∈ F) (λ_=>False) fn.ntmps (dom (nv (Cs.give true 1 cs x).2)) gc w S' a' w'->uM G fn.results.toList cs x S'=some (x',k') ->
  a'.defers=[]/\∃r,(results fn a'.tmps).run P w'=.ok r w'/\(r=.int .i64 k'/\(∃F',Cs.TRep w' cs x' us F' R/\F'.Nodup/\∀b∈F',b∈F\/w.heap.size<=b)/\(∀b,b∈F\/w.heap.size<=b->soft w' b) /\
   w'.os=w.os/\w'.output=w.output/\w'.tape=w.tape/\w.heap.size<=w'.heap.size/\∀b,b<w.heap.size->b∉F->w'.heap[b]?=w.heap[b]?):=by
  intro S' a' w' ⟨gf,hIf,_,hle⟩ hl;unfold uM at hl;split at hl
  · rename_i k1 hres;split at hl
    · rename_i y hy;cases hl;obtain⟨rvals,h5,h6⟩:=uJ hIf hG.tis hres
      match rvals,h5 with
      | [rv],h5 =>
      have hrv:rv=.int .i64 k':=h5.1;obtain⟨t1,t2⟩:=DF (g:=g0) hIf.mem htr hslot (λm hm=>by
       have hdm:=hdomG m hm;exact⟨(hle.loc m hdm).trans (hgc m).1,(hle.rows m hdm).trans (hgc m).2.2⟩) hy
      have hnn:((Cs.give true 1 cs x).2.map (·.1)).Nodup:=by
       rw[←pY];exact sO hdis
      refine⟨hIf.plain,zX [rv],yg h6,hrv,⟨_,t1,wg hIf.mem hnn t2,λb hb=>?_⟩,λb hb=>hIf.since.soft b hb.symm,hIf.since.os,hIf.since.out,hIf.since.tape,hIf.since.size,λb hb hbF=>hIf.since.mem b hb hbF⟩;obtain⟨m,hm,hb⟩:=List.mem_flatMap.1 hb;obtain⟨e,ys,hfm⟩:=t2 m hm;exact (hIf.since.born m _ b hfm rfl hb).symm
    · cases hl
  · cases hl
 refine calls_of_wp hf hb (pL hG hm c hbel hInv hsz hc0 hden ⟨λS' a' w' _ _ hat hk=>?_,(λi S' a' w' _ _ hat hk=>by cases hk),λS' a' w' _ _ hat hk=>?_⟩)
 · obtain⟨k1,v,k2,k3⟩:=key S' a' w' hat hk;exact⟨k1,v,k2,k3⟩
 · obtain⟨k1,v,k2,k3⟩:=key S' a' w' hat hk;exact⟨k1,v,k2,k3⟩
theorem AA:∀f M,mG ([]:List (FuncId×q9)) f=some M->oC P f M:=λf M h=>by cases h
theorem pj {l:List (FuncId×q9)} {f:FuncId} {K:q9} (h:∀f M,mG l f=some M->oC P f M) (hk:oC P f K):∀g M,mG ((f,K)::l) g=some M->oC P g M:=λg M hg=>by
 rw[mR]at hg;split at hg
 · rename_i e;subst e;cases hg;exact hk
 · exact h g M hg
end Go.V
namespace Go.V
def sH {α:Type} (a b:Option α):Prop:=∀r,a=some r->b=some r
theorem sH.refl {α:Type} (a:Option α):sH a a:=λ_ h=>h
theorem sH.bind {α β:Type} {a b:Option α} {f g:α->Option β} (h:sH a b) (k:∀x,sH (f x) (g x)):sH (a.bind f) (b.bind g):=by
 intro r hr;rw[Option.bind_eq_some_iff]at hr ⊢;obtain⟨x,h1,h2⟩:=hr;exact⟨x,h x h1,k x r h2⟩
theorem sH.cond {α:Type} {c:Bool} {a b a' b':Option α} (h:sH a b) (k:sH a' b'):sH (cond c a a') (cond c b b'):=by
 cases c
 · exact k
 · exact h
def If {α β:Type} (step:α->Option (α⊕β)) (a:α):Option β:=pr step 2048 a
theorem CK {α β:Type} {f g:α->Option (α⊕β)} (h:∀x,sH (f x) (g x)):∀(k:Nat) (a:α),sH (pr f k a) (pr g k a)
 | 0,a=>sH.refl _
 | k+1,a=>by
  rw[nW,nW];refine sH.bind (h a) λx=>?_;cases x with
  | inl x=>exact CK h k x
  | inr b=>exact sH.refl _
theorem BF {α β:Type} {f:α->Option (α⊕β)}:∀(k k':Nat) (a:α) {b b':β},pr f k a=some b->pr f k' a=some b'->b=b'
 | 0,_,a,b,b',h,_=>by cases h
 | k+1,0,a,b,b',_,h=>by cases h
 | k+1,k'+1,a,b,b',h,h'=>by
  rw[nW,Option.bind_eq_some_iff]at h h';obtain⟨x,h1,h2⟩:=h;obtain⟨x',h1',h2'⟩:=h';rw[h1]at h1';cases h1';cases x with
  | inl x=>exact BF k k' x h2 h2'
  | inr c=>cases h2;cases h2';rfl
theorem qI {α β:Type} {f:α->Option (α⊕β)} {k:Nat} {a:α} {b:β} (h:pr f k a=some b):loop f a=some b:=by
 unfold loop;have hex:∃k,(pr f k a).isSome:=⟨k,by rw[h];rfl⟩
 rw[dif_pos hex];have:=Classical.choose_spec hex
 cases hc:pr f (Classical.choose hex) a with
 | none=>rw[hc]at this;cases this
 | some b'=>rw[BF _ _ _ h hc]
theorem sH.loop {α β:Type} {f g:α->Option (α⊕β)} {a:α} (h:∀x,sH (f x) (g x)):sH (If f a) (loop g a):=λr hr=>qI (CK h _ _ r hr)
theorem oB {n:Int} (h1:-9223372036854775808<=n) (h2:n<=9223372036854775807):mH n=n:=by
 show (let m:=n%18446744073709551616;if (true&&decide (m>=9223372036854775808))=true then m-18446744073709551616 else m)=n;simp only[Bool.true_and,decide_eq_true_eq];split<;>omega
end Go.V
namespace Go.V

theorem oh {α β:Type} {step:α->Option (α⊕β)} (nk:Nat->α->Prop) (m:Nat) (R:β->Prop)
 (h:∀k x,k<m->nk k x->(∃y,step x=some (.inl y)/\nk (k+1) y)\/∃b,step x=some (.inr b)/\R b)
 (he:∀x,nk m x->∃b,step x=some (.inr b)/\R b) {x:α} (h0:nk 0 x):∃b,loop step x=some b/\R b:=by
 have key:∀n k x,k+n=m->nk k x->∃b,pr step (n+1) x=some b/\R b:=by
  intro n
  induction n with
  | zero =>
   intro k x hk hx;obtain rfl:k=m:=by omega
   obtain⟨b,h1,h2⟩:=he x hx;exact⟨b,by rw[nW,h1];rfl,h2⟩
  | succ n ih =>
   intro k x hk hx;rcases h k x (by omega) hx with ⟨y,h1,h2⟩|⟨b,h1,h2⟩
   · obtain⟨b,h3,h4⟩:=ih (k+1) y (by omega) h2;exact⟨b,by rw[nW,h1];exact h3,h4⟩
   · exact⟨b,by rw[nW,h1];rfl,h2⟩
 obtain⟨b,h1,h2⟩:=key m 0 x (by omega) h0;exact⟨b,qI h1,h2⟩
theorem n8 {α:Type} {xs:List α} {k:Nat} (h:k<xs.length):at? xs (k:Int)=some xs[k]:=by
 unfold at?;rw[if_pos (by omega),Int.toNat_natCast,List.getElem?_eq_getElem h]
theorem pR {n k:Nat} (h:k<n):ix n (k:Int)=some k:=by
 unfold ix;rw[if_pos (by omega),if_pos (by omega),Int.toNat_natCast]
theorem n4 {k:Nat} (h:k<9223372036854775807):mH ((k:Int)+1)=((k+1:Nat):Int):=by
 rw[oB (by omega) (by omega)];omega
theorem Ex {n:Nat} (h:n<=4294967295):r6 (n:Int)=some n:=by
 unfold r6;rw[if_pos (by omega),if_pos (by show (n:Int)<=((4294967296:Nat):Int);omega),Int.toNat_natCast]
theorem nU {a b:Int} (h:a<b):decide (a<b)=true:=dT h
theorem nj {a b:Int} (h:¬a<b):decide (a<b)=false:=dF h
theorem sR {α:Type} {a:List α} {f:α->Option α} (hf:∀x∈a,f x=some x) (hn:a.length<=4294967295) (z:α) :
 loop (λs:Int×List α=>cond (decide (s.1<(a.length:Int))) ((at? a s.1).bind λx=>(f x).bind λt=>(ix s.2.length s.1).bind λj=>(s.2[j]?).bind λ_=>some (.inl (mH (s.1+1),s.2.set j t))) (some (.inr s.2))) (0,List.replicate a.length z)=some a:=by
 obtain⟨b,h1,rfl⟩:=oh (step:=λs:Int×List α=>cond (decide (s.1<(a.length:Int))) ((at? a s.1).bind λx=>(f x).bind λt=>(ix s.2.length s.1).bind λj=>(s.2[j]?).bind λ_=>some (.inl (mH (s.1+1),s.2.set j t))) (some (.inr s.2)))
  (λk s=>s.1=(k:Int)/\s.2=a.take k++List.replicate (a.length-k) z) a.length (λb=>b=a)
  (λk s hk ⟨h1,h2⟩=>by
   obtain⟨i,l⟩:=s;simp only at h1 h2;subst h1;have hl:l.length=a.length:=by rw[h2,List.length_append,length_take,List.length_replicate];omega
   refine .inl ⟨((k+1:Nat),l.set k a[k]),?_,rfl,?_⟩
   · simp only[nU (show (k:Int)<(a.length:Int) by omega),cT,n8 hk,Option.bind_some,hf _ (List.getElem_mem hk),hl,pR hk];rw[List.getElem?_eq_getElem (by omega),Option.bind_some,n4 (by omega)]
   · show l.set k a[k]=_;rw[h2,List.set_append_right _ _ (by rw[length_take];omega),length_take,Nat.min_eq_left (by omega),Nat.sub_self];have e:a.length-k=(a.length-(k+1))+1:=by omega
     rw[e,List.replicate_succ,List.set_cons_zero];have e2:a.take (k+1)=a.take k++[a[k]]:=by rw[List.take_add_one,List.getElem?_eq_getElem hk];rfl
     rw[e2,append_assoc];rfl)
  (λs ⟨h1,h2⟩=>by
   obtain⟨i,l⟩:=s;simp only at h1 h2;subst h1;refine⟨l,?_,?_⟩
   · simp only[nj (show ¬(a.length:Int)<(a.length:Int) by omega),cF]
   · rw[h2];simp)
  (x:=(0,List.replicate a.length z)) ⟨rfl,by simp⟩
 exact h1
theorem BG {α:Type} {a:List α} (hn:a.length<=4294967295) (z:α) :
 loop (λs:Int×List α=>cond (decide (s.1<(a.length:Int))) ((at? a s.1).bind λx=>(ix s.2.length s.1).bind λj=>(s.2[j]?).bind λ_=>some (.inl (mH (s.1+1),s.2.set j x))) (some (.inr s.2))) (0,List.replicate a.length z)=some a :=
 sR (f:=some) (λ_ _=>rfl) hn z
theorem sa {α:Type} {a:List α} {g:α->α->Option Bool} (hg:∀x∈a,g x x=some true) (hn:a.length<=4294967295) :
 loop (λi:Int=>cond (decide (i<(a.length:Int))) ((at? a i).bind λx=>(at? a i).bind λy=>(g x y).bind λt=>cond (!t) (some (.inr (.inr false))) (some (.inl (mH (i+1))))) (some (.inr (.inl ())))) 0=some (Sum.inl ():Unit⊕Bool):=by
 obtain⟨b,h1,rfl⟩:=oh (β:=Unit⊕Bool) (step:=λi:Int=>cond (decide (i<(a.length:Int))) ((at? a i).bind λx=>(at? a i).bind λy=>(g x y).bind λt=>cond (!t) (some (.inr (.inr false))) (some (.inl (mH (i+1))))) (some (.inr (.inl ()))))
  (λk i=>i=(k:Int)) a.length (λb=>b=.inl ())
  (λk i hk h=>by
   subst h;refine .inl ⟨((k+1:Nat):Int),?_,rfl⟩;simp only[nU (show (k:Int)<(a.length:Int) by omega),cT,n8 hk,Option.bind_some,hg _ (List.getElem_mem hk),Bool.not_true,cF];rw[n4 (by omega)])
  (λi h=>by
   subst h;exact⟨.inl (),by simp only[nj (show ¬(a.length:Int)<(a.length:Int) by omega),cF],rfl⟩) (x:=0) rfl
 exact h1
theorem BH {a:List Int} (hn:a.length<=4294967295) :
 loop (λi:Int=>cond (decide (i<(a.length:Int))) ((at? a i).bind λx=>(at? a i).bind λy=>cond (x != y) (some (.inr (.inr false))) (some (.inl (mH (i+1))))) (some (.inr (.inl ())))) 0=some (Sum.inl ():Unit⊕Bool):=by
 have:=sa (a:=a) (g:=λx y=>some (!(x != y))) (λx _=>by simp) hn;simpa using this
def pF (left:Int) (o:Option Int) (Q:Prop):Prop:=∃r,o=some r/\(r = -1\/(0<=r/\r<=left/\Q))
theorem qR {n:Nat} {left:Int} (hl:0<=left/\left<=1048576) (hn:n<=maxLen):pF left (let l1:=mH (left-(n:Int));cond (decide (l1<0)) (some (-1)) (some l1)) (n<=1048576):=by
 have hn':n<=9223372036854775807:=hn;show pF left (cond (decide (mH (left-(n:Int))<0)) (some (-1)) (some (mH (left-(n:Int))))) _
 rw[oB (by omega) (by omega)];by_cases h:left-(n:Int)<0
 · rw[nU h];exact⟨-1,rfl,.inl rfl⟩
 · rw[nj h];exact⟨_,rfl,.inr ⟨by omega,by omega,by omega⟩⟩
theorem qs {left:Int} {o:Option Int} {Q R:Prop} {f:Int->Option Int} (h:pF left o Q) (k:∀r,0<=r->r<=left->pF r (f r) R):pF left (o.bind λt=>cond (decide (t<0)) (some (-1)) (f t)) (Q/\R):=by
 obtain⟨r,rfl,h⟩:=h;rw[Option.bind_some];rcases h with rfl|⟨h1,h2,h3⟩
 · rw[nU (by omega)];exact⟨-1,rfl,.inl rfl⟩
 · rw[nj (by omega),cF];obtain⟨s,e,k⟩:=k r h1 h2;rcases k with rfl|⟨k1,k2,k3⟩
   · exact⟨-1,e,.inl rfl⟩
   · exact⟨s,e,.inr ⟨k1,by omega,h3,k3⟩⟩
theorem BI {n:Nat} {left:Int} {f:Int->Option Int} {R:Prop} (hl:0<=left/\left<=1048576) (hn:n<=maxLen) (k:∀r,0<=r->r<=left->pF r (f r) R):pF left (let l1:=mH (left-(n:Int));cond (decide (l1<0)) (some (-1)) (f l1)) (n<=1048576/\R):=by
 have hn':n<=9223372036854775807:=hn;show pF left (cond (decide (mH (left-(n:Int))<0)) (some (-1)) (f (mH (left-(n:Int))))) _
 rw[oB (by omega) (by omega)];by_cases h:left-(n:Int)<0
 · rw[nU h];exact⟨-1,rfl,.inl rfl⟩
 · rw[nj h,cF];obtain⟨s,e,k⟩:=k (left-(n:Int)) (by omega) (by omega);rcases k with rfl|⟨k1,k2,k3⟩
   · exact⟨-1,e,.inl rfl⟩
   · exact⟨s,e,.inr ⟨k1,by omega,by omega,k3⟩⟩
theorem th {α:Type} {a:List α} {z:α} {step:Int×List α->Option ((Int×List α)⊕List α)} (hn:a.length<=4294967295) (h:loop step (0,List.replicate a.length z)=some a) :
 ((r6 (a.length:Int)).bind λn=>(loop step (0,List.replicate n z)).bind λd=>some d)=some a:=by
 rw[Ex hn,Option.bind_some,h];rfl
theorem sB {n:Nat} {step:Int->Option (Int⊕(Unit⊕Bool))} (h:loop step 0=some (Sum.inl ())):cond ((n:Int) != (n:Int)) (some false) ((loop step 0).bind (Sum.elim (λ_=>some true) (λr=>some r)))=some true:=by
 rw[h];simp
theorem uO {left:Int} (h:0<=left):pF left (some left) True:=⟨left,rfl,.inr ⟨h,Int.le_refl _,trivial⟩⟩
theorem wq {left:Int} {o:Option Int} {Q R:Prop} (h:pF left o Q) (k:Q->R):pF left o R:=by
 obtain⟨r,e,h⟩:=h;exact⟨r,e,h.imp id λ⟨a,b,c⟩=>⟨a,b,k c⟩⟩
theorem Ey {α:Type} {a:List α} {f:α->Int->Option Int} {Q:α->Prop} (hf:∀x∈a,∀l,0<=l->l<=1048576->pF l (f x l) (Q x)) (hn:a.length<=4294967295) {left:Int} (hl:0<=left/\left<=1048576) :
 pF left ((loop (λs:Int×Int=>cond (decide (s.2<(a.length:Int))) ((at? a s.2).bind λx=>(f x s.1).bind λt=>cond (decide (t<0)) (some (.inr (.inr (-1)))) (some (.inl (t,mH (s.2+1))))) (some (.inr (.inl s.1)))) (left,0)).bind (Sum.elim (λd=>some d) (λr=>some r))) (∀x∈a,Q x):=by
 obtain⟨b,h1,h2⟩:=oh (β:=Int⊕Int) (step:=λs:Int×Int=>cond (decide (s.2<(a.length:Int))) ((at? a s.2).bind λx=>(f x s.1).bind λt=>cond (decide (t<0)) (some (.inr (.inr (-1)))) (some (.inl (t,mH (s.2+1))))) (some (.inr (.inl s.1))))
  (λk s=>s.2=(k:Int)/\0<=s.1/\s.1<=left/\∀x∈a.take k,Q x) a.length (λb=>b=.inr (-1)\/∃d,b=.inl d/\0<=d/\d<=left/\∀x∈a,Q x)
  (λk s hk ⟨e1,e2,e3,e4⟩=>by
   obtain⟨l,i⟩:=s;simp only at e1 e2 e3;subst e1;obtain⟨r,hr,h⟩:=hf a[k] (List.getElem_mem hk) l e2 (by omega);rcases h with rfl|⟨h1,h2,h3⟩
   · refine .inr ⟨.inr (-1),?_,.inl rfl⟩;simp only[nU (show (k:Int)<(a.length:Int) by omega),cT,n8 hk,Option.bind_some,hr];rw[nU (by omega),cT]
   · refine .inl ⟨(r,((k+1:Nat):Int)),?_,rfl,h1,by show r<=left;omega,λx hx=>?_⟩
     · simp only[nU (show (k:Int)<(a.length:Int) by omega),cT,n8 hk,Option.bind_some,hr];rw[nj (by omega),cF,n4 (by omega)]
     · rw[List.take_add_one,List.getElem?_eq_getElem hk,mem_append]at hx;rcases hx with hx|hx
       · exact e4 x hx
       · simp at hx;subst hx;exact h3)
  (λs ⟨e1,e2,e3,e4⟩=>by
   obtain⟨l,i⟩:=s;simp only at e1 e2 e3;subst e1;refine⟨.inl l,?_,.inr ⟨l,rfl,e2,e3,by simpa using e4⟩⟩;simp only[nj (show ¬(a.length:Int)<(a.length:Int) by omega),cF])
  (x:=(left,0)) ⟨rfl,hl.1,Int.le_refl _,by simp⟩
 rw[h1,Option.bind_some];rcases h2 with rfl|⟨d,rfl,h3,h4,h5⟩
 · exact⟨-1,rfl,.inl rfl⟩
 · exact⟨d,rfl,.inr ⟨h3,h4,h5⟩⟩
end Go.V
namespace Go.V

theorem qt {α:Type} {l:List α} {M:Int->Int->List α->Option ((Int×Int×List α)⊕(Int×List α))} {H:List α->Int->Int->Option ((Int×Int)⊕(Int⊕Int))} {B c:Int} (hc:0<=c)
 (hM:∀x∈l,∀k:Int,0<=k->k<=B->∃(x':α) (k':Int),k<=k'/\k'<=k+c/\(∀(n:Nat) (ls:List α) (hn:n<ls.length),ls.length<=l.length->ls[n]=x->M k (n:Int) ls=some (.inl (k',((n+1:Nat):Int),ls.set n x'))) /\
  ∀(n:Nat) (a:List α) (hn:n<a.length),a.length<=l.length->a[n]=x'->H a k (n:Int)=some (.inl (k',((n+1:Nat):Int))))
 (hM0:∀k ls,M k (ls.length:Int) ls=some (.inr (k,ls))) (hH0:∀k (a:List α),H a k (a.length:Int)=some (.inr (.inl k))) {k:Int} (h0:0<=k) (hB:k+c*(l.length:Int)<=B) :
 ∃l' k',loop (λz:Int×Int×List α=>M z.1 z.2.1 z.2.2) (k,0,l)=some (k',l')/\l'.length=l.length/\k<=k'/\k'<=k+c*(l.length:Int)/\loop (λz:Int×Int=>H l' z.1 z.2) (k,0)=some (.inl k'):=by
 have key:∀(rest pre:List α) (k:Int),(∀x∈rest,x∈l)->pre.length+rest.length=l.length->0<=k->k+c*(rest.length:Int)<=B->∃(rest':List α) (k':Int),rest'.length=rest.length/\k<=k'/\k'<=k+c*(rest.length:Int) /\
  pr (λz:Int×Int×List α=>M z.1 z.2.1 z.2.2) (rest.length+1) (k,(pre.length:Int),pre++rest)=some (k',pre++rest') /\
  pr (λz:Int×Int=>H (pre++rest') z.1 z.2) (rest.length+1) (k,(pre.length:Int))=some (.inl k'):=by
  intro rest
  induction rest with
  | nil =>
   intro pre k _ _ h0 hB;refine⟨[],k,rfl,Int.le_refl _,by simp,?_,?_⟩
   · rw[nW];have:=hM0 k (pre++[])
     simp only[append_nil]at this ⊢;rw[this];rfl
   · rw[nW];have:=hH0 k (pre++[])
     simp only[append_nil]at this ⊢;rw[this];rfl
  | cons x rest ih =>
   intro pre k hin hlen h0 hB;have hcl:c*((x::rest).length:Int)=c*(rest.length:Int)+c:=by rw[length_cons,Int.natCast_succ,Int.mul_add,Int.mul_one]
   have hcr:0<=c*(rest.length:Int):=Int.mul_nonneg hc (Int.natCast_nonneg _);rw[hcl]at hB;obtain⟨x',k1,a1,a2,a3,a4⟩:=hM x (hin x (by simp)) k h0 (by omega);obtain⟨rest',k',b1,b2,b3,b4,b5⟩:=ih (pre++[x']) k1 (λy hy=>hin y (by simp[hy])) (by simp at hlen ⊢;omega) (by omega) (by omega);have hp:((pre++[x']).length:Int)=((pre.length+1:Nat):Int):=by simp
   have e1:pre++[x']++rest=pre++x'::rest:=by simp
   have e2:pre++[x']++rest'=pre++x'::rest':=by simp
   rw[hp,e1,e2]at b4;rw[hp,e2]at b5;refine⟨x'::rest',k',by simp[b1],by omega,by rw[hcl];omega,?_,?_⟩
   · rw[length_cons,nW];have:=a3 pre.length (pre++x::rest) (by simp) (by simp at hlen ⊢;omega) (by simp)
     simp only[this,Option.bind_some,Sum.elim_inl];have es:(pre++x::rest).set pre.length x'=pre++x'::rest:=by simp
     rw[es];exact b4
   · rw[length_cons,nW];have:=a4 pre.length (pre++x'::rest') (by simp) (by simp[b1]at hlen ⊢;omega) (by simp)
     simp only[this,Option.bind_some,Sum.elim_inl];exact b5
 obtain⟨l',k',b1,b2,b3,b4,b5⟩:=key l [] k (λ_ h=>h) (by simp) h0 hB;exact⟨l',k',qI b4,b1,b2,b3,qI b5⟩
theorem pk {n:Int} (h1:0<=n) (h2:n<9223372036854775808):mH n=n:=oB (by omega) (by omega)
theorem pm {α:Type} {l:List α} {n:Nat} {x:α} (h:n<l.length):(l.set n x)[n]?=some x:=List.getElem?_set_self h
end Go.V

