/- V: a run of the model's code over plain data, and that it is what the machine does. Part 4 of 4. No condition. -/
import Derived.Test.YtpidgkkbmlgehaaGreatV3
import Derived.Carry
import Derived.Below
open List (append_eq_nil_iff)
set_option linter.unusedVariables false
set_option linter.unusedSimpArgs false
namespace Go.V
open Go.RowKit
variable {P:Program} {ti:List (Nat×tX)} {W w:World}

mutual
theorem CT.same_refl:∀c:CT,CT.same c c=some ⟨rfl⟩
 | .int k=>by simp[CT.same]
 | .bool=>rfl
 | .str=>rfl
 | .err=>rfl
 | .sl e=>by simp only[CT.same,Cs.same_refl e]
theorem Cs.same_refl:∀e:Cs,Cs.same e e=some ⟨rfl⟩
 | .one c=>by simp only[Cs.same,CT.same_refl c]
 | .cons c r=>by simp only[Cs.same,CT.same_refl c,Cs.same_refl r]
end
theorem CT.read_cell {F:ta->Option Entry} (c:CT) (x:c.den):(c.read (c.cell x)).Runs F x []:=by
 cases c with
 | int k=>exact (show (cond (Nat.beq (uC k) (uC k)) (Rd.ret x) .fail).Runs F x []from by rw[show Nat.beq (uC k) (uC k)=true from Nat.beq_refl _];exact⟨rfl,rfl⟩)
 | bool=>exact⟨rfl,rfl⟩
 | str=>exact⟨rfl,rfl⟩
 | err=>exact⟨rfl,rfl⟩
 | sl e =>
  show (CP e (.sh e x)).Runs F x [];simp only[CP,Cs.same_refl];exact⟨rfl,rfl⟩
theorem Rd.bind_runs {α β:Type} {F:ta->Option Entry} {f:α->Rd β} {a:α} {b:β}:∀{x:Rd α} {L1 L2:List ta},x.Runs F a L1->(f a).Runs F b L2->(x.bind f).Runs F b (L1++L2)
 | .ret a',L1,L2,⟨h1,h2⟩,k=>by subst h1;subst h2;exact k
 | .fail,_,_,h,_=>h.elim
 | .get n g,L1,L2,⟨L',h1,h2⟩,k=>by subst h1;exact⟨L'++L2,rfl,Rd.bind_runs h2 k⟩
 | .opt o g,L1,L2,⟨b',h1,h2⟩,k=>⟨b',h1,Rd.bind_runs h2 k⟩
theorem Cs.read_cells {F:ta->Option Entry}:∀(c:Cs) (x:c.den),(c.read (c.cells x)).Runs F x []
 | .one c,x=>CT.read_cell c x
 | .cons c r,x=>by
  show ((c.read (c.cell x.1)).bind λa=>(r.read (r.cells x.2)).bind λb=>.ret (a,b)).Runs F x [];exact Rd.bind_runs (L1:=[]) (L2:=[]) (CT.read_cell c x.1) (Rd.bind_runs (L1:=[]) (L2:=[]) (Cs.read_cells r x.2) ⟨rfl,rfl⟩)
def BA:(ps:List uo)->to (tU ps)->List AV
 | [],_=>[]
 | .val agg c _::ps,x=>xE agg (c.cells (to.hd c (tU ps) x))::BA ps (to.tl c (tU ps) x)
 | .ptr c _::ps,x=>BA ps (to.tl c (tU ps) x)
theorem Df {D:ta->Prop} {g:Gh}:∀{ps:List uo} {x:to (tU ps)} {vs:List Value},x8 ps=true->xP g.I w ps x vs [] []->tF (un D g w) (BA ps x) vs
 | [],x,vs,_,⟨h,_⟩=>by subst h;trivial
 | .val agg c false::ps,x,vs,hl,⟨v,vs',us,t1,t2,n1,n2,h1,h2,h3,h4,h5,h6⟩=>by
  subst h1;obtain⟨rfl,rfl⟩:=append_eq_nil_iff.1 h3.symm;obtain⟨rfl,rfl⟩:=append_eq_nil_iff.1 h4.symm;rcases h5 with ⟨_,_,h,_⟩|⟨_,_,_,F,hF,hI⟩
  · cases h
  · exact⟨Bv (Cs.cells_rep hF hI) h2,Df (by simpa[x8]using hl) h6⟩
 | .val _ _ true::_,_,_,hl,_=>by simp[x8]at hl
 | .ptr _ _::_,_,_,hl,_=>by simp[x8]at hl
theorem Ms {D:ta->Prop} {g:Gh} {agg:Bool} {c:Cs} {x:c.den} {v:Value} {us:List Value} {F:List Nat} (h:isAgg agg v us) (hF:Cs.Rep w c x us F):Av agg (xE agg (c.cells x))=true/\(xE agg (c.cells x)).cells=c.cells x:=by
 rcases h with ⟨rfl,rfl⟩|⟨rfl,_⟩
 · have hl:=hF.length;cases c with
   | one c=>exact⟨rfl,rfl⟩
   | cons c r =>
    exfalso;have:=Cs.len_pos r
    simp[Cs.len]at hl;omega
 · have:xE true (c.cells x)=.agg (c.cells x):=by cases c.cells x<;>rfl
   rw[this];exact⟨rfl,rfl⟩
theorem Cl {I:Nat->Prop} {F:ta->Option Entry}:∀{ps:List uo} {x:to (tU ps)} {vs:List Value},x8 ps=true->xP I w ps x vs [] []->∃b:CV (tU ps),(uH false ps (BA ps x)).Runs F b []/\b.args=x/\b.used=[]/\b.ptrs=[]
 | [],x,vs,_,⟨h,_⟩=>⟨⟨(),[],[],[]⟩,⟨rfl,rfl⟩,rfl,rfl,rfl⟩
 | .val agg c false::ps,x,vs,hl,⟨v,vs',us,t1,t2,n1,n2,h1,h2,h3,h4,h5,h6⟩=>by
  subst h1;obtain⟨rfl,rfl⟩:=append_eq_nil_iff.1 h3.symm;obtain⟨rfl,rfl⟩:=append_eq_nil_iff.1 h4.symm;rcases h5 with ⟨_,_,h,_⟩|⟨_,_,_,G,hG,hI⟩
  · cases h
  · obtain⟨k1,k2⟩:=Ms (D:=λ_=>False) (g:=⟨λ_=>False,λ_=>.slice none 0 0,λ_=>0,λ_=>none,λ_=>[],λ_=>[]⟩) h2 hG;obtain⟨b,e1,e2,e3,e4⟩:=Cl (F:=F) (show x8 ps=true by simpa[x8]using hl) h6;refine⟨⟨to.mk c (tU ps) (to.hd c (tU ps) x) b.args,[]++b.used,b.ptrs,cond false [] ((xE agg (c.cells (to.hd c (tU ps) x))).cells.flatMap Cell.names)++b.ro⟩,?_,?_,?_,e4⟩
    · show (uH false (.val agg c false::ps) (xE agg (c.cells (to.hd c (tU ps) x))::BA ps (to.tl c (tU ps) x))).Runs F _ [];rw[uH,k1];refine Rd.bind_runs (L1:=[]) (L2:=[]) (a:=()) ⟨rfl,rfl⟩ ?_;refine Rd.bind_runs (L1:=[]) (L2:=[]) (a:=(to.hd c (tU ps) x,[])) ?_ ?_
      · refine Rd.bind_runs (L1:=[]) (L2:=[]) (a:=to.hd c (tU ps) x) ?_ ⟨rfl,rfl⟩;rw[k2];exact Cs.read_cells c _
      · exact Rd.bind_runs (L1:=[]) (L2:=[]) e1 ⟨rfl,rfl⟩
    · show to.mk c (tU ps) (to.hd c (tU ps) x) b.args=x;rw[e2];have eta:∀(c:Cs) (r:List Cs) (x:to (c::r)),to.mk c r (to.hd c r x) (to.tl c r x)=x:=by
       intro c r x;cases r with
       | nil=>rfl
       | cons _ _=>rfl
      exact eta c (tU ps) x
    · simpa using e3
 | .val _ _ true::_,_,_,hl,_=>by simp[x8]at hl
 | .ptr _ _::_,_,_,hl,_=>by simp[x8]at hl
abbrev yesR:List vq:=[.val false (.one .bool) (some true)]
def yes:(ps:List uo)->to (uO ps yesR)
 | []=>true
 | .val _ _ _::ps=>yes ps
 | .ptr c _::ps=>to.mk c (uO ps yesR) c.zero (yes ps)
theorem EL:∀(ps:List uo) (n:ta),x8 ps=true->tH n ps yesR [] (yes ps)=⟨[.cell (.bool true)],[],[]⟩
 | [],n,_=>rfl
 | .val _ _ false::ps,n,h=>EL ps n (by simpa[x8]using h)
 | .val _ _ true::_,_,h=>by simp[x8]at h
 | .ptr _ _::_,_,h=>by simp[x8]at h
theorem IO:∀(ps:List uo),x8 ps=true->xw ps yesR=false:=by
 intro ps h;unfold xw;rw[show yesR.any vq.sh=false from rfl,Bool.or_false];rw[List.any_eq_false];intro p hp;have:=List.all_eq_true.1 h p hp
 cases p with
 | val _ _ _=>simp[uo.sh]
 | ptr _ _=>cases this
theorem Lo {f:FuncId} {ps:List uo} {den:to (tU ps)->Option (to (uO ps yesR))} (hm:BX P f ⟨ps,yesR,den⟩) (hl:x8 ps=true) {x:to (tU ps)} {vs:List Value} (ha:xP (λb=>b<w.heap.size) w ps x vs [] []) (hd:den x=some (yes ps)) :
 Calls P f vs.toArray w λe w'=>e=.returned (.bool true)/\Below w.heap.size w w':=by
 have hM:=MS.start (w:=w) (λb=>b<w.heap.size) (λ_=>False) (λk=>∃b,k=w.heap.size+b/\b<w.heap.size) (λ_ h=>h) (λb h=>⟨b,rfl,h⟩) (λ_ h=>h.elim);have h1:=Df (D:=dom []) (g:=⟨λb=>b<w.heap.size,λ_=>.slice none 0 0,λ_=>0,λ_=>none,λ_=>[],λ_=>[]⟩) hl ha
 obtain⟨b,h2,e1,e2,e3⟩:=Cl (F:=tb []) hl ha;have hs:=IO ps hl
 have hg:=EL ps 0 hl;have key:=hm.2 w (λ_=>False) (λk=>∃b,k=w.heap.size+b/\b<w.heap.size) [] _ w 0 (BA ps x) vs b [] (yes ps) hM h1 (by rw[hs];exact h2)
  (by rw[e2];simp[tN,tb]) (by show den b.args=_;rw[e1];exact hd)
  (by show tN (tH 0 ps yesR b.ptrs (yes ps)).news=true;rw[e3,hg];rfl) (by intro p hp;have hp:p∈(tH 0 ps yesR b.ptrs (yes ps)).news:=hp;rw[e3,hg]at hp;simp at hp)
 refine key.mono λe w' he=>?_;cases e with
 | returned v =>
  obtain⟨g',hM',_,hv⟩:=he;have hv:un _ g' w' (CG (tH 0 ps yesR b.ptrs (yes ps)).vals) v:=hv
  rw[e3,hg]at hv;have hv:v=.bool true:=hv
  exact⟨by rw[hv],⟨hM'.since.os,hM'.since.tape,hM'.since.out,hM'.since.size,λk hk=>hM'.since.mem k hk (λh=>h)⟩⟩
 | panicked _=>exact he.elim
 | outgrown=>exact he.elim

theorem GZ:∀{ps:List uo} {x:to (tU ps)} {vs:List Value},HX w ps x vs->xP (λb=>b<w.heap.size) w ps x vs [] []
 | [],x,vs,h=>⟨h,rfl,rfl⟩
 | .val agg c false::ps,x,vs,⟨v,vs',us,F,h1,h2,h3,h4⟩=>⟨v,vs',us,[],[],[],[],h1,h2,rfl,rfl,.inr ⟨rfl,rfl,rfl,F,h3,λb hb=>h3.lt b hb⟩,GZ h4⟩
 | .val _ _ true::_,_,_,h=>h.elim
 | .ptr .. :: _,_,_,h=>h.elim
theorem IP {ps:List uo} {rs:List vq} (h:x8 ps=true) (k:OL rs=true):xw ps rs=false:=by
 unfold xw;rw[Bool.or_eq_false_iff,List.any_eq_false,List.any_eq_false];refine⟨λp hp=>?_,λr hr=>?_⟩
 · have:=List.all_eq_true.1 h p hp;cases p with
   | val _ _ _=>simp[uo.sh]
   | ptr _ _=>cases this
 · have:=List.all_eq_true.1 k r hr;cases r with
   | val agg c own=>cases hx:Cv own<;>simp_all [vq.sh]
   | ptr _ _=>cases this
theorem Lp {f:FuncId} {F:Fn} (hm:BX P f F) (hl:x8 F.ps=true) (hk:OL F.rs=true):Lh P f F:=by
 refine⟨hm.1,λw uid x vs r ha hd hdist=>?_⟩;have hM:=MS.start (w:=w) (λb=>b<w.heap.size) (λ_=>False) (λk=>∃b,k=w.heap.size+b/\b<w.heap.size) (λ_ h=>h) (λb h=>⟨b,rfl,h⟩) (λ_ h=>h.elim)
 have ha':=GZ ha;have h1:=Df (D:=dom []) (g:=⟨λb=>b<w.heap.size,λ_=>.slice none 0 0,λ_=>0,λ_=>none,λ_=>[],λ_=>[]⟩) hl ha'
 obtain⟨b,h2,e1,e2,e3⟩:=Cl (F:=tb []) hl ha';have hs:=IP hl hk
 have hu:(tH uid F.ps F.rs [] r).upds=[]:=by
  have:=A8 F.ps F.rs uid [] r;cases hq:(tH uid F.ps F.rs [] r).upds with
  | nil=>rfl
  | cons p l=>exact absurd (this p (by rw[hq];simp)) (by simp)
 have key:=hm.2 w (λ_=>False) (λk=>∃b,k=w.heap.size+b/\b<w.heap.size) [] _ w uid (BA F.ps x) vs b [] r hM h1 (by rw[hs];exact h2)
  (by rw[e2];simp[tN,tb]) (by rw[e1];exact hd) (by rw[e3];exact hdist) (by intro p hp;rfl)
 refine key.mono λe w' he=>?_;cases e with
 | returned v =>
  obtain⟨g',hM',_,hv⟩:=he;rw[e3,e2,hu]at hM' hv;simp only[List.append_nil]at hM' hv;exact⟨g',_,_,λ_ h=>h,λb hb ⟨c,hc,_⟩=>by omega,hM',hv⟩
 | panicked _=>exact he.elim
 | outgrown=>exact he.elim
theorem yF.cons {l:List (FuncId×Fn)} {f:FuncId} {F:Fn} (h:yF P ⟨ti,l,[],false⟩) (hm:BX P f F):yF P ⟨ti,(f,F)::l,[],false⟩:=by
 refine⟨h.tis,h.eqs,λk F' hk=>?_,(λf M hf=>by cases hf),(λh=>by cases h)⟩;have hk':(if f=k then some F else tb l k)=some F':=by rw[←tL];exact hk
 clear hk;split at hk'
 · rename_i e;subst e;cases hk';exact hm
 · exact h.fns k F' hk'
theorem yF.trees {l:List (FuncId×Fn)} {m:List (FuncId×OK)} (h:yF P ⟨ti,l,[],false⟩) (hm:∀f M,tb m f=some M->Ng P f M):yF P ⟨ti,l,m,true⟩ :=
 ⟨h.tis,h.eqs,h.fns,hm,λ_ f F hf hl hk=>Lp (h.fns f F hf) hl hk⟩

def FM:(ps:List uo)->to (tU ps)->Prop
 | [],_=>True
 | .val _ c _::ps,x=>Cs.wf c (to.hd c (tU ps) x)/\FM ps (to.tl c (tU ps) x)
 | .ptr c _::ps,x=>Cs.wf c (to.hd c (tU ps) x)/\FM ps (to.tl c (tU ps) x)
def Em (ti:List (Nat×tX)):List TypeId->List uo->Bool
 | [],[]=>true
 | t::ts,.val agg c false::ps=>(match tb ti t with|some i=>CX i.agg agg&&(Cs.same i.cs c).isSome|none=>false)&&Em ti ts ps
 | _,_=>false
theorem EM:∀{ts:List TypeId} {ps:List uo},Em ti ts ps=true->x8 ps=true
 | [],[],_=>rfl
 | t::ts,.val agg c false::ps,h=>by
  simp only[Em,aT]at h;simpa[x8]using EM h.2
 | [],_::_,h=>by cases h
 | _::_,[],h=>by cases h
 | _::_,.val _ _ true::_,h=>by cases h
 | _::_,.ptr _ _::_,h=>by cases h
theorem K7 (hT:vO P ti) {t:Nat} {i:tX} (hi:tb ti t=some i) {base:Nat} {v:Value} (hv:Value.okWide P W .any base t v):isAgg i.agg v v.cells.toList:=by
 obtain⟨d,u,z,hf⟩:=hT.facts hi;cases ha:i.agg with
 | true =>
  obtain⟨fs,hu,_⟩:=hf.agg ha;have hund:=hf.und
  rw[hu]at hund;simp only[Value.okWide,hund]at hv;obtain⟨cs,rfl,_⟩:=hv;exact .inr ⟨rfl,rfl⟩
 | false =>
  obtain⟨c,_,hs⟩:=hf.plain ha;have hund:=hf.und
  left;refine⟨rfl,?_⟩;cases u<;>try (simp[vc]at hs;done)
  all_goals
   simp only[Value.okWide,hund,Cell.okWide]at hv;cases v<;>first|rfl | (simp_all [Cell.ok];done)
theorem I8 {H:Type} {enc:TypeId×Value->H} {held:Bool} (hT:vO P ti) (hD:Deep P ti) {base:Nat}:∀{ts:List TypeId} {ps:List uo} {vs:List Value} {ds:List (DataW H)} {p:List MemPlace},Em ti ts ps=true->DataW.TrodAll enc P W 0 (λ_=>true) held ts vs ds p ->
 (∀(j:Nat) t v,ts[j]?=some t->vs[j]?=some v->Value.okWide P W .any base t v)->∃x,xP (λb=>b<W.heap.size) W ps x vs [] []/\FM ps x
 | [],[],[],[],p,_,_,_=>⟨(),⟨rfl,rfl,rfl⟩,trivial⟩
 | t::ts,.val agg c false::ps,v::vs,d::ds,p,hs,h,hv=>by
  obtain⟨p1,q1,⟨fuel,h1⟩,h2,_⟩:=h;simp only[Em,aT]at hs;cases hi:tb ti t with
  | none=>rw[hi]at hs;cases hs.1
  | some i =>
   rw[hi]at hs;simp only[aT]at hs;obtain⟨⟨ha,hc⟩,hs⟩:=hs;obtain rfl:=Ek ha;cases hsm:Cs.same i.cs c with
   | none=>rw[hsm]at hc;cases hc
   | some e =>
    obtain⟨e⟩:=e;subst e;obtain⟨x1,F,k1,k2,k3⟩:=EU i.cs _ (DY hT hD fuel t i _ _ hi h1);obtain⟨x2,k4,k5⟩:=I8 (ps:=ps) hT hD hs h2 (λj t v ht hv'=>hv (j+1) t v (by simpa using ht) (by simpa using hv'));have hag:=K7 hT hi (hv 0 t v rfl rfl)
    refine⟨to.mk i.cs (tU ps) x1 x2,⟨v,vs,v.cells.toList,[],[],[],[],rfl,hag,rfl,rfl,.inr ⟨rfl,rfl,rfl,F,?_,k2⟩,?_⟩,?_⟩
    · show Cs.Rep W i.cs (to.hd i.cs (tU ps) (to.mk i.cs (tU ps) x1 x2)) _ F;rw[to.hd_mk];exact k1
    · show xP _ W ps (to.tl i.cs (tU ps) (to.mk i.cs (tU ps) x1 x2)) vs [] [];rw[to.tl_mk];exact k4
    · show Cs.wf i.cs (to.hd i.cs (tU ps) (to.mk i.cs (tU ps) x1 x2))/\FM ps (to.tl i.cs (tU ps) (to.mk i.cs (tU ps) x1 x2));rw[to.hd_mk,to.tl_mk];exact⟨k3,k5⟩
 | [],[],_::_,_,_,_,h,_=>by cases h
 | [],[],[],_::_,_,_,h,_=>by cases h
 | _::_,_,[],_,_,_,h,_=>by cases h
 | _::_,_,_::_,[],_,_,h,_=>by cases h
 | [],_::_,_,_,_,hs,_,_=>by cases hs
 | _::_,[],_,_,_,hs,_,_=>by cases hs
 | _::_,.val _ _ true::_,_,_,_,hs,_,_=>by cases hs
 | _::_,.ptr _ _::_,_,_,_,hs,_,_=>by cases hs
theorem law_walk {H:Type} {enc:TypeId×Value->H} {held:Bool} {f:FuncId} {ps:List uo} {den:to (tU ps)->Option (to (uO ps yesR))} (hm:BX P f ⟨ps,yesR,den⟩) (hT:vO P ti) (hD:Deep P ti) {ts:List TypeId} (hs:Em ti ts ps=true) (hden:∀x,FM ps x->den x=some (yes ps))
 {base:Nat} {vs:List Value} {ds:List (DataW H)} {p:List MemPlace} (h:DataW.TrodAll enc P W 0 (λ_=>true) held ts vs ds p) (hv:∀(j:Nat) t v,ts[j]?=some t->vs[j]?=some v->Value.okWide P W .any base t v) :
 Calls P f vs.toArray W λe W'=>e=.returned (.bool true)/\Below W.heap.size W W':=by
 obtain⟨x,h1,h2⟩:=I8 hT hD hs h hv;exact Lo hm (EM hs) h1 (hden x h2)
end Go.V
namespace Go.V
variable {P:Program} {G:uZ} {ann:List (Nat×tA)} {w w':World}

end Go.V
namespace Go.V
def Ag {α:Type} (a b:Option α):Prop:=∀r,a=some r->b=some r
theorem Ag.refl {α:Type} (a:Option α):Ag a a:=λ_ h=>h
theorem Ag.bind {α β:Type} {a b:Option α} {f g:α->Option β} (h:Ag a b) (k:∀x,Ag (f x) (g x)):Ag (a.bind f) (b.bind g):=by
 intro r hr;rw[Option.bind_eq_some_iff]at hr ⊢;obtain⟨x,h1,h2⟩:=hr;exact⟨x,h x h1,k x r h2⟩
theorem Ag.cond {α:Type} {c:Bool} {a b a' b':Option α} (h:Ag a b) (k:Ag a' b'):Ag (cond c a a') (cond c b b'):=by
 cases c
 · exact k
 · exact h
def Qb {α β:Type} (step:α->Option (α⊕β)) (a:α):Option β:=wX step 2048 a
theorem J5 {α β:Type} {f g:α->Option (α⊕β)} (h:∀x,Ag (f x) (g x)):∀(k:Nat) (a:α),Ag (wX f k a) (wX g k a)
 | 0,a=>Ag.refl _
 | k+1,a=>by
  rw[vn,vn];refine Ag.bind (h a) λx=>?_;cases x with
  | inl x=>exact J5 h k x
  | inr b=>exact Ag.refl _
theorem I9 {α β:Type} {f:α->Option (α⊕β)}:∀(k k':Nat) (a:α) {b b':β},wX f k a=some b->wX f k' a=some b'->b=b'
 | 0,_,a,b,b',h,_=>by cases h
 | k+1,0,a,b,b',_,h=>by cases h
 | k+1,k'+1,a,b,b',h,h'=>by
  rw[vn,Option.bind_eq_some_iff]at h h';obtain⟨x,h1,h2⟩:=h;obtain⟨x',h1',h2'⟩:=h';rw[h1]at h1';cases h1';cases x with
  | inl x=>exact I9 k k' x h2 h2'
  | inr c=>cases h2;cases h2';rfl
theorem yE {α β:Type} {f:α->Option (α⊕β)} {k:Nat} {a:α} {b:β} (h:wX f k a=some b):loop f a=some b:=by
 unfold loop;have hex:∃k,(wX f k a).isSome:=⟨k,by rw[h];rfl⟩
 rw[dif_pos hex];have:=Classical.choose_spec hex
 cases hc:wX f (Classical.choose hex) a with
 | none=>rw[hc]at this;cases this
 | some b'=>rw[I9 _ _ _ h hc]
theorem Ag.loop {α β:Type} {f g:α->Option (α⊕β)} {a:α} (h:∀x,Ag (f x) (g x)):Ag (Qb f a) (loop g a):=λr hr=>yE (J5 h _ _ r hr)
theorem tM {n:Int} (h1:-9223372036854775808<=n) (h2:n<=9223372036854775807):te n=n:=by
 show (let m:=n%18446744073709551616;if (true&&decide (m>=9223372036854775808))=true then m-18446744073709551616 else m)=n;simp only[Bool.true_and,decide_eq_true_eq];split<;>omega
end Go.V
namespace Go.V

theorem tI {α β:Type} {step:α->Option (α⊕β)} (ub:Nat->α->Prop) (m:Nat) (R:β->Prop)
 (h:∀k x,k<m->ub k x->(∃y,step x=some (.inl y)/\ub (k+1) y)\/∃b,step x=some (.inr b)/\R b)
 (he:∀x,ub m x->∃b,step x=some (.inr b)/\R b) {x:α} (h0:ub 0 x):∃b,loop step x=some b/\R b:=by
 have key:∀n k x,k+n=m->ub k x->∃b,wX step (n+1) x=some b/\R b:=by
  intro n
  induction n with
  | zero =>
   intro k x hk hx;obtain rfl:k=m:=by omega
   obtain⟨b,h1,h2⟩:=he x hx;exact⟨b,by rw[vn,h1];rfl,h2⟩
  | succ n ih =>
   intro k x hk hx;rcases h k x (by omega) hx with ⟨y,h1,h2⟩|⟨b,h1,h2⟩
   · obtain⟨b,h3,h4⟩:=ih (k+1) y (by omega) h2;exact⟨b,by rw[vn,h1];exact h3,h4⟩
   · exact⟨b,by rw[vn,h1];rfl,h2⟩
 obtain⟨b,h1,h2⟩:=key m 0 x (by omega) h0;exact⟨b,yE h1,h2⟩
theorem tE {α:Type} {xs:List α} {k:Nat} (h:k<xs.length):at? xs (k:Int)=some xs[k]:=by
 unfold at?;rw[if_pos (by omega),Int.toNat_natCast,List.getElem?_eq_getElem h]
theorem wq {n k:Nat} (h:k<n):ix n (k:Int)=some k:=by
 unfold ix;rw[if_pos (by omega),if_pos (by omega),Int.toNat_natCast]
theorem tz {k:Nat} (h:k<9223372036854775807):te ((k:Int)+1)=((k+1:Nat):Int):=by
 rw[tM (by omega) (by omega)];omega
theorem u0 {a b:Int} (h:a<b):decide (a<b)=true:=dT h
theorem tW {a b:Int} (h:¬a<b):decide (a<b)=false:=dF h
theorem O1 {α:Type} {a:List α} {g:α->α->Option Bool} (hg:∀x∈a,g x x=some true) (hn:a.length<=4294967295) :
 loop (λi:Int=>cond (decide (i<(a.length:Int))) ((at? a i).bind λx=>(at? a i).bind λy=>(g x y).bind λt=>cond (!t) (some (.inr (.inr false))) (some (.inl (te (i+1))))) (some (.inr (.inl ())))) 0=some (Sum.inl ():Unit⊕Bool):=by
 obtain⟨b,h1,rfl⟩:=tI (β:=Unit⊕Bool) (step:=λi:Int=>cond (decide (i<(a.length:Int))) ((at? a i).bind λx=>(at? a i).bind λy=>(g x y).bind λt=>cond (!t) (some (.inr (.inr false))) (some (.inl (te (i+1))))) (some (.inr (.inl ()))))
  (λk i=>i=(k:Int)) a.length (λb=>b=.inl ())
  (λk i hk h=>by
   subst h;refine .inl ⟨((k+1:Nat):Int),?_,rfl⟩;simp only[u0 (show (k:Int)<(a.length:Int) by omega),cT,tE hk,Option.bind_some,hg _ (List.getElem_mem hk),Bool.not_true,cF];rw[tz (by omega)])
  (λi h=>by
   subst h;exact⟨.inl (),by simp only[tW (show ¬(a.length:Int)<(a.length:Int) by omega),cF],rfl⟩) (x:=0) rfl
 exact h1
theorem Ia {a:List Int} (hn:a.length<=4294967295) :
 loop (λi:Int=>cond (decide (i<(a.length:Int))) ((at? a i).bind λx=>(at? a i).bind λy=>cond (x != y) (some (.inr (.inr false))) (some (.inl (te (i+1))))) (some (.inr (.inl ())))) 0=some (Sum.inl ():Unit⊕Bool):=by
 have:=O1 (a:=a) (g:=λx y=>some (!(x != y))) (λx _=>by simp) hn;simpa using this
theorem Lr {n:Nat} {step:Int->Option (Int⊕(Unit⊕Bool))} (h:loop step 0=some (Sum.inl ())):cond ((n:Int) != (n:Int)) (some false) ((loop step 0).bind (Sum.elim (λ_=>some true) (λr=>some r)))=some true:=by
 rw[h];simp
end Go.V
namespace Go.V

end Go.V

