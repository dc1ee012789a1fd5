/- V: a run of the model's code over plain data, and that it is what the machine does. Part 4 of 4. No condition. -/
import Derived.Test.YtobeipmgjajdlaaGreatV3
import Derived.Carry
import Derived.Below
open List (append_eq_nil_iff)
set_option linter.unusedVariables false
set_option linter.unusedSimpArgs false
namespace Go.V
open Go.RowKit
variable {P:Program} {ti:List (Nat×kY)} {W w:World}

mutual
theorem CT.same_refl:∀c:CT,CT.same c c=some ⟨rfl⟩
 | .int k=>by simp[CT.same]
 | .bool=>rfl
 | .str=>rfl
 | .err=>rfl
 | .sl e=>by simp only[CT.same,Cs.same_refl e]
theorem Cs.same_refl:∀e:Cs,Cs.same e e=some ⟨rfl⟩
 | .one c=>by simp only[Cs.same,CT.same_refl c]
 | .cons c r=>by simp only[Cs.same,CT.same_refl c,Cs.same_refl r]
end
theorem CT.read_cell {F:an->Option Entry} (c:CT) (x:c.den):(c.read (c.cell x)).Runs F x []:=by
 cases c with
 | int k=>exact (show (cond (Nat.beq (lE k) (lE k)) (Rd.ret x) .fail).Runs F x []from by rw[show Nat.beq (lE k) (lE k)=true from Nat.beq_refl _];exact⟨rfl,rfl⟩)
 | bool=>exact⟨rfl,rfl⟩
 | str=>exact⟨rfl,rfl⟩
 | err=>exact⟨rfl,rfl⟩
 | sl e =>
  show (sA e (.sh e x)).Runs F x [];simp only[sA,Cs.same_refl];exact⟨rfl,rfl⟩
theorem Rd.bind_runs {α β:Type} {F:an->Option Entry} {f:α->Rd β} {a:α} {b:β}:∀{x:Rd α} {L1 L2:List an},x.Runs F a L1->(f a).Runs F b L2->(x.bind f).Runs F b (L1++L2)
 | .ret a',L1,L2,⟨h1,h2⟩,k=>by subst h1;subst h2;exact k
 | .fail,_,_,h,_=>h.elim
 | .get n g,L1,L2,⟨L',h1,h2⟩,k=>by subst h1;exact⟨L'++L2,rfl,Rd.bind_runs h2 k⟩
 | .opt o g,L1,L2,⟨b',h1,h2⟩,k=>⟨b',h1,Rd.bind_runs h2 k⟩
theorem Cs.read_cells {F:an->Option Entry}:∀(c:Cs) (x:c.den),(c.read (c.cells x)).Runs F x []
 | .one c,x=>CT.read_cell c x
 | .cons c r,x=>by
  show ((c.read (c.cell x.1)).bind λa=>(r.read (r.cells x.2)).bind λb=>.ret (a,b)).Runs F x [];exact Rd.bind_runs (L1:=[]) (L2:=[]) (CT.read_cell c x.1) (Rd.bind_runs (L1:=[]) (L2:=[]) (Cs.read_cells r x.2) ⟨rfl,rfl⟩)
def rl:(ps:List ll)->kH (kV ps)->List AV
 | [],_=>[]
 | .val agg c _::ps,x=>nI agg (c.cells (kH.hd c (kV ps) x))::rl ps (kH.tl c (kV ps) x)
 | .ptr c _::ps,x=>rl ps (kH.tl c (kV ps) x)
theorem sW {D:an->Prop} {g:Gh}:∀{ps:List ll} {x:kH (kV ps)} {vs:List Value},n9 ps=true->nX g.I w ps x vs [] []->kM (lk D g w) (rl ps x) vs
 | [],x,vs,_,⟨h,_⟩=>by subst h;trivial
 | .val agg c false::ps,x,vs,hl,⟨v,vs',us,t1,t2,n1,n2,h1,h2,h3,h4,h5,h6⟩=>by
  subst h1;obtain⟨rfl,rfl⟩:=append_eq_nil_iff.1 h3.symm;obtain⟨rfl,rfl⟩:=append_eq_nil_iff.1 h4.symm;rcases h5 with ⟨_,_,h,_⟩|⟨_,_,_,F,hF,hI⟩
  · cases h
  · exact⟨rg (Cs.cells_rep hF hI) h2,sW (by simpa[n9]using hl) h6⟩
 | .val _ _ true::_,_,_,hl,_=>by simp[n9]at hl
 | .ptr _ _::_,_,_,hl,_=>by simp[n9]at hl
theorem AP {D:an->Prop} {g:Gh} {agg:Bool} {c:Cs} {x:c.den} {v:Value} {us:List Value} {F:List Nat} (h:isAgg agg v us) (hF:Cs.Rep w c x us F):qj agg (nI agg (c.cells x))=true/\(nI agg (c.cells x)).cells=c.cells x:=by
 rcases h with ⟨rfl,rfl⟩|⟨rfl,_⟩
 · have hl:=hF.length;cases c with
   | one c=>exact⟨rfl,rfl⟩
   | cons c r =>
    exfalso;have:=Cs.len_pos r
    simp[Cs.len]at hl;omega
 · have:nI true (c.cells x)=.agg (c.cells x):=by cases c.cells x<;>rfl
   rw[this];exact⟨rfl,rfl⟩
theorem rZ {I:Nat->Prop} {F:an->Option Entry}:∀{ps:List ll} {x:kH (kV ps)} {vs:List Value},n9 ps=true->nX I w ps x vs [] []->∃b:sF (kV ps),(lG false ps (rl ps x)).Runs F b []/\b.args=x/\b.used=[]/\b.ptrs=[]
 | [],x,vs,_,⟨h,_⟩=>⟨⟨(),[],[],[]⟩,⟨rfl,rfl⟩,rfl,rfl,rfl⟩
 | .val agg c false::ps,x,vs,hl,⟨v,vs',us,t1,t2,n1,n2,h1,h2,h3,h4,h5,h6⟩=>by
  subst h1;obtain⟨rfl,rfl⟩:=append_eq_nil_iff.1 h3.symm;obtain⟨rfl,rfl⟩:=append_eq_nil_iff.1 h4.symm;rcases h5 with ⟨_,_,h,_⟩|⟨_,_,_,G,hG,hI⟩
  · cases h
  · obtain⟨k1,k2⟩:=AP (D:=λ_=>False) (g:=⟨λ_=>False,λ_=>.slice none 0 0,λ_=>0,λ_=>none,λ_=>[],λ_=>[]⟩) h2 hG;obtain⟨b,e1,e2,e3,e4⟩:=rZ (F:=F) (show n9 ps=true by simpa[n9]using hl) h6;refine⟨⟨kH.mk c (kV ps) (kH.hd c (kV ps) x) b.args,[]++b.used,b.ptrs,cond false [] ((nI agg (c.cells (kH.hd c (kV ps) x))).cells.flatMap Cell.names)++b.ro⟩,?_,?_,?_,e4⟩
    · show (lG false (.val agg c false::ps) (nI agg (c.cells (kH.hd c (kV ps) x))::rl ps (kH.tl c (kV ps) x))).Runs F _ [];rw[lG,k1];refine Rd.bind_runs (L1:=[]) (L2:=[]) (a:=()) ⟨rfl,rfl⟩ ?_;refine Rd.bind_runs (L1:=[]) (L2:=[]) (a:=(kH.hd c (kV ps) x,[])) ?_ ?_
      · refine Rd.bind_runs (L1:=[]) (L2:=[]) (a:=kH.hd c (kV ps) x) ?_ ⟨rfl,rfl⟩;rw[k2];exact Cs.read_cells c _
      · exact Rd.bind_runs (L1:=[]) (L2:=[]) e1 ⟨rfl,rfl⟩
    · show kH.mk c (kV ps) (kH.hd c (kV ps) x) b.args=x;rw[e2];have eta:∀(c:Cs) (r:List Cs) (x:kH (c::r)),kH.mk c r (kH.hd c r x) (kH.tl c r x)=x:=by
       intro c r x;cases r with
       | nil=>rfl
       | cons _ _=>rfl
      exact eta c (kV ps) x
    · simpa using e3
 | .val _ _ true::_,_,_,hl,_=>by simp[n9]at hl
 | .ptr _ _::_,_,_,hl,_=>by simp[n9]at hl
abbrev yesR:List m6:=[.val false (.one .bool) (some true)]
def vr:(ps:List ll)->kH (lK ps yesR)
 | []=>true
 | .val _ _ _::ps=>vr ps
 | .ptr c _::ps=>kH.mk c (lK ps yesR) c.zero (vr ps)
theorem uE:∀(ps:List ll) (n:an),n9 ps=true->kN n ps yesR [] (vr ps)=⟨[.cell (.bool true)],[],[]⟩
 | [],n,_=>rfl
 | .val _ _ false::ps,n,h=>uE ps n (by simpa[n9]using h)
 | .val _ _ true::_,_,h=>by simp[n9]at h
 | .ptr _ _::_,_,h=>by simp[n9]at h
theorem yg:∀(ps:List ll),n9 ps=true->nx ps yesR=false:=by
 intro ps h;unfold nx;rw[show yesR.any m6.sh=false from rfl,Bool.or_false];rw[List.any_eq_false];intro p hp;have:=List.all_eq_true.1 h p hp
 cases p with
 | val _ _ _=>simp[ll.sh]
 | ptr _ _=>cases this
theorem A5 {f:FuncId} {ps:List ll} {den:kH (kV ps)->Option (kH (lK ps yesR))} (hm:rJ P f ⟨ps,yesR,den⟩) (hl:n9 ps=true) {x:kH (kV ps)} {vs:List Value} (ha:nX (λb=>b<w.heap.size) w ps x vs [] []) (hd:den x=some (vr ps)) :
 Calls P f vs.toArray w λe w'=>e=.returned (.bool true)/\Below w.heap.size w w':=by
 have hM:=MS.start (w:=w) (λb=>b<w.heap.size) (λ_=>False) (λk=>∃b,k=w.heap.size+b/\b<w.heap.size) (λ_ h=>h) (λb h=>⟨b,rfl,h⟩) (λ_ h=>h.elim);have h1:=sW (D:=dom []) (g:=⟨λb=>b<w.heap.size,λ_=>.slice none 0 0,λ_=>0,λ_=>none,λ_=>[],λ_=>[]⟩) hl ha
 obtain⟨b,h2,e1,e2,e3⟩:=rZ (F:=kF []) hl ha;have hs:=yg ps hl
 have hg:=uE ps 0 hl;have key:=hm.2 w (λ_=>False) (λk=>∃b,k=w.heap.size+b/\b<w.heap.size) [] _ w 0 (rl ps x) vs b [] (vr ps) hM h1 (by rw[hs];exact h2)
  (by rw[e2];simp[kQ,kF]) (by show den b.args=_;rw[e1];exact hd)
  (by show kQ (kN 0 ps yesR b.ptrs (vr ps)).news=true;rw[e3,hg];rfl) (by intro p hp;have hp:p∈(kN 0 ps yesR b.ptrs (vr ps)).news:=hp;rw[e3,hg]at hp;simp at hp)
 refine key.mono λe w' he=>?_;cases e with
 | returned v =>
  obtain⟨g',hM',_,hv⟩:=he;have hv:lk _ g' w' (sm (kN 0 ps yesR b.ptrs (vr ps)).vals) v:=hv
  rw[e3,hg]at hv;have hv:v=.bool true:=hv
  exact⟨by rw[hv],⟨hM'.since.os,hM'.since.tape,hM'.since.out,hM'.since.size,λk hk=>hM'.since.mem k hk (λh=>h)⟩⟩
 | panicked _=>exact he.elim
 | outgrown=>exact he.elim

theorem wx:∀{ps:List ll} {x:kH (kV ps)} {vs:List Value},xu w ps x vs->nX (λb=>b<w.heap.size) w ps x vs [] []
 | [],x,vs,h=>⟨h,rfl,rfl⟩
 | .val agg c false::ps,x,vs,⟨v,vs',us,F,h1,h2,h3,h4⟩=>⟨v,vs',us,[],[],[],[],h1,h2,rfl,rfl,.inr ⟨rfl,rfl,rfl,F,h3,λb hb=>h3.lt b hb⟩,wx h4⟩
 | .val _ _ true::_,_,_,h=>h.elim
 | .ptr .. :: _,_,_,h=>h.elim
theorem yh {ps:List ll} {rs:List m6} (h:n9 ps=true) (k:BX rs=true):nx ps rs=false:=by
 unfold nx;rw[Bool.or_eq_false_iff,List.any_eq_false,List.any_eq_false];refine⟨λp hp=>?_,λr hr=>?_⟩
 · have:=List.all_eq_true.1 h p hp;cases p with
   | val _ _ _=>simp[ll.sh]
   | ptr _ _=>cases this
 · have:=List.all_eq_true.1 k r hr;cases r with
   | val agg c own=>cases hx:s8 own<;>simp_all [m6.sh]
   | ptr _ _=>cases this
theorem A6 {f:FuncId} {F:Fn} (hm:rJ P f F) (hl:n9 F.ps=true) (hk:BX F.rs=true):zY P f F:=by
 refine⟨hm.1,λw uid x vs r ha hd hdist=>?_⟩;have hM:=MS.start (w:=w) (λb=>b<w.heap.size) (λ_=>False) (λk=>∃b,k=w.heap.size+b/\b<w.heap.size) (λ_ h=>h) (λb h=>⟨b,rfl,h⟩) (λ_ h=>h.elim)
 have ha':=wx ha;have h1:=sW (D:=dom []) (g:=⟨λb=>b<w.heap.size,λ_=>.slice none 0 0,λ_=>0,λ_=>none,λ_=>[],λ_=>[]⟩) hl ha'
 obtain⟨b,h2,e1,e2,e3⟩:=rZ (F:=kF []) hl ha';have hs:=yh hl hk
 have hu:(kN uid F.ps F.rs [] r).upds=[]:=by
  have:=pY F.ps F.rs uid [] r;cases hq:(kN uid F.ps F.rs [] r).upds with
  | nil=>rfl
  | cons p l=>exact absurd (this p (by rw[hq];simp)) (by simp)
 have key:=hm.2 w (λ_=>False) (λk=>∃b,k=w.heap.size+b/\b<w.heap.size) [] _ w uid (rl F.ps x) vs b [] r hM h1 (by rw[hs];exact h2)
  (by rw[e2];simp[kQ,kF]) (by rw[e1];exact hd) (by rw[e3];exact hdist) (by intro p hp;rfl)
 refine key.mono λe w' he=>?_;cases e with
 | returned v =>
  obtain⟨g',hM',_,hv⟩:=he;rw[e3,e2,hu]at hM' hv;simp only[List.append_nil]at hM' hv;exact⟨g',_,_,λ_ h=>h,λb hb ⟨c,hc,_⟩=>by omega,hM',hv⟩
 | panicked _=>exact he.elim
 | outgrown=>exact he.elim
theorem oF.cons {l:List (FuncId×Fn)} {f:FuncId} {F:Fn} (h:oF P ⟨ti,l,[],false⟩) (hm:rJ P f F):oF P ⟨ti,(f,F)::l,[],false⟩:=by
 refine⟨h.tis,h.eqs,λk F' hk=>?_,(λf M hf=>by cases hf),(λh=>by cases h)⟩;have hk':(if f=k then some F else kF l k)=some F':=by rw[←kO];exact hk
 clear hk;split at hk'
 · rename_i e;subst e;cases hk';exact hm
 · exact h.fns k F' hk'
theorem oF.trees {l:List (FuncId×Fn)} {m:List (FuncId×BW)} (h:oF P ⟨ti,l,[],false⟩) (hm:∀f M,kF m f=some M->B7 P f M):oF P ⟨ti,l,m,true⟩ :=
 ⟨h.tis,h.eqs,h.fns,hm,λ_ f F hf hl hk=>A6 (h.fns f F hf) hl hk⟩

def vt:(ps:List ll)->kH (kV ps)->Prop
 | [],_=>True
 | .val _ c _::ps,x=>Cs.wf c (kH.hd c (kV ps) x)/\vt ps (kH.tl c (kV ps) x)
 | .ptr c _::ps,x=>Cs.wf c (kH.hd c (kV ps) x)/\vt ps (kH.tl c (kV ps) x)
def ug (ti:List (Nat×kY)):List TypeId->List ll->Bool
 | [],[]=>true
 | t::ts,.val agg c false::ps=>(match kF ti t with|some i=>sG i.agg agg&&(Cs.same i.cs c).isSome|none=>false)&&ug ti ts ps
 | _,_=>false
theorem uF:∀{ts:List TypeId} {ps:List ll},ug ti ts ps=true->n9 ps=true
 | [],[],_=>rfl
 | t::ts,.val agg c false::ps,h=>by
  simp only[ug,aT]at h;simpa[n9]using uF h.2
 | [],_::_,h=>by cases h
 | _::_,[],h=>by cases h
 | _::_,.val _ _ true::_,h=>by cases h
 | _::_,.ptr _ _::_,h=>by cases h
theorem zk (hT:mh P ti) {t:Nat} {i:kY} (hi:kF ti t=some i) {base:Nat} {v:Value} (hv:Value.okWide P W .any base t v):isAgg i.agg v v.cells.toList:=by
 obtain⟨d,u,z,hf⟩:=hT.facts hi;cases ha:i.agg with
 | true =>
  obtain⟨fs,hu,_⟩:=hf.agg ha;have hund:=hf.und
  rw[hu]at hund;simp only[Value.okWide,hund]at hv;obtain⟨cs,rfl,_⟩:=hv;exact .inr ⟨rfl,rfl⟩
 | false =>
  obtain⟨c,_,hs⟩:=hf.plain ha;have hund:=hf.und
  left;refine⟨rfl,?_⟩;cases u<;>try (simp[lV]at hs;done)
  all_goals
   simp only[Value.okWide,hund,Cell.okWide]at hv;cases v<;>first|rfl | (simp_all [Cell.ok];done)
theorem xF {H:Type} {enc:TypeId×Value->H} {held:Bool} (hT:mh P ti) (hD:Deep P ti) {base:Nat}:∀{ts:List TypeId} {ps:List ll} {vs:List Value} {ds:List (DataW H)} {p:List MemPlace},ug ti ts ps=true->DataW.TrodAll enc P W 0 (λ_=>true) held ts vs ds p ->
 (∀(j:Nat) t v,ts[j]?=some t->vs[j]?=some v->Value.okWide P W .any base t v)->∃x,nX (λb=>b<W.heap.size) W ps x vs [] []/\vt ps x
 | [],[],[],[],p,_,_,_=>⟨(),⟨rfl,rfl,rfl⟩,trivial⟩
 | t::ts,.val agg c false::ps,v::vs,d::ds,p,hs,h,hv=>by
  obtain⟨p1,q1,⟨fuel,h1⟩,h2,_⟩:=h;simp only[ug,aT]at hs;cases hi:kF ti t with
  | none=>rw[hi]at hs;cases hs.1
  | some i =>
   rw[hi]at hs;simp only[aT]at hs;obtain⟨⟨ha,hc⟩,hs⟩:=hs;obtain rfl:=ue ha;cases hsm:Cs.same i.cs c with
   | none=>rw[hsm]at hc;cases hc
   | some e =>
    obtain⟨e⟩:=e;subst e;obtain⟨x1,F,k1,k2,k3⟩:=uP i.cs _ (tX hT hD fuel t i _ _ hi h1);obtain⟨x2,k4,k5⟩:=xF (ps:=ps) hT hD hs h2 (λj t v ht hv'=>hv (j+1) t v (by simpa using ht) (by simpa using hv'));have hag:=zk hT hi (hv 0 t v rfl rfl)
    refine⟨kH.mk i.cs (kV ps) x1 x2,⟨v,vs,v.cells.toList,[],[],[],[],rfl,hag,rfl,rfl,.inr ⟨rfl,rfl,rfl,F,?_,k2⟩,?_⟩,?_⟩
    · show Cs.Rep W i.cs (kH.hd i.cs (kV ps) (kH.mk i.cs (kV ps) x1 x2)) _ F;rw[kH.hd_mk];exact k1
    · show nX _ W ps (kH.tl i.cs (kV ps) (kH.mk i.cs (kV ps) x1 x2)) vs [] [];rw[kH.tl_mk];exact k4
    · show Cs.wf i.cs (kH.hd i.cs (kV ps) (kH.mk i.cs (kV ps) x1 x2))/\vt ps (kH.tl i.cs (kV ps) (kH.mk i.cs (kV ps) x1 x2));rw[kH.hd_mk,kH.tl_mk];exact⟨k3,k5⟩
 | [],[],_::_,_,_,_,h,_=>by cases h
 | [],[],[],_::_,_,_,h,_=>by cases h
 | _::_,_,[],_,_,_,h,_=>by cases h
 | _::_,_,_::_,[],_,_,h,_=>by cases h
 | [],_::_,_,_,_,hs,_,_=>by cases hs
 | _::_,[],_,_,_,hs,_,_=>by cases hs
 | _::_,.val _ _ true::_,_,_,_,hs,_,_=>by cases hs
 | _::_,.ptr _ _::_,_,_,_,hs,_,_=>by cases hs
theorem law_walk {H:Type} {enc:TypeId×Value->H} {held:Bool} {f:FuncId} {ps:List ll} {den:kH (kV ps)->Option (kH (lK ps yesR))} (hm:rJ P f ⟨ps,yesR,den⟩) (hT:mh P ti) (hD:Deep P ti) {ts:List TypeId} (hs:ug ti ts ps=true) (hden:∀x,vt ps x->den x=some (vr ps))
 {base:Nat} {vs:List Value} {ds:List (DataW H)} {p:List MemPlace} (h:DataW.TrodAll enc P W 0 (λ_=>true) held ts vs ds p) (hv:∀(j:Nat) t v,ts[j]?=some t->vs[j]?=some v->Value.okWide P W .any base t v) :
 Calls P f vs.toArray W λe W'=>e=.returned (.bool true)/\Below W.heap.size W W':=by
 obtain⟨x,h1,h2⟩:=xF hT hD hs h hv;exact A5 hm (uF hs) h1 (hden x h2)
end Go.V
namespace Go.V
variable {P:Program} {G:lR} {ann:List (Nat×kL)} {w w':World}

end Go.V
namespace Go.V
def q7 {α:Type} (a b:Option α):Prop:=∀r,a=some r->b=some r
theorem q7.refl {α:Type} (a:Option α):q7 a a:=λ_ h=>h
theorem q7.bind {α β:Type} {a b:Option α} {f g:α->Option β} (h:q7 a b) (k:∀x,q7 (f x) (g x)):q7 (a.bind f) (b.bind g):=by
 intro r hr;rw[Option.bind_eq_some_iff]at hr ⊢;obtain⟨x,h1,h2⟩:=hr;exact⟨x,h x h1,k x r h2⟩
theorem q7.cond {α:Type} {c:Bool} {a b a' b':Option α} (h:q7 a b) (k:q7 a' b'):q7 (cond c a a') (cond c b b'):=by
 cases c
 · exact k
 · exact h
def CD {α β:Type} (step:α->Option (α⊕β)) (a:α):Option β:=nA step 2048 a
theorem yy {α β:Type} {f g:α->Option (α⊕β)} (h:∀x,q7 (f x) (g x)):∀(k:Nat) (a:α),q7 (nA f k a) (nA g k a)
 | 0,a=>q7.refl _
 | k+1,a=>by
  rw[nW,nW];refine q7.bind (h a) λx=>?_;cases x with
  | inl x=>exact yy h k x
  | inr b=>exact q7.refl _
theorem xG {α β:Type} {f:α->Option (α⊕β)}:∀(k k':Nat) (a:α) {b b':β},nA f k a=some b->nA f k' a=some b'->b=b'
 | 0,_,a,b,b',h,_=>by cases h
 | k+1,0,a,b,b',_,h=>by cases h
 | k+1,k'+1,a,b,b',h,h'=>by
  rw[nW,Option.bind_eq_some_iff]at h h';obtain⟨x,h1,h2⟩:=h;obtain⟨x',h1',h2'⟩:=h';rw[h1]at h1';cases h1';cases x with
  | inl x=>exact xG k k' x h2 h2'
  | inr c=>cases h2;cases h2';rfl
theorem uh {α β:Type} {f:α->Option (α⊕β)} {k:Nat} {a:α} {b:β} (h:nA f k a=some b):loop f a=some b:=by
 unfold loop;have hex:∃k,(nA f k a).isSome:=⟨k,by rw[h];rfl⟩
 rw[dif_pos hex];have:=Classical.choose_spec hex
 cases hc:nA f (Classical.choose hex) a with
 | none=>rw[hc]at this;cases this
 | some b'=>rw[xG _ _ _ h hc]
theorem q7.loop {α β:Type} {f g:α->Option (α⊕β)} {a:α} (h:∀x,q7 (f x) (g x)):q7 (CD f a) (loop g a):=λr hr=>uh (yy h _ _ r hr)
theorem lO {n:Int} (h1:-9223372036854775808<=n) (h2:n<=9223372036854775807):kJ n=n:=by
 show (let m:=n%18446744073709551616;if (true&&decide (m>=9223372036854775808))=true then m-18446744073709551616 else m)=n;simp only[Bool.true_and,decide_eq_true_eq];split<;>omega
end Go.V
namespace Go.V

theorem lD {α β:Type} {step:α->Option (α⊕β)} (lh:Nat->α->Prop) (m:Nat) (R:β->Prop)
 (h:∀k x,k<m->lh k x->(∃y,step x=some (.inl y)/\lh (k+1) y)\/∃b,step x=some (.inr b)/\R b)
 (he:∀x,lh m x->∃b,step x=some (.inr b)/\R b) {x:α} (h0:lh 0 x):∃b,loop step x=some b/\R b:=by
 have key:∀n k x,k+n=m->lh k x->∃b,nA step (n+1) x=some b/\R b:=by
  intro n
  induction n with
  | zero =>
   intro k x hk hx;obtain rfl:k=m:=by omega
   obtain⟨b,h1,h2⟩:=he x hx;exact⟨b,by rw[nW,h1];rfl,h2⟩
  | succ n ih =>
   intro k x hk hx;rcases h k x (by omega) hx with ⟨y,h1,h2⟩|⟨b,h1,h2⟩
   · obtain⟨b,h3,h4⟩:=ih (k+1) y (by omega) h2;exact⟨b,by rw[nW,h1];exact h3,h4⟩
   · exact⟨b,by rw[nW,h1];rfl,h2⟩
 obtain⟨b,h1,h2⟩:=key m 0 x (by omega) h0;exact⟨b,uh h1,h2⟩
theorem kW {α:Type} {xs:List α} {k:Nat} (h:k<xs.length):at? xs (k:Int)=some xs[k]:=by
 unfold at?;rw[if_pos (by omega),Int.toNat_natCast,List.getElem?_eq_getElem h]
theorem mY {n k:Nat} (h:k<n):ix n (k:Int)=some k:=by
 unfold ix;rw[if_pos (by omega),if_pos (by omega),Int.toNat_natCast]
theorem lb {k:Nat} (h:k<9223372036854775807):kJ ((k:Int)+1)=((k+1:Nat):Int):=by
 rw[lO (by omega) (by omega)];omega
theorem wy {n:Nat} (h:n<=4294967295):nM (n:Int)=some n:=by
 unfold nM;rw[if_pos (by omega),if_pos (by show (n:Int)<=((4294967296:Nat):Int);omega),Int.toNat_natCast]
theorem lW {a b:Int} (h:a<b):decide (a<b)=true:=dT h
theorem ls {a b:Int} (h:¬a<b):decide (a<b)=false:=dF h
theorem qf {α:Type} {a:List α} {f:α->Option α} (hf:∀x∈a,f x=some x) (hn:a.length<=4294967295) (z:α) :
 loop (λs:Int×List α=>cond (decide (s.1<(a.length:Int))) ((at? a s.1).bind λx=>(f x).bind λt=>(ix s.2.length s.1).bind λj=>(s.2[j]?).bind λ_=>some (.inl (kJ (s.1+1),s.2.set j t))) (some (.inr s.2))) (0,List.replicate a.length z)=some a:=by
 obtain⟨b,h1,rfl⟩:=lD (step:=λs:Int×List α=>cond (decide (s.1<(a.length:Int))) ((at? a s.1).bind λx=>(f x).bind λt=>(ix s.2.length s.1).bind λj=>(s.2[j]?).bind λ_=>some (.inl (kJ (s.1+1),s.2.set j t))) (some (.inr s.2)))
  (λk s=>s.1=(k:Int)/\s.2=a.take k++List.replicate (a.length-k) z) a.length (λb=>b=a)
  (λk s hk ⟨h1,h2⟩=>by
   obtain⟨i,l⟩:=s;simp only at h1 h2;subst h1;have hl:l.length=a.length:=by rw[h2,List.length_append,List.length_take,List.length_replicate];omega
   refine .inl ⟨((k+1:Nat),l.set k a[k]),?_,rfl,?_⟩
   · simp only[lW (show (k:Int)<(a.length:Int) by omega),cT,kW hk,Option.bind_some,hf _ (List.getElem_mem hk),hl,mY hk];rw[List.getElem?_eq_getElem (by omega),Option.bind_some,lb (by omega)]
   · show l.set k a[k]=_;rw[h2,List.set_append_right _ _ (by rw[List.length_take];omega),List.length_take,Nat.min_eq_left (by omega),Nat.sub_self];have e:a.length-k=(a.length-(k+1))+1:=by omega
     rw[e,List.replicate_succ,List.set_cons_zero];have e2:a.take (k+1)=a.take k++[a[k]]:=by rw[List.take_add_one,List.getElem?_eq_getElem hk];rfl
     rw[e2,List.append_assoc];rfl)
  (λs ⟨h1,h2⟩=>by
   obtain⟨i,l⟩:=s;simp only at h1 h2;subst h1;refine⟨l,?_,?_⟩
   · simp only[ls (show ¬(a.length:Int)<(a.length:Int) by omega),cF]
   · rw[h2];simp)
  (x:=(0,List.replicate a.length z)) ⟨rfl,by simp⟩
 exact h1
theorem AQ {α:Type} {a:List α} (hn:a.length<=4294967295) (z:α) :
 loop (λs:Int×List α=>cond (decide (s.1<(a.length:Int))) ((at? a s.1).bind λx=>(ix s.2.length s.1).bind λj=>(s.2[j]?).bind λ_=>some (.inl (kJ (s.1+1),s.2.set j x))) (some (.inr s.2))) (0,List.replicate a.length z)=some a :=
 qf (f:=some) (λ_ _=>rfl) hn z
theorem qg {α:Type} {a:List α} {g:α->α->Option Bool} (hg:∀x∈a,g x x=some true) (hn:a.length<=4294967295) :
 loop (λi:Int=>cond (decide (i<(a.length:Int))) ((at? a i).bind λx=>(at? a i).bind λy=>(g x y).bind λt=>cond (!t) (some (.inr (.inr false))) (some (.inl (kJ (i+1))))) (some (.inr (.inl ())))) 0=some (Sum.inl ():Unit⊕Bool):=by
 obtain⟨b,h1,rfl⟩:=lD (β:=Unit⊕Bool) (step:=λi:Int=>cond (decide (i<(a.length:Int))) ((at? a i).bind λx=>(at? a i).bind λy=>(g x y).bind λt=>cond (!t) (some (.inr (.inr false))) (some (.inl (kJ (i+1))))) (some (.inr (.inl ()))))
  (λk i=>i=(k:Int)) a.length (λb=>b=.inl ())
  (λk i hk h=>by
   subst h;refine .inl ⟨((k+1:Nat):Int),?_,rfl⟩;simp only[lW (show (k:Int)<(a.length:Int) by omega),cT,kW hk,Option.bind_some,hg _ (List.getElem_mem hk),Bool.not_true,cF];rw[lb (by omega)])
  (λi h=>by
   subst h;exact⟨.inl (),by simp only[ls (show ¬(a.length:Int)<(a.length:Int) by omega),cF],rfl⟩) (x:=0) rfl
 exact h1
theorem AR {a:List Int} (hn:a.length<=4294967295) :
 loop (λi:Int=>cond (decide (i<(a.length:Int))) ((at? a i).bind λx=>(at? a i).bind λy=>cond (x != y) (some (.inr (.inr false))) (some (.inl (kJ (i+1))))) (some (.inr (.inl ())))) 0=some (Sum.inl ():Unit⊕Bool):=by
 have:=qg (a:=a) (g:=λx y=>some (!(x != y))) (λx _=>by simp) hn;simpa using this
def nk (left:Int) (o:Option Int) (Q:Prop):Prop:=∃r,o=some r/\(r = -1\/(0<=r/\r<=left/\Q))
theorem pa {n:Nat} {left:Int} (hl:0<=left/\left<=1048576) (hn:n<=maxLen):nk left (let l1:=kJ (left-(n:Int));cond (decide (l1<0)) (some (-1)) (some l1)) (n<=1048576):=by
 have hn':n<=9223372036854775807:=hn;show nk left (cond (decide (kJ (left-(n:Int))<0)) (some (-1)) (some (kJ (left-(n:Int))))) _
 rw[lO (by omega) (by omega)];by_cases h:left-(n:Int)<0
 · rw[lW h];exact⟨-1,rfl,.inl rfl⟩
 · rw[ls h];exact⟨_,rfl,.inr ⟨by omega,by omega,by omega⟩⟩
theorem om {left:Int} {o:Option Int} {Q R:Prop} {f:Int->Option Int} (h:nk left o Q) (k:∀r,0<=r->r<=left->nk r (f r) R):nk left (o.bind λt=>cond (decide (t<0)) (some (-1)) (f t)) (Q/\R):=by
 obtain⟨r,rfl,h⟩:=h;rw[Option.bind_some];rcases h with rfl|⟨h1,h2,h3⟩
 · rw[lW (by omega)];exact⟨-1,rfl,.inl rfl⟩
 · rw[ls (by omega),cF];obtain⟨s,e,k⟩:=k r h1 h2;rcases k with rfl|⟨k1,k2,k3⟩
   · exact⟨-1,e,.inl rfl⟩
   · exact⟨s,e,.inr ⟨k1,by omega,h3,k3⟩⟩
theorem xH {n:Nat} {left:Int} {f:Int->Option Int} {R:Prop} (hl:0<=left/\left<=1048576) (hn:n<=maxLen) (k:∀r,0<=r->r<=left->nk r (f r) R):nk left (let l1:=kJ (left-(n:Int));cond (decide (l1<0)) (some (-1)) (f l1)) (n<=1048576/\R):=by
 have hn':n<=9223372036854775807:=hn;show nk left (cond (decide (kJ (left-(n:Int))<0)) (some (-1)) (f (kJ (left-(n:Int))))) _
 rw[lO (by omega) (by omega)];by_cases h:left-(n:Int)<0
 · rw[lW h];exact⟨-1,rfl,.inl rfl⟩
 · rw[ls h,cF];obtain⟨s,e,k⟩:=k (left-(n:Int)) (by omega) (by omega);rcases k with rfl|⟨k1,k2,k3⟩
   · exact⟨-1,e,.inl rfl⟩
   · exact⟨s,e,.inr ⟨k1,by omega,by omega,k3⟩⟩
theorem rm {α:Type} {a:List α} {z:α} {step:Int×List α->Option ((Int×List α)⊕List α)} (hn:a.length<=4294967295) (h:loop step (0,List.replicate a.length z)=some a) :
 ((nM (a.length:Int)).bind λn=>(loop step (0,List.replicate n z)).bind λd=>some d)=some a:=by
 rw[wy hn,Option.bind_some,h];rfl
theorem rn {n:Nat} {step:Int->Option (Int⊕(Unit⊕Bool))} (h:loop step 0=some (Sum.inl ())):cond ((n:Int) != (n:Int)) (some false) ((loop step 0).bind (Sum.elim (λ_=>some true) (λr=>some r)))=some true:=by
 rw[h];simp
theorem tY {left:Int} (h:0<=left):nk left (some left) True:=⟨left,rfl,.inr ⟨h,Int.le_refl _,trivial⟩⟩
theorem uQ {left:Int} {o:Option Int} {Q R:Prop} (h:nk left o Q) (k:Q->R):nk left o R:=by
 obtain⟨r,e,h⟩:=h;exact⟨r,e,h.imp id λ⟨a,b,c⟩=>⟨a,b,k c⟩⟩
theorem A7 {α:Type} {a:List α} {f:α->Int->Option Int} {Q:α->Prop} (hf:∀x∈a,∀l,0<=l->l<=1048576->nk l (f x l) (Q x)) (hn:a.length<=4294967295) {left:Int} (hl:0<=left/\left<=1048576) :
 nk left ((loop (λs:Int×Int=>cond (decide (s.2<(a.length:Int))) ((at? a s.2).bind λx=>(f x s.1).bind λt=>cond (decide (t<0)) (some (.inr (.inr (-1)))) (some (.inl (t,kJ (s.2+1))))) (some (.inr (.inl s.1)))) (left,0)).bind (Sum.elim (λd=>some d) (λr=>some r))) (∀x∈a,Q x):=by
 obtain⟨b,h1,h2⟩:=lD (β:=Int⊕Int) (step:=λs:Int×Int=>cond (decide (s.2<(a.length:Int))) ((at? a s.2).bind λx=>(f x s.1).bind λt=>cond (decide (t<0)) (some (.inr (.inr (-1)))) (some (.inl (t,kJ (s.2+1))))) (some (.inr (.inl s.1))))
  (λk s=>s.2=(k:Int)/\0<=s.1/\s.1<=left/\∀x∈a.take k,Q x) a.length (λb=>b=.inr (-1)\/∃d,b=.inl d/\0<=d/\d<=left/\∀x∈a,Q x)
  (λk s hk ⟨e1,e2,e3,e4⟩=>by
   obtain⟨l,i⟩:=s;simp only at e1 e2 e3;subst e1;obtain⟨r,hr,h⟩:=hf a[k] (List.getElem_mem hk) l e2 (by omega);rcases h with rfl|⟨h1,h2,h3⟩
   · refine .inr ⟨.inr (-1),?_,.inl rfl⟩;simp only[lW (show (k:Int)<(a.length:Int) by omega),cT,kW hk,Option.bind_some,hr];rw[lW (by omega),cT]
   · refine .inl ⟨(r,((k+1:Nat):Int)),?_,rfl,h1,by show r<=left;omega,λx hx=>?_⟩
     · simp only[lW (show (k:Int)<(a.length:Int) by omega),cT,kW hk,Option.bind_some,hr];rw[ls (by omega),cF,lb (by omega)]
     · rw[List.take_add_one,List.getElem?_eq_getElem hk,List.mem_append]at hx;rcases hx with hx|hx
       · exact e4 x hx
       · simp at hx;subst hx;exact h3)
  (λs ⟨e1,e2,e3,e4⟩=>by
   obtain⟨l,i⟩:=s;simp only at e1 e2 e3;subst e1;refine⟨.inl l,?_,.inr ⟨l,rfl,e2,e3,by simpa using e4⟩⟩;simp only[ls (show ¬(a.length:Int)<(a.length:Int) by omega),cF])
  (x:=(left,0)) ⟨rfl,hl.1,Int.le_refl _,by simp⟩
 rw[h1,Option.bind_some];rcases h2 with rfl|⟨d,rfl,h3,h4,h5⟩
 · exact⟨-1,rfl,.inl rfl⟩
 · exact⟨d,rfl,.inr ⟨h3,h4,h5⟩⟩
end Go.V
namespace Go.V

end Go.V

