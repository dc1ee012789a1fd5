/- V: a run of the model's code over plain data, and that it is what the machine does. Part 3 of 4. No condition. -/
import Derived.Test.YtpidgkkbmlgehaaGreatV2
import Derived.LoopN
import Derived.Laws.Sem
open List (all_eq_true any_cons append_assoc append_nil cons_append count_append count_cons count_pos_iff flatMap_append flatMap_cons map_append mem_append mem_append_left mem_append_right mem_cons mem_cons_of_mem mem_cons_self mem_flatMap mem_map mem_map_of_mem mem_singleton nodup_append nodup_cons pairwise_cons)
set_option linter.unusedVariables false
set_option linter.unusedSimpArgs false
namespace Go.V
variable {P:Program} {w0:World} {T N:Nat->Prop} {S:St} {g:Gh} {w w':World} {a:Act} {o:Oper} {G:qd} {uid rid:Nat} {en:List (an×Entry)} {Q:Exit->Act->World->Prop}

def CT.Slot (E:List (an×Entry)) (g:Gh):(c:CT)->Cell->Value->List (List Value)->Prop
 | .sl e,x,v,R=>∃r,x=.own r/\(oS E r=some .gone\/oS E r=none)/\g.loc r=v/\g.esz r=e.len/\R=[g.rows r]
 | _,_,_,R=>R=[]
def Cs.Slot (E:List (an×Entry)) (g:Gh):(c:Cs)->List Cell->List Value->List (List Value)->Prop
 | .one c,xs,vs,R=>∃x v,xs=[x]/\vs=[v]/\CT.Slot E g c x v R
 | .cons c r,xs,vs,R=>∃x v xs' vs' R1 R2,xs=x::xs'/\vs=v::vs'/\R=R1++R2/\CT.Slot E g c x v R1/\Cs.Slot E g r xs' vs' R2
def BW (w0:World) (T:Nat->Prop) (E:List (an×Entry)) (g:Gh) (F:List Nat):Prop :=
 ∀b∈F,¬g.I b/\(∀m f,oS E m=some f->f.alive=true->g.top m≠some b)/\(∀m f,oS E m=some f->f.isTree=true->b∉g.nest m)/\(w0.heap.size<=b\/T b)
structure B6 (E E':List (an×Entry)) (g g':Gh) (F:List Nat):Prop where
 imm:g'.I=g.I
 tops:∀m f,oS E' m=some f->f.alive=true->oS E m=some f/\g'.top m=g.top m
 trees:∀m f b,oS E' m=some f->f.isTree=true->b∈g'.nest m->b∈F\/∃f',oS E m=some f'/\f'.isTree=true/\b∈g.nest m
theorem rM.one {e:Cs} {xs:List e.den} {v:Value} {F:List Nat} {rows:List Value} (h:rM w e xs v F rows):v.oneCell'=true:=by
 obtain⟨a,c,rfl⟩:=tz h.slRep;rfl
theorem CT.held_put {E:List (an×Entry)} {c:CT} {x:Cell} {v:Value} {y:c.den} {F:List Nat} {R:List (List Value)} (h:MS w0 T N E g w) (hr:CT.TRep w c y v F R) (hn:F.Nodup) (hb:BW w0 T E g F) (hs:CT.Slot E g c x v R) :
 ∃g',MS w0 T N (c.held x y++E) g' w/\Le (dom E) g w (dom (c.held x y++E)) g' w/\B6 E (c.held x y++E) g g' F/\(∀n,g'.loc n=g.loc n/\g'.esz n=g.esz n/\g'.rows n=g.rows n):=by
 have none:c.isSl=false->∃g',MS w0 T N (c.held x y++E) g' w/\Le (dom E) g w (dom (c.held x y++E)) g' w/\B6 E (c.held x y++E) g g' F/\(∀n,g'.loc n=g.loc n/\g'.esz n=g.esz n/\g'.rows n=g.rows n):=by
  intro hc;have:c.held x y=[]:=by cases c<;>first|rfl | (simp[CT.isSl]at hc)
  rw[this];exact⟨g,h,Le.refl _ _ _,⟨rfl,λm f hm _=>⟨hm,rfl⟩,λm f b hm ht hb=>.inr ⟨f,hm,ht,hb⟩⟩,λn=>⟨rfl,rfl,rfl⟩⟩
 cases c with
 | sl e =>
  obtain⟨r,rfl,hg,hl,he,rfl⟩:=hs;obtain⟨rows,hR,ht⟩:=hr;obtain rfl:g.rows r=rows:=by simpa using hR
  subst hl;have hne:∀m f,oS E m=some f->f.alive=true\/f.isTree=true->m≠r:=λm f hm ha e=>by
   subst e;rcases hg with h0|h0<;>rw[h0]at hm<;>cases hm
   rcases ha with ha|ha<;>cases ha
  obtain⟨h1,l1⟩:=h.put (n:=r) (e:=.tree e y) (i:=⟨g.loc r,g.esz r,g.top r,F⟩) (λ_=>⟨rfl,rfl⟩) ht.one
   ⟨by simpa[Gh.set]using he,by simpa[Gh.set]using ht,by simpa[Gh.set]using hn⟩ (λha=>by cases ha) (λhd=>by cases hd)
   (λ_ b hbF=>by
    obtain⟨k1,k2,k3,k4⟩:=hb b hbF;exact⟨k1,λm f _=>k2 m f,λm f _=>k3 m f,k4⟩)
  refine⟨_,h1,l1,⟨rfl,λm f hm ha=>?_,λm f b hm ht' hbm=>?_⟩,λn=>?_⟩
  · have hm:oS ((r,Entry.tree e y)::E) m=some f:=hm;rw[p8]at hm;split at hm
    · cases hm;cases ha
    · rename_i hmr;exact⟨hm,by simp[Gh.set,Ne.symm hmr]⟩
  · have hm:oS ((r,Entry.tree e y)::E) m=some f:=hm;rw[p8]at hm;split at hm
    · rename_i hmr;subst hmr;exact .inl (by simpa[Gh.set]using hbm)
    · rename_i hmr;exact .inr ⟨f,hm,ht',by simpa[Gh.set,Ne.symm hmr]using hbm⟩
  · refine⟨?_,?_,rfl⟩
    · show (if n=r then g.loc r else g.loc n)=g.loc n;split
      · rename_i e;rw[e]
      · rfl
    · show (if n=r then g.esz r else g.esz n)=g.esz n;split
      · rename_i e;rw[e]
      · rfl
 | _=>exact none rfl
theorem CT.Slot.mono {E E':List (an×Entry)} {g':Gh} (hg:∀n,g'.loc n=g.loc n/\g'.esz n=g.esz n/\g'.rows n=g.rows n) {c:CT} {x:Cell} {v:Value} {R:List (List Value)} {y:c.den} (hE:∀n∈(c.held x y).map (·.1),oS E' n=oS E n) (h:CT.Slot E g c x v R):CT.Slot E' g' c x v R:=by
 cases c with
 | sl e =>
  obtain⟨r,rfl,h1,h2,h3,h4⟩:=h;refine⟨r,rfl,?_,by rw[(hg r).1];exact h2,by rw[(hg r).2.1];exact h3,by rw[(hg r).2.2];exact h4⟩;rw[hE r (by simp[CT.held])];exact h1
 | _=>exact h
theorem Cs.held_put:∀{c:Cs} {E:List (an×Entry)} {g:Gh} {xs:List Cell} {vs:List Value} {y:c.den} {F:List Nat} {R:List (List Value)},MS w0 T N E g w->Cs.TRep w c y vs F R->F.Nodup->BW w0 T E g F->Cs.Slot E g c xs vs R->p6 (c.held xs y)=true ->
 ∃g',MS w0 T N (c.held xs y++E) g' w/\Le (dom E) g w (dom (c.held xs y++E)) g' w/\B6 E (c.held xs y++E) g g' F/\(∀n,g'.loc n=g.loc n/\g'.esz n=g.esz n/\g'.rows n=g.rows n)
 | .one c,E,g,xs,vs,y,F,R,h,hr,hn,hb,hs,hd=>by
  obtain⟨x,v,rfl,rfl,hs⟩:=hs;obtain⟨v',hv,hr⟩:=hr;cases hv;exact CT.held_put h hr hn hb hs
 | .cons c r,E,g,xs,vs,y,F,R,h,hr,hn,hb,hs,hd=>by
  obtain⟨x,v,xs',vs',R1,R2,rfl,rfl,rfl,hs1,hs2⟩:=hs;obtain⟨v',vs'',F1,F2,S1,S2,hv,rfl,hS,hr1,hr2⟩:=hr;cases hv;have hlen:∀{c:CT} {y:c.den} {v:Value} {F:List Nat} {R S:List (List Value)} {x:Cell},CT.TRep w c y v F S->CT.Slot E g c x v R->R.length=S.length:=by
   intro c y v F R S x h1 h2;cases c with
   | sl e=>obtain⟨_,_,_,_,_,rfl⟩:=h2;obtain⟨_,rfl,_⟩:=h1;rfl
   | _=>rw[show R=[]from h2,h1.1]
  obtain⟨rfl,rfl⟩:=List.append_inj hS (hlen hr1 hs1);obtain⟨d1,d2,d3⟩:=q8 (l:=c.held x y.1) (m:=r.held xs' y.2) hd;obtain⟨n1,n2,n3⟩:=nodup_append.1 hn;obtain⟨g1,h1,l1,p1,q1⟩:=Cs.held_put (c:=r) h hr2 n2 (λb hb'=>hb b (mem_append_right _ hb')) hs2 d2;have hs1':CT.Slot (r.held xs' y.2++E) g1 c x v R1:=CT.Slot.mono q1 (y:=y.1) (λn hn=>pD (d3 n hn)) hs1
  have hb1:BW w0 T (r.held xs' y.2++E) g1 F1:=by
   intro b hb';obtain⟨k1,k2,k3,k4⟩:=hb b (mem_append_left _ hb');refine⟨by rw[p1.imm];exact k1,λm f hm ha ht=>?_,λm f hm ht hbm=>?_,k4⟩
   · obtain⟨j1,j2⟩:=p1.tops m f hm ha;rw[j2]at ht;exact k2 m f j1 ha ht
   · rcases p1.trees m f b hm ht hbm with j|⟨f',j1,j2,j3⟩
     · exact n3 b hb' b j rfl
     · exact k3 m f' j1 j2 j3
  obtain⟨g2,h2,l2,p2,q2⟩:=CT.held_put h1 hr1 n1 hb1 hs1';have e:Cs.held (.cons c r) (x::xs') y++E=c.held x y.1++(r.held xs' y.2++E):=append_assoc _ _ _
  rw[e];refine⟨g2,h2,l1.trans l2,⟨p2.imm.trans p1.imm,λm f hm ha=>?_,λm f b hm ht hbm=>?_⟩,λn=>⟨(q2 n).1.trans (q1 n).1,(q2 n).2.1.trans (q1 n).2.1,(q2 n).2.2.trans (q1 n).2.2⟩⟩
  · obtain⟨j1,j2⟩:=p2.tops m f hm ha;obtain⟨j3,j4⟩:=p1.tops m f j1 ha;exact⟨j3,j2.trans j4⟩
  · rcases p2.trees m f b hm ht hbm with j|⟨f',j1,j2,j3⟩
    · exact .inl (mem_append_left _ j)
    · rcases p1.trees m f' b j1 j2 j3 with j|j
      · exact .inl (mem_append_right _ j)
      · exact .inr j

theorem CT.hold_sound (hm:qM en g w) {c:CT} {x:Cell} {v:Value} {y:c.den} {L:List an} (hc:oY (dom en) g w x v) (hr:(c.hold x).Runs (oS en) y L) :
 ∃ns:List an,CT.TRep w c y v (ns.flatMap g.nest) (ns.map g.rows)/\(∀z,(c.held x z).map (·.1)=ns)/\(∀n∈ns,∃e xs,oS en n=some (.tree e xs)) /\
  ∀E,(∀n∈ns,oS E n=some .gone)->CT.Slot E g c x v (ns.map g.rows):=by
 have scalar:c.isSl=false->(∃F,CT.Rep w c y v F)->∃ns:List an,CT.TRep w c y v (ns.flatMap g.nest) (ns.map g.rows)/\(∀z,(c.held x z).map (·.1)=ns)/\(∀n∈ns,∃e xs,oS en n=some (.tree e xs)) /\
  ∀E,(∀n∈ns,oS E n=some .gone)->CT.Slot E g c x v (ns.map g.rows):=by
  intro hs ⟨F,hF⟩;have hF0:=CT.rep_foot hs hF
  subst hF0;refine⟨[],?_,λz=>?_,by simp,λE _=>?_⟩
  · cases c<;>first|exact⟨rfl,hF⟩ | (simp[CT.isSl]at hs)
  · cases c<;>first|rfl | (simp[CT.isSl]at hs)
  · cases c<;>first|rfl | (simp[CT.isSl]at hs)
 cases c with
 | sl e =>
  replace hr:(DZ e x).Runs (oS en) y L:=hr;unfold DZ at hr;split at hr
  · rename_i r;obtain⟨L',_,hr⟩:=hr;dsimp only at hr;split at hr
    · rename_i f ys hn;split at hr
      · rename_i hfe _;obtain rfl:=hfe;obtain⟨rfl,_⟩:=hr;obtain⟨k1,k2,k3⟩:=hm.rep r _ hn;obtain⟨hd,rfl⟩:=hc;refine⟨[r],⟨g.rows r,rfl,by simpa using k2⟩,λz=>rfl,λn hn'=>?_,λE hE=>⟨r,rfl,.inl (hE r (by simp)),rfl,k1,rfl⟩⟩;obtain rfl:n=r:=by simpa using hn'
        exact⟨f,_,hn⟩
      · exact hr.elim
    · exact hr.elim
  · exact hr.elim
 | int k=>obtain⟨F,h,_⟩:=CT.read_sound (c:=.int k) hm hc hr;exact scalar rfl ⟨F,h⟩
 | bool=>obtain⟨F,h,_⟩:=CT.read_sound (c:=.bool) hm hc hr;exact scalar rfl ⟨F,h⟩
 | str=>obtain⟨F,h,_⟩:=CT.read_sound (c:=.str) hm hc hr;exact scalar rfl ⟨F,h⟩
 | err=>obtain⟨F,h,_⟩:=CT.read_sound (c:=.err) hm hc hr;exact scalar rfl ⟨F,h⟩
theorem Cs.hold_sound (hm:qM en g w):∀{c:Cs} {xs:List Cell} {vs:List Value} {y:c.den} {L:List an},p5 (oY (dom en) g w) xs vs->(c.hold xs).Runs (oS en) y L ->
 ∃ns:List an,Cs.TRep w c y vs (ns.flatMap g.nest) (ns.map g.rows)/\(∀z,(c.held xs z).map (·.1)=ns)/\(∀n∈ns,∃e xs,oS en n=some (.tree e xs)) /\
  ∀E,(∀n∈ns,oS E n=some .gone)->Cs.Slot E g c xs vs (ns.map g.rows)
 | .one c,[x],[v],y,L,hc,hr=>by
  obtain⟨ns,k1,k2,k3,k4⟩:=CT.hold_sound hm hc.1 hr;exact⟨ns,⟨v,rfl,k1⟩,k2,k3,λE hE=>⟨x,v,rfl,rfl,k4 E hE⟩⟩
 | .cons c r,x::xs,v::vs,y,L,hc,hr=>by
  simp only[Cs.hold]at hr;obtain⟨a,L1,L2,_,h1,hr⟩:=Rd.runs_bind hr;obtain⟨b,L3,L4,_,h2,hr⟩:=Rd.runs_bind hr;obtain⟨rfl,_⟩:=hr;obtain⟨ns,k1,k2,k3,k4⟩:=CT.hold_sound hm hc.1 h1;obtain⟨ms,j1,j2,j3,j4⟩:=Cs.hold_sound hm hc.2 h2;refine⟨ns++ms,⟨v,vs,_,_,_,_,rfl,flatMap_append,map_append,k1,j1⟩,λz=>?_,λn hn=>(mem_append.1 hn).elim (k3 n) (j3 n),λE hE=>?_⟩
  · simp only[Cs.held,map_append,k2 z.1,j2 z.2]
  · exact⟨x,v,xs,vs,_,_,rfl,rfl,map_append,k4 E λn hn=>hE n (mem_append_left _ hn),j4 E λn hn=>hE n (mem_append_right _ hn)⟩
 | .one _,[],_,_,_,_,hr=>hr.elim
 | .one _,_::_::_,_,_,_,_,hr=>hr.elim
 | .cons _ _,[],_,_,_,_,hr=>hr.elim
 | .one _,[_],[],_,_,hc,_=>hc.elim
 | .one _,[_],_::_::_,_,_,hc,_=>hc.2.elim
 | .cons _ _,_::_,[],_,_,hc,_=>hc.elim
theorem xY (hm:qM en g w):∀{ns:List an},ns.Nodup->(∀n∈ns,∃e xs,oS en n=some (.tree e xs))->(ns.flatMap g.nest).Nodup
 | [],_,_=>by simp
 | n::ns,hd,ht=>by
  obtain⟨h1,h2⟩:=nodup_cons.1 hd;obtain⟨e,xs,hn⟩:=ht n (by simp);rw[flatMap_cons,nodup_append];refine⟨(hm.rep n _ hn).2.2,xY hm h2 λm hm'=>ht m (by simp[hm']),λb hb c hc hbc=>?_⟩;subst hbc;obtain⟨m,hmn,hbm⟩:=mem_flatMap.1 hc;obtain⟨f,ys,hm'⟩:=ht m (by simp[hmn]);exact (hm.wood n _ b hn rfl hb).2.2 m _ (λe=>h1 (e▸hmn)) hm' rfl hbm
theorem uV:∀{l:List (an×Entry)},p6 l=true->(l.map (·.1)).Nodup
 | [],_=>by simp
 | (n,e)::l,h=>by
  obtain⟨h1,h2⟩:=qg h;exact nodup_cons.2 ⟨h1,uV h2⟩
theorem Ax {ns:List an} {n:an} (h:n∈ns) (E:List (an×Entry)):oS ((ns.map λn=>(n,Entry.gone))++E) n=some .gone:=by
 induction ns with
 | nil=>simp at h
 | cons m ns ih =>
  show oS ((m,Entry.gone)::((ns.map λn=>(n,Entry.gone))++E)) n=_;rw[p8];split
  · rfl
  · rename_i hmn;exact ih ((mem_cons.1 h).resolve_left λe=>hmn e.symm)
theorem Ay {ns:List an} {n:an} (h:n∉ns) (E:List (an×Entry)):oS ((ns.map λn=>(n,Entry.gone))++E) n=oS E n:=by
 rw[pD];simpa using h
theorem MS.retrees (h:MS w0 T N en g w) {c:Cs} {xs:List Cell} {vs:List Value} {y:c.den} {F:List Nat} {ns:List an} (hns:(c.held xs y).map (·.1)=ns) (hd:ns.Nodup) (ht:∀n∈ns,∃e xs,oS en n=some (.tree e xs))
 (hslot:∀E,(∀n∈ns,oS E n=some .gone)->Cs.Slot E g c xs vs (ns.map g.rows)) (hr:Cs.TRep w' c y vs F (ns.map g.rows)) (hn:F.Nodup)
 (hF:∀b∈F,b∈ns.flatMap g.nest\/w.heap.size<=b) (hsoft:∀b,b∈ns.flatMap g.nest\/w.heap.size<=b->Go.V.soft w' b)
 (hos:w'.os=w.os) (hout:w'.output=w.output) (htape:w'.tape=w.tape) (hsize:w.heap.size<=w'.heap.size) (hmem:∀b,b<w.heap.size->b∉ns.flatMap g.nest->w'.heap[b]?=w.heap[b]?) :
 ∃g',MS w0 T N (c.held xs y++en) g' w'/\Le (dom en) g w (dom (c.held xs y++en)) g' w':=by
 have hdn:∀n∈ns,dom en n:=λn hn=>by obtain⟨e,xs,h⟩:=ht n hn;unfold dom;rw[h];simp
 obtain⟨h1,l1⟩:=h.useGone (used:=ns.map λn=>(n,Entry.gone)) (λp hp=>by
  obtain⟨n,hn,rfl⟩:=mem_map.1 hp;exact⟨hdn n hn,rfl⟩)
 have hE:∀m f,oS ((ns.map λn=>(n,Entry.gone))++en) m=some f->f≠.gone->m∉ns/\oS en m=some f:=λm f hm hf=>by
  by_cases hmn:m∈ns
  · rw[Ax hmn]at hm;cases hm;exact absurd rfl hf
  · rw[Ay hmn]at hm;exact⟨hmn,hm⟩
 have al:∀f:Entry,f.alive=true->f≠.gone:=λf ha e=>by subst e;cases ha
 have tr:∀f:Entry,f.isTree=true->f≠.gone:=λf ha e=>by subst e;cases ha
 have hw:∀b∈ns.flatMap g.nest,∃n∈ns,∃e xs,oS en n=some (.tree e xs)/\b∈g.nest n:=λb hb=>by
  obtain⟨n,hn,hb⟩:=mem_flatMap.1 hb;obtain⟨e,xs,h⟩:=ht n hn;exact⟨n,hn,e,xs,h,hb⟩
 obtain⟨h2,l2⟩:=h1.world (w':=w') (λb hb=>hmem b (h.mem.old b hb) λhbn=>by
  obtain⟨n,_,e,xs,hn,hbn⟩:=hw b hbn;exact (h.mem.wood n _ b hn rfl hbn).1 hb)
  (λm f b hm ha hb=>by
   obtain⟨_,hm'⟩:=hE m f hm (al f ha);refine hmem b ((h.mem.rep m f hm').top_lt ha hb) λhbn=>?_;obtain⟨n,_,e,xs,hn,hbn⟩:=hw b hbn;exact (h.mem.wood n _ b hn rfl hbn).2.1 m f hm' ha hb)
  hos hout htape hsize
  (λb hb hT=>hmem b (Nat.lt_of_lt_of_le hb h.since.size) λhbn=>by
   obtain⟨n,_,e,xs,hn,hbn⟩:=hw b hbn;exact (h.since.born n _ b hn rfl hbn).elim (λk=>by omega) hT)
  (λm f b hm ht' hb=>by
   obtain⟨hmn,hm'⟩:=hE m f hm (tr f ht');refine hmem b (se (h.mem.rep m f hm') ht' hb) λhbn=>?_;obtain⟨n,hnn,e,xs,hn,hbn⟩:=hw b hbn;exact (h.mem.wood n _ b hn rfl hbn).2.2 m f (λe=>hmn (e▸hnn)) hm' ht' hb)
  (λb hb=>by
   by_cases hbn:b∈ns.flatMap g.nest
   · exact hsoft b (.inl hbn)
   · rcases Nat.lt_or_ge b w.heap.size with hl|hl
     · exact (h.since.soft b hb).of_same (hmem b hl hbn)
     · exact hsoft b (.inr hl))
 have hblank:BW w0 T ((ns.map λn=>(n,Entry.gone))++en) g F:=by
  intro b hb;rcases hF b hb with hbn|hbl
  · obtain⟨n,hnn,e,xs,hn,hbn⟩:=hw b hbn;obtain⟨k1,k2,k3⟩:=h.mem.wood n _ b hn rfl hbn;exact⟨k1,λm f hm ha=>k2 m f (hE m f hm (al f ha)).2 ha,λm f hm ht'=>k3 m f (λe=>(hE m f hm (tr f ht')).1 (e▸hnn)) (hE m f hm (tr f ht')).2 ht',h.since.born n _ b hn rfl hbn⟩
  · exact⟨λhI=>by have:=h.mem.old b hI;omega,λm f hm ha ht'=>by have:=(h.mem.rep m f (hE m f hm (al f ha)).2).top_lt ha ht';omega,
     λm f hm ht' hbm=>by have:=se (h.mem.rep m f (hE m f hm (tr f ht')).2) ht' hbm;omega,.inl (Nat.le_trans h.since.size hbl)⟩
 obtain⟨g',h3,l3,_,_⟩:=Cs.held_put h2 hr hn hblank (hslot _ λn hn=>Ax hn _) (by
  have:p6 (c.held xs y)=true:=by
   have key:∀{l:List (an×Entry)},(l.map (·.1)).Nodup->p6 l=true:=by
    intro l
    induction l with
    | nil=>intro _;rfl
    | cons p l ih =>
     intro hl;obtain⟨n,e⟩:=p;obtain⟨k1,k2⟩:=nodup_cons.1 hl;simp only[p6];have:(l.any λp=>Nat.beq p.1 n)=false:=by
      rw[List.any_eq_false];intro p hp he;exact k1 (mem_map.2 ⟨p,hp,Nat.eq_of_beq_eq_true he⟩)
     rw[this];exact ih k2
   exact key (by rw[hns];exact hd)
  exact this)
 have hc:∀m,oS (c.held xs y++((ns.map λn=>(n,Entry.gone))++en)) m=oS (c.held xs y++en) m:=by
  intro m;by_cases hm:m∈(c.held xs y).map (·.1)
  · rw[rz hm,rz hm]
  · rw[pD hm,pD hm,Ay (by rw[←hns];exact hm)]
 refine⟨g',h3.congr hc,?_⟩;rw[←rG hc];exact (l1.trans l2).trans l3

theorem pb.set2 {α:Type} {n:Nat} {R:α->List Value->List Nat->Prop}:∀{xs:List α} {vs:List Value} {F:List Nat} {i:Nat} {x:α},pb n R xs vs F->xs[i]?=some x ->
 ∃G1 Gi G2,F=G1++Gi++G2/\R x ((vs.drop (i*n)).take n) Gi/\∀(R':α->List Value->List Nat->Prop) y Gj,(∀x v G,(∀b∈G,b∈G1++G2)->R x v G->R' x v G)->R' y ((vs.drop (i*n)).take n) Gj->pb n R' (xs.set i y) vs (G1++Gj++G2)
 | [],_,_,i,x,_,hx=>by simp at hx
 | z::xs,_,_,0,x,h,hx=>by
  obtain⟨v1,v2,F1,F2,rfl,h1,rfl,hr,h⟩:=h;obtain rfl:z=x:=by simpa using hx
  subst h1;have e:((v1++v2).drop (0*v1.length)).take v1.length=v1:=by simp
  rw[e];refine⟨[],F1,F2,rfl,hr,λR' y Gj hi hy=>?_⟩;exact⟨v1,v2,Gj,F2,rfl,rfl,by simp,hy,h.imp λx v G _ hG hr=>hi x v G (by simpa using hG) hr⟩
 | z::xs,_,_,i+1,x,h,hx=>by
  obtain⟨v1,v2,F1,F2,rfl,h1,rfl,hr,h⟩:=h;obtain⟨G1,Gi,G2,rfl,k1,k2⟩:=h.set2 (i:=i) (x:=x) (by simpa using hx);have e:((v1++v2).drop ((i+1)*n)).take n=(v2.drop (i*n)).take n:=by
   rw[List.drop_append,List.drop_of_length_le (by rw[h1,Nat.add_mul];omega),List.nil_append]
   congr 2
   rw[h1,Nat.add_mul];omega
  rw[e];refine⟨F1++G1,Gi,G2,by simp,k1,λR' y Gj hi hy=>?_⟩;exact⟨v1,v2,F1,G1++Gj++G2,rfl,h1,by simp,hi z v1 F1 (λb hb=>by simp[hb]) hr,k2 R' y Gj (λx v G hG hr=>hi x v G (λb hb=>by
   have:=hG b hb;simp only[mem_append]at this ⊢;rcases this with h|h<;>simp[h]) hr) hy⟩
theorem Cs.slice_focus {e:Cs}:∀{f:Cs} {j:Nat} {x:f.den} {us:List Value} {G:List Nat} {ys:List e.den},Cs.Rep w f x us G->Cs.slice e f j x=some ys ->
 ∃v H1 H H2,us[j]?=some v/\f.slAt j=true/\G=H1++H++H2/\CT.Rep w (.sl e) ys v H /\
  ∀(w':World) (zs:List e.den) (H':List Nat) (x':f.den),(∀b∈H1++H2,w'.heap[b]?=w.heap[b]?)->CT.Rep w' (.sl e) zs v H'->Cs.setSlice e f j x zs=some x'->Cs.Rep w' f x' us (H1++H'++H2)
 | .one (.sl e'),0,x,us,G,ys,h,hs=>by
  simp only[Cs.Rep]at h;obtain⟨v,rfl,h⟩:=h;simp only[Cs.slice]at hs;split at hs
  · rename_i hh _;subst hh;cases hs;refine⟨v,[],G,[],rfl,rfl,by simp,h,λw' zs H' x' _ hz hx=>?_⟩;simp only[Cs.setSlice]at hx;split at hx
    · cases hx;simp only[Cs.Rep];exact⟨v,rfl,by rw[Bk];simpa using hz⟩
    · cases hx
  · cases hs
 | .cons (.sl e') r,0,x,us,G,ys,h,hs=>by
  simp only[Cs.Rep]at h;obtain⟨v,vs',F1,F2,rfl,rfl,h1,h2⟩:=h;simp only[Cs.slice]at hs;split at hs
  · rename_i hh _;subst hh;cases hs;refine⟨v,[],F1,F2,rfl,rfl,by simp,h1,λw' zs H' x' hb hz hx=>?_⟩;simp only[Cs.setSlice]at hx;split at hx
    · cases hx;simp only[Cs.Rep];exact⟨v,vs',H',F2,rfl,by simp,by rw[Bk];exact hz,Cs.Rep.of_same (λb hb'=>hb b (by simpa using hb')) h2⟩
    · cases hx
  · cases hs
 | .cons c r,j+1,x,us,G,ys,h,hs=>by
  simp only[Cs.Rep]at h;obtain⟨v,vs',F1,F2,rfl,rfl,h1,h2⟩:=h;have hs:Cs.slice e r j x.2=some ys:=by simpa only[Cs.slice]using hs
  obtain⟨u,H1,H,H2,k1,k2,rfl,k3,k4⟩:=Cs.slice_focus (f:=r) h2 hs;refine⟨u,F1++H1,H,H2,by simpa using k1,by simpa[Cs.slAt]using k2,by simp,k3,λw' zs H' x' hb hz hx=>?_⟩;cases hx':Cs.setSlice e r j x.2 zs with
  | none=>simp only[Cs.setSlice,hx']at hx;cases hx
  | some y =>
   simp only[Cs.setSlice,hx']at hx;cases hx;simp only[Cs.Rep];exact⟨v,vs',F1,H1++H'++H2,rfl,by simp,CT.Rep.of_same (λb hb'=>hb b (by simp[hb'])) h1,k4 w' zs H' y (λb hb'=>hb b (by
    simp only[mem_append]at hb' ⊢;rcases hb' with h|h<;>simp[h])) hz hx'⟩
 | .one (.int _),_,_,_,_,_,_,hs=>by simp[Cs.slice]at hs
 | .one .bool,_,_,_,_,_,_,hs=>by simp[Cs.slice]at hs
 | .one .str,_,_,_,_,_,_,hs=>by simp[Cs.slice]at hs
 | .one .err,_,_,_,_,_,_,hs=>by simp[Cs.slice]at hs
 | .one (.sl _),_+1,_,_,_,_,_,hs=>by simp[Cs.slice]at hs
 | .cons (.int _) _,0,_,_,_,_,_,hs=>by simp[Cs.slice]at hs
 | .cons .bool _,0,_,_,_,_,_,hs=>by simp[Cs.slice]at hs
 | .cons .str _,0,_,_,_,_,_,hs=>by simp[Cs.slice]at hs
 | .cons .err _,0,_,_,_,_,_,hs=>by simp[Cs.slice]at hs
theorem Dp {e:Cs} {xs:List e.den} {v:Value} {F:List Nat} (h:CT.Rep w (.sl e) xs v F):∃rows,rM w e xs v F rows:=by
 simp only[CT.Rep]at h;rcases h with h|⟨b,off,cap,vs,F',h1,h2,h3,h4,h5,h6⟩
 · exact⟨[],.inl h⟩
 · exact⟨vs,.inr ⟨b,off,cap,vs,F',h1,h2,h3,h4,h5,h6,λ_ _ _ _=>rfl⟩⟩

theorem Dq {f:FuncId} {M:sY} (hM:r7 P f M) (h:MS w0 T N en g w) {args:List AV} {vals:List Value} (ha:p5 (pp (dom en) g w) args vals) {e:pA} {L:List an} (hr:(vH M args).Runs (oS en) e L) :
 Calls P f vals.toArray w fun
  | .returned v,w'=>∃g',MS w0 T N (e.ents++en) g' w'/\Le (dom en) g w (dom (e.ents++en)) g' w'/\pp (dom (e.ents++en)) g' w' e.val v
  | _,_=>False:=by
 unfold vH at hr;split at hr
 · rename_i r i j n
   match vals,ha with
   | [v,u],ha =>
   obtain⟨hv,hu,_⟩:=ha;have hu:u=.int .i64 n:=hu
   subst hu;split at hr
   · rename_i el den;obtain⟨L',_,hr⟩:=hr;dsimp only at hr;split at hr
     · rename_i fc xs hn;obtain⟨x,hx,hr⟩:=hr;obtain⟨ys,hys,hr⟩:=hr;obtain⟨z,hz,hr⟩:=hr;obtain⟨x',hx',hr⟩:=hr;obtain⟨rfl,_⟩:=hr;obtain⟨hd,hrow,hone⟩:=hv;obtain⟨he,htr,hnd⟩:=h.mem.rep r _ hn;have hi:i<xs.length:=(List.getElem?_eq_some_iff.1 hx).1
       rcases htr with ⟨_,rfl,_⟩|⟨b,off,cap,vs,F0,e1,e2,e3,e4,e5,e6,e7⟩
       · simp at hi
       · obtain⟨G1,Gi,G2,hF,hri,hset⟩:=e6.set2 hx;obtain⟨v1,H1,H,H2,k1,k2,rfl,k3,k4⟩:=Cs.slice_focus hri hys;have hjl:=Cs.slAt_lt k2
         have hv1:v1=v:=by
          rw[List.getElem?_take_of_lt hjl,List.getElem?_drop,e7 i j hi k2]at k1;rw[he]at hrow;rw[k1]at hrow;exact Option.some.inj hrow
         subst hv1;obtain⟨rows,hrows⟩:=Dp k3;have hHn:∀c∈H,c∈g.nest r:=λc hc=>by rw[e2,hF];simp[hc]
         have hF0:F0.Nodup/\b∉F0:=by have:=hnd;rw[e2]at this;exact⟨(nodup_cons.1 this).2,(nodup_cons.1 this).1⟩
         have hHnd:H.Nodup:=by
          have:=hF0.1;rw[hF]at this;have h1:=(nodup_append.1 (nodup_append.1 this).1).2.1
          exact (nodup_append.1 (nodup_append.1 h1).1).2.1
         have hsoft:∀c∈H,soft w c:=λc hc=>h.since.soft c (h.since.born r _ c hn rfl (hHn c hc));refine Calls.mono (hM.2 w v1 [v1] ys z.1 H [rows] n z.2 (.inl ⟨rfl,rfl⟩) ⟨v1,rfl,rows,rfl,hrows⟩ hHnd hsoft hz) λen' w' hpost=>?_;cases en' with
         | panicked _=>exact hpost.elim
         | outgrown=>exact hpost.elim
         | returned rv =>
          obtain⟨rfl,⟨H',⟨v2,hv2,rows',hrw',ht'⟩,hnd',hsub'⟩,hsf,hos,hout,htape,hsize,hmem⟩:=hpost;cases hv2;have hdis:∀c,c∈G1++(H1++H2)++G2->c∉H:=by
           intro c hc hcH;have:=hF0.1
           rw[hF]at this;have:=(pY.2 this) c
           have h1:=count_pos_iff.2 hcH;simp only[mem_append]at hc;simp only[rH]at this;rcases hc with (hc|hc|hc)|hc<;>(have h2:=count_pos_iff.2 hc;omega)
          have hltF:∀c∈F0,c<w.heap.size:=λc hc=>se (h.mem.rep r _ hn) rfl (by rw[e2];simp[hc]);have hbl:b<w.heap.size:=se (h.mem.rep r _ hn) rfl (by rw[e2];simp)
          have hbH:b∉H:=λhc=>hF0.2 (by rw[hF];simp[hc]);have hsame:∀c,c∈G1++(H1++H2)++G2->w'.heap[c]?=w.heap[c]?:=λc hc=>hmem c (hltF c (by
           rw[hF];simp only[mem_append]at hc ⊢;rcases hc with (hc|hc|hc)|hc<;>simp[hc])) (hdis c hc)
          have hx2:=k4 w' z.1 H' x' (λc hc=>hsame c (by simp only[mem_append]at hc ⊢;rcases hc with hc|hc<;>simp[hc])) ht'.slRep hx';have hL:=hset (Cs.Rep w' fc) x' (H1++H'++H2) (λy u G hG hy=>Cs.Rep.of_same (λc hc=>hsame c (by have:=hG c hc;simp only[mem_append]at this ⊢;rcases this with h|h<;>simp[h])) hy) hx2
          have hcnt:(G1++(H1++H'++H2)++G2).Nodup:=by
           rw[←pY];intro c;have h0:=(pY.2 hF0.1) c
           rw[hF]at h0;have h1:=(pY.2 hnd') c
           simp only[rH]at h0 ⊢;by_cases hc:c∈H'
           · rcases hsub' c hc with hcH|hcl
             · have:=count_pos_iff.2 hcH;omega
             · have hz:∀l:List Nat,(∀d∈l,d∈F0)->l.count c=0:=λl hl=>List.count_eq_zero.2 λhm=>by have:=hltF c (hl c hm);omega
               rw[hz G1 (λd hd=>by rw[hF];simp[hd]),hz H1 (λd hd=>by rw[hF];simp[hd]),hz H2 (λd hd=>by rw[hF];simp[hd]),hz G2 (λd hd=>by rw[hF];simp[hd])];omega
           · rw[List.count_eq_zero.2 hc];omega
          have hmemF:∀c∈G1++(H1++H'++H2)++G2,c∈F0\/w.heap.size<=c:=by
           intro c hc;simp only[mem_append]at hc;rcases hc with (hc | (hc|hc)|hc)|hc
           · exact .inl (by rw[hF];simp[hc])
           · exact .inl (by rw[hF];simp[hc])
           · rcases hsub' c hc with h|h
             · exact .inl (by rw[hF];simp[h])
             · exact .inr h
           · exact .inl (by rw[hF];simp[hc])
           · exact .inl (by rw[hF];simp[hc])
          obtain⟨hM2,hle2⟩:=h.retree (w':=w') (ys:=xs.set i x') (F:=b::(G1++(H1++H'++H2)++G2)) hn hos hout htape hsize
           (λc hc hcn=>hmem c hc λhcH=>hcn (hHn c hcH))
           (λc hc=>by
            by_cases hcH:c∈H
            · exact hsf c (.inl hcH)
            · rcases hc with hc|hc
              · have hlt:=se (h.mem.rep r _ hn) rfl hc;exact (h.since.soft c (h.since.born r _ c hn rfl hc)).of_same (hmem c hlt hcH)
              · exact hsf c (.inr hc))
           (.inr ⟨b,off,cap,vs,_,by simpa using e1,rfl,by simpa using e3,e4.of_same (hmem b hbl hbH),e5.of_same (hmem b hbl hbH),hL,by simpa using e7⟩)
           (nodup_cons.2 ⟨λhm=>(hmemF b hm).elim hF0.2 λh=>by omega,hcnt⟩)
           (λc hc=>by
            rcases mem_cons.1 hc with rfl|hc
            · exact .inl (by rw[e2];simp)
            · exact (hmemF c hc).imp (λh=>by rw[e2];simp[h]) id)
          exact⟨_,hM2,hle2,rfl⟩
     · exact hr.elim
   · exact hr.elim
 · rename_i v n _
   match vals,ha with
   | [u,u'],ha =>
   obtain⟨hv,hu,_⟩:=ha;have hu:u'=.int .i64 n:=hu
   subst hu;obtain⟨_,L1,L2,_,h0,hr⟩:=Rd.runs_bind hr;obtain⟨x,L3,L4,_,h1,hr⟩:=Rd.runs_bind hr;obtain⟨z,hz,hr⟩:=hr;obtain⟨_,L5,L6,_,h2,hr⟩:=Rd.runs_bind hr;obtain⟨rfl,_⟩:=hr;obtain⟨us,hag,hcs⟩:=Av hv (Rd.runs_need h0).1;obtain⟨ns,k1,k2,k3,k4⟩:=Cs.hold_sound h.mem hcs h1;have hnd:ns.Nodup:=by rw[←k2 z.1];exact uV (Rd.runs_need h2).1
   have hw:=xY h.mem hnd k3;have hsoft:∀b∈ns.flatMap g.nest,soft w b:=λb hb=>by
    obtain⟨m,hm,hb⟩:=mem_flatMap.1 hb;obtain⟨e,ys,hf⟩:=k3 m hm;exact h.since.soft b (h.since.born m _ b hf rfl hb)
   refine Calls.mono (hM.2 w u us x z.1 _ _ n z.2 hag k1 hw hsoft hz) λen' w' hpost=>?_;cases en' with
   | panicked _=>exact hpost.elim
   | outgrown=>exact hpost.elim
   | returned rv =>
    obtain⟨rfl,⟨F',ht',hnd',hsub'⟩,hsf,hos,hout,htape,hsize,hmem⟩:=hpost;obtain⟨g',h3,l3⟩:=h.retrees (k2 z.1) hnd k3 k4 ht' hnd' hsub' hsf hos hout htape hsize hmem;exact⟨g',h3,l3,rfl⟩
 · exact hr.elim
theorem Dr {f:FuncId} {F:Fn} (hM:Cv P f F) (h:MS w0 T N en g w) {args:List AV} {vals:List Value} (ha:p5 (pp (dom en) g w) args vals) {e:pA} {L:List an} (hr:(vO uid F args).Runs (oS en) e L) :
 Calls P f vals.toArray w fun
  | .returned v,w'=>∃g',MS w0 T N (e.ents++en) g' w'/\Le (dom en) g w (dom (e.ents++en)) g' w'/\pp (dom (e.ents++en)) g' w' e.val v
  | _,_=>False:=by
 unfold vO at hr;cases hk:(ql F.ps&&xj F.rs)with
 | false=>rw[hk]at hr;exact hr.elim
 | true =>
  rw[hk]at hr;simp only[aT]at hk;obtain⟨x,L1,L2,_,h1,hr⟩:=Rd.runs_bind hr;obtain⟨r,hden,hr⟩:=hr;obtain⟨rfl,hdist,hnew⟩:=rF hr;have hdist:p6 (pw (oZ uid F.ps F.rs [] r).news)=true:=hdist
  rw[xv (s0 _)]at hdist;obtain⟨c1,c2⟩:=zF F.ps F.rs uid r hk.1 hk.2;refine Calls.mono (hM.2 w uid x vals r (zD h.mem ha h1) hden hdist) λen' w' hpost=>?_;cases en' with
  | panicked _=>exact hpost.elim
  | outgrown=>exact hpost.elim
  | returned rv =>
   obtain⟨g',T',N',t1,t2,hM',hv⟩:=hpost;obtain⟨g'',k1,k2,k3⟩:=h.adopt hM' t1 t2 (λn e hn=>c2 (n,e) (pG hn)) (λn hn=>by
    have hm:n∈(pw (oZ uid F.ps F.rs [] r).news).map (·.1):=by rw[s0];exact rj.2 hn
    obtain⟨p,hp,rfl⟩:=mem_map.1 hm;exact hnew p hp)
   have e0:pw (oZ uid F.ps F.rs [] r).news++[]++en=pw (oZ uid F.ps F.rs [] r).news++en:=by rw[append_nil]
   have hval:(match (oZ uid F.ps F.rs [] r).vals with | [v]=>v|vs=>AV.tup vs)=u7 (oZ uid F.ps F.rs [] r).vals:=rfl;show ∃g',MS w0 T N (pw (oZ uid F.ps F.rs [] r).news++[]++en) g' w'/\Le (dom en) g w (dom (pw (oZ uid F.ps F.rs [] r).news++[]++en)) g' w'/\pp (dom (pw (oZ uid F.ps F.rs [] r).news++[]++en)) g' w' _ rv
   rw[e0];refine⟨g'',k1,k2,?_⟩;show pp _ g'' w' (u7 (oZ uid F.ps F.rs [] r).vals) rv
   exact Fr (λn hn=>⟨tB (by
    rw[sG,s0];exact rj.2 hn),k3 n hn⟩) c1 hv
end Go.V
namespace Go.V
variable {P:Program} {w0:World} {T N:Nat->Prop} {g:Gh} {w:World} {en:List (an×Entry)}

theorem Rd.bind_runs {α β:Type} {F:an->Option Entry} {f:α->Rd β} {a:α} {b:β}:∀{x:Rd α} {L1 L2:List an},x.Runs F a L1->(f a).Runs F b L2->(x.bind f).Runs F b (L1++L2)
 | .ret a',L1,L2,⟨h1,h2⟩,k=>by subst h1;subst h2;exact k
 | .fail,_,_,h,_=>h.elim
 | .get n g,L1,L2,⟨L',h1,h2⟩,k=>by subst h1;exact⟨L'++L2,rfl,Rd.bind_runs h2 k⟩
 | .opt o g,L1,L2,⟨b',h1,h2⟩,k=>⟨b',h1,Rd.bind_runs h2 k⟩
theorem MS.shutTrees (h:MS w0 T N en g w):∀{olds:List (an×Entry)},(∀p∈olds,∃e xs,oS en p.1=some (.tree e xs)/\p.2=.fwd e xs)->p6 olds=true ->
 ∃g',MS w0 T N (olds++en) g' w/\Le (dom en) g w (dom (olds++en)) g' w
 | [],_,_=>⟨g,h,Le.refl _ _ _⟩
 | (n,E)::olds,hu,hd=>by
  obtain⟨h1,h2⟩:=qg hd;obtain⟨g1,hM,hle⟩:=h.shutTrees (olds:=olds) (λp hp=>hu p (mem_cons_of_mem _ hp)) h2;obtain⟨e,xs,hn,he⟩:=hu (n,E) mem_cons_self;obtain rfl:E=.fwd e xs:=he;obtain⟨g2,hM2,hle2,_⟩:=hM.shutTree (n:=n) ((pD h1).trans hn);exact⟨g2,hM2,hle.trans hle2⟩
theorem Az {olds:List (an×Entry)} (hu:∀p∈olds,∃e xs,oS en p.1=some (.tree e xs)/\p.2=.fwd e xs) {c:CT} {x:Cell} {y:c.den} {L:List an} (hc:∀r,x=.own r->r∈olds.map (·.1)) (hr:(c.lend x).Runs (oS en) y L) :
 (∃L',(c.into false true x).Runs (oS (olds++en)) (y,[]) L')/\∃L',(c.read x).Runs (oS (olds++en)) y L':=by
 have flat:c.isSl=false->(∃L',(c.read x).Runs (oS (olds++en)) y L')->(∃L',(c.into false true x).Runs (oS (olds++en)) (y,[]) L')/\∃L',(c.read x).Runs (oS (olds++en)) y L':=λhs h=>by
  refine⟨?_,h⟩;obtain⟨L',h⟩:=h;refine⟨L'++[],?_⟩;cases c with
  | sl e=>simp[CT.isSl]at hs
  | int=>exact Rd.bind_runs h ⟨rfl,rfl⟩
  | bool=>exact Rd.bind_runs h ⟨rfl,rfl⟩
  | str=>exact Rd.bind_runs h ⟨rfl,rfl⟩
  | err=>exact Rd.bind_runs h ⟨rfl,rfl⟩
 cases c with
 | sl e =>
  replace hr:(Ad e x).Runs (oS en) y L:=hr;cases x<;>try exact hr.elim
  case sh f ys =>
   simp only[Ad]at hr;split at hr
   · rename_i hfe hse;subst hfe;obtain⟨rfl,_⟩:=hr;refine⟨⟨[],?_⟩,[],?_⟩
     · show (wn _ (.sh _ _)).Runs _ _ _;simp only[wn];rw[hse];exact⟨rfl,rfl⟩
     · show (uZ _ (.sh _ _)).Runs _ _ _;simp only[uZ];rw[hse];exact⟨rfl,rfl⟩
   · exact hr.elim
  case nil =>
   obtain⟨rfl,_⟩:=hr;exact⟨⟨[],rfl,rfl⟩,[],rfl,rfl⟩
  case own r =>
   obtain⟨L',_,hr⟩:=hr;dsimp only at hr;split at hr
   · rename_i f ys hn;split at hr
     · rename_i hfe hse;subst hfe;obtain⟨rfl,_⟩:=hr;have hm:=hc r rfl
       obtain⟨E,hE,hEm⟩:∃E,oS (olds++en) r=some E/\(r,E)∈olds:=by
        rw[rz hm];cases hf:oS olds r with
        | none=>exact absurd hf (rj.1 hm)
        | some E=>exact⟨E,rfl,pG hf⟩
       obtain⟨e',xs',k1,k2⟩:=hu _ hEm;have k2:E=.fwd e' xs':=k2
       have k1:oS en r=some (.tree e' xs'):=k1;rw[hn]at k1;cases k1;subst k2;refine⟨⟨[r],?_⟩,[r],?_⟩
       · show (wn _ (.own r)).Runs _ _ _;refine⟨[],rfl,?_⟩;rw[hE];simp only;rw[hse];exact⟨rfl,rfl⟩
       · show (uZ _ (.own r)).Runs _ _ _;refine⟨[],rfl,?_⟩;rw[hE];simp only;rw[hse];exact⟨rfl,rfl⟩
     · exact hr.elim
   · exact hr.elim
 | int k =>
  refine flat rfl ⟨[],?_⟩;cases x<;>try exact hr.elim
  rename_i j n;replace hr:(CT.read (.int k) (.int j n)).Runs (oS en) y L:=hr;simp only[CT.read]at hr ⊢;cases hk:Nat.beq (pP j) (pP k)with
  | false=>rw[hk]at hr;exact hr.elim
  | true=>rw[hk]at hr;obtain⟨rfl,_⟩:=hr;exact⟨rfl,rfl⟩
 | bool =>
  refine flat rfl ⟨[], ?_⟩;cases x<;>try exact hr.elim
  obtain⟨rfl,_⟩:=hr;exact⟨rfl,rfl⟩
 | str =>
  refine flat rfl ⟨[], ?_⟩;cases x<;>try exact hr.elim
  obtain⟨rfl,_⟩:=hr;exact⟨rfl,rfl⟩
 | err =>
  refine flat rfl ⟨[], ?_⟩;cases x<;>try exact hr.elim
  obtain⟨rfl,_⟩:=hr;exact⟨rfl,rfl⟩
theorem zG {olds:List (an×Entry)} (hu:∀p∈olds,∃e xs,oS en p.1=some (.tree e xs)/\p.2=.fwd e xs):∀{c:Cs} {xs:List Cell} {y:c.den} {L:List an},(∀r,Cell.own r∈xs->r∈olds.map (·.1))->(c.lend xs).Runs (oS en) y L ->
 (∃L',(c.into false true xs).Runs (oS (olds++en)) (y,[]) L')/\∃L',(c.read xs).Runs (oS (olds++en)) y L'
 | .one c,[x],y,L,hc,hr=>Az hu (λr hx=>hc r (by rw[hx];simp)) hr
 | .cons c r,x::xs,y,L,hc,hr=>by
  simp only[Cs.lend]at hr;obtain⟨a,L1,L2,_,h1,hr⟩:=Rd.runs_bind hr;obtain⟨b,L3,L4,_,h2,hr⟩:=Rd.runs_bind hr;obtain⟨rfl,_⟩:=hr;obtain⟨⟨M1,k1⟩,M2,k2⟩:=Az hu (λr hx=>hc r (by rw[hx];simp)) h1;obtain⟨⟨M3,k3⟩,M4,k4⟩:=zG hu (c:=r) (λr hx=>hc r (mem_cons_of_mem _ hx)) h2;exact⟨⟨_,Rd.bind_runs k1 (Rd.bind_runs k3 ⟨rfl,rfl⟩)⟩,_,Rd.bind_runs k2 (Rd.bind_runs k4 ⟨rfl,rfl⟩)⟩
 | .one _,[],_,_,_,hr=>hr.elim
 | .one _,_::_::_,_,_,_,hr=>hr.elim
 | .cons _ _,[],_,_,_,hr=>hr.elim
theorem AA {olds:List (an×Entry)} (hu:∀p∈olds,∃e xs,oS en p.1=some (.tree e xs)/\p.2=.fwd e xs) (sl:Bool):∀{ps:List pF} {args:List AV} {x:oW (pf ps)} {L:List an},(∀r,Cell.own r∈args.flatMap AV.cells->r∈olds.map (·.1))->(xO ps args).Runs (oS en) x L ->
 ∃b L',(pX sl ps args).Runs (oS (olds++en)) b L'/\b.args=x/\b.used=[]/\b.ptrs=[]
 | [],[],x,L,_,hr=>⟨_,_,⟨rfl,rfl⟩,rfl,rfl,rfl⟩
 | .val agg c false::ps,v::args,x,L,hc,hr=>by
  simp only[xO]at hr;obtain⟨u,L5,L6,_,h0,hr⟩:=Rd.runs_bind hr;obtain⟨y,L1,L2,_,h1,hr⟩:=Rd.runs_bind hr;obtain⟨z,L3,L4,_,h2,hr⟩:=Rd.runs_bind hr;obtain⟨rfl,_⟩:=hr;obtain⟨⟨M1,k1⟩,M2,k2⟩:=zG hu (c:=c) (xs:=v.cells) (λr hx=>hc r (by rw[flatMap_cons];exact mem_append_left _ hx)) h1;obtain⟨b,M3,k3,e1,e2,e3⟩:=AA hu sl (ps:=ps) (args:=args) (λr hx=>hc r (by rw[flatMap_cons];exact mem_append_right _ hx)) h2;have hok:=(Rd.runs_need h0).1
  have hn:(Rd.need (tn agg v)).Runs (oS (olds++en)) () []:=by rw[hok];exact⟨rfl,rfl⟩
  cases sl with
  | true=>exact⟨_,_,Rd.bind_runs hn (Rd.bind_runs k1 (Rd.bind_runs k3 ⟨rfl,rfl⟩)),by rw[e1],by rw[e2];rfl,e3⟩
  | false=>exact⟨_,_,Rd.bind_runs hn (Rd.bind_runs (Rd.bind_runs k2 ⟨rfl,rfl⟩) (Rd.bind_runs k3 ⟨rfl,rfl⟩)),by rw[e1],by rw[e2];rfl,e3⟩
 | [],_::_,_,_,_,hr=>hr.elim
 | .val _ _ false::_,[],_,_,_,hr=>hr.elim
 | .val _ _ true::_,_,_,_,_,hr=>by cases ‹List AV› <;> exact hr.elim
 | .ptr _ _::_,_,_,_,_,hr=>by cases ‹List AV› <;> exact hr.elim
theorem Ds {f:FuncId} {F:Fn} (hM:vC P f F) (h:MS w0 T N en g w) {args:List AV} {vals:List Value} (ha:p5 (pp (dom en) g w) args vals) {uid:an} {e:pA} {L:List an} (hr:(vP uid F args).Runs (oS en) e L) :
 Calls P f vals.toArray w fun
  | .returned v,w'=>∃g',MS w0 T N (e.ents++en) g' w'/\Le (dom en) g w (dom (e.ents++en)) g' w'/\pp (dom (e.ents++en)) g' w' e.val v
  | _,_=>False:=by
 unfold vP at hr;cases hk:(ql F.ps&&HT F.rs)with
 | false=>rw[hk]at hr;exact hr.elim
 | true =>
  rw[hk]at hr;obtain⟨x,L1,L2,_,h1,hr⟩:=Rd.runs_bind hr;obtain⟨olds,L3,L4,_,h2,hr⟩:=Rd.runs_bind hr;obtain⟨_,L5,L6,_,h3,hr⟩:=Rd.runs_bind hr;obtain⟨r,hden,hr⟩:=hr;obtain⟨rfl,hdist,hnew⟩:=rF hr;have hdo:=(Rd.runs_need h3).1
  obtain⟨hu,hc⟩:=vB h2;obtain⟨g1,hM1,hle1⟩:=h.shutTrees hu hdo;obtain⟨b,M1,k1,e1,e2,e3⟩:=AA hu (rJ F.ps F.rs) hc h1;have hro:∀n∈b.ro,oS b.used n=none:=λn _=>by rw[e2];rfl
  have hnew':∀p∈(oZ uid F.ps F.rs b.ptrs r).news,oS (olds++en) p.1=none:=by
   rw[e3];intro p hp;have hp0:=hnew p hp
   rw[pD]
   · exact hp0
   · intro hm;obtain⟨q,hq,he⟩:=mem_map.1 hm;obtain⟨f,ys,hf,_⟩:=hu q hq;rw[he,hp0]at hf;cases hf
  have key:=hM.2 w0 T N (olds++en) g1 w uid args vals b M1 r hM1 (p5.imp (λ_ _=>pp.mono hle1) ha) k1 (by
   rw[e2];simp[p6,oS]) (by rw[e1];exact hden) (by rw[e3];exact hdist) hnew'
  refine key.mono λen' w' hpost=>?_;cases en' with
  | panicked _=>exact hpost.elim
  | outgrown=>exact hpost.elim
  | returned rv =>
   obtain⟨g',k4,k5,k6⟩:=hpost;rw[e3,e2,yo]at k4 k5 k6;simp only[append_nil]at k4 k5 k6;have e0:(oZ uid F.ps F.rs [] r).news++olds++en=(oZ uid F.ps F.rs [] r).news++(olds++en):=append_assoc _ _ _
   show ∃g',MS w0 T N ((oZ uid F.ps F.rs [] r).news++olds++en) g' w'/\Le (dom en) g w (dom ((oZ uid F.ps F.rs [] r).news++olds++en)) g' w'/\pp (dom ((oZ uid F.ps F.rs [] r).news++olds++en)) g' w' _ rv;rw[e0];exact⟨g',k4,hle1.trans k5,k6⟩
end Go.V
namespace Go.V
variable {P:Program} {w0:World} {T N:Nat->Prop} {S:St} {g:Gh} {w w':World} {a:Act} {o:Oper} {G:qd} {uid rid:Nat} {en:List (an×Entry)} {Q:Exit->Act->World->Prop}

theorem yM {f : FuncId} {fn : Func} {c : Code} (hf : P.funcs[f]?=some fn) (hn : (fn.name == "runtime.NumGoroutine")=false) (hb : fn.body=some c) (args : Array Value) : (callFunc f args).run P w=.ok (.enter f args) w := by
 simp only[callFunc,Sem.run_bind,run_program,Result.andThen,hf,hn];simp[hb]
theorem vX (h:pq w0 T N S g w a):∀(xs:List Operand),p5 (pp (dom S.en) g w) (xs.map S.eval) (xs.map a.eval)
 | []=>trivial
 | x::xs=>⟨pC h x,vX h xs⟩
theorem Hr (h:pq w0 T N S g w a) (hG:rp P G) {f:Operand} {args:Array Operand} {c:Call} (hc:c.callee=.value f) (hargs:c.args=args) (ho:o.op=.call c) {e:pA} {L:List an}
 (hr:(match S.eval f with
  | .cell (.fn g caps)=>(match oS G.fns g with
   | some F=>cond G.trees (match caps with | []=>vQ uid F (args.toList.map S.eval)|_=>.fail) (xi uid F (args.toList.map S.eval++caps.map λn=>AV.cell (.box n 0)))
   | none=>match oS G.marks g,caps with|some M,[]=>vH M (args.toList.map S.eval)|_,_=>.fail)
  | _=>.fail:Rd pA).Runs (oS S.en) e L) (hd:∀d,o.dst=some d->d<a.tmps.size) {K:Act->World->Prop}
 (hK:∀v w' g',pq w0 T N (S.put o.dst e) g' w' (a.put o.dst v)->Le (dom S.en) g w (dom (e.ents++S.en)) g' w'->K (a.put o.dst v) w'):o.wp P a w K Q:=by
 split at hr
 · rename_i fid caps e1;have hfv:=ut h e1
   obtain⟨cvs,hfv,hcaps⟩:=hfv;have plain : ∀{fn : Func} {cd : Code}, P.funcs[fid]?=some fn->(fn.name == "runtime.NumGoroutine")=false->fn.body=some cd->caps=[] ->
    (Calls P fid (args.toList.map a.eval).toArray w fun
     | .returned v,w'=>∃g',MS w0 T N (e.ents++S.en) g' w'/\Le (dom S.en) g w (dom (e.ents++S.en)) g' w'/\pp (dom (e.ents++S.en)) g' w' e.val v
     | _,_=>False)->o.wp P a w K Q:=by
    intro fn cd hf hn hb hcaps0 hcalls;subst hcaps0;have hcv:cvs.toList=[]:=by
     cases hq:cvs.toList with
     | nil=>rfl
     | cons u l=>rw[hq]at hcaps;exact hcaps.elim
    unfold Oper.wp;have hrun:(execOp a.eval o).run P w=.ok (.enter fid (args.toList.map a.eval).toArray) w:=by
     simp only[execOp,ho,resolve,hc,hargs,hfv,Deferred.ofValue,Sem.run_bind,Sem.run_pure,Result.andThen,invoke];rw[yM hf hn hb]
     congr 2
     apply Array.ext';simp[hcv]
    rw[hrun,Oper.upon_enter];refine Calls.mono hcalls λen' w' he=>?_;cases en' with
    | returned v =>
     obtain⟨g',hM,hle,hv⟩:=he;exact hK v w' g' (h.put hM hle hv hd) hle
    | panicked _=>exact he.elim
    | outgrown=>exact he.elim
   split at hr
   · rename_i F hF;cases ht:G.trees with
     | true =>
      rw[ht]at hr;simp only[cT]at hr;split at hr
      · unfold vQ at hr;cases hk:(ql F.ps&&xj F.rs)with
        | true =>
         rw[hk]at hr;simp only[aT]at hk;have hmt:=hG.tfns ht fid F hF hk.1 hk.2
         obtain⟨fn,cd,hf,hn,hb⟩:=hmt.1;exact plain hf hn hb rfl (Dr hmt h.ms (vX h args.toList) hr)
        | false =>
         rw[hk]at hr;have hmt:=hG.fns fid F hF
         obtain⟨fn,cd,hf,hn,hb⟩:=hmt.1;exact plain hf hn hb rfl (Ds hmt h.ms (vX h args.toList) hr)
      · exact hr.elim
     | false =>
     rw[ht]at hr;simp only[cF]at hr;obtain⟨⟨fn,cd,hf,hn,hb⟩,hmeets⟩:=hG.fns fid F hF;unfold xi at hr;obtain⟨b,L1,L2,_,h1,hr⟩:=Rd.runs_bind hr;obtain⟨_,L3,L4,_,h2,hr⟩:=Rd.runs_bind hr;obtain⟨r,hden,hr⟩:=hr;obtain⟨rfl,hdist,hnew⟩:=rF hr;have hcs:p5 (pp (dom S.en) g w) (caps.map λn=>AV.cell (.box n 0)) cvs.toList:=by
      have key:∀(l:List an) (m:List Value),p5 (λn u=>dom S.en n/\(∃b,g.loc n=.pointer (some ⟨b,0,none⟩))/\u=g.loc n) l m->p5 (pp (dom S.en) g w) (l.map λn=>AV.cell (.box n 0)) m:=by
       intro l
       induction l with
       | nil=>intro m h;cases m with
        | nil=>trivial
        | cons _ _=>exact h.elim
       | cons n l ih=>intro m h;cases m with
        | nil=>exact h.elim
        | cons u m =>
         obtain⟨⟨hdn,⟨b,hb⟩,hu⟩,h'⟩:=h;exact⟨⟨hdn,b,hb,hu.trans hb⟩,ih m h'⟩
      exact key caps _ hcaps
     have hcalls:=hmeets w0 T N S.en g w uid _ _ b L1 r h.ms ((vX h args.toList).append hcs) h1 (Rd.runs_need h2).1 hden hdist hnew;unfold Oper.wp;have hrun:(execOp a.eval o).run P w=.ok (.enter fid (args.toList.map a.eval++cvs.toList).toArray) w:=by
      simp only[execOp,ho,resolve,hc,hargs,hfv,Deferred.ofValue,Sem.run_bind,Sem.run_pure,Result.andThen,invoke];rw[yM hf hn hb]
      congr 2
      apply Array.ext';simp
     rw[hrun,Oper.upon_enter];refine Calls.mono hcalls λen' w' he=>?_;cases en' with
     | returned v =>
      obtain⟨g',hM,hle,hv⟩:=he;exact hK v w' g' (h.put hM hle hv hd) hle
     | panicked _=>exact he.elim
     | outgrown=>exact he.elim
   · split at hr
     · rename_i M hM;have hmk:=hG.marks fid M hM
       obtain⟨fn,cd,hf,hn,hb⟩:=hmk.1;exact plain hf hn hb rfl (Dq hmk h.ms (vX h args.toList) hr)
     · exact hr.elim
 · exact hr.elim
end Go.V
namespace Go.V
variable {P:Program} {w0:World} {T N:Nat->Prop} {S:St} {g:Gh} {w w':World} {a:Act} {o:Oper} {G:qd} {uid rid:Nat} {en:List (an×Entry)} {Q:Exit->Act->World->Prop}

theorem I5 (h:pq w0 T N S g w a) (hG:rp P G) {op:Op} (ho:o.op=op) (hp:∀c x y,op≠.pick c x y) {e:pA} {L:List an} (hr:(re G uid S.eval op).Runs (oS S.en) e L) (hd:∀d,o.dst=some d->d<a.tmps.size) {K:Act->World->Prop}
 (hK:∀v w' g',pq w0 T N (S.put o.dst e) g' w' (a.put o.dst v)->Le (dom S.en) g w (dom (e.ents++S.en)) g' w'->K (a.put o.dst v) w'):o.wp P a w K Q:=by
 have fin:pr P w0 T N S g w a o e->o.wp P a w K Q:=λhf=>DJ h hf hd hK;have hr0:=hr
 unfold re at hr;split at hr
 case h_1=>obtain⟨rfl,_⟩:=hr;exact fin (DB h (.inl ho))
 case h_2=>obtain⟨rfl,_⟩:=hr;exact fin (DB h (.inr ho))
 case h_3=>exact absurd rfl (hp _ _ _)
 case h_4=>exact fin (Gq h hG.tis ho hr0)
 case h_5=>exact fin (HZ h hG.tis ho hr0)
 case h_6=>exact fin (Gr h hG.tis ho hr0)
 case h_7=>exact fin (BO h hG.tis ho hr0)
 case h_8=>exact fin (Hm h hG.tis ho hr0)
 case h_9=>exact fin (Gp h hG.tis ho hr0)
 case h_10=>exact fin (Dd h ho hr0)
 case h_11 =>
  replace hr:=pu hr;obtain⟨i,hi,hr⟩:=hr;exact fin (HX h hG.tis ho hi (λxs ys hx hy e L hr=>I1 h hG.tis hG.eqs ho hi hx hy hr) hr)
 case h_12=>exact fin (HV h ho hr0)
 case h_13=>exact fin (HW h ho hr0)
 case h_14=>exact fin (E8 h hG.tis ho hr0)
 case h_15=>exact fin (Cd h hG.tis ho hr0)
 case h_16=>exact fin (Gm h hG.tis ho hr0)
 case h_17=>exact fin (C8 h hG.tis ho hr0)
 case h_18=>exact fin (C9 h hG.tis ho hr0)
 case h_19=>exact fin (Gl h hG.tis ho hr0)
 case h_20=>exact fin (E1 h ho hr0)
 case h_21=>exact fin (De h ho hr0)
 case h_22 x t =>
  replace hr:=pu hr;obtain⟨i,hi,hr⟩:=hr;cases hk:Ab i (S.eval x)with
  | false=>rw[hk]at hr;exact hr.elim
  | true=>rw[hk]at hr;exact fin (HY h ho hG.tis hi hk hr)
 case h_23=>exact fin (Fc h hG.tis ho hr0)
 case h_24=>exact fin (Bl h .min (.inl rfl) ho hr)
 case h_25=>exact fin (Bl h .max (.inr rfl) ho hr)
 case h_26=>exact Hr h hG rfl rfl ho hr hd hK
 all_goals exact hr.elim
end Go.V
namespace Go.V
variable {P:Program} {w0:World} {T N:Nat->Prop} {S:St} {g:Gh} {w w':World} {a:Act} {o:Oper} {G:qd} {uid rid:Nat} {en:List (an×Entry)} {Q:Exit->Act->World->Prop} {ops:Array Oper}

theorem GC (h:pq w0 T N S g w a) (hG:rp P G) {e:pA} {L:List an} (hr:(v5 G uid S.eval o.op).Runs (oS S.en) e L) (hd:∀d,o.dst=some d->d<a.tmps.size) {K:Act->World->Prop}
 (hK:∀v w' g',pq w0 T N (S.put o.dst e) g' w' (a.put o.dst v)->Le (dom S.en) g w (dom (e.ents++S.en)) g' w'->K (a.put o.dst v) w'):o.wp P a w K Q:=by
 by_cases hp:∃c x y,o.op=.pick c x y
 · obtain⟨c,x,y,hp⟩:=hp;rw[hp]at hr;exact DJ h (Hk h hp hr) hd hK
 · rw[Cn λc x y he=>hp ⟨c,x,y,he⟩]at hr;exact I5 h hG rfl (λc x y he=>hp ⟨c,x,y,he⟩) hr hd hK
theorem yN (h:pq w0 T N S g w a) {j:Nat} {t:Tmp} {b:Bool} (hj:s9 ops.toList j=some t) (ht:S.tmp t=.cell (.bool b)):yielded ops a.tmps j=some b:=by
 have hv:=h.tmps t;rw[ht]at hv;have hv:a.tmps.getD t undef=.bool b:=hv
 unfold s9 at hj;unfold yielded;cases ho:ops[j]? with
 | none=>simp[ho]at hj
 | some p =>
  simp[ho]at hj;simp only[Option.bind_some,hj];have:a.tmps[t]?=some (.bool b):=by
   unfold Array.getD at hv;split at hv
   · rename_i hlt;rw[Array.getElem?_eq_getElem hlt];exact congrArg some hv
   · cases hv
  rw[this]
theorem Cx (h:pq w0 T N S g w a) {j:Nat} {t:Tmp} (hj:s9 ops.toList j=some t) (ht:S.tmp t=.cell .void):yielded ops a.tmps j=none:=by
 have hv:=h.tmps t;rw[ht]at hv;have hv:a.tmps.getD t undef=undef:=hv
 unfold s9 at hj;unfold yielded;cases ho:ops[j]? with
 | none=>simp
 | some p =>
  simp[ho]at hj;simp only[Option.bind_some,hj];cases hq:a.tmps[t]? with
  | none=>rfl
  | some v =>
   have:v=undef:=by
    have hlt:=(Array.getElem?_eq_some_iff.1 hq).1;have he:=(Array.getElem?_eq_some_iff.1 hq).2
    rw[←he];simpa[Array.getD,hlt]using hv
   rw[this];rfl
theorem Hs (h:pq w0 T N S g w a) (hG:rp P G) {i:Nat} {r:tW} (hs:tA G rid ops.toList S i o r) (hi:ops.toList[i]?=some o) (hd:∀d,o.dst=some d->d<a.tmps.size) {K:Act->World->Prop}
 (hK:∀v w' g',pq w0 T N (S.act o r) g' w' (a.put o.dst v)->Le (dom S.en) g w (dom (S.act o r).en) g' w'->K (a.put o.dst v) w'):wpOp P ops Q i K a w:=by
 have hi':ops[i]?=some o:=by simpa using hi
 unfold wpOp;simp only[hi'];cases r with
 | none =>
  obtain⟨j,want,t,hg,hj,ht⟩:=hs;have hw:Region.wanted o (yielded ops a.tmps)=false:=by
   simp only[Region.wanted,hg];rcases ht with ht|ht
   · rw[yN h hj ht];cases want<;>rfl
   · rw[Cx h hj ht];rfl
  rw[hw];simp only[Bool.false_eq_true,if_false];exact hK undef w g (h.put (e:=⟨.cell .void,[]⟩) h.ms (Le.refl _ _ _) rfl hd) (Le.refl _ _ _)
 | some r =>
  obtain⟨e,L⟩:=r;obtain⟨hwn,hr⟩:=hs;have hw:Region.wanted o (yielded ops a.tmps)=true:=by
   unfold Region.wanted;cases hg:o.guard with
   | none=>rfl
   | some q =>
    obtain⟨j,want⟩:=q;obtain⟨t,hj,ht⟩:=hwn j want hg;simp only[yN h hj ht];cases want<;>rfl
  rw[hw];simp only[if_true];exact .inl (GC h hG hr hd hK)
end Go.V
namespace Go.V
variable {P:Program} {w0:World} {T N:Nat->Prop} {S S':St} {g:Gh} {w w':World} {a:Act} {G:qd} {rid:Nat} {Q:Exit->Act->World->Prop} {ops:Array Oper} {B:List Nat}

theorem tE:∀{l:List Oper} {i:Nat} {p:Nat×Oper},p∈qA i l->i<=p.1/\l[p.1-i]?=some p.2
 | [],i,p,h=>by simp[qA]at h
 | o::l,i,p,h=>by
  rw[qA]at h;rcases mem_cons.1 h with rfl|h
  · exact⟨Nat.le_refl _,by simp⟩
  · obtain⟨h1,h2⟩:=tE h;refine⟨by omega,?_⟩;rw[show p.1-i=(p.1-(i+1))+1 by omega];simpa using h2
theorem vY:∀(l:List Oper) (i:Nat),(qA i l).map (·.1)=List.range' i l.length
 | [],i=>rfl
 | o::l,i=>by rw[qA,List.map_cons,vY l (i+1)];rfl
theorem vZ:∀(l:List Oper) (i:Nat),(qA i l).Pairwise λp q=>p.1<q.1
 | [],i=>List.Pairwise.nil
 | o::l,i=>by
  rw[qA];exact pairwise_cons.2 ⟨λq hq=>by have:=(tE hq).1;show i<q.1;omega,vZ l (i+1)⟩
theorem yr:∀{l:List (Nat×Oper)},xQ ops B l=true->l.Pairwise λp q=>qT (qw B q.1) p.1=true\/Oper.apart ops p.2 q.2=true
 | [],h=>List.Pairwise.nil
 | (i,x)::l,h=>by
  simp only[xQ,aT]at h;refine pairwise_cons.2 ⟨λq hq=>?_,yr h.2⟩;simpa using all_eq_true.1 h.1 q hq
def At (w0:World) (T N:Nat->Prop) (nt:Nat) (D0:an->Prop) (g0:Gh) (w1:World) (S:St) (a:Act) (w:World):Prop :=
 ∃g,pq w0 T N S g w a/\nt<=a.tmps.size/\Le D0 g0 w1 (dom S.en) g w
theorem pq.same (h:pq w0 T N S g w a) (hs:rh S S'):pq w0 T N S' g w a:=by
 have hM:=h.ms.congr hs.en;refine⟨hM.mem,hM.since,λt=>?_,h.plain⟩;rw[←hs.tm t,←rG hs.en];exact h.tmps t
theorem GD (a:Act) (d:Option Tmp) (v:Value):(a.put d v).tmps.size=a.tmps.size:=by
 unfold Act.put;cases d<;>simp
theorem At.sound (hG:rp P G) {nt:Nat} (hb:∀(i:Nat) o,ops.toList[i]?=some o->∀d,o.dst=some d->d<nt) {D0:an->Prop} {g0:Gh} {w1:World}:En P G rid ops Q (At w0 T N nt D0 g0 w1):=by
 refine⟨λS S' a w hs ⟨g,h1,h2,h3⟩=>⟨g,h1.same hs,h2,by rw[←rG hs.en];exact h3⟩,λS i o r a w K hst hi ⟨g,h1,h2,h3⟩ hK=>?_⟩;exact Hs h1 hG hst hi (λd hd=>Nat.lt_of_lt_of_le (hb i o hi d hd) h2) λv w' g' hI hle=>hK _ _ ⟨g',hI,by rw[GD];exact h2,h3.trans hle⟩
theorem tA.closed {i:Nat} {o:Oper} {r:tW} {l:List Oper} (h:pI S) (hs:tA G rid l S i o r):pI (S.act o r):=by
 cases r with
 | none=>exact h.put _ (pg.pure (x:=.cell .void) (pj rfl))
 | some r=>exact h.put _ (Co (λx=>h.eval x) h.box hs.2)
theorem pI.same (h:pI S) (hs:rh S S'):pI S':=by
 have hd:=rG hs.en;refine⟨λt=>by rw[←hs.tm t,←hd];exact h.tmp t,λn cs hn c hc=>?_⟩;rw[←hd];exact h.box n cs ((hs.en n).trans hn) c hc
theorem Tr.closed {l:List Oper}:∀{E:List Ev} {S S':St},pI S->Tr G rid l E S S'->pI S'
 | [],S,S',h,k=>h.same k
 | (i,o,r)::E,S,S',h,⟨k1,k2⟩=>Tr.closed (k1.closed h) k2
theorem Tr.dom {l:List Oper}:∀{E:List Ev} {S S':St},Tr G rid l E S S'->∀n,dom S.en n->dom S'.en n
 | [],S,S',k,n,hn=>by rw[←rG (show rh S S' from k).en];exact hn
 | (i,o,r)::E,S,S',⟨k1,k2⟩,n,hn=>by
  refine Tr.dom k2 n ?_;cases r with
  | none=>exact hn
  | some r=>exact rA _ _ n hn
theorem zH {l:List Oper} {o:Oper} {t:Tmp} (h:t∉o.looksAt l.toArray):¬wz l o t:=λk=>h (Cp k)
theorem At.drop {nt:Nat} {D0:an->Prop} {g0:Gh} {w1:World} {Z:List Tmp} {FN:List an} {S1:St} (h:At w0 T N nt D0 g0 w1 S1 a w) (hs:yp Z FN S S1) (hc:pI S) (hd:∀n,D0 n->Go.V.dom S.en n):At w0 T N nt D0 g0 w1 S a w:=by
 obtain⟨g,h1,h2,h3⟩:=h;exact⟨g,h1.drop hs hc,h2,⟨hd,h3.loc,h3.esz,h3.imm,h3.mem,h3.rows⟩⟩

structure u9 (S S':St):Prop where
 en:∃nw,S'.en=nw++S.en
 tm:∃nt,S'.tm=nt++S.tm
theorem Ft {A:Type} (hG:rp P G) (hm:P.follows .mixedOrders=true) {nt:Nat} {draw:Bool} (hb:sa nt (.region rid ops draw)=true) (h:pq w0 T N S g w a) (hn:nt<=a.tmps.size) (hc:pI S) {ann:List (Nat×p3)} {K:wu A} {r:A}
 (hr:s5 G ann (.region rid ops draw) S K=some r)
 (hQ:∀S' a' w',pI S'->u9 S S'->At w0 T N nt (dom S.en) g w S' a' w'->K.n S'=some r->Q .normal a' w'):(Code.region rid ops draw).wp P Q a w:=by
 have hbel:∀(i:Nat) o,ops.toList[i]?=some o->∀d,o.dst=some d->d<nt:=by
  intro i o ho d hd;have:=all_eq_true.1 hb o (List.mem_of_getElem? ho)
  rw[hd]at this;exact Nat.lt_of_lt_of_le (Nat.lt_succ_self d) (Nat.le_of_ble_eq_true this)
 have hs:=At.sound (rid:=rid) (w0:=w0) (T:=T) (N:=N) (Q:=Q) (D0:=dom S.en) (g0:=g) (w1:=w) hG hbel;have hhere:∀{E:List Ev},E.map (λp=>(p.1,p.2.1))=qA 0 ops.toList->∀p∈E,ops.toList[p.1]?=some p.2.1:=by
  intro E hE p hp;have:=tE (td hE hp)
  simpa using this.2
 have hfst:∀{E:List Ev},E.map (λp=>(p.1,p.2.1))=qA 0 ops.toList->E.map (·.1)=List.range ops.size:=by
  intro E hE;rw[show E.map (·.1)=(E.map (λp=>(p.1,p.2.1))).map (·.1) by rw[List.map_map];rfl,hE,vY,←List.range_eq_range'];rfl
 rw[s5]at hr;cases hcase:(draw||ops.toList.any DA)with
 | false =>
  rw[hcase]at hr;simp only[cF]at hr;simp only[Bool.or_eq_false_iff]at hcase;obtain⟨E,S',h1,h2,h3,h4,h5⟩:=Au hr;rw[hcase.1];refine wp_region ?_;rw[←hfst h2];exact xb hs h1 (hhere h2) ⟨g,h,hn,Le.refl _ _ _⟩ λa' w' hR=>hQ S' a' w' (Tr.closed hc h1) ⟨h4,h5⟩ hR h3
 | true =>
  rw[hcase]at hr;simp only[cT]at hr;cases hck:(Nat.blt ops.toList.length 256&&(vR 0 (cond draw (tZ ops.toList []) (Ah ops.toList.length))&&cond draw (C3 ops (tZ ops.toList [])) true))with
  | false=>rw[hck]at hr;cases hr
  | true =>
   rw[hck]at hr;simp only[aT,cT]at hck hr;obtain⟨c1,c2,c3⟩:=hck;have hB:xa ops.toList (cond draw (tZ ops.toList []) (Ah ops.toList.length)):=xa.of (Nat.lt_of_lt_of_le (Nat.lt_succ_self _) (Nat.le_of_ble_eq_true c1)) c2
   have hin:yq rid ops.toList (cond draw (tZ ops.toList []) (Ah ops.toList.length)) [] (qA 0 ops.toList) S S [] [] [] [] :=
    ⟨⟨λt=>.inl rfl,λn _=>rfl,λn hn=>by simp at hn⟩,λt c ht=>by simp[oS]at ht,λp hp=>by simp at hp,λn hn=>by simp at hn,
     λp hp=>by simpa using (tE hp).2,λp hp t ht=>by simp at ht,λp hp=>by simp at hp,vZ _ _,hc⟩
   obtain⟨E,S1',S',acc',Z',FN',nw,k1,k2,k3,⟨k4,k4'⟩,k5,k6,k7,k8,k9,k10,k11,k12⟩:=(Cu hB _ _ _ _ _ _ _ _ _ _ _ _ hr hin).out;have hend:∀a' w',At w0 T N nt (dom S.en) g w S1' a' w'->Q .normal a' w':=λa' w' hR =>
    hQ S' a' w' k4' ⟨⟨nw,k11.1⟩,k11.2⟩ (hR.drop k4 k4' λn hn=>by rw[k11.1];exact rA _ _ n hn) k1
   cases draw with
   | false =>
    refine wp_region ?_;rw[←hfst k3];exact xb hs k2 (hhere k3) ⟨g,h,hn,Le.refl _ _ _⟩ hend
   | true =>
    simp only[cT]at c3 hB k8;simp only[C3,aT]at c3;obtain⟨⟨d1,d2⟩,d3⟩:=c3;refine wp_region_any hm ?_;obtain⟨hM,hle⟩:=h.ms.drew;have hI:pq w0 T N S g w.drew a:=⟨hM.mem,hM.since,λt=>pp.mono hle (h.tmps t),h.plain⟩
    have hlen:E.length=ops.size:=by
     have:=congrArg List.length (hfst k3);simpa using this
    refine Fq hs (B:=tZ ops.toList []) ⟨λi o ho b hb'=>?_,λi o ho e he heb=>?_⟩ hlen k2 ⟨by simp,hhere k3,λi hi=>?_,?_,?_,λi hi hl=>?_⟩ ⟨g,hI,hn,hle⟩ hend
    · exact BA ops.toList [] i o ho b (by simpa using hb')
    · have hmem:(i,o)∈qA 0 ops.toList:=by
       have hi:i∈(qA 0 ops.toList).map (·.1):=by
        rw[vY,←List.range_eq_range'];exact List.mem_range.2 (List.getElem?_eq_some_iff.1 ho).1
       obtain⟨p,hp,rfl⟩:=mem_map.1 hi;have:=(tE hp).2
       rw[Nat.sub_zero,ho]at this;cases this;exact hp
      have:=all_eq_true.1 (all_eq_true.1 d2 _ hmem) e he;rw[heb]at this;simp only[Bool.not_true,Bool.false_or]at this;exact Nat.lt_of_lt_of_le (Nat.lt_succ_self _) (Nat.le_of_ble_eq_true this)
    · have:(Array.replicate ops.size false).getD i true=false:=by simp[Array.getD,hi]
      refine⟨λ_=>?_,λ_=>this⟩;have hi':i∈E.map (·.1):=by rw[hfst k3];exact List.mem_range.2 hi
      obtain⟨p,hp,he⟩:=mem_map.1 hi';exact⟨p,hp,he⟩
    · have:=vZ ops.toList 0;rw[←k3,List.pairwise_map]at this;exact this
    · have hap:=yr d3;rw[←k3,List.pairwise_map]at hap;refine (hap.and k8).imp λ{p q} ⟨h1,h2⟩=>?_;rcases h1 with h1|h1
      · exact .inl h1
      · rcases h2 with h2|h2
        · exact .inl h2
        · obtain⟨e1,e2,e3⟩:=Oper.apart_spec h1;have harr:ops.toList.toArray=ops:=by simp
          exact .inr ⟨λd hd=>zH (by rw[harr];exact e1 d hd),λd hd=>zH (by rw[harr];exact e3 d hd),e2,h2.wr,h2.rw,h2.ww⟩
    · simp[Array.getD,hi]at hl
end Go.V
namespace Go.V

theorem Rd.plain_some {α:Type} {S:an->Option Entry} {a:α}:∀{x:Rd α},x.plain S=some a->∃L,x.Runs S a L
 | .ret b,h=>by simp only[Rd.plain,Option.some.injEq]at h;exact⟨[],h.symm,rfl⟩
 | .fail,h=>by simp[Rd.plain]at h
 | .get n k,h=>by
  simp only[Rd.plain]at h;obtain⟨L,hL⟩:=Rd.plain_some h;exact⟨n::L,L,rfl,hL⟩
 | .opt _ _,h=>by simp[Rd.plain]at h
def xw (S:St) (σ:List (an×Cell)):qb->Cell->Cell->Prop
 | .dat c,x,y=>∃a,c.quiet S.ent x=some a/\y=c.cell a
 | .own n,x,y=>y=.own n/\(n,x)∈σ/\((∃r,x=.own r)\/(∃r lo hi,x=.win r lo hi)\/x=.nil)
 | .same n,x,y=>x=.own n/\y=x
 | .box n o,x,y=>x=.box n o/\y=x
 | .nil,x,y=>x=.nil/\y=x
 | .undef,_,y=>y=.undef
 | .fn f cs,x,y=>x=.fn f cs/\y=x
def uH (S:St) (σ:List (an×Cell)):List qb->List Cell->List Cell->Prop
 | [],[],[]=>True
 | s::l,x::xs,y::ys=>xw S σ s x y/\uH S σ l xs ys
 | _,_,_=>False
variable {S:St} {σ:List (an×Cell)}
theorem tF {α:Type} {z:α} {A:Prop} (h:(none:Option α)=some z):A:=by cases h
theorem BQ {c:CT} {l:List qb} {R:List Cs} {x:Cell} {xs:List Cell} {y:Option (oW R)}:qj S (.dat c::l) R (x::xs) y =
 (match c.quiet S.ent x,qj S l R xs y with|some a,some b=>some (oW.mk (.one c) (qo l R) a b)|_,_=>none):=rfl
theorem wB:∀(l:List qb) (R:List Cs) (xs:List Cell) (y:Option (oW R)) (z:oW (qo l R)),qj S l R xs y=some z->(∀p∈tM l xs,p∈σ) ->
 ∃y',y=some y'/\uH S σ l xs (pH l R z).1/\(pH l R z).2=y':=by
 intro l
 induction l with
 | nil =>
  intro R xs y z h _;cases xs with
  | nil=>exact⟨z,h,trivial,rfl⟩
  | cons _ _=>exact tF (show (none:Option (oW (qo [] R)))=some z from h)
 | cons s l ih =>
  intro R xs y z h hσ;cases xs with
  | nil=>cases s<;>exact tF (show (none:Option (oW (qo _ R)))=some z from h)
  | cons x xs =>
   cases s with
   | dat c =>
    rw[BQ]at h;cases h1:c.quiet S.ent x with
    | none=>rw[h1]at h;cases h
    | some a =>
     cases h2:qj S l R xs y with
     | none=>rw[h1,h2]at h;cases h
     | some b =>
      rw[h1,h2]at h;have h:oW.mk (.one c) (qo l R) a b=z:=Option.some.inj h
      subst h;obtain⟨y',e1,e2,e3⟩:=ih R xs y b h2 (λp hp=>hσ p hp);refine⟨y',e1,?_,?_⟩
      · show xw S σ (.dat c) x (c.cell (oW.hd (.one c) (qo l R) _))/\uH S σ l xs (pH l R (oW.tl (.one c) (qo l R) _)).1;rw[oW.tl_mk,oW.hd_mk];exact⟨⟨a,h1,rfl⟩,e2⟩
      · show (pH l R (oW.tl (.one c) (qo l R) _)).2=y';rw[oW.tl_mk];exact e3
   | own n =>
    have key:∀(hx:(∃r,x=.own r)\/(∃r lo hi,x=.win r lo hi)\/x=.nil) (h:qj S l R xs y=some z),∃y',y=some y'/\uH S σ (.own n::l) (x::xs) (pH (.own n::l) R z).1/\(pH (.own n::l) R z).2=y':=by
     intro hx h;obtain⟨y',e1,e2,e3⟩:=ih R xs y z h (λp hp=>hσ p (mem_cons_of_mem _ hp));exact⟨y',e1,⟨⟨rfl,hσ _ mem_cons_self,hx⟩,e2⟩,e3⟩
    cases x<;>first
     | exact tF (show (none:Option (oW (qo _ R)))=some z from h)
     | exact key (.inl ⟨_,rfl⟩) h
     | exact key (.inr (.inl ⟨_,_,_,rfl⟩)) h
     | exact key (.inr (.inr rfl)) h
   | same n =>
    cases x<;>try exact tF (show (none:Option (oW (qo _ R)))=some z from h)
    rename_i m;have h':cond (Nat.beq n m) (qj S l R xs y) none=some z:=h
    cases hnm:Nat.beq n m with
    | false=>rw[hnm]at h';cases h'
    | true =>
     rw[hnm]at h';clear h;obtain rfl:=Nat.eq_of_beq_eq_true hnm;obtain⟨y',e1,e2,e3⟩:=ih R xs y z h' (λp hp=>hσ p hp);exact⟨y',e1,⟨⟨rfl,rfl⟩,e2⟩,e3⟩
   | box n o =>
    cases x<;>try exact tF (show (none:Option (oW (qo _ R)))=some z from h)
    rename_i m p;have h':cond (Nat.beq n m&&Nat.beq o p) (qj S l R xs y) none=some z:=h
    cases hnm:(Nat.beq n m&&Nat.beq o p)with
    | false=>rw[hnm]at h';cases h'
    | true =>
     rw[hnm]at h';clear h;simp only[aT]at hnm;obtain rfl:=Nat.eq_of_beq_eq_true hnm.1;obtain rfl:=Nat.eq_of_beq_eq_true hnm.2;obtain⟨y',e1,e2,e3⟩:=ih R xs y z h' (λp hp=>hσ p hp);exact⟨y',e1,⟨⟨rfl,rfl⟩,e2⟩,e3⟩
   | nil =>
    cases x<;>try exact tF (show (none:Option (oW (qo _ R)))=some z from h)
    obtain⟨y',e1,e2,e3⟩:=ih R xs y z h (λp hp=>hσ p hp);exact⟨y',e1,⟨⟨rfl,rfl⟩,e2⟩,e3⟩
   | undef =>
    obtain⟨y',e1,e2,e3⟩:=ih R xs y z h (λp hp=>hσ p hp);exact⟨y',e1,⟨rfl,e2⟩,e3⟩
   | fn f cs =>
    cases x<;>try exact tF (show (none:Option (oW (qo _ R)))=some z from h)
    rename_i g ds;have h':cond (Nat.beq f g&&(cs==ds)) (qj S l R xs y) none=some z:=h
    cases hnm:(Nat.beq f g&&(cs==ds))with
    | false=>rw[hnm]at h';cases h'
    | true =>
     rw[hnm]at h';clear h;simp only[aT]at hnm;obtain rfl:=Nat.eq_of_beq_eq_true hnm.1;obtain rfl:=eq_of_beq hnm.2;obtain⟨y',e1,e2,e3⟩:=ih R xs y z h' (λp hp=>hσ p hp);exact⟨y',e1,⟨⟨rfl,rfl⟩,e2⟩,e3⟩
def xx (S:St) (σ:List (an×Cell)) (l:List (Nat×Bool×List qb)) (tm:List (Nat×AV)) (t:Nat):Prop :=
 match oS l t with
 | none=>oS tm t=none
 | some (agg,ss)=>tn agg (S.tmp t)=true/\∃cs,oS tm t=some (rm agg cs)/\uH S σ ss (S.tmp t).cells cs
theorem yt:∀{l:List (Nat×Bool×List qb)} {R:List Cs} {y:Option (oW R)} {z:oW (uf l R)},vI S l R y=some z->(∀p∈uB S l,p∈σ) ->
 ∃y',y=some y'/\(∀t,xx S σ l (rK l R z).1 t)/\(rK l R z).2=y'
 | [],R,y,z,h,_=>⟨z,h,λt=>rfl,rfl⟩
 | (t,agg,ss)::l,R,y,z,h,hσ=>by
  have h':cond (tn agg (S.tmp t)) (qj S ss (uf l R) (S.tmp t).cells (vI S l R y)) none=some z:=h;cases hag:tn agg (S.tmp t)with
  | false=>rw[hag]at h';cases h'
  | true =>
   rw[hag]at h';clear h;have h:qj S ss (uf l R) (S.tmp t).cells (vI S l R y)=some z:=h'
   obtain⟨y1,e1,e2,e3⟩:=wB _ _ _ _ _ h (λp hp=>hσ p (mem_append_left _ hp));obtain⟨y2,k1,k2,k3⟩:=yt e1 (λp hp=>hσ p (mem_append_right _ hp));refine⟨y2,k1,λu=>?_,?_⟩
   · unfold xx;simp only[rK];rw[p8,p8];by_cases htu:t=u
     · subst htu;simp only[if_true];exact⟨hag,_,rfl,e2⟩
     · simp only[if_neg htu];have:=k2 u
       unfold xx at this;rw[e3];exact this
   · simp only[rK];rw[e3];exact k3
def te (S:St) (σ:List (an×Cell)) (l:List (an×rn)) (en:List (an×Entry)) (n:an):Prop :=
 match oS l n with
 | none=>oS en n=none
 | some (.root e m)=>∃x xs,oS σ n=some x/\ru S e m x=some xs/\oS en n=some (.root e m xs)
 | some (.keep e m)=>∃xs,ru S e m (.own n)=some xs/\oS en n=some (.root e m xs)
 | some (.box ss)=>∃cs cs',oS S.en n=some (.box cs)/\oS en n=some (.box cs')/\uH S σ ss cs cs'
 | some (.tree e)=>∃xs,oS S.en n=some (.tree e xs)/\oS en n=some (.tree e xs)
theorem yu {e:Cs} {n:an} {xs:List e.den} (h:vS S e n=some xs):oS S.en n=some (.tree e xs):=by
 unfold vS at h;split at h
 · rename_i f ys hn;split at h
   · rename_i hh _;subst hh;cases h;exact hn
   · cases h
 · cases h
theorem sI:∀{l:List (an×rn)} {z:oW (q9 l)},s4 S σ l=some z->(∀p∈sv S l,p∈σ)->∀n,te S σ l (rf l z) n
 | [],z,h,_,n=>rfl
 | (m,.root e d)::l,z,h,hσ,n=>by
  simp only[s4]at h;split at h
  · rename_i x hx;split at h
    · rename_i a b h1 h2;cases h;have ih:=sI h2 hσ n
      unfold te at ih ⊢;simp only[rf];rw[p8,p8,oW.tl_mk,oW.hd_mk];by_cases hmn:m=n
      · subst hmn;simp only[if_true];exact⟨x,a,hx,h1,rfl⟩
      · simp only[if_neg hmn];exact ih
    · cases h
  · cases h
 | (m,.keep e d)::l,z,h,hσ,n=>by
  simp only[s4]at h;split at h
  · rename_i a b h1 h2;cases h;have ih:=sI h2 hσ n
    unfold te at ih ⊢;simp only[rf];rw[p8,p8,oW.tl_mk,oW.hd_mk];by_cases hmn:m=n
    · subst hmn;simp only[if_true];exact⟨a,h1,rfl⟩
    · simp only[if_neg hmn];exact ih
  · cases h
 | (m,.tree e)::l,z,h,hσ,n=>by
  simp only[s4]at h;split at h
  · rename_i a b h1 h2;cases h;have ih:=sI h2 hσ n
    unfold te at ih ⊢;simp only[rf];rw[p8,p8,oW.tl_mk,oW.hd_mk];by_cases hmn:m=n
    · subst hmn;simp only[if_true];exact⟨a,yu h1,rfl⟩
    · simp only[if_neg hmn];exact ih
  · cases h
 | (m,.box ss)::l,z,h,hσ,n=>by
  simp only[s4]at h;cases hcs:S.ent m with
  | none=>rw[hcs]at h;cases h
  | some ec =>
  rw[hcs]at h;cases ec with
  | tree=>cases h
  | gone=>cases h
  | fwd _ _=>cases h
  | root _ _ _=>cases h
  | box cs =>
   simp only at h;obtain⟨y',e1,e2,e3⟩:=wB _ _ _ _ _ h (λp hp=>hσ p (by
    simp only[sv];rw[hcs];exact mem_append_left _ hp))
   have ih:=sI e1 (λp hp=>hσ p (mem_append_right _ hp)) n;unfold te at ih ⊢;simp only[rf];rw[p8,p8,e3];by_cases hmn:m=n
   · subst hmn;simp only[if_true];exact⟨cs,_,hcs,rfl,e2⟩
   · simp only[if_neg hmn];exact ih
theorem w3:∀{l:List (an×Cell)},rL l=true->l.Pairwise λp q=>(q.1=p.1->z8 p.2 q.2=true)/\(q.1≠p.1->sT p.2 q.2=true)
 | [],_=>List.Pairwise.nil
 | (n,x)::l,h=>by
  simp only[rL,aT]at h;refine pairwise_cons.2 ⟨λq hq=>?_,w3 h.2⟩;have:=all_eq_true.1 h.1 q hq
  cases hb:Nat.beq q.1 n with
  | true =>
   rw[hb]at this;exact⟨λ_=>this,λhne=>absurd (Nat.eq_of_beq_eq_true hb) hne⟩
  | false =>
   rw[hb]at this;exact⟨λhe=>by subst he;simp at hb,λ_=>this⟩
theorem Ep {x y:Cell} (h:z8 x y=true):∃r,x=.own r/\y=.own r:=by
 cases x<;>cases y<;>simp[z8]at h;exact⟨_,rfl,by rw[h]⟩
theorem AB:∀{l:List (an×Cell)},rL l=true->∀{n:an} {x:Cell},(n,x)∈l->∃y,oS l n=some y/\(x=y\/∃r,x=.own r/\y=.own r)
 | [],_,n,x,h=>by simp at h
 | (m,y)::l,hs,n,x,h=>by
  rw[p8];by_cases hmn:m=n
  · subst hmn;rw[if_pos rfl];rcases mem_cons.1 h with h|h
    · cases h;exact⟨_,rfl,.inl rfl⟩
    · obtain⟨r,e1,e2⟩:=Ep (((pairwise_cons.1 (w3 hs)).1 (m,x) h).1 rfl);exact⟨y,rfl,.inr ⟨r,e2,e1⟩⟩
  · rw[if_neg hmn];rcases mem_cons.1 h with h|h
    · cases h;exact absurd rfl hmn
    · simp only[rL,aT]at hs;exact AB hs.2 h
theorem wC {x y:Cell} (h:sT x y=true) {r:an} (hx:rq x=some r):rq y≠some r:=by
 intro hy;simp[sT,hx,hy]at h
theorem AC {x y:Cell} (h:sT x y=true):sT y x=true:=by
 have e:∀a b,sT a b=(match rq a,rq b with|some r,some s=>!(Nat.beq r s)|_,_=>true):=λa b=>rfl;rw[e]at h ⊢;cases hx:rq x with
 | none=>cases rq y<;>rfl
 | some r=>cases hy:rq y with
  | none=>rfl
  | some s =>
   rw[hx,hy]at h;simp only[Bool.not_eq_true']at h ⊢;cases hb:Nat.beq s r with
   | false=>rfl
   | true=>rw[Nat.eq_of_beq_eq_true hb]at h;simp at h
theorem xc:∀{l:List (an×Cell)},rL l=true->∀{n m:an} {x y:Cell},(n,x)∈l->(m,y)∈l->n≠m->∀r,rq x=some r->rq y≠some r
 | [],_,n,m,x,y,h,_,_,r,_=>by simp at h
 | (k,z)::l,hs,n,m,x,y,h1,h2,hnm,r,hr=>by
  have hp:=pairwise_cons.1 (w3 hs);simp only[rL,aT]at hs;rcases mem_cons.1 h1 with e1|h1<;>rcases mem_cons.1 h2 with e2|h2
  · cases e1;cases e2;exact absurd rfl hnm
  · cases e1;exact wC ((hp.1 (m,y) h2).2 (Ne.symm hnm)) hr
  · cases e2;exact wC (AC ((hp.1 (n,x) h1).2 hnm)) hr
  · exact xc hs.2 h1 h2 hnm r hr
end Go.V
namespace Go.V
variable {w0:World} {T N:Nat->Prop} {en en':List (an×Entry)} {S S':St} {g g':Gh} {w:World} {a:Act} {s:pR} {M:List (an×Entry)} {W:List (Nat×AV)}

theorem AD {e:Entry} (h:e.deep=true):e.alive=true:=by cases e<;>simp_all [Entry.deep,Entry.alive]
theorem MS.rename (h:MS w0 T N en g w) (hI:g'.I=g.I) (hrep:∀n e,oS en' n=some e->tv (dom en') g' w n e) (uJ:an->an->Prop)
 (hφ:∀n e,oS en' n=some e->e.alive=true->(g'.top n=none/\g'.nest n=[])\/∃k f,oS en k=some f/\f.alive=true/\(e.deep=true->f.deep=true)/\g'.top n=g.top k/\(∀b∈g'.nest n,b∈g.nest k)/\uJ n k)
 (htree:∀n e,oS en' n=some e->e.isTree=true->(∃f,oS en n=some f/\f.isTree=true)/\g'.nest n=g.nest n) (inj:∀n m k,uJ n k->uJ m k->n=m) (hone:∀n,dom en' n->(g'.loc n).oneCell'=true):MS w0 T N en' g' w:=by
 have ht:∀n e b,oS en' n=some e->e.alive=true->g'.top n=some b->∃k f,oS en k=some f/\f.alive=true/\g.top k=some b/\uJ n k:=by
  intro n e b hn ha hb;rcases hφ n e hn ha with ⟨h1,_⟩|⟨k,f,h1,h2,_,h4,_,h6⟩
  · rw[h1]at hb;cases hb
  · exact⟨k,f,h1,h2,h4▸hb,h6⟩
 have hs:∀n e b,oS en' n=some e->e.deep=true->b∈g'.nest n->∃k f,oS en k=some f/\f.deep=true/\b∈g.nest k/\uJ n k:=by
  intro n e b hn hd hb;rcases hφ n e hn (AD hd)with ⟨_,h1⟩|⟨k,f,h1,h2,h3,_,h5,h6⟩
  · rw[h1]at hb;simp at hb
  · exact⟨k,f,h1,h3 hd,h5 b hb,h6⟩
 refine⟨⟨hrep,λn m e f b hn hm he hf h1 h2=>?_,λn e b hn he hb=>?_,λn m e f hn hm he hf hnm b hb hb'=>?_,λb hb=>h.mem.old b (hI▸hb),hone,λn e b hn he hb=>?_⟩,
  ⟨h.since.os,h.since.out,h.since.tape,h.since.size,h.since.mem,λn e b hn he hb=>?_,λn e b hn he hb=>?_,λb hb=>h.since.imm b (hI▸hb),λn e b hn he hb=>?_,h.since.soft⟩⟩
 · obtain⟨k,f1,k1,k2,k3,k4⟩:=ht n e b hn he h1;obtain⟨k',f2,l1,l2,l3,l4⟩:=ht m f b hm hf h2;obtain rfl:=h.mem.apart k k' f1 f2 b k1 l1 k2 l2 k3 l3;exact inj n m k k4 l4
 · obtain⟨k,f1,k1,k2,k3,k4⟩:=ht n e b hn he hb;rw[hI];exact h.mem.topI k f1 b k1 k2 k3
 · obtain⟨k,f1,k1,k2,k3,k4⟩:=hs n e b hn he hb;obtain⟨k',f2,l1,l2,l3,l4⟩:=hs m f b hm hf hb';by_cases hkk:k=k'
   · subst hkk;exact hnm (inj n m k k4 l4)
   · exact h.mem.nests k k' f1 f2 k1 l1 k2 l2 hkk b k3 l3
 · obtain⟨⟨f,k1,k2⟩,k3⟩:=htree n e hn he;rw[k3]at hb;obtain⟨l1,l2,l3⟩:=h.mem.wood n f b k1 k2 hb;refine⟨by rw[hI];exact l1,λm f' hm hf' hb'=>?_,λm f' hmn hm hf'=>?_⟩
   · obtain⟨k,f1,j1,j2,j3,_⟩:=ht m f' b hm hf' hb';exact l2 k f1 j1 j2 j3
   · obtain⟨⟨f2,j1,j2⟩,j3⟩:=htree m f' hm hf';rw[j3];exact l3 m f2 hmn j1 j2
 · obtain⟨k,f1,k1,k2,k3,k4⟩:=ht n e b hn he hb;exact h.since.tops k f1 b k1 k2 k3
 · obtain⟨k,f1,k1,k2,k3,k4⟩:=hs n e b hn he hb;exact h.since.nests k f1 b k1 k2 k3
 · obtain⟨⟨f,k1,k2⟩,k3⟩:=htree n e hn he;rw[k3]at hb;exact h.since.born n f b k1 k2 hb

theorem BR {e:Cs} {m:Bool} {x:Cell} {xs:List e.den} (h:ru S e m x=some xs) :
 ∃q us L,(AZ e x).Runs (oS S.en) (xs,q,us) L/\(∀m',q=some m'->m=true->m'=true)/\(∀r E,us=[(r,E)]->rq x=some r):=by
 cases x<;>try (exfalso;cases h;done)
 case nil =>
  simp only[ru,Option.some.injEq]at h;subst h;exact⟨none,[],[],⟨rfl,rfl⟩,(λm' h=>by cases h),λr E h=>by cases h⟩
 case own r =>
  simp only[ru]at h;split at h
  · rename_i f m' ys hr;cases hm:Bi m m' with
    | false=>rw[hm]at h;cases h
    | true =>
     rw[hm]at h;simp only[cT]at h;split at h
     · rename_i hfe hsame;cases h;refine⟨some m',[(r,.gone)],[r],⟨[],rfl,?_⟩,(λm'' h hm1=>?_),λr' E h=>by cases h;rfl⟩
       · rw[show oS S.en r=some (.root f m' ys)from hr];simp only[hsame];exact⟨rfl,rfl⟩
       · cases h;subst hm1;simpa[Bi]using hm
     · cases h
  · cases h
 case win r lo hi =>
  simp only[ru]at h;split at h
  · rename_i f m' ys hr;cases hm:Bi m m' with
    | false=>rw[hm]at h;cases h
    | true =>
     rw[hm]at h;simp only[cT]at h;split at h
     · rename_i hfe hsame;cases h;refine⟨some m',[(r,.gone)],[r],⟨[],rfl,?_⟩,(λm'' h hm1=>?_),λr' E h=>by cases h;rfl⟩
       · rw[show oS S.en r=some (.root f m' ys)from hr];simp only[hsame];exact⟨rfl,rfl⟩
       · cases h;subst hm1;simpa[Bi]using hm
     · cases h
  · cases h
structure zS (w:World) (S:St) (g:Gh) (e:Cs) (m:Bool) (x:Cell) (xs:List e.den) (i:NI):Prop where
 esz:i.esz=e.len
 loc:∀v,oY (dom S.en) g w x v->v=i.loc
 rep:qz w e xs i.loc i.top i.nest
 imm:∀b∈i.nest,g.I b
 nod:m=true->i.nest.Nodup
 one:i.loc.oneCell'=true
 old:(i.top=none/\i.nest=[])\/∃r m' ys,rq x=some r/\oS S.en r=some (.root e m' ys)/\i.top=g.top r/\(∀b∈i.nest,b∈g.nest r)/\(m=true->m'=true)
theorem zI {e:Cs} {xs:List e.den} {v:Value} {tp:Option Nat} {F:List Nat} (h:qz w e xs v tp F):v.oneCell'=true:=by
 obtain⟨x,c,rfl⟩:=h.shape;rfl
theorem GE (hm:qM S.en g w) {e:Cs} {m:Bool} {x:Cell} {xs:List e.den} (h:ru S e m x=some xs) {v:Value} (hv:oY (dom S.en) g w x v):∃i,zS w S g e m x xs i:=by
 have huni:∀u,oY (dom S.en) g w x u->u=v:=by
  intro u hu;cases x<;>try (exfalso;cases h;done)
  case nil=>exact (show u=_ from hu).trans (show v=_ from hv).symm
  case own r=>exact hu.2.trans hv.2.symm
  case win r lo hi =>
   obtain⟨_,_,a1,l1,c1,e1,_,rfl⟩:=hu;obtain⟨_,_,a2,l2,c2,e2,_,rfl⟩:=hv;rw[e1]at e2;cases e2;rfl
 obtain⟨q,us,L,h1,h2,h3⟩:=BR h;rcases yG hm hv h1 with ⟨rfl,h4⟩|⟨ys,r,m',F,h4,hD⟩
 · cases h4;exact⟨⟨.slice none 0 0,e.len,none,[]⟩,rfl,huni,.inl ⟨rfl,rfl,rfl,rfl⟩,by simp,by simp,rfl,.inl ⟨rfl,rfl⟩⟩
 · cases h4;obtain⟨⟨zs,hent⟩,hrep,hcnt⟩:=hD;obtain⟨_,_,hI,hnd⟩:=pS hm hent;have hsub:∀b∈F,b∈g.nest r:=λb hb=>by
    have h0:=hcnt b;have h1:0<F.count b:=count_pos_iff.2 hb
    exact count_pos_iff.1 (by omega)
   refine⟨⟨v,e.len,g.top r,F⟩,rfl,huni,hrep,λb hb=>hI b (hsub b hb),λhm1=>?_,zI hrep,.inr ⟨r,m',zs,h3 r _ rfl,hent,rfl,hsub,h2 m' rfl⟩⟩;rw[←pY];intro b;have:=hcnt b
   have h6:=pY.2 (hnd (h2 m' rfl hm1)) b;show F.count b<=1
   omega
end Go.V
namespace Go.V
variable {w0:World} {T N:Nat->Prop} {en en':List (an×Entry)} {S S':St} {g g':Gh} {w:World} {a:Act} {s:pR} {M:List (an×Entry)} {W:List (Nat×AV)}

theorem tg:∀{l:List (an×rn)},xm l=true->∀{n:an} {e:rn},(n,e)∈l->oS l n=some e
 | [],_,n,e,h=>by simp at h
 | (m,f)::l,hl,n,e,h=>by
  simp only[xm,aT]at hl;rw[p8];rcases mem_cons.1 h with h|h
  · cases h;rw[if_pos rfl]
  · by_cases hmn:m=n
    · subst hmn;have:=all_eq_true.1 hl.1 _ h
      simp at this
    · rw[if_neg hmn];exact tg hl.2 h
theorem zJ {l:List (an×rn)} (hl:xm l=true) {n:an} (h:C6 l n=true):∃e m,oS l n=some (.root e m):=by
 obtain⟨p,hp,hq⟩:=List.any_eq_true.1 h;simp only[aT]at hq;obtain⟨k,f⟩:=p;obtain rfl:=Nat.eq_of_beq_eq_true hq.1;cases f with
 | root e m=>exact⟨e,m,tg hl hp⟩
 | keep e m=>cases hq.2
 | box ss=>cases hq.2
 | tree e=>cases hq.2
theorem yO {l:List (an×rn)} (hl:xm l=true) {n:an} (h:sD l n=true):∃x,oS l n=some x/\∀e m,x≠.root e m:=by
 obtain⟨p,hp,hq⟩:=List.any_eq_true.1 h;simp only[aT]at hq;obtain⟨k,f⟩:=p;obtain rfl:=Nat.eq_of_beq_eq_true hq.1;refine⟨f,tg hl hp,λe m he=>?_⟩;subst he;cases hq.2
theorem yP:∀{l:List (an×rn)} {n:an} {x:rn},oS l n=some x->(∀e m,x≠.root e m)->sD l n=true:=by
 intro l n x h hx;refine List.any_eq_true.2 ⟨(n,x),pG h,?_⟩;cases x with
 | root e m=>exact absurd rfl (hx e m)
 | keep e m=>simp
 | tree e=>simp
 | box ss=>simp
theorem rO:∀{l:List (an×rn)},rU S l=true->∀{n:an} {e:Cs} {m:Bool},(n,rn.root e m)∈l->oS S.en n=none
 | [],_,n,e,m,h=>by simp at h
 | (k,x)::l,hf,n,e,m,h=>by
  rcases mem_cons.1 h with h'|h'
  · obtain⟨rfl,rfl⟩:=Prod.mk.inj h';simp only[rU,aT]at hf;cases hn:oS S.en n with
    | none=>rfl
    | some y=>rw[show S.ent n=some y from hn]at hf;cases hf.1
  · cases x with
    | root e' m'=>simp only[rU,aT]at hf;exact rO hf.2 h'
    | keep e' m'=>simp only[rU]at hf;exact rO hf h'
    | box ss=>simp only[rU]at hf;exact rO hf h'
    | tree e'=>simp only[rU]at hf;exact rO hf h'
theorem xd {D:an->Prop}:∀{l:List qb} {xs:List Cell} {vs:List Value},p5 (oY D g w) xs vs->∀p∈tM l xs,∃v,oY D g w p.2 v
 | [],xs,vs,_,p,hp=>by cases xs<;>simp[tM]at hp
 | s::l,[],[],_,p,hp=>by cases s<;>simp[tM]at hp
 | s::l,x::xs,v::vs,h,p,hp=>by
  have ih:=xd (l:=l) h.2 p;cases s with
  | own n =>
   rcases mem_cons.1 hp with rfl|hp
   · exact⟨v,h.1⟩
   · exact ih hp
  | _=>exact ih hp
theorem Cy {D:an->Prop} {x:AV} {v:Value} (h:pp D g w x v):∃vs,p5 (oY D g w) x.cells vs:=by
 cases x with
 | cell c=>exact⟨[v],h,trivial⟩
 | agg cs=>obtain⟨vs,_,k⟩:=h;exact⟨_,k⟩
 | tup l=>exact⟨[],trivial⟩
theorem Fu (hI:pq w0 T N S' g w a):∀p∈s.sigma S',∃v,oY (dom S'.en) g w p.2 v:=by
 intro p hp;rcases mem_append.1 hp with hp|hp
 · have key:∀(l:List (Nat×Bool×List qb)),p∈uB S' l->∃v,oY (dom S'.en) g w p.2 v:=by
    intro l
    induction l with
    | nil=>intro h;simp[uB]at h
    | cons q l ih =>
     intro h;obtain⟨t,ag,ss⟩:=q;rcases mem_append.1 h with h|h
     · obtain⟨vs,hv⟩:=Cy (hI.tmps t);exact xd hv p h
     · exact ih h
   exact key _ hp
 · have key:∀(l:List (an×rn)),p∈sv S' l->∃v,oY (dom S'.en) g w p.2 v:=by
    intro l
    induction l with
    | nil=>intro h;simp[sv]at h
    | cons q l ih =>
     intro h;obtain⟨n,x⟩:=q;cases x with
     | box ss =>
      rcases mem_append.1 h with h|h
      · cases hn:S'.ent n with
        | none=>rw[hn]at h;simp at h
        | some e =>
         rw[hn]at h;cases e with
         | box cs =>
          obtain⟨b,us,_,_,_,h4⟩:=hI.mem.rep n _ hn;exact xd h4 p h
         | gone=>simp at h
         | fwd _ _=>simp at h
         | root _ _ _=>simp at h
         | tree _ _=>simp at h
      · exact ih h
     | root e m=>exact ih h
     | keep e m=>exact ih h
     | tree e=>exact ih h
   exact key _ hp
structure vD (S S':St) (M:List (an×Entry)) (W:List (Nat×AV)) (s:pR):Prop where
 gone:∀n e,oS M n=some e->e=.gone
 undef:∀t v,oS W t=some v->v=.undef
 dom:∀n,dom S.en n->Go.V.dom S'.en n
 en:∀n,oS M n=none->Go.V.dom S.en n->oS S'.en n=oS S.en n
 tm:∀t,oS W t=none->S'.tmp t=S.tmp t
 kept:∀n,sD s.en n=true->oS M n≠none
 ok:s.okAt S=true
 freed:freed S M (s.sigma S')=true
def xz (S':St) (g:Gh) (w:World) (s:pR) (n:an) (i:NI):Prop :=
 match oS s.en n with
 | some (.root e m)=>∃x xs,oS (s.sigma S') n=some x/\ru S' e m x=some xs/\zS w S' g e m x xs i
 | _=>(dom S'.en n->i.loc=g.loc n/\i.esz=g.esz n/\i.top=g.top n/\i.nest=g.nest n)/\(¬dom S'.en n->i.loc=.slice none 0 0)
theorem pR.read_spec {d:s.den} (h:s.read S'=some d):rL (s.sigma S'++vT s.en)=true/\(∀t,xx S' (s.sigma S') s.tm (s.st d).tm t)/\(∀n,te S' (s.sigma S') s.en (s.st d).en n):=by
 unfold pR.read at h;cases hs:rL (s.sigma S'++vT s.en)with
 | false=>rw[hs]at h;cases h
 | true =>
  rw[hs]at h;have h:vI S' s.tm (q9 s.en) (s4 S' (s.sigma S') s.en)=some d:=h
  obtain⟨y',e1,e2,e3⟩:=yt h (σ:=s.sigma S') (λp hp=>mem_append_left _ hp);refine⟨rfl,e2,?_⟩;have:=sI e1 (λp hp=>mem_append_right _ hp)
  show ∀n,te S' (s.sigma S') s.en (rf s.en (rK s.tm (q9 s.en) d).2) n;rw[e3];exact this
theorem w4:∀{l m:List (an×Cell)},rL (l++m)=true->rL l=true
 | [],m,_=>rfl
 | (n,x)::l,m,h=>by
  simp only[cons_append,rL,aT,List.all_append]at h ⊢;exact⟨h.1.1,w4 h.2⟩
theorem uI:∀{l:List (an×rn)} {n:an} {e:Cs} {m:Bool},(n,rn.keep e m)∈l->(n,Cell.own n)∈vT l
 | [],n,e,m,h=>by simp at h
 | (k,x)::l,n,e,m,h=>by
  rcases mem_cons.1 h with h'|h'
  · obtain⟨rfl,rfl⟩:=Prod.mk.inj h';exact mem_cons_self
  · cases x with
    | keep e' m'=>exact mem_cons_of_mem _ (uI h')
    | root e' m'=>exact uI (l:=l) h'
    | box ss=>exact uI (l:=l) h'
    | tree e'=>exact uI (l:=l) h'
theorem IW (hI:pq w0 T N S' g w a) {d:s.den} (hr:s.read S'=some d):∃f:an->NI,∀n,xz S' g w s n (f n):=by
 apply Classical.skolem.1;intro n;obtain⟨hσ,_,hen⟩:=pR.read_spec hr;have hn:=hen n
 unfold te at hn;unfold xz;cases hf:oS s.en n with
 | none =>
  by_cases hd:dom S'.en n
  · exact⟨⟨g.loc n,g.esz n,g.top n,g.nest n⟩,λ_=>⟨rfl,rfl,rfl,rfl⟩,λh=>absurd hd h⟩
  · exact⟨⟨.slice none 0 0,0,none,[]⟩,λh=>absurd h hd,λ_=>rfl⟩
 | some x =>
  cases x with
  | root e m =>
   rw[hf]at hn;obtain⟨x,xs,h1,h2,_⟩:=hn;obtain⟨v,hv⟩:=Fu (s:=s) hI (n,x) (pG h1);obtain⟨i,hi⟩:=GE hI.mem h2 hv;exact⟨i,x,xs,h1,h2,hi⟩
  | keep e m =>
   by_cases hd:dom S'.en n
   · exact⟨⟨g.loc n,g.esz n,g.top n,g.nest n⟩,λ_=>⟨rfl,rfl,rfl,rfl⟩,λh=>absurd hd h⟩
   · exact⟨⟨.slice none 0 0,0,none,[]⟩,λh=>absurd h hd,λ_=>rfl⟩
  | box ss =>
   by_cases hd:dom S'.en n
   · exact⟨⟨g.loc n,g.esz n,g.top n,g.nest n⟩,λ_=>⟨rfl,rfl,rfl,rfl⟩,λh=>absurd hd h⟩
   · exact⟨⟨.slice none 0 0,0,none,[]⟩,λh=>absurd h hd,λ_=>rfl⟩
  | tree e =>
   by_cases hd:dom S'.en n
   · exact⟨⟨g.loc n,g.esz n,g.top n,g.nest n⟩,λ_=>⟨rfl,rfl,rfl,rfl⟩,λh=>absurd hd h⟩
   · exact⟨⟨.slice none 0 0,0,none,[]⟩,λh=>absurd h hd,λ_=>rfl⟩
def Gh.all (g:Gh) (f:an->NI):Gh:=⟨g.I,λn=>(f n).loc,λn=>(f n).esz,λn=>(f n).top,λn=>(f n).nest,g.rows⟩
end Go.V
namespace Go.V
variable {w0:World} {T N:Nat->Prop} {en en':List (an×Entry)} {S S':St} {g g':Gh} {w:World} {a:Act} {s:pR} {M:List (an×Entry)} {W:List (Nat×AV)}

theorem Cz {e:Cs} {m:Bool} {n:an} {xs:List e.den} (h:ru S e m (.own n)=some xs):∃m',oS S.en n=some (.root e m' xs)/\(m=true->m'=true):=by
 simp only[ru]at h;split at h
 · rename_i f m' ys hr;cases hm:Bi m m' with
   | false=>rw[hm]at h;cases h
   | true =>
    rw[hm]at h;simp only[cT]at h;split at h
    · rename_i hfe _;cases h;subst hfe;exact⟨m',hr,λhm1=>by subst hm1;simpa[Bi]using hm⟩
    · cases h
 · cases h
theorem wD {σ:List (an×Cell)} {D D':an->Prop} {ok:qb->Bool} (h1:∀c x y v,xw S σ c x y->ok c=true->oY D g w x v->oY D' g' w y v) :
 ∀{ss:List qb} {xs ys:List Cell} {vs:List Value},uH S σ ss xs ys->ss.all ok=true->p5 (oY D g w) xs vs->p5 (oY D' g' w) ys vs
 | [],[],[],[],_,_,_=>trivial
 | c::ss,x::xs,y::ys,v::vs,h,ho,hv=>by
  simp only[List.all_cons,aT]at ho;exact⟨h1 c x y v h.1 ho.1 hv.1,wD h1 h.2 ho.2 hv.2⟩
theorem zT {σ:List (an×Cell)} {D':an->Prop} {ok:qb->Bool} (h1:∀c x y,xw S σ c x y->ok c=true->qW D' y) :
 ∀{ss:List qb} {xs ys:List Cell},uH S σ ss xs ys->ss.all ok=true->∀y∈ys,qW D' y
 | [],[],[],_,_,y,hy=>by simp at hy
 | c::ss,x::xs,z::ys,h,ho,y,hy=>by
  simp only[List.all_cons,aT]at ho;rcases mem_cons.1 hy with rfl|hy
  · exact h1 c x y h.1 ho.1
  · exact zT h1 h.2 ho.2 y hy
theorem yQ {σ:List (an×Cell)}:∀{ss:List qb} {xs ys:List Cell},uH S σ ss xs ys->ys.length=xs.length
 | [],[],[],_=>rfl
 | c::ss,x::xs,z::ys,h=>by simp[yQ h.2]
def uJ (S S':St) (M:List (an×Entry)) (s:pR) (n k:an):Prop :=
 (∃e m x e' m' ys,oS s.en n=some (.root e m)/\oS (s.sigma S') n=some x/\rq x=some k/\oS S'.en k=some (.root e' m' ys)) \/
 (n=k/\∃e m,oS s.en n=some (.keep e m)) \/
 (n=k/\∃ss cs,oS s.en n=some (.box ss)/\oS S'.en n=some (.box cs)) \/
 (n=k/\oS s.en n=none/\oS M n=none/\dom S.en n)
theorem uJ.inj (hσ:rL (s.sigma S'++vT s.en)=true) (hfr:freed S M (s.sigma S')=true) {n m k:an} (h:uJ S S' M s n k) (h':uJ S S' M s m k):n=m:=by
 have hroot:∀{n m k:an},(∃e m x e' m' ys,oS s.en n=some (.root e m)/\oS (s.sigma S') n=some x/\rq x=some k/\oS S'.en k=some (.root e' m' ys))->uJ S S' M s m k->n=m:=by
  intro n m k ⟨e,d,x,e',d',ys,h1,h2,h3,h4⟩ h';have hx:=pG h2
  rcases h' with ⟨_,_,y,_,_,_,k1,k2,k3,k4⟩|⟨rfl,e2,m2,k1⟩|⟨rfl,ss,cs,k1,k2⟩|⟨rfl,k1,k2,k3⟩
  · by_cases hnm:n=m
    · exact hnm
    · exact absurd k3 (xc (w4 hσ) hx (pG k2) hnm k h3)
  · by_cases hnm:n=m
    · exact hnm
    · exact absurd rfl (xc hσ (mem_append_left _ hx) (mem_append_right _ (uI (pG k1))) hnm m h3)
  · rw[h4]at k2;cases k2
  · have:=all_eq_true.1 hfr _ hx;simp only[h3]at this;cases hd:oS S.en m with
    | none=>exact absurd hd k3
    | some y =>
     rw[hd]at this;simp only at this;rw[k2]at this;cases this
 rcases h with h|h
 · exact hroot h h'
 · rcases h' with h'|h'
   · exact (hroot h' (.inr h)).symm
   · have e1:n=k:=by rcases h with ⟨e,_⟩|⟨e,_⟩|⟨e,_⟩<;>exact e
     have e2:m=k:=by rcases h' with ⟨e,_⟩|⟨e,_⟩|⟨e,_⟩<;>exact e
     exact e1.trans e2.symm
theorem xZ (hI:pq w0 T N S' g w a) (hcS:pI S) (hT:vD S S' M W s) {d:s.den} (hr:s.read S'=some d) :
 ∃g',pq w0 T N (s.over ⟨W++S.tm,M++S.en⟩ d) g' w a/\Le (dom S.en) g w (dom (s.over ⟨W++S.tm,M++S.en⟩ d).en) g' w/\pI (s.over ⟨W++S.tm,M++S.en⟩ d):=by
 obtain⟨hσ,htm,hen⟩:=pR.read_spec hr;obtain⟨f,hf⟩:=IW hI hr;have hok:=hT.ok
 simp only[pR.okAt,aT]at hok;obtain⟨hfr,hnd,hokt,hoke⟩:=hok;have hEd:(s.over ⟨W++S.tm,M++S.en⟩ d).en=(s.st d).en++(M++S.en):=rfl
 have hTd:(s.over ⟨W++S.tm,M++S.en⟩ d).tm=(s.st d).tm++(W++S.tm):=rfl;generalize hE:(s.over ⟨W++S.tm,M++S.en⟩ d).en=E at hEd;have hnr:∀n,dom S.en n->∀e m,oS s.en n≠some (.root e m):=λn hn e m h=>hn (rO hfr (pG h))
 have hold:∀n,dom S'.en n->(∀e m,oS s.en n≠some (.root e m))->(f n).loc=g.loc n/\(f n).esz=g.esz n/\(f n).top=g.top n/\(f n).nest=g.nest n:=by
  intro n hn hne;have:=hf n
  unfold xz at this;split at this
  · rename_i e m h;exact absurd h (hne e m)
  · exact this.1 hn
 have hdomS:∀n,dom S.en n->dom E n:=λn hn=>by
  rw[hEd];exact rA _ _ n (rA _ _ n hn)
 have hdome:∀n x,oS s.en n=some x->dom E n:=by
  intro n x hx;have:=hen n
  unfold te at this;rw[hx]at this;rw[hEd];cases x with
  | root e m=>obtain⟨_,_,_,_,h⟩:=this;exact tB (by unfold dom;rw[h];simp)
  | keep e m=>obtain⟨_,_,h⟩:=this;exact tB (by unfold dom;rw[h];simp)
  | box ss=>obtain⟨_,_,_,h,_⟩:=this;exact tB (by unfold dom;rw[h];simp)
  | tree e=>obtain⟨_,_,h⟩:=this;exact tB (by unfold dom;rw[h];simp)
 have hle:Le (dom S.en) g w (dom E) (g.all f) w:=⟨hdomS,λn hn=>(hold n (hT.dom n hn) (hnr n hn)).1,λn hn=>(hold n (hT.dom n hn) (hnr n hn)).2.1,λ_ h=>h,λ_ _=>rfl,λ_ _=>rfl⟩;have hdm:∀n,((oS S.en n).isSome||sD s.en n)=true->dom S'.en n->dom E n/\(f n).loc=g.loc n/\(f n).esz=g.esz n:=by
  intro n h hd;rw[Bool.or_eq_true]at h;rcases h with h|h
  · have hS:dom S.en n:=by intro h0;rw[h0]at h;cases h
    exact⟨hdomS n hS,(hold n hd (hnr n hS)).1,(hold n hd (hnr n hS)).2.1⟩
  · obtain⟨x,hx,hxr⟩:=yO hnd h;have hne:∀e m,oS s.en n≠some (.root e m):=λe m h=>by rw[hx]at h;exact hxr e m (Option.some.inj h)
    exact⟨hdome n x hx,(hold n hd hne).1,(hold n hd hne).2.1⟩
 have hdmE:∀n,((oS S.en n).isSome||sD s.en n)=true->dom E n:=by
  intro n h;rw[Bool.or_eq_true]at h;rcases h with h|h
  · exact hdomS n (by intro h0;rw[h0]at h;cases h)
  · obtain⟨x,hx,_⟩:=yO hnd h;exact hdome n x hx
 let ok:=qb.okIn (λn=>(oS S.en n).isSome||sD s.en n) (C6 s.en)
 have g1:∀c x y v,xw S' (s.sigma S') c x y->ok c=true->oY (dom S'.en) g w x v->oY (dom E) (g.all f) w y v:=by
  intro c x y v h ho hv;cases c with
  | dat c =>
   obtain⟨b,hq,rfl⟩:=h;unfold CT.quiet at hq;split at hq
   · rename_i b' hb;cases hq;obtain⟨L,hL⟩:=Rd.plain_some hb;obtain⟨⟨F,hF,hFI⟩,_⟩:=CT.into_shared hI.mem hv hL;refine CT.cell_rep hF λq hq=>(hFI q hq).elim id λ⟨k,hk,_⟩=>?_;simp at hk
   · cases hq
  | own n =>
   obtain⟨rfl,hm,_⟩:=h;obtain⟨e,m,hx⟩:=zJ hnd ho;have:=hf n
   unfold xz at this;rw[hx]at this;obtain⟨x0,xs,h1,h2,h3⟩:=this;obtain⟨z,hz,hz'⟩:=AB (w4 hσ) hm;rw[h1]at hz;cases hz;have : x=x0 := by
    rcases hz' with h|⟨r, h, h'⟩
    · exact h
    · exact h.trans h'.symm
   subst this;exact⟨hdome n _ hx,h3.loc v hv⟩
  | same n =>
   obtain⟨rfl,rfl⟩:=h;obtain⟨hd,rfl⟩:=hv;obtain⟨h1,h2,_⟩:=hdm n ho hd;exact⟨h1,h2.symm⟩
  | box n o =>
   obtain⟨rfl,rfl⟩:=h;obtain⟨hd,b,hb,e⟩:=hv;obtain⟨h1,h2,_⟩:=hdm n ho hd;exact⟨h1,b,h2.trans hb,e⟩
  | nil=>obtain⟨rfl,rfl⟩:=h;exact hv
  | undef=>obtain rfl:=h;trivial
  | fn q cs =>
   obtain⟨rfl,rfl⟩:=h;obtain⟨vs,e,k⟩:=hv;refine⟨vs,e,?_⟩;have key:∀(l:List an) (m:List Value),(∀n∈l,((oS S.en n).isSome||sD s.en n)=true)->p5 (λn u=>dom S'.en n/\(∃b,g.loc n=.pointer (some ⟨b,0,none⟩))/\u=g.loc n) l m ->
    p5 (λn u=>dom E n/\(∃b,(g.all f).loc n=.pointer (some ⟨b,0,none⟩))/\u=(g.all f).loc n) l m:=by
    intro l
    induction l with
    | nil=>intro m _ h;cases m with
     | nil=>trivial
     | cons _ _=>exact h.elim
    | cons n l ih=>intro m hl h;cases m with
     | nil=>exact h.elim
     | cons u m =>
      obtain⟨hd,⟨b,hb⟩,hu⟩:=h.1;obtain⟨h1,h2,_⟩:=hdm n (hl n (by simp)) hd;exact⟨⟨h1,⟨b,h2.trans hb⟩,hu.trans h2.symm⟩,ih m (λk hk=>hl k (by simp[hk])) h.2⟩
   exact key cs _ (λn hn=>all_eq_true.1 ho n hn) k
 have g2:∀c x y,xw S' (s.sigma S') c x y->ok c=true->qW (dom E) y:=by
  intro c x y h ho;cases c with
  | dat c=>obtain⟨b,_,rfl⟩:=h;exact CT.cell_in c b
  | own n =>
   obtain⟨rfl,_,_⟩:=h;obtain⟨e,m,hx⟩:=zJ hnd ho;intro k hk;simp[Cell.refs]at hk;subst hk;exact hdome k _ hx
  | same n=>obtain⟨rfl,rfl⟩:=h;intro k hk;simp[Cell.refs]at hk;subst hk;exact hdmE k ho
  | box n o=>obtain⟨rfl,rfl⟩:=h;intro k hk;simp[Cell.refs]at hk;subst hk;exact hdmE k ho
  | nil=>obtain⟨rfl,rfl⟩:=h;exact pj rfl
  | undef=>obtain rfl:=h;exact pj rfl
  | fn q cs=>obtain⟨rfl,rfl⟩:=h;intro k hk;exact hdmE k (all_eq_true.1 ho k hk)
 have hokbox:∀n ss,oS s.en n=some (.box ss)->ss.all ok=true:=λn ss h=>by
  have:=all_eq_true.1 hoke _ (pG h);exact this
 have hlook:∀n e,oS E n=some e ->
  (∃c m x xs,oS s.en n=some (.root c m)/\e=.root c m xs/\oS (s.sigma S') n=some x/\ru S' c m x=some xs/\zS w S' g c m x xs (f n)) \/
  (∃c m m' xs,oS s.en n=some (.keep c m)/\e=.root c m xs/\oS S'.en n=some (.root c m' xs)/\(m=true->m'=true)) \/
  (∃ss cs cs',oS s.en n=some (.box ss)/\e=.box cs'/\oS S'.en n=some (.box cs)/\uH S' (s.sigma S') ss cs cs') \/
  (oS s.en n=none/\((oS M n≠none/\e=.gone)\/(oS M n=none/\oS S.en n=some e/\oS S'.en n=some e))) \/
  (∃c xs,oS s.en n=some (.tree c)/\e=.tree c xs/\oS S'.en n=some (.tree c xs)):=by
  intro n e he;rw[hEd,pB]at he;have h0:=hen n
  unfold te at h0;cases hs:oS s.en n with
  | none =>
   rw[hs]at h0;simp only at h0;rw[h0]at he;refine .inr (.inr (.inr (.inl ⟨rfl,?_⟩)));rw[pB]at he;cases hM:oS M n with
   | some y=>rw[hM]at he;cases he;exact .inl ⟨(λh=>by cases h),hT.gone n e hM⟩
   | none =>
    rw[hM]at he;have he:oS S.en n=some e:=he
    exact .inr ⟨rfl,he,(hT.en n hM (by unfold dom;rw[he];simp)).trans he⟩
  | some x =>
   rw[hs]at h0;cases x with
   | root c m =>
    obtain⟨x,xs,h1,h2,h3⟩:=h0;rw[h3]at he;cases he;have:=hf n
    unfold xz at this;rw[hs]at this;obtain⟨x',xs',k1,k2,k3⟩:=this;rw[h1]at k1;cases k1;rw[h2]at k2;cases k2;exact .inl ⟨c,m,x,xs,rfl,rfl,h1,h2,k3⟩
   | keep c m =>
    obtain⟨xs,h2,h3⟩:=h0;rw[h3]at he;cases he;obtain⟨m',k1,k2⟩:=Cz h2;exact .inr (.inl ⟨c,m,m',xs,rfl,rfl,k1,k2⟩)
   | box ss =>
    obtain⟨cs,cs',h1,h2,h3⟩:=h0;rw[h2]at he;cases he;exact .inr (.inr (.inl ⟨ss,cs,cs',rfl,rfl,h1,h3⟩))
   | tree c =>
    obtain⟨xs,h1,h2⟩:=h0;rw[h2]at he;cases he;exact .inr (.inr (.inr (.inr ⟨c,xs,rfl,rfl,h1⟩)))
 have hbox_old:∀n cs,oS S.en n=some (.box cs)->∀c∈cs,qW (dom S.en) c:=hcS.box;have hMS:MS w0 T N E (g.all f) w:=by
  refine MS.rename (en:=S'.en) hI.ms rfl (λn e he=>?_) (uJ S S' M s) (λn e he ha=>?_) (λn e he ht=>?_) (λn m k h h'=>uJ.inj hσ hT.freed h h') (λn hn=>?_)
  · rcases hlook n e he with ⟨c,m,x,xs,h1,rfl,h2,h3,h4⟩|⟨c,m,m',xs,h1,rfl,h2,h3⟩|⟨ss,cs,cs',h1,rfl,h2,h3⟩|⟨h1,h2⟩|⟨c,xs,h1,rfl,h2⟩
    · exact⟨h4.esz,h4.rep,h4.imm,h4.nod⟩
    · obtain⟨k1,k2,k3,k4⟩:=pS hI.mem h2;obtain⟨e1,e2,e3,e4⟩:=hold n (by unfold dom;rw[h2];simp) (λe m h=>by rw[h1]at h;cases h);refine⟨e2.trans k1,?_,?_,λhm=>?_⟩
      · show qz w c xs (f n).loc (f n).top (f n).nest;rw[e1,e3,e4];exact k2
      · show ∀b∈(f n).nest,g.I b;rw[e4];exact k3
      · show (f n).nest.Nodup;rw[e4];exact k4 (h3 hm)
    · obtain⟨b,us,k1,k2,k3,k4⟩:=hI.mem.rep n _ h2;obtain⟨e1,e2,e3,e4⟩:=hold n (by unfold dom;rw[h2];simp) (λe m h=>by rw[h1]at h;cases h);exact⟨b,us,e3.trans k1,e1.trans k2,k3,wD g1 h3 (hokbox n ss h1) k4⟩
    · rcases h2 with ⟨_,rfl⟩|⟨_,h3,h4⟩
      · trivial
      · have hrep:=hI.mem.rep n e h4;obtain⟨e1,e2,e3,e4⟩:=hold n (by unfold dom;rw[h4];simp) (λe m h=>by rw[h1]at h;cases h);cases e with
        | gone=>trivial
        | fwd c xs=>show vr _ w (.sl c) xs (f n).loc;rw[e1];exact hrep
        | root c m xs =>
         obtain⟨k1,k2,k3,k4⟩:=hrep;refine⟨e2.trans k1,?_,?_,λhm=>?_⟩
         · show qz w c xs (f n).loc (f n).top (f n).nest;rw[e1,e3,e4];exact k2
         · show ∀b∈(f n).nest,g.I b;rw[e4];exact k3
         · show (f n).nest.Nodup;rw[e4];exact k4 hm
        | box cs =>
         obtain⟨b,us,k1,k2,k3,k4⟩:=hrep;refine⟨b,us,e3.trans k1,e1.trans k2,k3,?_⟩;exact p5.imp (λ_ _ h=>h.mono hle) (sH k4 (hbox_old n cs h3))
        | tree c xs =>
         obtain⟨k1,k2,k3⟩:=hrep;refine⟨e2.trans k1,?_,?_⟩
         · show rM w c xs (f n).loc (f n).nest (g.rows n);rw[e1,e4];exact k2
         · show (f n).nest.Nodup;rw[e4];exact k3
    · obtain⟨k1,k2,k3⟩:=hI.mem.rep n _ h2;obtain⟨e1,e2,e3,e4⟩:=hold n (by unfold dom;rw[h2];simp) (λe m h=>by rw[h1]at h;cases h);refine⟨e2.trans k1,?_,?_⟩
      · show rM w c xs (f n).loc (f n).nest (g.rows n);rw[e1,e4];exact k2
      · show (f n).nest.Nodup;rw[e4];exact k3
  · have hkeep:∀{k:an} {e':Entry},oS S'.en n=some e'->e'.alive=true->(e.deep=true->e'.deep=true)->(∀e m,oS s.en n≠some (.root e m))->uJ S S' M s n n ->
     ((g.all f).top n=none/\(g.all f).nest n=[])\/∃k f',oS S'.en k=some f'/\f'.alive=true/\(e.deep=true->f'.deep=true)/\(g.all f).top n=g.top k/\(∀b∈(g.all f).nest n,b∈g.nest k)/\uJ S S' M s n k:=by
     intro _ e' h1 h2 h3 h4 h5;obtain⟨e1,e2,e3,e4⟩:=hold n (by unfold dom;rw[h1];simp) h4;exact .inr ⟨n,e',h1,h2,h3,e3,λb hb=>by rw[←e4];exact hb,h5⟩
    rcases hlook n e he with ⟨c,m,x,xs,h1,rfl,h2,h3,h4⟩|⟨c,m,m',xs,h1,rfl,h2,h3⟩|⟨ss,cs,cs',h1,rfl,h2,h3⟩|⟨h1,h2⟩|⟨c,xs,h1,rfl,h2⟩
    · rcases h4.old with ⟨k1,k2⟩|⟨r,m',ys,k1,k2,k3,k4,k5⟩
      · exact .inl ⟨k1,k2⟩
      · exact .inr ⟨r,_,k2,rfl,k5,k3,k4,.inl ⟨c,m,x,c,m',ys,h1,h2,k1,k2⟩⟩
    · exact hkeep (k:=n) h2 rfl h3 (λe m h=>by rw[h1]at h;cases h) (.inr (.inl ⟨rfl,c,m,h1⟩))
    · exact hkeep (k:=n) h2 rfl (λh=>by cases h) (λe m h=>by rw[h1]at h;cases h) (.inr (.inr (.inl ⟨rfl,ss,cs,h1,h2⟩)))
    · rcases h2 with ⟨_,rfl⟩|⟨hM,h3,h4⟩
      · cases ha
      · exact hkeep (k:=n) h4 ha id (λe m h=>by rw[h1]at h;cases h) (.inr (.inr (.inr ⟨rfl,h1,hM,by unfold dom;rw[h3];simp⟩)))
    · cases ha
  · rcases hlook n e he with ⟨c,m,x,xs,h1,rfl,h2,h3,h4⟩|⟨c,m,m',xs,h1,rfl,h2,h3⟩|⟨ss,cs,cs',h1,rfl,h2,h3⟩|⟨h1,h2⟩|⟨c,xs,h1,rfl,h2⟩
    · cases ht
    · cases ht
    · cases ht
    · rcases h2 with ⟨_,rfl⟩|⟨hM,h3,h4⟩
      · cases ht
      · exact⟨⟨e,h4,ht⟩,(hold n (by unfold dom;rw[h4];simp) (λe m h=>by rw[h1]at h;cases h)).2.2.2⟩
    · exact⟨⟨_,h2,rfl⟩,(hold n (by unfold dom;rw[h2];simp) (λe m h=>by rw[h1]at h;cases h)).2.2.2⟩
  · show ((f n).loc).oneCell'=true;have:=hf n
    unfold xz at this;split at this
    · obtain⟨x,xs,_,_,h⟩:=this;exact h.one
    · by_cases hd:dom S'.en n
      · rw[(this.1 hd).1];exact hI.mem.one n hd
      · rw[this.2 hd];rfl
 have htmv:∀t,(∃agg ss cs,oS s.tm t=some (agg,ss)/\tn agg (S'.tmp t)=true/\(s.over ⟨W++S.tm,M++S.en⟩ d).tmp t=rm agg cs/\uH S' (s.sigma S') ss (S'.tmp t).cells cs) \/
  (s.over ⟨W++S.tm,M++S.en⟩ d).tmp t=.undef\/(S'.tmp t=S.tmp t/\(s.over ⟨W++S.tm,M++S.en⟩ d).tmp t=S.tmp t):=by
  intro t;have h0:=htm t
  unfold xx at h0;unfold St.tmp;rw[hTd,pB];cases hs:oS s.tm t with
  | some q =>
   obtain⟨agg,ss⟩:=q;rw[hs]at h0;obtain⟨h1,cs,h2,h3⟩:=h0;rw[h2];exact .inl ⟨agg,ss,cs,rfl,h1,rfl,h3⟩
  | none =>
   rw[hs]at h0;simp only at h0;rw[h0,pB];cases hW:oS W t with
   | some v=>obtain rfl:=hT.undef t v hW;exact .inr (.inl rfl)
   | none=>exact .inr (.inr ⟨hT.tm t hW,rfl⟩)
 have hoktm:∀t agg ss,oS s.tm t=some (agg,ss)->ss.all ok=true:=λt agg ss h=>by
  have:=all_eq_true.1 hokt _ (pG h);exact this
 refine⟨g.all f,⟨by rw[hE];exact hMS.mem,by rw[hE];exact hMS.since,λt=>?_,hI.plain⟩,hle,⟨λt=>?_,?_⟩⟩
 · rw[hE];rcases htmv t with ⟨agg,ss,cs,h1,h2,h3,h4⟩|h|⟨h1,h2⟩
   · rw[h3];have hv:=hI.tmps t
     have hal:=hoktm t agg ss h1;cases hx:S'.tmp t with
     | cell c =>
      rw[hx]at h2 h4 hv;cases agg with
      | true=>cases h2
      | false =>
       have hl:=yQ h4;have:=wD (vs:=[a.tmps.getD t undef]) g1 h4 hal (show p5 _ [c] _ from⟨hv,trivial⟩)
       cases cs with
       | nil=>simp[AV.cells]at hl
       | cons y ys=>cases ys with
        | nil=>exact this.1
        | cons _ _=>simp[AV.cells]at hl
     | agg ds =>
      rw[hx]at h2 h4 hv;cases agg with
      | false=>cases h2
      | true =>
       obtain⟨vs,e,k⟩:=hv;have:=wD g1 h4 hal k
       have hav:rm true cs=.agg cs:=by cases cs<;>rfl
       rw[hav];exact⟨vs,e,this⟩
     | tup l=>rw[hx]at h2;cases agg<;>cases h2
   · rw[h];exact trivial
   · rw[h2];have hv:=hI.tmps t
     rw[h1]at hv;exact (hv.restrict (hcS.tmp t)).mono hle
 · rw[hE];rcases htmv t with ⟨agg,ss,cs,h1,h2,h3,h4⟩|h|⟨h1,h2⟩
   · rw[h3];have hin:=zT g2 h4 (hoktm t agg ss h1)
     have:=ze (agg:=agg) hin;cases hav:rm agg cs with
     | cell c=>rw[hav]at this;exact this
     | agg ds=>rw[hav]at this;exact this
     | tup l=>rw[hav]at this;exact this.elim
   · rw[h];exact pj rfl
   · rw[h2];exact (hcS.tmp t).mono hdomS
 · intro n cs hn c hc;rw[hE]at hn ⊢;rcases hlook n _ hn with ⟨_,_,_,_,_,h,_⟩|⟨_,_,_,_,_,h,_⟩|⟨ss,cs1,cs',h1,h,h2,h3⟩|⟨h1,h2⟩|⟨_,_,_,h,_⟩
   · cases h
   · cases h
   · cases h;exact zT g2 h3 (hokbox n ss h1) c hc
   · rcases h2 with ⟨_,h⟩|⟨_,h3,_⟩
     · cases h
     · exact (hbox_old n cs h3 c hc).mono hdomS
   · cases h
end Go.V
namespace Go.V
variable {P:Program} {w0:World} {T N:Nat->Prop} {S S' S1 S2:St} {g g1:Gh} {w w1 w':World} {a a':Act} {G:qd} {nt:Nat} {ann:List (Nat×p3)}

theorem u9.refl (S:St):u9 S S:=⟨⟨[],rfl⟩,⟨[],rfl⟩⟩
theorem u9.trans (h:u9 S S1) (k:u9 S1 S2):u9 S S2:=by
 obtain⟨⟨x,hx⟩,hy⟩:=h;obtain⟨⟨z,hz⟩,ht⟩:=k;exact⟨⟨z++x,by rw[hz,hx,append_assoc]⟩,xt ht hy⟩
theorem At.trans {D0:an->Prop} {g0:Gh} {w00:World} (hle:Le D0 g0 w00 (dom S.en) g w) (h:At w0 T N nt (dom S.en) g w S' a' w'):At w0 T N nt D0 g0 w00 S' a' w':=by
 obtain⟨g',h1,h2,h3⟩:=h;exact⟨g',h1,h2,hle.trans h3⟩
theorem BC {α β:Type} {step:α->Option (α⊕β)} {x:α} {y:β} (h:loop step x=some y):∃k,r8 step k x=some y:=by
 unfold loop at h;split at h
 · exact⟨_,h⟩
 · cases h

theorem rR:∀{l:List (an×rn)} {n:an} {e:Entry},oS (qI l) n=some e->e=.gone
 | [],n,e,h=>by cases h
 | (k,.box ss)::l,n,e,h=>by
  simp only[qI,p8]at h;split at h
  · cases h;rfl
  · exact rR h
 | (k,.keep c m)::l,n,e,h=>by
  simp only[qI,p8]at h;split at h
  · cases h;rfl
  · exact rR h
 | (k,.root c m)::l,n,e,h=>rR (l:=l) h
 | (k,.tree c)::l,n,e,h=>by
  simp only[qI,p8]at h;split at h
  · cases h;rfl
  · exact rR h
theorem uK:∀{l:List (an×Cell)} {n:an} {e:Entry},oS (si l) n=some e->e=.gone
 | [],n,e,h=>by cases h
 | (k,x)::l,n,e,h=>by
  simp only[si]at h;split at h
  · rw[p8]at h;split at h
    · cases h;rfl
    · exact uK h
  · exact uK h
theorem BD {L:p3} {n:an} {e:Entry} (h:oS (L.mods S) n=some e):e=.gone:=by
 unfold p3.mods at h;rw[pB]at h;split at h
 · rename_i hx;cases h;exact rR hx
 · rw[pB]at h;split at h
   · rename_i hx;cases h;exact rR hx
   · rw[pB]at h;split at h
     · rename_i hx;cases h;cases hb:L.back with
       | none=>rw[hb]at hx;cases hx
       | some s=>rw[hb]at hx;exact rR hx
     · exact uK h
theorem BS {l:List (an×rn)} {n:an} (h:sD l n=true):n∈(qI l).map (·.1):=by
 induction l with
 | nil=>cases h
 | cons p l ih =>
  obtain⟨k,x⟩:=p;simp only[sD,any_cons,Bool.or_eq_true,aT]at h;rcases h with ⟨h1,h2⟩|h
  · obtain rfl:=Nat.eq_of_beq_eq_true h1;cases x with
    | root c m=>cases h2
    | keep c m=>simp[qI]
    | tree c=>simp[qI]
    | box ss=>simp[qI]
  · have:=ih h;cases x with
    | root c m=>exact this
    | keep c m=>exact mem_cons_of_mem _ this
    | tree c=>exact mem_cons_of_mem _ this
    | box ss=>exact mem_cons_of_mem _ this
theorem B7 {l:List (an×Cell)} {p:an×Cell} {r:an} (hp:p∈l) (hr:rq p.2=some r):r∈(si l).map (·.1):=by
 induction l with
 | nil=>simp at hp
 | cons q l ih =>
  obtain⟨k,x⟩:=q;simp only[si];rcases mem_cons.1 hp with rfl|hp
  · simp only at hr;rw[hr];simp
  · split
    · exact mem_cons_of_mem _ (ih hp)
    · exact ih hp
theorem y0 {L:p3} {n:an} (h:n∈(qI L.head.en).map (·.1)\/n∈(qI L.out.en).map (·.1)\/n∈(Bj L.back).map (·.1)\/n∈(si (L.head.sigma S)).map (·.1)):oS (L.mods S) n≠none:=by
 rw[←rj];unfold p3.mods;simp only[map_append,mem_append];rcases h with h|h|h|h
 · exact .inl h
 · exact .inr (.inl h)
 · exact .inr (.inr (.inl h))
 · exact .inr (.inr (.inr h))
theorem AE:∀{c:Code} {t:Nat} {v:AV},(t,v)∈u0 c->v=.undef:=by
 have hf:∀(l:List (Nat×Oper)) (t:Nat) (v:AV),(t,v)∈qZ l->v=.undef:=by
  intro l
  induction l with
  | nil=>intro t v h;simp[qZ]at h
  | cons p l ih =>
   intro t v h;obtain⟨i,o⟩:=p;simp only[qZ]at h;split at h
   · rcases mem_cons.1 h with h|h
     · exact (Prod.mk.inj h).2
     · exact ih t v h
   · exact ih t v h
 intro c
 induction c with
 | region id ops draw=>intro t v h;exact hf _ t v h
 | seq x y ihx ihy=>intro t v h;exact (mem_append.1 h).elim ihx ihy
 | cond o x y ihx ihy=>intro t v h;exact (mem_append.1 h).elim ihx ihy
 | block i x ih=>intro t v h;exact ih h
 | loop x ih=>intro t v h;exact ih h
 | _=>intro t v h;simp[u0]at h
theorem sJ:∀(l:List (an×rn)) (z:oW (q9 l)),(rf l z).map (·.1)=l.map (·.1)
 | [],z=>rfl
 | (n,.root e m)::l,z=>congrArg (n :: ·) (sJ l _)
 | (n,.keep e m)::l,z=>congrArg (n :: ·) (sJ l _)
 | (n,.box ss)::l,z=>congrArg (n :: ·) (sJ l _)
 | (n,.tree e)::l,z=>congrArg (n :: ·) (sJ l _)
theorem yv:∀(l:List (Nat×Bool×List qb)) (R:List Cs) (z:oW (uf l R)),(rK l R z).1.map (·.1)=l.map (·.1)
 | [],R,z=>rfl
 | (t,agg,ss)::l,R,z=>congrArg (t :: ·) (yv l R _)
theorem xA {α:Type} {old nw:List (Nat×α)}:z9 old (nw++old)=nw:=by
 unfold z9;rw[List.length_append,Nat.add_sub_cancel,List.take_left]
theorem AF {α:Type} {l:List (Nat×α)} {n:Nat} (h:∀p∈l,p.1≠n):oS l n=none:=by
 cases hf:oS l n with
 | none=>rfl
 | some x=>exact absurd rfl (h _ (pG hf))
def p3.has (L:p3) (s:pR):Prop:=s=L.head\/s=L.out\/L.back=some s
theorem p3.has_ok {L:p3} {s:pR} {body:Code} (h:L.has s) (hk:L.okAt body S=true):s.okAt S=true:=by
 simp only[p3.okAt,aT]at hk;obtain⟨h1,h2,h3,h4⟩:=hk;rcases h with rfl|rfl|h
 · exact h1
 · exact h2
 · rw[h]at h4;exact h4
theorem p3.has_kept {L:p3} {s:pR} (h:L.has s) {n:an} (hn:sD s.en n=true):oS (L.mods S) n≠none:=by
 have:=BS hn;rcases h with rfl|rfl|h
 · exact y0 (.inl this)
 · exact y0 (.inr (.inl this))
 · exact y0 (.inr (.inr (.inl (by rw[h];exact this))))
theorem vD.entry {L:p3} {body:Code} (hk:L.okAt body S=true):vD S S (L.mods S) (u0 body) L.head:=by
 refine⟨λn e h=>BD h,λt v h=>AE (pG h),λn h=>h,λn _ _=>rfl,λt _=>rfl,λn h=>p3.has_kept (.inl rfl) h,p3.has_ok (.inl rfl) hk,?_⟩;refine all_eq_true.2 λp hp=>?_;split
 · rfl
 · rename_i r hr;split
   · rfl
   · have:=y0 (L:=L) (S:=S) (.inr (.inr (.inr (B7 hp hr))));cases h:oS (L.mods S) r with
     | none=>exact absurd h this
     | some _=>rfl
theorem vD.behind {L:p3} {body:Code} {d:L.head.den} {s:pR} (hk:L.okAt body S=true) (hs:L.has s) (hx:u9 (L.head.over (L.base body S) d) S') (hn:L.okNew body S (L.head.over (L.base body S) d) S'=true) (hf:Go.V.freed S (L.mods S) (s.sigma S')=true) :
 vD S S' (L.mods S) (u0 body) s:=by
 obtain⟨⟨nw,hen⟩,nt,htm⟩:=hx;have hE:S'.en=nw++((L.head.st d).en++(L.mods S++S.en)):=hen
 have hT:S'.tm=nt++((L.head.st d).tm++(u0 body++S.tm)):=htm;have hk':=hk
 simp only[p3.okAt,aT]at hk';have hk1:=hk'.1
 simp only[pR.okAt,aT]at hk1;simp only[p3.okNew,aT]at hn;rw[hen,htm,xA,xA]at hn;refine⟨λn e h=>BD h,λt v h=>AE (pG h),λn h=>?_,λn hm hd=>?_,λt ht=>?_,λn h=>p3.has_kept hs h,p3.has_ok hs hk,hf⟩
 · rw[hE];exact rA _ _ _ (rA _ _ _ (rA _ _ _ h))
 · rw[hE,pB,AF λp hp he=>?_]
   · simp only;rw[pB];have:oS (L.head.st d).en n=none:=by
      cases hf:oS (L.head.st d).en n with
      | none=>rfl
      | some y =>
       exfalso;have h1:n∈(rf L.head.en (rK L.head.tm (q9 L.head.en) d).2).map (·.1):=rj.2 (by rw[show oS (rf L.head.en (rK L.head.tm (q9 L.head.en) d).2) n=some y from hf];simp)
       rw[sJ]at h1;obtain⟨p,hp,rfl⟩:=mem_map.1 h1;obtain⟨k,x⟩:=p;cases x with
       | root e m=>exact hd (rO hk1.1 hp)
       | keep e m=>exact p3.has_kept (S:=S) (L:=L) (.inl rfl) (yP (tg hk1.2.1 hp) (by simp)) hm
       | tree e=>exact p3.has_kept (S:=S) (L:=L) (.inl rfl) (yP (tg hk1.2.1 hp) (by simp)) hm
       | box ss=>exact p3.has_kept (S:=S) (L:=L) (.inl rfl) (yP (tg hk1.2.1 hp) (by simp)) hm
     rw[this];simp only;rw[pB,hm]
   · have:=all_eq_true.1 hn.1 p hp;rw[he]at this;split at this
     · rename_i h;exact hd h
     · rw[hm]at this;cases this
 · unfold St.tmp;rw[hT,pB,AF λp hp he=>?_]
   · simp only;rw[pB];have:oS (L.head.st d).tm t=none:=by
      cases hf:oS (L.head.st d).tm t with
      | none=>rfl
      | some y =>
       exfalso;have h1:t∈(rK L.head.tm (q9 L.head.en) d).1.map (·.1):=rj.2 (by rw[show oS (rK L.head.tm (q9 L.head.en) d).1 t=some y from hf];simp)
       have h1:t∈L.head.tm.map (·.1):=(yv L.head.tm (q9 L.head.en) d)▸h1;obtain⟨p,hp,rfl⟩:=mem_map.1 h1;have:=all_eq_true.1 hk'.2.2.1 p hp
       rw[ht]at this;cases this
     rw[this];simp only;rw[pB,ht]
   · have:=all_eq_true.1 hn.2 p hp;rw[he,ht]at this;cases this
theorem vE {A:Type} {L:p3} {body:Code} {H:St} {s:pR} {k:s.den->Option A} {r:A} (h:L.leave body S H s S' k=some r) :
 p6 (s.seals S')=true/\L.okNew body S H (s.shut S')=true/\freed S (L.mods S) (s.sigma (s.shut S'))=true/\∃d,s.read (s.shut S')=some d/\k d=some r:=by
 unfold p3.leave at h;cases hc:(p6 (s.seals S')&&(L.okNew body S H (s.shut S')&&freed S (L.mods S) (s.sigma (s.shut S'))))with
 | false=>rw[hc]at h;cases h
 | true =>
  rw[hc]at h;simp only[aT,cT]at hc h;cases hd:s.read (s.shut S')with
  | none=>rw[hd]at h;cases h
  | some d=>rw[hd]at h;exact⟨hc.1,hc.2.1,hc.2.2,d,rfl,h⟩
theorem zU {s:pR} {L:p3} {body:Code} {d:s.den}:u9 S (s.over (L.base body S) d):=by
 refine⟨⟨(s.st d).en++L.mods S,?_⟩,⟨(s.st d).tm++u0 body,?_⟩⟩
 · show (s.st d).en++(L.mods S++S.en)=_;rw[append_assoc]
 · show (s.st d).tm++(u0 body++S.tm)=_;rw[append_assoc]
end Go.V
namespace Go.V
variable {P:Program} {w0:World} {T N:Nat->Prop} {S S' S1 S2:St} {g g1:Gh} {w w1 w':World} {a a':Act} {G:qd} {nt:Nat} {ann:List (Nat×p3)}

structure I6 (w0:World) (T N:Nat->Prop) (nt:Nat) (S:St) (g:Gh) (w:World) {A:Type} (K:wu A) (r:A) (Q:Exit->Act->World->Prop):Prop where
 n:∀S' a' w',pI S'->u9 S S'->At w0 T N nt (dom S.en) g w S' a' w'->K.n S'=some r->Q .normal a' w'
 x:∀i S' a' w',pI S'->u9 S S'->At w0 T N nt (dom S.en) g w S' a' w'->K.x i S'=some r->Q (.exit i) a' w'
 r:∀S' a' w',pI S'->u9 S S'->At w0 T N nt (dom S.en) g w S' a' w'->K.r S'=some r->Q .ret a' w'
def tS (P:Program) (G:qd) (ann:List (Nat×p3)) (nt:Nat) (c:Code):Prop :=
 ∀{A:Type} {w0:World} {T N:Nat->Prop} {S:St} {K:wu A} {r:A} {g:Gh} {w:World} {a:Act} {Q:Exit->Act->World->Prop},sa nt c=true->pq w0 T N S g w a->nt<=a.tmps.size->pI S->s5 G ann c S K=some r ->
  I6 w0 T N nt S g w K r Q->c.wp P Q a w
theorem pJ {α β:Type} (step:α->Option (α⊕β)) (k:Nat) (x:α):r8 step (k+1) x=(step x).bind (Sum.elim (r8 step k) some):=by
 show (step x).bind _=_
 congr 1
 funext v
 cases v<;>rfl
theorem vj {S:St}:∀{l:List qb} {xs:List Cell},po S.en false true (sU S l xs)
 | [],xs=>by intro p hp;cases xs<;>simp[sU]at hp
 | s::l,[]=>by intro p hp;cases s<;>simp[sU]at hp
 | s::l,x::xs=>by
  have ih:=vj (S:=S) (l:=l) (xs:=xs);have key:∀{c:CT} {x:Cell},po S.en false true (sU S (.dat c::l) (x::xs)):=by
   intro c x;cases c with
   | sl e=>cases x with
    | own r =>
     intro p hp;simp only[sU]at hp;rcases mem_append.1 hp with hp|hp
     · split at hp
       · rename_i e' m ys hr;obtain rfl:=mem_singleton.1 hp;exact⟨e',m,ys,hr,(λh=>by cases h),rfl⟩
       · simp at hp
     · exact ih p hp
    | _=>exact ih
   | _=>exact ih
  cases s with
  | dat c=>exact key
  | _=>exact ih
theorem y5 {s:pR} {S:St}:po S.en false true (s.seals S):=by
 refine po.append (λp hp=>?_) (λp hp=>?_)
 · obtain⟨q,_,hp⟩:=mem_flatMap.1 hp;exact vj p hp
 · obtain⟨q,_,hp⟩:=mem_flatMap.1 hp;split at hp
   · split at hp
     · exact vj p hp
     · simp at hp
   · simp at hp
theorem CA {l:List (an×Entry)} {D:an->Prop} {H:St} (hu:po S'.en false true l) (hd:p6 l=true) (hc:pI S') (he:u9 H S') (hat:At w0 T N nt D g w S' a' w') :
 pI (S'.more l)/\u9 H (S'.more l)/\At w0 T N nt D g w (S'.more l) a' w':=by
 obtain⟨g1,hI,hn,hle0⟩:=hat;obtain⟨g2,hM,hle,_⟩:=hI.ms.useAll hu hd;have hdom:∀n,dom S'.en n->dom (S'.more l).en n:=λn h=>sR h
 refine⟨⟨λt=>(hc.tmp t).mono hdom,λn cs h=>?_⟩,he.trans ⟨⟨_,rfl⟩,⟨[],rfl⟩⟩,g2,⟨hM.mem,hM.since,λt=>(hI.tmps t).mono hle,hI.plain⟩,hn,hle0.trans hle⟩;have h:oS (l++S'.en) n=some (.box cs):=h
 rw[pB]at h;split at h
 · rename_i y hy;cases h;obtain⟨_,_,_,_,_,he⟩:=hu _ (pG hy);cases he
 · exact λc hc'=>(hc.box n cs h c hc').mono hdom
theorem yR {L:p3} {body:Code} (hb:tS P G ann nt body) (hbel:sa nt body=true) (hk:L.okAt body S=true) (hcS:pI S) {β:Type} {KX:L.head.den->Nat->St->Option (L.head.den⊕β)} {KR:L.head.den->St->Option (L.head.den⊕β)} {y:β}
 {Q:Exit->Act->World->Prop} {step:L.head.den->Option (L.head.den⊕β)}
 (hstep:∀d,step d=s5 G ann body (L.head.over (L.base body S) d) ⟨λS'=>L.leave body S (L.head.over (L.base body S) d) L.head S' λd=>some (.inl d),KX d,KR d⟩)
 (hx:∀d i S' a' w' v,pI S'->u9 (L.head.over (L.base body S) d) S'->At w0 T N nt (dom S.en) g w S' a' w'->KX d i S'=some v->(∀d',v≠.inl d')/\(v=.inr y->Q (.exit i) a' w'))
 (hr:∀d S' a' w' v,pI S'->u9 (L.head.over (L.base body S) d) S'->At w0 T N nt (dom S.en) g w S' a' w'->KR d S'=some v->(∀d',v≠.inl d')/\(v=.inr y->Q .ret a' w'))
 (hkx:True):∀(k:Nat) (d:L.head.den) (a':Act) (w':World),r8 step k d=some y->pI (L.head.over (L.base body S) d)->At w0 T N nt (dom S.en) g w (L.head.over (L.base body S) d) a' w'->Code.rounds P body Q k a' w'
 | 0,d,a',w',h,_,_=>by cases h
 | k+1,d,a',w',h,hc,hat=>by
  rw[pJ]at h;rw[Option.bind_eq_some_iff]at h;obtain⟨v,hv,hgo⟩:=h;rw[hstep]at hv;obtain⟨g1,hI,hn,hle⟩:=hat;rw[rounds_succ];refine hb hbel hI hn hc hv ⟨λS' a2 w2 hc' he hat' hkn=>?_,λi S' a2 w2 hc' he hat' hkx=>?_,λS' a2 w2 hc' he hat' hkr=>?_⟩
  · obtain⟨hd1,hn1,hf1,d',hd',hinl⟩:=vE hkn;cases hinl;obtain⟨_,he,g2,hI2,hn2,hle2⟩:=CA y5 hd1 hc' he hat';have hT:=vD.behind hk (.inl rfl) he hn1 hf1
    obtain⟨g3,k1,k2,k3⟩:=xZ hI2 hcS hT hd';refine yR hb hbel hk hcS hstep hx hr hkx k d' a2 w2 hgo k3 ⟨g3,k1,hn2,?_⟩;have hle3:=hle.trans hle2
    exact⟨k2.dom,λn hn=>(k2.loc n hn).trans (hle3.loc n hn),λn hn=>(k2.esz n hn).trans (hle3.esz n hn),λb hb=>k2.imm b (hle3.imm b hb),hle3.mem,λn hn=>(k2.rows n hn).trans (hle3.rows n hn)⟩
  · obtain⟨h1,h2⟩:=hx d i S' a2 w2 v hc' he (At.trans hle hat') hkx;cases v with
    | inl d'=>exact absurd rfl (h1 d')
    | inr b=>cases hgo;exact h2 rfl
  · obtain⟨h1,h2⟩:=hr d S' a2 w2 v hc' he (At.trans hle hat') hkr;cases v with
    | inl d'=>exact absurd rfl (h1 d')
    | inr b=>cases hgo;exact h2 rfl
theorem B8 {L:p3} {body:Code} {s:pR} {d:L.head.den} {d':s.den} (hk:L.okAt body S=true) (hs:L.has s) (hcS:pI S) (hc':pI S') (he:u9 (L.head.over (L.base body S) d) S') (hat:At w0 T N nt (dom S.en) g w S' a' w')
 (h0:p6 (s.seals S')=true) (h1:L.okNew body S (L.head.over (L.base body S) d) (s.shut S')=true) (h2:freed S (L.mods S) (s.sigma (s.shut S'))=true) (h3:s.read (s.shut S')=some d') :
 pI (s.over (L.base body S) d')/\At w0 T N nt (dom S.en) g w (s.over (L.base body S) d') a' w':=by
 obtain⟨_,he,g2,hI2,hn2,hle2⟩:=CA y5 h0 hc' he hat;obtain⟨g3,k1,k2,k3⟩:=xZ hI2 hcS (vD.behind hk hs he h1 h2) h3;exact⟨k3,g3,k1,hn2,⟨k2.dom,λn hn=>(k2.loc n hn).trans (hle2.loc n hn),λn hn=>(k2.esz n hn).trans (hle2.esz n hn),λb hb=>k2.imm b (hle2.imm b hb),hle2.mem,λn hn=>(k2.rows n hn).trans (hle2.rows n hn)⟩⟩
theorem Eq {A:Type} {id:Nat} {b:Code} {S:St} {K:wu A} (h:∀c,b≠.loop c):s5 G ann (.block id b) S K=s5 G ann b S ⟨K.n,λi S'=>cond (Nat.beq i id) (K.n S') (K.x i S'),K.r⟩:=by
 cases b with
 | loop c=>exact absurd rfl (h c)
 | _=>rfl
theorem um {id:Nat} {b:Code} (hb:tS P G ann nt b) (h:∀c,b≠.loop c):tS P G ann nt (.block id b):=by
 intro A w0 T N S K r g w a Q hbel hI hn hc hr hg;rw[Eq h]at hr;refine wp_block (hb hbel hI hn hc hr ⟨hg.n,λi S' a' w' hc' he hat hk=>?_,hg.r⟩);show if i=id then Q .normal a' w' else Q (.exit i) a' w'
 have hk:cond (Nat.beq i id) (K.n S') (K.x i S')=some r:=hk;by_cases hid:i=id
 · subst hid;rw[show Nat.beq i i=true from Nat.beq_refl i]at hk;rw[if_pos rfl];exact hg.n S' a' w' hc' he hat hk
 · have hb:Nat.beq i id=false:=by cases hbb:Nat.beq i id with
    | false=>rfl
    | true=>exact absurd (Nat.eq_of_beq_eq_true hbb) hid
   rw[hb]at hk;rw[if_neg hid];exact hg.x i S' a' w' hc' he hat hk
theorem GF {id:Nat} {body:Code} (hb:tS P G ann nt body) {A:Type} {w0:World} {T N:Nat->Prop} {S:St} {K:wu A} {r:A} {g:Gh} {w:World} {a:Act} {Q:Exit->Act->World->Prop} (hbel:sa nt body=true) (hI:pq w0 T N S g w a) (hn:nt<=a.tmps.size) (hcS:pI S)
 (hr:xR ann id body (λS K=>s5 G ann body S K) S K=some r) (hg:I6 w0 T N nt S g w K r Q):(Code.block id (.loop body)).wp P Q a w:=by
 cases hL:oS ann id with
 | none =>
  have hr:(match oS ann id with|none=>none|some L=>_:Option A)=some r:=hr;rw[hL]at hr;cases hr
 | some L =>
  obtain⟨head,out,bk⟩:=L;cases bk with
  | none =>
   have hr:(match oS ann id with
    | none=>none
    | some L=>cond (L.okAt body S) (match L.head.read S with
     | none=>none
     | some d=>match L with
      | ⟨head,out,none⟩=>(loop (λd:head.den=>let H:=head.over (p3.base ⟨head,out,none⟩ body S) d
       s5 G ann body H ⟨λS'=>p3.leave ⟨head,out,none⟩ body S H head S' λd=>some (.inl d),
        λi S'=>cond (Nat.beq i id) (p3.leave ⟨head,out,none⟩ body S H out S' λd=>some (.inr d)) none,λ_=>none⟩) d).bind
       λd=>K.n (out.over (p3.base ⟨head,out,none⟩ body S) d)
      | ⟨head,out,some back⟩=>_) none:Option A)=some r:=hr
   rw[hL]at hr;simp only at hr;cases hk:p3.okAt ⟨head,out,none⟩ body S with
   | false=>rw[hk]at hr;cases hr
   | true =>
    rw[hk]at hr;simp only[cT]at hr;cases hd:head.read S with
    | none=>rw[hd]at hr;cases hr
    | some d0 =>
     rw[hd]at hr;simp only at hr;rw[Option.bind_eq_some_iff]at hr;obtain⟨y,hy,hend⟩:=hr;obtain⟨k,hit⟩:=BC hy;obtain⟨g3,k1,k2,k3⟩:=xZ hI hcS (vD.entry hk) hd;refine wp_block (wp_loop_rounds k (yR (L:=⟨head,out,none⟩) hb hbel hk hcS (w0:=w0) (T:=T) (N:=N) (g:=g) (w:=w) (β:=out.den) (KX:=λd i S'=>cond (Nat.beq i id) (p3.leave ⟨head,out,none⟩ body S (head.over (p3.base ⟨head,out,none⟩ body S) d) out S' λd=>some (.inr d)) none) (KR:=λ_ _=>none) (λd=>rfl) (λd i S' a' w' v hc' he hat hkx=>?_) (λd S' a' w' v hc' he hat hkr=>by cases hkr) trivial k d0 a w hit k3 ⟨g3,k1,hn,k2⟩));have hkx:cond (Nat.beq i id) (p3.leave ⟨head,out,none⟩ body S (head.over (p3.base ⟨head,out,none⟩ body S) d) out S' λd=>some (.inr d)) none=some v:=hkx
     cases hid:Nat.beq i id with
     | false=>rw[hid]at hkx;cases hkx
     | true =>
      have hkx':p3.leave ⟨head,out,none⟩ body S (head.over (p3.base ⟨head,out,none⟩ body S) d) out S' (λd=>some (.inr d))=some v:=by rw[hid]at hkx;exact hkx
      obtain rfl:=Nat.eq_of_beq_eq_true hid;obtain⟨e0,e1,e2,d',e3,e4⟩:=vE (L:=⟨head,out,none⟩) hkx';cases e4;refine⟨(λd h=>by cases h),λhv=>?_⟩;cases hv;obtain⟨f1,f2⟩:=B8 (L:=⟨head,out,none⟩) hk (.inr (.inl rfl)) hcS hc' he hat e0 e1 e2 e3;show if i=i then Q .normal a' w' else _
      rw[if_pos rfl];exact hg.n _ a' w' f1 zU f2 hend
  | some back =>
   have hr:(match oS ann id with
    | none=>none
    | some L=>cond (L.okAt body S) (match L.head.read S with
     | none=>none
     | some d=>match L with
      | ⟨head,out,none⟩=>_
      | ⟨head,out,some back⟩=>(loop (β:=out.den⊕back.den) (λd:head.den=>let H:=head.over (p3.base ⟨head,out,some back⟩ body S) d
       s5 G ann body H ⟨λS'=>p3.leave ⟨head,out,some back⟩ body S H head S' λd=>some (.inl d),
        λi S'=>cond (Nat.beq i id) (p3.leave ⟨head,out,some back⟩ body S H out S' λd=>some (.inr (.inl d))) none,
        λS'=>p3.leave ⟨head,out,some back⟩ body S H back S' λd=>some (.inr (.inr d))⟩) d).bind
       (Sum.elim (λd=>K.n (out.over (p3.base ⟨head,out,some back⟩ body S) d)) (λd=>K.r (back.over (p3.base ⟨head,out,some back⟩ body S) d)))) none:Option A)=some r:=hr
   rw[hL]at hr;simp only at hr;cases hk:p3.okAt ⟨head,out,some back⟩ body S with
   | false=>rw[hk]at hr;cases hr
   | true =>
    rw[hk]at hr;simp only[cT]at hr;cases hd:head.read S with
    | none=>rw[hd]at hr;cases hr
    | some d0 =>
     rw[hd]at hr;simp only at hr;rw[Option.bind_eq_some_iff]at hr;obtain⟨y,hy,hend⟩:=hr;obtain⟨k,hit⟩:=BC hy;obtain⟨g3,k1,k2,k3⟩:=xZ hI hcS (vD.entry hk) hd;refine wp_block (wp_loop_rounds k (yR (L:=⟨head,out,some back⟩) hb hbel hk hcS (w0:=w0) (T:=T) (N:=N) (g:=g) (w:=w) (β:=out.den⊕back.den) (KX:=λd i S'=>cond (Nat.beq i id) (p3.leave ⟨head,out,some back⟩ body S (head.over (p3.base ⟨head,out,some back⟩ body S) d) out S' λd=>some (Sum.inr (Sum.inl d))) none) (KR:=λd S'=>p3.leave ⟨head,out,some back⟩ body S (head.over (p3.base ⟨head,out,some back⟩ body S) d) back S' λd=>some (Sum.inr (Sum.inr d))) (λd=>rfl) (λd i S' a' w' v hc' he hat hkx=>?_) (λd S' a' w' v hc' he hat hkr=>?_) trivial k d0 a w hit k3 ⟨g3,k1,hn,k2⟩))
     · have hkx:cond (Nat.beq i id) (p3.leave ⟨head,out,some back⟩ body S (head.over (p3.base ⟨head,out,some back⟩ body S) d) out S' λd=>some (.inr (.inl d))) none=some v:=hkx;cases hid:Nat.beq i id with
       | false=>rw[hid]at hkx;cases hkx
       | true =>
        have hkx':p3.leave ⟨head,out,some back⟩ body S (head.over (p3.base ⟨head,out,some back⟩ body S) d) out S' (λd=>some (Sum.inr (Sum.inl d)))=some v:=by rw[hid]at hkx;exact hkx
        obtain rfl:=Nat.eq_of_beq_eq_true hid;obtain⟨e0,e1,e2,d',e3,e4⟩:=vE (L:=⟨head,out,some back⟩) hkx';cases e4;refine⟨(λd h=>by cases h),λhv=>?_⟩;cases hv;obtain⟨f1,f2⟩:=B8 (L:=⟨head,out,some back⟩) hk (.inr (.inl rfl)) hcS hc' he hat e0 e1 e2 e3;show if i=i then Q .normal a' w' else _
        rw[if_pos rfl];exact hg.n _ a' w' f1 zU f2 hend
     · obtain⟨e0,e1,e2,d',e3,e4⟩:=vE (L:=⟨head,out,some back⟩) hkr;cases e4;refine⟨(λd h=>by cases h),λhv=>?_⟩;cases hv;obtain⟨f1,f2⟩:=B8 (L:=⟨head,out,some back⟩) hk (.inr (.inr rfl)) hcS hc' he hat e0 e1 e2 e3;exact hg.r _ a' w' f1 zU f2 hend
theorem Er {S:St} {id:Nat}:po S.en false true (tN ann id S):=by
 unfold tN;split
 · exact y5
 · intro p hp;simp at hp
theorem Ht {id:Nat} {body:Code} (hb:tS P G ann nt body):tS P G ann nt (.block id (.loop body)):=by
 intro A w0 T N S K r g w a Q hbel hI hn hcS hr hg;have hr:cond (p6 (tN ann id S)) (xR ann id body (λS K=>s5 G ann body S K) (S.more (tN ann id S)) K) none=some r:=hr
 cases hd:p6 (tN ann id S)with
 | false=>rw[hd]at hr;cases hr
 | true =>
  rw[hd]at hr;have hr:xR ann id body (λS K=>s5 G ann body S K) (S.more (tN ann id S)) K=some r:=hr
  have hu:=Er (ann:=ann) (S:=S) (id:=id);obtain⟨g1,hM,hle,_⟩:=hI.ms.useAll hu hd;have hdom:∀n,dom S.en n->dom (S.more (tN ann id S)).en n:=λn h=>sR h
  have hI1:pq w0 T N (S.more (tN ann id S)) g1 w a:=⟨hM.mem,hM.since,λt=>(hI.tmps t).mono hle,hI.plain⟩;have hc1:pI (S.more (tN ann id S)):=⟨λt=>(hcS.tmp t).mono hdom,λn cs h=>by
   have h:oS (tN ann id S++S.en) n=some (.box cs):=h;rw[pB]at h;split at h
   · rename_i y hy;cases h;obtain⟨_,_,_,_,_,he⟩:=hu _ (pG hy);cases he
   · exact λc hc=>(hcS.box n cs h c hc).mono hdom⟩
  have hx:u9 S (S.more (tN ann id S)):=⟨⟨_,rfl⟩,⟨[],rfl⟩⟩;exact GF hb hbel hI1 hn hc1 hr ⟨λS' a' w' h1 h2 h3 h4=>hg.n S' a' w' h1 (hx.trans h2) (At.trans hle h3) h4,λi S' a' w' h1 h2 h3 h4=>hg.x i S' a' w' h1 (hx.trans h2) (At.trans hle h3) h4,λS' a' w' h1 h2 h3 h4=>hg.r S' a' w' h1 (hx.trans h2) (At.trans hle h3) h4⟩

theorem I7 {x y:Code} (hx:tS P G ann nt x) (hy:tS P G ann nt y):tS P G ann nt (.seq x y):=by
 intro A w0 T N S K r g w a Q hb hI hn hc hr hg;have hb:(sa nt x&&sa nt y)=true:=hb
 rw[aT]at hb;have hr:s5 G ann x S ⟨λS'=>s5 G ann y S' K,K.x,K.r⟩=some r:=hr
 refine wp_seq (hx hb.1 hI hn hc hr ⟨λS1 a1 w1 hc1 he1 hat1 hk1=>?_,λi S1 a1 w1 hc1 he1 hat1 hk1=>hg.x i S1 a1 w1 hc1 he1 hat1 hk1,λS1 a1 w1 hc1 he1 hat1 hk1=>hg.r S1 a1 w1 hc1 he1 hat1 hk1⟩);obtain⟨g1,hI1,hn1,hle1⟩:=hat1;exact hy hb.2 hI1 hn1 hc1 hk1 ⟨λS2 a2 w2 hc2 he2 hat2 hk2=>hg.n S2 a2 w2 hc2 (he1.trans he2) (At.trans hle1 hat2) hk2,
  λi S2 a2 w2 hc2 he2 hat2 hk2=>hg.x i S2 a2 w2 hc2 (he1.trans he2) (At.trans hle1 hat2) hk2,
  λS2 a2 w2 hc2 he2 hat2 hk2=>hg.r S2 a2 w2 hc2 (he1.trans he2) (At.trans hle1 hat2) hk2⟩
theorem Hu {c:Operand} {x y:Code} (hx:tS P G ann nt x) (hy:tS P G ann nt y):tS P G ann nt (.cond c x y):=by
 intro A w0 T N S K r g w a Q hb hI hn hc hr hg;have hb:(sa nt x&&sa nt y)=true:=hb
 rw[aT]at hb;have hr:(match S.eval c with | .cell (.bool t)=>cond t (s5 G ann x S K) (s5 G ann y S K)|_=>none:Option A)=some r:=hr
 split at hr
 · rename_i t he;have hv:a.eval c=.bool t:=ut hI he
   refine wp_cond hv ?_;cases t with
   | true=>exact hx hb.1 hI hn hc hr hg
   | false=>exact hy hb.2 hI hn hc hr hg
 · cases hr
theorem rP (hG:rp P G) (hm:P.follows .mixedOrders=true):∀c,tS P G ann nt c
 | .skip=>λ_ hI hn hc hr hg=>wp_skip (hg.n _ _ _ hc (u9.refl _) ⟨_,hI,hn,Le.refl _ _ _⟩ hr)
 | .region id ops draw=>λhb hI hn hc hr hg=>Ft hG hm hb hI hn hc hr λS' a' w' hc' he hat hk=>hg.n S' a' w' hc' he hat hk
 | .seq x y=>I7 (rP hG hm x) (rP hG hm y)
 | .cond c x y=>Hu (rP hG hm x) (rP hG hm y)
 | .block id (.loop body)=>Ht (rP hG hm body)
 | .block id .skip=>um (rP hG hm .skip) (λc h=>by cases h)
 | .block id (.region i o d)=>um (rP hG hm (.region i o d)) (λc h=>by cases h)
 | .block id (.seq x y)=>um (rP hG hm (.seq x y)) (λc h=>by cases h)
 | .block id (.cond c x y)=>um (rP hG hm (.cond c x y)) (λc h=>by cases h)
 | .block id (.block i x)=>um (rP hG hm (.block i x)) (λc h=>by cases h)
 | .block id (.exit i)=>um (rP hG hm (.exit i)) (λc h=>by cases h)
 | .block id .ret=>um (rP hG hm .ret) (λc h=>by cases h)
 | .block id (.scope x)=>λ_ _ _ _ hr _=>by cases hr
 | .block id (.label l)=>λ_ _ _ _ hr _=>by cases hr
 | .block id (.goto l)=>λ_ _ _ _ hr _=>by cases hr
 | .exit id=>λ_ hI hn hc hr hg=>wp_exit (hg.x id _ _ _ hc (u9.refl _) ⟨_,hI,hn,Le.refl _ _ _⟩ hr)
 | .ret=>λ_ hI hn hc hr hg=>wp_ret (hg.r _ _ _ hc (u9.refl _) ⟨_,hI,hn,Le.refl _ _ _⟩ hr)
 | .loop _=>λ_ _ _ _ hr _=>by cases hr
 | .scope _=>λ_ _ _ _ hr _=>by cases hr
 | .label _=>λ_ _ _ _ hr _=>by cases hr
 | .goto _=>λ_ _ _ _ hr _=>by cases hr
 | .block id (.rangeFunc ..)=>λ_ _ _ _ hr _=>by cases hr
 | .block id (.refuse ..)=>λ_ _ _ _ hr _=>by cases hr
 | .rangeFunc ..=>λ_ _ _ _ hr _=>by cases hr
 | .refuse ..=>λ_ _ _ _ hr _=>by cases hr
end Go.V
namespace Go.V
variable {w0:World} {T N:Nat->Prop} {en en':List (an×Entry)} {g g':Gh} {w:World}

def CT.Gifts (I:Nat->Prop) (w:World):(c:CT)->c.den->Value->List Nat->List Nat->Prop
 | .sl e,xs,v,ts,ns=>∃tp:Option Nat,ts=tp.toList/\qz w e xs v tp ns/\∀b∈ns,I b
 | c,x,v,ts,ns=>ts=[]/\ns=[]/\CT.Rep w c x v []
def Cs.Gifts (I:Nat->Prop) (w:World):(e:Cs)->e.den->List Value->List Nat->List Nat->Prop
 | .one c,x,vs,ts,ns=>∃v,vs=[v]/\CT.Gifts I w c x v ts ns
 | .cons c r,x,vs,ts,ns=>∃v vs' t1 t2 n1 n2,vs=v::vs'/\ts=t1++t2/\ns=n1++n2/\CT.Gifts I w c x.1 v t1 n1/\Cs.Gifts I w r x.2 vs' t2 n2
structure rk (w0:World) (T N:Nat->Prop) (en:List (an×Entry)) (g:Gh) (ts ns:List Nat):Prop where
 t1:uD ts
 n1:uD ns
 tf:∀b∈ts,¬g.I b/\(∀m f,oS en m=some f->f.alive=true->g.top m≠some b)/\(w0.heap.size<=b\/T b)
 nf:∀b∈ns,(∀m f,oS en m=some f->f.deep=true->b∉g.nest m)/\(w0.heap.size<=b\/T b\/N b)
 tw:∀b∈ts,∀m f,oS en m=some f->f.isTree=true->b∉g.nest m
theorem y6 {l m:List Nat} {b:Nat} (h:l.count b<=m.count b) (hb:b∈l):b∈m:=by
 have:=count_pos_iff.2 hb;exact count_pos_iff.1 (by omega)
theorem rk.mono {ts ns ts' ns':List Nat} (h:rk w0 T N en g ts ns) (ht:∀b,ts'.count b<=ts.count b) (hn:∀b,ns'.count b<=ns.count b):rk w0 T N en g ts' ns' :=
 ⟨λb=>Nat.le_trans (ht b) (h.t1 b),λb=>Nat.le_trans (hn b) (h.n1 b),λb hb=>h.tf b (y6 (ht b) hb),λb hb=>h.nf b (y6 (hn b) hb),λb hb=>h.tw b (y6 (ht b) hb)⟩
structure r9 (w0:World) (T N:Nat->Prop) (en:List (an×Entry)) (g:Gh) (w:World) (new:List (an×Entry)) (g':Gh) (ts ns:List Nat):Prop where
 ms:MS w0 T N (new++en) g' w
 le:Le (dom en) g w (dom (new++en)) g' w
 imm:g'.I=g.I
 giv:rk w0 T N (new++en) g' ts ns
theorem r9.refl (h:MS w0 T N en g w) {ts ns:List Nat} (hv:rk w0 T N en g ts ns):r9 w0 T N en g w [] g ts ns:=⟨h,Le.refl _ _ _,rfl,hv⟩
theorem CT.give_put (h:MS w0 T N en g w) {mm:Bool} {c:CT} {x:c.den} {v:Value} {ts ns ts' ns':List Nat} {n:an} (hg:CT.Gifts g.I w c x v ts ns) (hv:rk w0 T N en g (ts++ts') (cond mm ns []++ns')) (hn:oS en n=none) :
 ∃g',r9 w0 T N en g w (c.give mm n x).2 g' ts' ns'/\oY (dom ((c.give mm n x).2++en)) g' w (c.give mm n x).1 v:=by
 have hmono:rk w0 T N en g ts' ns':=hv.mono (λb=>by rw[count_append];omega) (λb=>by rw[count_append];omega);cases c with
 | sl e =>
  obtain⟨tp,rfl,hrep,hI⟩:=hg;have hnd:mm=true->ns.Nodup:=by rintro rfl;rw[←pY];intro b;have:=hv.n1 b;rw[cT,count_append]at this;omega
  have hi1:(g.set n ⟨v,e.len,tp,ns⟩).top n=tp:=by simp[Gh.set]
  have hi2:(g.set n ⟨v,e.len,tp,ns⟩).nest n=ns:=by simp[Gh.set]
  have ho1:∀m,m≠n->(g.set n ⟨v,e.len,tp,ns⟩).top m=g.top m:=λm hm=>by simp[Gh.set,hm]
  have ho2:∀m,m≠n->(g.set n ⟨v,e.len,tp,ns⟩).nest m=g.nest m:=λm hm=>by simp[Gh.set,hm]
  obtain⟨hM,hle⟩:=h.put (n:=n) (e:=.root e mm x) (i:=⟨v,e.len,tp,ns⟩) (λhd=>absurd hn hd) (zI hrep)
   ⟨by simp[Gh.set],by rw[hi1,hi2];show qz w e x (if n=n then v else g.loc n) tp ns;rw[if_pos rfl];exact hrep,by rw[hi2];exact hI,λhm=>by rw[hi2];exact hnd hm⟩
   (λ_ b hb=>by
    obtain⟨k1,k2,k3⟩:=hv.tf b (mem_append_left _ (by simpa using hb));exact⟨k1,λm f _ hm ha=>k2 m f hm ha,k3,λm f _ hm ht=>hv.tw b (mem_append_left _ (by simpa using hb)) m f hm ht⟩)
   (λhdp b hb=>by
    obtain rfl:mm=true:=hdp;obtain⟨k1,k2⟩:=hv.nf b (mem_append_left _ hb);exact⟨λm f _ hm hd=>k1 m f hm hd,k2⟩)
  refine⟨_,⟨hM,hle,rfl,hmono.t1,hmono.n1,λb hb=>?_,λb hb=>?_,λb hb m f hm ht=>?_⟩,pZ.2 (.inl rfl),?_⟩
  rotate_left 2
  · have hmn:m≠n:=λe=>by
     subst e;have hm:oS ((m,Entry.root _ mm x)::en) m=some f:=hm
     rw[rl]at hm;cases hm;cases ht
    rw[ho2 m hmn];exact hmono.tw b hb m f (by simpa[CT.give,pM (Ne.symm hmn)]using hm) ht
  rotate_left
  · obtain⟨k1,k2,k3⟩:=hmono.tf b hb;refine⟨k1,λm f hm ha=>?_,k3⟩;by_cases hmn:m=n
    · subst hmn;rw[hi1];intro htp;have:=hv.t1 b
      rw[count_append,htp]at this;have h2:=count_pos_iff.2 hb
      simp at this;omega
    · rw[ho1 m hmn];exact k2 m f (by simpa[CT.give,pM (Ne.symm hmn)]using hm) ha
  · obtain⟨k1,k2⟩:=hmono.nf b hb;refine⟨λm f hm hd=>?_,k2⟩;by_cases hmn:m=n
    · subst hmn;obtain rfl:mm=true:=by
       have hm:oS ((m,Entry.root _ mm x)::en) m=some f:=hm;rw[rl]at hm;cases hm;exact hd
      rw[hi2];intro hbn;have:=hv.n1 b
      rw[cT,count_append]at this;have h2:=count_pos_iff.2 hb
      have h3:=count_pos_iff.2 hbn;omega
    · rw[ho2 m hmn];exact k1 m f (by simpa[CT.give,pM (Ne.symm hmn)]using hm) hd
  · show v=(if n=n then v else g.loc n);rw[if_pos rfl]
 | int k=>obtain⟨rfl,rfl,hr⟩:=hg;exact⟨g,r9.refl h hmono,CT.cell_rep (c:=.int k) hr (by simp)⟩
 | bool=>obtain⟨rfl,rfl,hr⟩:=hg;exact⟨g,r9.refl h hmono,CT.cell_rep (c:=.bool) hr (by simp)⟩
 | str=>obtain⟨rfl,rfl,hr⟩:=hg;exact⟨g,r9.refl h hmono,CT.cell_rep (c:=.str) hr (by simp)⟩
 | err=>obtain⟨rfl,rfl,hr⟩:=hg;exact⟨g,r9.refl h hmono,CT.cell_rep (c:=.err) hr (by simp)⟩
theorem r9.trans {new new':List (an×Entry)} {g1 g2:Gh} {ts ns ts' ns':List Nat} (h:r9 w0 T N en g w new g1 ts ns) (k:r9 w0 T N (new++en) g1 w new' g2 ts' ns'):r9 w0 T N en g w (new'++new) g2 ts' ns':=by
 have e:new'++new++en=new'++(new++en):=append_assoc _ _ _;exact⟨by rw[e];exact k.ms,by rw[e];exact h.le.trans k.le,k.imm.trans h.imm,by rw[e];exact k.giv⟩
theorem CT.give_name {mm:Bool} {n:an} {c:CT} {x:c.den}:∀p∈(c.give mm n x).2,p.1=n:=by cases c<;>simp[CT.give]
theorem Cs.Gifts.imm {I I':Nat->Prop} (hI:∀b,I b->I' b):{c:Cs}->{x:c.den}->{vs:List Value}->{ts ns:List Nat}->Cs.Gifts I w c x vs ts ns->Cs.Gifts I' w c x vs ts ns:=by
 have hc:∀{c:CT} {x:c.den} {v:Value} {ts ns:List Nat},CT.Gifts I w c x v ts ns->CT.Gifts I' w c x v ts ns:=by
  intro c x v ts ns h;cases c with
  | sl e=>obtain⟨tp,h1,h2,h3⟩:=h;exact⟨tp,h1,h2,λb hb=>hI b (h3 b hb)⟩
  | _=>exact h
 intro c
 induction c using Cs.rec (motive_1:=λ_=>True)with
 | one c _=>intro x vs ts ns h;obtain⟨v,h1,h2⟩:=h;exact⟨v,h1,hc h2⟩
 | cons c r _ ih=>intro x vs ts ns h;obtain⟨v,vs',t1,t2,n1,n2,h1,h2,h3,h4,h5⟩:=h;exact⟨v,vs',t1,t2,n1,n2,h1,h2,h3,hc h4,ih h5⟩
 | _=>trivial
theorem Cs.give_put {mm:Bool}:{c:Cs}->{x:c.den}->{vs:List Value}->{ts ns ts' ns':List Nat}->{n:an}->{en:List (an×Entry)}->{g:Gh}->(h:MS w0 T N en g w)->(hg:Cs.Gifts g.I w c x vs ts ns)->(hv:rk w0 T N en g (ts++ts') (cond mm ns []++ns')) ->
 (hn:∀p∈(Cs.give mm n c x).2,oS en p.1=none)->(hd:p6 (Cs.give mm n c x).2=true)->∃g',r9 w0 T N en g w (Cs.give mm n c x).2 g' ts' ns'/\p5 (oY (dom ((Cs.give mm n c x).2++en)) g' w) (Cs.give mm n c x).1 vs
 | .one c,x,vs,ts,ns,ts',ns',n,en,g,h,hg,hv,hn,hd=>by
  obtain⟨v,rfl,hg⟩:=hg;cases hs:(c.give mm n x).2 with
  | nil =>
   cases c with
   | sl e=>simp[CT.give]at hs
   | int k=>obtain⟨rfl,rfl,hr⟩:=hg;exact⟨g,r9.refl h (by cases mm<;>simpa using hv),CT.cell_rep (c:=.int k) hr (by simp),trivial⟩
   | bool=>obtain⟨rfl,rfl,hr⟩:=hg;exact⟨g,r9.refl h (by cases mm<;>simpa using hv),CT.cell_rep (c:=.bool) hr (by simp),trivial⟩
   | str=>obtain⟨rfl,rfl,hr⟩:=hg;exact⟨g,r9.refl h (by cases mm<;>simpa using hv),CT.cell_rep (c:=.str) hr (by simp),trivial⟩
   | err=>obtain⟨rfl,rfl,hr⟩:=hg;exact⟨g,r9.refl h (by cases mm<;>simpa using hv),CT.cell_rep (c:=.err) hr (by simp),trivial⟩
  | cons p l =>
   have hp:oS en n=none:=by
    have h1:=hn p (by show p∈(c.give mm n x).2;rw[hs];simp);have h2:=CT.give_name (mm:=mm) (n:=n) (c:=c) (x:=x) p (by rw[hs];simp)
    rw[←h2];exact h1
   obtain⟨g',k1,k2⟩:=CT.give_put h hg hv hp;exact⟨g',k1,k2,trivial⟩
 | .cons c r,x,vs,ts,ns,ts',ns',n,en,g,h,hg,hv,hn,hd=>by
  obtain⟨v,vs',t1,t2,n1,n2,rfl,rfl,rfl,hg1,hg2⟩:=hg;obtain⟨d1,d2,d3⟩:=q8 (l:=(c.give mm n x.1).2) (m:=(Cs.give mm (n+1) r x.2).2) hd;obtain⟨g1,k1,k2⟩:=Cs.give_put (n:=n+1) (ts':=t1++ts') (ns':=cond mm n1 []++ns') h hg2 (hv.mono (λb=>by simp only[count_append];omega) (λb=>by cases mm<;>simp only[cT,cF,List.nil_append,count_append]<;>omega)) (λp hp=>hn p (mem_append_right _ hp)) d2;have hg1':CT.Gifts g1.I w c x.1 v t1 n1:=by rw[k1.imm];exact hg1
  cases hs:(c.give mm n x.1).2 with
  | nil =>
   have e:(Cs.give mm n (.cons c r) x).2=(Cs.give mm (n+1) r x.2).2:=by show (c.give mm n x.1).2++_=_;rw[hs];rfl
   have hsc:t1=[]/\n1=[]/\oY (dom ((Cs.give mm (n+1) r x.2).2++en)) g1 w (c.give mm n x.1).1 v:=by
    cases c with
    | sl e=>simp[CT.give]at hs
    | int k=>obtain⟨rfl,rfl,hr⟩:=hg1;exact⟨rfl,rfl,CT.cell_rep (c:=.int k) hr (by simp)⟩
    | bool=>obtain⟨rfl,rfl,hr⟩:=hg1;exact⟨rfl,rfl,CT.cell_rep (c:=.bool) hr (by simp)⟩
    | str=>obtain⟨rfl,rfl,hr⟩:=hg1;exact⟨rfl,rfl,CT.cell_rep (c:=.str) hr (by simp)⟩
    | err=>obtain⟨rfl,rfl,hr⟩:=hg1;exact⟨rfl,rfl,CT.cell_rep (c:=.err) hr (by simp)⟩
   obtain⟨rfl,rfl,hcr⟩:=hsc;rw[e];exact⟨g1,by cases mm<;>simpa using k1,hcr,k2⟩
  | cons p l =>
   have hpn:=CT.give_name (mm:=mm) (n:=n) (c:=c) (x:=x.1) p (by rw[hs];simp);have hp:oS ((Cs.give mm (n+1) r x.2).2++en) n=none:=by
    rw[pD]
    · rw[←hpn];exact hn p (mem_append_left _ (by rw[hs];simp))
    · intro hm;exact d3 p.1 (mem_map_of_mem (by rw[hs];simp)) (hpn.symm▸hm)
   obtain⟨g2,k3,k4⟩:=CT.give_put k1.ms hg1' k1.giv hp;have e:(Cs.give mm n (.cons c r) x).2++en=(c.give mm n x.1).2++((Cs.give mm (n+1) r x.2).2++en):=append_assoc _ _ _
   refine⟨g2,k1.trans k3,?_,?_⟩
   · rw[e];exact k4
   · rw[e];exact p5.imp (λ_ _=>oY.mono k3.le) k2
theorem B9 (h:MS w0 T N en g w) {n:an} {b:Nat} {us:List Value} {cs:List Cell} {ts ns:List Nat} (hb:pK w b us) (hc:p5 (oY (dom en) g w) cs us) (hv:rk w0 T N en g (b::ts) ns) (hn:dom en n->g.loc n=.pointer (some ⟨b,0,none⟩)) (hf:∀e,oS en n=some e->e.alive=false) :
 ∃g',r9 w0 T N en g w [(n,.box cs)] g' ts ns/\g'.loc n=.pointer (some ⟨b,0,none⟩):=by
 have hi1:(g.set n ⟨.pointer (some ⟨b,0,none⟩),g.esz n,some b,[]⟩).top n=some b:=by simp[Gh.set]
 have hi2:(g.set n ⟨.pointer (some ⟨b,0,none⟩),g.esz n,some b,[]⟩).nest n=[]:=by simp[Gh.set]
 have ho1:∀m,m≠n->(g.set n ⟨.pointer (some ⟨b,0,none⟩),g.esz n,some b,[]⟩).top m=g.top m:=λm hm=>by simp[Gh.set,hm]
 have ho2:∀m,m≠n->(g.set n ⟨.pointer (some ⟨b,0,none⟩),g.esz n,some b,[]⟩).nest m=g.nest m:=λm hm=>by simp[Gh.set,hm]
 have hle0:=Gh.set_le (en:=en) (g:=g) (w:=w) (n:=n) (.box cs) ⟨.pointer (some ⟨b,0,none⟩),g.esz n,some b,[]⟩ (λhd=>⟨(hn hd).symm,rfl⟩);obtain⟨hM,hle⟩:=h.put (n:=n) (e:=.box cs) (i:=⟨.pointer (some ⟨b,0,none⟩),g.esz n,some b,[]⟩) (λhd=>⟨(hn hd).symm,rfl⟩) rfl
  ⟨b,us,hi1,by simp[Gh.set],hb,p5.imp (λ_ _=>oY.mono hle0) hc⟩
  (λ_ b' hb'=>by
   cases hb';obtain⟨k1,k2,k3⟩:=hv.tf b mem_cons_self;exact⟨k1,λm f _ hm ha=>k2 m f hm ha,k3,λm f _ hm ht=>hv.tw b mem_cons_self m f hm ht⟩)
  (λhd=>by cases hd)
 have hmono:rk w0 T N en g ts ns:=hv.mono (λc=>by rw[count_cons];omega) (λ_=>Nat.le_refl _);refine⟨_,⟨hM,hle,rfl,hmono.t1,hmono.n1,λc hc=>?_,λc hc=>?_,λc hc m f hm ht=>?_⟩,by simp[Gh.set]⟩
 rotate_left 2
 · have hmn:m≠n:=λe=>by
    subst e;have hm:oS ((m,Entry.box cs)::en) m=some f:=hm
    rw[rl]at hm;cases hm;cases ht
   rw[ho2 m hmn];exact hmono.tw c hc m f (by simpa[pM (Ne.symm hmn)]using hm) ht
 · obtain⟨k1,k2,k3⟩:=hmono.tf c hc;refine⟨k1,λm f hm ha=>?_,k3⟩;by_cases hmn:m=n
   · subst hmn;rw[hi1];intro he;cases he;have:=hv.t1 b
     rw[List.count_cons_self]at this;have h2:=count_pos_iff.2 hc
     omega
   · rw[ho1 m hmn];exact k2 m f (by simpa[pM (Ne.symm hmn)]using hm) ha
 · obtain⟨k1,k2⟩:=hmono.nf c hc;refine⟨λm f hm hd=>?_,k2⟩;by_cases hmn:m=n
   · subst hmn;rw[hi2];simp
   · rw[ho2 m hmn];exact k1 m f (by simpa[pM (Ne.symm hmn)]using hm) hd
end Go.V
namespace Go.V
variable {w0:World} {T N:Nat->Prop} {en en':List (an×Entry)} {g g':Gh} {w:World}

def H3:Bool->Option Bool|true=>some true|false=>none
def sW (I:Nat->Prop) (w:World) (own:Option Bool) (c:Cs) (x:c.den) (us:List Value) (ts ns:List Nat):Prop :=
 (∃m ns',own=some m/\Cs.Gifts I w c x us ts ns'/\(m=true->ns'=ns))\/(own=none/\ts=[]/\ns=[]/\∃F,Cs.Rep w c x us F/\∀b∈F,I b)
def sn (I:Nat->Prop) (w:World):(ps:List pF)->oW (pf ps)->List Value->List Nat->List Nat->Prop
 | [],_,vs,ts,ns=>vs=[]/\ts=[]/\ns=[]
 | .val agg c mv::ps,x,vs,ts,ns=>∃v vs' us t1 t2 n1 n2,vs=v::vs'/\isAgg agg v us/\ts=t1++t2/\ns=n1++n2/\sW I w (H3 mv) c (oW.hd c (pf ps) x) us t1 n1/\sn I w ps (oW.tl c (pf ps) x) vs' t2 n2
 | .ptr c own::ps,x,vs,ts,ns=>∃b vs' us t1 t2 n1 n2,vs=.pointer (some ⟨b,0,none⟩)::vs'/\pK w b us/\ts=b::(t1++t2)/\ns=n1++n2/\sW I w own c (oW.hd c (pf ps) x) us t1 n1/\sn I w ps (oW.tl c (pf ps) x) vs' t2 n2
theorem uW {D:an->Prop} {agg:Bool} {cs:List Cell} {v:Value} {us:List Value} (h:p5 (oY D g w) cs us) (ha:isAgg agg v us):pp D g w (rm agg cs) v:=by
 rcases ha with ⟨rfl,rfl⟩|⟨rfl,rfl⟩
 · cases cs with
   | nil=>exact h.elim
   | cons c cs=>cases cs with
    | nil=>exact h.1
    | cons _ _=>exact h.2.elim
 · have:rm true cs=.agg cs:=by cases cs<;>rfl
   rw[this];exact⟨_,rfl,h⟩
theorem vh {own:Option Bool} {c:Cs} {x:c.den} {vs:List Value} {ts ns ts' ns':List Nat} {n:an} (h:MS w0 T N en g w) (hg:sW g.I w own c x vs ts ns) (hv:rk w0 T N en g (ts++ts') (ns++ns'))
 (hn:∀p∈(qH own n c x).2,oS en p.1=none) (hd:p6 (qH own n c x).2=true):∃g',r9 w0 T N en g w (qH own n c x).2 g' ts' ns'/\p5 (oY (dom ((qH own n c x).2++en)) g' w) (qH own n c x).1 vs:=by
 rcases hg with ⟨m,ns1,rfl,hg,hm⟩|⟨rfl,rfl,rfl,F,hF,hI⟩
 · refine Cs.give_put h hg ?_ hn hd;cases m with
   | true=>rw[hm rfl];exact hv
   | false=>exact hv.mono (λb=>Nat.le_refl _) (λb=>by simp only[cF,List.nil_append,count_append];omega)
 · exact⟨g,r9.refl h (by simpa using hv),Cs.cells_rep hF hI⟩
def vk (D:an->Prop) (g:Gh):Nat->List pF->List Value->Prop
 | _,[],_=>True
 | _,_::_,[]=>False
 | i,.val .. :: ps,_::vs=>vk D g (i+1) ps vs
 | i,.ptr .. :: ps,v::vs=>(D (64*i+1)/\g.loc (64*i+1)=v)/\vk D g (i+1) ps vs
theorem vk.mono {D D':an->Prop} {w':World} (h:Le D g w D' g' w'):∀{i:Nat} {ps:List pF} {vs:List Value},vk D g i ps vs->vk D' g' i ps vs
 | _,[],_,_=>trivial
 | i,.val .. :: ps,v::vs,k=>vk.mono (ps:=ps) (vs:=vs) h k
 | i,.ptr .. :: ps,v::vs,⟨⟨k1,k2⟩,k⟩=>⟨⟨h.dom _ k1,(h.loc _ k1).trans k2⟩,vk.mono h k⟩
 | _,.val .. :: _,[],k=>k
 | _,.ptr .. :: _,[],k=>k
def AG (D:an->Prop) (g:Gh) (w:World) (tm:List (Nat×AV)) (i:Nat) (vs:List Value):Prop :=
 ∀t,oS tm t=none\/∃k v x,t=i+k/\vs[k]?=some v/\oS tm t=some x/\pp D g w x v
theorem AG.cons {D D':an->Prop} {tm:List (Nat×AV)} {i:Nat} {vs:List Value} {v:Value} {x:AV} (h:AG D g w tm (i+1) vs) (hle:Le D g w D' g' w) (hx:pp D' g' w x v):AG D' g' w ((i,x)::tm) i (v::vs):=by
 intro t;rw[p8];by_cases hit:i=t
 · subst hit;exact .inr ⟨0,v,x,rfl,rfl,by rw[if_pos rfl],hx⟩
 · rw[if_neg hit];rcases h t with h|⟨k,u,y,h1,h2,h3,h4⟩
   · exact .inl h
   · exact .inr ⟨k+1,u,y,by omega,by simpa using h2,h3,h4.mono hle⟩
theorem BE {i:Nat} {agg:Bool} {c:Cs} {mv:Bool} {ps:List pF} {x:oW (pf (.val agg c mv::ps))} :
 entry i (.val agg c mv::ps) x=((i,rm agg (qH (H3 mv) (64*i+1) c (oW.hd c (pf ps) x)).1)::(entry (i+1) ps (oW.tl c (pf ps) x)).1,(qH (H3 mv) (64*i+1) c (oW.hd c (pf ps) x)).2++(entry (i+1) ps (oW.tl c (pf ps) x)).2):=by
 cases mv<;>rfl
theorem BF {i:Nat} {c:Cs} {own:Option Bool} {ps:List pF} {x:oW (pf (.ptr c own::ps))} :
 entry i (.ptr c own::ps) x=((i,.cell (.box (64*i+1) 0))::(entry (i+1) ps (oW.tl c (pf ps) x)).1,(64*i+1,.box (qH own (64*i+2) c (oW.hd c (pf ps) x)).1)::((qH own (64*i+2) c (oW.hd c (pf ps) x)).2++(entry (i+1) ps (oW.tl c (pf ps) x)).2)):=rfl
theorem r9.to_nil {new:List (an×Entry)} {ts ns:List Nat} (h:r9 w0 T N [] g w new g' ts ns):MS w0 T N new g' w:=by have:=h.ms;rwa [append_nil]at this
theorem sW.imm {I I':Nat->Prop} (hI:∀b,I b->I' b) {own:Option Bool} {c:Cs} {x:c.den} {us:List Value} {ts ns:List Nat} (h:sW I w own c x us ts ns):sW I' w own c x us ts ns:=by
 rcases h with ⟨m,ns',h1,h2,h3⟩|⟨h1,h2,h3,F,h4,h5⟩
 · exact .inl ⟨m,ns',h1,h2.imm hI,h3⟩
 · exact .inr ⟨h1,h2,h3,F,h4,λb hb=>hI b (h5 b hb)⟩
theorem y7 (h0:MS w0 T N [] g w):∀(ps:List pF) (i:Nat) (x:oW (pf ps)) (vs:List Value) (ts ns ts' ns':List Nat),rk w0 T N [] g (ts++ts') (ns++ns')->sn g.I w ps x vs ts ns->p6 (entry i ps x).2=true ->
 ∃g',r9 w0 T N [] g w (entry i ps x).2 g' ts' ns'/\AG (dom (entry i ps x).2) g' w (entry i ps x).1 i vs/\vk (dom (entry i ps x).2) g' i ps vs
 | [],i,x,vs,ts,ns,ts',ns',hv,ha,hd=>by
  obtain⟨rfl,rfl,rfl⟩:=ha;exact⟨g,r9.refl h0 (by simpa using hv),λt=>.inl rfl,trivial⟩
 | .val agg c mv::ps,i,x,vs,ts,ns,ts',ns',hv,ha,hd=>by
  obtain⟨v,vs',us,t1,t2,n1,n2,rfl,hag,rfl,rfl,hin,ha⟩:=ha;rw[BE]at hd ⊢;obtain⟨d1,d2,d3⟩:=q8 hd;obtain⟨g1,k1,k2,k3⟩:=y7 h0 ps (i+1) (oW.tl c (pf ps) x) vs' t2 n2 (t1++ts') (n1++ns') (hv.mono (λb=>by simp only[count_append];omega) (λb=>by simp only[count_append];omega)) ha d2;obtain⟨g2,k4,k5⟩:=vh (n:=64*i+1) k1.ms (hin.imm λb hb=>by rw[k1.imm];exact hb) k1.giv (λp hp=>by
   rw[append_nil];cases hf:oS (entry (i+1) ps (oW.tl c (pf ps) x)).2 p.1 with
   | none=>rfl
   | some y=>exact absurd (rj.2 (by rw[hf];simp)) (d3 p.1 (mem_map_of_mem hp))) d1
  have kle:=k4.le;simp only[append_nil]at kle k5;refine⟨g2,k1.trans k4,k2.cons kle (uW k5 hag),?_⟩;exact vk.mono (ps:=ps) (vs:=vs') kle k3
 | .ptr c own::ps,i,x,vs,ts,ns,ts',ns',hv,ha,hd=>by
  obtain⟨b,vs',us,t1,t2,n1,n2,rfl,hob,rfl,rfl,hin,ha⟩:=ha;rw[BF]at hd ⊢;obtain⟨d0,hd⟩:=qg hd;obtain⟨d1,d2,d3⟩:=q8 hd;obtain⟨g1,k1,k2,k3⟩:=y7 h0 ps (i+1) (oW.tl c (pf ps) x) vs' t2 n2 (t1++(b::ts')) (n1++ns') (hv.mono (λb'=>by simp only[count_append,count_cons,cons_append];omega) (λb'=>by simp only[count_append];omega)) ha d2;obtain⟨g2,k4,k5⟩:=vh (n:=64*i+2) k1.ms (hin.imm λb hb=>by rw[k1.imm];exact hb) k1.giv (λp hp=>by
   rw[append_nil];cases hf:oS (entry (i+1) ps (oW.tl c (pf ps) x)).2 p.1 with
   | none=>rfl
   | some y=>exact absurd (rj.2 (by rw[hf];simp)) (d3 p.1 (mem_map_of_mem hp))) d1
  have kle:=k4.le;have k6:=k1.trans k4
  have hfree:oS ((qH own (64*i+2) c (oW.hd c (pf ps) x)).2++(entry (i+1) ps (oW.tl c (pf ps) x)).2++[]) (64*i+1)=none:=by
   rw[append_nil];cases hf:oS ((qH own (64*i+2) c (oW.hd c (pf ps) x)).2++(entry (i+1) ps (oW.tl c (pf ps) x)).2) (64*i+1)with
   | none=>rfl
   | some y=>exact absurd (rj.2 (by rw[hf];simp)) d0
  obtain⟨g3,k7,k8⟩:=B9 k6.ms hob (by simpa using k5) k6.giv (λhd=>absurd hfree hd) (λe he=>by rw[hfree]at he;cases he);have kle2:=k7.le
  simp only[append_nil]at kle kle2;refine⟨g3,k6.trans k7,AG.cons k2 (kle.trans kle2) ⟨pZ.2 (.inl rfl),b,k8,rfl⟩,⟨pZ.2 (.inl rfl),k8⟩,?_⟩;exact vk.mono (ps:=ps) (vs:=vs') (kle.trans kle2) k3
end Go.V
namespace Go.V
variable {w0:World} {T N:Nat->Prop} {en en':List (an×Entry)} {g g':Gh} {w:World} {I:Nat->Prop}

def qR (en:List (an×Entry)) (used:List (an×Entry)):Prop :=
 ∀p∈used,(p.2=.gone/\∃e m xs,oS en p.1=some (.root e m xs))\/(p.2=.gone/\∃cs,oS en p.1=some (.box cs))\/(∃e m xs,oS en p.1=some (.root e m xs)/\p.2=.fwd e xs)
def tT (g:Gh) (p:an×Entry):List Nat:=match p.2 with | .gone=>(g.top p.1).toList|_=>[]
def sK (en:List (an×Entry)) (g:Gh) (p:an×Entry):List Nat:=match p.2 with | .gone=>(match oS en p.1 with|some (.root _ true _)=>g.nest p.1|_=>[])|_=>[]
def qJ (g:Gh) (used:List (an×Entry)):List Nat:=used.flatMap (tT g)
def qL (en:List (an×Entry)) (g:Gh) (used:List (an×Entry)):List Nat:=used.flatMap (sK en g)
theorem yS {D:an->Prop} {agg:Bool} {x:AV} {v:Value} (h:pp D g w x v) (ho:tn agg x=true):∃us,isAgg agg v us/\p5 (oY D g w) x.cells us:=by
 cases x with
 | cell c=>cases agg with
  | true=>cases ho
  | false=>exact⟨[v],.inl ⟨rfl,rfl⟩,h,trivial⟩
 | agg cs=>cases agg with
  | false=>cases ho
  | true=>obtain⟨vs,rfl,k⟩:=h;exact⟨vs.toList,.inr ⟨rfl,rfl⟩,k⟩
 | tup l=>cases agg<;>cases ho
theorem BG (hm:qM en g w):∀{used:List (an×Entry)},po en true false used->qJ g used=(used.map (·.1)).flatMap (λn=>(g.top n).toList)/\qL en g used=(used.map (·.1)).flatMap g.nest/\qR en used/\∀b∈qL en g used,g.I b
 | [],_=>⟨rfl,rfl,λp hp=>by simp at hp,by simp[qL]⟩
 | p::used,h=>by
  obtain⟨k1,k2,k3,k4⟩:=BG hm (used:=used) λq hq=>h q (mem_cons_of_mem _ hq);obtain⟨e,m,xs,h1,h2,h3⟩:=h p mem_cons_self;obtain rfl:=h2 rfl;have h3:p.2=.gone:=h3
  obtain⟨_,_,hI,_⟩:=pS hm h1;refine⟨?_,?_,λq hq=>?_,λb hb=>?_⟩
  · unfold qJ at k1 ⊢;rw[flatMap_cons,k1];simp[tT,h3]
  · unfold qL at k2 ⊢;rw[flatMap_cons,k2];simp[sK,h3,h1]
  · rcases mem_cons.1 hq with rfl|hq
    · exact .inl ⟨h3,e,true,xs,h1⟩
    · exact k3 q hq
  · unfold qL at hb k4;rw[flatMap_cons]at hb;rcases mem_append.1 hb with hb|hb
    · simp[sK,h3,h1]at hb;exact hI b hb
    · exact k4 b hb
theorem CB:∀{used:List (an×Entry)},po en false true used->qJ g used=[]/\qL en g used=[]/\qR en used
 | [],_=>⟨rfl,rfl,λp hp=>by simp at hp⟩
 | p::used,h=>by
  obtain⟨k1,k2,k3⟩:=CB (used:=used) λq hq=>h q (mem_cons_of_mem _ hq);obtain⟨e,m,xs,h1,h2,h3⟩:=h p mem_cons_self;have h3:p.2=.fwd e xs:=h3
  refine⟨?_,?_,λq hq=>?_⟩
  · unfold qJ at k1 ⊢;rw[flatMap_cons,k1];simp[tT,h3]
  · unfold qL at k2 ⊢;rw[flatMap_cons,k2];simp[sK,h3]
  · rcases mem_cons.1 hq with rfl|hq
    · exact .inr (.inr ⟨e,m,xs,h1,h3⟩)
    · exact k3 q hq
theorem CT.own_gifts (hI:∀b,g.I b->I b) {c:CT} {x:c.den} {v:Value} {ns:List an} (h:CT.Own g w c x v ns) (hn:∀b∈ns.flatMap g.nest,g.I b):CT.Gifts I w c x v (ns.flatMap λn=>(g.top n).toList) (ns.flatMap g.nest):=by
 cases c with
 | sl e =>
  rcases h with ⟨rfl,rfl,rfl⟩|⟨n,rfl,rfl,h⟩
  · exact⟨none,rfl,.inl ⟨rfl,rfl,rfl,rfl⟩,by simp⟩
  · exact⟨g.top n,by simp,by simpa using h,λb hb=>hI b (hn b hb)⟩
 | int=>obtain⟨rfl,h⟩:=h;exact⟨rfl,rfl,h⟩
 | bool=>obtain⟨rfl,h⟩:=h;exact⟨rfl,rfl,h⟩
 | str=>obtain⟨rfl,h⟩:=h;exact⟨rfl,rfl,h⟩
 | err=>obtain⟨rfl,h⟩:=h;exact⟨rfl,rfl,h⟩
theorem Cs.own_gifts (hI:∀b,g.I b->I b):{c:Cs}->{x:c.den}->{us:List Value}->{ns:List an}->Cs.Own g w c x us ns->(∀b∈ns.flatMap g.nest,g.I b)->Cs.Gifts I w c x us (ns.flatMap λn=>(g.top n).toList) (ns.flatMap g.nest)
 | .one c,x,us,ns,h,hn=>by obtain⟨v,rfl,h⟩:=h;exact⟨v,rfl,CT.own_gifts hI h hn⟩
 | .cons c r,x,us,ns,h,hn=>by
  obtain⟨v,vs',n1,n2,rfl,rfl,h1,h2⟩:=h;rw[flatMap_append,flatMap_append];rw[flatMap_append]at hn;exact⟨v,vs',_,_,_,_,rfl,rfl,rfl,CT.own_gifts hI h1 λb hb=>hn b (mem_append_left _ hb),Cs.own_gifts hI h2 λb hb=>hn b (mem_append_right _ hb)⟩
structure BX (en:List (an×Entry)) (g:Gh) (I:Nat->Prop) (used:List (an×Entry)) (ro:List an):Prop where
 old:∀b,g.I b->I b
 fwd:∀p∈used,∀e xs,p.2=.fwd e xs->∀b,g.top p.1=some b->I b
 lent:∀n∈ro,∀f b,oS en n=some f->f.alive=true->g.top n=some b->I b
theorem qR.append {u v:List (an×Entry)} (h:qR en u) (k:qR en v):qR en (u++v):=λp hp=>(mem_append.1 hp).elim (h p) (k p)
theorem CT.into_top (hI:∀b,g.I b->I b) (hm:qM en g w) {c:CT} {x:Cell} {v:Value} {y:c.den×List (an×Entry)} {L:List an} (hc:oY (dom en) g w x v) (hr:(c.into false false x).Runs (oS en) y L) :
 ∃ns,CT.Gifts I w c y.1 v (qJ g y.2) ns/\qR en y.2:=by
 cases hs:c.isSl with
 | true =>
  cases c with
  | sl e =>
   obtain⟨a,L1,L2,_,h1,h2⟩:=Rd.runs_bind (show (BU e x).Runs (oS en) y L from hr);obtain⟨rfl,_⟩:=h2;rcases yG hm hc h1 with ⟨rfl,rfl⟩|⟨xs,r,m,F,rfl,⟨ys,hn⟩,hrep,hcnt⟩
   · exact⟨[],⟨none,rfl,.inl ⟨rfl,rfl,rfl,rfl⟩,by simp⟩,by intro p hp;simp at hp⟩
   · obtain⟨_,_,hnI,_⟩:=pS hm hn;refine⟨F,⟨g.top r,by simp[qJ,tT],hrep,λb hb=>hI b (hnI b ?_)⟩,λp hp=>?_⟩
     · have h1:=count_pos_iff.2 hb;have h2:=hcnt b
       exact count_pos_iff.1 (by omega)
     · obtain rfl:=mem_singleton.1 hp;exact .inl ⟨rfl,e,m,ys,hn⟩
  | int=>simp[CT.isSl]at hs
  | bool=>simp[CT.isSl]at hs
  | str=>simp[CT.isSl]at hs
  | err=>simp[CT.isSl]at hs
 | false =>
  obtain⟨h1,L',h2⟩:=CT.into_scalar hs hr;obtain⟨F,hF,_⟩:=CT.read_sound hm hc h2;have ho:=CT.Own_of_rep (g:=g) hs ⟨F,hF⟩
  rw[h1];exact⟨[],CT.own_gifts hI ho (by simp),by intro p hp;simp at hp⟩
theorem Cs.into_top (hI:∀b,g.I b->I b) (hm:qM en g w):{e:Cs}->{xs:List Cell}->{vs:List Value}->{y:e.den×List (an×Entry)}->{L:List an}->p5 (oY (dom en) g w) xs vs->(e.into false false xs).Runs (oS en) y L ->
 ∃ns,Cs.Gifts I w e y.1 vs (qJ g y.2) ns/\qR en y.2
 | .one c,[],_,_,_,_,hr=>hr.elim
 | .one c,[x],[v],y,L,hc,hr=>by
  obtain⟨ns,h1,h2⟩:=CT.into_top hI hm hc.1 hr;exact⟨ns,⟨v,rfl,h1⟩,h2⟩
 | .one c,_::_::_,_,_,_,_,hr=>hr.elim
 | .cons c r,[],_,_,_,_,hr=>hr.elim
 | .cons c r,x::xs,v::vs,y,L,hc,hr=>by
  simp only[Cs.into]at hr;obtain⟨a,L1,L2,rfl,h1,hr⟩:=Rd.runs_bind hr;obtain⟨b,L3,L4,rfl,h2,hr⟩:=Rd.runs_bind hr;obtain⟨rfl,_⟩:=hr;obtain⟨n1,k1,k2⟩:=CT.into_top hI hm hc.1 h1;obtain⟨n2,k3,k4⟩:=Cs.into_top hI hm hc.2 h2;exact⟨n1++n2,⟨v,vs,qJ g a.2,qJ g b.2,n1,n2,rfl,flatMap_append,rfl,k1,k3⟩,k2.append k4⟩
theorem uw (hm:qM en g w) {own:Option Bool} {c:Cs} {xs:List Cell} {us:List Value} {y:c.den×List (an×Entry)} {L:List an} (hc:p5 (oY (dom en) g w) xs us) (hr:(c.intoO own xs).Runs (oS en) y L) {used:List (an×Entry)} {ro:List an}
 (hs:BX en g I used ro) (hsub:∀p∈y.2,p∈used):sW I w own c y.1 us (qJ g y.2) (qL en g y.2)/\qR en y.2:=by
 cases own with
 | some m =>
  cases m with
  | true =>
   obtain⟨h1,h2⟩:=Cs.into_own hm hc hr;obtain⟨k1,k2,k3,k4⟩:=BG hm h2;refine⟨.inl ⟨true,_,rfl,?_,λ_=>rfl⟩,k3⟩;rw[k2]at k4;rw[k1,k2];exact Cs.own_gifts hs.old h1 k4
  | false =>
   obtain⟨ns',h1,h2⟩:=Cs.into_top hs.old hm hc hr;exact⟨.inl ⟨false,ns',rfl,h1,(λh=>by cases h)⟩,h2⟩
 | none =>
  obtain⟨⟨F,h1,h3⟩,h2⟩:=Cs.into_shared hm hc hr;obtain⟨k1,k2,k3⟩:=CB (g:=g) h2;refine⟨.inr ⟨rfl,k1,k2,F,h1,λb hb=>?_⟩,k3⟩;rcases h3 b hb with h|⟨n,hn,f,hf,ha,ht⟩
  · exact hs.old b h
  · obtain⟨p,hp,rfl⟩:=mem_map.1 hn;obtain⟨e,m,xs',e1,_,e3⟩:=h2 p hp;exact hs.fwd p (hsub p hp) e xs' e3 b ht
def so (en:List (an×Entry)) (g:Gh) (used:List (an×Entry)):List pF->List Value->List an->Prop
 | [],_,ns=>ns=[]
 | _::_,[],_=>False
 | .val .. :: ps,_::vs,ns=>so en g used ps vs ns
 | .ptr .. :: ps,v::vs,ns=>∃n ns',ns=n::ns'/\(n,.gone)∈used/\(∃cs,oS en n=some (.box cs))/\g.loc n=v/\so en g used ps vs ns'
theorem so.mono {used used':List (an×Entry)} (h:∀p∈used,p∈used'):∀{ps:List pF} {vs:List Value} {ns:List an},so en g used ps vs ns->so en g used' ps vs ns
 | [],_,_,k=>k
 | .val .. :: ps,v::vs,ns,k=>so.mono (ps:=ps) (vs:=vs) h k
 | .ptr .. :: ps,v::vs,ns,⟨n,ns',k1,k2,k3,k4,k5⟩=>⟨n,ns',k1,h _ k2,k3,k4,so.mono h k5⟩
 | .val .. :: _,[],_,k=>k
 | .ptr .. :: _,[],_,k=>k
theorem wE (hm:qM en g w) {sl:Bool}:∀{ps:List pF} {args:List AV} {vals:List Value} {b:xN (pf ps)} {L:List an},p5 (pp (dom en) g w) args vals->(pX sl ps args).Runs (oS en) b L->BX en g I b.used b.ro ->
 sn I w ps b.args vals (qJ g b.used) (qL en g b.used)/\qR en b.used/\so en g b.used ps vals b.ptrs
 | [],[],[],b,L,_,hr,_=>by obtain⟨rfl,_⟩:=hr;exact⟨⟨rfl,rfl,rfl⟩,λp hp=>by simp at hp,rfl⟩
 | .val agg c false::ps,v::args,u::vals,b,L,ha,hr,hs=>by
  simp only[pX]at hr;obtain⟨_,L5,L6,_,h0,hr⟩:=Rd.runs_bind hr;obtain⟨a,L1,L2,_,h1,hr⟩:=Rd.runs_bind hr;obtain⟨b',L3,L4,_,h2,hr⟩:=Rd.runs_bind hr;obtain⟨rfl,_⟩:=hr;obtain⟨us,hag,hcs⟩:=yS ha.1 (Rd.runs_need h0).1;obtain⟨k1,k2,k3⟩:=wE hm ha.2 h2 ⟨hs.old,λp hp=>hs.fwd p (mem_append_right _ hp),λn hn=>hs.lent n (mem_append_right _ hn)⟩;cases sl with
  | true =>
   obtain⟨k4,k5⟩:=uw (own:=none) hm hcs h1 hs (λp hp=>mem_append_left _ hp);refine⟨⟨u,vals,us,_,_,_,_,rfl,hag,flatMap_append,flatMap_append,?_,?_⟩,k5.append k2,so.mono (ps:=ps) (vs:=vals) (λp hp=>mem_append_right _ hp) k3⟩
   · show sW I w none c (oW.hd c (pf ps) (oW.mk c (pf ps) a.1 b'.args)) us _ _;rw[oW.hd_mk];exact k4
   · show sn I w ps (oW.tl c (pf ps) (oW.mk c (pf ps) a.1 b'.args)) vals _ _;rw[oW.tl_mk];exact k1
  | false =>
   obtain⟨y,_,_,_,h3,h4⟩:=Rd.runs_bind h1;obtain⟨rfl,_⟩:=h4;obtain⟨F,hF,hFI⟩:=Cs.read_sound hm hcs h3;refine⟨⟨u,vals,us,[],qJ g b'.used,[],qL en g b'.used,rfl,hag,by simp,by simp,.inr ⟨rfl,rfl,rfl,F,?_,λq hq=>?_⟩,?_⟩,k2,so.mono (ps:=ps) (vs:=vals) (λp hp=>hp) k3⟩
   · show Cs.Rep w c (oW.hd c (pf ps) (oW.mk c (pf ps) y b'.args)) us F;rw[oW.hd_mk];exact hF
   · rcases hFI q hq with h|⟨n,hn,f,hf,hal,ht⟩
     · exact hs.old q h
     · exact hs.lent n (mem_append_left _ hn) f q hf hal ht
   · show sn I w ps (oW.tl c (pf ps) (oW.mk c (pf ps) y b'.args)) vals _ _;rw[oW.tl_mk];exact k1
 | .val agg c true::ps,v::args,u::vals,b,L,ha,hr,hs=>by
  simp only[pX]at hr;obtain⟨_,L5,L6,_,h0,hr⟩:=Rd.runs_bind hr;obtain⟨a,L1,L2,_,h1,hr⟩:=Rd.runs_bind hr;obtain⟨b',L3,L4,_,h2,hr⟩:=Rd.runs_bind hr;obtain⟨rfl,_⟩:=hr;obtain⟨us,hag,hcs⟩:=yS ha.1 (Rd.runs_need h0).1;obtain⟨k1,k2,k3⟩:=wE hm ha.2 h2 ⟨hs.old,λp hp=>hs.fwd p (mem_append_right _ hp),hs.lent⟩;obtain⟨k4,k5⟩:=uw (own:=some true) hm hcs h1 hs (λp hp=>mem_append_left _ hp);refine⟨⟨u,vals,us,_,_,_,_,rfl,hag,flatMap_append,flatMap_append,?_,?_⟩,k5.append k2,so.mono (ps:=ps) (vs:=vals) (λp hp=>mem_append_right _ hp) k3⟩
  · show sW I w (some true) c (oW.hd c (pf ps) (oW.mk c (pf ps) a.1 b'.args)) us _ _;rw[oW.hd_mk];exact k4
  · show sn I w ps (oW.tl c (pf ps) (oW.mk c (pf ps) a.1 b'.args)) vals _ _;rw[oW.tl_mk];exact k1
 | .ptr c own::ps,.cell (.box n 0)::args,u::vals,b,L,ha,hr,hs=>by
  simp only[pX]at hr;obtain⟨L',_,hr⟩:=hr;dsimp only at hr;split at hr
  · rename_i cs hn;obtain⟨a,L1,L2,_,h1,hr⟩:=Rd.runs_bind hr;obtain⟨b',L3,L4,_,h2,hr⟩:=Rd.runs_bind hr;obtain⟨rfl,_⟩:=hr;obtain⟨k1,k2,k3⟩:=wE hm ha.2 h2 ⟨hs.old,λp hp=>hs.fwd p (mem_cons_of_mem _ (mem_append_right _ hp)),hs.lent⟩;obtain⟨blk,us,e1,e2,e3,e4⟩:=hm.rep n _ hn;obtain⟨k4,k5⟩:=uw (own:=own) hm e4 h1 hs (λp hp=>mem_cons_of_mem _ (mem_append_left _ hp));obtain⟨_,blk',e5,e6⟩:=ha.1;rw[e2]at e5;cases e5;refine⟨⟨blk,vals,us,qJ g a.2,qJ g b'.used,qL en g a.2,qL en g b'.used,?_,e3,?_,?_,?_,?_⟩,?_,n,b'.ptrs,rfl,mem_cons_self,⟨cs,hn⟩,e2.trans e6.symm,so.mono (λp hp=>mem_cons_of_mem _ (mem_append_right _ hp)) k3⟩
    · rw[e6]
    · show ((n,Entry.gone)::(a.2++b'.used)).flatMap (tT g)=_;rw[flatMap_cons,flatMap_append];simp[tT,e1,qJ]
    · show ((n,Entry.gone)::(a.2++b'.used)).flatMap (sK en g)=_;rw[flatMap_cons,flatMap_append];simp[sK,hn,qL]
    · show sW I w own c (oW.hd c (pf ps) (oW.mk c (pf ps) a.1 b'.args)) us _ _;rw[oW.hd_mk];exact k4
    · show sn I w ps (oW.tl c (pf ps) (oW.mk c (pf ps) a.1 b'.args)) vals _ _;rw[oW.tl_mk];exact k1
    · intro p hp;rcases mem_cons.1 hp with rfl|hp
      · exact .inr (.inl ⟨rfl,cs,hn⟩)
      · exact (k5.append k2) p hp
  · exact hr.elim
 | .val _ _ false::_,[],_,_,_,_,hr,_=>hr.elim
 | .val _ _ true::_,[],_,_,_,_,hr,_=>hr.elim
 | .ptr _ _::_,[],_,_,_,_,hr,_=>hr.elim
end Go.V
namespace Go.V
variable {P:Program} {G:qd} {w0:World} {T N:Nat->Prop} {en en':List (an×Entry)} {S:St} {g g':Gh} {w:World} {a:Act} {I:Nat->Prop}

def yT (tmps:Array Value):ResultVar->Sem Value
 | .tmp t=>pure (tmps.getD t undef)
 | .cell a t=>do loadVar t (←asAddr (tmps.getD a undef))
theorem wF (h:pq w0 T N S g w a) (hT:qG P G.ti):∀{rv:List ResultVar} {vs:List AV},v6 G S rv=some vs->∃rvals,p5 (pp (dom S.en) g w) vs rvals/\(rv.mapM (yT a.tmps)).run P w=.ok rvals w
 | [],vs,hr=>by cases hr;exact⟨[],trivial,rfl⟩
 | .tmp t::l,vs,hr=>by
  simp only[v6]at hr;cases hl:v6 G S l with
  | none=>rw[hl]at hr;cases hr
  | some us =>
   rw[hl]at hr;cases hr;obtain⟨rvals,h1,h2⟩:=wF h hT hl;refine⟨a.tmps.getD t undef::rvals,⟨h.tmps t,h1⟩,?_⟩;rw[List.mapM_cons];simp only[yT,Sem.run_bind,Sem.run_pure,Result.andThen,h2]
 | .cell b t::l,vs,hr=>by
  simp only[v6]at hr;cases hi:oS G.ti t with
  | none=>rw[hi]at hr;cases hr
  | some i =>
   rw[hi]at hr;obtain⟨n,hb⟩:∃n,S.tmp b=.cell (.box n 0):=by
    cases hb:S.tmp b with
    | cell c =>
     rw[hb]at hr;cases c with
     | box n off=>cases off with
      | zero=>exact⟨n,rfl⟩
      | succ _=>cases hr
     | _=>cases hr
    | agg _=>rw[hb]at hr;cases hr
    | tup _=>rw[hb]at hr;cases hr
   rw[hb]at hr;simp only at hr;cases hn:S.ent n with
   | none=>rw[hn]at hr;cases hr
   | some en1 =>
    cases hl:v6 G S l with
    | none=>rw[hn,hl]at hr;cases en1<;>cases hr
    | some us =>
     rw[hn,hl]at hr;cases en1 with
     | tree=>cases hr
     | box cs =>
      simp only at hr;cases hlen:Nat.beq cs.length i.cs.len with
      | false=>rw[hlen]at hr;cases hr
      | true =>
       rw[hlen]at hr;cases hr;obtain⟨rvals,h1,h2⟩:=wF h hT hl;have hbv:=h.tmps b
       rw[hb]at hbv;obtain⟨_,blk,e1,e2⟩:=hbv;obtain⟨blk',ws,e3,e4,e5,e6⟩:=h.mem.rep n _ hn;rw[e1]at e4;cases e4;have hl2:ws.length=i.cs.len:=by rw[←e6.length];exact Nat.eq_of_beq_eq_true hlen
       obtain⟨d,u,z,hf⟩:=hT.facts hi;have hload:=zw (P:=P) hf (pK.row e5) hl2
       refine⟨(if i.agg then .agg ws.toArray else ws.headD undef)::rvals,⟨?_,h1⟩,?_⟩
       · cases ha:i.agg with
         | true=>exact uW e6 (.inr ⟨rfl,rfl⟩)
         | false =>
          obtain⟨c,hc,_⟩:=hf.plain ha;rw[hc]at hl2
          match ws,hl2,e6 with
          | [v],_,e6=>exact uW e6 (.inl ⟨rfl,rfl⟩)
       · rw[List.mapM_cons];simp only[yT,e2,asAddr,Sem.run_bind,Sem.run_pure,Result.andThen,hload,h2]
     | gone=>cases hr
     | fwd _ _=>cases hr
     | root _ _ _=>cases hr
def Ba (vs:List Value):Value:=match vs with | [v]=>v|vs=>.tuple vs.toArray
theorem zK {fn:Func} {tmps:Array Value} {rvals:List Value} (h:(fn.results.toList.mapM (yT tmps)).run P w=.ok rvals w):(results fn tmps).run P w=.ok (Ba rvals) w:=by
 have e:results fn tmps=(do
  let vs ←fn.results.mapM (yT tmps)
  pure (if h:vs.size=1 then vs[0]else .tuple vs)):=by
  unfold results
  congr 1
 rw[e,Array.mapM_eq_mapM_toList];simp only[Sem.run_bind,Sem.run_pure,map_eq_pure_bind,Result.andThen,h]
 congr 1
 match rvals with
 | []=>rfl
 | [v]=>rfl
 | _::_::_=>simp[Ba]
def uh (I:Nat->Prop) (w:World):(rs:List qi)->oW (pT rs)->List Value->List Nat->List Nat->Prop
 | [],_,vs,ts,ns=>vs=[]/\ts=[]/\ns=[]
 | .val agg c own::rs,x,vs,ts,ns=>∃v vs' us t1 t2 n1 n2,vs=v::vs'/\isAgg agg v us/\ts=t1++t2/\ns=n1++n2/\sW I w own c (oW.hd c (pT rs) x) us t1 n1/\uh I w rs (oW.tl c (pT rs) x) vs' t2 n2
 | .ptr c own::rs,x,vs,ts,ns=>∃b vs' us t1 t2 n1 n2,vs=.pointer (some ⟨b,0,none⟩)::vs'/\pK w b us/\ts=b::(t1++t2)/\ns=n1++n2/\sW I w own c (oW.hd c (pT rs) x) us t1 n1/\uh I w rs (oW.tl c (pT rs) x) vs' t2 n2
def t0 (I:Nat->Prop) (w:World):(ps:List pF)->(rs:List qi)->oW (pW ps rs)->List Nat->List Value->List Nat->List Nat->Prop
 | [],rs,x,bs,vs,ts,ns=>bs=[]/\uh I w rs x vs ts ns
 | .val .. :: ps,rs,x,bs,vs,ts,ns=>t0 I w ps rs x bs vs ts ns
 | .ptr c own::ps,rs,x,bs,vs,ts,ns=>∃b bs' us t1 t2 n1 n2,bs=b::bs'/\pK w b us/\ts=b::(t1++t2)/\ns=n1++n2/\sW I w own c (oW.hd c (pW ps rs) x) us t1 n1/\t0 I w ps rs (oW.tl c (pW ps rs) x) bs' vs t2 n2
theorem vl (hm:qM en g w):∀{rs:List qi} {vs:List AV} {rvals:List Value} {y:oW (pT rs)×List (an×Entry)} {L:List an},p5 (pp (dom en) g w) vs rvals->vq rs vs=true->(vJ rs vs).Runs (oS en) y L ->
 ∀{used:List (an×Entry)},BX en g I used []->(∀p∈y.2,p∈used)->uh I w rs y.1 rvals (qJ g y.2) (qL en g y.2)/\qR en y.2
 | [],[],[],y,L,_,_,hr,used,hs,hsub=>by obtain⟨rfl,_⟩:=hr;exact⟨⟨rfl,rfl,rfl⟩,λp hp=>by simp at hp⟩
 | .val agg c own::rs,v::vs,u::rvals,y,L,ha,ho,hr,used,hs,hsub=>by
  simp only[vJ]at hr;obtain⟨a,L1,L2,_,h1,hr⟩:=Rd.runs_bind hr;obtain⟨b,L3,L4,_,h2,hr⟩:=Rd.runs_bind hr;obtain⟨rfl,_⟩:=hr;simp only[vq,aT]at ho;obtain⟨us,hag,hcs⟩:=yS ha.1 ho.1;obtain⟨k1,k2⟩:=vl hm ha.2 ho.2 h2 hs (λp hp=>hsub p (mem_append_right _ hp));obtain⟨k4,k5⟩:=uw hm hcs h1 hs (λp hp=>hsub p (mem_append_left _ hp));refine⟨⟨u,rvals,us,_,_,_,_,rfl,hag,flatMap_append,flatMap_append,?_,?_⟩,k5.append k2⟩
  · show sW I w own c (oW.hd c (pT rs) (oW.mk c (pT rs) a.1 b.1)) us _ _;rw[oW.hd_mk];exact k4
  · show uh I w rs (oW.tl c (pT rs) (oW.mk c (pT rs) a.1 b.1)) rvals _ _;rw[oW.tl_mk];exact k1
 | .ptr c own::rs,.cell (.box n 0)::vs,u::rvals,y,L,ha,ho,hr,used,hs,hsub=>by
  simp only[vJ]at hr;obtain⟨L',_,hr⟩:=hr;dsimp only at hr;split at hr
  · rename_i cs hn;obtain⟨a,L1,L2,_,h1,hr⟩:=Rd.runs_bind hr;obtain⟨b,L3,L4,_,h2,hr⟩:=Rd.runs_bind hr;obtain⟨rfl,_⟩:=hr;obtain⟨k1,k2⟩:=vl hm ha.2 ho h2 hs (λp hp=>hsub p (mem_cons_of_mem _ (mem_append_right _ hp)));obtain⟨blk,us,e1,e2,e3,e4⟩:=hm.rep n _ hn;obtain⟨k4,k5⟩:=uw hm e4 h1 hs (λp hp=>hsub p (mem_cons_of_mem _ (mem_append_left _ hp)));obtain⟨_,blk',e5,e6⟩:=ha.1;rw[e2]at e5;cases e5;refine⟨⟨blk,rvals,us,qJ g a.2,qJ g b.2,qL en g a.2,qL en g b.2,by rw[e6],e3,?_,?_,?_,?_⟩,?_⟩
    · show ((n,Entry.gone)::(a.2++b.2)).flatMap (tT g)=_;rw[flatMap_cons,flatMap_append];simp[tT,e1,qJ]
    · show ((n,Entry.gone)::(a.2++b.2)).flatMap (sK en g)=_;rw[flatMap_cons,flatMap_append];simp[sK,hn,qL]
    · show sW I w own c (oW.hd c (pT rs) (oW.mk c (pT rs) a.1 b.1)) us _ _;rw[oW.hd_mk];exact k4
    · show uh I w rs (oW.tl c (pT rs) (oW.mk c (pT rs) a.1 b.1)) rvals _ _;rw[oW.tl_mk];exact k1
    · intro p hp;rcases mem_cons.1 hp with rfl|hp
      · exact .inr (.inl ⟨rfl,cs,hn⟩)
      · exact (k5.append k2) p hp
  · exact hr.elim
 | .val _ _ _::_,[],_,_,_,_,_,hr,_,_,_=>hr.elim
 | .ptr _ _::_,[],_,_,_,_,_,hr,_,_,_=>hr.elim
 | [],_::_,_,_,_,_,_,hr,_,_,_=>hr.elim
def Es (g:Gh):Nat->List pF->List Nat->Prop
 | _,[],bs=>bs=[]
 | i,.val .. :: ps,bs=>Es g (i+1) ps bs
 | i,.ptr .. :: ps,bs=>∃b bs',bs=b::bs'/\g.loc (64*i+1)=.pointer (some ⟨b,0,none⟩)/\Es g (i+1) ps bs'
theorem vm (hm:qM en g w):∀{ps:List pF} {rs:List qi} {i:Nat} {vs:List AV} {rvals:List Value} {y:oW (pW ps rs)×List (an×Entry)} {L:List an},p5 (pp (dom en) g w) vs rvals->vq rs vs=true->(uS i ps rs vs).Runs (oS en) y L ->
 ∀{used:List (an×Entry)},BX en g I used []->(∀p∈y.2,p∈used)->∃bs,t0 I w ps rs y.1 bs rvals (qJ g y.2) (qL en g y.2)/\qR en y.2/\Es g i ps bs
 | [],rs,i,vs,rvals,y,L,ha,ho,hr,used,hs,hsub=>by
  obtain⟨k1,k2⟩:=vl hm ha ho hr hs hsub;exact⟨[],⟨rfl,k1⟩,k2,rfl⟩
 | .val agg c mv::ps,rs,i,vs,rvals,y,L,ha,ho,hr,used,hs,hsub=>vm (ps:=ps) (i:=i+1) hm ha ho hr hs hsub
 | .ptr c own::ps,rs,i,vs,rvals,y,L,ha,ho,hr,used,hs,hsub=>by
  simp only[uS]at hr;obtain⟨L',_,hr⟩:=hr;dsimp only at hr;split at hr
  · rename_i cs hn;obtain⟨a,L1,L2,_,h1,hr⟩:=Rd.runs_bind hr;obtain⟨b,L3,L4,_,h2,hr⟩:=Rd.runs_bind hr;obtain⟨rfl,_⟩:=hr;obtain⟨bs,k1,k2,k3⟩:=vm hm ha ho h2 hs (λp hp=>hsub p (mem_cons_of_mem _ (mem_append_right _ hp)));obtain⟨blk,us,e1,e2,e3,e4⟩:=hm.rep (64*i+1) _ hn;obtain⟨k4,k5⟩:=uw hm e4 h1 hs (λp hp=>hsub p (mem_cons_of_mem _ (mem_append_left _ hp)));refine⟨blk::bs,⟨blk,bs,us,qJ g a.2,qJ g b.2,qL en g a.2,qL en g b.2,rfl,e3,?_,?_,?_,?_⟩,?_,blk,bs,rfl,e2,k3⟩
    · show ((64*i+1,Entry.gone)::(a.2++b.2)).flatMap (tT g)=_;rw[flatMap_cons,flatMap_append];simp[tT,e1,qJ]
    · show ((64*i+1,Entry.gone)::(a.2++b.2)).flatMap (sK en g)=_;rw[flatMap_cons,flatMap_append];simp[sK,hn,qL]
    · show sW I w own c (oW.hd c (pW ps rs) (oW.mk c (pW ps rs) a.1 b.1)) us _ _;rw[oW.hd_mk];exact k4
    · show t0 I w ps rs (oW.tl c (pW ps rs) (oW.mk c (pW ps rs) a.1 b.1)) bs rvals _ _;rw[oW.tl_mk];exact k1
    · intro p hp;rcases mem_cons.1 hp with rfl|hp
      · exact .inr (.inl ⟨rfl,cs,hn⟩)
      · exact (k5.append k2) p hp
  · exact hr.elim
end Go.V
namespace Go.V
variable {w0:World} {T N:Nat->Prop} {en E:List (an×Entry)} {g g':Gh} {w:World} {I:Nat->Prop}

theorem Et {l:List (an×Entry)} {n:an} (h:n∉l.map (·.1)):oS l n=none:=by
 cases hf:oS l n with
 | none=>rfl
 | some y=>exact absurd (rj.2 (by rw[hf];simp)) h
theorem vi {l m:List (an×Entry)} {n:an} (h1:n∉l.map (·.1)) (h2:oS m n=none):oS (l++m) n=none:=by rw[pD h1];exact h2
theorem r9.congr {new new':List (an×Entry)} {ts ns:List Nat} (h:r9 w0 T N E g w new g' ts ns) (he:∀n,oS (new++E) n=oS (new'++E) n):r9 w0 T N E g w new' g' ts ns:=by
 refine⟨h.ms.congr he,by rw[←rG he];exact h.le,h.imm,h.giv.t1,h.giv.n1,λb hb=>?_,λb hb=>?_,λb hb m f hm=>h.giv.tw b hb m f ((he m).trans hm)⟩
 · obtain⟨k1,k2,k3⟩:=h.giv.tf b hb;exact⟨k1,λm f hm=>k2 m f ((he m).trans hm),k3⟩
 · obtain⟨k1,k2⟩:=h.giv.nf b hb;exact⟨λm f hm=>k1 m f ((he m).trans hm),k2⟩
theorem Fv {D:an->Prop} {agg:Bool} {cs:List Cell} {v:Value} {us:List Value} (h:p5 (oY D g w) cs us) (ha:isAgg agg v us):qa D g w (rm agg cs) v:=by
 have:=uW h ha;cases hx:rm agg cs with
 | cell c=>rw[hx]at this;exact this
 | agg ds=>rw[hx]at this;exact this
 | tup l =>
  exfalso;cases agg with
  | true=>cases cs<;>cases hx
  | false=>cases cs with
   | nil=>cases hx
   | cons c cs=>cases cs<;>cases hx
theorem w5:∀(rs:List qi) (n:an) (x:oW (pT rs)) (rvals:List Value) (ts ns ts' ns':List Nat) (g:Gh),MS w0 T N E g w->rk w0 T N E g (ts++ts') (ns++ns')->uh g.I w rs x rvals ts ns->p6 (pn n rs x).news=true ->
 (∀p∈(pn n rs x).news,oS E p.1=none)->(pn n rs x).upds=[]/\∃g',r9 w0 T N E g w (pn n rs x).news g' ts' ns'/\p5 (qa (dom ((pn n rs x).news++E)) g' w) (pn n rs x).vals rvals
 | [],n,x,rvals,ts,ns,ts',ns',g,h,hv,ha,hd,hf=>by
  obtain⟨rfl,rfl,rfl⟩:=ha;exact⟨rfl,g,r9.refl h (by simpa using hv),trivial⟩
 | .val agg c own::rs,n,x,rvals,ts,ns,ts',ns',g,h,hv,ha,hd,hf=>by
  obtain⟨v,vs',us,t1,t2,n1,n2,rfl,hag,rfl,rfl,hin,ha⟩:=ha;obtain⟨d1,d2,d3⟩:=q8 (l:=(qH own n c (oW.hd c (pT rs) x)).2) (m:=(pn (n+64) rs (oW.tl c (pT rs) x)).news) hd;obtain⟨e0,g1,k1,k2⟩:=w5 rs (n+64) (oW.tl c (pT rs) x) vs' t2 n2 (t1++ts') (n1++ns') g h (hv.mono (λb=>by simp only[count_append];omega) (λb=>by simp only[count_append];omega)) ha d2 (λp hp=>hf p (mem_append_right _ hp));obtain⟨g2,k4,k5⟩:=vh (n:=n) k1.ms (hin.imm λb hb=>by rw[k1.imm];exact hb) k1.giv (λp hp=>vi (d3 p.1 (mem_map_of_mem hp)) (hf p (mem_append_left _ hp))) d1;have e:(pn n (.val agg c own::rs) x).news++E=(qH own n c (oW.hd c (pT rs) x)).2++((pn (n+64) rs (oW.tl c (pT rs) x)).news++E):=append_assoc _ _ _
  refine⟨e0,g2,k1.trans k4,?_,?_⟩
  · rw[e];exact Fv k5 hag
  · rw[e];exact p5.imp (λ_ _=>qa.mono k4.le) k2
 | .ptr c own::rs,n,x,rvals,ts,ns,ts',ns',g,h,hv,ha,hd,hf=>by
  obtain⟨b,vs',us,t1,t2,n1,n2,rfl,hob,rfl,rfl,hin,ha⟩:=ha;obtain⟨d0,hd⟩:=qg (n:=n) (l:=(qH own (n+1) c (oW.hd c (pT rs) x)).2++(pn (n+64) rs (oW.tl c (pT rs) x)).news) hd;obtain⟨d1,d2,d3⟩:=q8 hd;have hf1:∀p∈(qH own (n+1) c (oW.hd c (pT rs) x)).2++(pn (n+64) rs (oW.tl c (pT rs) x)).news,oS E p.1=none:=λp hp=>hf p (mem_cons_of_mem _ hp)
  obtain⟨e0,g1,k1,k2⟩:=w5 rs (n+64) (oW.tl c (pT rs) x) vs' t2 n2 (t1++(b::ts')) (n1++ns') g h (hv.mono (λb'=>by simp only[count_append,count_cons,cons_append];omega) (λb=>by simp only[count_append];omega)) ha d2 (λp hp=>hf1 p (mem_append_right _ hp));obtain⟨g2,k4,k5⟩:=vh (n:=n+1) k1.ms (hin.imm λb hb=>by rw[k1.imm];exact hb) k1.giv (λp hp=>vi (d3 p.1 (mem_map_of_mem hp)) (hf1 p (mem_append_left _ hp))) d1;have k6:=k1.trans k4
  have hfree:oS ((qH own (n+1) c (oW.hd c (pT rs) x)).2++(pn (n+64) rs (oW.tl c (pT rs) x)).news++E) n=none:=vi d0 (hf (n,_) mem_cons_self);obtain⟨g3,k7,k8⟩:=B9 k6.ms hob (by rw[append_assoc];exact k5) k6.giv (λhd=>absurd hfree hd) (λe he=>by rw[hfree]at he;cases he);refine⟨e0,g3,k6.trans k7,⟨pZ.2 (.inl rfl),b,k8,rfl⟩,?_⟩;refine p5.imp (λ_ _ hx=>?_) k2;have h1:=qa.mono k4.le hx
  rw[←append_assoc]at h1;exact qa.mono k7.le h1
theorem w6:∀(rs:List qi) (n:an) (x:oW (pT rs)),(pn n rs x).upds=[]
 | [],_,_=>rfl
 | .val _ c _::rs,n,x=>w6 rs (n+64) (oW.tl c (pT rs) x)
 | .ptr c _::rs,n,x=>w6 rs (n+64) (oW.tl c (pT rs) x)
theorem uL:∀(ps:List pF) (rs:List qi) (n:an) (bs:List an) (x:oW (pW ps rs)),∀p∈(oZ n ps rs bs x).upds,p.1∈bs
 | [],rs,n,bs,x,p,hp=>by
  have:(oZ n [] rs bs x).upds=[]:=w6 rs n x;rw[this]at hp;simp at hp
 | .val .. :: ps,rs,n,bs,x,p,hp=>uL ps rs n bs x p hp
 | .ptr c own::ps,rs,n,[],x,p,hp=>by simp[oZ]at hp
 | .ptr c own::ps,rs,n,b::bs,x,p,hp=>by
  have hp:p∈(b,Entry.box (qH own n c (oW.hd c (pW ps rs) x)).1)::(oZ (n+64) ps rs bs (oW.tl c (pW ps rs) x)).upds:=hp;rcases mem_cons.1 hp with rfl|hp
  · exact mem_cons_self
  · exact mem_cons_of_mem _ (uL ps rs (n+64) bs _ p hp)
theorem Fw {l m:List (an×Entry)} {b:an} {x:Entry} (h:b∉l.map (·.1)) (n:an):oS ((b,x)::(l++m)) n=oS (l++(b,x)::m) n:=by
 rw[p8,pB,pB,p8];by_cases hbn:b=n
 · subst hbn;rw[if_pos rfl,if_pos rfl,Et h]
 · rw[if_neg hbn,if_neg hbn]
def Eu (E:List (an×Entry)) (g:Gh) (n:an) (b:Nat):Prop:=oS E n=some .gone/\g.loc n=.pointer (some ⟨b,0,none⟩)
theorem w7:∀(ps:List pF) (rs:List qi) (n:an) (x:oW (pW ps rs)) (nm:List an) (bs:List Nat) (rvals:List Value) (ts ns ts' ns':List Nat) (g:Gh),MS w0 T N E g w->rk w0 T N E g (ts++ts') (ns++ns')->t0 g.I w ps rs x bs rvals ts ns ->
 p5 (Eu E g) nm bs->nm.Nodup->p6 (oZ n ps rs nm x).news=true->(∀p∈(oZ n ps rs nm x).news,oS E p.1=none) ->
 ∃g',r9 w0 T N E g w ((oZ n ps rs nm x).news++(oZ n ps rs nm x).upds) g' ts' ns'/\p5 (qa (dom ((oZ n ps rs nm x).news++(oZ n ps rs nm x).upds++E)) g' w) (oZ n ps rs nm x).vals rvals
 | [],rs,n,x,nm,bs,rvals,ts,ns,ts',ns',g,h,hv,ha,hp,hnd,hd,hf=>by
  obtain⟨rfl,ha⟩:=ha;have hd:p6 (pn n rs x).news=true:=hd
  have hf:∀p∈(pn n rs x).news,oS E p.1=none:=hf;obtain⟨e0,g',k1,k2⟩:=w5 rs n x rvals ts ns ts' ns' g h hv ha hd hf;have e:(pn n rs x).news++(pn n rs x).upds=(pn n rs x).news:=by rw[e0,append_nil]
  refine⟨g',?_,?_⟩
  · show r9 w0 T N E g w ((pn n rs x).news++(pn n rs x).upds) g' ts' ns';rw[e];exact k1
  · show p5 (qa (dom ((pn n rs x).news++(pn n rs x).upds++E)) g' w) (pn n rs x).vals rvals;rw[e];exact k2
 | .val agg c mv::ps,rs,n,x,nm,bs,rvals,ts,ns,ts',ns',g,h,hv,ha,hp,hnd,hd,hf=>w7 ps rs n x nm bs rvals ts ns ts' ns' g h hv ha hp hnd hd hf
 | .ptr c own::ps,rs,n,x,[],bs,rvals,ts,ns,ts',ns',g,h,hv,ha,hp,hnd,hd,hf=>by
  obtain⟨b,bs',us,t1,t2,n1,n2,rfl,_⟩:=ha;exact hp.elim
 | .ptr c own::ps,rs,n,x,m::nm,bs,rvals,ts,ns,ts',ns',g,h,hv,ha,hp,hnd,hd,hf=>by
  obtain⟨b,bs',us,t1,t2,n1,n2,rfl,hob,rfl,rfl,hin,ha⟩:=ha;obtain⟨⟨hp1,hp2⟩,hp⟩:=hp;rw[nodup_cons]at hnd
  let r:=oZ (n+64) ps rs nm (oW.tl c (pW ps rs) x)
  let q:=qH own n c (oW.hd c (pW ps rs) x)
  have hd:p6 (q.2++r.news)=true:=hd;have hf:∀p∈q.2++r.news,oS E p.1=none:=hf
  obtain⟨d1,d2,d3⟩:=q8 hd;obtain⟨g1,k1,k2⟩:=w7 ps rs (n+64) (oW.tl c (pW ps rs) x) nm bs' rvals t2 n2 (t1++(b::ts')) (n1++ns') g h (hv.mono (λb'=>by simp only[count_append,count_cons,cons_append];omega) (λb=>by simp only[count_append];omega)) ha hp hnd.2 d2 (λp hp=>hf p (mem_append_right _ hp));have hup:∀p∈r.upds,p.1∈nm:=uL ps rs (n+64) nm _
  have hnmE:∀k∈nm,∃y,oS E k=some y:=by
   intro k hk;have key:∀(l:List an) (bl:List Nat),p5 (Eu E g) l bl->k∈l->∃y,oS E k=some y:=by
    intro l
    induction l with
    | nil=>intro bl _ hk;simp at hk
    | cons a l ih=>intro bl hl hk;cases bl with
     | nil=>exact hl.elim
     | cons c bl =>
      rcases mem_cons.1 hk with rfl|hk
      · exact⟨_,hl.1.1⟩
      · exact ih bl hl.2 hk
   exact key nm bs' hp hk
  have hnotup:∀p:an×Entry,oS E p.1=none->p.1∉r.upds.map (·.1):=by
   intro p hpE hm;obtain⟨u,hu,he⟩:=mem_map.1 hm;obtain⟨y,hy⟩:=hnmE u.1 (hup u hu);rw[he,hpE]at hy;cases hy
  obtain⟨g2,k4,k5⟩:=vh (n:=n) k1.ms (hin.imm λb hb=>by rw[k1.imm];exact hb) k1.giv (λp hp=>by
   have hpE:=hf p (mem_append_left _ hp);refine vi ?_ hpE;rw[map_append,mem_append,not_or];exact⟨d3 p.1 (mem_map_of_mem hp),hnotup p hpE⟩) d1
  have k6:=k1.trans k4;have hmE:dom E m:=by unfold dom;rw[hp1];simp
  have hmq:m∉q.2.map (·.1):=λhm=>by
   obtain⟨u,hu,he⟩:=mem_map.1 hm;have:=hf u (mem_append_left _ hu);rw[he,hp1]at this;cases this
  have hmr:m∉r.news.map (·.1):=λhm=>by
   obtain⟨u,hu,he⟩:=mem_map.1 hm;have:=hf u (mem_append_right _ hu);rw[he,hp1]at this;cases this
  have hmu:m∉r.upds.map (·.1):=λhm=>by
   obtain⟨u,hu,he⟩:=mem_map.1 hm;exact hnd.1 (he▸hup u hu)
  have hfind:oS (q.2++(r.news++r.upds)++E) m=some .gone:=by
   rw[pD]
   · exact hp1
   · rw[map_append,map_append,mem_append,mem_append,not_or,not_or];exact⟨hmq,hmr,hmu⟩
  obtain⟨g3,k7,k8⟩:=B9 (n:=m) k6.ms hob (by rw[append_assoc];exact k5) k6.giv (λ_=>(k6.le.loc m hmE).trans hp2) (λe he=>by
   have:oS (q.2++(r.news++r.upds)++E) m=some e:=he;rw[hfind]at this;cases this;rfl)
  have hcong:∀k,oS ([(m,.box q.1)]++(q.2++(r.news++r.upds))++E) k=oS ((q.2++r.news++((m,.box q.1)::r.upds))++E) k:=by
   intro k;have:=Fw (l:=q.2++r.news) (m:=r.upds++E) (b:=m) (x:=.box q.1) (by rw[map_append,mem_append,not_or];exact⟨hmq,hmr⟩) k
   simpa[append_assoc]using this
  refine⟨g3,(k6.trans k7).congr hcong,?_⟩;show p5 (qa (dom ((q.2++r.news++((m,.box q.1)::r.upds))++E)) g3 w) r.vals rvals
  rw[←rG hcong];refine p5.imp (λ_ _ hx=>?_) k2;have h1:=qa.mono k4.le hx
  rw[←append_assoc]at h1;exact qa.mono k7.le h1
end Go.V
namespace Go.V
variable {w0:World} {T N:Nat->Prop} {en E:List (an×Entry)} {g g':Gh} {w w':World} {I:Nat->Prop}

theorem MS.useAny (h:MS w0 T N en g w):∀{used:List (an×Entry)},qR en used->p6 used=true ->
 ∃g1,MS w0 T N (used++en) g1 w/\Le (dom en) g w (dom (used++en)) g1 w/\g1.loc=g.loc/\g1.esz=g.esz/\g1.top=g.top/\g1.nest=g.nest/\(∀b,g1.I b↔g.I b\/∃p∈used,(∃e xs,p.2=.fwd e xs)/\g.top p.1=some b)
 | [],_,_=>⟨g,h,Le.refl _ _ _,rfl,rfl,rfl,rfl,λb=>⟨.inl,λk=>k.elim id λ⟨p,hp,_⟩=>by simp at hp⟩⟩
 | (n,x)::used,hu,hd=>by
  obtain⟨h1,h2⟩:=qg hd;obtain⟨g1,hM,hle,e1,e2,e3,e4,hI⟩:=h.useAny (used:=used) (λp hp=>hu p (mem_cons_of_mem _ hp)) h2;have hgone:x=.gone->dom en n->∃g1,MS w0 T N ((n,x)::used++en) g1 w/\Le (dom en) g w (dom ((n,x)::used++en)) g1 w/\g1.loc=g.loc/\g1.esz=g.esz/\g1.top=g.top/\g1.nest=g.nest/\(∀b,g1.I b↔g.I b\/∃p∈(n,x)::used,(∃e xs,p.2=.fwd e xs)/\g.top p.1=some b):=by
   intro hx hdn;subst hx;obtain⟨hM2,hle2⟩:=hM.gone (hle.dom n hdn);refine⟨g1,hM2,hle.trans hle2,e1,e2,e3,e4,λb=>(hI b).trans ⟨?_,?_⟩⟩
   · rintro (k|⟨p,hp,k⟩)
     · exact .inl k
     · exact .inr ⟨p,mem_cons_of_mem _ hp,k⟩
   · rintro (k|⟨p,hp,⟨e,xs,k⟩,k'⟩)
     · exact .inl k
     · rcases mem_cons.1 hp with rfl|hp
       · cases k
       · exact .inr ⟨p,hp,⟨e,xs,k⟩,k'⟩
  rcases hu (n,x) mem_cons_self with ⟨hx,e,m,xs,hn⟩|⟨hx,cs,hn⟩|⟨e,m,xs,hn,hx⟩
  · exact hgone hx (by unfold dom;rw[show oS en n=_ from hn];simp)
  · exact hgone hx (by unfold dom;rw[show oS en n=_ from hn];simp)
  · obtain rfl:x=.fwd e xs:=hx;obtain⟨g2,hM2,hle2,f1,f2,f3,f4,hI2⟩:=hM.fwd (n:=n) ((pD h1).trans hn);refine⟨g2,hM2,hle.trans hle2,f1.trans e1,f2.trans e2,f3.trans e3,f4.trans e4,λb=>?_⟩;rw[hI2,hI,e3];constructor
    · rintro ((k|⟨p,hp,k⟩)|k)
      · exact .inl k
      · exact .inr ⟨p,mem_cons_of_mem _ hp,k⟩
      · exact .inr ⟨_,mem_cons_self,⟨e,xs,rfl⟩,k⟩
    · rintro (k|⟨p,hp,k,k'⟩)
      · exact .inl (.inl k)
      · rcases mem_cons.1 hp with rfl|hp
        · exact .inr k'
        · exact .inl (.inr ⟨p,hp,k,k'⟩)
theorem uX {used:List (an×Entry)} {b:Nat} (h:b∈qJ g used):∃p∈used,p.2=.gone/\g.top p.1=some b:=by
 obtain⟨p,hp,hb⟩:=mem_flatMap.1 h;unfold tT at hb;split at hb
 · rename_i hx;exact⟨p,hp,hx,by simpa using hb⟩
 · simp at hb
theorem y8 {used:List (an×Entry)} {b:Nat} (h:b∈qL en g used):∃p∈used,p.2=.gone/\(∃e xs,oS en p.1=some (.root e true xs))/\b∈g.nest p.1:=by
 obtain⟨p,hp,hb⟩:=mem_flatMap.1 h;unfold sK at hb;split at hb
 · rename_i hx;split at hb
   · rename_i e xs hn;exact⟨p,hp,hx,⟨e,xs,hn⟩,hb⟩
   · simp at hb
 · simp at hb
theorem qm {used:List (an×Entry)} (hu:qR en used) {p:an×Entry} (hp:p∈used):∃f,oS en p.1=some f/\f.alive=true:=by
 rcases hu p hp with ⟨_,e,m,xs,hn⟩|⟨_,cs,hn⟩|⟨e,m,xs,hn,_⟩<;>exact⟨_,hn,rfl⟩
theorem yU (hm:qM en g w):∀{used:List (an×Entry)},qR en used->p6 used=true->uD (qJ g used)
 | [],_,_=>λb=>by simp[qJ]
 | (n,x)::used,hu,hd=>by
  obtain⟨h1,h2⟩:=qg hd;have ih:=yU hm (used:=used) (λp hp=>hu p (mem_cons_of_mem _ hp)) h2
  rw[pY]at ih ⊢;show ((n,x)::used).flatMap (tT g) |>.Nodup
  rw[flatMap_cons,nodup_append];refine⟨?_,ih,λb hb c hc hbc=>?_⟩
  · unfold tT;split
    · cases g.top (n,x).1<;>simp
    · simp
  · subst hbc;obtain⟨p,hp,_,hpt⟩:=uX hc;have hb':b∈qJ g [(n,x)]:=by unfold qJ;simpa using hb
    obtain⟨q,hq,_,hqt⟩:=uX hb';rw[mem_singleton]at hq;subst hq;obtain⟨f,hf,hfa⟩:=qm hu (mem_cons_self);obtain⟨f',hf',hfa'⟩:=qm hu (mem_cons_of_mem _ hp);have:=hm.apart n p.1 f f' b hf hf' hfa hfa' hqt hpt
    exact h1 (this▸mem_map_of_mem hp)
theorem wG {used:List (an×Entry)} (hu:qR en used) {p:an×Entry} (hp:p∈used) (hg:p.2=.gone) (hr:∃e xs,oS en p.1=some (.root e true xs)):∃e xs,oS en p.1=some (.root e true xs):=hr
theorem yV (hm:qM en g w):∀{used:List (an×Entry)},qR en used->p6 used=true->uD (qL en g used)
 | [],_,_=>λb=>by simp[qL]
 | (n,x)::used,hu,hd=>by
  obtain⟨h1,h2⟩:=qg hd;have ih:=yV hm (used:=used) (λp hp=>hu p (mem_cons_of_mem _ hp)) h2
  rw[pY]at ih ⊢;show ((n,x)::used).flatMap (sK en g) |>.Nodup
  rw[flatMap_cons,nodup_append];refine⟨?_,ih,λb hb c hc hbc=>?_⟩
  · unfold sK;split
    · rename_i hx;split
      · rename_i e xs hn;obtain⟨_,_,_,hnd⟩:=pS hm hn;exact hnd rfl
      · simp
    · simp
  · subst hbc;obtain⟨p,hp,hpg,hpr,hpt⟩:=y8 hc;have hb':b∈qL en g [(n,x)]:=by unfold qL;simpa using hb
    obtain⟨q,hq,hqg,hqr,hqt⟩:=y8 hb';rw[mem_singleton]at hq;subst hq;obtain⟨e1,x1,hn1⟩:=wG hu mem_cons_self hqg hqr;obtain⟨e2,x2,hn2⟩:=wG hu (mem_cons_of_mem _ hp) hpg hpr;have hne:n≠p.1:=λe=>h1 (e▸mem_map_of_mem hp)
    exact hm.nests n p.1 _ _ hn1 hn2 rfl rfl hne b hqt hpt
theorem Cs.Gifts.flat:{c:Cs}->{x:c.den}->{us:List Value}->{ts ns:List Nat}->c.hasSl=false->Cs.Gifts I w c x us ts ns->ns=[]
 | .one c,x,us,ts,ns,h,⟨v,h1,h2⟩=>by
  cases c with
  | sl e=>simp[Cs.hasSl,CT.isSl]at h
  | _=>exact h2.2.1
 | .cons c r,x,us,ts,ns,h,⟨v,vs',t1,t2,n1,n2,h1,h2,h3,h4,h5⟩=>by
  simp only[Cs.hasSl,Bool.or_eq_false_iff]at h;have:=Cs.Gifts.flat h.2 h5
  subst this;subst h3;cases c with
  | sl e=>simp[CT.isSl]at h
  | _=>rw[append_nil];exact h4.2.1
theorem sW.shift {I':Nat->Prop} {own:Option Bool} {c:Cs} {x:c.den} {us:List Value} {ts ns:List Nat} (hn:∀b∈ns,I b->I' b) (hs:(uA own=true->c.hasSl=false)\/∀b,I b->I' b) (h:sW I w own c x us ts ns):sW I' w own c x us ts ns:=by
 rcases h with ⟨m,ns',rfl,h2,hm⟩|⟨rfl,h2,h3,F,h4,h5⟩
 · refine .inl ⟨m,ns',rfl,?_,hm⟩;have hn2:∀b∈ns',I b->I' b:=by
    cases m with
    | true=>rw[hm rfl];exact hn
    | false =>
     rcases hs with hs|hs
     · rw[h2.flat (hs rfl)];simp
     · exact λb _=>hs b
   clear hm hn;have hc:∀{c:CT} {x:c.den} {v:Value} {ts ns:List Nat},(∀b∈ns,I b->I' b)->CT.Gifts I w c x v ts ns->CT.Gifts I' w c x v ts ns:=by
    intro c x v ts ns hn h;cases c with
    | sl e=>obtain⟨tp,h1,h2,h3⟩:=h;exact⟨tp,h1,h2,λb hb=>hn b hb (h3 b hb)⟩
    | _=>exact h
   clear hs
   revert x us ts ns'
   induction c using Cs.rec (motive_1:=λ_=>True)with
   | one c _=>intro x us ts ns h hn;obtain⟨v,h1,h2⟩:=h;exact⟨v,h1,hc hn h2⟩
   | cons c r _ ih =>
    intro x us ts ns h hn;obtain⟨v,vs',t1,t2,n1,n2,h1,h2,h3,h4,h5⟩:=h;subst h3;exact⟨v,vs',t1,t2,n1,n2,h1,h2,rfl,hc (λb hb=>hn b (mem_append_left _ hb)) h4,ih _ h5 (λb hb=>hn b (mem_append_right _ hb))⟩
   | _=>trivial
 · refine .inr ⟨rfl,h2,h3,F,h4,λb hb=>?_⟩;rcases hs with hs|hs
   · rw[h4.flat (hs rfl)]at hb;simp at hb
   · exact hs b (h5 b hb)
theorem uh.shift {I':Nat->Prop}:∀{rs:List qi} {x:oW (pT rs)} {vs:List Value} {ts ns:List Nat},(∀b∈ns,I b->I' b)->(rs.any qi.sh=false\/∀b,I b->I' b)->uh I w rs x vs ts ns->uh I' w rs x vs ts ns
 | [],_,_,_,_,_,_,h=>h
 | .val agg c own::rs,x,vs,ts,ns,hn,hs,⟨v,vs',us,t1,t2,n1,n2,h1,h2,h3,h4,h5,h6⟩=>by
  subst h4;refine⟨v,vs',us,t1,t2,n1,n2,h1,h2,h3,rfl,h5.shift (λb hb=>hn b (mem_append_left _ hb)) (hs.imp (λhs ho=>?_) id),uh.shift (λb hb=>hn b (mem_append_right _ hb)) (hs.imp (λhs=>?_) id) h6⟩
  · simp only[any_cons,Bool.or_eq_false_iff,qi.sh,ho,Bool.true_and]at hs;exact hs.1
  · simp only[any_cons,Bool.or_eq_false_iff]at hs;exact hs.2
 | .ptr c own::rs,x,vs,ts,ns,hn,hs,⟨v,vs',us,t1,t2,n1,n2,h1,h2,h3,h4,h5,h6⟩=>by
  subst h4;refine⟨v,vs',us,t1,t2,n1,n2,h1,h2,h3,rfl,h5.shift (λb hb=>hn b (mem_append_left _ hb)) (hs.imp (λhs ho=>?_) id),uh.shift (λb hb=>hn b (mem_append_right _ hb)) (hs.imp (λhs=>?_) id) h6⟩
  · simp only[any_cons,Bool.or_eq_false_iff,qi.sh,ho,Bool.true_and]at hs;exact hs.1
  · simp only[any_cons,Bool.or_eq_false_iff]at hs;exact hs.2
theorem t0.shift {I':Nat->Prop}:∀{ps:List pF} {rs:List qi} {x:oW (pW ps rs)} {bs:List Nat} {vs:List Value} {ts ns:List Nat},(∀b∈ns,I b->I' b)->(rJ ps rs=false\/∀b,I b->I' b)->t0 I w ps rs x bs vs ts ns->t0 I' w ps rs x bs vs ts ns
 | [],rs,x,bs,vs,ts,ns,hn,hs,⟨h1,h2⟩=>⟨h1,h2.shift hn (hs.imp (λhs=>by simpa[rJ]using hs) id)⟩
 | .val agg c mv::ps,rs,x,bs,vs,ts,ns,hn,hs,h=>t0.shift (ps:=ps) hn (hs.imp (λhs=>by simpa[rJ,pF.sh]using hs) id) h
 | .ptr c own::ps,rs,x,bs,vs,ts,ns,hn,hs,⟨b,bs',us,t1,t2,n1,n2,h1,h2,h3,h4,h5,h6⟩=>by
  subst h4;refine⟨b,bs',us,t1,t2,n1,n2,h1,h2,h3,rfl,h5.shift (λb hb=>hn b (mem_append_left _ hb)) (hs.imp (λhs ho=>?_) id),t0.shift (λb hb=>hn b (mem_append_right _ hb)) (hs.imp (λhs=>?_) id) h6⟩
  · simp only[rJ,any_cons,Bool.or_eq_false_iff,pF.sh,ho,Bool.true_and]at hs;exact hs.1.1
  · simp only[rJ,any_cons,Bool.or_eq_false_iff]at hs ⊢;exact⟨hs.1.2,hs.2⟩
end Go.V
namespace Go.V
variable {P:Program} {G:qd} {w0:World} {T N:Nat->Prop} {en E:List (an×Entry)} {g g':Gh} {w w':World} {I:Nat->Prop} {nt:Nat} {ann:List (Nat×p3)}

theorem w8:∀(ps:List pF) (i:Nat) (x:oW (pf ps)),(∀t v,oS (entry i ps x).1 t=some v->rN (dom (entry i ps x).2) v)/\(∀n cs,(n,Entry.box cs)∈(entry i ps x).2->∀c∈cs,qW (dom (entry i ps x).2) c)
 | [],i,x=>⟨(λt v h=>by cases h),(λn cs h=>by cases h)⟩
 | .val agg c mv::ps,i,x=>by
  obtain⟨k1,k2⟩:=w8 ps (i+1) (oW.tl c (pf ps) x);obtain⟨k3,k4⟩:=uU (H3 mv) (64*i+1) c (oW.hd c (pf ps) x);rw[BE];refine⟨λt v h=>?_,λn cs h=>?_⟩
  · rw[p8]at h;split at h
    · cases h;exact ze λd hd=>(k4 d hd).mono λn hn=>tB hn
    · exact (k1 t v h).mono λn hn=>sR hn
  · rcases mem_append.1 h with h|h
    · exact absurd h (k3 n cs)
    · exact λd hd=>(k2 n cs h d hd).mono λn hn=>sR hn
 | .ptr c own::ps,i,x=>by
  obtain⟨k1,k2⟩:=w8 ps (i+1) (oW.tl c (pf ps) x);obtain⟨k3,k4⟩:=uU own (64*i+2) c (oW.hd c (pf ps) x);rw[BF];refine⟨λt v h=>?_,λn cs h=>?_⟩
  · rw[p8]at h;split at h
    · cases h;intro n hn;simp[Cell.refs]at hn;subst hn;exact xV
    · exact (k1 t v h).mono λn hn=>pZ.2 (.inr (sR hn))
  · rcases mem_cons.1 h with h|h
    · cases h;exact λd hd=>(k4 d hd).mono λn hn=>pZ.2 (.inr (tB hn))
    · rcases mem_append.1 h with h|h
      · exact absurd h (k3 n cs)
      · exact λd hd=>(k2 n cs h d hd).mono λn hn=>pZ.2 (.inr (sR hn))
theorem zg {F:an->Option Entry}:∀{ps:List pF} {args:List AV} {b:xN (pf ps)} {L:List an},(pX true ps args).Runs F b L->b.ro=[]
 | [],[],b,L,hr=>by obtain⟨rfl,_⟩:=hr;rfl
 | .val agg c false::ps,v::args,b,L,hr=>by
  simp only[pX]at hr;obtain⟨_,L5,L6,_,h0,hr⟩:=Rd.runs_bind hr;obtain⟨a,L1,L2,_,h1,hr⟩:=Rd.runs_bind hr;obtain⟨b',L3,L4,_,h2,hr⟩:=Rd.runs_bind hr;obtain⟨rfl,_⟩:=hr;have ih:=zg h2
  exact ih
 | .val agg c true::ps,v::args,b,L,hr=>by
  simp only[pX]at hr;obtain⟨_,L5,L6,_,h0,hr⟩:=Rd.runs_bind hr;obtain⟨a,L1,L2,_,h1,hr⟩:=Rd.runs_bind hr;obtain⟨b',L3,L4,_,h2,hr⟩:=Rd.runs_bind hr;obtain⟨rfl,_⟩:=hr;have ih:=zg h2
  exact ih
 | .ptr c own::ps,.cell (.box n 0)::args,b,L,hr=>by
  simp only[pX]at hr;obtain⟨L',_,hr⟩:=hr;dsimp only at hr;split at hr
  · obtain⟨a,L1,L2,_,h1,hr⟩:=Rd.runs_bind hr;obtain⟨b',L3,L4,_,h2,hr⟩:=Rd.runs_bind hr;obtain⟨rfl,_⟩:=hr;have ih:=zg h2
    exact ih
  · exact hr.elim
theorem wH {F:an->Option Entry} {sl:Bool}:∀{ps:List pF} {args:List AV} {b:xN (pf ps)} {L:List an},(pX sl ps args).Runs F b L->p6 b.used=true->b.ptrs.Nodup/\∀n∈b.ptrs,n∈b.used.map (·.1)
 | [],[],b,L,hr,_=>by obtain⟨rfl,_⟩:=hr;exact⟨List.nodup_nil,by simp⟩
 | .val agg c false::ps,v::args,b,L,hr,hd=>by
  simp only[pX]at hr;obtain⟨_,L5,L6,_,h0,hr⟩:=Rd.runs_bind hr;obtain⟨a,L1,L2,_,h1,hr⟩:=Rd.runs_bind hr;obtain⟨b',L3,L4,_,h2,hr⟩:=Rd.runs_bind hr;obtain⟨rfl,_⟩:=hr;obtain⟨k1,k2⟩:=wH h2 (q8 hd).2.1;exact⟨k1,λn hn=>by rw[map_append];exact mem_append_right _ (k2 n hn)⟩
 | .val agg c true::ps,v::args,b,L,hr,hd=>by
  simp only[pX]at hr;obtain⟨_,L5,L6,_,h0,hr⟩:=Rd.runs_bind hr;obtain⟨a,L1,L2,_,h1,hr⟩:=Rd.runs_bind hr;obtain⟨b',L3,L4,_,h2,hr⟩:=Rd.runs_bind hr;obtain⟨rfl,_⟩:=hr;obtain⟨k1,k2⟩:=wH h2 (q8 hd).2.1;exact⟨k1,λn hn=>by rw[map_append];exact mem_append_right _ (k2 n hn)⟩
 | .ptr c own::ps,.cell (.box n 0)::args,b,L,hr,hd=>by
  simp only[pX]at hr;obtain⟨L',_,hr⟩:=hr;dsimp only at hr;split at hr
  · obtain⟨a,L1,L2,_,h1,hr⟩:=Rd.runs_bind hr;obtain⟨b',L3,L4,_,h2,hr⟩:=Rd.runs_bind hr;obtain⟨rfl,_⟩:=hr;obtain⟨d1,d2⟩:=qg hd;obtain⟨k1,k2⟩:=wH h2 (q8 d2).2.1;refine⟨nodup_cons.2 ⟨λhn=>d1 (by rw[map_append];exact mem_append_right _ (k2 n hn)),k1⟩,λm hm=>?_⟩;rcases mem_cons.1 hm with rfl|hm
    · simp
    · simp only[List.map_cons,map_append];exact mem_cons_of_mem _ (mem_append_right _ (k2 m hm))
  · exact hr.elim
theorem Bb {used:List (an×Entry)} {g1 g2 gc gf:Gh} {D D':an->Prop} {wc wf:World} (hd:p6 used=true) (hloc:∀n,g2.loc n=g.loc n) (hle:Le D gc wc D' gf wf):∀{ps:List pF} {i:Nat} {vals:List Value} {nm:List an} {bs:List Nat},so en g used ps vals nm->vk D gc i ps vals->Es gf i ps bs ->
 p5 (Eu (used++en) g2) nm bs
 | [],i,vals,nm,bs,h1,_,h3=>by obtain rfl:=h1;obtain rfl:=h3;exact trivial
 | .val .. :: ps,i,v::vals,nm,bs,h1,h2,h3=>Bb (ps:=ps) (i:=i+1) (vals:=vals) (g1:=g1) hd hloc hle h1 h2 h3
 | .ptr .. :: ps,i,v::vals,nm,bs,h1,h2,h3=>by
  obtain⟨n,ns',rfl,k1,k2,k3,k4⟩:=h1;obtain⟨⟨l1,l2⟩,l3⟩:=h2;obtain⟨b,bs',rfl,m1,m2⟩:=h3;refine⟨⟨?_,?_⟩,Bb (g1:=g1) hd hloc hle k4 l3 m2⟩
  · rw[rz (mem_map_of_mem k1:n∈used.map (·.1))];exact qU hd k1
  · rw[hloc,k3,←l2,←hle.loc _ l1];exact m1
 | .val .. :: _,_,[],_,_,_,h2,_=>h2.elim
 | .ptr .. :: _,_,[],_,_,_,h2,_=>h2.elim
theorem Fx {D:an->Prop} {l:List AV} {rvals:List Value} (h:p5 (qa D g w) l rvals):pp D g w (u7 l) (Ba rvals):=by
 have h0:∀{x:AV} {v:Value},qa D g w x v->pp D g w x v:=by
  intro x v h;cases x with
  | cell c=>exact h
  | agg cs=>exact h
  | tup l=>exact h.elim
 match l,rvals,h with
 | [],[],_=>exact⟨#[],rfl,trivial⟩
 | [x],[v],h=>exact h0 h.1
 | x::y::l,v::u::r,h=>exact⟨(v::u::r).toArray,rfl,h⟩
theorem MS.begin (g:Gh) (Tc Nc:Nat->Prop) (h1:∀b,g.I b->b<w.heap.size) (h2:∀b,g.I b->E0 w Nc b) (hs:∀b,Tc b->soft w b):MS w Tc Nc [] g w :=
 ⟨⟨(λn e h=>by cases h),(λn m e f b h=>by cases h),(λn e b h=>by cases h),(λn m e f h=>by cases h),h1,λn h=>absurd rfl h,(λn e b h=>by cases h)⟩,
  ⟨rfl,rfl,rfl,Nat.le_refl _,λb _ _=>rfl,(λn e b h=>by cases h),(λn e b h=>by cases h),λb hb=>.inr (.inr (h2 b hb)),(λn e b h=>by cases h),λb hb=>hb.elim (λhl c t lo hi hc=>by have:=ve hc;omega) (hs b)⟩⟩
theorem MS.start (Ic:Nat->Prop) (Tc Nc:Nat->Prop) (h1:∀b,Ic b->b<w.heap.size) (h2:∀b,Ic b->E0 w Nc b) (hs:∀b,Tc b->soft w b):MS w Tc Nc [] ⟨Ic,λ_=>.slice none 0 0,λ_=>0,λ_=>none,λ_=>[],λ_=>[]⟩ w :=
 MS.begin _ Tc Nc h1 h2 hs
end Go.V
namespace Go.V
variable {P:Program} {G:qd} {w0:World} {T N:Nat->Prop} {en E:List (an×Entry)} {g g':Gh} {w w':World} {I:Nat->Prop} {nt:Nat} {ann:List (Nat×p3)}

theorem Hv {ps:List pF} {rs:List qi} {used:List (an×Entry)} {ro nm:List an} {ts ns:List Nat} {vals:List Value} {D:an->Prop} {gc gf:Gh} {Sf:St} {g1:Gh} {Tc Nc:Nat->Prop} {Ic:Nat->Prop} {uid:an}
 (hM:MS w0 T N en g w) (hu:qR en used) (hd:p6 used=true) (hro:∀n∈ro,oS used n=none) (hsl:rJ ps rs=true->ro=[])
 (hM1:MS w0 T N (used++en) g1 w) (hle1:Le (dom en) g w (dom (used++en)) g1 w) (e1:g1.loc=g.loc) (e3:g1.top=g.top) (e4:g1.nest=g.nest) (hI1:∀b,g1.I b↔g.I b\/∃p∈used,(∃e xs,p.2=.fwd e xs)/\g.top p.1=some b)
 (hts:ts=qJ g used) (hns:ns=qL en g used) (hIc:∀b,Ic b↔g1.I b\/∃n∈ro,∃f,oS en n=some f/\f.alive=true/\g.top n=some b) (hTc:∀b,Tc b↔b∈ts) (hNc:∀b,Nc b↔b∈ns\/∃c,b=w.heap.size+c/\Ic c)
 (hnames:so en g used ps vals nm) (hnd:nm.Nodup) (hploc:vk D gc 0 ps vals) (hgc:gc.I=Ic) (hMf:MS w Tc Nc Sf.en gf w') (hle:Le D gc w (dom Sf.en) gf w')
 {vs:List AV} {rvals:List Value} {r:oW (pW ps rs)} {ents:List (an×Entry)} {L:List an} (hrv:p5 (pp (dom Sf.en) gf w') vs rvals) (hok:vq rs vs=true) (hto:(uS 0 ps rs vs).Runs (oS Sf.en) (r,ents) L) (hde:p6 ents=true)
 (hdist:p6 (oZ uid ps rs nm r).news=true) (hnew:∀p∈(oZ uid ps rs nm r).news,oS en p.1=none) :
 ∃g',MS w0 T N ((oZ uid ps rs nm r).news++((oZ uid ps rs nm r).upds++used)++en) g' w'/\Le (dom en) g w (dom ((oZ uid ps rs nm r).news++((oZ uid ps rs nm r).upds++used)++en)) g' w' /\
  pp (dom ((oZ uid ps rs nm r).news++((oZ uid ps rs nm r).upds++used)++en)) g' w' (u7 (oZ uid ps rs nm r).vals) (Ba rvals):=by
 have hM1I:∀b,g1.I b->b<w.heap.size:=hM1.mem.old;have htsU:∀b∈ts,b<w.heap.size/\¬g1.I b/\∃p∈used,p.2=.gone/\g.top p.1=some b:=by
  intro b hb;rw[hts]at hb;obtain⟨p,hp,hpg,hpt⟩:=uX hb;obtain⟨f,hf,hfa⟩:=qm hu hp;refine⟨(hM.mem.rep p.1 f hf).top_lt hfa hpt,λhI=>?_,p,hp,hpg,hpt⟩;rcases (hI1 b).1 hI with h|⟨q,hq,⟨e,xs,hqe⟩,hqt⟩
  · exact hM.mem.topI p.1 f b hf hfa hpt h
  · obtain⟨f',hf',hfa'⟩:=qm hu hq;have:=hM.mem.apart p.1 q.1 f f' b hf hf' hfa hfa' hpt hqt
    have h1:=qU hd hp;have h2:=qU hd hq
    rw[this,h2]at h1;rw[hpg,hqe]at h1;cases h1
 have hnsU:∀b∈ns,g.I b/\∃p∈used,(∃e xs,oS en p.1=some (.root e true xs))/\b∈g.nest p.1:=by
  intro b hb;rw[hns]at hb;obtain⟨p,hp,hpg,hpr,hpt⟩:=y8 hb;obtain⟨e,xs,hn⟩:=wG hu hp hpg hpr;obtain⟨_,_,hI,_⟩:=pS hM.mem hn;exact⟨hI b hpt,p,hp,⟨e,xs,hn⟩,hpt⟩
 have hgI:∀b,g.I b->g1.I b:=λb hb=>(hI1 b).2 (.inl hb);have halive:∀n f,oS (used++en) n=some f->f.alive=true->oS en n=some f/\n∉used.map (·.1):=by
  intro n f hf ha;by_cases hn:n∈used.map (·.1)
  · exfalso;rw[rz hn]at hf;have hp:=pG hf
    rcases hu (n,f) hp with ⟨h,_⟩|⟨h,_⟩|⟨e,m,xs,_,h⟩
    · have h:f=.gone:=h;subst h;cases ha
    · have h:f=.gone:=h;subst h;cases ha
    · have h:f=.fwd e xs:=h;subst h;cases ha
  · rw[pD hn]at hf;exact⟨hf,hn⟩
 have hlent:∀b,(∃n∈ro,∃f,oS en n=some f/\f.alive=true/\g.top n=some b)->b<w.heap.size/\b∉ts/\¬g1.I b:=by
  rintro b ⟨n,hn,f,hf,hfa,ht⟩;have hnu:n∉used.map (·.1):=λhm=>by
   have:=hro n hn;exact absurd (rj.1 hm) (by rw[this];simp)
  refine⟨(hM.mem.rep n f hf).top_lt hfa ht,λhb=>?_,λhI=>?_⟩
  · obtain⟨_,_,p,hp,_,hpt⟩:=htsU b hb;obtain⟨f',hf',hfa'⟩:=qm hu hp;have:=hM.mem.apart n p.1 f f' b hf hf' hfa hfa' ht hpt
    exact hnu (this▸mem_map_of_mem hp)
  · rcases (hI1 b).1 hI with h|⟨q,hq,_,hqt⟩
    · exact hM.mem.topI n f b hf hfa ht h
    · obtain⟨f',hf',hfa'⟩:=qm hu hq;have:=hM.mem.apart n q.1 f f' b hf hf' hfa hfa' ht hqt
      exact hnu (this▸mem_map_of_mem hq)
 have haliveT:∀n f b,oS (used++en) n=some f->f.alive=true->g1.top n=some b->b<w.heap.size/\b∉ts/\¬g1.I b:=by
  intro n f b hf ha ht;obtain⟨hfe,hnu⟩:=halive n f hf ha;rw[e3]at ht;refine⟨(hM.mem.rep n f hfe).top_lt ha ht,λhb=>?_,λhI=>hM1.mem.topI n f b hf ha (by rw[e3];exact ht) hI⟩;obtain⟨_,_,p,hp,_,hpt⟩:=htsU b hb;obtain⟨f',hf',hfa'⟩:=qm hu hp;have:=hM.mem.apart n p.1 f f' b hfe hf' ha hfa' ht hpt
  exact hnu (this▸mem_map_of_mem hp)
 have htree:∀n f,oS (used++en) n=some f->f.isTree=true->oS en n=some f/\n∉used.map (·.1):=by
  intro n f hf ha;by_cases hn:n∈used.map (·.1)
  · exfalso;rw[rz hn]at hf;have hp:=pG hf
    rcases hu (n,f) hp with ⟨h,_⟩|⟨h,_⟩|⟨e,m,xs,_,h⟩
    · have h:f=.gone:=h;subst h;cases ha
    · have h:f=.gone:=h;subst h;cases ha
    · have h:f=.fwd e xs:=h;subst h;cases ha
  · rw[pD hn]at hf;exact⟨hf,hn⟩
 have htreeT:∀n f b,oS (used++en) n=some f->f.isTree=true->b∈g1.nest n->b<w.heap.size/\b∉ts:=by
  intro n f b hf ht hb;obtain⟨hfe,hnu⟩:=htree n f hf ht;rw[e4]at hb;refine⟨se (hM.mem.rep n f hfe) ht hb,λhbt=>?_⟩;obtain⟨_,_,p,hp,_,hpt⟩:=htsU b hbt;obtain⟨f',hf',hfa'⟩:=qm hu hp;exact (hM.mem.wood n f b hfe ht hb).2.1 p.1 f' hf' hfa' hpt
 let I3:Nat->Prop:=λb=>gf.I b\/∃p∈ents,(∃e xs,p.2=.fwd e xs)/\gf.top p.1=some b
 obtain⟨bs,houts,hue,hbl⟩:=vm (I:=I3) hMf.mem hrv hok hto (used:=ents) ⟨λb hb=>.inl hb,λp hp e xs he b hb=>.inr ⟨p,hp,⟨e,xs,he⟩,hb⟩,λn hn=>by simp at hn⟩ (λp hp=>hp);obtain⟨g3,hM3,hle3,_,_,e33,e34,hI3⟩:=hMf.useAny hue hde;have hI3':∀b,I3 b↔g3.I b:=λb=>(hI3 b).symm
 have houts:t0 I3 w' ps rs r bs rvals (qJ gf ents) (qL Sf.en gf ents):=houts;have hsize:=hMf.since.size
 have hmem:∀b,b<w.heap.size->b∉ts->w'.heap[b]?=w.heap[b]?:=λb hb hn=>hMf.since.mem b hb λhT=>hn ((hTc b).1 hT);have himm:∀b,I3 b->w.heap.size<=b\/b∈ts\/Ic b:=by
  intro b hb;rcases hM3.since.imm b ((hI3' b).1 hb)with h|h|h
  · exact .inl h
  · exact .inr (.inl ((hTc b).1 h))
  · rcases (hNc _).1 h with h|⟨c,hc,hI⟩
    · have:=hM1I _ (hgI _ (hnsU _ h).1);omega
    · obtain rfl:b=c:=by omega
      exact .inr (.inr hI)
 let lent:Nat->Prop:=λb=>∃n∈ro,∃f,oS en n=some f/\f.alive=true/\g.top n=some b
 let J:Nat->Prop:=λb=>I3 b/\¬lent b
 obtain⟨hM2,hle2⟩:=hM1.world (w':=w') (λb hb=>hmem b (hM1I b hb) λht=>(htsU b ht).2.1 hb) (λn f b hf ha hb=>hmem b (haliveT n f b hf ha hb).1 (haliveT n f b hf ha hb).2.1) hMf.since.os hMf.since.out hMf.since.tape hsize
  (λb hb hT=>hmem b (Nat.lt_of_lt_of_le hb hM1.since.size) λht=>by
   obtain⟨_,_,p,hp,_,hpt⟩:=htsU b ht;obtain⟨f,hf,hfa⟩:=qm hu hp;rcases hM.since.tops p.1 f b hf hfa hpt with h|h
   · omega
   · exact hT h)
  (λn f b hf ht hb=>by
   obtain⟨k1,k2⟩:=htreeT n f b hf ht hb;exact hmem b k1 k2) (λb hb=>by
   rcases Nat.lt_or_ge b w.heap.size with hl|hl
   · by_cases ht:b∈ts
     · exact hMf.since.soft b (.inr ((hTc b).2 ht))
     · exact (hM1.since.soft b hb).of_same (hmem b hl ht)
   · exact hMf.since.soft b (.inl hl))
 have htsT:∀b∈ts,w0.heap.size<=b\/T b:=by
  intro b hb;obtain⟨_,_,p,hp,_,hpt⟩:=htsU b hb;obtain⟨f,hf,hfa⟩:=qm hu hp;exact hM.since.tops p.1 f b hf hfa hpt
 obtain⟨hM4,hle4⟩:=hM2.freeze J (λb hb=>hM3.mem.old b ((hI3' b).1 hb.1))
  (λn f b hf ha hb hJ=>by
   obtain⟨k1,k2,k3⟩:=haliveT n f b hf ha hb;rcases himm b hJ.1 with h|h|h
   · omega
   · exact k2 h
   · rcases (hIc b).1 h with h|h
     · exact k3 h
     · exact hJ.2 h)
  (λn f b hf ht hb hJ=>by
   obtain⟨k1,k2⟩:=htreeT n f b hf ht hb;rcases himm b hJ.1 with h|h|h
   · omega
   · exact k2 h
   · rcases (hIc b).1 h with h|h
     · exact (hM1.mem.wood n f b hf ht hb).1 h
     · exact hJ.2 h)
  (λb hJ=>by
   rcases himm b hJ.1 with h|h|h
   · exact .inl (Nat.le_trans hM1.since.size h)
   · exact (htsT b h).imp id .inl
   · rcases (hIc b).1 h with h|h
     · exact hM1.since.imm b h
     · exact absurd h hJ.2)
 let g2:Gh:={ g1 with I:=λb=>g1.I b\/J b }
 have hts3:∀b∈qJ gf ents,¬I3 b/\(w.heap.size<=b\/b∈ts):=by
  intro b hb;obtain⟨p,hp,hpg,hpt⟩:=uX hb;obtain⟨f,hf,hfa⟩:=qm hue hp;refine⟨λhI=>?_,(hMf.since.tops p.1 f b hf hfa hpt).imp id (hTc b).1⟩;rcases hI with h|⟨q,hq,⟨e,xs,hqe⟩,hqt⟩
  · exact hMf.mem.topI p.1 f b hf hfa hpt h
  · obtain⟨f',hf',hfa'⟩:=qm hue hq;have:=hMf.mem.apart p.1 q.1 f f' b hf hf' hfa hfa' hpt hqt
    have h1:=qU hde hp;have h2:=qU hde hq
    rw[this,h2]at h1;rw[hpg,hqe]at h1;cases h1
 have hns3:∀b∈qL Sf.en gf ents,w.heap.size<=b\/b∈ts\/b∈ns:=by
  intro b hb;obtain⟨p,hp,hpg,hpr,hpt⟩:=y8 hb;obtain⟨e,xs,hn⟩:=wG hue hp hpg hpr;rcases hMf.since.nests p.1 _ b hn rfl hpt with h|h|h
  · exact .inl h
  · exact .inr (.inl ((hTc b).1 h))
  · rcases (hNc b).1 h with h|⟨c,hc,_⟩
    · exact .inr (.inr h)
    · exact .inl (by omega)
 have hIcI3:∀b,g1.I b->I3 b:=λb hb=>.inl (hle.imm b (by rw[hgc];exact (hIc b).2 (.inl hb)));have hgiv:rk w0 T N (used++en) g2 (qJ gf ents++[]) (qL Sf.en gf ents++[]):=by
  rw[append_nil,append_nil];refine⟨yU hMf.mem hue hde,yV hMf.mem hue hde,λb hb=>?_,λb hb=>?_,λb hb m f hf ht hbm=>?_⟩
  rotate_left 2
  · obtain⟨k1,k2⟩:=hts3 b hb;have hbm:b∈g1.nest m:=hbm
    obtain⟨j1,j2⟩:=htreeT m f b hf ht hbm;rcases k2 with h|h
    · omega
    · exact j2 h
  · obtain⟨k1,k2⟩:=hts3 b hb;refine⟨λhI=>hI.elim (λh=>k1 (hIcI3 b h)) (λh=>k1 h.1),λm f hf ha ht=>?_,k2.elim (λh=>.inl (Nat.le_trans hM1.since.size h)) (htsT b)⟩;obtain⟨j1,j2,_⟩:=haliveT m f b hf ha ht;rcases k2 with h|h
    · omega
    · exact j2 h
  · have k2:=hns3 b hb;refine⟨λm f hf hfd hbm=>?_,?_⟩
    · obtain⟨hfe,hnu⟩:=halive m f hf (AD hfd);have hbm:b∈g.nest m:=by have:b∈g1.nest m:=hbm;rw[e4]at this;exact this
      have hbI:g.I b:=by
       cases f with
       | root e mm xs=>exact (pS hM.mem hfe).2.2.1 b hbm
       | gone=>cases hfd
       | fwd _ _=>cases hfd
       | box _=>cases hfd
       | tree _ _=>cases hfd
      rcases k2 with h|h|h
      · have:=hM1I b (hgI b hbI);omega
      · exact (htsU b h).2.1 (hgI b hbI)
      · obtain⟨_,p,hp,⟨e,xs,hn⟩,hpb⟩:=hnsU b h;have hne:m≠p.1:=λh=>hnu (h▸mem_map_of_mem hp)
        exact hM.mem.nests m p.1 f _ hfe hn hfd rfl hne b hbm hpb
    · rcases k2 with h|h|h
      · exact .inl (Nat.le_trans hM1.since.size h)
      · exact (htsT b h).imp id .inl
      · obtain⟨_,p,hp,⟨e,xs,hn⟩,hpb⟩:=hnsU b h;exact hM.since.nests p.1 _ b hn rfl hpb
 have hlentns:∀b∈qL Sf.en gf ents,¬lent b:=by
  intro b hb hl;obtain⟨j1,j2,j3⟩:=hlent b hl;rcases hns3 b hb with h|h|h
  · omega
  · exact j2 h
  · exact j3 (hgI b (hnsU b h).1)
 have houts2:t0 g2.I w' ps rs r bs rvals (qJ gf ents) (qL Sf.en gf ents):=by
  refine houts.shift (λb hb hI=>.inr ⟨hI,hlentns b hb⟩) ?_;cases hs:rJ ps rs with
  | false=>exact .inl rfl
  | true =>
   refine .inr λb hb=>.inr ⟨hb,λ⟨n,hn,_⟩=>?_⟩;rw[hsl hs]at hn;simp at hn
 have hptr:=Bb (en:=en) (g:=g) (g1:=g1) (g2:=g2) hd (λn=>congrFun e1 n) hle hnames hploc hbl;have hfresh:∀p∈(oZ uid ps rs nm r).news,oS (used++en) p.1=none:=by
  intro p hp;refine vi (λhm=>?_) (hnew p hp);obtain⟨q,hq,he⟩:=mem_map.1 hm;obtain⟨f,hf,_⟩:=qm hu hq;rw[he,hnew p hp]at hf;cases hf
 obtain⟨g5,hG5,hv5⟩:=w7 ps rs uid r nm bs rvals _ _ [] [] g2 hM4 hgiv houts2 hptr hnd hdist hfresh;have e5:(oZ uid ps rs nm r).news++((oZ uid ps rs nm r).upds++used)++en=(oZ uid ps rs nm r).news++(oZ uid ps rs nm r).upds++(used++en):=by simp only[append_assoc]
 rw[e5];exact⟨g5,hG5.ms,(hle1.trans (hle2.trans hle4)).trans hG5.le,Fx hv5⟩
end Go.V
namespace Go.V
variable {P:Program} {G:qd} {ann:List (Nat×p3)}

theorem Ew {G:qd} {rv:List ResultVar} {ps:List pF} {rs:List qi} {S:St} {r:oW (pW ps rs)} (h:leave G rv ps rs S=some r) :
 ∃vs ents L,v6 G S rv=some vs/\vq rs vs=true/\(uS 0 ps rs vs).Runs (oS S.en) (r,ents) L/\p6 ents=true:=by
 unfold leave at h;split at h
 · rename_i vs hvs;cases ho:vq rs vs with
   | false=>rw[ho]at h;cases h
   | true =>
    rw[ho]at h;simp only[cT]at h;obtain⟨y,L,h1,h2⟩:=Rd.run_some h;cases hd:p6 y.2 with
    | false=>rw[hd]at h2;cases h2
    | true =>
     rw[hd]at h2;simp only[cT,Option.some.injEq]at h2;exact⟨vs,y.2,L,hvs,ho,by rw[←h2];exact h1,hd⟩
 · cases h
theorem CC (hG : rp P G) (hm : P.follows .mixedOrders=true) {f : FuncId} {fn : Func} {c : Code} {ps : List pF} {rs : List qi} (hf : P.funcs[f]?=some fn) (hn : (fn.name == "runtime.NumGoroutine")=false) (hb : fn.body=some c) :
 vC P f ⟨ps,rs,za G ann fn c ps rs⟩:=by
 refine⟨⟨fn,c,hf,hn,hb⟩,?_⟩;intro w0 T N en g w uid args vals b L r hM hargs hbind hro hden hdist hnew;simp only[aT]at hro;obtain⟨hd,hro⟩:=hro;have hro:∀n∈b.ro,oS b.used n=none:=λn hn=>by
  have:=all_eq_true.1 hro n hn;cases h:oS b.used n with
  | none=>rfl
  | some y=>rw[h]at this;cases this
 have hden:za G ann fn c ps rs b.args=some r:=hden;unfold za at hden;cases hck:(sa fn.ntmps c&&(Nat.ble ps.length fn.ntmps&&p6 (entry 0 ps b.args).2))with
 | false=>rw[hck]at hden;cases hden
 | true =>
 rw[hck]at hden;simp only[aT,cT]at hck hden;obtain⟨hbel,_,hdis⟩:=hck
 let Ic:Nat->Prop:=λb'=>(g.I b'\/∃p∈b.used,(∃e xs,p.2=.fwd e xs)/\g.top p.1=some b')\/∃n∈b.ro,∃f,oS en n=some f/\f.alive=true/\g.top n=some b'
 obtain⟨hat,hu,hnames⟩:=wE (I:=Ic) hM.mem hargs hbind ⟨λb' hb'=>.inl (.inl hb'),λp hp e xs he b' hb'=>.inl (.inr ⟨p,hp,⟨e,xs,he⟩,hb'⟩),λn hn f b' hf ha ht=>.inr ⟨n,hn,f,hf,ha,ht⟩⟩;obtain⟨g1,hM1,hle1,e1,e2,e3,e4,hI1⟩:=hM.useAny hu hd;have hIc:∀b',Ic b'↔g1.I b'\/∃n∈b.ro,∃f,oS en n=some f/\f.alive=true/\g.top n=some b':=λb'=>by
  constructor
  · rintro (h|h)
    · exact .inl ((hI1 b').2 h)
    · exact .inr h
  · rintro (h|h)
    · exact .inl ((hI1 b').1 h)
    · exact .inr h
 let Tc:Nat->Prop:=λb'=>b'∈qJ g b.used
 let Nc:Nat->Prop:=λk=>k∈qL en g b.used\/∃c,k=w.heap.size+c/\Ic c
 have hIsz:∀b',Ic b'->b'<w.heap.size:=λb' h=>by
  rcases (hIc b').1 h with h|⟨n,_,f,hf,ha,ht⟩
  · exact hM1.mem.old b' h
  · exact (hM.mem.rep n f hf).top_lt ha ht
 have hMc:=MS.start (w:=w) Ic Tc Nc hIsz (λb' h=>.inr ⟨b',rfl,h⟩) (λb' hb'=>by
  obtain⟨p,hp,hpg,hpt⟩:=uX hb';obtain⟨f,hf,hfa⟩:=qm hu hp;exact hM.since.soft b' (hM.since.tops p.1 f b' hf hfa hpt))
 have hgiv:rk w Tc Nc [] ⟨Ic,λ_=>.slice none 0 0,λ_=>0,λ_=>none,λ_=>[],λ_=>[]⟩ (qJ g b.used++[]) (qL en g b.used++[]):=by
  rw[append_nil,append_nil];refine⟨yU hM.mem hu hd,yV hM.mem hu hd,λb' hb'=>⟨λhI=>?_,(λm f h=>by cases h),.inr hb'⟩,λb' hb'=>⟨(λm f h=>by cases h),.inr (.inr (.inl hb'))⟩,(λb' hb' m f h=>by cases h)⟩;obtain⟨p,hp,hpg,hpt⟩:=uX hb';obtain⟨f,hf,hfa⟩:=qm hu hp;rcases hI with (h|⟨q,hq,⟨e,xs,hqe⟩,hqt⟩)|⟨n,hn,f',hf',hfa',ht⟩
  · exact hM.mem.topI p.1 f b' hf hfa hpt h
  · obtain⟨f',hf',hfa'⟩:=qm hu hq;have:=hM.mem.apart p.1 q.1 f f' b' hf hf' hfa hfa' hpt hqt
    have h1:=qU hd hp;have h2:=qU hd hq
    rw[this,h2]at h1;rw[hpg,hqe]at h1;cases h1
  · have:=hM.mem.apart p.1 n f f' b' hf hf' hfa hfa' hpt ht;have h1:=qU hd hp
    rw[this,hro n hn]at h1;cases h1
 obtain⟨gc,hgave,hslots,hploc⟩:=y7 hMc ps 0 b.args vals _ _ [] [] hgiv hat hdis;have hInv:pq w Tc Nc ⟨(entry 0 ps b.args).1,(entry 0 ps b.args).2⟩ gc w { tmps:=vals.toArray++Array.replicate (fn.ntmps-vals.toArray.size) undef,defers:=[] }:=by
  refine⟨hgave.to_nil.mem,hgave.to_nil.since,λt=>?_,rfl⟩;rcases hslots t with h|⟨k,v,x,h1,h2,h3,h4⟩
  · show pp _ _ _ (match oS (entry 0 ps b.args).1 t with|some v=>v|none=>.undef) _;rw[h];trivial
  · show pp _ _ _ (match oS (entry 0 ps b.args).1 t with|some v=>v|none=>.undef) _;rw[h3];obtain rfl:t=k:=by omega
    have hlt:t<vals.length:=(List.getElem?_eq_some_iff.1 h2).1;have:(vals.toArray++Array.replicate (fn.ntmps-vals.toArray.size) undef).getD t undef=v:=by
     have hv:=(List.getElem?_eq_some_iff.1 h2).2;have hsz':t<(vals.toArray++Array.replicate (fn.ntmps-vals.toArray.size) undef).size:=by rw[Array.size_append,List.size_toArray];omega
     unfold Array.getD;rw[dif_pos hsz'];show (vals.toArray++Array.replicate (fn.ntmps-vals.toArray.size) undef)[t]'hsz'=v
     rw[Array.getElem_append_left (by simpa using hlt)];simpa using hv
    rw[this];exact h4
 have hsz:fn.ntmps<=(vals.toArray++Array.replicate (fn.ntmps-vals.toArray.size) undef).size:=by simp;omega
 have hc0:pI ⟨(entry 0 ps b.args).1,(entry 0 ps b.args).2⟩:=by
  obtain⟨k1,k2⟩:=w8 ps 0 b.args;refine⟨λt=>?_,λn cs hn=>k2 n cs (pG hn)⟩;show qY _ (match oS (entry 0 ps b.args).1 t with|some v=>v|none=>.undef)
  cases hf:oS (entry 0 ps b.args).1 t with
  | none=>exact pj rfl
  | some v =>
   have:=k1 t v hf;cases v with
   | cell c=>exact this
   | agg cs=>exact this
   | tup l=>exact this.elim
 have key:∀(S':St) (a':Act) (w':World),At w Tc Nc fn.ntmps (dom (entry 0 ps b.args).2) gc w S' a' w'->leave G fn.results.toList ps rs S'=some r ->
  a'.defers=[]/\∃v,(results fn a'.tmps).run P w'=.ok v w'/\∃g',MS w0 T N ((oZ uid ps rs b.ptrs r).news++((oZ uid ps rs b.ptrs r).upds++b.used)++en) g' w' /\
   Le (dom en) g w (dom ((oZ uid ps rs b.ptrs r).news++((oZ uid ps rs b.ptrs r).upds++b.used)++en)) g' w' /\
   pp (dom ((oZ uid ps rs b.ptrs r).news++((oZ uid ps rs b.ptrs r).upds++b.used)++en)) g' w' (u7 (oZ uid ps rs b.ptrs r).vals) v:=by
  intro S' a' w' ⟨gf,hIf,_,hle⟩ hl;obtain⟨vs,ents,L',h1,h2,h3,h4⟩:=Ew hl;obtain⟨rvals,h5,h6⟩:=wF hIf hG.tis h1;refine⟨hIf.plain,Ba rvals,zK h6,?_⟩;exact Hv (Tc:=Tc) (Nc:=Nc) (Ic:=Ic) hM hu hd hro (λhs=>by rw[hs]at hbind;exact zg hbind) hM1 hle1 e1 e3 e4 hI1 rfl rfl hIc (λ_=>Iff.rfl) (λ_=>Iff.rfl) hnames (wH hbind hd).1 hploc hgave.imm hIf.ms hle h5 h2 h3 h4 hdist hnew
 refine calls_of_wp hf hb (rP hG hm c hbel hInv hsz hc0 hden ⟨λS' a' w' _ _ hat hk=>?_,(λi S' a' w' _ _ hat hk=>by cases hk),λS' a' w' _ _ hat hk=>?_⟩)
 · obtain⟨k1,v,k2,k3⟩:=key S' a' w' hat hk;exact⟨k1,v,k2,k3⟩
 · obtain⟨k1,v,k2,k3⟩:=key S' a' w' hat hk;exact⟨k1,v,k2,k3⟩
end Go.V

