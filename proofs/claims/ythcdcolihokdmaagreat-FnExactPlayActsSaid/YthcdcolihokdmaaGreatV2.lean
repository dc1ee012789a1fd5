/- V: a run of the model's code over plain data, and that it is what the machine does. Part 2 of 4. No condition. -/
import Derived.Test.YthcdcolihokdmaaGreatV1
import Derived.Laws.MakeOwn
import Derived.Great.FillDense
import Derived.Laws.Tables
import Derived.Great.BuildSlice
import Derived.Laws.StructEq
open List (all_eq_true append_assoc append_nil cons_append drop_append drop_drop drop_of_length_le drop_zero length_append length_drop length_take map_append map_cons map_nil mem_append mem_append_left mem_append_right mem_cons mem_cons_of_mem mem_cons_self mem_map mem_singleton nil_append pairwise_append pairwise_cons take_append take_append_drop take_left take_take)
set_option linter.unusedVariables false
set_option linter.unusedSimpArgs false
namespace Go.V
variable {P:Program} {w0:World} {T N:Nat->Prop} {S:St} {g:Gh} {w w':World} {a:Act} {o:Oper} {G:yU} {uid:th} {en en':List (th×Entry)}

theorem KI {n:th} {e f:Entry} (m:th):wW ((n,e)::(n,f)::en) m=wW ((n,e)::en) m:=by
 rw[xr,xr,xr];split<;>rfl
theorem MS.rewrite (h:MS w0 T N en g w) {n:th} {b:Nat} {E E':Entry} {us:List Value} {F:List Nat} (hn:wW en n=some E) (hE:E.alive=true) (hb:g.top n=some b) (hw:Qk w w' b us)
 (hr:Le (dom en) g w (dom ((n,E')::en)) (g.set n ⟨g.loc n,g.esz n,g.top n,F⟩) w'->Cz (dom ((n,E')::en)) (g.set n ⟨g.loc n,g.esz n,g.top n,F⟩) w' n E')
 (hnest:E'.deep=true->∀b,b∈F->(∀m f,m≠n->wW en m=some f->f.deep=true->b∉g.nest m)/\(w0.heap.size<=b\/T b\/N b)) (hnt:E'.isTree=false:=by rfl) :
 MS w0 T N ((n,E')::en) (g.set n ⟨g.loc n,g.esz n,g.top n,F⟩) w'/\Le (dom en) g w (dom ((n,E')::en)) (g.set n ⟨g.loc n,g.esz n,g.top n,F⟩) w':=by
 have hdn:dom en n:=by unfold dom;rw[hn];simp
 have hown:=h.since.tops n E b hn hE hb;obtain⟨h1,l1⟩:=h.gone hdn;obtain⟨h2,l2⟩:=h1.world (w':=w') (λc hc=>hw.rest c λe=>h.mem.topI n E b hn hE hb (e▸hc)) (λm f c hm ha hc=>hw.rest c λe=>by
  rw[xr]at hm;split at hm
  · cases hm;cases ha
  · rename_i hne;exact hne (h.mem.apart n m E f b hn hm hE ha hb (e▸hc))) hw.os hw.out hw.tape (by rw[hw.size];exact Nat.le_refl _)
  (λc hc hT=>hw.rest c λe=>by subst e;rcases hown with k|k;omega;exact hT k)
  (λm f c hm ha hc=>hw.rest c λe=>by
   rw[xr]at hm;split at hm
   · cases hm;cases ha
   · exact (h.mem.wood m f c hm ha hc).2.1 n E hn hE (e▸hb)) (λc hc=>by
   by_cases e:c=b
   · subst e;exact hw.cells.soft
   · exact (h.since.soft c hc).of_same (hw.rest c e))
 have hc:∀m,wW ((n,E')::(n,.gone)::en) m=wW ((n,E')::en) m:=KI;have other:∀m f,m≠n->wW ((n,.gone)::en) m=some f->wW en m=some f:=λm f hm hf=>by rwa [yb (Ne.symm hm)]at hf
 have hle0:=(l1.trans l2).trans (Gh.set_le (n:=n) (w:=w') E' ⟨g.loc n,g.esz n,g.top n,F⟩ (λ_=>⟨rfl,rfl⟩));rw[AM hc]at hle0;obtain⟨h3,l3⟩:=h2.put (n:=n) (e:=E') (i:=⟨g.loc n,g.esz n,g.top n,F⟩) (λ_=>⟨rfl,rfl⟩) (h.mem.one n hdn) (by rw[AM hc];exact hr hle0)
  (λha c hc=>⟨h.mem.topI n E c hn hE hc,λm f hm hf hfa hmc=>hm (h.mem.apart m n f E c (other m f hm hf) hn hfa hE hmc hc),h.since.tops n E c hn hE hc,λm f hm hf hft hcm=>(h.mem.wood m f c (other m f hm hf) hft hcm).2.1 n E hn hE hc⟩)
  (λhd c hc=>⟨λm f hm hf hfd=>(hnest hd c hc).1 m f hm (other m f hm hf) hfd,(hnest hd c hc).2⟩) (λht=>by rw[hnt]at ht;cases ht)
 exact⟨h3.congr hc,hle0⟩

theorem MS.retree (h:MS w0 T N en g w) {n:th} {e:Cs} {xs ys:List e.den} {F:List Nat} (hn:wW en n=some (.tree e xs)) (hos:w'.os=w.os) (hout:w'.output=w.output) (htape:w'.tape=w.tape) (hsize:w.heap.size<=w'.heap.size)
 (hmem:∀b,b<w.heap.size->b∉g.nest n->w'.heap[b]?=w.heap[b]?) (hsoft:∀b,b∈g.nest n\/w.heap.size<=b->Go.V.soft w' b)
 (hr:AT w' e ys (g.loc n) F (g.rows n)) (hnd:F.Nodup) (hF:∀b∈F,b∈g.nest n\/w.heap.size<=b) :
 MS w0 T N ((n,.tree e ys)::en) (g.set n ⟨g.loc n,g.esz n,g.top n,F⟩) w'/\Le (dom en) g w (dom ((n,.tree e ys)::en)) (g.set n ⟨g.loc n,g.esz n,g.top n,F⟩) w':=by
 have hdn:dom en n:=by unfold dom;rw[hn];simp
 obtain⟨h1,l1⟩:=h.gone hdn;have other:∀m f,m≠n->wW ((n,.gone)::en) m=some f->wW en m=some f:=λm f hm hf=>by rwa [yb (Ne.symm hm)]at hf
 have hne:∀m f,wW ((n,.gone)::en) m=some f->f.alive=true\/f.isTree=true->m≠n:=λm f hm ha he=>by
  subst he;rw[Ab]at hm;cases hm;rcases ha with ha|ha<;>cases ha
 have hw:=λb hb=>h.mem.wood n _ b hn rfl hb;have hlt:∀m f b,wW en m=some f->f.isTree=true->b∈g.nest m->b<w.heap.size:=λm f b hm ht hb=>Bx (h.mem.rep m f hm) ht hb
 obtain⟨h2,l2⟩:=h1.world (w':=w') (λc hc=>hmem c (h.mem.old c hc) λhcn=>(hw c hcn).1 hc)
  (λm f c hm ha hc=>by
   have hm':=other m f (hne m f hm (.inl ha)) hm;exact hmem c ((h.mem.rep m f hm').top_lt ha hc) λhcn=>(hw c hcn).2.1 m f hm' ha hc)
  hos hout htape hsize
  (λc hc hT=>hmem c (Nat.lt_of_lt_of_le hc h.since.size) λhcn=>(h.since.born n _ c hn rfl hcn).elim (λk=>by omega) hT)
  (λm f c hm ht hc=>by
   have hmn:=hne m f hm (.inr ht);have hm':=other m f hmn hm
   exact hmem c (hlt m f c hm' ht hc) λhcn=>(hw c hcn).2.2 m f hmn hm' ht hc)
  (λc hc=>by
   by_cases hcn:c∈g.nest n
   · exact hsoft c (.inl hcn)
   · rcases Nat.lt_or_ge c w.heap.size with hl|hl
     · exact (h.since.soft c hc).of_same (hmem c hl hcn)
     · exact hsoft c (.inr hl))
 have hc:∀m,wW ((n,.tree e ys)::(n,.gone)::en) m=wW ((n,.tree e ys)::en) m:=KI;have hle0:=(l1.trans l2).trans (Gh.set_le (n:=n) (w:=w') (.tree e ys) ⟨g.loc n,g.esz n,g.top n,F⟩ (λ_=>⟨rfl,rfl⟩))
 rw[AM hc]at hle0;obtain⟨h3,l3⟩:=h2.put (n:=n) (e:=.tree e ys) (i:=⟨g.loc n,g.esz n,g.top n,F⟩) (λ_=>⟨rfl,rfl⟩) (h.mem.one n hdn)
  (by
   obtain⟨k1,_,_⟩:=h.mem.rep n _ hn;refine⟨by simpa[Gh.set]using k1,by simpa[Gh.set]using hr,by simpa[Gh.set]using hnd⟩)
  (λha=>by cases ha) (λhd=>by cases hd)
  (λ_ c hcF=>by
   rcases hF c hcF with hcn|hcl
   · obtain⟨k1,k2,k3⟩:=hw c hcn;exact⟨k1,λm f hm hf=>k2 m f (other m f hm hf),λm f hm hf=>k3 m f hm (other m f hm hf),h.since.born n _ c hn rfl hcn⟩
   · exact⟨λhI=>by have:=h.mem.old c hI;omega,λm f hm hf ha ht=>by have:=(h.mem.rep m f (other m f hm hf)).top_lt ha ht;omega,λm f hm hf ht hcm=>by have:=hlt m f c (other m f hm hf) ht hcm;omega,
      .inl (Nat.le_trans h.since.size hcl)⟩)
 exact⟨h3.congr hc,hle0⟩

theorem xd.one (hm:zv en g w) {c:Cell} {v:Value} (h:xd (dom en) g w c v) (hc:c≠.undef/\c≠.void):v.oneCell'=true:=by
 cases c with
 | sub=>exact h.2.2
 | undef=>exact absurd rfl hc.1
 | void=>exact absurd rfl hc.2
 | nil=>rw[show v=_ from h];rfl
 | int _ _=>rw[show v=_ from h];rfl
 | bool _=>rw[show v=_ from h];rfl
 | str _=>rw[show v=_ from h];rfl
 | err b=>rcases h with ⟨_,rfl⟩|⟨_,_,_,rfl⟩<;>rfl
 | sh e xs=>obtain⟨F,hF,_⟩:=h;obtain⟨ad,cap,rfl⟩:=Bm hF;rfl
 | kid _ _ e xs=>obtain⟨⟨F,hF,_⟩,_⟩:=h;obtain⟨ad,cap,rfl⟩:=Bm hF;rfl
 | own r=>obtain⟨hd,rfl⟩:=h;exact hm.one r hd
 | win _ _ _=>obtain⟨_,_,_,_,_,_,_,rfl⟩:=h;rfl
 | box _ _=>obtain⟨_,_,_,rfl⟩:=h;rfl
 | elem _ _ _=>obtain⟨_,_,_,_,_,_,_,rfl⟩:=h;rfl
 | shel _ _ _=>obtain⟨_,_,_,_,_,_,_,_,rfl⟩:=h;rfl
 | fn _ _=>obtain⟨_,rfl,_⟩:=h;rfl
theorem GR:∀{cs:List Cell},zj cs=true->∀c∈cs,c≠.undef/\c≠.void
 | [],_,c,h=>by simp at h
 | .undef::_,h,_,_=>by simp[zj]at h
 | .void::_,h,_,_=>by simp[zj]at h
 | c'::cs,h,c,hc=>by
  rcases mem_cons.1 hc with rfl|hc
  · constructor<;>(rintro rfl;simp[zj]at h)
  · exact GR (cs:=cs) (by cases c'<;>first|exact h|simp[zj]at h) c hc
theorem xn.mem_right {α β:Type} {R:α->β->Prop}:∀{l:List α} {m:List β},xn R l m->∀b∈m,∃a∈l,R a b
 | [],[],_,b,hb=>by simp at hb
 | a::l,b'::m,h,b,hb=>by
  rcases mem_cons.1 hb with rfl|hb
  · exact⟨a,mem_cons_self,h.1⟩
  · obtain⟨a',ha,hr⟩:=xn.mem_right h.2 b hb;exact⟨a',mem_cons_of_mem _ ha,hr⟩
theorem cells_rep (hm:zv en g w) {x:AV} {v:Value} (h:xO (dom en) g w x v) (hu:zj x.cells=true) (hx:x.cells≠[]) :
 xn (xd (dom en) g w) x.cells v.cells.toList/\∀u∈v.cells.toList,u.oneCell'=true:=by
 have key:xn (xd (dom en) g w) x.cells v.cells.toList:=by
  cases x with
  | cell c =>
   have h:xd (dom en) g w c v:=h;have hv:v.cells = #[v]:=by
    have:=h.one hm (GR hu c (by simp[AV.cells]));cases v<;>first|rfl|simp[Value.oneCell']at this
   rw[hv];exact⟨h,trivial⟩
  | agg cs=>obtain⟨vs,rfl,h⟩:=h;exact h
  | tup _=>simp[AV.cells]at hx
 refine⟨key,λu hu'=>?_⟩;obtain⟨c,hc,hr⟩:=key.mem_right u hu';exact hr.one hm (GR hu c hc)
theorem xn.setSub {α β:Type} {R:α->β->Prop} {l x:List α} {m y:List β} (h:xn R l m) (k:xn R x y) (o:Nat):xn R (l.take o++x++l.drop (o+x.length)) (m.take o++y++m.drop (o+y.length)):=by
 rw[k.length];exact ((h.take o).append k).append (h.drop _)

theorem Nv {ti:List (Nat×xD)} {t:Nat} {i:xD} {d:TypeInfo} {u:TypeDesc} {z:Value} (hf:BE P ti t i d u z) {b off:Nat} {us:List Value} (hw:yr w b us) {v:Value} (hl:v.cells.toList.length=i.cs.len)
 (hs:off+i.cs.len<=us.length) (h1:∀u∈v.cells.toList,u.oneCell'=true):(storeVar t ⟨b,off,none⟩ v).run P w=.ok () (w.setCells b off v.cells.toList):=by
 obtain⟨c,t',lo,hi,hc,rfl,hfz⟩:=hw;have hlen:∀j,j<v.cells.toList.length->off+0+j<c.size:=λj hj=>by simp at hs hj hl;omega
 have:=run_storeCells_cells (P:=P) b off v.cells.toList 0 w (λj hj=>by
  simp only[World.cell?,hc];have:=hlen j hj
  simpa using this) (λj hj=>by
  simp only[World.frozen?,hc];have:=hfz.2 _ (hlen j hj)
  simp only[Bool.and_eq_false_iff,decide_eq_false_iff_not];omega) h1
 unfold storeVar;have hsz:v.cells.size=i.cs.len:=by simpa using hl
 simp only[Sem.run_bind,hf.size_run,Result.andThen,hsz,ne_eq,not_true_eq_false,if_false,this,Nat.add_zero,Sem.run_pure]
theorem Iy (hT:zG P G.ti) {t:TypeId} {x y:Operand} (ho:o.op=.store t x y) {i:xD} (hi:wW G.ti t=some i) {b off:Nat} {us:List Value} (hx:a.eval x=.pointer (some ⟨b,off,none⟩)) (hw:yr w b us)
 (hl:(a.eval y).cells.toList.length=i.cs.len) (hs:off+i.cs.len<=us.length) (h1:∀u∈(a.eval y).cells.toList,u.oneCell'=true) :
 (execOp a.eval o).run P w=.ok .skip (w.setCells b off (a.eval y).cells.toList):=by
 obtain⟨d,u,z,hf⟩:=hT.facts hi;simp only[execOp,ho,hx,Instr.storeAt,Instr.sureAddr,Sem.run_bind,Sem.run_pure,Result.andThen,Nv hf hw hl hs h1]

def yy (us:List Value) (o:Nat) (vs:List Value):List Value:=us.take o++vs++us.drop (o+vs.length)
theorem Bi (us:List Value) (o:Nat):yy us o []=us:=by simp[yy]
theorem EP (u:Value) (us:List Value) (v:Value) (vs:List Value):yy (u::us) 0 (v::vs)=v::yy us 0 vs:=by simp[yy]
theorem KJ (u:Value) (us:List Value) (o:Nat) (vs:List Value):yy (u::us) (o+1) vs=u::yy us o vs:=by simp[yy,show o+1+vs.length=o+vs.length+1 by omega]
theorem BY {us vs:List Value} {o:Nat} (h:o+vs.length<=us.length):(yy us o vs).length=us.length:=by simp[yy];omega
theorem AN (b:Nat) (l m:List Nat):(l++m).count b=l.count b+m.count b:=List.count_append
theorem Ji (hm:zv en g w):∀{e:Cs} {x:e.den} {us:List Value} {F:List Nat} {o:Nat} {cs:List Cell} {vs:List Value} {y:e.den×List (th×Entry)} {L:List th},Cs.Rep w e x us F->xn (xd (dom en) g w) cs vs->(e.upd true x o cs).Runs (wW en) y L ->
 (∃F',Cs.Rep w e y.1 (yy us o vs) F'/\∀b,F'.count b<=F.count b+((y.2.map (·.1)).flatMap (ze g)).count b)/\xJ en true true y.2
 | .one c,x,us,F,0,[],[],y,L,hx,_,hr=>by
  obtain⟨rfl,_⟩:=hr;rw[Bi];exact⟨⟨F,hx,λb=>by simp⟩,by simp[xJ]⟩
 | .one c,x,us,F,o+1,[],[],y,L,hx,_,hr=>by
  obtain⟨rfl,_⟩:=hr;rw[Bi];exact⟨⟨F,hx,λb=>by simp⟩,by simp[xJ]⟩
 | .cons c r,x,us,F,0,[],[],y,L,hx,_,hr=>by
  obtain⟨rfl,_⟩:=hr;rw[Bi];exact⟨⟨F,hx,λb=>by simp⟩,by simp[xJ]⟩
 | .cons c r,x,us,F,o+1,[],[],y,L,hx,_,hr=>by
  obtain⟨rfl,_⟩:=hr;rw[Bi];exact⟨⟨F,hx,λb=>by simp⟩,by simp[xJ]⟩
 | .one c,x,us,F,0,[k],[v],y,L,hx,hc,hr=>by
  simp only[Cs.Rep]at hx;obtain⟨u,rfl,hx⟩:=hx;obtain⟨h1,h2⟩:=CT.into_own hm hc.1 hr;refine⟨⟨_,?_,λb=>Nat.le_add_left _ _⟩,h2⟩;rw[EP,Bi];simp only[Cs.Rep];exact⟨v,rfl,h1.rep⟩
 | .one c,x,us,F,0,k::k'::ks,_,y,L,hx,hc,hr=>hr.elim
 | .one c,x,us,F,o+1,k::ks,_,y,L,hx,hc,hr=>hr.elim
 | .cons c r,x,us,F,0,k::ks,v::vs,y,L,hx,hc,hr=>by
  simp only[Cs.Rep]at hx;obtain⟨u,us',F1,F2,rfl,rfl,hx1,hx2⟩:=hx;simp only[Cs.upd]at hr;obtain⟨p,L1,L2,_,h1,hr⟩:=Rd.runs_bind hr;obtain⟨q,L3,L4,_,h2,hr⟩:=Rd.runs_bind hr;obtain⟨rfl,_⟩:=hr;obtain⟨k1,k2⟩:=CT.into_own hm hc.1 h1;obtain⟨⟨F',k3,k4⟩,k5⟩:=Ji hm hx2 hc.2 h2;refine⟨⟨(p.2.map (·.1)).flatMap (ze g)++F',?_,λb=>?_⟩,k2.append k5⟩
  · rw[EP];simp only[Cs.Rep];exact⟨v,_,_,_,rfl,rfl,k1.rep,k3⟩
  · have:=k4 b;simp only[AN,map_append,List.flatMap_append];omega
 | .cons c r,x,us,F,o+1,k::ks,vs,y,L,hx,hc,hr=>by
  simp only[Cs.Rep]at hx;obtain⟨u,us',F1,F2,rfl,rfl,hx1,hx2⟩:=hx;simp only[Cs.upd]at hr;obtain⟨q,L3,L4,_,h2,hr⟩:=Rd.runs_bind hr;obtain⟨rfl,_⟩:=hr;obtain⟨⟨F',k3,k4⟩,k5⟩:=Ji hm hx2 hc h2;refine⟨⟨F1++F',?_,λb=>?_⟩,k5⟩
  · rw[KJ];simp only[Cs.Rep];exact⟨u,_,_,_,rfl,rfl,hx1,k3⟩
  · have:=k4 b;simp only[AN];omega
theorem HJ (hm:zv en g w):∀{e:Cs} {x:e.den} {us:List Value} {F:List Nat} {o:Nat} {cs:List Cell} {vs:List Value} {y:e.den×List (th×Entry)} {L:List th},Cs.Rep w e x us F->xn (xd (dom en) g w) cs vs->(e.upd false x o cs).Runs (wW en) y L ->
 (∃F',Cs.Rep w e y.1 (yy us o vs) F'/\∀b∈F',b∈F\/g.I b\/BS en g b (y.2.map (·.1)))/\xJ en false true y.2
 | .one c,x,us,F,0,[],[],y,L,hx,_,hr=>by
  obtain⟨rfl,_⟩:=hr;rw[Bi];exact⟨⟨F,hx,λb hb=>.inl hb⟩,by simp[xJ]⟩
 | .one c,x,us,F,o+1,[],[],y,L,hx,_,hr=>by
  obtain⟨rfl,_⟩:=hr;rw[Bi];exact⟨⟨F,hx,λb hb=>.inl hb⟩,by simp[xJ]⟩
 | .cons c r,x,us,F,0,[],[],y,L,hx,_,hr=>by
  obtain⟨rfl,_⟩:=hr;rw[Bi];exact⟨⟨F,hx,λb hb=>.inl hb⟩,by simp[xJ]⟩
 | .cons c r,x,us,F,o+1,[],[],y,L,hx,_,hr=>by
  obtain⟨rfl,_⟩:=hr;rw[Bi];exact⟨⟨F,hx,λb hb=>.inl hb⟩,by simp[xJ]⟩
 | .one c,x,us,F,0,[k],[v],y,L,hx,hc,hr=>by
  simp only[Cs.Rep]at hx;obtain⟨u,rfl,hx⟩:=hx;obtain⟨⟨F',h1,h3⟩,h2⟩:=CT.into_shared hm hc.1 hr;refine⟨⟨F',?_,λb hb=>.inr (h3 b hb)⟩,h2⟩;rw[EP,Bi];simp only[Cs.Rep];exact⟨v,rfl,h1⟩
 | .one c,x,us,F,0,k::k'::ks,_,y,L,hx,hc,hr=>hr.elim
 | .one c,x,us,F,o+1,k::ks,_,y,L,hx,hc,hr=>hr.elim
 | .cons c r,x,us,F,0,k::ks,v::vs,y,L,hx,hc,hr=>by
  simp only[Cs.Rep]at hx;obtain⟨u,us',F1,F2,rfl,rfl,hx1,hx2⟩:=hx;simp only[Cs.upd]at hr;obtain⟨p,L1,L2,_,h1,hr⟩:=Rd.runs_bind hr;obtain⟨q,L3,L4,_,h2,hr⟩:=Rd.runs_bind hr;obtain⟨rfl,_⟩:=hr;obtain⟨⟨F0,k1,k6⟩,k2⟩:=CT.into_shared hm hc.1 h1;obtain⟨⟨F',k3,k4⟩,k5⟩:=HJ hm hx2 hc.2 h2;refine⟨⟨F0++F',?_,λb hb=>?_⟩,k2.append k5⟩
  · rw[EP];simp only[Cs.Rep];exact⟨v,_,_,_,rfl,rfl,k1,k3⟩
  · rcases mem_append.1 hb with hb|hb
    · exact .inr ((k6 b hb).imp id λh=>h.mono (by simp +contextual))
    · rcases k4 b hb with h|h
      · exact .inl (by simp[h])
      · exact .inr (h.imp id λh=>h.mono (by simp +contextual))
 | .cons c r,x,us,F,o+1,k::ks,vs,y,L,hx,hc,hr=>by
  simp only[Cs.Rep]at hx;obtain⟨u,us',F1,F2,rfl,rfl,hx1,hx2⟩:=hx;simp only[Cs.upd]at hr;obtain⟨q,L3,L4,_,h2,hr⟩:=Rd.runs_bind hr;obtain⟨rfl,_⟩:=hr;obtain⟨⟨F',k3,k4⟩,k5⟩:=HJ hm hx2 hc h2;refine⟨⟨F1++F',?_,λb hb=>?_⟩,k5⟩
  · rw[KJ];simp only[Cs.Rep];exact⟨u,_,_,_,rfl,rfl,hx1,k3⟩
  · rcases mem_append.1 hb with hb|hb
    · exact .inl (by simp[hb])
    · exact (k4 b hb).imp (λh=>by simp[h]) id
theorem xt.set {α:Type} {n:Nat} {R:α->List Value->List Nat->Prop}:∀{xs:List α} {vs:List Value} {F:List Nat} {i:Nat} {x:α},xt n R xs vs F->xs[i]?=some x ->
 ∃G1 Gi G2,F=G1++Gi++G2/\R x ((vs.drop (i*n)).take n) Gi/\∀y us Gj,R y us Gj->us.length=n->xt n R (xs.set i y) (vs.take (i*n)++us++vs.drop (i*n+n)) (G1++Gj++G2)
 | [],_,_,i,x,_,hx=>by simp at hx
 | z::xs,_,_,0,x,h,hx=>by
  obtain⟨v1,v2,F1,F2,rfl,h1,rfl,hr,h⟩:=h;obtain rfl:z=x:=by simpa using hx
  subst h1;refine⟨[],F1,F2,rfl,by simpa using hr,λy us Gj hy hl=>?_⟩;exact⟨us,v2,Gj,F2,by simp,hl,by simp,hy,h⟩
 | z::xs,_,_,i+1,x,h,hx=>by
  obtain⟨v1,v2,F1,F2,rfl,h1,rfl,hr,h⟩:=h;obtain⟨G1,Gi,G2,rfl,k1,k2⟩:=h.set (i:=i) (x:=x) (by simpa using hx);have e:(i+1)*n=v1.length+i*n:=by rw[h1,Nat.succ_mul,Nat.add_comm]
  refine⟨F1++G1,Gi,G2,by simp,?_,λy us Gj hy hl=>?_⟩
  · rw[e,drop_append,drop_of_length_le (by omega),nil_append,Nat.add_sub_cancel_left];exact k1
  · refine⟨v1,v2.take (i*n)++us++v2.drop (i*n+n),F1,G1++Gj++G2,?_,h1,by simp,hr,k2 y us Gj hy hl⟩;rw[e,Nat.add_assoc,take_append,drop_append,List.take_of_length_le (by omega),drop_of_length_le (l:=v1) (by omega),Nat.add_sub_cancel_left,Nat.add_sub_cancel_left];simp
end Go.V
namespace Go.V
variable {P:Program} {w0:World} {T N:Nat->Prop} {S:St} {g:Gh} {w w':World} {a:Act} {o:Oper} {G:yU} {uid:th} {en en':List (th×Entry)}

theorem Iz (A vs B vals:List Value) (q:Nat) (h:q+vals.length<=vs.length):yy (A++vs++B) (A.length+q) vals=A++yy vs q vals++B:=by
 unfold yy;rw[append_assoc A vs B,take_append,List.take_of_length_le (l:=A) (by omega),Nat.add_sub_cancel_left,Nat.add_assoc,drop_append,drop_of_length_le (l:=A) (by omega),Nat.add_sub_cancel_left,
  take_append,drop_append,show q-vs.length=0 by omega,show q+vals.length-vs.length=0 by omega]
 simp
theorem Rr {us vs:List Value} {off:Nat} (h:(us.drop off).take vs.length=vs):us=us.take off++vs++(us.drop off).drop vs.length:=by
 conv=>lhs;rw[←take_append_drop off us,←take_append_drop vs.length (us.drop off),h]
 simp
theorem Mr {us vs:List Value} {off:Nat} (h:(us.drop off).take vs.length=vs) (ho:off<=us.length) (vals:List Value) (q:Nat) (hq:q+vals.length<=vs.length) :
 ((yy us (off+q) vals).drop off).take (yy vs q vals).length=yy vs q vals:=by
 have hA:(us.take off).length=off:=by rw[length_take];omega
 have key:=Iz (us.take off) vs ((us.drop off).drop vs.length) vals q hq;rw[←Rr h,hA]at key;rw[key,append_assoc,drop_append,drop_of_length_le (by omega),hA,Nat.sub_self];simp
theorem CO {l m:List Nat} (h:DL m) (k:∀b,l.count b<=m.count b):DL l:=λb=>Nat.le_trans (k b) (h b)
theorem A0 {b:Nat} {l m:List Nat} (h:b∈l) (k:∀b,l.count b<=m.count b):b∈m:=by
 rw[←List.count_pos_iff]at h ⊢;have:=k b;omega
theorem CP {used:List (th×Entry)} {deep:Bool} (hu:xJ en deep true used) (hd:xm used=true) {m:th} (hm:m∈used.map (·.1)) {f:Entry} (hf:wW (used++en) m=some f):f.deep=false/\f.alive=false:=by
 rw[AE hm]at hf;obtain⟨p,hp,rfl⟩:=mem_map.1 hm;rw[zZ hd hp]at hf;obtain⟨e,m,xs,_,_,he⟩|⟨_,e,xs,_,he⟩:=hu p hp<;>(cases hf;rw[he];exact⟨rfl,rfl⟩)
theorem xJ.shallow {kp:Bool} {used:List (th×Entry)} {deep:Bool} (h:xJ en deep kp used):xJ en false kp used:=λp hp=>by
 obtain⟨e,m,xs,h1,_,h3⟩|h:=h p hp
 · exact .inl ⟨e,m,xs,h1,(λh=>by cases h),h3⟩
 · exact .inr h

theorem Rs (h:xR w0 T N S g w a) (hT:zG P G.ti) {t:TypeId} {x y:Operand} (ho:o.op=.store t x y) {i:xD} (hi:wW G.ti t=some i) {n:th} {off:Nat} {cs:List Cell} (hx:xd (dom S.en) g w (.box n off) (a.eval x))
 (hn:wW S.en n=some (.box cs)) (hb:off+i.cs.len<=cs.length) (hl:(S.eval y).cells.length=i.cs.len) (hu:zj (S.eval y).cells=true) :
 xS P w0 T N S g w a o ⟨.undef,[(n,.box (setSub cs off (S.eval y).cells))]⟩:=by
 have hne:(S.eval y).cells≠[]:=λe=>by rw[e]at hl;have:=i.cs.len_pos;simp at hl;omega
 obtain⟨hc,h1⟩:=cells_rep h.mem (yd h y) hu hne;obtain⟨b,us,k1,k2,k3,k4⟩:=h.mem.rep n _ hn;obtain⟨_,b',k5,hx⟩:=hx;rw[k2]at k5;cases k5;have hlen:(a.eval y).cells.toList.length=i.cs.len:=hc.length.symm.trans hl
 have hus:=k4.length;have hw:=BW (a.eval y).cells.toList off w us k3 (by omega)
 obtain⟨hM,hle⟩:=h.ms.rewrite (E':=.box (setSub cs off (S.eval y).cells)) (F:=g.nest n) hn rfl k1 hw (λhle=>⟨b,_,by simp[Gh.set,k1],by simp[Gh.set,k2],hw.cells,(k4.imp λ_ _=>xd.mono hle).setSub (hc.imp λ_ _=>xd.mono hle) off⟩) (λhd=>by cases hd);exact⟨undef,_,_,.inr ⟨rfl,Iy hT ho hi hx k3 hlen (by omega) h1⟩,hM,hle,trivial⟩

theorem Ql (h:xR w0 T N S g w a) (hT:zG P G.ti) {t:TypeId} {x y:Operand} (ho:o.op=.store t x y) {i:xD} (hi:wW G.ti t=some i) {r:th} {k off:Nat} {f:Cs} {m:Bool} {xs:List f.den} (hx:xd (dom S.en) g w (.elem r k off) (a.eval x))
 (hn:wW S.en r=some (.root f m xs)) (hb:off+i.cs.len<=f.len) (hl:(S.eval y).cells.length=i.cs.len) (hu:zj (S.eval y).cells=true) {z:f.den} (hz:xs[k]?=some z) {q:f.den×List (th×Entry)} {L:List th}
 (hq:(f.upd m z off (S.eval y).cells).Runs (wW S.en) q L) (hd:xm ((r,.gone)::q.2)=true) :
 xS P w0 T N S g w a o ⟨.undef,(r,.root f m (xs.set k q.1))::q.2⟩:=by
 have hne:(S.eval y).cells≠[]:=λe=>by rw[e]at hl;have:=i.cs.len_pos;simp at hl;omega
 obtain⟨hc,h1⟩:=cells_rep h.mem (yd h y) hu hne;have hlen:(a.eval y).cells.toList.length=i.cs.len:=hc.length.symm.trans hl
 obtain⟨he,hrt,hI,hnd⟩:=yM h.mem hn;obtain⟨hdr,b,o',len,cap0,hloc,hk,hx⟩:=hx;rw[he]at hx;have hxs:k<xs.length:=(List.getElem?_eq_some_iff.1 hz).1
 obtain⟨hrq,hdq⟩:=yP hd;rcases hrt with ⟨_,rfl,_⟩|⟨b1,off0,cap,us,vs,e1,e2,e3,e4,e5,e6,e7⟩
 · simp at hz
 · rw[hloc]at e1;cases e1;obtain⟨G1,Gi,G2,hF,hri,hset⟩:=e7.set hz;have hvl:=e7.length
   have hkl:k*f.len+f.len<=vs.length:=by rw[hvl,←Nat.succ_mul];exact Nat.mul_le_mul_right _ hxs
   have hvals:(a.eval y).cells.toList.length+off<=f.len:=by omega
   have hwlen:o'+(k*f.len+off)+(a.eval y).cells.toList.length<=us.length:=by
    have:vs.length<=cap0*f.len:=by rw[hvl];exact Nat.mul_le_mul_right _ e3
    omega
   have hw:=BW (a.eval y).cells.toList (o'+(k*f.len+off)) w us e4 hwlen;have hui:((vs.drop (k*f.len)).take f.len).length=f.len:=by rw[length_take,length_drop];omega
   have hvs:vs=vs.take (k*f.len)++(vs.drop (k*f.len)).take f.len++vs.drop (k*f.len+f.len):=by
    conv=>lhs;rw[←take_append_drop (k*f.len) vs,←take_append_drop f.len (vs.drop (k*f.len)),drop_drop]
    simp
   have hpatch:yy vs (k*f.len+off) (a.eval y).cells.toList=vs.take (k*f.len)++yy ((vs.drop (k*f.len)).take f.len) off (a.eval y).cells.toList++vs.drop (k*f.len+f.len):=by
    have hA:(vs.take (k*f.len)).length=k*f.len:=by rw[length_take];omega
    have:=Iz (vs.take (k*f.len)) ((vs.drop (k*f.len)).take f.len) (vs.drop (k*f.len+f.len)) (a.eval y).cells.toList off (by omega);rw[←hvs,hA]at this;exact this
   have hrow:((yy us (o'+(k*f.len+off)) (a.eval y).cells.toList).drop o').take (yy vs (k*f.len+off) (a.eval y).cells.toList).length=yy vs (k*f.len+off) (a.eval y).cells.toList :=
    Mr e6 (by omega) _ _ (by omega)
   have key:∃F',Cs.Rep w f q.1 (yy ((vs.drop (k*f.len)).take f.len) off (a.eval y).cells.toList) F'/\xJ S.en false true q.2/\(∀b∈F',g.I b\/BS S.en g b (q.2.map (·.1))) /\
    (m=true->DL (G1++F'++G2)/\xJ S.en true true q.2/\∀b∈G1++F'++G2,b∈g.nest r\/b∈(q.2.map (·.1)).flatMap (ze g)):=by
    cases m with
    | false =>
     obtain⟨⟨F',k1,k2⟩,k3⟩:=HJ h.mem hri hc hq;refine⟨F',k1,k3,λb hb=>?_,λh=>by cases h⟩;rcases k2 b hb with h|h
     · exact .inl (hI b (by rw[hF];simp[h]))
     · exact h
    | true =>
     obtain⟨⟨F',k1,k2⟩,k3⟩:=Ji h.mem hri hc hq;have hcnt:∀b,(G1++F'++G2).count b<=(g.nest r++(q.2.map (·.1)).flatMap (ze g)).count b:=λb=>by
      have:=k2 b;rw[hF];simp only[AN];omega
     have honce:DL (g.nest r++(q.2.map (·.1)).flatMap (ze g)):=by
      obtain⟨j1,j2⟩:=DM h.mem k3 hdq;rw[yC,List.nodup_append];refine⟨hnd rfl,yC.1 j1,λc hc d hd' hcd=>?_⟩;subst hcd;exact j2 r _ hn rfl hrq c hd' (by unfold ze;exact mem_append_right _ hc)
     refine⟨F',k1,k3.shallow,λb hb=>?_,λ_=>⟨CO honce hcnt,k3,λb hb=>mem_append.1 (A0 hb hcnt)⟩⟩;rcases mem_append.1 (A0 (b:=b) (l:=G1++F'++G2) (by simp[hb]) hcnt)with h'|h'
     · exact .inl (hI b h')
     · exact Pr h.mem k3 h'
   obtain⟨F',k1,k2,k3,k4⟩:=key;obtain⟨g1,hM,hle,f1,f2,f3,f4,fI⟩:=h.ms.useAll k2 hdq;have hn1:wW (q.2++S.en) r=some (.root f m xs):=(xV hrq).trans hn
   have hG:∀b∈G1++F'++G2,g1.I b:=λb hb=>(fI b).2 (by
    simp only[mem_append]at hb;rcases hb with (hb|hb)|hb
    · exact .inl (hI b (by rw[hF];simp[hb]))
    · exact k3 b hb
    · exact .inl (hI b (by rw[hF];simp[hb])))
   have hL:=hset q.1 _ F' k1 (by rw[BY (by omega)];exact hui);rw[←hpatch]at hL;obtain⟨hM2,hle2⟩:=hM.rewrite (E':=.root f m (xs.set k q.1)) (F:=G1++F'++G2) hn1 rfl (by rw[f3];exact e2) hw
    (λhle2=>⟨by simp[Gh.set,f2,he],.inr ⟨b,o',cap0,_,_,by simp[Gh.set,f1,hloc],by simp[Gh.set,f3,e2],by simpa using e3,hw.cells,by
     show o'+cap0*f.len<=(yy us _ _).length;rw[BY hwlen];exact e5,hrow,by
     have:(g1.set r ⟨g1.loc r,g1.esz r,g1.top r,G1++F'++G2⟩).nest r=G1++F'++G2:=by simp[Gh.set]
     rw[this];exact hL.imp λx v G _ hGs hr=>Cs.Rep.of_same (λc hc=>hle2.mem c (hG c (hGs c hc))) hr⟩,by simpa[Gh.set]using hG,λhm=>by
     have:(g1.set r ⟨g1.loc r,g1.esz r,g1.top r,G1++F'++G2⟩).nest r=G1++F'++G2:=by simp[Gh.set]
     rw[this];exact yC.1 (k4 hm).1⟩)
    (λhm c hc=>by
     obtain⟨_,j2,j3⟩:=k4 hm;have hm:m=true:=hm
     subst hm;rw[f4];rcases j3 c hc with hcn|hcf
     · refine⟨λk' f' hk' hf' hd'=>?_,h.since.nests r _ c hn rfl hcn⟩;by_cases hin:k'∈q.2.map (·.1)
       · rw[(CP k2 hdq hin hf').1]at hd';cases hd'
       · rw[xV hin]at hf';exact λhc'=>h.mem.nests r k' _ _ hn hf' rfl hd' (Ne.symm hk') c hcn hc'
     · obtain⟨j4,j5⟩:=EO h.ms j2 hcf;refine⟨λk' f' hk' hf' hd'=>?_,j5⟩;by_cases hin:k'∈q.2.map (·.1)
       · rw[(CP k2 hdq hin hf').1]at hd';cases hd'
       · rw[xV hin]at hf';exact j4 k' f' hf' hd' hin)
   refine⟨undef,_,_,.inr ⟨rfl,?_⟩,hM2,hle.trans hle2,trivial⟩;exact Iy hT ho hi (by rw[hx,Nat.add_assoc]) e4 hlen (by omega) h1
theorem CT.into_flat {c:CT} {kp:Bool} {v:Cell} {y:c.den×List (th×Entry)} {L:List th} {F:th->Option Entry} (hv:v.flat=true) (hr:(c.into true kp v).Runs F y L):c.isSl=false:=by
 cases c with
 | sl e=>cases v<;>first | (exact hr.elim) | (cases hv)
 | _=>rfl
theorem JV {F:th->Option Entry}:∀{f:Cs} {z:f.den} {off:Nat} {vs:List Cell} {q:f.den×List (th×Entry)} {L:List th},vs.all Cell.flat=true->(f.upd true z off vs).Runs F q L->∀j,off<=j->j<off+vs.length->f.slAt j=false
 | .one c,z,0,[v],q,L,hv,hr,j,h1,h2=>by
  obtain rfl:j=0:=by simp at h2;omega
  exact CT.into_flat (by simpa using hv) hr
 | .one c,z,off,[],q,L,hv,hr,j,h1,h2=>by simp at h2;omega
 | .cons c r,z,off,[],q,L,hv,hr,j,h1,h2=>by simp at h2;omega
 | .cons c r,z,0,v::vs,q,L,hv,hr,j,h1,h2=>by
  simp only[Cs.upd]at hr;obtain⟨a,L1,L2,_,k1,hr⟩:=Rd.runs_bind hr;obtain⟨b,L3,L4,_,k2,hr⟩:=Rd.runs_bind hr;simp only[List.all_cons,aT]at hv;cases j with
  | zero=>exact CT.into_flat hv.1 k1
  | succ j=>exact JV (f:=r) (off:=0) hv.2 k2 j (by omega) (by simp at h2;omega)
 | .cons c r,z,n+1,v::vs,q,L,hv,hr,j,h1,h2=>by
  simp only[Cs.upd]at hr;obtain⟨b,L3,L4,_,k2,hr⟩:=Rd.runs_bind hr;cases j with
  | zero=>omega
  | succ j=>exact JV (f:=r) (off:=n) hv k2 j (by omega) (by simp at h2 ⊢;omega)
 | .one c,z,0,v::u::vs,q,L,hv,hr,j,h1,h2=>hr.elim
 | .one c,z,n+1,v::vs,q,L,hv,hr,j,h1,h2=>hr.elim
theorem Qm {vs vals:List Value} {q p:Nat} (h:q+vals.length<=vs.length) (hp:p<q\/q+vals.length<=p):(yy vs q vals)[p]?=vs[p]?:=by
 unfold yy;have hA:(vs.take q).length=q:=by rw[length_take];omega
 rcases hp with hp|hp
 · rw[append_assoc,List.getElem?_append_left (by omega),List.getElem?_take_of_lt hp]
 · rw[List.getElem?_append_right (by simp;omega),List.getElem?_drop]
   congr 1
   simp;omega
theorem Qn (h:xR w0 T N S g w a) (hT:zG P G.ti) {t:TypeId} {x y:Operand} (ho:o.op=.store t x y) {i:xD} (hi:wW G.ti t=some i) {r:th} {k off:Nat} {f:Cs} {xs:List f.den} (hx:xd (dom S.en) g w (.elem r k off) (a.eval x))
 (hn:wW S.en r=some (.tree f xs)) (hb:off+i.cs.len<=f.len) (hl:(S.eval y).cells.length=i.cs.len) (hu:zj (S.eval y).cells=true) (hfl:(S.eval y).cells.all Cell.flat=true) {z:f.den} (hz:xs[k]?=some z) {q:f.den×List (th×Entry)} {L:List th}
 (hq:(f.upd true z off (S.eval y).cells).Runs (wW S.en) q L) (hd:q.2=[]) :
 xS P w0 T N S g w a o ⟨.undef,[(r,.tree f (xs.set k q.1))]⟩:=by
 have hne:(S.eval y).cells≠[]:=λe=>by rw[e]at hl;have:=i.cs.len_pos;simp at hl;omega
 obtain⟨hc,h1⟩:=cells_rep h.mem (yd h y) hu hne;have hlen:(a.eval y).cells.toList.length=i.cs.len:=hc.length.symm.trans hl
 obtain⟨he,hrt,hnd⟩:=h.mem.rep r _ hn;obtain⟨hdr,b,o',len,cap0,hloc,hk,hx⟩:=hx;rw[he]at hx;have hxs:k<xs.length:=(List.getElem?_eq_some_iff.1 hz).1
 rcases hrt with ⟨_,rfl,_⟩|⟨b1,off0,cap,vs,F0,e1,e2,e3,⟨c,tt,⟨lo,hi'⟩,hcell,hsz⟩,⟨c',tt',fz',hcell',e6⟩,e7,e8⟩
 · simp at hz
 · rw[hcell]at hcell';cases hcell';rw[hloc]at e1;cases e1;have hbs:b∈g.nest r:=by rw[e2];simp
   have e4:yr w b c.toList:=⟨c,tt,lo,hi',hcell,rfl,h.since.soft b (h.since.born r _ b hn rfl hbs) c tt lo hi' hcell⟩;have e5:o'+cap0*f.len<=c.toList.length:=by simpa using hsz
   obtain⟨G1,Gi,G2,hF,hri,hset⟩:=e7.set hz;have hvl:=e7.length
   have hkl:k*f.len+f.len<=vs.length:=by rw[hvl,←Nat.succ_mul];exact Nat.mul_le_mul_right _ hxs
   have hvals:(a.eval y).cells.toList.length+off<=f.len:=by omega
   have hwlen:o'+(k*f.len+off)+(a.eval y).cells.toList.length<=c.toList.length:=by
    have:vs.length<=cap0*f.len:=by rw[hvl];exact Nat.mul_le_mul_right _ e3
    omega
   have hw:=BW (a.eval y).cells.toList (o'+(k*f.len+off)) w c.toList e4 hwlen;have hui:((vs.drop (k*f.len)).take f.len).length=f.len:=by rw[length_take,length_drop];omega
   have hvs:vs=vs.take (k*f.len)++(vs.drop (k*f.len)).take f.len++vs.drop (k*f.len+f.len):=by
    conv=>lhs;rw[←take_append_drop (k*f.len) vs,←take_append_drop f.len (vs.drop (k*f.len)),drop_drop]
    simp
   have hpatch:yy vs (k*f.len+off) (a.eval y).cells.toList=vs.take (k*f.len)++yy ((vs.drop (k*f.len)).take f.len) off (a.eval y).cells.toList++vs.drop (k*f.len+f.len):=by
    have hA:(vs.take (k*f.len)).length=k*f.len:=by rw[length_take];omega
    have:=Iz (vs.take (k*f.len)) ((vs.drop (k*f.len)).take f.len) (vs.drop (k*f.len+f.len)) (a.eval y).cells.toList off (by omega);rw[←hvs,hA]at this;exact this
   have hrow:((yy c.toList (o'+(k*f.len+off)) (a.eval y).cells.toList).drop o').take (yy vs (k*f.len+off) (a.eval y).cells.toList).length=yy vs (k*f.len+off) (a.eval y).cells.toList :=
    Mr e6 (by omega) _ _ (by omega)
   obtain⟨⟨F',k1,k2⟩,_⟩:=Ji h.mem hri hc hq;have hcnt:∀b,(G1++F'++G2).count b<=F0.count b:=λb=>by
    have:=k2 b;rw[hd]at this;rw[hF];simp only[AN];simp at this;omega
   have hL:=hset q.1 _ F' k1 (by rw[BY (by omega)];exact hui);rw[←hpatch]at hL;have hsub:∀c∈G1++F'++G2,c∈F0:=λc hc=>A0 hc hcnt
   have hbF:b∉F0:=by
    have:=hnd;rw[e2]at this;exact (List.nodup_cons.1 this).1
   have hF0:F0.Nodup:=by have:=hnd;rw[e2]at this;exact (List.nodup_cons.1 this).2
   obtain⟨hM2,hle2⟩:=h.ms.retree (ys:=xs.set k q.1) (F:=b::(G1++F'++G2)) hn hw.os hw.out hw.tape (by rw[hw.size];exact Nat.le_refl _)
    (λc _ hcn=>hw.rest c λe=>by subst e;exact hcn hbs)
    (λc hc=>by
     by_cases e:c=b
     · subst e;exact hw.cells.soft
     · rcases hc with hc|hc
       · exact (h.since.soft c (h.since.born r _ c hn rfl hc)).of_same (hw.rest c e)
       · intro c1 t1 l1 u1 hc1;have:=Et hc1
         rw[hw.size]at this;omega)
    (.inr ⟨b,o',cap0,_,_,by simpa using hloc,rfl,by simpa using e3,by
     obtain⟨c2,t2,l2,u2,hc2,hv2,_⟩:=hw.cells;refine⟨c2,t2,_,hc2,?_⟩;have:(yy c.toList (o'+(k*f.len+off)) (a.eval y).cells.toList).length=c2.size:=by rw[show yy c.toList (o'+(k*f.len+off)) (a.eval y).cells.toList=c2.toList from hv2.symm];simp
     rw[BY hwlen]at this;omega,hw.cells.row_at hrow,hL.imp λx v G _ hGs hr=>Cs.Rep.of_same (λc hc=>hw.rest c λe=>hbF (e▸hsub c (hGs c hc))) hr,by
     intro i' j' hi2 hj2;rw[←e8 i' j' (by simpa using hi2) hj2];have hjl:=Cs.slAt_lt hj2
     refine Qm (by omega) ?_;by_cases hik:i'=k
     · subst hik;rcases Nat.lt_or_ge j' off with hj|hj
       · exact .inl (by omega)
       · rcases Nat.lt_or_ge j' (off+(S.eval y).cells.length)with hj'|hj'
         · rw[JV hfl hq j' hj hj']at hj2;cases hj2
         · exact .inr (by omega)
     · rcases Nat.lt_or_ge i' k with hlt|hge
       · have:(i'+1)*f.len<=k*f.len:=Nat.mul_le_mul_right _ hlt;rw[Nat.add_mul]at this;exact .inl (by omega)
       · have:(k+1)*f.len<=i'*f.len:=Nat.mul_le_mul_right _ (by omega);rw[Nat.add_mul]at this;exact .inr (by omega)⟩)
    (List.nodup_cons.2 ⟨λhm=>hbF (hsub b hm),yC.1 (CO (yC.2 hF0) hcnt)⟩)
    (λc hc=>.inl (by
     rw[e2];rcases mem_cons.1 hc with rfl|hc
     · simp
     · exact mem_cons_of_mem _ (hsub c hc)))
   refine⟨undef,_,_,.inr ⟨rfl,?_⟩,hM2,hle2,trivial⟩;exact Iy hT ho hi (by rw[hx,Nat.add_assoc]) e4 hlen (by omega) h1
theorem SX (h:xR w0 T N S g w a) (hT:zG P G.ti) {t:TypeId} {x y:Operand} (ho:o.op=.store t x y) {e:y8} {L:List th} (hr:(Ai G uid S.eval (.store t x y)).Runs (wW S.en) e L):xS P w0 T N S g w a o e:=by
 replace hr:=xY hr;obtain⟨i,hi,hr⟩:=hr;have hx:=yd h x
 unfold HA at hr;cases hk:(Nat.beq (S.eval y).cells.length i.cs.len&&zj (S.eval y).cells)with
 | false=>rw[hk]at hr;exact hr.elim
 | true =>
  rw[hk]at hr;simp only[aT]at hk;obtain⟨hl,hu⟩:=hk;have hl:=Nat.eq_of_beq_eq_true hl
  simp only[cT]at hr;split at hr
  · rename_i n off e1;rw[e1]at hx;obtain⟨L',hL',hr⟩:=hr;cases hn:wW S.en n with
    | none=>rw[hn]at hr;exact hr.elim
    | some E =>
     rw[hn]at hr;cases E with
     | gone=>exact hr.elim
     | fwd _ _=>exact hr.elim
     | frz _ _=>exact hr.elim
     | root _ _ _=>exact hr.elim
     | tree _ _=>exact hr.elim
     | box cs =>
      simp only at hr;cases hb:Nat.ble (off+i.cs.len) cs.length with
      | false=>rw[hb]at hr;exact hr.elim
      | true =>
       rw[hb]at hr;obtain⟨rfl,_⟩:=hr;exact Rs h hT ho hi hx hn (BX hb) hl hu
  · rename_i r k off e1;rw[e1]at hx;obtain⟨L',hL',hr⟩:=hr;cases hn:wW S.en r with
    | none=>rw[hn]at hr;exact hr.elim
    | some E =>
     rw[hn]at hr;cases E with
     | gone=>exact hr.elim
     | fwd _ _=>exact hr.elim
     | frz _ _=>exact hr.elim
     | box _=>exact hr.elim
     | tree f xs =>
      simp only at hr;cases hb:(Nat.ble (off+i.cs.len) f.len&&(S.eval y).cells.all Cell.flat)with
      | false=>rw[hb]at hr;exact hr.elim
      | true =>
       rw[hb]at hr;simp only[aT]at hb;obtain⟨z,hz,hr⟩:=hr;obtain⟨q,L1,L2,_,hq,hr⟩:=Rd.runs_bind hr;split at hr
       · rename_i hq2;obtain⟨rfl,_⟩:=hr;exact Qn h hT ho hi hx hn (BX hb.1) hl hu hb.2 hz hq hq2
       · exact hr.elim
     | root f m xs =>
      simp only at hr;cases hb:Nat.ble (off+i.cs.len) f.len with
      | false=>rw[hb]at hr;exact hr.elim
      | true =>
       rw[hb]at hr;obtain⟨z,hz,hr⟩:=hr;obtain⟨q,L1,L2,_,hq,hr⟩:=Rd.runs_bind hr;obtain⟨_,L3,L4,_,hd,hr⟩:=Rd.runs_bind hr;obtain⟨rfl,_⟩:=hr;exact Ql h hT ho hi hx hn (BX hb) hl hu hz hq (Rd.runs_need hd).1
  · exact hr.elim
end Go.V
namespace Go.V
variable {P:Program} {w0:World} {T N:Nat->Prop} {S:St} {g:Gh} {w w':World} {a:Act} {o:Oper} {G:yU} {uid:th} {en en':List (th×Entry)}

theorem G8 (w:World) (c:Array Value) (t:TypeId):yr (w.alloc (.cells c t)) w.heap.size c.toList :=
 ⟨c,t,0,0,G7 w _,rfl,Nat.le_refl _,λo _=>by omega⟩
theorem MS.newBox (h:MS w0 T N en g w) {n:th} (hn:wW en n=none) {cs:List Cell} {c:Array Value} {t:TypeId} (hc:xn (xd (dom en) g w) cs c.toList) :
 MS w0 T N ((n,.box cs)::en) (g.set n ⟨.pointer (some ⟨w.heap.size,0,none⟩),0,some w.heap.size,[]⟩) (w.alloc (.cells c t)) /\
  Le (dom en) g w (dom ((n,.box cs)::en)) (g.set n ⟨.pointer (some ⟨w.heap.size,0,none⟩),0,some w.heap.size,[]⟩) (w.alloc (.cells c t)):=by
 obtain⟨h1,l1⟩:=h.alloc (.cells c t);have hf:=h.free
 have l2:=Gh.set_le (g:=g) (w:=w.alloc (.cells c t)) (n:=n) (.box cs) ⟨.pointer (some ⟨w.heap.size,0,none⟩),0,some w.heap.size,[]⟩ (λhd=>absurd hn hd);obtain⟨h3,l3⟩:=h1.put (n:=n) (e:=.box cs) (i:=⟨.pointer (some ⟨w.heap.size,0,none⟩),0,some w.heap.size,[]⟩) (λhd=>absurd hn hd) rfl
  ⟨w.heap.size,c.toList,by simp[Gh.set],by simp[Gh.set],G8 w c t,hc.imp λ_ _=>xd.mono (l1.trans l2)⟩
  (λ_ b hb=>by cases hb;exact⟨hf.imm,λm f _=>hf.top m f,hf.own,λm f _=>hf.wood m f⟩) (λhd=>by cases hd)
 exact⟨h3,l1.trans l3⟩
theorem Da {D:th->Prop}:∀{e:Cs} {vs:List Value},zeroOk e vs=true->xn (xd D g w) e.zeroCells vs
 | .one c,[v],h=>⟨one c v h,trivial⟩
 | .cons c r,v::vs,h=>by
  simp only[zeroOk,aT]at h;exact⟨one c v h.1,Da h.2⟩
 | .one c,[],h=>by simp[zeroOk]at h
 | .one c,_::_::_,h=>by simp[zeroOk]at h
 | .cons c r,[],h=>by simp[zeroOk]at h
where one:∀(c:CT) (v:Value),zeroOk.one c v=true->xd D g w (Fg c) v
 | .int k,v,h=>by have:=CM.one (w:=w) (.int k) v h;simp only[CT.Rep]at this;exact this.1
 | .bool,v,h=>by have:=CM.one (w:=w) .bool v h;simp only[CT.Rep]at this;exact this.1
 | .str,v,h=>by have:=CM.one (w:=w) .str v h;simp only[CT.Rep]at this;exact this.1
 | .err,v,h=>by have:=CM.one (w:=w) .err v h;simp only[CT.Rep]at this;exact this.2
 | .sl e,v,h=>by
  cases v<;>simp[zeroOk.one]at h;rename_i a len cap;cases a with
  | some a=>simp[zeroOk.one]at h
  | none =>
   cases len<;>cases cap<;>simp[zeroOk.one]at h;rfl
theorem SY (h:xR w0 T N S g w a) (hT:zG P G.ti) {t:TypeId} (ho:o.op=.alloc t) {e:y8} {L:List th} (hr:(Ai G uid S.eval (.alloc t)).Runs (wW S.en) e L):xS P w0 T N S g w a o e:=by
 replace hr:=xY hr;obtain⟨i,hi,hr⟩:=hr;obtain⟨rfl,_,hn⟩:=Az hr;obtain⟨d,u,z,hf⟩:=hT.facts hi;have hn:=hn _ (mem_singleton.2 rfl)
 obtain⟨hM,hle⟩:=h.ms.newBox (c:=z.cells) (t:=t) hn (Da hf.zok);refine⟨_,_,_,.inl ?_,hM,hle,⟨yz.2 (.inl rfl),w.heap.size,by simp[Gh.set],rfl⟩⟩;simp only[execOp,ho,Instr.alloc,Sem.run_bind,hf.zero_run,Result.andThen,newVar,newRow,run_newObj,Sem.run_pure];rfl
theorem VK (h:xR w0 T N S g w a) (hT:zG P G.ti) {t:TypeId} {x:Operand} (ho:o.op=.box t x) {e:y8} {L:List th} (hr:(Ai G uid S.eval (.box t x)).Runs (wW S.en) e L):xS P w0 T N S g w a o e:=by
 replace hr:=xY hr;obtain⟨i,hi,hr⟩:=hr;cases hk:(Nat.beq (S.eval x).cells.length i.cs.len&&zj (S.eval x).cells)with
 | false=>rw[hk]at hr;exact hr.elim
 | true =>
  rw[hk]at hr;simp only[aT]at hk;have hl:=Nat.eq_of_beq_eq_true hk.1
  obtain⟨rfl,_,hn⟩:=Az hr;have hn:=hn _ (mem_singleton.2 rfl)
  have hne:(S.eval x).cells≠[]:=λe=>by rw[e]at hl;have:=i.cs.len_pos;simp at hl;omega
  obtain⟨hc,_⟩:=cells_rep h.mem (yd h x) hk.2 hne;obtain⟨hM,hle⟩:=h.ms.newBox (c:=(a.eval x).cells) (t:=t) hn hc;refine⟨_,_,_,.inl ?_,hM,hle,⟨yz.2 (.inl rfl),w.heap.size,by simp[Gh.set],rfl⟩⟩;simp only[execOp,ho,Instr.box,Sem.run_bind,Result.andThen,newVar,newRow,run_newObj,Sem.run_pure];rfl

theorem OY (off:Nat) (l:List Value) (cs:Array Value) (h:off+l.length<=cs.size) :
 ((l.zipIdx 0).foldl (λcs (x:Value×Nat)=>cs.setIfInBounds (off+x.2) x.1) cs).toList=yy cs.toList off l:=by
 obtain⟨h1,h2⟩:=Great.foldl_set off l 0 cs;apply List.ext_getElem?;intro k;rw[Array.getElem?_toList,h2 k];simp only[yy,Nat.add_zero];by_cases hk:off<=k/\k<off+l.length/\k<cs.size
 · rw[if_pos hk,append_assoc,List.getElem?_append_right (by rw[length_take];simp;omega),length_take,List.getElem?_append_left (by simp;omega)]
   congr 1;simp;omega
 · rw[if_neg hk];by_cases hlt:k<off
   · rw[append_assoc,List.getElem?_append_left (by rw[length_take];simp;omega),List.getElem?_take_of_lt hlt];simp
   · rw[List.getElem?_append_right (by simp;omega),List.getElem?_drop];rw[←Array.getElem?_toList];congr 1;simp;omega
theorem Ms (place:Nat->Option (Nat×Nat)) (cells:Array Value) (i:Nat) (v:Value) (rest:List (Nat×Value)) {off size:Nat} (hp:place i=some (off,size)) (hs:v.cells.size=size) (hb:off+v.cells.size<=cells.size) :
 ∃cells':Array Value,Instr.fill place cells ((i,v)::rest)=Instr.fill place cells' rest/\cells'.toList=yy cells.toList off v.cells.toList/\cells'.size=cells.size:=by
 refine⟨_,?_,OY off v.cells.toList cells (by simpa using hb),(Great.foldl_set off v.cells.toList 0 cells).1⟩;simp only[Instr.fill,hp];rw[if_neg (by simp[hs];omega)];have:(v.cells.zipIdx.foldl (λcs (x:Value×Nat)=>cs.setIfInBounds (off+x.2) x.1) cells)=(v.cells.toList.zipIdx 0).foldl (λcs (x:Value×Nat)=>cs.setIfInBounds (off+x.2) x.1) cells:=by
  rw[←Array.foldl_toList,Array.toList_zipIdx]
 exact congrArg (λc=>Instr.fill place c rest) this
theorem Mt {ti:List (Nat×xD)} (hT:zG P ti):∀{fs:List Field} {fl:List (Nat×Nat)},A8 ti fs fl=true ->
 ∃places,fs.mapM (λf=>(P.info? f.type).map λi=>(f.offset,i.size))=some places/\∀(i:Nat) (p:Nat×Nat),fl[i]?=some p->places[i]?=some (p.2,CJ ⟨ti,[],[],false⟩ p.1)
 | [],[],_=>⟨[],rfl,by simp⟩
 | f::fs,(t,o)::fl,h=>by
  simp only[A8,aT]at h;obtain⟨⟨⟨h1,h2⟩,h3⟩,h4⟩:=h;obtain⟨places,k1,k2⟩:=Mt hT h4;obtain rfl:=Nat.eq_of_beq_eq_true h1;obtain rfl:=Nat.eq_of_beq_eq_true h2;obtain⟨i,hi⟩:=Option.isSome_iff_exists.1 h3;obtain⟨d,u,z,hf⟩:=hT.facts hi;refine⟨(f.offset,i.cs.len)::places,?_,λj p hj=>?_⟩
  · simp[List.mapM_cons,hf.info,k1,hf.size]
  · cases j with
    | zero=>simp at hj;subst hj;simp[CJ,hi]
    | succ j=>simpa using k2 j p (by simpa using hj)
 | [],_::_,h=>by simp[A8]at h
 | _::_,[],h=>by simp[A8]at h
theorem KK (h:xR w0 T N S g w a) {fl:List (Nat×Nat)} {places:List (Nat×Nat)} (hp:∀(i:Nat) (p:Nat×Nat),fl[i]?=some p->places[i]?=some (p.2,CJ G p.1)) (hpos:∀(i:Nat) (p:Nat×Nat),fl[i]?=some p->0<CJ G p.1) :
 ∀(parts:List (Nat×Operand)) (cs cs':List Cell) (cells:Array Value),xn (xd (dom S.en) g w) cs cells.toList->BA fl (CJ G) cs (parts.map λp=>(p.1,S.eval p.2))=some cs' ->
 ∃cells',Instr.fill (places.toArray[·]?) cells (parts.map λp=>(p.1,a.eval p.2))=some cells'/\xn (xd (dom S.en) g w) cs' cells'.toList
 | [],cs,cs',cells,hc,hb=>by
  simp only[map_nil,BA,Option.some.injEq]at hb;subst hb;exact⟨cells,rfl,hc⟩
 | (i,x)::parts,cs,cs',cells,hc,hb=>by
  simp only[map_cons,BA]at hb;cases hf:fl[i]? with
  | none=>rw[hf]at hb;simp at hb
  | some f =>
   rw[hf]at hb;simp only at hb;cases hk:(Nat.beq (S.eval x).cells.length (CJ G f.1)&&Nat.ble (f.2+(S.eval x).cells.length) cs.length&&zj (S.eval x).cells)with
   | false=>rw[hk]at hb;simp at hb
   | true =>
    rw[hk]at hb;simp only[aT]at hk;obtain⟨⟨h1,h2⟩,h3⟩:=hk;have h1:=Nat.eq_of_beq_eq_true h1
    have h2:=BX h2;have hne:(S.eval x).cells≠[]:=λe=>by rw[e]at h1;have:=hpos i f hf;simp at h1;omega
    obtain⟨hv,_⟩:=cells_rep h.mem (yd h x) h3 hne;have hsz:(a.eval x).cells.size=CJ G f.1:=by rw[←h1];exact hv.length.symm
    have hcs:cs.length=cells.size:=hc.length;obtain⟨cells1,k1,k2,k3⟩:=Ms (places.toArray[·]?) cells i (a.eval x) (parts.map λp=>(p.1,a.eval p.2)) (off:=f.2) (size:=CJ G f.1) (by simpa using hp i f hf) hsz (by rw[hsz];omega);obtain⟨cells',j1,j2⟩:=KK h hp hpos parts (setSub cs f.2 (S.eval x).cells) cs' cells1 (by rw[k2];exact hc.setSub hv f.2) hb;exact⟨cells',by rw[map_cons,k1,j1],j2⟩
theorem SZ (h:xR w0 T N S g w a) (hT:zG P G.ti) {t:TypeId} {parts:Array (Nat×Operand)} (ho:o.op=.build t parts) {e:y8} {L:List th} (hr:(Ai G uid S.eval (.build t parts)).Runs (wW S.en) e L):xS P w0 T N S g w a o e:=by
 replace hr:=xY hr;obtain⟨i,hi,hr⟩:=hr;obtain⟨d,u,z,hf⟩:=hT.facts hi;cases ha:i.agg with
 | false=>rw[ha]at hr;exact hr.elim
 | true =>
  rw[ha]at hr;simp only[cT]at hr;split at hr
  · rename_i cs hb;obtain⟨rfl,_⟩:=hr;obtain⟨fs,rfl,hfs⟩:=hf.agg ha;obtain⟨places,hp1,hp2⟩:=Mt hT hfs;have hsz:∀t,CJ G t=CJ ⟨G.ti,[],[],false⟩ t:=λt=>rfl
    have hpos:∀(j:Nat) (p:Nat×Nat),i.flds[j]?=some p->0<CJ G p.1:=by
     intro j p hj;have:∀(fs:List Field) (fl:List (Nat×Nat)),A8 G.ti fs fl=true->∀(j:Nat) (p:Nat×Nat),fl[j]?=some p->∃i,wW G.ti p.1=some i:=by
      intro fs
      induction fs with
      | nil=>intro fl hfl j p hj;cases fl<;>simp[A8]at hfl hj
      | cons f fs ih =>
       intro fl hfl j p hj;cases fl with
       | nil=>simp at hj
       | cons q fl =>
        obtain⟨t',o'⟩:=q;simp only[A8,aT]at hfl;cases j with
        | zero=>simp at hj;subst hj;exact Option.isSome_iff_exists.1 hfl.1.2
        | succ j=>exact ih fl hfl.2 j p (by simpa using hj)
     obtain⟨i',hi'⟩:=this _ _ hfs j p hj;simp only[CJ,hi'];exact i'.cs.len_pos
    obtain⟨cells,hc1,hc2⟩:=KK h (places:=places) (λj p hj=>hp2 j p hj) hpos parts.toList i.cs.zeroCells cs z.cells (Da hf.zok) hb;have hbuilt:P.built t ((parts.map λp=>(p.1,a.eval p.2))).toList=some cells:=by
     simp only[Program.built,hf.info,hf.und,hf.zero,hp1,Array.toList_map];exact hc1
    refine xS.pure h (v:=.agg cells) ?_ ⟨cells,rfl,hc2⟩;simp only[execOp,ho,Sem.run_bind];rw[run_build w t _ cells hbuilt];rfl
  · exact hr.elim
end Go.V
namespace Go.V
variable {P:Program} {w0:World} {T N:Nat->Prop} {S:St} {g:Gh} {w w':World} {a:Act} {o:Oper} {G:yU} {uid:th} {en en':List (th×Entry)}

theorem IA {z:Array Value} (hz:0<z.size):∀k,(madeCells z (k*z.size)).toList=(List.replicate k z.toList).flatten
 | 0=>by simp[madeCells]
 | k+1=>by
  have ih:=IA hz k;simp only[madeCells,Array.toList_map,Array.toList_range]at ih ⊢;rw[Nat.succ_mul,List.range_add,map_append,ih,List.replicate_succ',List.flatten_append];simp only[List.flatten_cons,List.flatten_nil,append_nil,List.map_map]
  congr 1
  apply List.ext_getElem
  · simp
  · intro q h1 h2;simp only[List.length_map,List.length_range]at h1;simp[Nat.mod_eq_of_lt h1,Nat.add_comm,Nat.mul_comm k,Nat.add_mul_mod_self_left,h1]
theorem Ii {e:Cs} {x:e.den} {D4:List Value} (h:Cs.Rep w e x D4 []):∀k,xt e.len (Cs.Rep w e) (List.replicate k x) (List.replicate k D4).flatten []
 | 0=>⟨rfl,rfl⟩
 | k+1=>⟨D4,(List.replicate k D4).flatten,[],[],by simp[List.replicate_succ],h.length,rfl,h,Ii h k⟩
theorem C6 {i:xD} {k:Rd y8} {e:y8} {L:List th} {F:th->Option Entry} (h:(LP i k).Runs F e L):∃f,i.agg=false/\i.cs=.one (.sl f)/\k.Runs F e L:=by
 unfold LP at h;split at h
 · rename_i f ha hc;exact⟨f,ha,hc,h⟩
 · exact h.elim
theorem Nw (h:xR w0 T N S g w a) (hT:zG P G.ti) {t:TypeId} {n m:Tmp} (ho:o.op=.makeSlice t (.tmp n) (.tmp m)) {e:y8} {L:List th} (hr:(Ai G uid S.eval (.makeSlice t (.tmp n) (.tmp m))).Runs (wW S.en) e L):xS P w0 T N S g w a o e:=by
 replace hr:=xY hr;obtain⟨i,hi,hr⟩:=hr;replace hr:=C6 hr;obtain⟨f,ha,hc,hr⟩:=hr;replace hr:=xY hr;obtain⟨j,hj,hr⟩:=hr;cases hb:Nat.beq n m with
 | false=>rw[hb]at hr;exact hr.elim
 | true =>
  rw[hb]at hr;obtain rfl:=Nat.eq_of_beq_eq_true hb;replace hr:(match S.eval (.tmp n)with | .cell (.int _ n)=>Rd.opt (Cp n) λm=>CZ (.cell (.own uid)) [(uid,.root j.cs true (List.replicate m j.cs.zero))] []|_=>.fail).Runs (wW S.en) e L:=hr;split at hr
  · rename_i k q e1;have hq:a.eval (.tmp n)=.int k q:=Do h e1
    obtain⟨l,hl,hr⟩:=hr;obtain⟨rfl,_,hn⟩:=Az hr;have hn:=hn _ (mem_singleton.2 rfl)
    obtain⟨hu,j',d,u,z,hj',hjc,hf⟩:=BP hT hi ha hc;rw[hj]at hj';cases hj';unfold Cp at hl;split at hl
    · rename_i h0;split at hl
      · rename_i h1;cases hl;have hzl:z.cells.size=j.cs.len:=(hf.zrep w).length
        have hpos:0<z.cells.size:=by rw[hzl];exact j.cs.len_pos
        have hsz:d.size=z.cells.size:=by rw[hf.size,hzl]
        have hby:=hf.bytes;have h1':q<=4294967296:=h1
        have hrun:=run_make (P:=P) w t i.elem d z hu hf.info hf.zero k k q q h0 (Int.le_refl _) (by
         have:(d.bytes:Int)*q<=8192*4294967296:=Int.mul_le_mul (by omega) h1' h0 (by omega);omega) (by omega)
        rw[hsz]at hrun;obtain⟨hM,hle⟩:=h.ms.alloc (.cells (madeCells z.cells (q.toNat*z.cells.size)) i.elem);have hlist:=IA hpos q.toNat
        obtain⟨hM2,hle2⟩:=hM.root (n:=uid) (e:=j.cs) (m:=true) (xs:=List.replicate q.toNat j.cs.zero) (b:=w.heap.size) (off:=0) (cap:=q.toNat) (us:=(madeCells z.cells (q.toNat*z.cells.size)).toList)
         (vs:=(madeCells z.cells (q.toNat*z.cells.size)).toList) (F:=[]) hn h.ms.free (by simp) (G8 w _ _) (by simp[size_madeCells,hzl]) (by rw[drop_zero];exact List.take_length) (by rw[hlist];exact Ii (hf.zrep _) _) (by simp) (by simp)
        refine⟨_,_,_,.inl ?_,hM2,hle.trans hle2,⟨yz.2 (.inl rfl),rfl⟩⟩;simp only[execOp,ho,hq,Sem.run_bind,hrun,Result.andThen,Sem.run_pure,Gh.set,if_true,List.length_replicate]
      · cases hl
    · cases hl
  · exact hr.elim

theorem Rt {us vals:List Value} {o:Nat} (h:o+vals.length<=us.length) (k:Nat):(yy us o vals)[k]?=if o<=k/\k<o+vals.length then vals[k-o]? else us[k]?:=by
 simp only[yy];by_cases hk:o<=k/\k<o+vals.length
 · rw[if_pos hk,append_assoc,List.getElem?_append_right (by rw[length_take];omega),length_take,List.getElem?_append_left (by omega)]
   congr 1;omega
 · rw[if_neg hk];by_cases hlt:k<o
   · rw[append_assoc,List.getElem?_append_left (by rw[length_take];omega),List.getElem?_take_of_lt hlt]
   · rw[List.getElem?_append_right (by simp;omega),List.getElem?_drop]
     congr 1;simp;omega
def D4 (us:List Value) (sz j:Nat):List Value:=(us.drop (j*sz)).take sz
theorem Ps (us:List Value) (sz j q:Nat) (h:q<sz):(D4 us sz j)[q]?=us[j*sz+q]?:=by
 unfold D4;rw[List.getElem?_take_of_lt h,List.getElem?_drop]
theorem KL {us:List Value} {sz n j:Nat} (h:us.length=n*sz) (hj:j<n):(D4 us sz j).length=sz:=by
 unfold D4;have:j*sz+sz<=n*sz:=by rw[←Nat.succ_mul];exact Nat.mul_le_mul_right _ hj
 rw[length_take,length_drop];omega
theorem Ru {us vals:List Value} {sz n i j:Nat} (h:us.length=n*sz) (hi:i<n) (hj:j<n) (hv:vals.length=sz):D4 (yy us (i*sz) vals) sz j=if j=i then vals else D4 us sz j:=by
 have hin:i*sz+sz<=n*sz:=by rw[←Nat.succ_mul];exact Nat.mul_le_mul_right _ hi
 have hl:(yy us (i*sz) vals).length=n*sz:=by rw[BY (by omega)];exact h
 have h1:=KL hl hj;have h2:=KL h hj
 apply List.ext_getElem?;intro q;by_cases hq:q<sz
 · rw[Ps _ _ _ _ hq,Rt (by omega)];by_cases hji:j=i
   · subst hji;rw[if_pos (by omega),if_pos rfl];congr 1;omega
   · rw[if_neg hji,Ps _ _ _ _ hq,if_neg];intro hc;rcases Nat.lt_or_gt_of_ne hji with hlt|hgt
     · have:j*sz+sz<=i*sz:=by rw[←Nat.succ_mul];exact Nat.mul_le_mul_right _ hlt
       omega
     · have:i*sz+sz<=j*sz:=by rw[←Nat.succ_mul];exact Nat.mul_le_mul_right _ hgt
       omega
 · rw[List.getElem?_eq_none (by omega),List.getElem?_eq_none];split<;>omega
theorem Mu:∀{l:List (Nat×AV)} {n i j:Nat},CI n i l=true->j<i->wW l j=none
 | [],_,_,_,_,_=>rfl
 | (k,v)::l,n,i,j,h,hj=>by
  simp only[CI,aT]at h;have:=BX h.1.1
  rw[yb (by omega)];exact Mu h.2 (by omega)
theorem Mv (h:xR w0 T N S g w a) {sz n:Nat} (hsz:0<sz):∀(parts:List (Nat×Operand)) (i:Nat) (c0:Nat->List Cell) (cells:Array Value),CI n i (parts.map λp=>(p.1,S.eval p.2))=true ->
 ((parts.map λp=>(p.1,S.eval p.2)).all λp=>Nat.beq p.2.cells.length sz&&zj p.2.cells)=true->cells.size=n*sz->(∀j,j<n->xn (xd (dom S.en) g w) (c0 j) (D4 cells.toList sz j)) ->
 ∃cells',Instr.fill (λi=>some (i*sz,sz)) cells (parts.map λp=>(p.1,a.eval p.2))=some cells'/\cells'.size=n*sz /\
  ∀j,j<n->xn (xd (dom S.en) g w) (match wW (parts.map λp=>(p.1,S.eval p.2)) j with|some v=>v.cells|none=>c0 j) (D4 cells'.toList sz j)
 | [],i,c0,cells,_,_,hs,hc=>⟨cells,rfl,hs,hc⟩
 | (k,x)::parts,i,c0,cells,hp,hall,hs,hc=>by
  simp only[map_cons,CI,aT,List.all_cons]at hp hall;obtain⟨⟨hp1,hp2⟩,hp3⟩:=hp;obtain⟨⟨hl,hu⟩,hall⟩:=hall;have hl:=Nat.eq_of_beq_eq_true hl
  have hk:k<n:=BX hp2;have hne:(S.eval x).cells≠[]:=λe=>by rw[e]at hl;simp at hl;omega
  obtain⟨hv,_⟩:=cells_rep h.mem (yd h x) hu hne;have hvs:(a.eval x).cells.toList.length=sz:=by rw[←hv.length];exact hl
  have hin:k*sz+sz<=n*sz:=by rw[←Nat.succ_mul];exact Nat.mul_le_mul_right _ hk
  obtain⟨cells1,k1,k2,k3⟩:=Ms (λi=>some (i*sz,sz)) cells k (a.eval x) (parts.map λp=>(p.1,a.eval p.2)) (off:=k*sz) (size:=sz) rfl (by simpa using hvs) (by
   have:(a.eval x).cells.size=sz:=by simpa using hvs
   omega)
  obtain⟨cells',j1,j2,j3⟩:=Mv h hsz parts (k+1) (λj=>if j=k then (S.eval x).cells else c0 j) cells1 hp3 hall (by rw[k3];exact hs) (λj hj=>by
   rw[k2,Ru (by simpa using hs) hk hj hvs];by_cases he:j=k
   · simp only[if_pos he];exact hv
   · simp only[if_neg he];exact hc j hj)
  refine⟨cells',by rw[map_cons,k1,j1],j2,λj hj=>?_⟩;have:=j3 j hj
  simp only[map_cons,xr];by_cases he:j=k
  · subst he;rw[Mu hp3 (Nat.lt_succ_self _)]at this;simpa using this
  · simp only[if_neg (Ne.symm he)];simp only[if_neg he]at this;exact this
theorem Nx (us:List Value) (sz i n:Nat):(us.drop (i*sz)).take ((n+1)*sz)=D4 us sz i++(us.drop ((i+1)*sz)).take (n*sz):=by
 unfold D4;rw[Nat.succ_mul,Nat.add_comm (n*sz),List.take_add,drop_drop,Nat.succ_mul]
theorem Mw (hm:zv en g w) {e:Cs} {parts:List (Nat×AV)} {us:List Value}:∀{n i:Nat} {y:List e.den×List (th×Entry)} {L:List th},(∀j,i<=j->j<i+n->xn (xd (dom en) g w) (HC e parts j) (D4 us e.len j)) ->
 (G5 e true parts n i).Runs (wW en) y L->(∃F,xt e.len (Cs.Rep w e) y.1 ((us.drop (i*e.len)).take (n*e.len)) F/\∀b,F.count b<=((y.2.map (·.1)).flatMap (ze g)).count b)/\xJ en true true y.2/\y.1.length=n
 | 0,i,y,L,_,hr=>by
  obtain⟨rfl,_⟩:=hr;exact⟨⟨[],⟨by simp,rfl⟩,by simp⟩,by simp[xJ],rfl⟩
 | n+1,i,y,L,hc,hr=>by
  simp only[G5]at hr;obtain⟨p,L1,L2,_,h1,hr⟩:=Rd.runs_bind hr;obtain⟨q,L3,L4,_,h2,hr⟩:=Rd.runs_bind hr;obtain⟨rfl,_⟩:=hr;have hci:=hc i (Nat.le_refl _) (by omega)
  obtain⟨k1,k2⟩:=Cs.into_own hm hci h1;obtain⟨⟨F,k3,k4⟩,k5,k6⟩:=Mw hm (n:=n) (i:=i+1) (λj h1 h2=>hc j (by omega) (by omega)) h2;refine⟨⟨(p.2.map (·.1)).flatMap (ze g)++F,?_,λb=>?_⟩,k2.append k5,by simp[k6]⟩
  · rw[Nx];exact⟨_,_,_,_,rfl,k1.rep.length,rfl,k1.rep,k3⟩
  · have:=k4 b;simp only[AN,map_append,List.flatMap_append];omega
theorem IB (hm:zv en g w) {e:Cs} {parts:List (Nat×AV)} {us:List Value}:∀{n i:Nat} {y:List e.den×List (th×Entry)} {L:List th},(∀j,i<=j->j<i+n->xn (xd (dom en) g w) (HC e parts j) (D4 us e.len j)) ->
 (G5 e false parts n i).Runs (wW en) y L->(∃F,xt e.len (Cs.Rep w e) y.1 ((us.drop (i*e.len)).take (n*e.len)) F/\∀b∈F,g.I b\/BS en g b (y.2.map (·.1)))/\xJ en false true y.2/\y.1.length=n
 | 0,i,y,L,_,hr=>by
  obtain⟨rfl,_⟩:=hr;exact⟨⟨[],⟨by simp,rfl⟩,by simp⟩,by simp[xJ],rfl⟩
 | n+1,i,y,L,hc,hr=>by
  simp only[G5]at hr;obtain⟨p,L1,L2,_,h1,hr⟩:=Rd.runs_bind hr;obtain⟨q,L3,L4,_,h2,hr⟩:=Rd.runs_bind hr;obtain⟨rfl,_⟩:=hr;have hci:=hc i (Nat.le_refl _) (by omega)
  obtain⟨⟨F0,k1,k0⟩,k2⟩:=Cs.into_shared hm hci h1;obtain⟨⟨F,k3,k4⟩,k5,k6⟩:=IB hm (n:=n) (i:=i+1) (λj h1 h2=>hc j (by omega) (by omega)) h2;refine⟨⟨F0++F,?_,λb hb=>?_⟩,k2.append k5,by simp[k6]⟩
  · rw[Nx];exact⟨_,_,_,_,rfl,k1.length,rfl,k1,k3⟩
  · rcases mem_append.1 hb with hb|hb
    · exact (k0 b hb).imp id λh=>h.mono (by simp +contextual)
    · exact (k4 b hb).imp id λh=>h.mono (by simp +contextual)
structure VL (w0:World) (T N:Nat->Prop) (en:List (th×Entry)) (g:Gh) (w:World) (m:Bool) (used:List (th×Entry)) (F:List Nat):Prop where
 ok:xJ en m true used
 imm:∀b∈F,g.I b\/BS en g b (used.map (·.1))
 once:m=true->DL F/\∀b∈F,b∈(used.map (·.1)).flatMap (ze g)
theorem MS.fedRoot (h:MS w0 T N en g w) {n:th} {e:Cs} {m:Bool} {xs:List e.den} {b off cap:Nat} {us vs:List Value} {F:List Nat} {used:List (th×Entry)} (hfed:VL w0 T N en g w m used F) (hd:xm used=true)
 (hn:wW en n=none) {c:Array Value} {t:TypeId} (hc:us=c.toList) (hcap:xs.length<=cap) (hsize:off+cap*e.len<=us.length) (hrow:(us.drop off).take vs.length=vs) (hL:xt e.len (Cs.Rep w e) xs vs F) :
 ∃g',MS w0 T N ((n,.root e m xs)::(used++en)) g' (w.alloc (.cells c t))/\Le (dom en) g w (dom ((n,.root e m xs)::(used++en))) g' (w.alloc (.cells c t))/\g'.loc n=.slice (some ⟨w.heap.size,off,none⟩) xs.length cap:=by
 obtain⟨g1,hM,hle,f1,f2,f3,f4,fI⟩:=h.useAll hfed.ok.shallow hd;have hnu:n∉used.map (·.1):=λhm=>by
  obtain⟨p,hp,rfl⟩:=mem_map.1 hm;exact KH hfed.ok hp hn
 obtain⟨hM2,hle2⟩:=hM.alloc (.cells c t);have hI:∀b∈F,g1.I b:=λb hb=>(fI b).2 (hfed.imm b hb)
 obtain⟨hM3,hle3⟩:=hM2.root (n:=n) (e:=e) (m:=m) (xs:=xs) (b:=w.heap.size) (off:=off) (cap:=cap) (us:=us) (vs:=vs) (F:=F) ((xV hnu).trans hn) hM.free hcap (by rw[hc];exact G8 w c t) hsize hrow
  (hL.imp λx v Gs _ hGs hr=>Cs.Rep.of_same (λc hc=>hle2.mem c (hI c (hGs c hc))) hr) hI (λhm=>by
   obtain⟨j1,j2⟩:=hfed.once hm;refine⟨yC.1 j1,λb hb=>?_⟩;have hok:=hfed.ok
   rw[hm]at hok;obtain⟨j4,j5⟩:=EO h hok (j2 b hb);refine⟨λk f hk hfd=>?_,j5⟩;rw[f4];by_cases hin:k∈used.map (·.1)
   · rw[(CP hfed.ok hd hin hk).1]at hfd;cases hfd
   · rw[xV hin]at hk;exact j4 k f hk hfd hin)
 exact⟨_,hM3,(hle.trans hle2).trans hle3,by simp[Gh.set]⟩
theorem Qo (hm:zv en g w) {used:List (th×Entry)} {F:List Nat} (hok:xJ en true true used) (hd:xm used=true) (hc:∀b,F.count b<=((used.map (·.1)).flatMap (ze g)).count b) :
 VL w0 T N en g w true used F :=
 ⟨hok,λb hb=>Pr hm hok (A0 hb hc),λ_=>⟨CO (DM hm hok hd).1 hc,λb hb=>A0 hb hc⟩⟩
theorem MW (h:xR w0 T N S g w a) (hT:zG P G.ti) {t:TypeId} {n:Nat} {parts:Array (Nat×Operand)} (ho:o.op=.buildSlice t n parts) {e:y8} {L:List th} (hr:(Ai G uid S.eval (.buildSlice t n parts)).Runs (wW S.en) e L)
 : xS P w0 T N S g w a o e:=by
 replace hr:=xY hr;obtain⟨i,hi,hr⟩:=hr;replace hr:=C6 hr;obtain⟨f,ha,hc,hr⟩:=hr;replace hr:=xY hr;obtain⟨j,hj,hr⟩:=hr;obtain⟨hu,j',d,u,z,hj',hjc,hf⟩:=BP hT hi ha hc;rw[hj]at hj';cases hj';subst hjc;unfold D8 at hr;generalize hpl:(parts.toList.map λp=>(p.1,S.eval p.2))=pl at hr;cases hk:(Nat.ble (n*j.cs.len) 16777216&&CI n 0 pl&&pl.all λp=>Nat.beq p.2.cells.length j.cs.len&&zj p.2.cells)with
 | false=>rw[hk]at hr;exact hr.elim
 | true =>
  rw[hk]at hr;simp only[aT]at hk;obtain⟨⟨hk1,hk2⟩,hk3⟩:=hk;obtain⟨y,L1,L2,_,h1,hr⟩:=Rd.runs_bind hr;obtain⟨_,L3,L4,_,hd,hr⟩:=Rd.runs_bind hr;have hd:=(Rd.runs_need hd).1
  obtain⟨rfl,_,hn⟩:=Az hr;have hn:=hn _ (mem_singleton.2 rfl)
  have hzl:z.cells.size=j.cs.len:=(hf.zrep w).length;have hpos:0<z.cells.size:=by rw[hzl];exact j.cs.len_pos
  have hsz:d.size=z.cells.size:=by rw[hf.size,hzl]
  obtain⟨cells,k1,k2,k3⟩:=Mv h (sz:=j.cs.len) (n:=n) j.cs.len_pos parts.toList 0 (λ_=>j.cs.zeroCells) (madeCells z.cells (n*z.cells.size)) (by rw[hpl];exact hk2) (by rw[hpl];exact hk3) (by rw[size_madeCells,hzl]) (λq hq=>by
   have hz:D4 (madeCells z.cells (n*z.cells.size)).toList j.cs.len q=z.cells.toList:=by
    rw[IA hpos];have hrep:∀(n q:Nat),q<n->D4 (List.replicate n z.cells.toList).flatten j.cs.len q=z.cells.toList:=by
     intro n
     induction n with
     | zero=>intro q hq;omega
     | succ n ih =>
      intro q hq;have hlen:z.cells.toList.length=j.cs.len:=by simpa using hzl
      unfold D4 at ih ⊢;rw[List.replicate_succ,List.flatten_cons];cases q with
      | zero=>rw[Nat.zero_mul,drop_zero,←hlen,take_left]
      | succ q =>
       rw[Nat.succ_mul,drop_append,drop_of_length_le (by omega),nil_append,show q*j.cs.len+j.cs.len-z.cells.toList.length=q*j.cs.len by omega];exact ih q (by omega)
    exact hrep n q hq
   rw[hz];exact Da hf.zok)
  rw[hpl]at k3;have hrows:∀q,0<=q->q<0+n->xn (xd (dom S.en) g w) (HC j.cs pl q) (D4 cells.toList j.cs.len q):=λq _ hq=>k3 q (by omega)
  have htake:(cells.toList.drop (0*j.cs.len)).take (n*j.cs.len)=cells.toList:=by
   rw[Nat.zero_mul,drop_zero,←k2];exact List.take_length
  have key:∃F,xt j.cs.len (Cs.Rep w j.cs) y.1 cells.toList F/\VL w0 T N S.en g w (HD pl) y.2 F/\y.1.length=n:=by
   cases hm:HD pl with
   | true =>
    rw[hm]at h1;obtain⟨⟨F,j1,j2⟩,j3,j4⟩:=Mw h.mem hrows h1;rw[htake]at j1;exact⟨F,j1,Qo h.mem j3 hd j2,j4⟩
   | false =>
    rw[hm]at h1;obtain⟨⟨F,j1,j2⟩,j3,j4⟩:=IB h.mem hrows h1;rw[htake]at j1;exact⟨F,j1,⟨j3,j2,λh=>by cases h⟩,j4⟩
  obtain⟨F,j1,j2,j3⟩:=key;obtain⟨g',hM,hle,hloc⟩:=h.ms.fedRoot (n:=uid) (b:=0) (off:=0) (cap:=n) (c:=cells) (t:=i.elem) j2 hd hn rfl (by omega) (by simp[k2]) (by rw[drop_zero];exact List.take_length) j1;refine⟨_,_,_,.inl ?_,hM,hle,⟨yz.2 (.inl rfl),rfl⟩⟩;rw[hloc,j3];have hsmall:¬n*d.size>2^24:=by have:=BX hk1;rw[hsz,hzl];omega
  have hfill:Instr.fill (λi=>some (i*d.size,d.size)) ((Array.range (n*d.size)).map (z.cells[· % z.cells.size]!)) (parts.map λp=>(p.1,a.eval p.2)).toList=some cells:=by
   rw[Array.toList_map,hsz];rw[←hzl]at k1;exact k1
  simp only[execOp,ho,Sem.run_bind];by_cases h0:n*d.size=0
  · have hn0:n=0:=by
     rcases Nat.mul_eq_zero.1 h0 with h|h
     · exact h
     · rw[hsz]at h;omega
    subst hn0;have hp0:parts = #[]:=by
     cases hpp:parts.toList with
     | nil=>exact Array.toList_eq_nil_iff.1 hpp
     | cons p ps =>
      rw[hpp]at hpl;subst hpl;simp[CI]at hk2
    subst hp0;have hc0:cells = #[]:=by
     apply Array.eq_empty_of_size_eq_zero;simpa using k2
    subst hc0;simp[Instr.buildSlice,run_underlying hu,sizeOf,typeInfo,hf.info,Instr.fill,newRow,Result.andThen];exact congrArg (λc=>w.alloc (.cells c i.elem)) (show (Array.range 0).map (λ_=>(default:Value)) = #[]from by apply Array.ext';simp)
  · rw[run_buildSlice w t i.elem n _ cells d z hu hf.info hf.zero hsmall h0 hfill];rfl
end Go.V
namespace Go.V
variable {P:Program} {w0:World} {T N:Nat->Prop} {S:St} {g:Gh} {w w':World} {a:Act} {o:Oper} {G:yU} {uid:th} {en en':List (th×Entry)}

theorem xt.split {α:Type} {n:Nat} {R:α->List Value->List Nat->Prop}:∀(k:Nat) {xs:List α} {vs:List Value} {F:List Nat},xt n R xs vs F ->
 ∃F1 F2,F=F1++F2/\xt n R (xs.take k) (vs.take (k*n)) F1/\xt n R (xs.drop k) (vs.drop (k*n)) F2
 | 0,xs,vs,F,h=>⟨[],F,rfl,by simp[xt],by simpa using h⟩
 | k+1,[],vs,F,h=>by
  obtain⟨rfl,rfl⟩:=h;exact⟨[],[],rfl,by simp[xt],by simp[xt]⟩
 | k+1,x::xs,vs,F,h=>by
  obtain⟨v1,v2,F1,F2,rfl,h1,rfl,hr,h⟩:=h;obtain⟨G1,G2,rfl,k1,k2⟩:=h.split k;have e:(k+1)*n=v1.length+k*n:=by rw[h1,Nat.succ_mul,Nat.add_comm]
  refine⟨F1++G1,G2,by simp,?_,?_⟩
  · rw[e,take_append,List.take_of_length_le (l:=v1) (by omega),Nat.add_sub_cancel_left,List.take_succ_cons];exact⟨v1,_,F1,G1,rfl,h1,rfl,hr,k1⟩
  · rw[e,drop_append,drop_of_length_le (l:=v1) (by omega),Nat.add_sub_cancel_left,List.drop_succ_cons];exact k2
theorem CT.Rep.one {c:CT} {x:c.den} {v:Value} {F:List Nat} (h:CT.Rep w c x v F):v.oneCell'=true:=by
 cases c with
 | int=>simp only[CT.Rep]at h;rw[h.1];rfl
 | bool=>simp only[CT.Rep]at h;rw[h.1];rfl
 | str=>simp only[CT.Rep]at h;rw[h.1];rfl
 | err=>simp only[CT.Rep]at h;rcases h with ⟨_,⟨_,rfl⟩|⟨_,_,_,rfl⟩⟩<;>rfl
 | sl e=>obtain⟨_,_,rfl⟩:=Bm h;rfl
theorem Cs.Rep.one:∀{e:Cs} {x:e.den} {vs:List Value} {F:List Nat},Cs.Rep w e x vs F->∀u∈vs,u.oneCell'=true
 | .one c,x,vs,F,h,u,hu=>by
  simp only[Cs.Rep]at h;obtain⟨v,rfl,h⟩:=h;rw[mem_singleton.1 hu];exact h.one
 | .cons c r,x,vs,F,h,u,hu=>by
  simp only[Cs.Rep]at h;obtain⟨v,vs',F1,F2,rfl,rfl,h1,h2⟩:=h;rcases mem_cons.1 hu with rfl|hu
  · exact h1.one
  · exact h2.one u hu
theorem El {e:Cs}:∀{xs:List e.den} {vs:List Value} {F:List Nat},xt e.len (Cs.Rep w e) xs vs F->∀u∈vs,u.oneCell'=true
 | [],vs,F,h,u,hu=>by rw[h.1]at hu;simp at hu
 | x::xs,vs,F,h,u,hu=>by
  obtain⟨v1,v2,F1,F2,rfl,h1,rfl,hr,h⟩:=h;rcases mem_append.1 hu with hu|hu
  · exact hr.one u hu
  · exact El h u hu
theorem CT.Rep.flat {c:CT} (hs:c.isSl=false) {x:c.den} {v:Value} {F:List Nat} (h:CT.Rep w c x v F):F=[]:=by
 cases c with
 | int=>simp only[CT.Rep]at h;exact h.2
 | bool=>simp only[CT.Rep]at h;exact h.2
 | str=>simp only[CT.Rep]at h;exact h.2
 | err=>simp only[CT.Rep]at h;exact h.1
 | sl e=>simp[CT.isSl]at hs
theorem Cs.Rep.flat:∀{e:Cs} (hs:e.hasSl=false) {x:e.den} {vs:List Value} {F:List Nat},Cs.Rep w e x vs F->F=[]
 | .one c,hs,x,vs,F,h=>by simp only[Cs.Rep]at h;obtain⟨v,rfl,h⟩:=h;exact h.flat hs
 | .cons c r,hs,x,vs,F,h=>by
  simp only[Cs.hasSl,Bool.or_eq_false_iff]at hs;simp only[Cs.Rep]at h;obtain⟨v,vs',F1,F2,rfl,rfl,h1,h2⟩:=h;rw[h1.flat hs.1,h2.flat hs.2];rfl
theorem Fq {e:Cs} (hs:e.hasSl=false):∀{xs:List e.den} {vs:List Value} {F:List Nat},xt e.len (Cs.Rep w e) xs vs F->F=[]
 | [],_,_,h=>h.2
 | x::xs,_,_,h=>by
  obtain⟨v1,v2,F1,F2,rfl,h1,rfl,hr,h⟩:=h;rw[hr.flat hs,Fq hs h];rfl

structure Zc (w:World) (en:List (th×Entry)) (g:Gh) (e:Cs) (xs:List e.den) (v:Value) (r:th) (m:Bool) (F:List Nat):Prop where
 ent:∃ys:List e.den,wW en r=some (.root e m ys)
 rep:zw w e xs v (g.top r) F
 Q1:∀b,F.count b<=(g.nest r).count b
theorem IC (hm:zv en g w) {e:Cs} {c:Cell} {v:Value} {y:List e.den×Option Bool×List (th×Entry)} {L:List th} (hc:xd (dom en) g w c v) (hr:(LN e c).Runs (wW en) y L) :
 (v=.slice none 0 0/\y=([],none,[]))\/∃xs r m F,y=(xs,some m,[(r,.gone)])/\Zc w en g e xs v r m F:=by
 cases c<;>try exact hr.elim
 case nil=>obtain⟨rfl,_⟩:=hr;exact .inl ⟨hc,rfl⟩
 case own r =>
  obtain⟨L',rfl,hr⟩:=hr;obtain⟨_,rfl⟩:=hc;cases hn:wW en r with
  | none=>rw[hn]at hr;exact hr.elim
  | some f =>
   rw[hn]at hr;cases f with
   | tree=>exact hr.elim
   | gone=>exact hr.elim
   | box _=>exact hr.elim
   | fwd f ys=>exact hr.elim
   | frz _ _=>exact hr.elim
   | root f m ys =>
    simp only at hr;split at hr
    · rename_i h _;subst h;obtain⟨rfl,_⟩:=hr;obtain⟨_,h2,_⟩:=yM hm hn;exact .inr ⟨ys,r,m,_,rfl,⟨ys,hn⟩,h2,λ_=>Nat.le_refl _⟩
    · exact hr.elim
 case win r lo hi =>
  obtain⟨L',rfl,hr⟩:=hr;obtain⟨_,hlh,ad,len,cap,hloc,hhi,hv⟩:=hc;cases hn:wW en r with
  | none=>rw[hn]at hr;exact hr.elim
  | some f =>
   rw[hn]at hr;cases f with
   | tree=>exact hr.elim
   | gone=>exact hr.elim
   | box _=>exact hr.elim
   | fwd f ys=>exact hr.elim
   | frz _ _=>exact hr.elim
   | root f m ys =>
    simp only at hr;split at hr
    · rename_i h _;subst h;obtain⟨rfl,_⟩:=hr;obtain⟨he,h2,_⟩:=yM hm hn;rw[hloc]at h2;rw[he]at hv;refine .inr ⟨(ys.take hi).drop lo,r,m,?_⟩;rcases h2 with ⟨h1,rfl,h3,h4⟩|⟨b,off,cap',us,vs,h1,h3,h5,h6,h7,h8,h9⟩
      · cases h1;obtain rfl:hi=0:=by omega
        obtain rfl:lo=0:=by omega
        exact⟨[],rfl,⟨[],hn⟩,.inl ⟨by simpa using hv,by simp,h3,rfl⟩,by simp⟩
      · cases h1;have hlen:((ys.take hi).drop lo).length=hi-lo:=by simp;omega
        obtain⟨F1,F2,e1,k1,k2⟩:=h9.split hi;obtain⟨F3,F4,e3,k3,k4⟩:=k1.split lo;have hvs:=h9.length
        refine⟨F4,rfl,⟨ys,hn⟩,.inr ⟨b,if cap=lo then off else off+lo*f.len,cap-lo,us,(vs.take (hi*f.len)).drop (lo*f.len),?_,h3,?_,h6,?_,?_,k4⟩,λc=>by rw[e1,e3];simp only[AN];omega⟩
        · rw[hlen,hv];split
          · rfl
          · simp only[Option.map_some,zM]
        · omega
        · split
          · rename_i e;subst e;simp;omega
          · have:(cap-lo)*f.len+lo*f.len=cap*f.len:=by rw[←Nat.add_mul];congr 1;omega
            omega
        · have key:=He us vs off (lo*f.len) (hi*f.len) h8 (Nat.mul_le_mul_right _ hlh) (by rw[hvs];exact Nat.mul_le_mul_right _ hhi);split
          · rename_i e;subst e;obtain rfl:hi=cap:=by omega
            have e0:(vs.take (hi*f.len)).drop (hi*f.len)=[]:=drop_of_length_le (by rw[length_take];omega);rw[e0];simp
          · exact key
    · exact hr.elim

theorem Ny (hT:zG P G.ti) {tx:TypeId} {e':TypeId} (hu:P.underlying tx=some (.slice e')) {e:Cs} {ys:List e.den} {v:Value} {F:List Nat} (h:CT.Rep w (.sl e) ys v F) :
 ∃news F',Src P e.len tx v ys.length news w/\xt e.len (Cs.Rep w e) ys news F'/\∀b∈F',b∈F:=by
 rw[zN]at h;rcases h with ⟨⟨a,rfl⟩,rfl,rfl⟩|⟨b,off,cap,vs,F',rfl,rfl,_,_,hr,hL⟩
 · cases a with
   | none=>exact⟨[],[],Src.ofNil w hu 0,⟨rfl,rfl⟩,by simp⟩
   | some a=>exact⟨[],[],Src.ofSlice w hu a 0 0 [] (by simp) (by simp) (by simp),⟨rfl,rfl⟩,by simp⟩
 · exact⟨vs,F',Src.ofSlice w hu ⟨b,off,none⟩ ys.length cap vs hL.length (λj u hj=>by rw[zM];exact De hr j u hj) (El hL),hL,λb hb=>by simp[hb]⟩
theorem T0 (hT:zG P G.ti) {tx:TypeId} {e':TypeId} (hu:P.underlying tx=some (.slice e')) {e:Cs} {ys:List e.den} {v:Value} {F:List Nat} (h:slRep w e.len (Cs.Rep w e) ys v F) :
 ∃news,Src P e.len tx v ys.length news w/\xt e.len (Cs.Rep w e) ys news F.tail:=by
 rcases h with ⟨⟨a,rfl⟩,rfl,rfl⟩|⟨b,off,cap,vs,F',rfl,rfl,_,_,hr,hL⟩
 · cases a with
   | none=>exact⟨[],Src.ofNil w hu 0,⟨rfl,rfl⟩⟩
   | some a=>exact⟨[],Src.ofSlice w hu a 0 0 [] (by simp) (by simp) (by simp),⟨rfl,rfl⟩⟩
 · exact⟨vs,Src.ofSlice w hu ⟨b,off,none⟩ ys.length cap vs hL.length (λj u hj=>by rw[zM];exact De hr j u hj) (El hL),hL⟩
theorem Nz (hT:zG P G.ti) {tx:TypeId} {e':TypeId} (hu:P.underlying tx=some (.slice e')) {e:Cs} {ys:List e.den} {v:Value} {tp:Option Nat} {F:List Nat} (h:zw w e ys v tp F) :
 ∃news,Src P e.len tx v ys.length news w/\xt e.len (Cs.Rep w e) ys news F:=by
 rcases h with ⟨rfl,rfl,rfl,rfl⟩|⟨b,off,cap,us,vs,rfl,rfl,_,h4,_,h6,hL⟩
 · exact⟨[],Src.ofNil w hu 0,rfl,rfl⟩
 · exact⟨vs,Src.ofSlice w hu ⟨b,off,none⟩ ys.length cap vs hL.length (λj u hj=>by rw[zM];exact De (h4.row_at h6) j u hj) (El hL),hL⟩
theorem Rv (hm:zv en g w) (hT:zG P G.ti) {tx:TypeId} {e':TypeId} (hu:P.underlying tx=some (.slice e')) {e:Cs} {c:Cell} {v:Value} {y:List e.den×Option Bool×List (th×Entry)} {L:List th} (hc:xd (dom en) g w c v) (hr:(Ni e c).Runs (wW en) y L) :
 ∃news F,Src P e.len tx v y.1.length news w/\xt e.len (Cs.Rep w e) y.1 news F/\xJ en false true y.2.2/\(∀b∈F,g.I b\/BS en g b (y.2.2.map (·.1))) /\
  (y.2.1=some true->xJ en true true y.2.2/\∀b,F.count b<=((y.2.2.map (·.1)).flatMap (ze g)).count b)/\(y.2.1=none->F=[]/\y.2.2=[]):=by
 unfold Ni at hr;cases hs:e.hasSl with
 | false =>
  rw[hs]at hr;obtain⟨xs,L1,L2,_,h1,h2⟩:=Rd.runs_bind hr;obtain⟨rfl,_⟩:=h2;obtain⟨F,hF,_⟩:=GP hm hc h1;obtain⟨news,F',k1,k2,_⟩:=Ny hT hu hF;obtain rfl:=Fq hs k2;exact⟨news,[],k1,k2,by simp[xJ],by simp,(λh=>by cases h),λ_=>⟨rfl,rfl⟩⟩
 | true =>
  rw[hs]at hr;simp only[cT]at hr;cases c<;>try exact hr.elim
  case nil =>
   obtain⟨rfl,_⟩:=hr;obtain rfl:v=.slice none 0 0:=hc;exact⟨[],[],Src.ofNil w hu 0,⟨rfl,rfl⟩,by simp[xJ],by simp,(λh=>by cases h),λ_=>⟨rfl,rfl⟩⟩
  case sh f xs =>
   simp only at hr;split at hr
   · rename_i h _;subst h;obtain⟨rfl,_⟩:=hr;obtain⟨F,hF,hI⟩:=hc;obtain⟨news,F',k1,k2,k3⟩:=Ny hT hu hF;exact⟨news,F',k1,k2,by simp[xJ],λb hb=>.inl (hI b (k3 b hb)),(λh=>by cases h),(λh=>by cases h)⟩
   · exact hr.elim
  case win r lo hi =>
   obtain⟨L',rfl,hr⟩:=hr;obtain⟨_,h1,a,len,cap,hl,h2,rfl⟩:=hc;cases hn:wW en r with
   | none=>rw[hn]at hr;exact hr.elim
   | some f =>
    rw[hn]at hr;cases f with
    | tree=>exact hr.elim
    | gone=>exact hr.elim
    | box _=>exact hr.elim
    | fwd f ys=>exact hr.elim
    | frz _ _=>exact hr.elim
    | root f m ys =>
     simp only at hr;split at hr
     · rename_i h _;subst h;obtain⟨rfl,_⟩:=hr;obtain⟨he,h3,h4,_⟩:=yM hm hn;have h5:=h3.slRep
       rw[hl]at h5;obtain⟨G',hG,_,hs'⟩:=h5.cut2 h1 h2;obtain⟨news,k1,k2⟩:=T0 hT hu hG;refine⟨news,G'.tail,by rw[he];exact k1,k2,by simp[xJ],λb hb=>.inl (h4 b ?_),(λh=>by cases h),(λh=>by cases h)⟩;have:=hs' b hb
       cases ht:g.top r with
       | none=>rw[ht]at this;exact List.mem_of_mem_tail (by simpa using this)
       | some t=>rw[ht]at this;simpa using this
     · exact hr.elim
  case own r =>
   obtain⟨L',rfl,hr⟩:=hr;obtain⟨_,rfl⟩:=hc;cases hn:wW en r with
   | none=>rw[hn]at hr;exact hr.elim
   | some f =>
    rw[hn]at hr;cases f with
    | tree=>exact hr.elim
    | gone=>exact hr.elim
    | box _=>exact hr.elim
    | frz _ _=>exact hr.elim
    | fwd f ys =>
     simp only at hr;split at hr
     · rename_i h _;subst h;obtain⟨rfl,_⟩:=hr;obtain⟨F,hF,hI⟩:=hm.rep r _ hn;obtain⟨news,F',k1,k2,k3⟩:=Ny hT hu hF;exact⟨news,F',k1,k2,by simp[xJ],λb hb=>.inl (hI b (k3 b hb)),(λh=>by cases h),(λh=>by cases h)⟩
     · exact hr.elim
    | root f m ys =>
     simp only at hr;split at hr
     · rename_i h _;subst h;obtain⟨rfl,_⟩:=hr;obtain⟨_,h2,hI,_⟩:=yM hm hn;obtain⟨news,k1,k2⟩:=Nz hT hu h2;refine⟨news,_,k1,k2,?_,λb hb=>.inl (hI b hb),λh=>?_,(λh=>by cases h)⟩
       · intro p hp;obtain rfl:=mem_singleton.1 hp;exact .inl ⟨f,m,ys,hn,(λh=>by cases h),rfl⟩
       · obtain rfl:m=true:=by cases h;rfl
         refine⟨λp hp=>?_,λb=>?_⟩
         · obtain rfl:=mem_singleton.1 hp;exact .inl ⟨f,true,ys,hn,λ_=>rfl,rfl⟩
         · simp only[map_cons,map_nil,List.flatMap_cons,List.flatMap_nil,append_nil,ze,AN];omega
     · exact hr.elim
end Go.V
namespace Go.V
variable {P:Program} {w0:World} {T N:Nat->Prop} {S:St} {g:Gh} {w w':World} {a:Act} {o:Oper} {G:yU} {uid:th} {en en':List (th×Entry)}

theorem MS.wrote (h:MS w0 T N en g w) {b:Nat} (hb:LQ w0 T en g b) {us:List Value} (hw:Qk w w' b us):MS w0 T N en g w'/\Le (dom en) g w (dom en) g w' :=
 h.world (λc hc=>hw.rest c λe=>hb.imm (e▸hc)) (λm f c hm ha hc=>hw.rest c λe=>hb.top m f hm ha (e▸hc)) hw.os hw.out hw.tape (by rw[hw.size];exact Nat.le_refl _)
  (λc hc hT=>hw.rest c λe=>by subst e;rcases hb.own with k|k;omega;exact hT k)
  (λm f c hm ht hc=>hw.rest c λe=>hb.wood m f hm ht (e▸hc)) (λc hc=>by
   by_cases e:c=b
   · subst e;exact hw.cells.soft
   · exact (h.since.soft c hc).of_same (hw.rest c e))
theorem MS.rootNil (h:MS w0 T N en g w) {n:th} (hn:wW en n=none) (e:Cs) (m:Bool) :
 MS w0 T N ((n,.root e m [])::en) (g.set n ⟨.slice none 0 0,e.len,none,[]⟩) w/\Le (dom en) g w (dom ((n,.root e m [])::en)) (g.set n ⟨.slice none 0 0,e.len,none,[]⟩) w :=
 h.put (λhd=>absurd hn hd) rfl ⟨by simp[Gh.set],.inl ⟨by simp[Gh.set],rfl,by simp[Gh.set],by simp[Gh.set]⟩,by simp[Gh.set],λ_=>by simp[Gh.set]⟩ (λ_ b hb=>by cases hb) (λ_ b hb=>by simp at hb)
theorem Qp {us vs news:List Value} {off:Nat} (h:(us.drop off).take vs.length=vs) (hl:off+vs.length<=us.length):((yy us (off+vs.length) news).drop off).take (vs++news).length=vs++news:=by
 have hA:(us.take off).length=off:=by rw[length_take];omega
 have e:us.take (off+vs.length)=us.take off++vs:=by rw[List.take_add,h]
 unfold yy;rw[e,append_assoc,append_assoc,drop_append,drop_of_length_le (by omega),hA,Nat.sub_self,drop_zero,nil_append,←append_assoc,take_left]
theorem Jw (z:Array Value) (k:Nat):(Builtin.zeroCells z k).size=k*z.size:=by simp[Builtin.zeroCells]
theorem JB (hM:MS w0 T N en g w) (hT:zG P G.ti) {n:th} (hn:wW en n=none) {e:Cs} {xs ys:List e.den} {v1 v2:Value} {tp:Option Nat} {Fd Fs:List Nat} (hd:zw w e xs v1 tp Fd) (htp:∀b,tp=some b->LQ w0 T en g b)
 {t tx ty el:TypeId} {news:List Value} (hs:Src P e.len tx v2 ys.length news w) (hL:xt e.len (Cs.Rep w e) ys news Fs) (hI:∀b∈Fd++Fs,g.I b) {m:Bool}
 (hm:m=true->(Fd++Fs).Nodup/\∀b∈Fd++Fs,(∀k f,wW en k=some f->f.deep=true->b∉g.nest k)/\(w0.heap.size<=b\/T b\/N b))
 (hu:P.underlying t=some (.slice el)) {j:xD} (hje:j.cs=e) {d:TypeInfo} {u:TypeDesc} {z:Value} (hf:BE P G.ti el j d u z) (hmax:xs.length+ys.length<=GO) :
 ∃v w' g',(Builtin.append_ #[t,tx] ty #[v1,v2]).run P w=.ok v w'/\MS w0 T N ((n,.root e m (xs++ys))::en) g' w'/\Le (dom en) g w (dom ((n,.root e m (xs++ys))::en)) g' w'/\v=g'.loc n:=by
 subst hje;have hmax':xs.length+ys.length<=4294967296:=hmax
 have hby:=hf.bytes;have hzl:z.cells.size=j.cs.len:=(hf.zrep w).length
 have hpos:=j.cs.len_pos;rw[←hf.size]at hs;have hnl:=hs.newsLen
 rw[hf.size]at hnl;have grow:∀(base:Option Addr) (cap:Nat) (vs:List Value),v1=.slice base xs.length cap->cap<xs.length+ys.length->vs.length=xs.length*j.cs.len->xt j.cs.len (Cs.Rep w j.cs) xs vs Fd ->
  (Builtin.firstCells d.size xs.length (.slice base xs.length cap)).run P w.drew=.ok vs.toArray w.drew ->
  ∃v w' g',(Builtin.append_ #[t,tx] ty #[v1,v2]).run P w=.ok v w'/\MS w0 T N ((n,.root j.cs m (xs++ys))::en) g' w'/\Le (dom en) g w (dom ((n,.root j.cs m (xs++ys))::en)) g' w'/\v=g'.loc n:=by
  intro base cap vs hv hg hvl hLd hold;have hrun:=run_append_grow_src (P:=P) w t tx ty el d z hu hf.info hf.zero base xs.length cap vs hold v2 ys.length news hs hg (by omega) (growslice_fits hg (by
   have:(xs.length+ys.length)*d.bytes<=4294967296*8192:=Nat.mul_le_mul hmax' hby;omega))
  have hge:=grownCap_ge w (xs.length+ys.length) cap el;generalize hcap:grownCap w (xs.length+ys.length) cap el=K at hrun hge;obtain⟨h1,l1⟩:=hM.drew;obtain⟨h2,l2⟩:=h1.alloc (.cells ((vs++news).toArray++Builtin.zeroCells z.cells (K-(xs.length+ys.length))) el);have hlist:=(hLd.append hL).imp (R':=Cs.Rep (w.drew.alloc (.cells ((vs++news).toArray++Builtin.zeroCells z.cells (K-(xs.length+ys.length))) el)) j.cs) λx v Gs _ hGs hr=>Cs.Rep.of_same (λc hc=>(l1.trans l2).mem c (hI c (hGs c hc))) hr
  obtain⟨h3,l3⟩:=h2.root (n:=n) (e:=j.cs) (m:=m) (xs:=xs++ys) (b:=w.heap.size) (off:=0) (cap:=K) (us:=((vs++news).toArray++Builtin.zeroCells z.cells (K-(xs.length+ys.length))).toList) (vs:=vs++news) (F:=Fd++Fs)
   hn h1.free (by simpa using hge) (G8 w.drew _ _) (by
    simp only[Array.toList_append,length_append,Array.length_toList,Jw,hvl,hnl,hzl];rw[Nat.zero_add,←Nat.add_mul,←Nat.add_mul];exact Nat.mul_le_mul_right _ (by omega)) (by rw[drop_zero,Array.toList_append];exact take_left) hlist hI (λhmt=>⟨(hm hmt).1,(hm hmt).2⟩)
  refine⟨_,_,_,by rw[hv];exact hrun,h3,(l1.trans l2).trans l3,?_⟩;simp[Gh.set]
 rcases hd with ⟨rfl,rfl,rfl,rfl⟩|⟨b,off,cap,us,vs,rfl,rfl,h3,h4,h5,h6,h7⟩
 · by_cases h0:ys.length=0
   · obtain rfl:=List.length_eq_zero_iff.1 h0;obtain⟨rfl,rfl⟩:=hL;obtain⟨h3,l3⟩:=hM.rootNil hn j.cs m;refine⟨.slice none 0 0,w,_,?_,h3,l3,by simp[Gh.set]⟩;have hlen:=hs.len
     have hcells:=hs.cells;simp only[List.length_nil]at hlen hcells;rcases hs.kind with ⟨e',hk⟩|hk<;>simp[Builtin.append_,run_underlying hu,run_underlying hk,sizeOf,typeInfo,hf.info,hlen,hcells]
   · exact grow none 0 [] rfl (by simp;omega) (by simp) ⟨rfl,rfl⟩ (run_firstCells_none w.drew _ _ _ _)
 · have hvl:=h7.length;by_cases hroom:xs.length+ys.length<=cap
   · have hbig:(xs.length+ys.length)*j.cs.len<=cap*j.cs.len:=Nat.mul_le_mul_right _ hroom;rw[Nat.add_mul]at hbig;obtain⟨c,t',lo,hi,hc,rfl,hfz⟩:=h4;have hin:∀q,q<news.length->off+xs.length*d.size+q<c.size:=λq hq=>by
      rw[hf.size];simp at h5;omega
     have hrun:=run_append_room_src (P:=P) w t tx ty el d hu hf.info b off xs.length cap v2 ys.length news hs hroom (λq hq=>by
      simp only[World.cell?,hc];simpa using hin q hq) (λq hq=>by
      simp only[World.frozen?,hc];have:=hfz.2 _ (hin q hq)
      simp only[Bool.and_eq_false_iff,decide_eq_false_iff_not];omega)
     have hw:=BW news (off+xs.length*d.size) w c.toList ⟨c,t',lo,hi,hc,rfl,hfz⟩ (by rw[hf.size];omega);obtain⟨h1,l1⟩:=hM.wrote (htp b rfl) hw;have hlist:=(h7.append hL).imp (R':=Cs.Rep (w.setCells b (off+xs.length*d.size) news) j.cs) λx v Gs _ hGs hr=>Cs.Rep.of_same (λc hc=>l1.mem c (hI c (hGs c hc))) hr
     have hrow:=Qp (news:=news) h6 (by omega);rw[hvl,←hf.size]at hrow;obtain⟨h2,l2⟩:=h1.root (n:=n) (e:=j.cs) (m:=m) (xs:=xs++ys) (b:=b) (off:=off) (cap:=cap) (vs:=vs++news) (F:=Fd++Fs) hn (htp b rfl) (by simpa using hroom) hw.cells (by
      have:=BY (us:=c.toList) (vs:=news) (o:=off+xs.length*d.size) (by rw[hf.size];omega);unfold yy at this;rw[this];exact h5) hrow hlist hI (λhmt=>⟨(hm hmt).1,(hm hmt).2⟩)
     refine⟨_,_,_,hrun,h2,l1.trans l2,by simp[Gh.set]⟩
   · exact grow _ cap vs rfl (by omega) hvl h7 (run_firstCells_some w.drew d.size xs.length ⟨b,off,none⟩ xs.length cap vs (by rw[hvl,hf.size]) (λq v hq=>by
      rw[zM];have:=De (h4.row_at h6) q v hq
      simpa using this))
theorem MS.goneFree (h:MS w0 T N en g w) {r:th} {E:Entry} (hn:wW en r=some E) (hE:E.alive=true) :
 MS w0 T N ((r,.gone)::en) g w/\Le (dom en) g w (dom ((r,.gone)::en)) g w/\∀b,g.top r=some b->LQ w0 T ((r,.gone)::en) g b:=by
 obtain⟨h1,l1⟩:=h.gone (n:=r) (by unfold dom;rw[hn];simp);refine⟨h1,l1,λb hb=>⟨h.mem.topI r E b hn hE hb,λm f hm ha hmb=>?_,h.since.tops r E b hn hE hb,λm f hm ht hmb=>by
  rw[xr]at hm;split at hm
  · cases hm;cases ht
  · exact (h.mem.wood m f b hm ht hmb).2.1 r E hn hE hb⟩⟩
 rw[xr]at hm;split at hm
 · cases hm;cases ha
 · rename_i hne;exact hne (h.mem.apart r m E f b hn hm hE ha hb hmb)
theorem NA {α:Type} {xs ys zs:List α} (h:app xs ys=some zs):zs=xs++ys/\xs.length+ys.length<=GO:=by
 unfold app at h;split at h
 · cases h;exact⟨rfl,by assumption⟩
 · cases h
theorem Qq {e:Cs} {x y:Cell} {q:th×Nat×Nat×Nat×Nat} (h:Q7 e x y=some q):x=.win q.1 q.2.1 q.2.2.1/\y=.win q.1 q.2.2.2.1 q.2.2.2.2:=by
 unfold Q7 at h;split at h
 · rename_i r lo hi s lo2 hi2;cases hk:(Nat.beq r s&&e.hasSl)with
   | false=>rw[hk]at h;cases h
   | true =>
    rw[hk]at h;simp only[aT]at hk;obtain rfl:=Nat.eq_of_beq_eq_true hk.1;cases h;exact⟨rfl,rfl⟩
 · cases h
theorem Rw {f:Cs} {ys:List f.den} {b off cap:Nat} {us vs:List Value} (h5:ys.length<=cap) (h6:yr w b us) (h7:off+cap*f.len<=us.length) (h8:(us.drop off).take vs.length=vs) (hvs:vs.length=ys.length*f.len)
 {lo hi:Nat} (hlh:lo<=hi) (hhi:hi<=ys.length) {F4:List Nat} (k4:xt f.len (Cs.Rep w f) ((ys.take hi).drop lo) ((vs.take (hi*f.len)).drop (lo*f.len)) F4) {v:Value}
 (hv:v=.slice (if cap=lo then some ⟨b,off,none⟩else (some ⟨b,off,none⟩:Option Addr).map (·.add (lo*f.len))) (hi-lo) (cap-lo)):zw w f ((ys.take hi).drop lo) v (some b) F4:=by
 have hlen:((ys.take hi).drop lo).length=hi-lo:=by simp;omega
 refine .inr ⟨b,if cap=lo then off else off+lo*f.len,cap-lo,us,(vs.take (hi*f.len)).drop (lo*f.len),?_,rfl,?_,h6,?_,?_,k4⟩
 · rw[hlen,hv];split
   · rfl
   · simp only[Option.map_some,zM]
 · omega
 · split
   · rename_i e;subst e;simp;omega
   · have:(cap-lo)*f.len+lo*f.len=cap*f.len:=by rw[←Nat.add_mul];congr 1;omega
     omega
 · have key:=He us vs off (lo*f.len) (hi*f.len) h8 (Nat.mul_le_mul_right _ hlh) (by rw[hvs];exact Nat.mul_le_mul_right _ hhi);split
   · rename_i e;subst e;obtain rfl:hi=cap:=by omega
     have e0:(vs.take (hi*f.len)).drop (hi*f.len)=[]:=drop_of_length_le (by rw[length_take];omega);rw[e0];simp
   · exact key
theorem Uz (hm:zv en g w) {r:th} {f:Cs} {m:Bool} {ys:List f.den} (hn:wW en r=some (.root f m ys)) {lo hi lo2 hi2:Nat} {v1 v2:Value}
 (hc1:xd (dom en) g w (.win r lo hi) v1) (hc2:xd (dom en) g w (.win r lo2 hi2) v2) (hle:hi<=lo2) :
 ∃Fd Fs,zw w f ((ys.take hi).drop lo) v1 (g.top r) Fd/\zw w f ((ys.take hi2).drop lo2) v2 (g.top r) Fs/\∀b,(Fd++Fs).count b<=(g.nest r).count b:=by
 obtain⟨_,l1,a,len,cap,hloc,l2,hv1⟩:=hc1;obtain⟨_,l3,a',len',cap',hloc',l4,hv2⟩:=hc2;rw[hloc]at hloc';cases hloc';obtain⟨he,h2,_⟩:=yM hm hn;rw[hloc]at h2;rw[he]at hv1 hv2;rcases h2 with ⟨h1,rfl,h3,h4⟩|⟨b,off,cap',us,vs,h1,h3,h5,h6,h7,h8,h9⟩
 · cases h1;obtain rfl:hi2=0:=by omega
   obtain rfl:lo2=0:=by omega
   obtain rfl:hi=0:=by omega
   obtain rfl:lo=0:=by omega
   exact⟨[],[],.inl ⟨by simpa using hv1,by simp,h3,rfl⟩,.inl ⟨by simpa using hv2,by simp,h3,rfl⟩,by simp⟩
 · cases h1;have hvs:=h9.length
   obtain⟨F1,F2,e1,k1,k2⟩:=h9.split hi2;obtain⟨F3,F4,e3,k3,k4⟩:=k1.split lo2;obtain⟨F5,F6,e5,k5,k6⟩:=k3.split hi;obtain⟨F7,F8,e7,k7,k8⟩:=k5.split lo;rw[take_take,take_take,take_take,take_take,show min (min hi lo2) hi2=hi by omega,show min (min (hi*f.len) (lo2*f.len)) (hi2*f.len)=hi*f.len by
    have:=Nat.mul_le_mul_right f.len hle;have:=Nat.mul_le_mul_right f.len l3
    omega]at k8
   refine⟨F8,F4,?_,?_,λc=>by rw[e1,e3,e5,e7];simp only[AN];omega⟩
   · rw[h3];exact Rw h5 h6 h7 h8 hvs l1 (by omega) k8 hv1
   · rw[h3];exact Rw h5 h6 h7 h8 hvs l3 l4 k4 hv2
theorem Rx (h:xR w0 T N S g w a) (hT:zG P G.ti) {t t':TypeId} {x y:Operand} (ho:o.op=.call { callee:=.builtin .append,args:=#[x,y],argTypes:=#[t,t'] }) {e:y8} {L:List th}
 (hr:(Ai G uid S.eval (.call { callee:=.builtin .append,args:=#[x,y],argTypes:=#[t,t'] })).Runs (wW S.en) e L):xS P w0 T N S g w a o e:=by
 replace hr:=xY hr;obtain⟨i,hi,hr⟩:=hr;replace hr:=C6 hr;obtain⟨f,ha,hc,hr⟩:=hr;replace hr:=xY hr;obtain⟨i',hi',hr⟩:=hr;replace hr:=C6 hr;obtain⟨f',ha',hc',hr⟩:=hr;replace hr:=xY hr;obtain⟨j,hj,hr⟩:=hr;obtain⟨hu,j',d,u,z,hj',hjc,hf⟩:=BP hT hi ha hc;rw[hj]at hj';cases hj';obtain⟨hu',_⟩:=BP hT hi' ha' hc';have hx:=yd h x
 have hy:=yd h y;unfold G4 at hr;split at hr
 · rename_i cx cy e1 e2;rw[e1]at hx;rw[e2]at hy;split at hr
   · rename_i q hq;obtain⟨rfl,rfl⟩:=Qq hq;unfold LO at hr;obtain⟨L',_,hr⟩:=hr;cases hrn:wW S.en q.1 with
     | none=>rw[hrn]at hr;exact hr.elim
     | some E =>
      rw[hrn]at hr;cases E<;>try exact hr.elim
      rename_i f m xs;simp only at hr;split at hr
      · rename_i hf0 _;subst hf0;obtain⟨zs,hz,hr⟩:=hr;unfold Iw at hz;split at hz
        · rename_i hle2;obtain⟨rfl,hmax⟩:=NA hz;obtain⟨rfl,_,hn⟩:=Az hr;have hn:=hn _ (mem_singleton.2 rfl)
          obtain⟨Fd,Fs,k1,k2,k3⟩:=Uz h.mem hrn (Fp hx) (Fp hy) hle2;obtain⟨news,hs,hL⟩:=Nz hT hu' k2;obtain⟨_,_,hnI,hnd⟩:=yM h.mem hrn;obtain⟨hM1,hle1,hfree⟩:=h.ms.goneFree hrn rfl;have hur:uid≠q.1:=λe=>by rw[e,hrn]at hn;cases hn
          have hI:∀b∈Fd++Fs,g.I b:=λb hb=>hnI b (A0 hb k3);obtain⟨v,w',g',hrun,hM2,hle2,hv⟩:=JB (ty:=o.type) (m:=m) (n:=uid) hM1 hT ((yb (Ne.symm hur) _ _).trans hn) k1 hfree hs hL hI (λhmt=>by
           subst hmt;refine⟨yC.1 (CO (yC.2 (hnd rfl)) k3),λb hb=>?_⟩;have hcn:=A0 hb k3
           refine⟨λk f' hk hfd=>?_,h.since.nests q.1 _ b hrn rfl hcn⟩;rw[xr]at hk;split at hk
           · cases hk;cases hfd
           · rename_i hne;exact h.mem.nests q.1 k _ _ hrn hk rfl hfd hne b hcn) hu rfl hf hmax
          refine⟨v,w',g',.inl ?_,hM2,hle1.trans hle2,⟨yz.2 (.inl rfl),hv⟩⟩;simp only[execOp,ho,resolve,invoke,builtin,Sem.run_bind,Sem.run_pure,Result.andThen,List.map_toArray,map_cons,map_nil,hrun]
        · cases hz
      · exact hr.elim
   obtain⟨A,L1,L2,_,hA,hr⟩:=Rd.runs_bind hr;obtain⟨B,L3,L4,_,hB,hr⟩:=Rd.runs_bind hr;obtain⟨_,L5,L6,_,hd,hr⟩:=Rd.runs_bind hr;have hd:=(Rd.runs_need hd).1
   cases hm:Ky A.2.1 B.2.1 with
   | none=>rw[hm]at hr;exact hr.elim
   | some m =>
    rw[hm]at hr;obtain⟨zs,hz,hr⟩:=hr;obtain⟨rfl,hmax⟩:=NA hz;obtain⟨rfl,_,hn⟩:=Az hr;have hn:=hn _ (mem_singleton.2 rfl)
    obtain⟨news,Fs,hs,hL,hok,hsI,hsT,hsN⟩:=Rv h.mem hT hu' (Fp hy) hB;obtain⟨hdA,Od,hdAB⟩:=yw hd;obtain⟨g1,hM,hle,f1,f2,f3,f4,fI⟩:=h.ms.useAll hok Od;have hnB:uid∉B.2.2.map (·.1):=λhmm=>by
     obtain⟨p,hp,rfl⟩:=mem_map.1 hmm;exact KH hok hp hn
    have hIs:∀b∈Fs,g1.I b:=λb hb=>(fI b).2 (hsI b hb);have fin:∀(en1:List (th×Entry)) (v1 v2:Value) (tp:Option Nat) (Fd:List Nat),a.eval x=v1->a.eval y=v2->MS w0 T N en1 g1 w->Le (dom S.en) g w (dom en1) g1 w->wW en1 uid=none->zw w j.cs A.1 v1 tp Fd->(∀b,tp=some b->LQ w0 T en1 g1 b) ->
     Src P j.cs.len t' v2 B.1.length news w->(∀b∈Fd++Fs,g1.I b)->(m=true->(Fd++Fs).Nodup/\∀b∈Fd++Fs,(∀k f,wW en1 k=some f->f.deep=true->b∉g1.nest k)/\(w0.heap.size<=b\/T b\/N b)) ->
     A.2.2++B.2.2++S.en=en1->xS P w0 T N S g w a o ⟨.cell (.own uid),[(uid,.root j.cs m (A.1++B.1))]++(A.2.2++B.2.2)⟩:=by
     intro en1 v1 v2 tp Fd hv1 hv2 hM1 hle1 hn1 hrt htp hs hI hmm hen;obtain⟨v,w',g',hrun,hM2,hle2,hv⟩:=JB (ty:=o.type) hM1 hT hn1 hrt htp hs hL hI hmm hu rfl hf hmax;refine⟨v,w',g',.inl ?_,?_,?_,?_⟩
     · simp only[execOp,ho,resolve,invoke,builtin,Sem.run_bind,Sem.run_pure,Result.andThen,List.map_toArray,map_cons,map_nil,hv1,hv2,hrun]
     · rw[←hen]at hM2;simpa using hM2
     · rw[←hen]at hle2 hle1;simpa using hle1.trans hle2
     · rw[←hen]at hM2;exact⟨yz.2 (.inl rfl),hv⟩
    rcases IC h.mem (Fp hx) hA with ⟨hv1,rfl⟩|⟨xs,r,mA,Fd,rfl,hD⟩
    · refine fin (B.2.2++S.en) _ _ none [] hv1 rfl hM hle ((xV hnB).trans hn) (.inl ⟨rfl,rfl,rfl,rfl⟩) (λb hb=>by cases hb) hs (by simpa using hIs) (λhmt=>?_) (by simp);subst hmt;simp only[nil_append];have key:xJ S.en true true B.2.2/\∀b,Fs.count b<=((B.2.2.map (·.1)).flatMap (ze g)).count b:=by
       cases hmB:B.2.1 with
       | none =>
        obtain⟨e0,e3⟩:=hsN hmB;rw[e0,e3];exact⟨by simp[xJ],by simp⟩
       | some mB =>
        rw[hmB]at hm;obtain rfl:mB=true:=by simpa[Ky]using hm
        exact hsT hmB
      obtain⟨hok',hcnt⟩:=key;refine⟨yC.1 (CO (DM h.mem hok' Od).1 hcnt),λb hb=>?_⟩;obtain⟨j4,j5⟩:=EO h.ms hok' (A0 hb hcnt);refine⟨λk f' hk hfd=>?_,j5⟩;rw[f4];by_cases hin:k∈B.2.2.map (·.1)
      · rw[(CP hok Od hin hk).1]at hfd;cases hfd
      · rw[xV hin]at hk;exact j4 k f' hk hfd hin
    · obtain⟨⟨ys0,hrn⟩,hrt,hcd⟩:=hD;have hrB:r∉B.2.2.map (·.1):=hdAB r (by simp)
      have hrn1:wW (B.2.2++S.en) r=some (.root j.cs mA ys0):=(xV hrB).trans hrn;obtain⟨hM1,hle1,hfree⟩:=hM.goneFree hrn1 rfl;have hur:uid≠r:=λe=>by rw[e,hrn]at hn;cases hn
      obtain⟨_,_,hnI,hnd⟩:=yM h.mem hrn;refine fin ((r,.gone)::(B.2.2++S.en)) _ _ (g.top r) Fd rfl rfl hM1 (hle.trans hle1) ((yb (Ne.symm hur) _ _).trans ((xV hnB).trans hn)) hrt (λb hb=>hfree b (by rw[f3];exact hb)) hs (λb hb=>?_) (λhmt=>?_) (by simp)
      · rcases mem_append.1 hb with hb|hb
        · exact (fI b).2 (.inl (hnI b (A0 hb hcd)))
        · exact hIs b hb
      · subst hmt;have key:mA=true/\xJ S.en true true B.2.2/\∀b,Fs.count b<=((B.2.2.map (·.1)).flatMap (ze g)).count b:=by
         cases hmB:B.2.1 with
         | none =>
          obtain⟨e0,e3⟩:=hsN hmB;rw[hmB]at hm;rw[e0,e3];exact⟨by simpa[Ky]using hm,by simp[xJ],by simp⟩
         | some mB =>
          rw[hmB]at hm;have:mA=true/\mB=true:=by cases mA<;>cases mB<;>simp[Ky]at hm ⊢
          obtain⟨rfl,rfl⟩:=this;exact⟨rfl,hsT hmB⟩
        obtain⟨rfl,hok',hcnt⟩:=key;obtain⟨j1,j2⟩:=DM h.mem hok' Od;have hcnt2:∀b,(Fd++Fs).count b<=(g.nest r++(B.2.2.map (·.1)).flatMap (ze g)).count b:=λb=>by
         have:=hcd b;have:=hcnt b;simp only[AN];omega
        have honce:DL (g.nest r++(B.2.2.map (·.1)).flatMap (ze g)):=by
         rw[yC,List.nodup_append];refine⟨hnd rfl,yC.1 j1,λc hc d hd' hcd=>?_⟩;subst hcd;exact j2 r _ hrn rfl hrB c hd' (by unfold ze;exact mem_append_right _ hc)
        refine⟨yC.1 (CO honce hcnt2),λb hb=>?_⟩;rw[f4];rcases mem_append.1 (A0 hb hcnt2)with hcn|hcf
        · refine⟨λk f' hk hfd=>?_,h.since.nests r _ b hrn rfl hcn⟩;rw[xr]at hk;split at hk
          · cases hk;cases hfd
          · rename_i hne;by_cases hin:k∈B.2.2.map (·.1)
            · rw[(CP hok Od hin hk).1]at hfd;cases hfd
            · rw[xV hin]at hk;exact h.mem.nests r k _ _ hrn hk rfl hfd hne b hcn
        · obtain⟨j4,j5⟩:=EO h.ms hok' hcf;refine⟨λk f' hk hfd=>?_,j5⟩;rw[xr]at hk;split at hk
          · cases hk;cases hfd
          · by_cases hin:k∈B.2.2.map (·.1)
            · rw[(CP hok Od hin hk).1]at hfd;cases hfd
            · rw[xV hin]at hk;exact j4 k f' hk hfd hin
 · exact hr.elim
end Go.V
namespace Go.V
variable {P:Program} {w0:World} {T N:Nat->Prop} {S:St} {g:Gh} {w w':World} {a:Act} {o:Oper} {G:yU} {uid:th} {en en':List (th×Entry)}

theorem T1 {d e:TypeId} (hu:P.underlying d=some (.slice e)) (he:P.underlying e=some (.int .u8)) {b off n cap:Nat} {c:Array Value} {t:TypeId} {fz:Nat×Nat} (hc:w.heap[b]?=some (.cells c t fz)) :
 (convert d d (.slice (some ⟨b,off,none⟩) n cap)).run P w=.ok (.slice (some ⟨b,off,none⟩) n cap) (w.freeze ⟨b,c.size,none⟩ 1):=by
 have hsh:w.shape? b=some (t,c.size):=by unfold World.shape?;rw[hc]
 simp[convert,run_underlying hu,run_underlying he,markStringish,hsh]
theorem Ry {b k:Nat} {c:Array Value} {t:TypeId} {lo hi:Nat} (hc:w.heap[b]?=some (.cells c t (lo,hi))) :
 (w.freeze ⟨b,k,none⟩ 1).heap[b]?=some (.cells c t (if lo==hi then (k,k+1)else (min lo k,max hi (k+1)))):=by
 unfold World.freeze;rw[if_neg (by decide)];simp[Array.getElem?_modify,hc]
theorem NC {b k b':Nat} (h:b'≠b):(w.freeze ⟨b,k,none⟩ 1).heap[b']?=w.heap[b']?:=by
 unfold World.freeze;rw[if_neg (by decide)];simp[Array.getElem?_modify,Ne.symm h]
theorem OZ {b k:Nat}:(w.freeze ⟨b,k,none⟩ 1).heap.size=w.heap.size:=by
 unfold World.freeze;rw[if_neg (by decide)];simp
theorem Qr {n lo hi:Nat} (h:KF n lo hi):∃l k,(if lo==hi then (n,n+1)else (min lo n,max hi (n+1)))=(l,k)/\KF n l k:=by
 obtain⟨h1,h2⟩:=h;by_cases he:lo=hi
 · subst he;refine⟨n,n+1,by simp,by omega,λo ho hk=>by omega⟩
 · have hlo:n<=lo:=by
    rcases Nat.lt_or_ge lo n with hl|hl
    · exact absurd ⟨Nat.le_refl lo,by omega⟩ (h2 lo hl)
    · exact hl
   refine⟨min lo n,max hi (n+1),by simp[he],by omega,λo ho hk=>?_⟩;have:=hk.1
   rw[Nat.min_eq_right hlo]at this;omega
theorem Qs (h:xR w0 T N S g w a) (hT:zG P G.ti) {s d:TypeId} {x:Operand} (ho:o.op=.convert s d x) {e:y8} {L:List th} (hr:(Ai G uid S.eval (.convert s d x)).Runs (wW S.en) e L):xS P w0 T N S g w a o e:=by
 replace hr:=xY hr;obtain⟨j,hj,hr⟩:=hr;replace hr:=xY hr;obtain⟨i,hi,hr⟩:=hr;cases hown:Q8 i (S.eval x)with
 | none=>rw[hown]at hr;exact OX h hT ho hj hi hr
 | some r =>
  rw[hown]at hr;cases hk:(Nat.beq s d&&Cw G i.elem)with
  | false=>rw[hk]at hr;exact hr.elim
  | true =>
  rw[hk]at hr;simp only[aT]at hk;obtain rfl:=Nat.eq_of_beq_eq_true hk.1;have hx:=yd h x
  unfold Q8 at hown;split at hown
  · rename_i r' hev;split at hown
    · rename_i ha hc;cases hown;rw[hev]at hx;obtain⟨hdr,hxv⟩:=hx;obtain⟨L',_,hr⟩:=hr;dsimp only at hr;split at hr
      · rename_i f m xs hn;split at hr
        · rename_i hsame x0 l _;obtain⟨hsame⟩:=hsame;subst hsame;obtain⟨rfl,_,hnew⟩:=Az hr;have hnu:wW S.en uid=none:=hnew _ (mem_singleton.2 rfl)
          obtain⟨hu,_⟩:=BP hT hi ha hc;have he:=DK hT hk.2
          obtain⟨hes,hrt,hnI,hnd⟩:=yM h.mem hn;rcases hrt with ⟨_,h2,_⟩|⟨b,off,cap,us,vs,e1,e2,e3,⟨c,t,lo,hi',hc',rfl,hcl⟩,e5,e6,e7⟩
          · cases h2
          have hF:g.nest r=[]:=Fq (by rfl) e7;obtain⟨hM,hle,hfree⟩:=h.ms.goneFree hn rfl;have hfr:=hfree b e2
          obtain⟨lo2,hi2,hz,hcl2⟩:=Qr hcl;have hat:=Ry (k:=c.size) hc'
          rw[hz]at hat;have hne:∀b',b'≠b->(w.freeze ⟨b,c.size,none⟩ 1).heap[b']?=w.heap[b']?:=λb' hb=>NC hb
          have hown2:yr (w.freeze ⟨b,c.size,none⟩ 1) b c.toList:=⟨c,t,lo2,hi2,hat,rfl,hcl2⟩;obtain⟨hM2,hle2⟩:=hM.world (w':=w.freeze ⟨b,c.size,none⟩ 1) (λb' hb=>hne b' λe=>hfr.imm (e▸hb)) (λm' f' b' hm ha' ht=>hne b' λe=>hfr.top m' f' hm ha' (e▸ht)) (by unfold World.freeze;rfl) (by unfold World.freeze;rfl) (by unfold World.freeze;rfl) (by rw[OZ];omega)
           (λb' hb hT'=>hne b' λe=>by
            subst e;rcases hfr.own with hk|hk
            · omega
            · exact hT' hk)
           (λm' f' b' hm ht hb=>hne b' λe=>hfr.wood m' f' hm ht (e▸hb))
           (λb' hb=>by
            by_cases he':b'=b
            · subst he';exact hown2.soft
            · exact (h.since.soft b' hb).of_same (hne b' he'))
          have hur:uid≠r:=λe=>by rw[e,hn]at hnu;cases hnu
          rw[hF]at e7;obtain⟨hM3,hle3⟩:=hM2.root (n:=uid) (e:=.one (.int .u8)) (m:=m) (xs:=x0::l) (b:=b) (off:=off) (cap:=cap) (us:=c.toList) (vs:=vs) (F:=[]) ((yb (Ne.symm hur) _ _).trans hnu) hfr
           e3 hown2 e5 e6 (e7.imp λy v G' _ hG hr'=>Cs.Rep.of_same (λq hq=>by have:=hG q hq;simp at this) hr') (by simp) (by simp)
          refine⟨.slice (some ⟨b,off,none⟩) (x0::l).length cap,w.freeze ⟨b,c.size,none⟩ 1,_,.inl ?_,hM3,(hle.trans hle2).trans hle3,⟨yz.2 (.inl rfl),by simp[Gh.set]⟩⟩;have hxe:a.eval x=.slice (some ⟨b,off,none⟩) (x0::l).length cap:=hxv.trans e1
          simp only[execOp,ho,hxe,Sem.run_bind,T1 hu he hc',Result.andThen,Sem.run_pure]
        · exact hr.elim
      · exact hr.elim
    · cases hown
  · cases hown
end Go.V
namespace Go.V
variable {P:Program} {w0:World} {T N:Nat->Prop} {S:St} {g:Gh} {w w':World} {a:Act} {o:Oper} {G:yU} {uid:th} {en en':List (th×Entry)}

def Cs.parts:Cs->List CT | .one c=>[c] | .cons c r=>c::r.parts
def Df:CT->Option Nat | .int k=>some (yv k) | .bool=>some 8 | .str=>some 9|_=>none
def LR (P:Program) (rc:Nat->Option (List CT)):Nat->List Field->Option (List CT)
 | _,[]=>some []
 | off, f::fs => cond (f.name != "_" && Nat.beq f.offset off)
  (match rc f.type with
  | some l=>cond (match P.info? f.type with|some d=>Nat.beq d.size l.length&&Nat.blt 0 l.length|none=>false) (match LR P rc (off+l.length) fs with|some m=>some (l++m)|none=>none) none
  | none=>none) none
def Hi (P:Program):Nat->Nat->Option (List CT)
 | 0,_=>none
 | n+1,t=>match P.underlying t with
  | some (.int k)=>some [.int k]
  | some .bool=>some [.bool]
  | some .string=>some [.str]
  | some (.struct fs)=>cond (P.stoodInHeld t) none (LR P (Hi P n) 0 fs.toList)
  | _=>none
def Dq:List CT->List CT->Bool
 | [],[]=>true
 | c::l,d::m=>(match Df c,Df d with|some i,some j=>Nat.beq i j|_,_=>false)&&Dq l m
 | _,_=>false
def T2 (P:Program) (p:Nat×xD):Bool :=
 !p.2.agg||p.2.cs.hasSl||p.2.cs.parts.any (λc=>match c with | .err=>true|_=>false) ||
  (match Hi P 6 p.1 with|some l=>Dq l p.2.cs.parts|none=>false)&&!(P.eqGuardType P.depth p.1)
def ND (P:Program) (ti:List (Nat×xD)):Prop:=∀t i,wW ti t=some i->T2 P (t,i)=true
theorem ND.of_all {P:Program} {ti:List (Nat×xD)} (h:ti.all (T2 P)=true):ND P ti:=λt i hi=>all_eq_true.1 h _ (E4 hi)

def Bj:List CT->List Cell->List Cell->Option Bool
 | [],[],[]=>some true
 | c::l,x::xs,y::ys=>match zW c x y,Bj l xs ys with|some a,some b=>some (a&&b)|_,_=>none
 | _,_,_=>none
theorem Rz:∀{e:Cs} {xs ys:List Cell} {r:Bool},yV e xs ys=some r->Bj e.parts xs ys=some r
 | .one c,[x],[y],r,h=>by
  simp only[yV]at h;simp[Cs.parts,Bj,h]
 | .cons c e,x::xs,y::ys,r,h=>by
  simp only[yV]at h;cases h1:zW c x y with
  | none=>rw[h1]at h;simp at h
  | some p =>
   cases h2:yV e xs ys with
   | none=>rw[h1,h2]at h;simp at h
   | some q=>rw[h1,h2]at h;simp[Cs.parts,Bj,h1,Rz h2];simpa using h
 | .one c,[],_,r,h=>by simp[yV]at h
 | .one c,[_],[],r,h=>by simp[yV]at h
 | .one c,[_],_::_::_,r,h=>by simp[yV]at h
 | .one c,_::_::_,_,r,h=>by simp[yV]at h
 | .cons c e,[],_,r,h=>by simp[yV]at h
 | .cons c e,_::_,[],r,h=>by simp[yV]at h
theorem T3 {c d:CT} {i:Nat} (h:Df c=some i) (k:Df d=some i):c=d:=by
 have ik:∀k,yv k<8:=by intro k;cases k<;>simp[yv]
 cases c<;>cases d<;>simp[Df]at h k
 case int.int j j'=>rw[←k]at h;rw[Bh h]
 case int.bool j=>have:=ik j;omega
 case int.str j=>have:=ik j;omega
 case bool.int j=>have:=ik j;omega
 case str.int j=>have:=ik j;omega
 case bool.bool=>rfl
 case str.str=>rfl
 all_goals omega
theorem ID:∀{l m:List CT},Dq l m=true->l=m
 | [],[],_=>rfl
 | c::l,d::m,h=>by
  simp only[Dq,aT]at h;obtain⟨h1,h2⟩:=h;cases hc:Df c with
  | none=>rw[hc]at h1;simp at h1
  | some i =>
   cases hd:Df d with
   | none=>rw[hc,hd]at h1;simp at h1
   | some j =>
    rw[hc,hd]at h1;obtain rfl:=Nat.eq_of_beq_eq_true h1;rw[T3 hc hd,ID h2]
 | [],_::_,h=>by simp[Dq]at h
 | _::_,[],h=>by simp[Dq]at h
theorem Mx:∀{l m:List CT} {xs ys:List Cell} {r:Bool},Bj (l++m) xs ys=some r->∃r1 r2,Bj l (xs.take l.length) (ys.take l.length)=some r1/\Bj m (xs.drop l.length) (ys.drop l.length)=some r2/\r=(r1&&r2)
 | [],m,xs,ys,r,h=>⟨true,r,by simp[Bj],by simpa using h,by simp⟩
 | c::l,m,x::xs,y::ys,r,h=>by
  simp only[cons_append,Bj]at h;cases h1:zW c x y with
  | none=>rw[h1]at h;simp at h
  | some p =>
   cases h2:Bj (l++m) xs ys with
   | none=>rw[h1,h2]at h;simp at h
   | some q =>
    rw[h1,h2]at h;obtain⟨r1,r2,k1,k2,rfl⟩:=Mx h2;refine⟨p&&r1,r2,by simp[Bj,h1,k1],by simpa using k2,?_⟩;simp at h;rw[←h,Bool.and_assoc]
 | c::l,m,[],ys,r,h=>by simp[Bj]at h
 | c::l,m,_::_,[],r,h=>by simp[Bj]at h
theorem KM:∀{l:List CT} {xs ys:List Cell} {r:Bool},Bj l xs ys=some r->xs.length=l.length/\ys.length=l.length
 | [],[],[],_,_=>⟨rfl,rfl⟩
 | c::l,x::xs,y::ys,r,h=>by
  simp only[Bj]at h;cases h1:zW c x y with
  | none=>rw[h1]at h;simp at h
  | some p =>
   cases h2:Bj l xs ys with
   | none=>rw[h1,h2]at h;simp at h
   | some q=>obtain⟨k1,k2⟩:=KM h2;simp[k1,k2]
 | [],_::_,_,_,h=>by simp[Bj]at h
 | [],[],_::_,_,h=>by simp[Bj]at h
 | _::_,[],_,_,h=>by simp[Bj]at h
 | _::_,_::_,[],_,h=>by simp[Bj]at h
def EQ (P:Program) (t:Nat) (vs:List Value):Value:=match P.underlying t with|some (.struct _)=>.agg vs.toArray|_=>vs.headD undef
theorem NE {t:Nat} {l:List CT} {n:Nat} (hl:Hi P n t=some l) {d:TypeInfo} (hd:P.info? t=some d) (hs:d.size=l.length) {X:List Value} {off:Nat} (ho:off+l.length<=X.length) :
 (part t X.toArray off).run P w=.ok (EQ P t ((X.drop off).take l.length)) w:=by
 cases n with
 | zero=>simp[Hi]at hl
 | succ n =>
  simp only[Hi]at hl;unfold part EQ Go.isAgg;cases hu:P.underlying t with
  | none=>rw[hu]at hl;simp at hl
  | some u =>
   rw[hu]at hl;simp only[Sem.run_bind,run_underlying hu,Result.andThen];have scal : l.length=1->((match X.toArray[off]? with|some v => pure v|none => stuck "part: no such cell" : Sem Value)).run P w=.ok (((X.drop off).take l.length).headD undef) w := by
    intro h1;rw[h1]at ho ⊢;have:off<X.length:=by omega
    simp[List.getElem?_eq_getElem this,List.head?_take,List.head?_drop,List.headD_eq_head?_getD]
   cases u<;>try (simp at hl;done)
   case int k=>simp at hl;subst hl;exact scal rfl
   case bool=>simp at hl;subst hl;exact scal rfl
   case string=>simp at hl;subst hl;exact scal rfl
   case struct fs =>
    simp only[Sem.run_pure,if_true,Sem.run_bind,Result.andThen,sizeOf,typeInfo,hd,run_program];simp[hs,List.extract_eq_take_drop,hd]
theorem Qt {c:CT} {x y:Cell} {vx vy:Value} {D:th->Prop} {r:Bool} (h:zW c x y=some r) (hx:xd D g w x vx) (hy:xd D g w y vy) {n:Nat} {t:Nat} {u:TypeDesc} (hu:P.underlying t=some u)
 (hc:(∃k,c=.int k/\u=.int k)\/(c=.bool/\u=.bool)\/(c=.str/\u=.string)):(Op.equalIn (n+1) t vx vy).run P w=.ok r w:=by
 rcases hc with ⟨k,rfl,rfl⟩|⟨rfl,rfl⟩|⟨rfl,rfl⟩
 · cases x<;>try (simp[zW]at h;done)
   cases y<;>try (simp[zW]at h;done)
   rename_i i p j q;simp only[zW]at h;cases hk:(Nat.beq (yv i) (yv k)&&Nat.beq (yv j) (yv k))with
   | false=>rw[hk]at h;simp at h
   | true =>
    rw[hk]at h;simp only[aT]at hk;obtain rfl:=Bh (Nat.eq_of_beq_eq_true hk.1);obtain rfl:=Bh (Nat.eq_of_beq_eq_true hk.2);obtain rfl:vx=.int _ p:=hx;obtain rfl:vy=.int _ q:=hy;simp at h;subst h;simp[Op.equalIn,run_underlying hu]
 · cases x<;>try (simp[zW]at h;done)
   cases y<;>try (simp[zW]at h;done)
   rename_i p q;obtain rfl:vx=.bool p:=hx;obtain rfl:vy=.bool q:=hy;simp[zW]at h;subst h;simp[Op.equalIn,run_underlying hu]
 · cases x<;>try (simp[zW]at h;done)
   cases y<;>try (simp[zW]at h;done)
   rename_i p q;obtain rfl:vx=.string ⟨p.toArray⟩:=hx;obtain rfl:vy=.string ⟨q.toArray⟩:=hy;simp[zW]at h;subst h;simp[Op.equalIn,run_underlying hu,beq_toListBytes]
theorem NF {D:th->Prop} (n d:Nat) (ih:∀{t:Nat} {l:List CT} {xs ys:List Cell} {vx vy:List Value} {r:Bool},Hi P n t=some l->Bj l xs ys=some r->xn (xd D g w) xs vx->xn (xd D g w) ys vy ->
 (Op.equalIn (d+n) t (EQ P t vx) (EQ P t vy)).run P w=.ok r w):∀(off:Nat) (fs:List Field) {l:List CT} {xs ys:List Cell} {X Y:List Value} {r:Bool},LR P (Hi P n) off fs=some l->Bj l xs ys=some r->xn (xd D g w) xs (X.drop off)->xn (xd D g w) ys (Y.drop off) ->
 (Op.eqFields (d+n) X.toArray Y.toArray fs).run P w=.ok r w
 | off,[],l,xs,ys,X,Y,r,h,he,hx,hy=>by
  simp[LR]at h;subst h
  match xs,ys,he with
  | [],[],he=>simp[Bj]at he;subst he;simp[Op.eqFields]
  | _::_,_,he=>simp[Bj]at he
  | [],_::_,he=>simp[Bj]at he
 | off,f::fs,l,xs,ys,X,Y,r,h,he,hx,hy=>by
  simp only[LR]at h;cases h1 : (f.name != "_" && Nat.beq f.offset off)with
  | false=>rw[h1]at h;simp at h
  | true =>
   rw[h1]at h;simp only[aT,cT]at h1 h;obtain⟨hname,hoff⟩:=h1;obtain rfl:=Nat.eq_of_beq_eq_true hoff;cases h2:Hi P n f.type with
   | none=>rw[h2]at h;simp at h
   | some l1 =>
    rw[h2]at h;simp only at h;cases hd:P.info? f.type with
    | none=>rw[hd]at h;simp at h
    | some di =>
     rw[hd]at h;simp only at h;cases h3:(Nat.beq di.size l1.length&&Nat.blt 0 l1.length)with
     | false=>rw[h3]at h;simp at h
     | true =>
      rw[h3]at h;simp only[cT,aT]at h h3;cases h4:LR P (Hi P n) (f.offset+l1.length) fs with
      | none=>rw[h4]at h;simp at h
      | some m =>
       rw[h4]at h;simp at h;subst h;obtain⟨r1,r2,k1,k2,rfl⟩:=Mx he;obtain⟨e1,e2⟩:=KM he;rw[length_append]at e1 e2;have lx:=hx.length
       have ly:=hy.length;rw[length_drop]at lx ly;have hsz:=Nat.eq_of_beq_eq_true h3.1
       have hpos:0<l1.length:=BX h3.2;have px:=NE (w:=w) h2 hd hsz (X:=X) (off:=f.offset) (by omega)
       have py:=NE (w:=w) h2 hd hsz (X:=Y) (off:=f.offset) (by omega);have q1:=ih h2 k1 (hx.take l1.length) (hy.take l1.length)
       have q2:=NF n d ih (f.offset+l1.length) fs h4 k2 (by rw[←drop_drop];exact hx.drop l1.length) (by rw[←drop_drop];exact hy.drop l1.length);have hname' : f.name ≠ "_" := by simpa using hname
       simp only[Op.eqFields,if_pos hname',Sem.run_bind,px,py,q1,Result.andThen_ok];cases r1 with
       | false=>simp
       | true=>simpa using q2
theorem Pu {D:th->Prop} (d:Nat):∀(n:Nat) {t:Nat} {l:List CT} {xs ys:List Cell} {vx vy:List Value} {r:Bool},Hi P n t=some l->Bj l xs ys=some r->xn (xd D g w) xs vx->xn (xd D g w) ys vy ->
 (Op.equalIn (d+n) t (EQ P t vx) (EQ P t vy)).run P w=.ok r w
 | 0,t,l,xs,ys,vx,vy,r,h,_,_,_=>by simp[Hi]at h
 | n+1,t,l,xs,ys,vx,vy,r,h,he,hx,hy=>by
  simp only[Hi]at h;cases hu:P.underlying t with
  | none=>rw[hu]at h;simp at h
  | some u =>
   rw[hu]at h;unfold EQ;rw[hu];have scal:∀c,l=[c]->((∃k,c=.int k/\u=.int k)\/(c=.bool/\u=.bool)\/(c=.str/\u=.string))->(Op.equalIn (d+(n+1)) t (vx.headD undef) (vy.headD undef)).run P w=.ok r w:=by
    intro c hl hc;subst hl
    match xs,ys,vx,vy,hx,hy,he with
    | [x],[y],[v],[v'],hx,hy,he =>
     have he:zW c x y=some r:=by
      simp only[Bj]at he;cases h1:zW c x y with
      | none=>rw[h1]at he;simp at he
      | some p=>rw[h1]at he;simpa using he
     exact Qt he hx.1 hy.1 hu hc
    | [],_,_,_,_,_,he=>simp[Bj]at he
    | _::_,[],_,_,_,_,he=>simp[Bj]at he
    | [_],_::_::_,_,_,_,_,he=>simp[Bj]at he
    | _::_::_,[_],_,_,_,_,he=>simp[Bj]at he
    | _::_::_,_::_::_,_,_,_,_,he=>simp[Bj]at he
   cases u<;>try (simp at h;done)
   case int k=>simp at h;exact scal _ h.symm (.inl ⟨k,rfl,rfl⟩)
   case bool=>simp at h;exact scal _ h.symm (.inr (.inl ⟨rfl,rfl⟩))
   case string=>simp at h;exact scal _ h.symm (.inr (.inr ⟨rfl,rfl⟩))
   case struct fs =>
    cases hs:P.stoodInHeld t with
    | true=>rw[hs]at h;simp at h
    | false =>
     rw[hs]at h;have hf:P.fieldsOf t=fs:=by simp[Program.fieldsOf,hu]
     show (Op.equalIn ((d+n)+1) t (.agg vx.toArray) (.agg vy.toArray)).run P w=_;rw[run_equalIn_struct w (d+n) t _ _ (by rw[hf];exact hu) hs,hf];exact NF n d (λh he hx hy=>Pu d n h he hx hy) 0 fs.toList h he (by simpa using hx) (by simpa using hy)
theorem IE:∀{e:Cs} {xs ys:List Cell} {r:Bool},yV e xs ys=some r->e.hasSl=false/\(e.parts.any λc=>match c with | .err=>true|_=>false)=false
 | .one c,[x],[y],r,h=>by
  simp only[yV]at h;cases c<;>simp[zW]at h<;>simp[Cs.hasSl,CT.isSl,Cs.parts]
 | .cons c e,x::xs,y::ys,r,h=>by
  simp only[yV]at h;cases h1:zW c x y with
  | none=>rw[h1]at h;simp at h
  | some p =>
   cases h2:yV e xs ys with
   | none=>rw[h1,h2]at h;simp at h
   | some q =>
    obtain⟨k1,k2⟩:=IE h2;simp only[Cs.hasSl,Cs.parts,List.any_cons,k1,k2];cases c<;>simp[zW]at h1<;>simp[CT.isSl]
 | .one c,[],_,r,h=>by simp[yV]at h
 | .one c,[_],[],r,h=>by simp[yV]at h
 | .one c,[_],_::_::_,r,h=>by simp[yV]at h
 | .one c,_::_::_,_,r,h=>by simp[yV]at h
 | .cons c e,[],_,r,h=>by simp[yV]at h
 | .cons c e,_::_,[],r,h=>by simp[yV]at h
theorem My (hT:zG P G.ti) (hE:ND P G.ti) {t:Nat} {i:xD} (hi:wW G.ti t=some i) (ha:i.agg=true) {xs ys:List Cell} {r:Bool} (hr:yV i.cs xs ys=some r) {D:th->Prop} {vx vy:Array Value}
 (hx:xn (xd D g w) xs vx.toList) (hy:xn (xd D g w) ys vy.toList):(Op.equal t (.agg vx) (.agg vy)).run P w=.ok r w/\P.eqGuardType P.depth t=false:=by
 obtain⟨f1,f2⟩:=IE hr;have hk:=hE t i hi
 simp only[T2,ha,f1,f2,Bool.not_true,Bool.false_or]at hk;cases hl:Hi P 6 t with
 | none=>rw[hl]at hk;simp at hk
 | some l =>
  rw[hl]at hk;simp only[aT,Bool.not_eq_true']at hk;obtain rfl:=ID hk.1;have:=Pu (w:=w) (D:=D) 9994 6 hl (Rz hr) hx hy
  obtain⟨d,u,z,hf⟩:=hT.facts hi;obtain⟨fs,hu,_⟩:=hf.agg ha;have hv:∀v:Array Value,EQ P t v.toList=.agg v:=λv=>by simp[EQ,hf.und,hu]
  rw[hv,hv]at this;exact⟨this,hk.2⟩
theorem VM (h:xR w0 T N S g w a) (hT:zG P G.ti) (hE:ND P G.ti) {op:BinOp} {t ty:TypeId} {x y:Operand} (ho:o.op=.binOp op t x y ty) {i:xD} (hi:wW G.ti t=some i) {xs ys:List Cell} (hx:S.eval x=.agg xs) (hy:S.eval y=.agg ys) {c:Bool} {e:y8} {L:List th}
 (hr:(AL i op c (.agg xs) (.agg ys)).Runs (wW S.en) e L):xS P w0 T N S g w a o e:=by
 have kx:=yd h x;have ky:=yd h y
 rw[hx]at kx;rw[hy]at ky;obtain⟨vx,ex,kx⟩:=kx;obtain⟨vy,ey,ky⟩:=ky;cases ha:i.agg with
 | false=>cases op<;>first|exact hr.elim | (simp only[AL,ha]at hr;exact hr.elim)
 | true =>
  cases op<;>try exact hr.elim
  case eql =>
   simp only[AL,ha,cT]at hr;cases hq:yV i.cs xs ys with
   | none=>rw[hq]at hr;exact hr.elim
   | some r =>
    rw[hq]at hr;obtain⟨k1,k2⟩:=My hT hE hi ha hq kx ky;refine zU h hr ?_;simp[execOp,ho,ex,ey,eqGuard,k2,binOp,k1]
  case neq =>
   simp only[AL,ha,cT]at hr;cases hq:yV i.cs xs ys with
   | none=>rw[hq]at hr;exact hr.elim
   | some r =>
    rw[hq]at hr;obtain⟨k1,k2⟩:=My hT hE hi ha hq kx ky;refine zU h hr ?_;simp[execOp,ho,ex,ey,eqGuard,k2,binOp,k1]
end Go.V
namespace Go.V
variable {G:yU} {uid rid:Nat} {ops:List Oper}

theorem Mz {parts:Array (Nat×Operand)} {ρ ρ':Operand->AV} (h:∀x∈(parts.toList.map (·.2)).toArray,ρ x=ρ' x):(parts.toList.map λp=>(p.1,ρ p.2))=(parts.toList.map λp=>(p.1,ρ' p.2)) :=
 List.map_congr_left λp hp=>by rw[h p.2 (by simp only[List.mem_toArray,mem_map];exact⟨p,hp,rfl⟩)]
theorem RA {ρ ρ':Operand->AV} {op:Op} (h:∀x∈op.operands,ρ x=ρ' x):Ai G uid ρ op=Ai G uid ρ' op:=by
 cases op
 case build t ps=>simp only[Ai];rw[Mz h]
 case buildSlice t n ps=>simp only[Ai];rw[Mz h]
 case makeFunc f first caps =>
  simp only[Op.operands,Array.mem_append]at h;have hc:caps.toList.map ρ=caps.toList.map ρ':=List.map_congr_left λx hx=>h x (.inr (by simpa using hx))
  cases f<;>try rfl
  rcases first with ⟨_|⟨_,_⟩⟩
  · simp only[Ai,hc]
  · rfl
 case slice t x lo hi mx =>
  cases mx with
  | some _=>rfl
  | none =>
   have h1:ρ x=ρ' x:=h x (by simp[Op.operands]);have h2:lo.map ρ=lo.map ρ':=by
    cases lo with
    | none=>rfl
    | some y=>simp only[Option.map_some];rw[h y (by simp[Op.operands])]
   have h3:hi.map ρ=hi.map ρ':=by
    cases hi with
    | none=>rfl
    | some y=>simp only[Option.map_some];rw[h y (by simp[Op.operands])]
   simp only[Ai,h1,h2,h3]
 case call c =>
  have ha:∀x∈c.args.toList,ρ x=ρ' x:=λx hx=>h x (by simp only[Op.operands,Call.operands,Array.mem_append];exact .inr (by simpa using hx));have hm:c.args.toList.map ρ=c.args.toList.map ρ':=List.map_congr_left ha
  have hf:∀f,c.callee=.value f->ρ f=ρ' f:=λf hc=>h f (by simp[Op.operands,Call.operands,hc]);unfold Ai;split<;>first
   | rfl
   | (rename_i heq;cases heq;done)
   | (rename_i heq;cases heq;simp only[mem_cons,List.not_mem_nil,or_false,forall_eq_or_imp,forall_eq]at ha;simp only[ha])
   | (rename_i heq;cases heq;rw[hf _ rfl,hm])
 case unOp op t x =>
  have:=h x (by simp[Op.operands]);cases op<;>simp only[Ai,this]
 case makeSlice t n c =>
  have h1:=h n (by simp[Op.operands]);cases n<;>cases c<;>simp only[Ai,h1]
 all_goals first
  | rfl
  | (simp[Op.operands]at h;simp only[Ai,h])
theorem JC {ρ ρ':Operand->AV} {op:Op} (h:∀x∈op.operands,ρ x=ρ' x):Ej G uid ρ op=Ej G uid ρ' op:=by
 cases op
 case pick c a b =>
  simp[Op.operands]at h;simp only[Ej,h]
 all_goals exact RA (G:=G) (uid:=uid) h

abbrev CW:=Option (y8×List th)
def St.act (S:St) (o:Oper):CW->St
 | some (e,_)=>S.put o.dst e
 | none=>S.put o.dst ⟨.cell .void,[]⟩
def xW:CW->List th|some (e,_)=>e.ents.map (·.1)|none=>[]
def Ak:CW->List th|some (_,L)=>L|none=>[]
def KN (ops:List Oper) (S:St) (o:Oper):Prop:=∀j want,o.guard=some (j,want)->∃t,Bq ops j=some t/\S.tmp t=.cell (.bool want)
def JW (ops:List Oper) (S:St) (o:Oper):Prop:=∃j want t,o.guard=some (j,want)/\Bq ops j=some t/\(S.tmp t=.cell (.bool (!want))\/S.tmp t=.cell .void)
def CA (G:yU) (rid:Nat) (ops:List Oper) (S:St) (i:Nat) (o:Oper):CW->Prop
 | some (e,L)=>KN ops S o/\(Ej G (N4 rid i) S.eval o.op).Runs (wW S.en) e L
 | none=>JW ops S o
structure Al (S S':St):Prop where
 tm:∀t,S.tmp t=S'.tmp t
 en:∀n,wW S.en n=wW S'.en n
abbrev Ev:=Nat×Oper×CW
def Tr (G:yU) (rid:Nat) (ops:List Oper):List Ev->St->St->Prop
 | [],S,S'=>Al S S'
 | (i,o,r)::l,S,S'=>CA G rid ops S i o r/\Tr G rid ops l (S.act o r) S'
variable {S S' S1 S2:St}
theorem Al.refl (S:St):Al S S:=⟨λ_=>rfl,λ_=>rfl⟩
theorem Al.symm (h:Al S S'):Al S' S:=⟨λt=>(h.tm t).symm,λn=>(h.en n).symm⟩
theorem Al.trans (h:Al S S1) (k:Al S1 S2):Al S S2:=⟨λt=>(h.tm t).trans (k.tm t),λn=>(h.en n).trans (k.en n)⟩
theorem St.tmp_put (S:St) (dst:Option Tmp) (e:y8) (t:Tmp):(S.put dst e).tmp t=if dst=some t then e.val else S.tmp t:=by
 unfold St.put St.tmp;cases dst with
 | none=>simp
 | some d =>
  simp only[xr,Option.some.injEq];by_cases h:d=t<;>simp[h]
theorem yf {α:Type} (l m:List (Nat×α)) (n:Nat):wW (l++m) n=match wW l n with|some x=>some x|none=>wW m n:=by
 induction l with
 | nil=>rfl
 | cons p l ih =>
  obtain⟨j,x⟩:=p;rw[cons_append,xr,xr];split
  · rfl
  · exact ih
theorem St.en_put (S:St) (dst:Option Tmp) (e:y8):(S.put dst e).en=e.ents++S.en:=rfl
theorem Al.put (h:Al S S') (dst:Option Tmp) (e:y8):Al (S.put dst e) (S'.put dst e) :=
 ⟨λt=>by rw[St.tmp_put,St.tmp_put,h.tm],λn=>by rw[St.en_put,St.en_put,yf,yf,h.en]⟩
theorem Al.act (h:Al S S') (o:Oper) (r:CW):Al (S.act o r) (S'.act o r):=by
 cases r with
 | none=>exact h.put _ _
 | some r=>exact h.put _ _
theorem Al.eval (h:Al S S'):S.eval=S'.eval:=by
 funext x
 cases x with
 | tmp t=>exact h.tm t
 | _=>rfl
theorem CA.same (h:Al S S') {i:Nat} {o:Oper} {r:CW} (k:CA G rid ops S i o r):CA G rid ops S' i o r:=by
 cases r with
 | none =>
  obtain⟨j,want,t,h1,h2,h3⟩:=k;exact⟨j,want,t,h1,h2,by rw[←h.tm];exact h3⟩
 | some r =>
  obtain⟨k1,k2⟩:=k;refine⟨λj want hg=>?_,?_⟩
  · obtain⟨t,h1,h2⟩:=k1 j want hg;exact⟨t,h1,by rw[←h.tm];exact h2⟩
  · rw[←h.eval];exact Rd.runs_local (λn _=>(h.en n).symm) k2
theorem Tr.same:∀{l:List Ev} {S S':St},Al S S'->Tr G rid ops l S S1->Tr G rid ops l S' S1
 | [],S,S',h,k=>h.symm.trans k
 | (i,o,r)::l,S,S',h,⟨k1,k2⟩=>⟨k1.same h,Tr.same (h.act o r) k2⟩
def G9 (ops:List Oper) (o:Oper) (t:Tmp):Prop:=.tmp t∈o.op.operands\/∃j want,o.guard=some (j,want)/\Bq ops j=some t
structure Ga (ops:List Oper) (x y:Oper) (rx ry:CW):Prop where
 xy:∀d,x.dst=some d->¬G9 ops y d
 yx:∀d,y.dst=some d->¬G9 ops x d
 dd:∀d,x.dst=some d->y.dst≠some d
 wr:∀n∈xW rx,n∉Ak ry
 rw:∀n∈xW ry,n∉Ak rx
 ww:∀n∈xW rx,n∉xW ry
theorem Ga.symm {x y:Oper} {rx ry:CW} (h:Ga ops x y rx ry):Ga ops y x ry rx :=
 ⟨h.yx,h.xy,λd hd he=>h.dd d he hd,h.rw,h.wr,λn hn he=>h.ww n he hn⟩
theorem St.tmp_act (S:St) (o:Oper) (r:CW) (t:Tmp) (h:o.dst≠some t):(S.act o r).tmp t=S.tmp t:=by
 cases r with
 | none=>simp only[St.act,St.tmp_put,if_neg h]
 | some r=>simp only[St.act,St.tmp_put,if_neg h]
theorem St.en_act (S:St) (o:Oper) (r:CW) (n:th) (h:n∉xW r):wW (S.act o r).en n=wW S.en n:=by
 cases r with
 | none=>rfl
 | some r =>
  simp only[St.act,St.en_put];exact xV h
theorem CA.move {i:Nat} {o p:Oper} {r q:CW} (hl:∀d,p.dst=some d->¬G9 ops o d) (hr:∀n∈xW q,n∉Ak r):CA G rid ops (S.act p q) i o r↔CA G rid ops S i o r:=by
 have htm:∀t,G9 ops o t->(S.act p q).tmp t=S.tmp t:=λt ht=>St.tmp_act S p q t λhd=>hl t hd ht;have hev:∀x∈o.op.operands,(S.act p q).eval x=S.eval x:=λx hx=>by
  cases x with
  | tmp t=>exact htm t (.inl hx)
  | _=>rfl
 cases r with
 | none =>
  constructor
  · rintro⟨j,want,t,h1,h2,h3⟩;exact⟨j,want,t,h1,h2,by rw[←htm t (.inr ⟨j,want,h1,h2⟩)];exact h3⟩
  · rintro⟨j,want,t,h1,h2,h3⟩;exact⟨j,want,t,h1,h2,by rw[htm t (.inr ⟨j,want,h1,h2⟩)];exact h3⟩
 | some r =>
  have hw:KN ops (S.act p q) o↔KN ops S o:=by
   constructor
   · intro k j want hg;obtain⟨t,h1,h2⟩:=k j want hg;exact⟨t,h1,by rw[←htm t (.inr ⟨j,want,hg,h1⟩)];exact h2⟩
   · intro k j want hg;obtain⟨t,h1,h2⟩:=k j want hg;exact⟨t,h1,by rw[htm t (.inr ⟨j,want,hg,h1⟩)];exact h2⟩
  have hn:∀n∈r.2,wW (S.act p q).en n=wW S.en n:=λn hn=>St.en_act S p q n λhq=>hr n hq hn;simp only[CA,hw,JC hev];exact⟨λ⟨k1,k2⟩=>⟨k1,Rd.runs_local (λn h=>(hn n h).symm) k2⟩,λ⟨k1,k2⟩=>⟨k1,Rd.runs_local hn k2⟩⟩
theorem T4 (S:St) {x y:Oper} {rx ry:CW} (h:Ga ops x y rx ry):Al ((S.act x rx).act y ry) ((S.act y ry).act x rx):=by
 constructor
 · intro t;by_cases hx:x.dst=some t
   · rw[St.tmp_act _ y ry t (h.dd t hx)];have key:∀S':St,(S'.act x rx).tmp t=match rx with|some (e,_)=>e.val|none=>.cell .void:=λS'=>by
      cases rx with
      | none=>simp only[St.act,St.tmp_put,hx,if_true]
      | some r=>simp only[St.act,St.tmp_put,hx,if_true]
     rw[key,key]
   · rw[St.tmp_act (S.act y ry) x rx t hx];by_cases hy:y.dst=some t
     · have key:∀S':St,(S'.act y ry).tmp t=match ry with|some (e,_)=>e.val|none=>.cell .void:=λS'=>by
        cases ry with
        | none=>simp only[St.act,St.tmp_put,hy,if_true]
        | some r=>simp only[St.act,St.tmp_put,hy,if_true]
       rw[key,key]
     · rw[St.tmp_act _ y ry t hy,St.tmp_act _ x rx t hx,St.tmp_act _ y ry t hy]
 · intro n;by_cases hx:n∈xW rx
   · rw[St.en_act _ y ry n (h.ww n hx)];cases rx with
     | none=>simp[xW]at hx
     | some r=>simp only[St.act,St.en_put];rw[AE hx,AE hx]
   · rw[St.en_act (S.act y ry) x rx n hx];by_cases hy:n∈xW ry
     · cases ry with
       | none=>simp[xW]at hy
       | some r=>simp only[St.act,St.en_put];rw[AE hy,AE hy]
     · rw[St.en_act _ y ry n hy,St.en_act _ x rx n hx,St.en_act _ y ry n hy]
theorem Tr.swap {i j:Nat} {x y:Oper} {rx ry:CW} {l:List Ev} (h:Ga ops x y rx ry) (k:Tr G rid ops ((i,x,rx)::(j,y,ry)::l) S S'):Tr G rid ops ((j,y,ry)::(i,x,rx)::l) S S':=by
 obtain⟨k1,k2,k3⟩:=k;exact⟨(CA.move h.xy h.wr).1 k2,(CA.move h.yx h.rw).2 k1,Tr.same (T4 S h) k3⟩
theorem Tr.bubble {j:Nat} {y:Oper} {ry:CW} {l:List Ev}:∀{A:List Ev} {S:St},(∀p∈A,Ga ops p.2.1 y p.2.2 ry)->Tr G rid ops (A++(j,y,ry)::l) S S'->Tr G rid ops ((j,y,ry)::(A++l)) S S'
 | [],S,_,k=>k
 | (i,x,rx)::A,S,h,⟨k1,k2⟩=>by
  have k2:=Tr.bubble (A:=A) (λp hp=>h p (mem_cons_of_mem _ hp)) k2;exact Tr.swap (h (i,x,rx) mem_cons_self) ⟨k1,k2⟩
end Go.V
namespace Go.V
variable {G:yU} {uid rid:Nat} {en:List (th×Entry)} {e:y8} {L:List th} {ρ:Operand->AV}

def Cell.refs:Cell->List th | .own r=>[r] | .win r _ _=>[r] | .elem r _ _=>[r] | .box n _=>[n] | .fn _ caps=>caps | .sub r _ _=>[r] | .kid r _ _ _=>[r]|_=>[]
def zQ (D:th->Prop) (c:Cell):Prop:=∀n∈c.refs,D n
def AU (D:th->Prop):AV->Prop | .cell c=>zQ D c | .agg cs=>∀c∈cs,zQ D c | .tup _=>False
def A9 (D:th->Prop):AV->Prop | .tup vs=>∀v∈vs,AU D v|x=>AU D x
theorem zQ.mono {D D':th->Prop} (h:∀n,D n->D' n) {c:Cell} (k:zQ D c):zQ D' c:=λn hn=>h n (k n hn)
theorem AU.mono {D D':th->Prop} (h:∀n,D n->D' n) {x:AV} (k:AU D x):AU D' x:=by
 cases x with
 | cell c=>exact zQ.mono h k
 | agg cs=>exact λc hc=>zQ.mono h (k c hc)
 | tup _=>exact k.elim
theorem A9.mono {D D':th->Prop} (h:∀n,D n->D' n) {x:AV} (k:A9 D x):A9 D' x:=by
 cases x with
 | tup vs=>exact λv hv=>AU.mono h (k v hv)
 | cell c=>exact AU.mono (x:=.cell c) h k
 | agg cs=>exact AU.mono (x:=.agg cs) h k
theorem A9.cells {D:th->Prop} {x:AV} (k:A9 D x):∀c∈x.cells,zQ D c:=by
 cases x with
 | cell c=>intro c' hc;rw[show c'=c by simpa[AV.cells]using hc];exact k
 | agg cs=>exact k
 | tup _=>intro c hc;simp[AV.cells]at hc
def Jj (en:List (th×Entry)):Prop:=∀n cs,wW en n=some (.box cs)->∀c∈cs,zQ (dom en) c
structure xw (en:List (th×Entry)) (e:y8):Prop where
 val:A9 (dom (e.ents++en)) e.val
 box:∀n cs,(n,Entry.box cs)∈e.ents->∀c∈cs,zQ (dom (e.ents++en)) c
theorem AF (l en:List (th×Entry)):∀n,dom en n->dom (l++en) n:=λn h=>by
 unfold dom at h ⊢;rw[yf];cases wW l n<;>simp[h]
theorem xw.one {c:Cell} (hr:(one c).Runs (wW en) e L) (h:zQ (dom en) c):xw en e:=by
 obtain⟨rfl,_⟩:=hr;exact⟨h,by simp⟩
theorem xw.pure {x:AV} (h:A9 (dom en) x):xw en ⟨x,[]⟩:=⟨h,by simp⟩
theorem Fr {agg:Bool} {cs:List Cell} (hr:(EM agg cs).Runs (wW en) e L) (h:∀c∈cs,zQ (dom en) c):xw en e:=by
 unfold EM at hr;split at hr
 · obtain⟨rfl,_⟩:=hr;exact xw.pure h
 · exact xw.one hr (h _ (by simp))
 · exact hr.elim
theorem CT.cell_in {D:th->Prop} (c:CT) (x:c.den):zQ D (c.cell x):=by cases c<;>simp[CT.cell,zQ,Cell.refs]
theorem CT.treeCell_in {D:th->Prop} {r:th} {i j:Nat} (hr:D r) (c:CT) (x:c.den):zQ D (c.treeCell r i j x):=by
 cases c with
 | sl e=>intro n hn;simp[CT.treeCell,Cell.refs]at hn;subst hn;exact hr
 | int k=>exact CT.cell_in (.int k) x
 | bool=>exact CT.cell_in .bool x
 | str=>exact CT.cell_in .str x
 | err=>exact CT.cell_in .err x
theorem Cs.treeCells_in {D:th->Prop} {r:th} {i:Nat} (hr:D r):∀(e:Cs) (j:Nat) (x:e.den),∀c∈e.treeCells r i j x,zQ D c
 | .one c,j,x,d,hd=>by simp only[Cs.treeCells,mem_singleton]at hd;subst hd;exact CT.treeCell_in hr c x
 | .cons c s,j,x,d,hd=>by
  simp only[Cs.treeCells,mem_cons]at hd;rcases hd with rfl|hd
  · exact CT.treeCell_in hr c x.1
  · exact Cs.treeCells_in hr s (j+1) x.2 d hd
theorem CT.kidCell_in {D:th->Prop} {r:th} {j:Nat} (hr:D r) (c:CT) (x:c.den):zQ D (c.kidCell r j x):=by
 cases c with
 | sl e=>intro n hn;simp[CT.kidCell,Cell.refs]at hn;subst hn;exact hr
 | int k=>exact CT.cell_in (.int k) x
 | bool=>exact CT.cell_in .bool x
 | str=>exact CT.cell_in .str x
 | err=>exact CT.cell_in .err x
theorem Cs.kidCells_in {D:th->Prop} {r:th} (hr:D r):∀(e:Cs) (j:Nat) (x:e.den),∀c∈e.kidCells r j x,zQ D c
 | .one c,j,x,d,hd=>by simp only[Cs.kidCells,mem_singleton]at hd;subst hd;exact CT.kidCell_in hr c x
 | .cons c s,j,x,d,hd=>by
  simp only[Cs.kidCells,mem_cons]at hd;rcases hd with rfl|hd
  · exact CT.kidCell_in hr c x.1
  · exact Cs.kidCells_in hr s (j+1) x.2 d hd
theorem Cs.cells_in {D:th->Prop}:∀(e:Cs) (x:e.den),∀c∈e.cells x,zQ D c
 | .one c,x,d,hd=>by simp only[Cs.cells,mem_singleton]at hd;subst hd;exact CT.cell_in c x
 | .cons c r,x,d,hd=>by
  simp only[Cs.cells,mem_cons]at hd;rcases hd with rfl|hd
  · exact CT.cell_in c x.1
  · exact Cs.cells_in r x.2 d hd
theorem Cs.zero_in {D:th->Prop}:∀(e:Cs),∀c∈e.zeroCells,zQ D c
 | .one c,d,hd=>by simp only[Cs.zeroCells,mem_singleton]at hd;subst hd;cases c<;>simp[Fg,CT.cell,zQ,Cell.refs]
 | .cons c r,d,hd=>by
  simp only[Cs.zeroCells,mem_cons]at hd;rcases hd with rfl|hd
  · cases c<;>simp[Fg,CT.cell,zQ,Cell.refs]
  · exact Cs.zero_in r d hd
theorem Hj {cs:List Cell} {o n:Nat} {c:Cell} (h:c∈sub cs o n):c∈cs:=List.mem_of_mem_drop (List.mem_of_mem_take h)
theorem KO {cs vs:List Cell} {o:Nat} {c:Cell} (h:c∈setSub cs o vs):c∈cs\/c∈vs:=by
 unfold setSub at h;simp only[mem_append]at h;rcases h with (h|h)|h
 · exact .inl (List.mem_of_mem_take h)
 · exact .inr h
 · exact .inl (List.mem_of_mem_drop h)
theorem T5 {D:th->Prop} (v:Value):A9 D (H5 v):=by
 unfold H5;split<;>simp[A9,AU,zQ,Cell.refs,AV.undef]
theorem xA {D:th->Prop} {c:Cell} (h:c.refs=[]):zQ D c:=λn hn=>by rw[h]at hn;simp at hn
theorem Hk {v:AV} {news olds:List (th×Entry)} (hr:(CZ v news olds).Runs (wW en) e L) (hv:A9 (dom (news++olds++en)) v) (hb:∀n cs,(n,Entry.box cs)∈news++olds->∀c∈cs,zQ (dom (news++olds++en)) c):xw en e:=by
 obtain⟨rfl,_⟩:=Az hr;exact⟨hv,hb⟩
theorem Ft {n:th} {x:Entry} {l:List (th×Entry)}:dom ((n,x)::l) n:=yz.2 (.inl rfl)
theorem Ij {D:th->Prop} {fl:List (Nat×Nat)} {sz:Nat->Nat}:∀{parts:List (Nat×AV)} {cs cs':List Cell},BA fl sz cs parts=some cs'->(∀c∈cs,zQ D c)->(∀p∈parts,A9 D p.2)->∀c∈cs',zQ D c
 | [],cs,cs',h,hc,_=>by simp only[BA,Option.some.injEq]at h;subst h;exact hc
 | (i,v)::r,cs,cs',h,hc,hp=>by
  simp only[BA]at h;split at h
  · rename_i f _;cases hk:(Nat.beq v.cells.length (sz f.1)&&Nat.ble (f.2+v.cells.length) cs.length&&zj v.cells)with
    | false=>rw[hk]at h;cases h
    | true =>
     rw[hk]at h;refine Ij h (λc hc'=>?_) (λp hp'=>hp p (mem_cons_of_mem _ hp'));rcases KO hc' with h1|h1
     · exact hc c h1
     · exact (hp (i,v) mem_cons_self).cells c h1
  · cases h
end Go.V
namespace Go.V
variable {G:yU} {uid rid:Nat} {en:List (th×Entry)} {e:y8} {L:List th} {ρ:Operand->AV}

def NB (l:List (th×Entry)):Prop:=∀n cs,(n,Entry.box cs)∉l
theorem NB.nil:NB []:=λ_ _ h=>by simp at h
theorem NB.append {l m:List (th×Entry)} (h:NB l) (k:NB m):NB (l++m):=λn cs hm=>(mem_append.1 hm).elim (h n cs) (k n cs)
theorem NB.one {r:th} {E:Entry} (h:∀cs,E≠.box cs):NB [(r,E)]:=λn cs hm=>by
 simp only[mem_singleton,Prod.mk.injEq]at hm;exact h cs hm.2.symm
variable {F:th->Option Entry}
theorem T6 {kp:Bool} {c:Cs} {x:Cell} {y:List c.den×List (th×Entry)} (hr:(N2 kp c x).Runs F y L):NB y.2:=by
 unfold N2 at hr;split at hr
 · obtain⟨rfl,_⟩:=hr;exact NB.nil
 · obtain⟨L',_,hr⟩:=hr;dsimp only at hr;split at hr
   · split at hr
     · obtain⟨rfl,_⟩:=hr;exact NB.one (by cases kp<;>simp)
     · exact hr.elim
   · cases kp with
     | false=>exact hr.elim
     | true =>
      simp only[cT]at hr;split at hr
      · obtain⟨rfl,_⟩:=hr;exact NB.one (by simp)
      · exact hr.elim
   · exact hr.elim
 · exact hr.elim
theorem T7 {c:Cs} {x:Cell} {y:List c.den×List (th×Entry)} (hr:(EL c x).Runs F y L):NB y.2:=by
 unfold EL at hr;split at hr
 · obtain⟨L',_,hr⟩:=hr;dsimp only at hr;split at hr
   · split at hr
     · obtain⟨rfl,_⟩:=hr;exact NB.one (by simp)
     · exact hr.elim
   · split at hr
     · obtain⟨rfl,_⟩:=hr;exact NB.nil
     · exact hr.elim
   · split at hr
     · obtain⟨rfl,_⟩:=hr;exact NB.nil
     · exact hr.elim
   · exact hr.elim
 · obtain⟨L',_,hr⟩:=hr;dsimp only at hr;split at hr
   · split at hr
     · obtain⟨rfl,_⟩:=hr;exact NB.one (by simp)
     · exact hr.elim
   · exact hr.elim
 · split at hr
   · obtain⟨rfl,_⟩:=hr;exact NB.nil
   · exact hr.elim
 · split at hr
   · obtain⟨rfl,_⟩:=hr;exact NB.nil
   · exact hr.elim
 · obtain⟨rfl,_⟩:=hr;exact NB.nil
 · exact hr.elim
theorem Pv {c:Cs} {x:Cell} {y:List c.den×Option Bool×List (th×Entry)} (hr:(LN c x).Runs F y L):NB y.2.2:=by
 unfold LN at hr;split at hr
 · obtain⟨rfl,_⟩:=hr;exact NB.nil
 · obtain⟨L',_,hr⟩:=hr;dsimp only at hr;split at hr
   · split at hr
     · obtain⟨rfl,_⟩:=hr;exact NB.one (by simp)
     · exact hr.elim
   · exact hr.elim
 · obtain⟨L',_,hr⟩:=hr;dsimp only at hr;split at hr
   · split at hr
     · obtain⟨rfl,_⟩:=hr;exact NB.one (by simp)
     · exact hr.elim
   · exact hr.elim
 · exact hr.elim
theorem T8 {c:Cs} {x:Cell} {y:List c.den×List (th×Entry)} (hr:(N3 c x).Runs F y L):NB y.2:=by
 unfold N3 at hr;obtain⟨a,L1,L2,_,h1,rfl,_⟩:=Rd.runs_bind hr;exact Pv h1
theorem CT.into_nb {m kp:Bool} {c:CT} {x:Cell} {y:c.den×List (th×Entry)} (hr:(c.into m kp x).Runs F y L):NB y.2:=by
 cases c with
 | sl e =>
  cases m with
  | true=>exact T6 hr
  | false=>cases kp with
   | true=>exact T7 hr
   | false=>exact T8 hr
 | int=>simp only[CT.into]at hr;obtain⟨a,L1,L2,_,_,rfl,_⟩:=Rd.runs_bind hr;exact NB.nil
 | bool=>simp only[CT.into]at hr;obtain⟨a,L1,L2,_,_,rfl,_⟩:=Rd.runs_bind hr;exact NB.nil
 | str=>simp only[CT.into]at hr;obtain⟨a,L1,L2,_,_,rfl,_⟩:=Rd.runs_bind hr;exact NB.nil
 | err=>simp only[CT.into]at hr;obtain⟨a,L1,L2,_,_,rfl,_⟩:=Rd.runs_bind hr;exact NB.nil
theorem Cs.into_nb {m kp:Bool}:∀{c:Cs} {x:List Cell} {y:c.den×List (th×Entry)} {L:List th},(c.into m kp x).Runs F y L->NB y.2
 | .one c,[],_,_,hr=>hr.elim
 | .one c,[x],y,L,hr=>CT.into_nb hr
 | .one c,_::_::_,_,_,hr=>hr.elim
 | .cons c r,[],_,_,hr=>hr.elim
 | .cons c r,x::xs,y,L,hr=>by
  simp only[Cs.into]at hr;obtain⟨a,L1,L2,_,h1,hr⟩:=Rd.runs_bind hr;obtain⟨b,L3,L4,_,h2,hr⟩:=Rd.runs_bind hr;obtain⟨rfl,_⟩:=hr;exact (CT.into_nb h1).append (Cs.into_nb h2)
theorem Cs.intoO_nb {o:Option Bool} {c:Cs} {x:List Cell} {y:c.den×List (th×Entry)} {L:List th} (hr:(c.intoO o x).Runs F y L):NB y.2:=by
 cases o with
 | none=>exact Cs.into_nb hr
 | some m=>exact Cs.into_nb hr
theorem Cs.upd_nb {m:Bool}:∀{c:Cs} {z:c.den} {o:Nat} {x:List Cell} {y:c.den×List (th×Entry)} {L:List th},(c.upd m z o x).Runs F y L->NB y.2
 | .one c,z,0,[],y,L,hr=>by obtain⟨rfl,_⟩:=hr;exact NB.nil
 | .one c,z,o+1,[],y,L,hr=>by obtain⟨rfl,_⟩:=hr;exact NB.nil
 | .cons c r,z,0,[],y,L,hr=>by obtain⟨rfl,_⟩:=hr;exact NB.nil
 | .cons c r,z,o+1,[],y,L,hr=>by obtain⟨rfl,_⟩:=hr;exact NB.nil
 | .one c,z,0,[x],y,L,hr=>CT.into_nb hr
 | .one c,z,0,_::_::_,y,L,hr=>hr.elim
 | .one c,z,o+1,_::_,y,L,hr=>hr.elim
 | .cons c r,z,0,x::xs,y,L,hr=>by
  simp only[Cs.upd]at hr;obtain⟨a,L1,L2,_,h1,hr⟩:=Rd.runs_bind hr;obtain⟨b,L3,L4,_,h2,hr⟩:=Rd.runs_bind hr;obtain⟨rfl,_⟩:=hr;exact (CT.into_nb h1).append (Cs.upd_nb h2)
 | .cons c r,z,o+1,x::xs,y,L,hr=>by
  simp only[Cs.upd]at hr;obtain⟨b,L3,L4,_,h2,hr⟩:=Rd.runs_bind hr;obtain⟨rfl,_⟩:=hr;show NB b.2
  exact Cs.upd_nb h2
theorem UA {c:Cs} {x:Cell} {y:List c.den×Option Bool×List (th×Entry)} (hr:(Ni c x).Runs F y L):NB y.2.2:=by
 unfold Ni at hr;cases hs:c.hasSl with
 | false =>
  rw[hs]at hr;obtain⟨xs,L1,L2,_,_,rfl,_⟩:=Rd.runs_bind hr;exact NB.nil
 | true =>
  rw[hs]at hr;simp only[cT]at hr;split at hr
  · obtain⟨L',_,hr⟩:=hr;dsimp only at hr;split at hr
    · split at hr
      · obtain⟨rfl,_⟩:=hr;exact NB.one (by simp)
      · exact hr.elim
    · split at hr
      · obtain⟨rfl,_⟩:=hr;exact NB.nil
      · exact hr.elim
    · exact hr.elim
  · split at hr
    · obtain⟨rfl,_⟩:=hr;exact NB.nil
    · exact hr.elim
  · obtain⟨L',_,hr⟩:=hr;dsimp only at hr;split at hr
    · split at hr
      · obtain⟨rfl,_⟩:=hr;exact NB.nil
      · exact hr.elim
    · exact hr.elim
  · obtain⟨rfl,_⟩:=hr;exact NB.nil
  · exact hr.elim
theorem NG {c:Cs} {m:Bool} {parts:List (Nat×AV)}:∀{n i:Nat} {y:List c.den×List (th×Entry)} {L:List th},(G5 c m parts n i).Runs F y L->NB y.2
 | 0,i,y,L,hr=>by obtain⟨rfl,_⟩:=hr;exact NB.nil
 | n+1,i,y,L,hr=>by
  simp only[G5]at hr;obtain⟨a,L1,L2,_,h1,hr⟩:=Rd.runs_bind hr;obtain⟨b,L3,L4,_,h2,hr⟩:=Rd.runs_bind hr;obtain⟨rfl,_⟩:=hr;exact (Cs.into_nb h1).append (NG h2)

theorem CT.give_in {mm:Bool} {n:th} (c:CT) (x:c.den):NB (c.give mm n x).2/\zQ (dom (c.give mm n x).2) (c.give mm n x).1:=by
 cases c with
 | sl e=>exact⟨NB.one (by simp),λm hm=>by simp[CT.give,Cell.refs]at hm;subst hm;exact Ft⟩
 | int=>exact⟨NB.nil,xA rfl⟩
 | bool=>exact⟨NB.nil,xA rfl⟩
 | str=>exact⟨NB.nil,xA rfl⟩
 | err=>exact⟨NB.nil,xA rfl⟩
theorem Ca {l m:List (th×Entry)} {n:th} (h:dom l n):dom (l++m) n:=by
 unfold dom at h ⊢;rw[yf];cases hf:wW l n with
 | none=>exact absurd hf h
 | some x=>simp
theorem BG {l m:List (th×Entry)} {n:th} (h:dom m n):dom (l++m) n:=AF l m n h
theorem Cs.give_in {mm:Bool}:∀(n:th) (c:Cs) (x:c.den),NB (c.give mm n x).2/\∀d∈(c.give mm n x).1,zQ (dom (c.give mm n x).2) d
 | n,.one c,x=>by
  obtain⟨h1,h2⟩:=CT.give_in (mm:=mm) (n:=n) c x;exact⟨h1,λd hd=>by simp only[Cs.give,mem_singleton]at hd;subst hd;exact h2⟩
 | n,.cons c r,x=>by
  obtain⟨h1,h2⟩:=CT.give_in (mm:=mm) (n:=n) c x.1;obtain⟨h3,h4⟩:=Cs.give_in (n+1) r x.2;refine⟨h1.append h3,λd hd=>?_⟩;simp only[Cs.give,mem_cons]at hd;rcases hd with rfl|hd
  · exact h2.mono λ_ h=>Ca h
  · exact (h4 d hd).mono λ_ h=>BG h
theorem E5 (own:Option Bool) (n:th) (c:Cs) (x:c.den):NB (zJ own n c x).2/\∀d∈(zJ own n c x).1,zQ (dom (zJ own n c x).2) d:=by
 cases own with
 | some m=>exact Cs.give_in n c x
 | none=>exact⟨NB.nil,Cs.cells_in c x⟩
theorem CT.giveF_in {n:th} (c:CT) (x:c.den):NB (c.giveF n x).2/\zQ (dom (c.giveF n x).2) (c.giveF n x).1:=by
 cases c with
 | sl e=>exact⟨NB.one (by simp),λm hm=>by simp[CT.giveF,Cell.refs]at hm;subst hm;exact Ft⟩
 | int=>exact⟨NB.nil,xA rfl⟩
 | bool=>exact⟨NB.nil,xA rfl⟩
 | str=>exact⟨NB.nil,xA rfl⟩
 | err=>exact⟨NB.nil,xA rfl⟩
theorem Cs.giveF_in:∀(n:th) (c:Cs) (x:c.den),NB (Cs.giveF n c x).2/\∀d∈(Cs.giveF n c x).1,zQ (dom (Cs.giveF n c x).2) d
 | n,.one c,x=>by
  obtain⟨h1,h2⟩:=CT.giveF_in (n:=n) c x;exact⟨h1,λd hd=>by simp only[Cs.giveF,mem_singleton]at hd;subst hd;exact h2⟩
 | n,.cons c r,x=>by
  obtain⟨h1,h2⟩:=CT.giveF_in (n:=n) c x.1;obtain⟨h3,h4⟩:=Cs.giveF_in (n+1) r x.2;refine⟨h1.append h3,λd hd=>?_⟩;simp only[Cs.giveF,mem_cons]at hd;rcases hd with rfl|hd
  · exact h2.mono λ_ h=>Ca h
  · exact (h4 d hd).mono λ_ h=>BG h
end Go.V
namespace Go.V
variable {G:yU} {uid rid:Nat} {en:List (th×Entry)} {e:y8} {L:List th} {ρ:Operand->AV} {F:th->Option Entry}

theorem Hl {D:th->Prop} {agg:Bool} {cs:List Cell} (h:∀c∈cs,zQ D c):AU D (Ah agg cs):=by
 unfold Ah;split
 · exact h _ (by simp)
 · exact h
structure Pw (bs:List th) (g:Q9):Prop where
 vals:∀v∈g.vals,AU (dom (g.upds++g.news)) v
 news:∀n cs,(n,Entry.box cs)∈g.news->∀c∈cs,zQ (dom (g.upds++g.news)) c
 upds:∀n cs,(n,Entry.box cs)∈g.upds->∀c∈cs,zQ (dom (g.upds++g.news)) c
theorem BZ {l:List (th×Entry)} {n:th}:dom l n↔n∈l.map (·.1):=Av.symm
theorem zQ.sub {l m:List (th×Entry)} (h:∀n,n∈l.map (·.1)->n∈m.map (·.1)) {c:Cell} (k:zQ (dom l) c):zQ (dom m) c:=λn hn=>BZ.2 (h n (BZ.1 (k n hn)))
theorem AU.sub {l m:List (th×Entry)} (h:∀n,n∈l.map (·.1)->n∈m.map (·.1)) {c:AV} (k:AU (dom l) c):AU (dom m) c:=k.mono λn hn=>BZ.2 (h n (BZ.1 hn))
theorem ER {bs:List th}:∀(n:th) (rs:List yY) (x:xc (xZ rs)),Pw bs (xB n rs x)
 | n,[],x=>⟨by simp[xB],by simp[xB],by simp[xB]⟩
 | n,.val agg c own::rs,x=>by
  obtain⟨h1,h2,h3⟩:=ER (bs:=bs) (n+64) rs (xc.tl c (xZ rs) x);obtain⟨k1,k2⟩:=E5 own n c (xc.hd c (xZ rs) x);refine⟨λv hv=>?_,λm cs hm d hd=>?_,λm cs hm d hd=>?_⟩
  · simp only[xB,mem_cons]at hv;rcases hv with rfl|hv
    · exact (Hl k2).sub (by simp +contextual [xB])
    · refine (h1 v hv).sub ?_;intro z hz;simp only[xB,map_append,mem_append]at hz ⊢;rcases hz with h|h<;>simp[h]
  · simp only[xB,mem_append]at hm;rcases hm with hm|hm
    · exact absurd hm (k1 m cs)
    · refine (h2 m cs hm d hd).sub ?_;intro z hz;simp only[xB,map_append,mem_append]at hz ⊢;rcases hz with h|h<;>simp[h]
  · refine (h3 m cs hm d hd).sub ?_;intro z hz;simp only[xB,map_append,mem_append]at hz ⊢;rcases hz with h|h<;>simp[h]
 | n,.ptr c own::rs,x=>by
  obtain⟨h1,h2,h3⟩:=ER (bs:=bs) (n+64) rs (xc.tl c (xZ rs) x);obtain⟨k1,k2⟩:=E5 own (n+1) c (xc.hd c (xZ rs) x);refine⟨λv hv=>?_,λm cs hm d hd=>?_,λm cs hm d hd=>?_⟩
  · simp only[xB,mem_cons]at hv;rcases hv with rfl|hv
    · intro z hz;simp only[Cell.refs,mem_singleton]at hz;subst hz;exact BZ.2 (by simp[xB])
    · refine (h1 v hv).sub ?_;intro z hz;simp only[xB,map_append,map_cons,mem_append,mem_cons]at hz ⊢;rcases hz with h|h<;>simp[h]
  · simp only[xB,mem_cons,mem_append,Prod.mk.injEq]at hm;rcases hm with ⟨rfl,hb⟩|hm|hm
    · cases hb;refine (k2 d hd).sub ?_;intro z hz;simp only[xB,map_append,map_cons,mem_append,mem_cons];simp[hz]
    · exact absurd hm (k1 m cs)
    · refine (h2 m cs hm d hd).sub ?_;intro z hz;simp only[xB,map_append,map_cons,mem_append,mem_cons]at hz ⊢;rcases hz with h|h<;>simp[h]
  · refine (h3 m cs hm d hd).sub ?_;intro z hz;simp only[xB,map_append,map_cons,mem_append,mem_cons]at hz ⊢;rcases hz with h|h<;>simp[h]
 | n,.cold agg c::rs,x=>by
  obtain⟨h1,h2,h3⟩:=ER (bs:=bs) (n+64) rs (xc.tl c (xZ rs) x);obtain⟨k1,k2⟩:=Cs.giveF_in n c (xc.hd c (xZ rs) x);refine⟨λv hv=>?_,λm cs hm d hd=>?_,λm cs hm d hd=>?_⟩
  · simp only[xB,mem_cons]at hv;rcases hv with rfl|hv
    · exact (Hl k2).sub (by simp +contextual [xB])
    · refine (h1 v hv).sub ?_;intro z hz;simp only[xB,map_append,mem_append]at hz ⊢;rcases hz with h|h<;>simp[h]
  · simp only[xB,mem_append]at hm;rcases hm with hm|hm
    · exact absurd hm (k1 m cs)
    · refine (h2 m cs hm d hd).sub ?_;intro z hz;simp only[xB,map_append,mem_append]at hz ⊢;rcases hz with h|h<;>simp[h]
  · refine (h3 m cs hm d hd).sub ?_;intro z hz;simp only[xB,map_append,mem_append]at hz ⊢;rcases hz with h|h<;>simp[h]
theorem DN:∀(n:th) (ps:List yj) (rs:List yY) (bs:List th) (x:xc (yD ps rs)),Pw bs (xg n ps rs bs x)
 | n,[],rs,bs,x=>ER n rs x
 | n,.val _ _ _::ps,rs,bs,x=>DN n ps rs bs x
 | n,.ptr c own::ps,rs,[],x=>⟨by simp[xg],by simp[xg],by simp[xg]⟩
 | n,.ptr c own::ps,rs,b::bs,x=>by
  obtain⟨h1,h2,h3⟩:=DN (n+64) ps rs bs (xc.tl c (yD ps rs) x);obtain⟨k1,k2⟩:=E5 own n c (xc.hd c (yD ps rs) x);refine⟨λv hv=>?_,λm cs hm d hd=>?_,λm cs hm d hd=>?_⟩
  · refine (h1 v hv).sub ?_;intro z hz;simp only[xg,map_append,map_cons,mem_append,mem_cons]at hz ⊢;rcases hz with h|h<;>simp[h]
  · simp only[xg,mem_append]at hm;rcases hm with hm|hm
    · exact absurd hm (k1 m cs)
    · refine (h2 m cs hm d hd).sub ?_;intro z hz;simp only[xg,map_append,map_cons,mem_append,mem_cons]at hz ⊢;rcases hz with h|h<;>simp[h]
  · simp only[xg,mem_cons,Prod.mk.injEq]at hm;rcases hm with ⟨rfl,hb⟩|hm
    · cases hb;refine (k2 d hd).sub ?_;intro z hz;simp only[xg,map_append,map_cons,mem_append,mem_cons];simp[hz]
    · refine (h3 m cs hm d hd).sub ?_;intro z hz;simp only[xg,map_append,map_cons,mem_append,mem_cons]at hz ⊢;rcases hz with h|h<;>simp[h]
theorem Em {sl:Bool}:∀{ps:List yj} {vs:List AV} {b:HE (xz ps)} {L:List th},(yH sl ps vs).Runs F b L->NB b.used
 | [],[],b,L,hr=>by obtain⟨rfl,_⟩:=hr;exact NB.nil
 | .val _ c false::ps,v::vs,b,L,hr=>by
  simp only[yH]at hr;obtain⟨_,L5,L6,_,_,hr⟩:=Rd.runs_bind hr;obtain⟨a,L1,L2,_,h1,hr⟩:=Rd.runs_bind hr;obtain⟨b',L3,L4,_,h2,hr⟩:=Rd.runs_bind hr;obtain⟨rfl,_⟩:=hr;refine NB.append ?_ (Em h2);cases sl with
  | true=>exact Cs.into_nb h1
  | false =>
   obtain⟨a',_,_,_,_,h1⟩:=Rd.runs_bind h1;obtain⟨rfl,_⟩:=h1;exact NB.nil
 | .val _ c true::ps,v::vs,b,L,hr=>by
  simp only[yH]at hr;obtain⟨_,L5,L6,_,_,hr⟩:=Rd.runs_bind hr;obtain⟨a,L1,L2,_,h1,hr⟩:=Rd.runs_bind hr;obtain⟨b',L3,L4,_,h2,hr⟩:=Rd.runs_bind hr;obtain⟨rfl,_⟩:=hr;exact (Cs.into_nb h1).append (Em h2)
 | .ptr c own::ps,.cell (.box n 0)::vs,b,L,hr=>by
  simp only[yH]at hr;obtain⟨L',_,hr⟩:=hr;dsimp only at hr;split at hr
  · obtain⟨a,L1,L2,_,h1,hr⟩:=Rd.runs_bind hr;obtain⟨b',L3,L4,_,h2,hr⟩:=Rd.runs_bind hr;obtain⟨rfl,_⟩:=hr;exact NB.append (NB.one (by simp)) ((Cs.intoO_nb h1).append (Em h2))
  · exact hr.elim
end Go.V
namespace Go.V
variable {G:yU} {uid rid:Nat} {en:List (th×Entry)} {e:y8} {L:List th} {ρ:Operand->AV} {F:th->Option Entry}

theorem Hm {uid:th} {c:Cs} {m:Bool} {xs:List c.den} {olds:List (th×Entry)} (hr:(CZ (.cell (.own uid)) [(uid,.root c m xs)] olds).Runs (wW en) e L) (h:NB olds):xw en e :=
 Hk hr (λn hn=>by simp only[Cell.refs,mem_singleton]at hn;subst hn;exact Ft) (λn cs hm=>by
  simp only[mem_append,mem_singleton,Prod.mk.injEq]at hm;rcases hm with ⟨_,hm⟩|hm
  · cases hm
  · exact absurd hm (h n cs))
theorem RB {uid:th} {cs:List Cell} (hr:(CZ (.cell (.box uid 0)) [(uid,.box cs)] []).Runs (wW en) e L) (h:∀c∈cs,zQ (dom en) c):xw en e :=
 Hk hr (λn hn=>by simp only[Cell.refs,mem_singleton]at hn;subst hn;exact Ft) (λn cs' hm c hc=>by
  simp only[append_nil,mem_singleton,Prod.mk.injEq]at hm;obtain⟨rfl,hm⟩:=hm;cases hm;exact (h c hc).mono (AF _ _))
theorem RC {op:BinOp} {k:IntKind} {a b:Int} (hr:(H6 op k a b).Runs (wW en) e L):xw en e:=by
 unfold H6 at hr;split at hr<;>first
  | exact xw.one hr (xA rfl)
  | (obtain⟨n,_,hr⟩:=hr;exact xw.one hr (xA rfl))
  | exact hr.elim
theorem RD {t:xD} {op:BinOp} {yc:Bool} {x y:AV} (hr:(AL t op yc x y).Runs (wW en) e L):xw en e:=by
 unfold AL at hr;split at hr
 case h_1=>obtain⟨n,_,hr⟩:=hr;exact xw.one hr (xA rfl)
 case h_2=>obtain⟨n,_,hr⟩:=hr;exact xw.one hr (xA rfl)
 case h_3 k a j b _ _ =>
  cases hk:Nat.beq (yv j) (yv k)with
  | false=>rw[hk]at hr;exact hr.elim
  | true=>rw[hk]at hr;exact RC hr
 case h_4=>obtain⟨n,_,hr⟩:=hr;exact xw.one hr (xA rfl)
 case h_5=>exact xw.one hr (xA rfl)
 case h_6=>exact xw.one hr (xA rfl)
 case h_7 =>
  split at hr
  · exact xw.one hr (xA rfl)
  · exact hr.elim
 case h_8 =>
  split at hr
  · exact xw.one hr (xA rfl)
  · exact hr.elim
 case h_9 =>
  split at hr
  · cases yc with
    | true=>exact xw.one hr (xA rfl)
    | false=>exact hr.elim
  · exact hr.elim
 case h_10 =>
  split at hr
  · cases yc with
    | true=>exact xw.one hr (xA rfl)
    | false=>exact hr.elim
  · exact hr.elim
 case h_11 =>
  cases ht:t.agg with
  | false=>rw[ht]at hr;exact hr.elim
  | true =>
   rw[ht]at hr;simp only[cT]at hr;split at hr
   · exact xw.one hr (xA rfl)
   · exact hr.elim
 case h_12 =>
  cases ht:t.agg with
  | false=>rw[ht]at hr;exact hr.elim
  | true =>
   rw[ht]at hr;simp only[cT]at hr;split at hr
   · exact xw.one hr (xA rfl)
   · exact hr.elim
 case h_13=>exact hr.elim
theorem RE {x:AV} (hr:(Iv x).Runs (wW en) e L):xw en e:=by
 unfold Iv at hr;split at hr
 · exact xw.one hr (xA rfl)
 · exact xw.one hr (xA rfl)
 · exact xw.one hr (xA rfl)
 · obtain⟨L',_,hr⟩:=hr;dsimp only at hr;split at hr
   · exact xw.one hr (xA rfl)
   · exact xw.one hr (xA rfl)
   · exact xw.one hr (xA rfl)
   · exact xw.one hr (xA rfl)
   · exact hr.elim
 · obtain⟨L',_,hr⟩:=hr;dsimp only at hr;split at hr
   · exact xw.one hr (xA rfl)
   · exact hr.elim
 · exact hr.elim
theorem KP {c:Cs} {x i:AV} (hx:A9 (dom en) x) (hr:(DC c x i).Runs (wW en) e L):xw en e:=by
 unfold DC at hr;split at hr
 · rename_i f xs _ i;cases hk:yI f c with
   | false=>rw[hk]at hr;exact hr.elim
   | true=>rw[hk]at hr;obtain⟨v,_,hr⟩:=hr;exact xw.one hr (xA rfl)
 · rename_i r _ i;obtain⟨L',_,hr⟩:=hr;dsimp only at hr;split at hr
   · rename_i f _ xs _;cases hk:yI f c with
     | false=>rw[hk]at hr;exact hr.elim
     | true=>rw[hk]at hr;obtain⟨v,_,hr⟩:=hr;exact xw.one hr (λn hn=>hx n hn)
   · rename_i f xs _;cases hk:yI f c with
     | false=>rw[hk]at hr;exact hr.elim
     | true=>rw[hk]at hr;obtain⟨v,_,hr⟩:=hr;exact xw.one hr (λn hn=>hx n hn)
   · rename_i f xs _;cases hk:yI f c with
     | false=>rw[hk]at hr;exact hr.elim
     | true=>rw[hk]at hr;obtain⟨v,_,hr⟩:=hr;exact xw.one hr (λn hn=>hx n hn)
   · rename_i f xs _;cases hk:yI f c with
     | false=>rw[hk]at hr;exact hr.elim
     | true=>rw[hk]at hr;obtain⟨v,_,hr⟩:=hr;exact xw.one hr (xA rfl)
   · exact hr.elim
 · rename_i r lo hi _ i;obtain⟨L',_,hr⟩:=hr;dsimp only at hr;split at hr
   · rename_i f _ xs _;cases hk:yI f c with
     | false=>rw[hk]at hr;exact hr.elim
     | true=>rw[hk]at hr;obtain⟨v,_,hr⟩:=hr;exact xw.one hr (λn hn=>hx n hn)
   · exact hr.elim
 · exact hr.elim
theorem Qu {t:xD} {x:AV} (hb:Jj en) (hr:(Jd t x).Runs (wW en) e L):xw en e:=by
 unfold Jd at hr;split at hr
 · rename_i n off;obtain⟨L',_,hr⟩:=hr;dsimp only at hr;split at hr
   · rename_i cs hn;cases hk:Nat.ble (off+t.cs.len) cs.length with
     | false=>rw[hk]at hr;exact hr.elim
     | true=>rw[hk]at hr;exact Fr hr λc hc=>hb n cs hn c (Hj hc)
   · exact hr.elim
 · rename_i f y off;cases hk:Nat.ble (off+t.cs.len) f.len with
   | false=>rw[hk]at hr;exact hr.elim
   | true=>rw[hk]at hr;exact Fr hr λc hc=>Cs.cells_in f y c (Hj hc)
 · rename_i r i off;obtain⟨L',_,hr⟩:=hr;dsimp only at hr;split at hr
   · rename_i f m xs hn;cases hk:Nat.ble (off+t.cs.len) f.len with
     | false=>rw[hk]at hr;exact hr.elim
     | true=>rw[hk]at hr;obtain⟨y,_,hr⟩:=hr;exact Fr hr λc hc=>Cs.cells_in f y c (Hj hc)
   · rename_i f xs hn;cases hk:Nat.ble (off+t.cs.len) f.len with
     | false=>rw[hk]at hr;exact hr.elim
     | true =>
      rw[hk]at hr;obtain⟨y,_,hr⟩:=hr;exact Fr hr λc hc=>Cs.treeCells_in (by unfold dom;rw[hn];simp) f 0 y c (Hj hc)
   · rename_i f xs hn;cases hk:Nat.ble (off+t.cs.len) f.len with
     | false=>rw[hk]at hr;exact hr.elim
     | true =>
      rw[hk]at hr;obtain⟨y,_,hr⟩:=hr;exact Fr hr λc hc=>Cs.kidCells_in (by unfold dom;rw[hn];simp) f 0 y c (Hj hc)
   · exact hr.elim
 · exact hr.elim
theorem P0 {t:xD} {x v:AV} (hb:Jj en) (hv:A9 (dom en) v) (hr:(HA t x v).Runs (wW en) e L):xw en e:=by
 unfold HA at hr;cases hk:(Nat.beq v.cells.length t.cs.len&&zj v.cells)with
 | false=>rw[hk]at hr;exact hr.elim
 | true =>
  rw[hk]at hr;simp only[cT]at hr;split at hr
  · rename_i n off;obtain⟨L',_,hr⟩:=hr;dsimp only at hr;split at hr
    · rename_i cs hn;cases hk:Nat.ble (off+t.cs.len) cs.length with
      | false=>rw[hk]at hr;exact hr.elim
      | true =>
       rw[hk]at hr;obtain⟨rfl,_⟩:=hr;refine⟨xA rfl,λm cs' hm c hc=>?_⟩;simp only[mem_singleton,Prod.mk.injEq]at hm;obtain⟨rfl,hm⟩:=hm;cases hm;rcases KO hc with h|h
       · exact (hb _ cs hn c h).mono (AF _ _)
       · exact (hv.cells c h).mono (AF _ _)
    · exact hr.elim
  · rename_i r i off;obtain⟨L',_,hr⟩:=hr;dsimp only at hr;split at hr
    · rename_i f m xs hn;cases hk:Nat.ble (off+t.cs.len) f.len with
      | false=>rw[hk]at hr;exact hr.elim
      | true =>
       rw[hk]at hr;obtain⟨y,_,hr⟩:=hr;obtain⟨q,L1,L2,_,hq,hr⟩:=Rd.runs_bind hr;obtain⟨_,L3,L4,_,_,hr⟩:=Rd.runs_bind hr;obtain⟨rfl,_⟩:=hr;refine⟨xA rfl,λm' cs' hm c hc=>?_⟩;simp only[mem_cons,Prod.mk.injEq]at hm;rcases hm with ⟨_,hm⟩|hm
       · cases hm
       · exact absurd hm (Cs.upd_nb hq m' cs')
    · rename_i f xs hn;cases hk:(Nat.ble (off+t.cs.len) f.len&&v.cells.all Cell.flat)with
      | false=>rw[hk]at hr;exact hr.elim
      | true =>
       rw[hk]at hr;obtain⟨y,_,hr⟩:=hr;obtain⟨q,L1,L2,_,hq,hr⟩:=Rd.runs_bind hr;split at hr
       · obtain⟨rfl,_⟩:=hr;exact⟨xA rfl,λm' cs' hm c hc=>by simp only[mem_singleton,Prod.mk.injEq]at hm;cases hm.2⟩
       · exact hr.elim
    · exact hr.elim
  · exact hr.elim
end Go.V
namespace Go.V
variable {G:yU} {uid rid:Nat} {en:List (th×Entry)} {e:y8} {L:List th} {ρ:Operand->AV} {F:th->Option Entry}

theorem ES {α:Type} {d:Option AV} {h:Option AV} {a b:Option Int} {f:Int->Int->Option α} {g:α->Rd y8} (hr:((Cq d a).bind λl=>(Cq h b).bind λr=>.opt (f l r) g).Runs (wW en) e L) (hg:∀x L,(g x).Runs (wW en) e L->xw en e):xw en e:=by
 obtain⟨_,L1,L2,_,_,hr⟩:=Rd.runs_bind hr;obtain⟨_,L3,L4,_,_,hr⟩:=Rd.runs_bind hr;obtain⟨x,_,hr⟩:=hr;exact hg x _ hr
theorem P3 {t:xD} {x:AV} {lo hi:Option AV} (hx:A9 (dom en) x) (hr:(HB t x lo hi).Runs (wW en) e L):xw en e:=by
 unfold HB at hr;split at hr
 · exact ES hr λx L h=>xw.one h (xA rfl)
 · rename_i c f xs _ _;cases hk:yI f c with
   | false=>rw[hk]at hr;exact hr.elim
   | true=>rw[hk]at hr;exact ES hr λx L h=>xw.one h (xA rfl)
 · rename_i c r _ _;obtain⟨L',_,hr⟩:=hr;dsimp only at hr;split at hr
   · rename_i f _ xs _;cases hk:yI f c with
     | false=>rw[hk]at hr;exact hr.elim
     | true=>rw[hk]at hr;exact ES hr λx L h=>xw.one h (λn hn=>hx n hn)
   · rename_i f xs _;cases hk:yI f c with
     | false=>rw[hk]at hr;exact hr.elim
     | true=>rw[hk]at hr;exact ES hr λx L h=>xw.one h (xA rfl)
   · exact hr.elim
 · exact hr.elim
theorem MX {src dst:xD} {sb db:Bool} {x:AV} (hr:(DD uid src sb dst db x).Runs (wW en) e L):xw en e:=by
 unfold DD at hr;split at hr
 · exact xw.one hr (xA rfl)
 · exact xw.one hr (xA rfl)
 · split at hr
   · cases sb with
     | true=>obtain⟨_,L1,L2,_,_,hr⟩:=Rd.runs_bind hr;exact xw.one hr (xA rfl)
     | false=>exact hr.elim
   · exact hr.elim
 · split at hr
   · cases db with
     | true=>exact Hm hr NB.nil
     | false=>exact hr.elim
   · exact hr.elim
 · exact hr.elim
theorem P4 {r:th} (hr:(Nj uid r).Runs (wW en) e L):xw en e:=by
 obtain⟨L',_,hr⟩:=hr;dsimp only at hr;split at hr
 · split at hr
   · exact Hm hr (by intro n cs h;simp at h)
   · exact hr.elim
 · exact hr.elim
theorem NH {c:Cs} {x y:AV} (hr:(G4 uid c x y).Runs (wW en) e L):xw en e:=by
 unfold G4 at hr;split at hr
 · split at hr
   · unfold LO at hr;obtain⟨L',_,hr⟩:=hr;dsimp only at hr;split at hr
     · split at hr
       · obtain⟨zs,_,hr⟩:=hr;exact Hm hr (by intro n cs h;simp at h)
       · exact hr.elim
     · exact hr.elim
   obtain⟨A,L1,L2,_,hA,hr⟩:=Rd.runs_bind hr;obtain⟨B,L3,L4,_,hB,hr⟩:=Rd.runs_bind hr;obtain⟨_,L5,L6,_,hd,hr⟩:=Rd.runs_bind hr;split at hr
   · obtain⟨zs,_,hr⟩:=hr;exact Hm hr ((Pv hA).append (UA hB))
   · exact hr.elim
 · exact hr.elim
theorem JX {c:Cs} {n:Nat} {parts:List (Nat×AV)} (hr:(D8 uid c n parts).Runs (wW en) e L):xw en e:=by
 unfold D8 at hr;cases hk:(Nat.ble (n*c.len) 16777216&&CI n 0 parts&&parts.all λp=>Nat.beq p.2.cells.length c.len&&zj p.2.cells)with
 | false=>rw[hk]at hr;exact hr.elim
 | true =>
  rw[hk]at hr;obtain⟨y,L1,L2,_,h1,hr⟩:=Rd.runs_bind hr;obtain⟨_,L3,L4,_,hd,hr⟩:=Rd.runs_bind hr;exact Hm hr (NG h1)
theorem Qv {Fn':Fn} {args:List AV} (hr:(H7 uid Fn' args).Runs (wW en) e L):xw en e:=by
 unfold H7 at hr;obtain⟨b,L1,L2,_,h1,hr⟩:=Rd.runs_bind hr;obtain⟨_,L3,L4,_,_,hr⟩:=Rd.runs_bind hr;obtain⟨r,_,hr⟩:=hr;have hnb:=Em h1
 obtain⟨k1,k2,k3⟩:=DN uid Fn'.ps Fn'.rs b.ptrs r;have hsub:∀n,dom ((xg uid Fn'.ps Fn'.rs b.ptrs r).upds++(xg uid Fn'.ps Fn'.rs b.ptrs r).news) n->dom ((xg uid Fn'.ps Fn'.rs b.ptrs r).news++((xg uid Fn'.ps Fn'.rs b.ptrs r).upds++b.used)++en) n:=λn hn=>by
  rw[BZ]at hn ⊢;simp only[map_append,mem_append]at hn ⊢;rcases hn with h|h<;>simp[h]
 refine Hk hr ?_ (λn cs hm c hc=>?_)
 · have hv:∀v∈(xg uid Fn'.ps Fn'.rs b.ptrs r).vals,AU (dom ((xg uid Fn'.ps Fn'.rs b.ptrs r).news++((xg uid Fn'.ps Fn'.rs b.ptrs r).upds++b.used)++en)) v:=λv hv=>(k1 v hv).mono hsub;split
   · rename_i v hq;have:=hv v (by rw[hq];simp)
     cases v with
     | cell c=>exact this
     | agg cs=>exact this
     | tup _=>exact this.elim
   · exact hv
 · simp only[mem_append]at hm;rcases hm with h|h|h
   · exact (k2 n cs h c hc).mono hsub
   · exact (k3 n cs h c hc).mono hsub
   · exact absurd h (hnb n cs)
theorem RF {l:List (th×Entry)} {n:th} {cs:List Cell} (h:(n,Entry.box cs)∈ya l):(n,Entry.box cs)∈l:=by
 obtain⟨p,hp,he⟩:=mem_map.1 h;obtain⟨m,f⟩:=p;simp only[Prod.mk.injEq]at he;obtain⟨rfl,he⟩:=he;cases f with
 | root e m xs=>cases m<;>cases he
 | box ds=>cases he;exact hp
 | gone=>cases he
 | fwd _ _=>cases he
 | tree _ _=>cases he
 | frz _ _=>cases he
theorem P5 {Fn':Fn} {args:List AV} (hr:(Fh uid Fn' args).Runs (wW en) e L):xw en e:=by
 unfold Fh at hr;cases hk:(zh Fn'.ps&&H8 Fn'.rs)with
 | false=>rw[hk]at hr;exact hr.elim
 | true =>
  rw[hk]at hr;obtain⟨x,L1,L2,_,h1,hr⟩:=Rd.runs_bind hr;obtain⟨r,_,hr⟩:=hr;obtain⟨k1,k2,k3⟩:=DN uid Fn'.ps Fn'.rs [] r;have hu:(xg uid Fn'.ps Fn'.rs [] r).upds=[]:=by
   have key:∀(rs:List yY) (n:th) (x:xc (xZ rs)),(xB n rs x).upds=[]:=by
    intro rs
    induction rs with
    | nil=>intro n x;rfl
    | cons q rs ih=>intro n x;cases q<;>exact ih _ _
   have key2:∀(ps:List yj) (n:th) (x:xc (yD ps Fn'.rs)),(xg n ps Fn'.rs [] x).upds=[]:=by
    intro ps
    induction ps with
    | nil=>intro n x;exact key _ _ _
    | cons q ps ih=>intro n x;cases q with
     | val _ _ _=>exact ih _ _
     | ptr _ _=>rfl
   exact key2 _ _ _
  rw[hu]at k1 k2;have hd:∀n,dom ([]++(xg uid Fn'.ps Fn'.rs [] r).news) n->dom (ya (xg uid Fn'.ps Fn'.rs [] r).news++[]++en) n:=λn hn=>by
   rw[BZ]at hn ⊢;have:(ya (xg uid Fn'.ps Fn'.rs [] r).news).map (·.1)=(xg uid Fn'.ps Fn'.rs [] r).news.map (·.1):=by unfold ya;rw[List.map_map];rfl
   simp only[map_append,mem_append,this]at hn ⊢;rcases hn with h|h
   · simp at h
   · simp[h]
  refine Hk hr ?_ (λn cs hm c hc=>?_)
  · have hv:∀v∈(xg uid Fn'.ps Fn'.rs [] r).vals,AU (dom (ya (xg uid Fn'.ps Fn'.rs [] r).news++[]++en)) v:=λv hv=>(k1 v hv).mono hd;split
    · rename_i v hq;have:=hv v (by rw[hq];simp)
      cases v with
      | cell c=>exact this
      | agg cs=>exact this
      | tup _=>exact this.elim
    · exact hv
  · rw[append_nil]at hm;exact (k2 n cs (RF hm) c hc).mono hd
theorem ET {F:th->Option Entry}:∀{cs:List Cell} {olds:List (th×Entry)} {L:List th},(KA cs).Runs F olds L->(∀p∈olds,∃e xs,F p.1=some (.tree e xs)/\p.2=.fwd e xs)/\∀r,Cell.own r∈cs->r∈olds.map (·.1)
 | [],olds,L,hr=>by obtain⟨rfl,_⟩:=hr;exact⟨by simp,by simp⟩
 | c::l,olds,L,hr=>by
  have other:(∀r,c≠.own r)->(KA l).Runs F olds L->(∀p∈olds,∃e xs,F p.1=some (.tree e xs)/\p.2=.fwd e xs)/\∀r,Cell.own r∈c::l->r∈olds.map (·.1):=λhc h=>by
   obtain⟨k1,k2⟩:=ET h;exact⟨k1,λr hm=>(mem_cons.1 hm).elim (λe=>absurd e.symm (hc r)) (k2 r)⟩
  cases c with
  | own r =>
   obtain⟨L',_,hr⟩:=hr;dsimp only at hr;split at hr
   · rename_i e xs hn;obtain⟨b,L1,L2,_,h1,hr⟩:=Rd.runs_bind hr;obtain⟨rfl,_⟩:=hr;obtain⟨k1,k2⟩:=ET h1;refine⟨λp hp=>?_,λs hm=>?_⟩
     · rcases mem_cons.1 hp with rfl|hp
       · exact⟨e,xs,hn,rfl⟩
       · exact k1 p hp
     · rcases mem_cons.1 hm with he|hm
       · cases he;simp
       · exact mem_cons_of_mem _ (k2 s hm)
   · exact hr.elim
  | _=>exact other (by intro r h;cases h) hr
theorem Ik {F:Fn} {uid:th} {r:xc (yD F.ps F.rs)}:(xg uid F.ps F.rs [] r).upds=[]:=by
 have key:∀(rs:List yY) (n:th) (x:xc (xZ rs)),(xB n rs x).upds=[]:=by
  intro rs
  induction rs with
  | nil=>intro n x;rfl
  | cons q rs ih=>intro n x;cases q<;>exact ih _ _
 have key2:∀(ps:List yj) (n:th) (x:xc (yD ps F.rs)),(xg n ps F.rs [] x).upds=[]:=by
  intro ps
  induction ps with
  | nil=>intro n x;exact key _ _ _
  | cons q ps ih=>intro n x;cases q with
   | val _ _ _=>exact ih _ _
   | ptr _ _=>rfl
 exact key2 _ _ _
theorem P6 {Fn':Fn} {args:List AV} (hr:(Fi uid Fn' args).Runs (wW en) e L):xw en e:=by
 unfold Fi at hr;cases hk:(zh Fn'.ps&&VE Fn'.rs)with
 | false=>rw[hk]at hr;exact hr.elim
 | true =>
  rw[hk]at hr;obtain⟨x,L1,L2,_,h1,hr⟩:=Rd.runs_bind hr;obtain⟨olds,L3,L4,_,h2,hr⟩:=Rd.runs_bind hr;obtain⟨_,L5,L6,_,h3,hr⟩:=Rd.runs_bind hr;obtain⟨r,_,hr⟩:=hr;obtain⟨k1,k2,k3⟩:=DN uid Fn'.ps Fn'.rs [] r;rw[Ik]at k1 k2;have hd:∀n,dom ([]++(xg uid Fn'.ps Fn'.rs [] r).news) n->dom ((xg uid Fn'.ps Fn'.rs [] r).news++olds++en) n:=λn hn=>by
   rw[BZ]at hn ⊢;simp only[map_append,mem_append]at hn ⊢;rcases hn with h|h
   · simp at h
   · simp[h]
  refine Hk hr ?_ (λn cs hm c hc=>?_)
  · have hv:∀v∈(xg uid Fn'.ps Fn'.rs [] r).vals,AU (dom ((xg uid Fn'.ps Fn'.rs [] r).news++olds++en)) v:=λv hv=>(k1 v hv).mono hd;split
    · rename_i v hq;have:=hv v (by rw[hq];simp)
      cases v with
      | cell c=>exact this
      | agg cs=>exact this
      | tup _=>exact this.elim
    · exact hv
  · rcases mem_append.1 hm with hm|hm
    · exact (k2 n cs hm c hc).mono hd
    · obtain⟨f,ys,_,he⟩:=(ET h2).1 _ hm;cases he
theorem P7 {Fn':Fn} {args:List AV} (hr:(Fj uid Fn' args).Runs (wW en) e L):xw en e:=by
 unfold Fj at hr;cases hk:(zh Fn'.ps&&H8 Fn'.rs)with
 | true=>rw[hk]at hr;exact P5 hr
 | false=>rw[hk]at hr;exact P6 hr
theorem CT.held_nb {c:CT} {x:Cell} {y:c.den}:NB (c.held x y):=by
 cases c with
 | sl e=>cases x<;>first|exact NB.nil|exact NB.one (by simp)
 | _=>exact NB.nil
theorem Cs.held_nb:∀{c:Cs} {xs:List Cell} {y:c.den},NB (c.held xs y)
 | .one c,[x],y=>CT.held_nb
 | .cons c r,x::xs,y=>CT.held_nb.append (Cs.held_nb (c:=r))
 | .one _,[],_=>NB.nil
 | .one _,_::_::_,_=>NB.nil
 | .cons _ _,[],_=>NB.nil
theorem Qw {M:AK} {args:List AV} (hr:(Fc M args).Runs (wW en) e L):xw en e:=by
 unfold Fc at hr;split at hr
 · split at hr
   · obtain⟨L',_,hr⟩:=hr;dsimp only at hr;split at hr
     · obtain⟨x,_,hr⟩:=hr;obtain⟨ys,_,hr⟩:=hr;obtain⟨z,_,hr⟩:=hr;obtain⟨x',_,hr⟩:=hr;obtain⟨rfl,_⟩:=hr;exact⟨xA rfl,λm' cs' hm c hc=>by simp only[mem_singleton,Prod.mk.injEq]at hm;cases hm.2⟩
     · exact hr.elim
   · exact hr.elim
 · obtain⟨_,L1,L2,_,_,hr⟩:=Rd.runs_bind hr;obtain⟨x,L3,L4,_,_,hr⟩:=Rd.runs_bind hr;obtain⟨z,_,hr⟩:=hr;obtain⟨_,L5,L6,_,_,hr⟩:=Rd.runs_bind hr;obtain⟨rfl,_⟩:=hr;exact⟨xA rfl,λm' cs' hm c hc=>absurd hm (Cs.held_nb m' cs')⟩
 · exact hr.elim
end Go.V
namespace Go.V
variable {G:yU} {uid rid:Nat} {en:List (th×Entry)} {e:y8} {L:List th} {ρ:Operand->AV} {F:th->Option Entry}

theorem MA {D:th->Prop}:∀{vs:List AV} {ns:List th},BB vs=some ns->(∀v∈vs,A9 D v)->∀n∈ns,D n
 | [],ns,h,_=>by simp[BB]at h;subst h;simp
 | v::vs,ns,h,hv=>by
  unfold BB at h;split at h
  · cases h;simp
  · rename_i n l heq;cases heq;cases hk:BB vs with
    | none=>rw[hk]at h;cases h
    | some ms =>
     rw[hk]at h;cases h;intro m hm;rcases mem_cons.1 hm with rfl|hm
     · exact hv _ mem_cons_self m (by simp[Cell.refs])
     · exact MA hk (λv hv'=>hv v (mem_cons_of_mem _ hv')) m hm
  · cases h
theorem MB {f:Int->Int->Int} {vs:List AV} (hr:(H9 f vs).Runs (wW en) e L):xw en e:=by
 unfold H9 at hr;split at hr
 · rename_i k a j b;cases hk:Nat.beq (yv j) (yv k)with
   | false=>rw[hk]at hr;exact hr.elim
   | true=>rw[hk]at hr;exact xw.one hr (xA rfl)
 · exact hr.elim
theorem VN (hρ:∀x,A9 (dom en) (ρ x)) (hb:Jj en) {op:Op} (hr:(Ai G uid ρ op).Runs (wW en) e L):xw en e:=by
 unfold Ai at hr;split at hr
 case h_1=>obtain⟨rfl,_⟩:=hr;exact xw.pure (hρ _)
 case h_2=>obtain⟨rfl,_⟩:=hr;exact xw.pure (hρ _)
 case h_3 =>
  split at hr
  · exact xw.one hr (xA rfl)
  · exact hr.elim
 case h_4 =>
  obtain⟨i,_,hr⟩:=xY hr;exact RB hr (Cs.zero_in _)
 case h_5 x =>
  replace hr:=xY hr;obtain⟨i,_,hr⟩:=hr;cases hk:(Nat.beq (ρ x).cells.length i.cs.len&&zj (ρ x).cells)with
  | false=>rw[hk]at hr;exact hr.elim
  | true=>rw[hk]at hr;exact RB hr (hρ x).cells
 case h_6 t parts =>
  replace hr:=xY hr;obtain⟨i,_,hr⟩:=hr;cases ha:i.agg with
  | false=>rw[ha]at hr;exact hr.elim
  | true =>
   rw[ha]at hr;simp only[cT]at hr;split at hr
   · rename_i cs hc;obtain⟨rfl,_⟩:=hr;exact xw.pure (Ij hc (Cs.zero_in _) λp hp=>by obtain⟨q,_,rfl⟩:=mem_map.1 hp;exact hρ _)
   · exact hr.elim
 case h_7 =>
  replace hr:=xY hr;obtain⟨i,_,hr⟩:=hr;replace hr:=C6 hr;obtain⟨_,_,_,hr⟩:=hr;replace hr:=xY hr;obtain⟨j,_,hr⟩:=hr;exact JX hr
 case h_8=>replace hr:=xY hr;obtain⟨i,_,hr⟩:=hr;exact Qu hb hr
 case h_9=>replace hr:=xY hr;obtain⟨i,_,hr⟩:=hr;exact P0 hb (hρ _) hr
 case h_10 x =>
  have hx:=hρ x;split at hr
  · rename_i e1;rw[e1]at hx;exact xw.one hr hx
  · rename_i e1;rw[e1]at hx;exact xw.one hr hx
  · exact xw.one hr (xA rfl)
  · exact hr.elim
 case h_11=>replace hr:=xY hr;obtain⟨i,_,hr⟩:=hr;exact RD hr
 case h_12 =>
  split at hr
  · exact xw.one hr (xA rfl)
  · exact hr.elim
 case h_13 =>
  split at hr
  · exact xw.one hr (xA rfl)
  · exact hr.elim
 case h_14 =>
  replace hr:=xY hr;obtain⟨i,_,hr⟩:=hr;replace hr:=xY hr;obtain⟨j,_,hr⟩:=hr;split at hr
  · rename_i r _;cases hk:(Nat.beq _ _&&Cw G j.elem)with
    | false=>rw[hk]at hr;exact hr.elim
    | true=>rw[hk]at hr;exact P4 hr
  · exact MX hr
 case h_15 n m =>
  replace hr:=xY hr;obtain⟨i,_,hr⟩:=hr;replace hr:=C6 hr;obtain⟨_,_,_,hr⟩:=hr;replace hr:=xY hr;obtain⟨j,_,hr⟩:=hr;cases hk:Nat.beq n m with
  | false=>rw[hk]at hr;exact hr.elim
  | true =>
   rw[hk]at hr;simp only[cT]at hr;split at hr
   · obtain⟨l,_,hr⟩:=hr;exact Hm hr NB.nil
   · exact hr.elim
 case h_16=>replace hr:=xY hr;obtain⟨i,_,hr⟩:=hr;exact P3 (hρ _) hr
 case h_17 s x f =>
  have hx:=hρ x;replace hr:=xY hr;obtain⟨i,_,hr⟩:=hr;cases ha:i.agg with
  | false=>rw[ha]at hr;exact hr.elim
  | true =>
   rw[ha]at hr;simp only[cT]at hr;split at hr
   · rename_i e1;rw[e1]at hx;exact xw.one hr hx
   · rename_i e1;rw[e1]at hx;exact xw.one hr hx
   · exact xw.one hr (xA rfl)
   · exact hr.elim
 case h_18 =>
  replace hr:=xY hr;obtain⟨i,_,hr⟩:=hr;split at hr
  · exact KP (hρ _) hr
  · exact hr.elim
 case h_19 =>
  replace hr:=xY hr;obtain⟨i,_,hr⟩:=hr;split at hr
  · obtain⟨b,_,hr⟩:=hr;exact xw.one hr (xA rfl)
  · exact hr.elim
 case h_20 x i =>
  have hx:=hρ x;split at hr
  · rename_i vs e1;rw[e1]at hx;split at hr
    · rename_i v hv;obtain⟨rfl,_⟩:=hr;have:=hx v (List.mem_of_getElem? hv)
      refine xw.pure ?_;cases v with
      | cell c=>exact this
      | agg cs=>exact this
      | tup _=>exact this.elim
    · exact hr.elim
  · exact hr.elim
 case h_21 =>
  split at hr
  · rename_i ns hns;exact xw.one hr (MA hns λv hv=>by obtain⟨x,_,rfl⟩:=mem_map.1 hv;exact hρ x)
  · exact hr.elim
 case h_22 x t =>
  replace hr:=xY hr;obtain⟨i,_,hr⟩:=hr;cases hk:Kx i (ρ x)with
  | false=>rw[hk]at hr;exact hr.elim
  | true=>rw[hk]at hr;exact RE hr
 case h_23 =>
  replace hr:=xY hr;obtain⟨i,_,hr⟩:=hr;replace hr:=C6 hr;obtain⟨_,_,_,hr⟩:=hr;replace hr:=xY hr;obtain⟨i',_,hr⟩:=hr;replace hr:=C6 hr;obtain⟨_,_,_,hr⟩:=hr;replace hr:=xY hr;obtain⟨j,_,hr⟩:=hr;exact NH hr
 case h_24=>exact MB hr
 case h_25=>exact MB hr
 case h_26 =>
  split at hr
  · split at hr
    · cases ht:G.trees with
      | false=>rw[ht]at hr;exact Qv hr
      | true =>
       rw[ht]at hr;simp only[cT]at hr;split at hr
       · exact P7 hr
       · exact hr.elim
    · split at hr
      · exact Qw hr
      · exact hr.elim
  · exact hr.elim
 all_goals exact hr.elim
theorem NJ {op:Op} (h:∀c a b,op≠.pick c a b):Ej G uid ρ op=Ai G uid ρ op:=by
 cases op<;>first|rfl|exact absurd rfl (h _ _ _)
theorem Qx {c x y:AV} (hx:A9 (dom en) x) (hy:A9 (dom en) y) (hr:(Dm c x y).Runs (wW en) e L):xw en e:=by
 unfold Dm at hr;split at hr
 · exact xw.one hr (xA rfl)
 · cases (by assumption:Bool)with
   | true=>obtain⟨rfl,_⟩:=hr;exact xw.pure hx
   | false=>obtain⟨rfl,_⟩:=hr;exact xw.pure hy
 · exact hr.elim
theorem NK (hρ:∀x,A9 (dom en) (ρ x)) (hb:Jj en) {op:Op} (hr:(Ej G uid ρ op).Runs (wW en) e L):xw en e:=by
 by_cases h:∃c a b,op=.pick c a b
 · obtain⟨c,a,b,rfl⟩:=h;exact Qx (hρ a) (hρ b) hr
 · rw[NJ λc a b he=>h ⟨c,a,b,he⟩]at hr;exact VN hρ hb hr
structure yp (S:St):Prop where
 tmp:∀t,A9 (dom S.en) (S.tmp t)
 box:Jj S.en
theorem yp.eval {S:St} (h:yp S) (x:Operand):A9 (dom S.en) (S.eval x):=by
 cases x with
 | tmp t=>exact h.tmp t
 | const v=>exact T5 v
 | global _=>exact xA rfl
 | func _=>exact xA rfl
theorem yk {α:Type} {l:List (Nat×α)} {n:Nat} {x:α} (h:wW l n=some x):(n,x)∈l:=E4 h
theorem yp.put {S:St} (h:yp S) (dst:Option Tmp) {e:y8} (he:xw S.en e):yp (S.put dst e):=by
 refine⟨λt=>?_,λn cs hn c hc=>?_⟩
 · rw[St.tmp_put];split
   · exact he.val
   · exact (h.tmp t).mono (AF _ _)
 · rw[St.en_put]at hn ⊢;rw[yf]at hn;cases hf:wW e.ents n with
   | some x=>rw[hf]at hn;cases hn;exact he.box n cs (E4 hf) c hc
   | none=>rw[hf]at hn;exact (h.box n cs hn c hc).mono (AF _ _)
end Go.V
namespace Go.V
variable {G:yU} {uid rid:Nat} {ops:List Oper} {B:List Nat}

namespace Rd
theorem runL_some {α A:Type} {S:th->Option Entry} {k:α->List th->Option A} {r:A}:∀{x:Rd α} {L0:List th},x.runL S L0 k=some r->∃a L,x.Runs S a L/\k a (L.reverse++L0)=some r
 | ret a,L0,h=>⟨a,[],⟨rfl,rfl⟩,by simpa[runL]using h⟩
 | fail,L0,h=>by simp[runL]at h
 | get n f,L0,h=>by
  simp only[runL]at h;obtain⟨a,L,h1,h2⟩:=runL_some h;exact⟨a,n::L,⟨L,rfl,h1⟩,by simpa using h2⟩
 | opt o f,L0,h=>by
  simp only[runL]at h;cases o with
  | none=>simp at h
  | some b =>
   simp only[Option.bind_some]at h;obtain⟨a,L,h1,h2⟩:=runL_some h;exact⟨a,L,⟨b,rfl,h1⟩,h2⟩
end Rd
structure Il (Z:List Tmp) (FN:List th) (S S1:St):Prop where
 tm:∀t,S.tmp t=S1.tmp t\/(t∈Z/\S.tmp t=.undef)
 en:∀n,n∉FN->wW S.en n=wW S1.en n
 no:∀n∈FN,wW S.en n=none
structure CB (rx ry:CW):Prop where
 wr:∀n∈xW rx,n∉Ak ry
 rw:∀n∈xW ry,n∉Ak rx
 ww:∀n∈xW rx,n∉xW ry
def PO (B:List Nat) (p q:Ev):Prop:=zX (zu B q.1) p.1=true\/CB p.2.2 q.2.2
structure Ex (rid:Nat) (B:List Nat) (grp:Bool) (p:Ev):Prop where
 rd:∀n∈Ak p.2.2,Je rid (zu B p.1) p.1 n=true
 wr:∀n∈xW p.2.2,Je rid (zu B p.1) p.1 n=true
 own:grp=true->∀n∈xW p.2.2,E2 rid p.1 n=true
def HK (rid:Nat) (B:List Nat) (acc:B8) (p:Ev):Prop :=
 (Ak p.2.2=[]/\xW p.2.2=[]) \/
 ∃q∈acc,q.1=p.1/\((q.2=none/\Ex rid B true p)\/∃L W,q.2=some (L,W)/\(∀n∈Ak p.2.2,n∈L)/\∀n∈xW p.2.2,n∈W)
theorem HK.mono {acc acc':B8} (h:∀q∈acc,q∈acc') {p:Ev} (k:HK rid B acc p):HK rid B acc' p:=by
 rcases k with k|⟨q,hq,k⟩
 · exact .inl k
 · exact .inr ⟨q,h q hq,k⟩
theorem Ex.loose {p:Ev} {grp:Bool} (h:Ex rid B true p):Ex rid B grp p:=⟨h.rd,h.wr,λ_=>h.own rfl⟩
theorem CB.of_idle_right {rx ry:CW} (h1:Ak ry=[]) (h2:xW ry=[]):CB rx ry:=⟨by simp[h1],by simp[h2],by simp[h2]⟩
theorem CB.of_idle_left {rx ry:CW} (h1:Ak rx=[]) (h2:xW rx=[]):CB rx ry:=⟨by simp[h2],by simp[h1],by simp[h2]⟩
theorem Jk {a b:Bool} (h:HG a b=true):a=b:=by cases a<;>cases b<;>simp[HG]at h ⊢
theorem UB {a b:Bool} (h:HG a b=false):a=!b:=by cases a<;>cases b<;>simp[HG]at h ⊢
theorem UC {i:Nat} {n:th} (h:E2 rid i n=true):n/1024=rid*256+i+1:=Nat.eq_of_beq_eq_true h
theorem T9 {b k i:Nat} {n:th} (h:Je rid b k n=true) (hm:E2 rid i n=true) (hi:i<256):i=k\/zX b i=true:=by
 have hq:=UC hm;unfold Je at h;simp only[hq]at h;have h1:Nat.ble (rid*256+1) (rid*256+i+1)=true:=Nat.ble_eq_true_of_le (by omega)
 have h2:Nat.ble (rid*256+i+1) (rid*256+256)=true:=Nat.ble_eq_true_of_le (by omega);rw[h1,h2]at h;simp only[Bool.and_self,cT,Bool.or_eq_true]at h;rw[show rid*256+i+1-(rid*256+1)=i by omega]at h;exact h.imp Nat.eq_of_beq_eq_true id
theorem GS {l m:List th} (h:KC l m=true):∀n∈l,n∉m:=by
 intro n hn hm;have:=all_eq_true.1 (all_eq_true.1 h n hn) n hm
 simp at this
theorem NL {o:Oper} {t:Tmp} (h:G9 ops o t):t∈o.looksAt ops.toArray:=by
 rcases h with h|⟨j,want,hg,hd⟩
 · exact mem_append_left _ (List.mem_filterMap.2 ⟨.tmp t,by simpa using h,rfl⟩)
 · refine mem_append_right _ ?_;rw[hg];unfold Bq at hd;cases ho:ops[j]? with
   | none=>rw[ho]at hd;cases hd
   | some p=>rw[ho]at hd;simp[ho,hd]
theorem Tr.tmp:∀{E:List Ev} {S S':St} {t:Tmp},Tr G rid ops E S S'->(∀p∈E,p.2.1.dst≠some t)->S'.tmp t=S.tmp t
 | [],S,S',t,h,_=>(h.tm t).symm
 | (i,o,r)::E,S,S',t,h,hd=>by
  rw[Tr.tmp h.2 λp hp=>hd p (mem_cons_of_mem _ hp)];exact St.tmp_act S o r t (hd (i,o,r) mem_cons_self)
theorem Tr.en:∀{E:List Ev} {S S':St} {n:th},Tr G rid ops E S S'->(∀p∈E,n∉xW p.2.2)->wW S'.en n=wW S.en n
 | [],S,S',n,h,_=>((show Al S S' from h).en n).symm
 | (i,o,r)::E,S,S',n,h,hd=>by
  rw[Tr.en h.2 λp hp=>hd p (mem_cons_of_mem _ hp)];exact St.en_act S o r n (hd (i,o,r) mem_cons_self)
theorem Tr.append:∀{E F:List Ev} {S S1 S':St},Tr G rid ops E S S1->Tr G rid ops F S1 S'->Tr G rid ops (E++F) S S'
 | [],F,S,S1,S',h,k=>k.same h.symm
 | _::E,F,S,S1,S',h,k=>⟨h.1,Tr.append h.2 k⟩
structure xC {A:Type} (G:yU) (rid:Nat) (ops:List Oper) (B:List Nat) (grp:Bool) (kn:List (Nat×Bool)) (l:List (Nat×Oper)) (S S1:St) (D:List Ev) (k:St->B8->Option A) (r:A) (acc:B8):Prop where
 out:∃(E:List Ev) (S1' S':St) (acc':B8) (Z':List Tmp) (FN':List th) (nw:List (th×Entry)),k S' acc'=some r/\Tr G rid ops E S1 S1'/\E.map (λp=>(p.1,p.2.1))=l/\(Il Z' FN' S' S1'/\yp S') /\
  (∀p∈D++E,HK rid B acc' p)/\(∀n∈FN',∃q∈acc',q.2=none/\E2 rid q.1 n=true)/\(∀p∈E,Ex rid B grp p)/\E.Pairwise (PO B)/\(∀p∈D,∀q∈E,PO B p q) /\
  (∀p∈E,zV kn p.2.1.dst=true)/\(S'.en=nw++S.en/\∃nt,S'.tm=nt++S.tm)/\(∀p∈E,∀n∈xW p.2.2,n∈nw.map (·.1)\/wW S.en n=none)
structure Im (rid:Nat) (ops:List Oper) (B:List Nat) (kn:List (Nat×Bool)) (l:List (Nat×Oper)) (S S1:St) (D:List Ev) (acc:B8) (Z:List Tmp) (FN:List th):Prop where
 sub:Il Z FN S S1
 known:∀t c,wW kn t=some c->S1.tmp t=.cell (.bool c)
 log:∀p∈D,HK rid B acc p
 fn:∀n∈FN,∃q∈acc,q.2=none/\E2 rid q.1 n=true
 here:∀p∈l,ops[p.1]?=some p.2
 read:∀p∈l,∀t∈Z,¬G9 ops p.2 t
 asc:∀p∈D,∀q∈l,p.1<q.1
 asc':l.Pairwise λp q=>p.1<q.1
 closed:yp S
structure GT (ops:List Oper) (B:List Nat):Prop where
 lt:∀k i,k<=i->zX (zu B k) i=false
 len:ops.length<256
theorem Fu {kn:List (Nat×Bool)} {d:Tmp} {c:Bool} (h:zV kn (some d)=true):wW kn d≠some c:=by
 intro hf;simp[zV,hf]at h
theorem Hn {l m n:List (Nat×AV)} (h:∃a,l=a++m) (k:∃a,m=a++n):∃a,l=a++n:=by
 obtain⟨a,rfl⟩:=h;obtain⟨b,rfl⟩:=k;exact⟨a++b,(append_assoc _ _ _).symm⟩
theorem NM (S:St) (d:Option Tmp) (e:y8):∃a,(S.put d e).tm=a++S.tm:=by
 cases d with
 | none=>exact⟨[],rfl⟩
 | some d=>exact⟨[(d,e.val)],rfl⟩
theorem xC.step {A:Type} {grp:Bool} {kn:List (Nat×Bool)} {i:Nat} {o:Oper} {l:List (Nat×Oper)} {S S1 Sn:St} {D:List Ev} {k:St->B8->Option A} {r:A} {acc acc1:B8} {res:CW}
 (hs:CA G rid ops S1 i o res) (hlog:Ex rid B grp (i,o,res)) (hpo:∀p∈D,PO B p (i,o,res)) (hu:zV kn o.dst=true) {nw0:List (th×Entry)} (hen:Sn.en=nw0++S.en) (htm:∃nt,Sn.tm=nt++S.tm) (hnw:∀n∈xW res,n∈nw0.map (·.1))
 (h:xC G rid ops B grp kn l Sn (S1.act o res) (D++[(i,o,res)]) k r acc1):xC G rid ops B grp kn ((i,o)::l) S S1 D k r acc:=by
 obtain⟨E,S1',S',acc',Z',FN',nw,h1,h2,h3,h4,h5,h6,h7,h8,h9,h10,h11,h12⟩:=h.out;refine⟨(i,o,res)::E,S1',S',acc',Z',FN',nw++nw0,h1,⟨hs,h2⟩,by simp[h3],h4,by simpa using h5,h6,?_,?_,?_,?_,⟨by rw[h11.1,hen,append_assoc],Hn h11.2 htm⟩,?_⟩
 · intro p hp;rcases mem_cons.1 hp with rfl|hp
   · exact hlog
   · exact h7 p hp
 · exact pairwise_cons.2 ⟨λq hq=>h9 _ (by simp) q hq,h8⟩
 · intro p hp q hq;rcases mem_cons.1 hq with rfl|hq
   · exact hpo p hp
   · exact h9 p (by simp[hp]) q hq
 · intro p hp;rcases mem_cons.1 hp with rfl|hp
   · exact hu
   · exact h10 p hp
 · intro p hp n hn;rcases mem_cons.1 hp with rfl|hp
   · exact .inl (by simp only[map_append,mem_append];exact .inr (hnw n hn))
   · rcases h12 p hp n hn with h|h
     · exact .inl (by simp only[map_append,mem_append];exact .inl h)
     · rw[hen,yf]at h;cases hf:wW nw0 n with
       | some x=>rw[hf]at h;cases h
       | none=>rw[hf]at h;exact .inr h
end Go.V
namespace Go.V
variable {G:yU} {uid rid:Nat} {ops:List Oper} {B:List Nat}

theorem Im.next {kn:List (Nat×Bool)} {i:Nat} {o:Oper} {l:List (Nat×Oper)} {S S1 Sn:St} {D:List Ev} {acc acc':B8} {Z:List Tmp} {FN:List th} (h:Im rid ops B kn ((i,o)::l) S S1 D acc Z FN) {res:CW}
 (hsub:Il Z FN Sn (S1.act o res)) (hcl:yp Sn) (hu:zV kn o.dst=true) (hacc:∀q∈acc,q∈acc') (hlog:HK rid B acc' (i,o,res)):Im rid ops B kn l Sn (S1.act o res) (D++[(i,o,res)]) acc' Z FN:=by
 refine⟨hsub,λt c hf=>?_,λp hp=>?_,λn hn=>?_,λp hp=>h.here p (mem_cons_of_mem _ hp),λp hp=>h.read p (mem_cons_of_mem _ hp),λp hp q hq=>?_,(pairwise_cons.1 h.asc').2,hcl⟩
 · rw[St.tmp_act]
   · exact h.known t c hf
   · intro hd;rw[hd]at hu;exact Fu hu hf
 · rcases mem_append.1 hp with hp|hp
   · exact (h.log p hp).mono hacc
   · rw[mem_singleton.1 hp];exact hlog
 · obtain⟨q,hq,k⟩:=h.fn n hn;exact⟨q,hacc q hq,k⟩
 · rcases mem_append.1 hp with hp|hp
   · exact h.asc p hp q (mem_cons_of_mem _ hq)
   · rw[mem_singleton.1 hp];exact (pairwise_cons.1 h.asc').1 q hq
theorem Il.act {Z:List Tmp} {FN:List th} {S S1:St} (h:Il Z FN S S1) (o:Oper) (e:y8) (L:List th) (hn:∀n∈e.ents.map (·.1),n∉FN):Il Z FN (S.put o.dst e) (S1.act o (some (e,L))):=by
 refine⟨λt=>?_,λn hnF=>?_,λn hnF=>?_⟩
 · simp only[St.act,St.tmp_put];by_cases hd:o.dst=some t
   · simp[hd]
   · simp only[if_neg hd];exact h.tm t
 · simp only[St.act,St.en_put,yf,h.en n hnF]
 · rw[St.en_put,xV λhm=>hn n hm hnF];exact h.no n hnF
theorem Il.skip {Z:List Tmp} {FN:List th} {S S1:St} (h:Il Z FN S S1) (o:Oper):Il Z FN (S.put o.dst ⟨.cell .void,[]⟩) (S1.act o none):=by
 refine⟨λt=>?_,λn hnF=>h.en n hnF,λn hnF=>h.no n hnF⟩;simp only[St.act,St.tmp_put];by_cases hd:o.dst=some t
 · simp[hd]
 · simp only[if_neg hd];exact h.tm t
theorem RG (hB:GT ops B) {i:Nat} {o:Oper} {e:y8} {L:List th} {acc:B8} {grp:Bool} (hi:i<ops.length) (hk:Ix rid (zu B i) i grp L (e.ents.map (·.1)) acc=true) {D:List Ev} (hD:∀p∈D,HK rid B acc p) (hasc:∀p∈D,p.1<i) {L':List th} (hL:∀n∈L',n∈L) :
 Ex rid B grp (i,o,some (e,L'))/\(∀p∈D,PO B p (i,o,some (e,L')))/\∀q∈acc,q.2=none->(∀n∈L,E2 rid q.1 n=false)/\∀n∈e.ents.map (·.1),E2 rid q.1 n=false:=by
 simp only[Ix,aT,all_eq_true]at hk;obtain⟨h1,h2,h3,h4⟩:=hk;have hown:∀q∈acc,q.2=none->(∀n∈L,E2 rid q.1 n=false)/\∀n∈e.ents.map (·.1),E2 rid q.1 n=false:=by
  intro q hq hn;have:=h4 q hq
  rw[hn]at this;simp only[aT,all_eq_true,Bool.not_eq_true']at this;exact⟨this.1,this.2.1⟩
 refine⟨⟨λn hn=>h1 n (hL n hn),h2,λhg=>?_⟩,λp hp=>?_,hown⟩
 · rw[hg]at h3;simp only[Bool.not_true,Bool.false_or,all_eq_true]at h3;exact h3
 · rcases hD p hp with ⟨k1,k2⟩|⟨q,hq,hqi,k⟩
   · exact .inr (CB.of_idle_left k1 k2)
   · have hq4:=h4 q hq;rcases k with ⟨hn,hlog⟩|⟨Lq,Wq,hn,k1,k2⟩
     · obtain⟨o1,o2⟩:=hown q hq hn;rw[hn]at hq4;simp only[aT,Bool.or_eq_true,all_eq_true]at hq4;rcases hq4.2.2 with hb|hm
       · exact .inl (by rw[←hqi];exact hb)
       · refine .inr ⟨λn hn hr=>?_,λn hn hr=>?_,λn hn hr=>?_⟩
         · have:=o1 n (hL n hr);rw[hqi,hlog.own rfl n hn]at this;cases this
         · rcases T9 (hlog.rd n hr) (hm n hn) (by have:=hB.len;omega)with he|hb
           · have:=hasc p hp;omega
           · rw[hB.lt p.1 i (Nat.le_of_lt (hasc p hp))]at hb;cases hb
         · have:=o2 n hr;rw[hqi,hlog.own rfl n hn]at this;cases this
     · rw[hn]at hq4;simp only[Bool.or_eq_true,aT]at hq4;rcases hq4 with hb|⟨a1,a2,a3⟩
       · exact .inl (by rw[←hqi];exact hb)
       · exact .inr ⟨λn hn hr=>GS a2 n (k2 n hn) (hL n hr),λn hn hr=>GS a1 n hn (k1 n hr),λn hn hr=>GS a3 n hr (k2 n hn)⟩
theorem St.eval_sub {Z:List Tmp} {FN:List th} {S S1:St} (h:Il Z FN S S1) {o:Oper} (hr:∀t∈Z,¬G9 ops o t):∀x∈o.op.operands,S.eval x=S1.eval x:=λx hx=>by
 cases x with
 | tmp t=>exact (h.tm t).resolve_right λk=>hr t k.1 (.inl hx)
 | _=>rfl
def IH (G:yU) (rid:Nat) (ops:List Oper) (B:List Nat) (f:Nat):Prop :=
 ∀{A:Type} (grp:Bool) (kn:List (Nat×Bool)) (l:List (Nat×Oper)) (S:St) (acc:B8) (k:St->B8->Option A) (r:A) (S1:St) (Z:List Tmp) (FN:List th) (D:List Ev),
  zF G rid ops (some B) grp f kn l S acc k=some r->Im rid ops B kn l S S1 D acc Z FN->xC G rid ops B grp kn l S S1 D k r acc
theorem Qy {i:Nat} {o:Oper} (h:ops[i]?=some o):i<ops.length:=(List.getElem?_eq_some_iff.1 h).1
theorem Px (hB:GT ops B) {f:Nat} (ih:IH G rid ops B f) {A:Type} {grp:Bool} {kn:List (Nat×Bool)} {i:Nat} {o:Oper} {l:List (Nat×Oper)} {S S1:St} {acc:B8} {k:St->B8->Option A} {r:A} {Z:List Tmp} {FN:List th} {D:List Ev}
 (hr:((Ej G (N4 rid i) S.eval o.op).runL S.ent [] λe L=>cond (Ix rid (zu B i) i grp L (e.ents.map Prod.fst) acc) (zF G rid ops (some B) grp f kn l (S.put o.dst e) ((i,some (L,e.ents.map Prod.fst))::acc) k) none)=some r)
 (hin:Im rid ops B kn ((i,o)::l) S S1 D acc Z FN) (hw:KN ops S1 o) (hu:zV kn o.dst=true):xC G rid ops B grp kn ((i,o)::l) S S1 D k r acc:=by
 obtain⟨e,L,h1,h2⟩:=Rd.runL_some hr;rw[append_nil]at h2;cases hk:Ix rid (zu B i) i grp L.reverse (e.ents.map Prod.fst) acc with
 | false=>rw[hk]at h2;cases h2
 | true =>
  rw[hk]at h2;simp only[cT]at h2;have hi:=Qy (hin.here (i,o) mem_cons_self)
  obtain⟨hlog,hpo,hown⟩:=RG (o:=o) hB hi hk hin.log (λp hp=>hin.asc p hp (i,o) mem_cons_self) (L':=L) (λn hn=>by simpa using hn);have hLF:∀n∈L,n∉FN:=λn hn hF=>by
   obtain⟨q,hq,hqn,hm⟩:=hin.fn n hF;have:=(hown q hq hqn).1 n (by simpa using hn);rw[hm]at this;cases this
  have hWF:∀n∈e.ents.map (·.1),n∉FN:=λn hn hF=>by
   obtain⟨q,hq,hqn,hm⟩:=hin.fn n hF;have:=(hown q hq hqn).2 n hn;rw[hm]at this;cases this
  have hstep:CA G rid ops S1 i o (some (e,L)):=by
   refine⟨hw,?_⟩;rw[←JC (St.eval_sub hin.sub (hin.read (i,o) mem_cons_self))];exact Rd.runs_local (λn hn=>(hin.sub.en n (hLF n hn)).symm) h1
  have hin':=hin.next (res:=some (e,L)) (acc':=(i,some (L.reverse,e.ents.map Prod.fst))::acc) (hin.sub.act o e L hWF) (hin.closed.put o.dst (NK hin.closed.eval hin.closed.box h1)) hu (λq hq=>mem_cons_of_mem _ hq)
   (.inr ⟨_,mem_cons_self,rfl,.inr ⟨_,_,rfl,λn hn=>by simpa[Ak]using hn,λn hn=>hn⟩⟩)
  exact xC.step hstep hlog hpo hu (Sn:=S.put o.dst e) (nw0:=e.ents) rfl (NM _ _ _) (λn hn=>hn) (ih grp kn l _ _ k r _ Z FN _ h2 hin')
theorem MC (hB:GT ops B) {f:Nat} (ih:IH G rid ops B f) {A:Type} {grp:Bool} {kn:List (Nat×Bool)} {i:Nat} {o:Oper} {l:List (Nat×Oper)} {S S1:St} {acc:B8} {k:St->B8->Option A} {r:A} {Z:List Tmp} {FN:List th} {D:List Ev}
 (hr:zF G rid ops (some B) grp f kn l (S.put o.dst ⟨.cell .void,[]⟩) acc k=some r)
 (hin:Im rid ops B kn ((i,o)::l) S S1 D acc Z FN) (hw:JW ops S1 o) (hu:zV kn o.dst=true):xC G rid ops B grp kn ((i,o)::l) S S1 D k r acc:=by
 have hin':=hin.next (res:=none) (acc':=acc) (hin.sub.skip o) (hin.closed.put o.dst (xw.pure (xA rfl))) hu (λq hq=>hq) (.inl ⟨rfl,rfl⟩)
 exact xC.step (res:=none) hw ⟨by simp[Ak],by simp[xW],by simp[xW]⟩ (λp hp=>.inr (CB.of_idle_right rfl rfl)) hu (Sn:=S.put o.dst ⟨.cell .void,[]⟩) (nw0:=[]) rfl (NM _ _ _) (by simp[xW]) (ih grp kn l _ _ k r _ Z FN _ hr hin')
end Go.V
namespace Go.V
variable {G:yU} {uid rid:Nat} {ops:List Oper} {B:List Nat}

theorem Ho {t:Tmp}:∀{l grp r':List (Nat×Oper)} {pi:Nat} {p:Oper},C5 t l=some (grp,(pi,p),r')->l=grp++(pi,p)::r'/\∃x y,p.op=.pick (.tmp t) x y
 | [],_,_,_,_,h=>by simp[C5]at h
 | (i,o)::r,grp,r',pi,p,h=>by
  have hnext:∀{x:Option (List (Nat×Oper)×(Nat×Oper)×List (Nat×Oper))},(match C5 t r with|some (a,b,c)=>some ((i,o)::a,b,c)|none=>none)=x->x=some (grp,(pi,p),r')->(i,o)::r=grp++(pi,p)::r'/\∃x y,p.op=.pick (.tmp t) x y:=by
   intro x hx hs;cases hq:C5 t r with
   | none=>rw[hq]at hx;subst hx;cases hs
   | some q =>
    obtain⟨a,⟨bi,b⟩,c⟩:=q;rw[hq]at hx;subst hx;simp only[Option.some.injEq,Prod.mk.injEq]at hs;obtain⟨rfl,⟨rfl,rfl⟩,rfl⟩:=hs;obtain⟨h1,h2⟩:=Ho hq;exact⟨by rw[h1];rfl,h2⟩
  simp only[C5]at h;split at h
  · rename_i u x y ho;cases hb:Nat.beq u t with
    | true =>
     rw[hb]at h;simp only[cT,Option.some.injEq,Prod.mk.injEq]at h;obtain⟨rfl,⟨rfl,rfl⟩,rfl⟩:=h;exact⟨rfl,x,y,by rw[ho,Nat.eq_of_beq_eq_true hb]⟩
    | false=>rw[hb]at h;exact hnext rfl h
  · exact hnext rfl h
def DO (grp:List (Nat×Oper)):List Tmp:=grp.filterMap (·.2.dst)
theorem NN {grp:List (Nat×Oper)} {t:Tmp}:t∈DO grp↔∃p∈grp,p.2.dst=some t:=by simp[DO,List.mem_filterMap]
theorem CC:∀{grp:List (Nat×Oper)} {m:List (Nat×AV)} {t:Tmp},(t∈DO grp->wW (Aa grp++m) t=some .undef)/\(t∉DO grp->wW (Aa grp++m) t=wW m t)
 | [],m,t=>⟨λh=>by simp[DO]at h,λ_=>rfl⟩
 | (i,o)::grp,m,t=>by
  obtain⟨k1,k2⟩:=CC (grp:=grp) (m:=m) (t:=t);cases hd:o.dst with
  | none =>
   have e:DO ((i,o)::grp)=DO grp:=by simp[DO,hd]
   rw[e];simp only[Aa,hd];exact⟨k1,k2⟩
  | some d =>
   have e:DO ((i,o)::grp)=d::DO grp:=by simp[DO,hd]
   rw[e];simp only[Aa,hd,cons_append,xr,mem_cons,not_or];by_cases he:d=t
   · subst he;simp
   · rw[if_neg he];exact⟨λh=>k1 (h.resolve_left λe=>he e.symm),λh=>k2 h.2⟩
theorem NO {j:Nat} {want:Bool} {t:Tmp} (hj:Bq ops j=some t):∀{grp:List (Nat×Oper)} {seen:List Nat} {S1:St},okGroup.okFrom ops j want t seen grp=true->S1.tmp t=.cell (.bool (!want))->(∀i∈seen,∀t',Bq ops i=some t'->S1.tmp t'=.cell .void) ->
 (∀p∈grp,ops[p.1]?=some p.2)->∃S1a,Tr G rid ops (grp.map λp=>(p.1,p.2,none)) S1 S1a
 | [],seen,S1,_,_,_,_=>⟨S1,Al.refl _⟩
 | (k,o)::grp,seen,S1,h,ht,hs,hh=>by
  simp only[okGroup.okFrom,aT]at h;obtain⟨h1,h2,h3⟩:=h;have hk:ops[k]?=some o:=hh (k,o) mem_cons_self
  have hstep:JW ops S1 o:=by
   cases hg:o.guard with
   | none=>rw[hg]at h1;cases h1
   | some q =>
    obtain⟨i,w⟩:=q;rw[hg]at h1;simp only[Bool.or_eq_true,aT]at h1;rcases h1 with ⟨e1,e2⟩|⟨e1,e2⟩
    · obtain rfl:=Nat.eq_of_beq_eq_true e1;obtain rfl:=Jk e2;exact⟨i,w,t,hg,hj,.inl ht⟩
    · obtain⟨q,hq,he⟩:=List.any_eq_true.1 e1;obtain rfl:=Nat.eq_of_beq_eq_true he;cases hd:Bq ops q with
      | none=>rw[hd]at e2;cases e2
      | some t'=>exact⟨q,w,t',hg,hd,.inr (hs q hq t' hd)⟩
  have hdt:o.dst≠some t:=λhd=>by rw[hd]at h2;simp at h2
  obtain⟨S1a,hT⟩:=NO hj (grp:=grp) (seen:=k::seen) (S1:=S1.act o none) h3 (by rw[St.tmp_act _ _ _ _ hdt];exact ht) (λi hi t' hd=>by
   by_cases hw:o.dst=some t'
   · simp only[St.act,St.tmp_put,hw,if_true]
   · rw[St.tmp_act _ _ _ _ hw];rcases mem_cons.1 hi with rfl|hi
     · unfold Bq at hd;rw[hk]at hd;exact absurd hd hw
     · exact hs i hi t' hd) (λp hp=>hh p (mem_cons_of_mem _ hp))
  exact⟨S1a,hstep,hT⟩
theorem KQ {j:Nat} {want:Bool} {t:Tmp}:∀{grp:List (Nat×Oper)} {seen:List Nat},okGroup.okFrom ops j want t seen grp=true->∀p∈grp,p.2.dst≠some t
 | [],_,_,p,hp=>by simp at hp
 | (k,o)::grp,seen,h,p,hp=>by
  simp only[okGroup.okFrom,aT]at h;rcases mem_cons.1 hp with rfl|hp
  · intro hd;have hd:o.dst=some t:=hd
    rw[hd]at h;simp at h
  · exact KQ h.2.2 p hp
theorem RH {F:th->Option Entry} {b v:Bool} {X Y:AV} (h:(cond b X Y)=.cell (.bool v)):(Dm (.cell (.bool b)) X Y).Runs F ⟨.cell (.bool v),[]⟩ []:=by
 unfold Dm;split
 · rename_i c' x' y' e1;cases e1;cases b with
   | true=>cases h;exact⟨rfl,rfl⟩
   | false=>cases h;exact⟨rfl,rfl⟩
 · rename_i e1 _;cases e1;cases b with
   | true=>simp only[cT]at h ⊢;subst h;exact⟨rfl,rfl⟩
   | false=>simp only[cF]at h ⊢;subst h;exact⟨rfl,rfl⟩
 · rename_i h0 h1;exact (h0 _ rfl).elim
theorem JD {x:AV} {v:Bool} (h:Cx x=some v):x=.cell (.bool v):=by
 unfold Cx at h;split at h
 · cases h;rfl
 · cases h
end Go.V
namespace Go.V
variable {G:yU} {uid rid:Nat} {ops:List Oper} {B:List Nat}

theorem JE {D:th->Prop} {tm:List (Nat×AV)} {en:List (th×Entry)} (h:∀t,A9 D (St.tmp ⟨tm,en⟩ t)) {d:Nat} {x:AV} (hx:A9 D x):∀t,A9 D (St.tmp ⟨(d,x)::tm,en⟩ t):=λt=>by
 by_cases hd:d=t
 · subst hd;show A9 D (match wW ((d,x)::tm) d with|some v=>v|none=>.undef)
   rw[Ab];exact hx
 · show A9 D (match wW ((d,x)::tm) t with|some v=>v|none=>.undef);rw[yb hd];exact h t
structure Yw (G:yU) (rid:Nat) (ops:List Oper) (B:List Nat) (kn:List (Nat×Bool)) (grp:List (Nat×Oper)) (S S1:St) (D:List Ev) (t:Tmp) (x y:Operand) (b v:Bool):Prop where
 out:∃(E:List Ev) (S1a:St),Tr G rid ops E S1 S1a/\E.map (λp=>(p.1,p.2.1))=grp/\(∀p∈E,Ex rid B true p)/\E.Pairwise (PO B)/\(∀p∈D,∀q∈E,PO B p q) /\
  (∀p∈E,zV kn p.2.1.dst=true)/\(∀p∈E,∀n∈xW p.2.2,wW S.en n=none)/\S1a.tmp t=.cell (.bool b)/\cond b (S1a.eval x) (S1a.eval y)=.cell (.bool v)
theorem Cj {E:List Ev} {grp:List (Nat×Oper)} (h:E.map (λp=>(p.1,p.2.1))=grp) {p:Ev} (hp:p∈E):(p.1,p.2.1)∈grp:=by
 rw[←h];exact mem_map.2 ⟨p,hp,rfl⟩
theorem P8 {grp:List (Nat×Oper)} {x:Operand} (h:KE grp x=true) {u:Tmp} (hx:x=.tmp u):∀p∈grp,p.2.dst≠some u:=by
 subst hx;intro p hp hd;have:=all_eq_true.1 h p hp
 rw[hd]at this;simp at this
theorem RI {E:List Ev} {S S':St} {x:Operand} (hT:Tr G rid ops E S S') (h:∀u,x=.tmp u->∀p∈E,p.2.1.dst≠some u):S'.eval x=S.eval x:=by
 cases x with
 | tmp u=>exact hT.tmp (h u rfl)
 | _=>rfl
theorem RJ (hB:GT ops B) {f:Nat} (ih:IH G rid ops B f) {kn:List (Nat×Bool)} {grp l:List (Nat×Oper)} {S S1:St} {acc:B8} {Z:List Tmp} {FN:List th} {D:List Ev} {j:Nat} {want:Bool} {t:Tmp} {b v:Bool} {x y:Operand}
 (hin:Im rid ops B kn (grp++l) S S1 D acc Z FN) (hj:Bq ops j=some t) (ht:S1.tmp t=.cell (.bool b)) (hok:okGroup ops j want t grp=true) (hkt:wW kn t=none) (hgu:∀p∈grp,zV kn p.2.dst=true)
 (hun:KE grp (cond want y x)=true)
 (hv:(cond b (cond want (zF G rid ops (some B) true f ((t,want)::kn) grp S acc λS' _=>cond (Cy S.en S'.en) (Cx (S'.eval (cond want x y))) none) (Cx (S.eval (cond want y x))))
  (cond want (Cx (S.eval (cond want y x))) (zF G rid ops (some B) true f ((t,want)::kn) grp S acc λS' _=>cond (Cy S.en S'.en) (Cx (S'.eval (cond want x y))) none)))=some v) :
 Yw G rid ops B kn grp S S1 D t x y b v:=by
 have hdt:=KQ hok;by_cases hbw:b=want
 ·
   have hX:(zF G rid ops (some B) true f ((t,want)::kn) grp S acc λS' _=>cond (Cy S.en S'.en) (Cx (S'.eval (cond want x y))) none)=some v:=by
    subst hbw;cases b<;>exact hv
   have hin':Im rid ops B ((t,want)::kn) grp S S1 D acc Z FN:=by
    refine⟨hin.sub,λu c hu=>?_,hin.log,hin.fn,λp hp=>hin.here p (mem_append_left _ hp),λp hp=>hin.read p (mem_append_left _ hp),λp hp q hq=>hin.asc p hp q (mem_append_left _ hq),(pairwise_append.1 hin.asc').1,hin.closed⟩;rw[xr]at hu;split at hu
    · rename_i e;subst e;cases hu;rw[ht,hbw]
    · exact hin.known u c hu
   obtain⟨E,S1',S',acc',Z',FN',nw,h1,h2,h3,h4,h5,h6,h7,h8,h9,h10,h11,h12⟩:=(ih true _ grp S acc _ v S1 Z FN D hX hin').out;have hfr:Cy S.en S'.en=true/\Cx (S'.eval (cond want x y))=some v:=by
    cases hf:Cy S.en S'.en with
    | true=>rw[hf]at h1;exact⟨rfl,h1⟩
    | false=>rw[hf]at h1;cases h1
   have hEd:∀p∈E,p.2.1.dst≠some t:=λp hp=>hdt _ (Cj h3 hp);have hside:=JD hfr.2
   have hside1:S1'.eval (cond want x y)=.cell (.bool v):=by
    cases hxy:cond want x y with
    | tmp u =>
     rw[hxy]at hside;rcases h4.1.tm u with h|⟨_,h⟩
     · exact h.symm.trans hside
     · have hside:S'.tmp u=_:=hside;rw[h]at hside;cases hside
    | const c=>rw[hxy]at hside;exact hside
    | global c=>rw[hxy]at hside;exact hside
    | func c=>rw[hxy]at hside;exact hside
   refine⟨E,S1',h2,h3,h7,h8,h9,λp hp=>hgu _ (Cj h3 hp),λp hp n hn=>?_,by rw[h2.tmp hEd];exact ht,?_⟩
   · rcases h12 p hp n hn with h|h
     · have hfe:=hfr.1;unfold Cy at hfe;rw[h11.1,length_append,Nat.add_sub_cancel,take_left]at hfe;obtain⟨q,hq,rfl⟩:=mem_map.1 h;have:=all_eq_true.1 hfe q hq
       cases hf:wW S.en q.1 with
       | none=>rfl
       | some e=>rw[hf]at this;cases this
     · exact h
   · subst hbw;cases b<;>exact hside1
 ·
   have hbn:b=!want:=by cases b<;>cases want<;>simp_all
   have hD:Cx (S.eval (cond want y x))=some v:=by
    subst hbn;cases want<;>exact hv
   obtain⟨S1a,hT⟩:=NO (G:=G) (rid:=rid) hj hok (S1:=S1) (by rw[ht,hbn]) (by simp) (λp hp=>hin.here p (mem_append_left _ hp));have hmap:(grp.map λp=>((p.1,p.2,none):Ev)).map (λp=>(p.1,p.2.1))=grp:=by
    rw[List.map_map,show ((λp:Ev=>(p.1,p.2.1)) ∘ λp:Nat×Oper=>((p.1,p.2,none):Ev))=id from rfl,List.map_id]
   have hEd:∀p∈grp.map λp=>((p.1,p.2,none):Ev),p.2.1.dst≠some t:=λp hp=>hdt _ (Cj hmap hp);have hidle:∀p∈grp.map λp=>((p.1,p.2,none):Ev),p.2.2=none:=λp hp=>by obtain⟨q,_,rfl⟩:=mem_map.1 hp;rfl
   refine⟨grp.map λp=>(p.1,p.2,none),S1a,hT,hmap,λp hp=>?_,?_,λp hp q hq=>.inr ?_,λp hp=>hgu _ (Cj hmap hp),λp hp n hn=>?_,by rw[hT.tmp hEd];exact ht,?_⟩
   · rw[show p=(p.1,p.2.1,p.2.2)from rfl,hidle p hp];exact⟨by simp[Ak],by simp[xW],by simp[xW]⟩
   · rw[List.pairwise_map];exact List.Pairwise.imp (λ_=>.inr (CB.of_idle_right rfl rfl)) (pairwise_append.1 hin.asc').1
   · rw[hidle q hq];exact CB.of_idle_right rfl rfl
   · rw[hidle p hp]at hn;simp[xW]at hn
   · have hs:=JD hD;have h1:S1.eval (cond want y x)=.cell (.bool v):=by
      cases hxy:cond want y x with
      | tmp u =>
       rw[hxy]at hs;rcases hin.sub.tm u with h|⟨_,h⟩
       · exact h.symm.trans hs
       · have hs:S.tmp u=_:=hs;rw[h]at hs;cases hs
      | const c=>rw[hxy]at hs;exact hs
      | global c=>rw[hxy]at hs;exact hs
      | func c=>rw[hxy]at hs;exact hs
     have h2:S1a.eval (cond want y x)=.cell (.bool v):=by
      rw[RI hT (λu hu p hp=>P8 hun hu _ (Cj hmap hp))];exact h1
     subst hbn;cases want<;>exact h2
theorem Qz (hB:GT ops B) {f:Nat} (ih:IH G rid ops B f) {A:Type} {gr:Bool} {kn:List (Nat×Bool)} {grp r':List (Nat×Oper)} {pi:Nat} {p:Oper} {S S1:St} {acc:B8} {k:St->B8->Option A} {r:A} {Z:List Tmp} {FN:List th} {D:List Ev}
 {t d:Tmp} {b v:Bool} {x y:Operand} (hin:Im rid ops B kn (grp++(pi,p)::r') S S1 D acc Z FN) (hg:Yw G rid ops B kn grp S S1 D t x y b v) (hop:p.op=.pick (.tmp t) x y) (hd:p.dst=some d) (hpk:KB ops kn p=true)
 (hun:Nl ops grp r'=true) (hpd:zV kn p.dst=true)
 (hr:zF G rid ops (some B) gr f kn r' ⟨(d,.cell (.bool v))::(Aa grp++S.tm),S.en⟩ ((pi,some ([],[]))::(grp.map λq=>(q.1,none))++acc) k=some r) :
 xC G rid ops B gr kn (grp++(pi,p)::r') S S1 D k r acc:=by
 obtain⟨E,S1a,h2,h3,h7,h8,h9,h10,h12,htb,hside⟩:=hg.out;have hEd:∀q∈E,∀u c,wW kn u=some c->q.2.1.dst≠some u:=λq hq u c hu he=>by
  have:=h10 q hq;rw[he]at this;exact Fu this hu
 have hstep:CA G rid ops S1a pi p (some (⟨.cell (.bool v),[]⟩,[])):=by
  refine⟨λi w hgd=>?_,?_⟩
  · unfold KB at hpk;rw[hgd]at hpk;simp only at hpk;cases hdi:Bq ops i with
    | none=>rw[hdi]at hpk;cases hpk
    | some t' =>
     rw[hdi]at hpk;simp only at hpk;cases hk:wW kn t' with
     | none=>rw[hk]at hpk;cases hpk
     | some c =>
      rw[hk]at hpk;obtain rfl:=Jk hpk;exact⟨t',rfl,by rw[h2.tmp λq hq=>hEd q hq t' c hk];exact hin.known t' c hk⟩
  · rw[hop];show (Dm (S1a.tmp t) (S1a.eval x) (S1a.eval y)).Runs _ _ _
    rw[htb];exact RH hside
 let S1b:=S1a.act p (some (⟨.cell (.bool v),[]⟩,[]))
 let pe:Ev:=(pi,p,some (⟨.cell (.bool v),[]⟩,[]))
 have hasc:=pairwise_append.1 hin.asc';have hasc2:=pairwise_cons.1 hasc.2.1
 have hnm:∀n,n∈E.flatMap (λq=>xW q.2.2)↔∃q∈E,n∈xW q.2.2:=λn=>List.mem_flatMap;have hin2:Im rid ops B kn r' ⟨(d,.cell (.bool v))::(Aa grp++S.tm),S.en⟩ S1b (D++E++[pe]) ((pi,some ([],[]))::(grp.map λq=>(q.1,none))++acc) (Z++DO grp) (FN++E.flatMap λq=>xW q.2.2):=by
  refine⟨⟨λu=>?_,λn hn=>?_,λn hn=>?_⟩,λu c hu=>?_,λq hq=>?_,λn hn=>?_,λq hq=>hin.here q (by simp[hq]),λq hq u hu hl=>?_,λq hq q' hq'=>?_,hasc2.2,⟨λu=>?_,hin.closed.box⟩⟩
  ·
    by_cases hu:d=u
    · subst hu;left;show (match wW ((d,AV.cell (.bool v))::_) d with|some v=>v|none=>.undef)=_
      rw[Ab];simp only[S1b,St.act,St.tmp_put,hd,if_true]
    · have e1:S1b.tmp u=S1a.tmp u:=St.tmp_act _ _ _ _ (by rw[hd];simpa using hu);have e2:St.tmp ⟨(d,.cell (.bool v))::(Aa grp++S.tm),S.en⟩ u=(match wW (Aa grp++S.tm) u with|some v=>v|none=>.undef):=by
       show (match wW ((d,AV.cell (.bool v))::_) u with|some v=>v|none=>.undef)=_;rw[yb hu]
      rw[e1,e2];by_cases hg:u∈DO grp
      · right;rw[CC.1 hg];exact⟨mem_append_right _ hg,rfl⟩
      · rw[CC.2 hg];have e3:S1a.tmp u=S1.tmp u:=h2.tmp λq hq he=>hg (NN.2 ⟨_,Cj h3 hq,he⟩)
        rw[e3];rcases hin.sub.tm u with h|⟨h,h'⟩
        · exact .inl h
        · exact .inr ⟨mem_append_left _ h,h'⟩
  · simp only[mem_append,not_or]at hn;rw[show S1b=S1a.act p (some (⟨.cell (.bool v),[]⟩,[]))from rfl,St.en_act _ _ _ _ (by simp[xW]),h2.en λq hq hm=>hn.2 ((hnm n).2 ⟨q,hq,hm⟩)];exact hin.sub.en n hn.1
  · rcases mem_append.1 hn with hn|hn
    · exact hin.sub.no n hn
    · obtain⟨q,hq,hm⟩:=(hnm n).1 hn;exact h12 q hq n hm
  · rw[show S1b=S1a.act p (some (⟨.cell (.bool v),[]⟩,[]))from rfl,St.tmp_act _ _ _ _ (λhe=>by rw[he]at hpd;exact Fu hpd hu),h2.tmp λq hq=>hEd q hq u c hu];exact hin.known u c hu
  · simp only[mem_append,mem_singleton]at hq;rcases hq with (hq|hq)|rfl
    · exact (hin.log q hq).mono λz hz=>by simp[hz]
    · refine .inr ⟨(q.1,none),?_,rfl,.inl ⟨rfl,h7 q hq⟩⟩;have:=Cj h3 hq
      simp only[cons_append,mem_cons,mem_append,mem_map];exact .inr (.inl ⟨_,this,rfl⟩)
    · exact .inl ⟨rfl,rfl⟩
  · rcases mem_append.1 hn with hn|hn
    · obtain⟨q,hq,h⟩:=hin.fn n hn;exact⟨q,by simp[hq],h⟩
    · obtain⟨q,hq,hm⟩:=(hnm n).1 hn;refine⟨(q.1,none),?_,rfl,(h7 q hq).own rfl n hm⟩;have:=Cj h3 hq
      simp only[cons_append,mem_cons,mem_append,mem_map];exact .inr (.inl ⟨_,this,rfl⟩)
  · rcases mem_append.1 hu with hu|hu
    · exact hin.read q (by simp[hq]) u hu hl
    · obtain⟨g,hgm,hgd⟩:=NN.1 hu;have:=all_eq_true.1 (all_eq_true.1 hun q hq) g hgm
      rw[hgd]at this;simp only[Bool.not_eq_true',List.contains_eq_mem,decide_eq_false_iff_not]at this;exact this (NL hl)
  · simp only[mem_append,mem_singleton]at hq;rcases hq with (hq|hq)|rfl
    · exact hin.asc q hq q' (by simp[hq'])
    · exact hasc.2.2 _ (Cj h3 hq) q' (mem_cons_of_mem _ hq')
    · exact hasc2.1 q' hq'
  · refine JE (x:=.cell (.bool v)) (λu=>?_) (λn hn=>by simp[Cell.refs]at hn) u;show A9 _ (match wW (Aa grp++S.tm) u with|some v=>v|none=>.undef)
    by_cases hg:u∈DO grp
    · rw[CC.1 hg];exact λn hn=>by simp[Cell.refs]at hn
    · rw[CC.2 hg];exact hin.closed.tmp u
 obtain⟨E',S1',S',acc',Z',FN',nw,g1,g2,g3,g4,g5,g6,g7,g8,g9,g10,g11,g12⟩:=(ih gr kn r' _ _ k r S1b _ _ _ hr hin2).out;refine⟨E++pe::E',S1',S',acc',Z',FN',nw,g1,h2.append ⟨hstep,g2⟩,by simp[h3,g3,pe],g4,λq hq=>g5 q (by simpa using hq),g6,λq hq=>?_,?_,λq hq q' hq'=>?_,λq hq=>?_,⟨g11.1,Hn g11.2 ⟨(d,.cell (.bool v))::Aa grp,rfl⟩⟩,λq hq n hn=>?_⟩
 · rcases mem_append.1 hq with hq|hq
   · exact (h7 q hq).loose
   · rcases mem_cons.1 hq with rfl|hq
     · exact⟨by simp[pe,Ak],by simp[pe,xW],by simp[pe,xW]⟩
     · exact g7 q hq
 · rw[pairwise_append,pairwise_cons];refine⟨h8,⟨λq hq=>g9 pe (by simp) q hq,g8⟩,λq hq q' hq'=>?_⟩;rcases mem_cons.1 hq' with rfl|hq'
   · exact .inr (CB.of_idle_right rfl rfl)
   · exact g9 q (by simp[hq]) q' hq'
 · rcases mem_append.1 hq' with hq'|hq'
   · exact h9 q hq q' hq'
   · rcases mem_cons.1 hq' with rfl|hq'
     · exact .inr (CB.of_idle_right rfl rfl)
     · exact g9 q (by simp[hq]) q' hq'
 · rcases mem_append.1 hq with hq|hq
   · exact h10 q hq
   · rcases mem_cons.1 hq with rfl|hq
     · exact hpd
     · exact g10 q hq
 · rcases mem_append.1 hq with hq|hq
   · exact .inr (h12 q hq n hn)
   · rcases mem_cons.1 hq with rfl|hq
     · simp[pe,xW]at hn
     · exact g12 q hq n hn
theorem NP (hB:GT ops B):∀f,IH G rid ops B f
 | 0=>by intro grp kn l S acc k r S1 Z FN D h _;simp[zF]at h
 | f+1=>by
  intro grp kn l S acc k r S1 Z FN D h hin;have ih:IH G rid ops B f:=NP hB f
  cases l with
  | nil =>
   simp only[zF]at h;exact⟨[],S1,S,acc,Z,FN,[],h,Al.refl _,rfl,⟨hin.sub,hin.closed⟩,by simpa using hin.log,hin.fn,by simp,List.Pairwise.nil,by simp,by simp,⟨rfl,[],rfl⟩,by simp⟩
  | cons io l =>
   obtain⟨i,o⟩:=io;simp only[zF]at h;cases hu:zV kn o.dst with
   | false=>rw[hu]at h;cases h
   | true =>
    rw[hu]at h;simp only[cT]at h;cases hg:o.guard with
    | none =>
     rw[hg]at h;exact Px hB ih h hin (λj w hj=>by rw[hg]at hj;cases hj) hu
    | some q =>
     obtain⟨j,want⟩:=q;rw[hg]at h;simp only at h;cases hj:Bq ops j with
     | none=>rw[hj]at h;cases h
     | some t =>
      rw[hj]at h;simp only at h;cases hk:wW kn t with
      | some c =>
       rw[hk]at h;simp only at h;have htc:=hin.known t c hk
       cases hb:HG c want with
       | true =>
        rw[hb]at h;obtain rfl:=Jk hb;exact Px hB ih h hin (λj' w' hj'=>by rw[hg]at hj';cases hj';exact⟨t,hj,htc⟩) hu
       | false =>
        rw[hb]at h;have:=UB hb
        exact MC hB ih h hin ⟨j,want,t,hg,hj,.inl (by rw[htc,this])⟩ hu
      | none =>
       rw[hk]at h;simp only at h;cases ht:S.tmp t with
       | agg _=>rw[ht]at h;cases h
       | tup _=>rw[ht]at h;cases h
       | cell c =>
        have hS1:c≠.undef->S1.tmp t=.cell c:=λhne=>by
         rcases hin.sub.tm t with h|⟨_,h⟩
         · exact h.symm.trans ht
         · rw[ht]at h;exact absurd (by cases h;rfl) hne
        rw[ht]at h;cases c<;>try (cases h;done)
        case void=>exact MC hB ih h hin ⟨j,want,t,hg,hj,.inr (hS1 (by simp))⟩ hu
        case bool b =>
         have ht1:=hS1 (by simp);simp only at h;cases hs:C5 t ((i,o)::l)with
         | none=>rw[hs]at h;cases h
         | some z =>
          obtain⟨g',⟨pi,p⟩,r'⟩:=z;rw[hs]at h;simp only at h;obtain⟨hl,x,y,hop⟩:=Ho hs;cases hok:(okGroup ops j want t g'&&((g'.all λq=>Pm G S.eval q.2.op)&&Nn B g' r'))with
          | true =>
           rw[hok]at h;simp only[aT,cT]at hok h;rw[hop]at h;cases hd:p.dst with
           | none=>rw[hd]at h;cases h
           | some d =>
            rw[hd]at h;simp only at h;cases hc:(KB ops kn p&&Nl ops g' r'&&(KE g' (cond want y x)&&(g'.all (λq=>zV kn q.2.dst)&&zV kn (some d))))with
            | false=>rw[hc]at h;cases h
            | true =>
             rw[hc]at h;simp only[aT,cT]at hc h;obtain⟨⟨c1,c2⟩,c3,c4,c5⟩:=hc;rw[Option.bind_eq_some_iff]at h;obtain⟨v,hv,hr⟩:=h;rw[hl]at hin ⊢;exact Qz hB ih hin (RJ hB ih hin hj ht1 hok.1 hk (λq hq=>all_eq_true.1 c4 q hq) c3 hv) hop hd c1 c2 (by rw[hd];exact c5) hr
          | false =>
           rw[hok]at h;simp only[cF]at h;have key:∀c:Bool,b=c->zF G rid ops (some B) grp f ((t,c)::kn) ((i,o)::l) ⟨(t,.cell (.bool c))::S.tm,S.en⟩ acc k=some r->xC G rid ops B grp kn ((i,o)::l) S S1 D k r acc:=by
            intro c hbc hrun;have hin':Im rid ops B ((t,c)::kn) ((i,o)::l) ⟨(t,.cell (.bool c))::S.tm,S.en⟩ S1 D acc Z FN:=by
             refine⟨⟨λu=>?_,hin.sub.en,hin.sub.no⟩,λu c' hu'=>?_,hin.log,hin.fn,hin.here,hin.read,hin.asc,hin.asc',⟨λu=>?_,hin.closed.box⟩⟩
             · by_cases hu':t=u
               · subst hu';left;show (match wW ((t,AV.cell (.bool c))::S.tm) t with|some v=>v|none=>.undef)=_
                 rw[Ab,ht1,hbc]
               · show (match wW ((t,AV.cell (.bool c))::S.tm) u with|some v=>v|none=>.undef)=_\/(_/\(match wW ((t,AV.cell (.bool c))::S.tm) u with|some v=>v|none=>.undef)=_);rw[yb hu'];exact hin.sub.tm u
             · rw[xr]at hu';split at hu'
               · rename_i e;subst e;cases hu';rw[ht1,hbc]
               · exact hin.known u c' hu'
             · exact JE (x:=.cell (.bool c)) hin.closed.tmp (λn hn=>by simp[Cell.refs]at hn) u
            obtain⟨E,S1',S',acc',Z',FN',nw,g1,g2,g3,g4,g5,g6,g7,g8,g9,g10,g11,g12⟩:=(ih grp _ _ _ _ k r S1 Z FN D hrun hin').out;refine⟨E,S1',S',acc',Z',FN',nw,g1,g2,g3,g4,g5,g6,g7,g8,g9,λq hq=>?_,⟨g11.1,Hn g11.2 ⟨[(t,.cell (.bool c))],rfl⟩⟩,g12⟩;have:=g10 q hq
            cases hdq:q.2.1.dst with
            | none=>rfl
            | some u =>
             rw[hdq]at this;simp only[zV,xr]at this ⊢;split at this
             · rename_i hh;split at hh
               · cases hh
               · rw[hh]
             · cases this
           cases b with
           | true=>exact key true rfl h
           | false=>exact key false rfl h
end Go.V
namespace Go.V
variable {G:yU} {uid rid:Nat} {ops:List Oper} {B:List Nat}

theorem KS {A:Type} {grp:Bool} {kn:List (Nat×Bool)} {k:St->B8->Option A} {r:A} {acc:B8}:∀{f:Nat} {l:List (Nat×Oper)} {S:St},zF G rid ops none grp f kn l S acc k=some r ->
 ∃E S',Tr G rid ops E S S'/\E.map (λp=>(p.1,p.2.1))=l/\k S' acc=some r/\(∃nw,S'.en=nw++S.en)/\∃nt,S'.tm=nt++S.tm
 | 0,l,S,h=>by simp[zF]at h
 | f+1,[],S,h=>⟨[],S,Al.refl _,rfl,by simpa[zF]using h,⟨[],rfl⟩,[],rfl⟩
 | f+1,(i,o)::l,S,h=>by
  simp only[zF]at h;cases hu:zV kn o.dst with
  | false=>rw[hu]at h;cases h
  | true =>
   rw[hu]at h;simp only[cT]at h;cases hg:o.guard with
   | some q=>rw[hg]at h;cases h
   | none =>
    rw[hg]at h;obtain⟨e,L,h1,h2⟩:=Rd.run_some h;obtain⟨E,S',k1,k2,k3,⟨nw,k4⟩,k5⟩:=KS h2;exact⟨(i,o,some (e,L))::E,S',⟨⟨(λj w hj=>by rw[hg]at hj;cases hj),h1⟩,k1⟩,by simp[k2],k3,⟨nw++e.ents,by rw[k4,St.en_put,append_assoc]⟩,Hn k5 (NM _ _ _)⟩

theorem Dr (b i:Nat):zX b i=b.testBit i:=by
 unfold zX Nat.testBit;show Nat.beq (1&&&(b >>> i)) 1=(1&&&(b >>> i) != 0)
 have h:1&&&(b >>> i)=(b >>> i)%2:=by rw[Nat.and_comm];exact Nat.and_one_is_mod _
 rw[h];rcases Nat.mod_two_eq_zero_or_one (b >>> i)with h|h<;>rw[h]<;>rfl
theorem JF:∀{l:List Nat} {i:Nat},Fk i l=true->∀k b,l[k]?=some b->b<2^(i+k)
 | [],i,h,k,b,hk=>by simp at hk
 | c::l,i,h,0,b,hk=>by
  simp only[Fk,aT]at h;simp at hk;subst hk;have:=Nat.le_of_ble_eq_true h.1
  rw[show Nat.shiftLeft 1 i=2^i from by show 1 <<< i=_;rw[Nat.shiftLeft_eq,Nat.one_mul]]at this;exact this
 | c::l,i,h,k+1,b,hk=>by
  simp only[Fk,aT]at h;have:=JF h.2 k b (by simpa using hk)
  rw[show i+(k+1)=i+1+k by omega];exact this
theorem GT.of (h1:ops.length<256) (h2:Fk 0 B=true):GT ops B:=by
 refine⟨λk i hki=>?_,h1⟩;rw[Dr];unfold zu;cases hk:B[k]? with
 | none=>simp
 | some b =>
  have:=JF h2 k b hk;rw[Nat.zero_add]at this;exact Nat.testBit_lt_two_pow (Nat.lt_of_lt_of_le this (Nat.pow_le_pow_right (by omega) hki))
theorem MD {acc:List Nat} {a:Nat}:∀(l:List Edge) (s:Nat),zX (l.foldl (λs e=>cond (Region.binds .any e) (Nat.lor (Nat.lor s (Nat.shiftLeft 1 e.on)) (zu acc e.on)) s) s) a=true ->
 zX s a=true\/∃e∈l,Region.binds .any e=true/\(e.on=a\/zX (zu acc e.on) a=true)
 | [],s,h=>.inl h
 | e::l,s,h=>by
  simp only[List.foldl_cons]at h;rcases MD l _ h with h|⟨e',he,hb,k⟩
  · cases hb:Region.binds .any e with
    | false=>rw[hb]at h;exact .inl h
    | true =>
     rw[hb]at h;simp only[cT]at h;rw[Dr]at h;have h:((s|||(1 <<< e.on))|||zu acc e.on).testBit a=true:=h
     rw[Nat.testBit_or,Nat.testBit_or,Bool.or_eq_true,Bool.or_eq_true]at h;rcases h with (h|h)|h
     · exact .inl (by rw[Dr];exact h)
     · refine .inr ⟨e,mem_cons_self,hb,.inl ?_⟩;rw[Nat.one_shiftLeft,Nat.testBit_two_pow]at h;simpa using h
     · exact .inr ⟨e,mem_cons_self,hb,.inr (by rw[Dr];exact h)⟩
  · exact .inr ⟨e',mem_cons_of_mem _ he,hb,k⟩
theorem JG:∀(l:List Oper) (acc:List Nat),∃r,D1 l acc=acc++r/\r.length=l.length
 | [],acc=>⟨[],by simp[D1],rfl⟩
 | o::l,acc=>by
  obtain⟨r,h1,h2⟩:=JG l (acc++[Ha acc o]);exact⟨_::r,by rw[D1,h1,append_assoc];rfl,by simp[h2]⟩
theorem ME:∀(l:List Oper) (acc:List Nat) (k:Nat) (o:Oper),l[k]?=some o->∀a,zX (zu (D1 l acc) (acc.length+k)) a=true ->
 ∃e∈o.after.toList,Region.binds .any e=true/\(e.on=a\/zX (zu (D1 l acc) e.on) a=true)
 | [],acc,k,o,hk,a,h=>by simp at hk
 | p::l,acc,0,o,hk,a,h=>by
  simp at hk;subst hk;obtain⟨r,h1,h2⟩:=JG l (acc++[Ha acc p]);rw[D1,h1]at h ⊢;have hat:((acc++[Ha acc p])++r)[acc.length+0]?=some (Ha acc p):=by
   rw[append_assoc,List.getElem?_append_right (by omega)];simp
  unfold zu at h;rw[hat]at h;rcases MD _ _ h with h|⟨e,he,hb,k⟩
  · rw[Dr]at h;simp at h
  · refine⟨e,he,hb,k.imp id λk=>?_⟩;unfold zu at k ⊢;cases hq:acc[e.on]? with
    | none=>rw[hq]at k;rw[Dr]at k;simp at k
    | some b =>
     rw[hq]at k;have hlt:e.on<acc.length:=(List.getElem?_eq_some_iff.1 hq).1
     rw[append_assoc,List.getElem?_append_left hlt,hq];exact k
 | p::l,acc,k+1,o,hk,a,h=>by
  rw[D1]at h ⊢;have:=ME l (acc++[Ha acc p]) k o (by simpa using hk) a
  rw[length_append,List.length_singleton,show acc.length+1+k=acc.length+(k+1) by omega]at this;exact this h
end Go.V
namespace Go.V
variable {P:Program} {G:yU} {rid:Nat} {ops:Array Oper} {B:List Nat} {Q:Exit->Act->World->Prop} {R:St->Act->World->Prop}

structure QA (P:Program) (G:yU) (rid:Nat) (ops:Array Oper) (Q:Exit->Act->World->Prop) (R:St->Act->World->Prop):Prop where
 same:∀S S' a w,Al S S'->R S a w->R S' a w
 step:∀S i o r a w (K:Act->World->Prop),CA G rid ops.toList S i o r->ops.toList[i]?=some o->R S a w->(∀a' w',R (S.act o r) a' w'->K a' w')->wpOp P ops Q i K a w
def Zd (ops:Array Oper) (B:List Nat) (p q:Ev):Prop:=zX (zu B q.1) p.1=true\/Ga ops.toList p.2.1 q.2.1 p.2.2 q.2.2
theorem GU (hs:QA P G rid ops Q R):∀{E:List Ev} {S S':St} {a:Act} {w:World},Tr G rid ops.toList E S S'->(∀p∈E,ops.toList[p.1]?=some p.2.1)->R S a w->(∀a w,R S' a w->Q .normal a w)->wpOps P ops Q (E.map (·.1)) a w
 | [],S,S',a,w,h,_,hR,hQ=>hQ a w (hs.same S S' a w h hR)
 | (i,o,r)::E,S,S',a,w,⟨h1,h2⟩,hh,hR,hQ=>by
  rw[map_cons,wpOps_cons];exact hs.step S i o r a w _ h1 (hh (i,o,r) mem_cons_self) hR λa' w' hR'=>GU hs h2 (λp hp=>hh p (mem_cons_of_mem _ hp)) hR' hQ
structure VO (ops:Array Oper) (B:List Nat) (listed:Array Bool) (E:List Ev):Prop where
 size:listed.size=ops.size
 here:∀p∈E,ops.toList[p.1]?=some p.2.1
 mem:∀i,i<ops.size->(listed.getD i true=false↔∃p∈E,p.1=i)
 asc:E.Pairwise λp q=>p.1<q.1
 far:E.Pairwise (Zd ops B)
 closed:∀i,i<ops.size->listed.getD i true=true->∀a,zX (zu B i) a=true->listed.getD a false=true
structure YC (ops:Array Oper) (B:List Nat):Prop where
 spec:∀i o,ops.toList[i]?=some o->∀a,zX (zu B i) a=true->∃e∈o.after.toList,Region.binds .any e=true/\(e.on=a\/zX (zu B e.on) a=true)
 forward:∀i o,ops.toList[i]?=some o->∀e∈o.after.toList,Region.binds .any e=true->e.on<i
theorem IF {listed:Array Bool} {i:Nat}:i∈Region.ready .any ops listed↔i<ops.size/\listed.getD i true=false/\∃o,ops[i]?=some o/\∀e∈o.after,Region.binds .any e=true->listed.getD e.on false=true:=by
 simp only[Region.ready,List.mem_filter,List.mem_range,aT,Bool.not_eq_true'];constructor
 · rintro⟨h1,h2,h3⟩;refine⟨h1,h2,ops[i],by simp[h1],λe he hb=>?_⟩;simp[h1]at h3;obtain⟨k,hk,rfl⟩:=Array.mem_iff_getElem.1 he;have:=h3 k hk
   rw[hb]at this;simpa using this
 · rintro⟨h1,h2,o,ho,h3⟩;refine⟨h1,h2,?_⟩;rw[ho];simp only[Option.map_some,Option.getD_some,Array.all_eq_true];intro k hk;cases hb:Region.binds .any o.after[k]with
   | false=>rfl
   | true=>simpa[hb]using h3 _ (Array.getElem_mem hk) hb
theorem LS {listed:Array Bool} {i:Nat} {d d':Bool} (h:i<listed.size):listed.getD i d=listed.getD i d':=by simp[Array.getD,h]
theorem RK (hs:QA P G rid ops Q R) (hB:YC ops B):∀{n:Nat} {listed:Array Bool} {E:List Ev} {S S':St} {a:Act} {w:World},E.length=n->Tr G rid ops.toList E S S'->VO ops B listed E->R S a w->(∀a w,R S' a w->Q .normal a w) ->
 wpAny P .any ops Q n listed a w:=by
 have dead:∀{listed:Array Bool} {E:List Ev},VO ops B listed E->E≠[]->Region.ready .any ops listed≠[]:=by
  intro listed E hr hne;cases E with
  | nil=>exact absurd rfl hne
  | cons p E =>
   have hp:=hr.here p mem_cons_self;have hlt:p.1<ops.size:=by simpa using (List.getElem?_eq_some_iff.1 hp).1
   have:p.1∈Region.ready .any ops listed:=by
    rw[IF];refine⟨hlt,(hr.mem p.1 hlt).2 ⟨p,mem_cons_self,rfl⟩,p.2.1,by simpa using hp,λe he hb=>?_⟩;have hf:=hB.forward p.1 p.2.1 hp e (by simpa using he) hb
    have hel:e.on<ops.size:=by omega
    cases hl:listed.getD e.on true with
    | true=>rw[LS (d':=true) (by rw[hr.size];exact hel)];exact hl
    | false =>
     obtain⟨q,hq,hqe⟩:=(hr.mem e.on hel).1 hl;rcases mem_cons.1 hq with rfl|hq
     · omega
     · have:=(pairwise_cons.1 hr.asc).1 q hq;omega
   intro h0;rw[h0]at this;simp at this
 intro n
 induction n with
 | zero =>
  intro listed E S S' a w hn hT hr hR hQ;obtain rfl:=List.length_eq_zero_iff.1 hn;refine⟨?_,hQ a w (hs.same S S' a w hT hR)⟩;rw[List.eq_nil_iff_forall_not_mem];intro i hi;rw[IF]at hi;obtain⟨p,hp,_⟩:=(hr.mem i hi.1).1 hi.2.1;simp at hp
 | succ n ih =>
  intro listed E S S' a w hn hT hr hR hQ;have hne:E≠[]:=λh=>by rw[h]at hn;simp at hn
  refine⟨λh=>absurd h (dead hr hne),λi hi=>?_⟩;rw[IF]at hi;obtain⟨hlt,hun,o,ho,hrd⟩:=hi;obtain⟨p,hp,rfl⟩:=(hr.mem i hlt).1 hun;obtain⟨A,C,rfl⟩:=List.append_of_mem hp;obtain⟨j,y,ry⟩:=p;have hjo:=hr.here (j,y,ry) hp
  have hasc:=pairwise_append.1 hr.asc;have hasc2:=pairwise_cons.1 hasc.2.1
  have hfar:=pairwise_append.1 hr.far;have hoy:o=y:=by simpa[ho]using hjo
  subst hoy;have hdone:∀c,zX (zu B j) c=true->listed.getD c false=true:=by
   intro c hc;obtain⟨e,he,hb,k⟩:=hB.spec j o hjo c hc;have hl:=hrd e (by simpa using he) hb
   rcases k with rfl|k
   · exact hl
   · have hel:e.on<ops.size:=by have:=hB.forward j o hjo e he hb;omega
     exact hr.closed e.on hel (by rw[LS (d':=false) (by rw[hr.size];exact hel)];exact hl) c k
  have hind:∀q∈A,Ga ops.toList q.2.1 o q.2.2 ry:=by
   intro q hq;rcases hfar.2.2 q hq (j,o,ry) mem_cons_self with h|h
   · have h1:=hdone q.1 h;have hq1:q.1<ops.size:=by simpa using (List.getElem?_eq_some_iff.1 (hr.here q (by simp[hq]))).1
     have h2:=(hr.mem q.1 hq1).2 ⟨q,by simp[hq],rfl⟩;rw[LS (d':=false) (by rw[hr.size];exact hq1),h1]at h2;cases h2
   · exact h
  obtain⟨k1,k2⟩:=Tr.bubble hind hT;refine hs.step S j o ry a w _ k1 hjo hR λa' w' hR'=>ih (by simp at hn ⊢;omega) k2 ?_ hR' hQ;have hget:∀c d,(listed.setIfInBounds j true).getD c d=if c=j then true else listed.getD c d:=by
   intro c d;by_cases hc:c=j
   · subst hc;simp[Array.getD,hr.size,hlt]
   · rw[if_neg hc];simp only[Array.getD,Array.size_setIfInBounds];split
     · rename_i h;show (listed.setIfInBounds j true)[c]'(by simpa using h)=listed[c]
       rw[Array.getElem_setIfInBounds (by simpa using h)];rw[if_neg (Ne.symm hc)]
     · rfl
  refine⟨by simpa using hr.size,λq hq=>hr.here q (by simp at hq ⊢;rcases hq with h|h<;>simp[h]),λc hc=>?_,?_,?_,λc hc hl x hx=>?_⟩
  · rw[hget];by_cases hcj:c=j
    · rw[if_pos hcj];refine⟨(λh=>by cases h),λ⟨q,hq,hqc⟩=>?_⟩;exfalso;rcases mem_append.1 hq with hq|hq
      · have:=hasc.2.2 q hq (j,o,ry) mem_cons_self;have:q.1<j:=this;omega
      · have:=hasc2.1 q hq;have:j<q.1:=this;omega
    · rw[if_neg hcj,hr.mem c hc];constructor
      · rintro⟨q,hq,rfl⟩;rcases mem_append.1 hq with hq|hq
        · exact⟨q,by simp[hq],rfl⟩
        · rcases mem_cons.1 hq with rfl|hq
          · exact absurd rfl hcj
          · exact⟨q,by simp[hq],rfl⟩
      · rintro⟨q,hq,rfl⟩;rcases mem_append.1 hq with hq|hq
        · exact⟨q,by simp[hq],rfl⟩
        · exact⟨q,by simp[hq],rfl⟩
  · exact pairwise_append.2 ⟨hasc.1,hasc2.2,λq hq q' hq'=>hasc.2.2 q hq q' (mem_cons_of_mem _ hq')⟩
  · exact pairwise_append.2 ⟨hfar.1,(pairwise_cons.1 hfar.2.1).2,λq hq q' hq'=>hfar.2.2 q hq q' (mem_cons_of_mem _ hq')⟩
  · rw[hget];rw[hget]at hl;by_cases hxj:x=j
    · rw[if_pos hxj]
    · rw[if_neg hxj];by_cases hcj:c=j
      · subst hcj;exact hdone x hx
      · rw[if_neg hcj]at hl;exact hr.closed c hc hl x hx
end Go.V

