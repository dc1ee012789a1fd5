/- V: a run of the model's code over plain data, and that it is what the machine does. Part 2 of 4. No condition. -/
import Derived.Test.YthcdcolihokdmaaGreatV1
import Derived.Laws.MakeOwn
import Derived.Great.FillDense
import Derived.Laws.Tables
import Derived.Great.BuildSlice
import Derived.Laws.StructEq
open List (all_eq_true append_assoc append_nil drop_append drop_drop drop_of_length_le drop_zero length_drop length_take map_append map_cons map_nil mem_append mem_append_right mem_cons mem_cons_of_mem mem_cons_self mem_map mem_singleton nil_append nodup_append take_append take_append_drop take_length take_take)
set_option linter.unusedVariables false
set_option linter.unusedSimpArgs false
namespace Go.V
variable {P:Program} {w0:World} {T N:Nat->Prop} {S:St} {g:Gh} {w:World} {a:Act} {o:Oper} {G:o9} {uid:mF}

theorem rA {b off:Nat} {vs:List Value} (h:row w b off vs) (o n:Nat) (hn:o+n<=vs.length):row w b (off+o) ((vs.drop o).take n):=by
 obtain⟨c,t,fz,hc,hr⟩:=h;refine⟨c,t,fz,hc,?_⟩;have:=vD c.toList vs off o (o+n) hr (by omega) hn
 have e:(vs.take (o+n)).drop o=(vs.drop o).take n:=by rw[List.drop_take,Nat.add_sub_cancel_left]
 rw[e]at this;exact this
theorem nG.row {b:Nat} {us:List Value} (h:nG w b us):row w b 0 us:=by
 obtain⟨c,t,lo,hi,hc,rfl,_⟩:=h;exact⟨c,t,_,hc,by rw[drop_zero];exact take_length⟩
theorem nG.row_at {b off:Nat} {us vs:List Value} (h:nG w b us) (hv:(us.drop off).take vs.length=vs):Go.V.row w b off vs:=by
 obtain⟨c,t,lo,hi,hc,rfl,_⟩:=h;exact⟨c,t,_,hc,hv⟩
theorem ve {ti:List (Nat×n7)} {t:Nat} {i:n7} {d:TypeInfo} {u:TypeDesc} {z:Value} (hf:qn P ti t i d u z) {b off:Nat} {vs:List Value} (hr:row w b off vs) (hl:vs.length=i.cs.len) :
 (loadVar t ⟨b,off,none⟩).run P w=.ok (if i.agg then .agg vs.toArray else vs.headD undef) w:=by
 unfold loadVar;simp only[Sem.run_bind,hf.agg_run,Result.andThen];cases ha:i.agg with
 | true =>
  have:=run_loadCells_list (P:=P) w ⟨b,off,none⟩ vs (λj v hj=>by rw[oI];exact rV hr j v hj);simp only[if_true,Sem.run_bind,hf.size_run,Result.andThen,←hl,this,Sem.run_pure]
 | false =>
  obtain⟨c,hc,_⟩:=hf.plain ha;rw[hc]at hl
  match vs,hl with
  | [v],_ =>
   have:=rV hr 0 v rfl;simp only[Nat.add_zero]at this;simp[run_load,this]
theorem td (h:nk w0 T N S g w a) (hT:oG P G.ti) {t:TypeId} {x:Operand} (ho:o.op=.load t x) {i:n7} (hi:mG G.ti t=some i) {b off:Nat} (hx:a.eval x=.pointer (some ⟨b,off,none⟩)) {vs:List Value} {cs:List Cell}
 (hr:row w b off vs) (hl:vs.length=i.cs.len) (hc:mQ (mJ (dom S.en) g w) cs vs) {e:nu} {L:List mF} (he:(tC i.agg cs).Runs (mG S.en) e L):nd P w0 T N S g w a o e:=by
 obtain⟨d,u,z,hf⟩:=hT.facts hi;have hrun:(execOp a.eval o).run P w=.ok (.value (if i.agg then .agg vs.toArray else vs.headD undef)) w:=by
  simp only[execOp,ho,hx,Instr.loadAt,Instr.sureAddr,Sem.run_bind,Sem.run_pure,Result.andThen,ve hf hr hl]
 cases ha:i.agg with
 | true =>
  rw[ha]at hrun he;obtain⟨rfl,_⟩:=he;exact nd.pure h hrun ⟨vs.toArray,rfl,by simpa using hc⟩
 | false =>
  rw[ha]at hrun he
  match cs,vs,hc with
  | [c],[v],hc =>
   obtain⟨rfl,_⟩:=he;exact nd.pure h hrun hc.1
  | [],_,_=>exact he.elim
  | _::_::_,_,_=>exact he.elim
theorem Gu {e:Cs} {xs:List e.den} {b off cap:Nat} {len:Nat} {tp:Option Nat} {F:List Nat} (h:oD w e xs (.slice (some ⟨b,off,none⟩) len cap) tp F) {i:Nat} {x:e.den} (hx:xs[i]?=some x) :
 ∃vs G,row w b (off+i*e.len) vs/\Cs.Rep w e x vs G/\∀b∈G,b∈F:=by
 rcases h with ⟨h1,_⟩|⟨b',off',cap',us,vs,h1,rfl,h3,h4,h5,h6,h7⟩
 · cases h1
 · cases h1;obtain⟨G,hG,hs⟩:=h7.get i hx;have hlen:=h7.length
   have hi:i<xs.length:=(List.getElem?_eq_some_iff.1 hx).1;have hb:i*e.len+e.len<=vs.length:=by
    rw[hlen,←Nat.succ_mul];exact Nat.mul_le_mul_right _ hi
   exact⟨_,G,rA (h4.row_at h6) (i*e.len) e.len hb,hG,hs⟩
theorem qD {a b:Nat} (h:Nat.ble a b=true):a<=b:=Nat.le_of_ble_eq_true h
theorem mQ.sub {α β:Type} {R:α->β->Prop} {l:List α} {m:List β} (h:mQ R l m) (o n:Nat):mQ R ((l.drop o).take n) ((m.drop o).take n):=(h.drop o).take n
theorem Cs.slAt_lt:∀{e:Cs} {j:Nat},e.slAt j=true->j<e.len
 | .one c,0,_=>by simp[Cs.len]
 | .one c,j+1,h=>by simp[Cs.slAt]at h
 | .cons c r,0,_=>by simp[Cs.len]
 | .cons c r,j+1,h=>by have:=Cs.slAt_lt (e:=r) (j:=j) (by simpa[Cs.slAt]using h);simp[Cs.len];omega
theorem CT.rep_foot {c:CT} {x:c.den} {v:Value} {F:List Nat} (hs:c.isSl=false) (h:CT.Rep w c x v F):F=[]:=by
 cases c with
 | int k=>simp only[CT.Rep]at h;exact h.2
 | bool=>simp only[CT.Rep]at h;exact h.2
 | str=>simp only[CT.Rep]at h;exact h.2
 | err=>simp only[CT.Rep]at h;exact h.1
 | sl e=>cases hs
theorem CT.treeCell_rep {D:mF->Prop} {r:mF} {i j:Nat} {c:CT} {x:c.den} {v:Value} {F:List Nat} (h:CT.Rep w c x v F) (hd:D r) (hv:c.isSl=true->(g.rows r)[i*g.esz r+j]?=some v):mJ D g w (c.treeCell r i j x) v:=by
 cases c with
 | sl e=>exact⟨hd,hv rfl,by obtain⟨a,c,rfl⟩:=pO h;rfl⟩
 | int k=>exact CT.cell_rep (c:=.int k) h (by rw[CT.rep_foot rfl h];simp)
 | bool=>exact CT.cell_rep (c:=.bool) h (by rw[CT.rep_foot rfl h];simp)
 | str=>exact CT.cell_rep (c:=.str) h (by rw[CT.rep_foot rfl h];simp)
 | err=>exact CT.cell_rep (c:=.err) h (by rw[CT.rep_foot rfl h];simp)
theorem Cs.treeCells_rep {D:mF->Prop} {r:mF} {i:Nat} (hd:D r):∀{e:Cs} {j:Nat} {x:e.den} {vs:List Value} {F:List Nat},Cs.Rep w e x vs F->(∀k,e.slAt k=true->(g.rows r)[i*g.esz r+(j+k)]?=vs[k]?)->mQ (mJ D g w) (e.treeCells r i j x) vs
 | .one c,j,x,vs,F,h,hv=>by
  simp only[Cs.Rep]at h;obtain⟨v,rfl,h⟩:=h;exact⟨CT.treeCell_rep h hd λhs=>hv 0 hs,trivial⟩
 | .cons c s,j,x,vs,F,h,hv=>by
  simp only[Cs.Rep]at h;obtain⟨v,vs',F1,F2,rfl,rfl,h1,h2⟩:=h;exact⟨CT.treeCell_rep h1 hd λhs=>hv 0 hs,Cs.treeCells_rep hd h2 λk hk=>by
   have:=hv (k+1) hk;rw[show j+(k+1)=j+1+k by omega]at this;simpa using this⟩
theorem CT.kidCell_rep {D:mF->Prop} {r:mF} {j:Nat} {c:CT} {x:c.den} {v:Value} {F:List Nat} (h:CT.Rep w c x v F) (hF:∀b∈F,g.I b) (hd:D r) {b o len cap i:Nat} (hl:g.loc r=.slice (some ⟨b,o,none⟩) len cap) (hi:i<len) (hb:g.I b) (hv:row w b (o+(i*g.esz r+j)) [v]):mJ D g w (c.kidCell r j x) v:=by
 cases c with
 | sl e=>exact⟨⟨F,h,hF⟩,hd,b,o,len,cap,i,hl,hi,hb,hv⟩
 | int k=>exact CT.cell_rep (c:=.int k) h hF
 | bool=>exact CT.cell_rep (c:=.bool) h hF
 | str=>exact CT.cell_rep (c:=.str) h hF
 | err=>exact CT.cell_rep (c:=.err) h hF
theorem E2 {b o:Nat} {v:Value} {vs:List Value} (h:row w b o (v::vs)):row w b o [v]/\row w b (o+1) vs:=by
 obtain⟨c,t,fz,hc,hk⟩:=h;refine⟨⟨c,t,fz,hc,?_⟩,⟨c,t,fz,hc,?_⟩⟩
 · have:=congrArg (List.take 1) hk;rw[take_take]at this;simpa using this
 · have:=congrArg (List.drop 1) hk;rw[List.drop_take,drop_drop]at this;simpa[Nat.add_comm]using this
theorem Cs.kidCells_rep {D:mF->Prop} {r:mF} (hd:D r) {b o len cap i:Nat} (hl:g.loc r=.slice (some ⟨b,o,none⟩) len cap) (hi:i<len) (hb:g.I b):∀{e:Cs} {j:Nat} {x:e.den} {vs:List Value} {F:List Nat},Cs.Rep w e x vs F->(∀b∈F,g.I b)->row w b (o+(i*g.esz r+j)) vs->mQ (mJ D g w) (e.kidCells r j x) vs
 | .one c,j,x,vs,F,h,hF,hv=>by
  simp only[Cs.Rep]at h;obtain⟨v,rfl,h⟩:=h;exact⟨CT.kidCell_rep h hF hd hl hi hb hv,trivial⟩
 | .cons c s,j,x,vs,F,h,hF,hv=>by
  simp only[Cs.Rep]at h;obtain⟨v,vs',F1,F2,rfl,rfl,h1,h2⟩:=h;obtain⟨r1,r2⟩:=E2 hv;exact⟨CT.kidCell_rep h1 (λb hb=>hF b (by simp[hb])) hd hl hi hb r1,Cs.kidCells_rep hd hl hi hb h2 (λb hb=>hF b (by simp[hb])) r2⟩
theorem Dd {α:Type} {ys:List (Bool×α)} {k:Nat} {y:α} (h:uv ys k=some y):ys[k]?=some (true,y):=by
 unfold uv at h;cases hy:ys[k]? with
 | none=>rw[hy]at h;cases h
 | some p =>
  obtain⟨t,x⟩:=p;rw[hy]at h;cases t with
  | false=>cases h
  | true=>cases h;rfl
theorem F9 (h:nk w0 T N S g w a) (hT:oG P G.ti) {t:TypeId} {x:Operand} (ho:o.op=.load t x) {i:n7} (hi:mG G.ti t=some i) {r:mF} {k:Nat} {f:Cs} {ys:List (Bool×f.den)} {y:f.den}
 (hx:mJ (dom S.en) g w (.elem r k 0) (a.eval x)) (hn:mG S.en r=some (.pop f ys)) (hf:f=i.cs) (hag:i.agg=true) (hy:ys[k]?=some (true,y)) {uid:mF} (hd:mP (Cs.giveF uid f y).2=true) (hnew:∀p∈(Cs.giveF uid f y).2,mG S.en p.1=none) :
 nd P w0 T N S g w a o ⟨.agg (Cs.giveF uid f y).1,(Cs.giveF uid f y).2++[(r,.pop f (ys.set k (false,y)))]⟩:=by
 subst hf;obtain⟨he,htop,⟨F,hsl,hI,htl⟩,hnd⟩:=h.mem.rep r _ hn;obtain⟨hdr,b,o',len,cap,hl,hk,hxv⟩:=hx;rw[he]at hxv;have hkl:k<ys.length:=(List.getElem?_eq_some_iff.1 hy).1
 rcases hsl with ⟨_,rfl,_⟩|⟨b',off',cap',vs,F',e1,rfl,e3,e4,e5,e6⟩
 · simp at hkl
 · have hl0:=hl;rw[hl]at e1;cases e1;have htl:F'=g.nest r:=htl
   obtain⟨G1,Gi,G2,hF,hri,hset⟩:=e6.set2 hy;have hrep:Cs.Rep w i.cs y ((vs.drop (k*i.cs.len)).take i.cs.len) Gi:=by
    rcases hri with ⟨_,h⟩|⟨h,_⟩
    · exact h
    · cases h
   have hnd':(G1++Gi++G2).Nodup:=by rw[←hF,htl];exact hnd
   have hsub:∀q∈G1++[]++G2,q∈g.nest r:=λq hq=>by
    rw[←htl,hF];simp only[append_nil,mem_append]at hq ⊢;exact hq.elim (λh=>.inl (.inl h)) .inr
   have hIall:∀q∈g.nest r,g.I q:=λq hq=>hI q (mem_cons_of_mem _ (htl▸hq));have hL:=hset (vb w i.cs) (false,y) [] (λ_ _ _ _ h=>h) (.inr ⟨rfl,rfl⟩)
   obtain⟨hM1,hle1⟩:=h.ms.put (n:=r) (e:=.pop i.cs (ys.set k (false,y))) (i:=⟨g.loc r,g.esz r,none,G1++[]++G2⟩) (λ_=>⟨rfl,rfl⟩) (h.mem.one r hdr)
    ⟨by simpa[Gh.set]using he,by simp[Gh.set],⟨b::(G1++[]++G2),.inr ⟨b,o',cap,vs,_,by rw[List.length_set];simpa[Gh.set]using hl0,rfl,by rw[List.length_set];exact e3,e4,e5,hL⟩,λq hq=>by
     rcases mem_cons.1 hq with rfl|hq
     · exact hI _ mem_cons_self
     · exact hIall q (hsub q hq),by simp[Gh.set]⟩,by
     simp only[Gh.set,if_true];rw[append_nil];rw[append_assoc,nodup_append]at hnd';obtain⟨d1,d2,d3⟩:=hnd';rw[nodup_append]at d2 ⊢;exact⟨d1,d2.2.1,λp hp q hq=>d3 p hp q (mem_append_right _ hq)⟩⟩
    (λha=>by cases ha)
    (λ_ q hq=>⟨λm f' hmn hm hd'=>h.mem.nests r m _ f' hn hm rfl hd' (Ne.symm hmn) q (hsub q hq),h.since.nests r _ q hn rfl (hsub q hq)⟩)
   have hne:∀p∈(Cs.giveF uid i.cs y).2,p.1≠r:=λp hp e=>hdr (e▸hnew p hp);have hGi:∀q∈Gi,q∈g.nest r:=λq hq=>by rw[←htl,hF];simp[hq]
   obtain⟨g2,hM2,hle2,_,_,_,hc2⟩:=Cs.frz_put (n:=uid) hM1 hrep (λq hq=>hIall q (hGi q hq)) (by
    rw[append_assoc,nodup_append]at hnd';have:=hnd'.2.1
    rw[nodup_append]at this;exact this.1) (λq hq=>by
    refine⟨λm f' hm hd' hqm=>?_,h.since.nests r _ q hn rfl (hGi q hq)⟩;by_cases hmr:m=r
    · subst hmr;have hqm:q∈G1++[]++G2:=by simpa[Gh.set]using hqm
      rw[append_nil]at hqm;rw[append_assoc,nodup_append]at hnd';obtain⟨d1,d2,d3⟩:=hnd';rw[nodup_append]at d2;rcases mem_append.1 hqm with hq1|hq1
      · exact d3 q hq1 q (List.mem_append_left _ hq) rfl
      · exact d2.2.2 q hq q hq1 rfl
    · rw[ni (Ne.symm hmr)]at hm;have hqm:q∈g.nest m:=by simpa[Gh.set,hmr]using hqm
      exact h.mem.nests r m _ f' hn hm rfl hd' (Ne.symm hmr) q (hGi q hq) hqm) (λp hp=>by rw[ni (Ne.symm (hne p hp))];exact hnew p hp) hd
   have hlen:=e6.length;have hbd:k*i.cs.len+i.cs.len<=vs.length:=by rw[hlen,←Nat.succ_mul];exact Nat.mul_le_mul_right _ hkl
   have hrow:=rA e5 (k*i.cs.len) i.cs.len hbd;have hlv:((vs.drop (k*i.cs.len)).take i.cs.len).length=i.cs.len:=by rw[length_take,length_drop];omega
   obtain⟨d,u,z,hfa⟩:=hT.facts hi;have hrun:(execOp a.eval o).run P w=.ok (.value (.agg ((vs.drop (k*i.cs.len)).take i.cs.len).toArray)) w:=by
    have:=ve hfa hrow hlv;simp only[execOp,ho,hxv,Nat.add_zero,Instr.loadAt,Instr.sureAddr,Sem.run_bind,Sem.run_pure,Result.andThen,this,hag,if_true]
   have e9:(Cs.giveF uid i.cs y).2++[(r,Entry.pop i.cs (ys.set k (false,y)))]++S.en=(Cs.giveF uid i.cs y).2++((r,.pop i.cs (ys.set k (false,y)))::S.en):=by simp
   refine⟨_,w,g2,.inl hrun,?_,?_,?_⟩
   · show MS w0 T N ((Cs.giveF uid i.cs y).2++[(r,Entry.pop i.cs (ys.set k (false,y)))]++S.en) g2 w;rw[e9];exact hM2
   · show Le (dom S.en) g w (dom ((Cs.giveF uid i.cs y).2++[(r,Entry.pop i.cs (ys.set k (false,y)))]++S.en)) g2 w;rw[e9];exact hle1.trans hle2
   · show nc (dom ((Cs.giveF uid i.cs y).2++[(r,Entry.pop i.cs (ys.set k (false,y)))]++S.en)) g2 w (.agg (Cs.giveF uid i.cs y).1) _;rw[e9];exact⟨_,rfl,hc2⟩
theorem Gv (h:nk w0 T N S g w a) (hT:oG P G.ti) {t:TypeId} {x:Operand} (ho:o.op=.load t x) {e:nu} {L:List mF} (hr:(pc G uid S.eval (.load t x)).Runs (mG S.en) e L):nd P w0 T N S g w a o e:=by
 replace hr:=np hr;obtain⟨i,hi,hr⟩:=hr;have hx:=nx h x
 unfold xE at hr;split at hr
 · rename_i n off e1;rw[e1]at hx;obtain⟨L',hL',hr⟩:=hr;cases hn:mG S.en n with
   | none=>rw[hn]at hr;exact hr.elim
   | some E =>
    rw[hn]at hr;cases E with
    | gone=>exact hr.elim
    | fwd _ _=>exact hr.elim
    | pop _ _=>exact hr.elim
    | frz _ _=>exact hr.elim
    | root _ _ _=>exact hr.elim
    | tree _ _=>exact hr.elim
    | box cs =>
     simp only at hr;cases hb:Nat.ble (off+i.cs.len) cs.length with
     | false=>rw[hb]at hr;exact hr.elim
     | true =>
      rw[hb]at hr;obtain⟨b,us,h1,h2,h3,h4⟩:=h.mem.rep n _ hn;obtain⟨_,b',h5,hx⟩:=hx;rw[h2]at h5;cases h5;have hle:=qD hb
      rw[h4.length]at hle;exact td h hT ho hi hx (by simpa using rA h3.row off i.cs.len hle) (by rw[length_take,length_drop];omega) (h4.sub off i.cs.len) hr
 · rename_i f y off e1;rw[e1]at hx;cases hb:Nat.ble (off+i.cs.len) f.len with
   | false=>rw[hb]at hr;exact hr.elim
   | true =>
    rw[hb]at hr;obtain⟨b,o',vs,F,h1,h2,h3,h4,hx⟩:=hx;have hle:=qD hb
    have hv:=h2.length;exact td h hT ho hi hx (rA h1 off i.cs.len (by omega)) (by rw[length_take,length_drop];omega) ((Cs.cells_rep h2 h4).sub off i.cs.len) hr
 · rename_i r k off e1;rw[e1]at hx;obtain⟨L',hL',hr⟩:=hr;cases hn:mG S.en r with
   | none=>rw[hn]at hr;exact hr.elim
   | some E =>
    rw[hn]at hr;cases E with
    | gone=>exact hr.elim
    | fwd _ _=>exact hr.elim
    | box _=>exact hr.elim
    | tree f xs =>
     simp only at hr;cases hb:Nat.ble (off+i.cs.len) f.len with
     | false=>rw[hb]at hr;exact hr.elim
     | true =>
      rw[hb]at hr;obtain⟨y,hy,hr⟩:=hr;obtain⟨he,hrt,_⟩:=h.mem.rep r _ hn;obtain⟨hdr,b,o',len,cap,hl,hk,hx⟩:=hx;have hi':k<xs.length:=(List.getElem?_eq_some_iff.1 hy).1
      rcases hrt with ⟨⟨a',e0⟩,rfl,_⟩|⟨b',off',cap',vs,F',e1,e2,e3,e4,e5,e6,e7⟩
      · simp at hi'
      · rw[hl]at e1;cases e1;obtain⟨G,hG,hs⟩:=e6.get k hy;have hlen:=e6.length
        have hbd:k*f.len+f.len<=vs.length:=by rw[hlen,←Nat.succ_mul];exact Nat.mul_le_mul_right _ hi'
        rw[he]at hx;have hle:=qD hb
        have hv:=hG.length;have hc:mQ (mJ (dom S.en) g w) (f.treeCells r k 0 y) ((vs.drop (k*f.len)).take f.len):=Cs.treeCells_rep hdr hG λj hj=>by
         have hjl:=Cs.slAt_lt hj;rw[he,Nat.zero_add,List.getElem?_take_of_lt hjl,List.getElem?_drop];exact (e7 k j hi' hj).symm
        exact td h hT ho hi hx (rA (rA e5 (k*f.len) f.len hbd) off i.cs.len (by omega)) (by rw[length_take,length_drop];omega) (hc.sub off i.cs.len) hr
    | pop f ys =>
     simp only at hr;cases hb:(Nat.beq off 0&&(nF f i.cs&&i.agg))with
     | false=>rw[hb]at hr;exact hr.elim
     | true =>
      rw[hb]at hr;obtain⟨y,hy,hr⟩:=hr;simp only[aT]at hb;obtain⟨b1,b2,b3⟩:=hb;obtain rfl:=Nat.eq_of_beq_eq_true b1;obtain⟨rfl,hdist,hnew⟩:=p8 hr;exact F9 h hT ho hi hx hn (oS b2) b3 (Dd hy) hdist hnew
    | frz f xs =>
     simp only at hr;cases hb:Nat.ble (off+i.cs.len) f.len with
     | false=>rw[hb]at hr;exact hr.elim
     | true =>
      rw[hb]at hr;obtain⟨y,hy,hr⟩:=hr;obtain⟨he,_,hrt,hI,_⟩:=h.mem.rep r _ hn;obtain⟨hdr,b,o',len,cap,hl,hk,hx⟩:=hx;have hi':k<xs.length:=(List.getElem?_eq_some_iff.1 hy).1
      rw[oM]at hrt;rcases hrt with ⟨⟨a',e0⟩,rfl,_⟩|⟨b',off',cap',vs,F',e1,e2,e3,e4,e5,e6⟩
      · simp at hi'
      · have hl0:=hl;rw[hl]at e1;cases e1;obtain⟨G,hG,hs⟩:=e6.get k hy;have hlen:=e6.length
        have hbd:k*f.len+f.len<=vs.length:=by rw[hlen,←Nat.succ_mul];exact Nat.mul_le_mul_right _ hi'
        rw[he]at hx;have hle:=qD hb
        have hv:=hG.length;have hIn:∀q∈b::F',g.I q:=by rw[←e2];exact hI
        have hrow:=rA e5 (k*f.len) f.len hbd;have hc:mQ (mJ (dom S.en) g w) (f.kidCells r 0 y) ((vs.drop (k*f.len)).take f.len):=Cs.kidCells_rep hdr hl0 hk (hIn b mem_cons_self) hG (λq hq=>hIn q (mem_cons_of_mem _ (hs q hq))) (by rw[he,Nat.add_zero];exact hrow)
        exact td h hT ho hi hx (rA hrow off i.cs.len (by omega)) (by rw[length_take,length_drop];omega) (hc.sub off i.cs.len) hr
    | root f m xs =>
     simp only at hr;cases hb:Nat.ble (off+i.cs.len) f.len with
     | false=>rw[hb]at hr;exact hr.elim
     | true =>
      rw[hb]at hr;obtain⟨y,hy,hr⟩:=hr;obtain⟨he,hrt,hI,_⟩:=nX h.mem hn;obtain⟨_,b,o',len,cap,hl,hk,hx⟩:=hx;rw[hl]at hrt;obtain⟨vs,F,h1,h2,h3⟩:=Gu hrt hy;rw[he]at hx;have hle:=qD hb
      have hv:=h2.length;exact td h hT ho hi hx (rA h1 off i.cs.len (by omega)) (by rw[length_take,length_drop];omega) ((Cs.cells_rep h2 λb hb=>hI b (h3 b hb)).sub off i.cs.len) hr
 · exact hr.elim
end Go.V
namespace Go.V
variable {P:Program} {w0:World} {T N:Nat->Prop} {S:St} {g:Gh} {w w':World} {a:Act} {o:Oper} {G:o9} {uid:mF} {en en':List (mF×Entry)}

theorem yW {n:mF} {e f:Entry} (m:mF):mG ((n,e)::(n,f)::en) m=mG ((n,e)::en) m:=by
 rw[mR,mR,mR];split<;>rfl
theorem MS.rewrite (h:MS w0 T N en g w) {n:mF} {b:Nat} {E E':Entry} {us:List Value} {F:List Nat} (hn:mG en n=some E) (hE:E.alive=true) (hb:g.top n=some b) (hw:Dc w w' b us)
 (hr:Le (dom en) g w (dom ((n,E')::en)) (g.set n ⟨g.loc n,g.esz n,g.top n,F⟩) w'->qT (dom ((n,E')::en)) (g.set n ⟨g.loc n,g.esz n,g.top n,F⟩) w' n E')
 (hnest:E'.deep=true->∀b,b∈F->(∀m f,m≠n->mG en m=some f->f.deep=true->b∉g.nest m)/\(w0.heap.size<=b\/T b\/N b)) (hnt:E'.isTree=false:=by rfl) :
 MS w0 T N ((n,E')::en) (g.set n ⟨g.loc n,g.esz n,g.top n,F⟩) w'/\Le (dom en) g w (dom ((n,E')::en)) (g.set n ⟨g.loc n,g.esz n,g.top n,F⟩) w':=by
 have hdn:dom en n:=by unfold dom;rw[hn];simp
 have hown:=h.since.tops n E b hn hE hb;obtain⟨h1,l1⟩:=h.gone hdn;obtain⟨h2,l2⟩:=h1.world (w':=w') (λc hc=>hw.rest c λe=>h.mem.topI n E b hn hE hb (e▸hc)) (λm f c hm ha hc=>hw.rest c λe=>by
  rw[mR]at hm;split at hm
  · cases hm;cases ha
  · rename_i hne;exact hne (h.mem.apart n m E f b hn hm hE ha hb (e▸hc))) hw.os hw.out hw.tape (by rw[hw.size];exact Nat.le_refl _)
  (λc hc hT=>hw.rest c λe=>by subst e;rcases hown with k|k;omega;exact hT k)
  (λm f c hm ha hc=>hw.rest c λe=>by
   rw[mR]at hm;split at hm
   · cases hm;cases ha
   · exact (h.mem.wood m f c hm ha hc).2.1 n E hn hE (e▸hb)) (λc hc=>by
   by_cases e:c=b
   · subst e;exact hw.cells.soft
   · exact (h.since.soft c hc).of_same (hw.rest c e))
 have hc:∀m,mG ((n,E')::(n,.gone)::en) m=mG ((n,E')::en) m:=yW;have other:∀m f,m≠n->mG ((n,.gone)::en) m=some f->mG en m=some f:=λm f hm hf=>by rwa [ni (Ne.symm hm)]at hf
 have hle0:=(l1.trans l2).trans (Gh.set_le (n:=n) (w:=w') E' ⟨g.loc n,g.esz n,g.top n,F⟩ (λ_=>⟨rfl,rfl⟩));rw[pD hc]at hle0;obtain⟨h3,l3⟩:=h2.put (n:=n) (e:=E') (i:=⟨g.loc n,g.esz n,g.top n,F⟩) (λ_=>⟨rfl,rfl⟩) (h.mem.one n hdn) (by rw[pD hc];exact hr hle0)
  (λha c hc=>⟨h.mem.topI n E c hn hE hc,λm f hm hf hfa hmc=>hm (h.mem.apart m n f E c (other m f hm hf) hn hfa hE hmc hc),h.since.tops n E c hn hE hc,λm f hm hf hft hcm=>(h.mem.wood m f c (other m f hm hf) hft hcm).2.1 n E hn hE hc⟩)
  (λhd c hc=>⟨λm f hm hf hfd=>(hnest hd c hc).1 m f hm (other m f hm hf) hfd,(hnest hd c hc).2⟩) (λht=>by rw[hnt]at ht;cases ht)
 exact⟨h3.congr hc,hle0⟩

theorem MS.retree (h:MS w0 T N en g w) {n:mF} {e:Cs} {xs ys:List e.den} {F:List Nat} (hn:mG en n=some (.tree e xs)) (hos:w'.os=w.os) (hout:w'.output=w.output) (htape:w'.tape=w.tape) (hsize:w.heap.size<=w'.heap.size)
 (hmem:∀b,b<w.heap.size->b∉g.nest n->w'.heap[b]?=w.heap[b]?) (hsoft:∀b,b∈g.nest n\/w.heap.size<=b->Go.V.soft w' b)
 (hr:pJ w' e ys (g.loc n) F (g.rows n)) (hnd:F.Nodup) (hF:∀b∈F,b∈g.nest n\/w.heap.size<=b) :
 MS w0 T N ((n,.tree e ys)::en) (g.set n ⟨g.loc n,g.esz n,g.top n,F⟩) w'/\Le (dom en) g w (dom ((n,.tree e ys)::en)) (g.set n ⟨g.loc n,g.esz n,g.top n,F⟩) w':=by
 have hdn:dom en n:=by unfold dom;rw[hn];simp
 obtain⟨h1,l1⟩:=h.gone hdn;have other:∀m f,m≠n->mG ((n,.gone)::en) m=some f->mG en m=some f:=λm f hm hf=>by rwa [ni (Ne.symm hm)]at hf
 have hne:∀m f,mG ((n,.gone)::en) m=some f->f.alive=true\/f.isTree=true->m≠n:=λm f hm ha he=>by
  subst he;rw[p7]at hm;cases hm;rcases ha with ha|ha<;>cases ha
 have hw:=λb hb=>h.mem.wood n _ b hn rfl hb;have hlt:∀m f b,mG en m=some f->f.isTree=true->b∈g.nest m->b<w.heap.size:=λm f b hm ht hb=>qh (h.mem.rep m f hm) ht hb
 obtain⟨h2,l2⟩:=h1.world (w':=w') (λc hc=>hmem c (h.mem.old c hc) λhcn=>(hw c hcn).1 hc)
  (λm f c hm ha hc=>by
   have hm':=other m f (hne m f hm (.inl ha)) hm;exact hmem c ((h.mem.rep m f hm').top_lt ha hc) λhcn=>(hw c hcn).2.1 m f hm' ha hc)
  hos hout htape hsize
  (λc hc hT=>hmem c (Nat.lt_of_lt_of_le hc h.since.size) λhcn=>(h.since.born n _ c hn rfl hcn).elim (λk=>by omega) hT)
  (λm f c hm ht hc=>by
   have hmn:=hne m f hm (.inr ht);have hm':=other m f hmn hm
   exact hmem c (hlt m f c hm' ht hc) λhcn=>(hw c hcn).2.2 m f hmn hm' ht hc)
  (λc hc=>by
   by_cases hcn:c∈g.nest n
   · exact hsoft c (.inl hcn)
   · rcases Nat.lt_or_ge c w.heap.size with hl|hl
     · exact (h.since.soft c hc).of_same (hmem c hl hcn)
     · exact hsoft c (.inr hl))
 have hc:∀m,mG ((n,.tree e ys)::(n,.gone)::en) m=mG ((n,.tree e ys)::en) m:=yW;have hle0:=(l1.trans l2).trans (Gh.set_le (n:=n) (w:=w') (.tree e ys) ⟨g.loc n,g.esz n,g.top n,F⟩ (λ_=>⟨rfl,rfl⟩))
 rw[pD hc]at hle0;obtain⟨h3,l3⟩:=h2.put (n:=n) (e:=.tree e ys) (i:=⟨g.loc n,g.esz n,g.top n,F⟩) (λ_=>⟨rfl,rfl⟩) (h.mem.one n hdn)
  (by
   obtain⟨k1,_,_⟩:=h.mem.rep n _ hn;refine⟨by simpa[Gh.set]using k1,by simpa[Gh.set]using hr,by simpa[Gh.set]using hnd⟩)
  (λha=>by cases ha) (λhd=>by cases hd)
  (λ_ c hcF=>by
   rcases hF c hcF with hcn|hcl
   · obtain⟨k1,k2,k3⟩:=hw c hcn;exact⟨k1,λm f hm hf=>k2 m f (other m f hm hf),λm f hm hf=>k3 m f hm (other m f hm hf),h.since.born n _ c hn rfl hcn⟩
   · exact⟨λhI=>by have:=h.mem.old c hI;omega,λm f hm hf ha ht=>by have:=(h.mem.rep m f (other m f hm hf)).top_lt ha ht;omega,λm f hm hf ht hcm=>by have:=hlt m f c (other m f hm hf) ht hcm;omega,
      .inl (Nat.le_trans h.since.size hcl)⟩)
 exact⟨h3.congr hc,hle0⟩

theorem mJ.one (hm:oA en g w) {c:Cell} {v:Value} (h:mJ (dom en) g w c v) (hc:c≠.undef/\c≠.void):v.oneCell'=true:=by
 cases c with
 | sub=>exact h.2.2
 | undef=>exact absurd rfl hc.1
 | void=>exact absurd rfl hc.2
 | nil=>rw[show v=_ from h];rfl
 | int _ _=>rw[show v=_ from h];rfl
 | bool _=>rw[show v=_ from h];rfl
 | str _=>rw[show v=_ from h];rfl
 | err b=>rcases h with ⟨_,rfl⟩|⟨_,_,_,rfl⟩<;>rfl
 | sh e xs=>obtain⟨F,hF,_⟩:=h;obtain⟨ad,cap,rfl⟩:=pO hF;rfl
 | kid _ _ e xs=>obtain⟨⟨F,hF,_⟩,_⟩:=h;obtain⟨ad,cap,rfl⟩:=pO hF;rfl
 | own r=>obtain⟨hd,rfl⟩:=h;exact hm.one r hd
 | win _ _ _=>obtain⟨_,_,_,_,_,_,_,rfl⟩:=h;rfl
 | box _ _=>obtain⟨_,_,_,rfl⟩:=h;rfl
 | elem _ _ _=>obtain⟨_,_,_,_,_,_,_,rfl⟩:=h;rfl
 | shel _ _ _=>obtain⟨_,_,_,_,_,_,_,_,rfl⟩:=h;rfl
 | fn _ _=>obtain⟨_,rfl,_⟩:=h;rfl
theorem vf:∀{cs:List Cell},oq cs=true->∀c∈cs,c≠.undef/\c≠.void
 | [],_,c,h=>by simp at h
 | .undef::_,h,_,_=>by simp[oq]at h
 | .void::_,h,_,_=>by simp[oq]at h
 | c'::cs,h,c,hc=>by
  rcases mem_cons.1 hc with rfl|hc
  · constructor<;>(rintro rfl;simp[oq]at h)
  · exact vf (cs:=cs) (by cases c'<;>first|exact h|simp[oq]at h) c hc
theorem mQ.mem_right {α β:Type} {R:α->β->Prop}:∀{l:List α} {m:List β},mQ R l m->∀b∈m,∃a∈l,R a b
 | [],[],_,b,hb=>by simp at hb
 | a::l,b'::m,h,b,hb=>by
  rcases mem_cons.1 hb with rfl|hb
  · exact⟨a,mem_cons_self,h.1⟩
  · obtain⟨a',ha,hr⟩:=mQ.mem_right h.2 b hb;exact⟨a',mem_cons_of_mem _ ha,hr⟩
theorem cells_rep (hm:oA en g w) {x:AV} {v:Value} (h:nc (dom en) g w x v) (hu:oq x.cells=true) (hx:x.cells≠[]) :
 mQ (mJ (dom en) g w) x.cells v.cells.toList/\∀u∈v.cells.toList,u.oneCell'=true:=by
 have key:mQ (mJ (dom en) g w) x.cells v.cells.toList:=by
  cases x with
  | cell c =>
   have h:mJ (dom en) g w c v:=h;have hv:v.cells = #[v]:=by
    have:=h.one hm (vf hu c (by simp[AV.cells]));cases v<;>first|rfl|simp[Value.oneCell']at this
   rw[hv];exact⟨h,trivial⟩
  | agg cs=>obtain⟨vs,rfl,h⟩:=h;exact h
  | tup _=>simp[AV.cells]at hx
 refine⟨key,λu hu'=>?_⟩;obtain⟨c,hc,hr⟩:=key.mem_right u hu';exact hr.one hm (vf hu c hc)
theorem mQ.setSub {α β:Type} {R:α->β->Prop} {l x:List α} {m y:List β} (h:mQ R l m) (k:mQ R x y) (o:Nat):mQ R (l.take o++x++l.drop (o+x.length)) (m.take o++y++m.drop (o+y.length)):=by
 rw[k.length];exact ((h.take o).append k).append (h.drop _)

theorem B7 {ti:List (Nat×n7)} {t:Nat} {i:n7} {d:TypeInfo} {u:TypeDesc} {z:Value} (hf:qn P ti t i d u z) {b off:Nat} {us:List Value} (hw:nG w b us) {v:Value} (hl:v.cells.toList.length=i.cs.len)
 (hs:off+i.cs.len<=us.length) (h1:∀u∈v.cells.toList,u.oneCell'=true):(storeVar t ⟨b,off,none⟩ v).run P w=.ok () (w.setCells b off v.cells.toList):=by
 obtain⟨c,t',lo,hi,hc,rfl,hfz⟩:=hw;have hlen:∀j,j<v.cells.toList.length->off+0+j<c.size:=λj hj=>by simp at hs hj hl;omega
 have:=run_storeCells_cells (P:=P) b off v.cells.toList 0 w (λj hj=>by
  simp only[World.cell?,hc];have:=hlen j hj
  simpa using this) (λj hj=>by
  simp only[World.frozen?,hc];have:=hfz.2 _ (hlen j hj)
  simp only[Bool.and_eq_false_iff,decide_eq_false_iff_not];omega) h1
 unfold storeVar;have hsz:v.cells.size=i.cs.len:=by simpa using hl
 simp only[Sem.run_bind,hf.size_run,Result.andThen,hsz,ne_eq,not_true_eq_false,if_false,this,Nat.add_zero,Sem.run_pure]
theorem wZ (hT:oG P G.ti) {t:TypeId} {x y:Operand} (ho:o.op=.store t x y) {i:n7} (hi:mG G.ti t=some i) {b off:Nat} {us:List Value} (hx:a.eval x=.pointer (some ⟨b,off,none⟩)) (hw:nG w b us)
 (hl:(a.eval y).cells.toList.length=i.cs.len) (hs:off+i.cs.len<=us.length) (h1:∀u∈(a.eval y).cells.toList,u.oneCell'=true) :
 (execOp a.eval o).run P w=.ok .skip (w.setCells b off (a.eval y).cells.toList):=by
 obtain⟨d,u,z,hf⟩:=hT.facts hi;simp only[execOp,ho,hx,Instr.storeAt,Instr.sureAddr,Sem.run_bind,Sem.run_pure,Result.andThen,B7 hf hw hl hs h1]

def nL (us:List Value) (o:Nat) (vs:List Value):List Value:=us.take o++vs++us.drop (o+vs.length)
theorem pW (us:List Value) (o:Nat):nL us o []=us:=by simp[nL]
theorem tF (u:Value) (us:List Value) (v:Value) (vs:List Value):nL (u::us) 0 (v::vs)=v::nL us 0 vs:=by simp[nL]
theorem yX (u:Value) (us:List Value) (o:Nat) (vs:List Value):nL (u::us) (o+1) vs=u::nL us o vs:=by simp[nL,show o+1+vs.length=o+vs.length+1 by omega]
theorem qE {us vs:List Value} {o:Nat} (h:o+vs.length<=us.length):(nL us o vs).length=us.length:=by simp[nL];omega
theorem pE (b:Nat) (l m:List Nat):(l++m).count b=l.count b+m.count b:=List.count_append
theorem xJ (hm:oA en g w):∀{e:Cs} {x:e.den} {us:List Value} {F:List Nat} {o:Nat} {cs:List Cell} {vs:List Value} {y:e.den×List (mF×Entry)} {L:List mF},Cs.Rep w e x us F->mQ (mJ (dom en) g w) cs vs->(e.upd true x o cs).Runs (mG en) y L ->
 (∃F',Cs.Rep w e y.1 (nL us o vs) F'/\∀b,F'.count b<=F.count b+((y.2.map (·.1)).flatMap (ol g)).count b)/\nb en true true y.2
 | .one c,x,us,F,0,[],[],y,L,hx,_,hr=>by
  obtain⟨rfl,_⟩:=hr;rw[pW];exact⟨⟨F,hx,λb=>by simp⟩,by simp[nb]⟩
 | .one c,x,us,F,o+1,[],[],y,L,hx,_,hr=>by
  obtain⟨rfl,_⟩:=hr;rw[pW];exact⟨⟨F,hx,λb=>by simp⟩,by simp[nb]⟩
 | .cons c r,x,us,F,0,[],[],y,L,hx,_,hr=>by
  obtain⟨rfl,_⟩:=hr;rw[pW];exact⟨⟨F,hx,λb=>by simp⟩,by simp[nb]⟩
 | .cons c r,x,us,F,o+1,[],[],y,L,hx,_,hr=>by
  obtain⟨rfl,_⟩:=hr;rw[pW];exact⟨⟨F,hx,λb=>by simp⟩,by simp[nb]⟩
 | .one c,x,us,F,0,[k],[v],y,L,hx,hc,hr=>by
  simp only[Cs.Rep]at hx;obtain⟨u,rfl,hx⟩:=hx;obtain⟨h1,h2⟩:=CT.into_own hm hc.1 hr;refine⟨⟨_,?_,λb=>Nat.le_add_left _ _⟩,h2⟩;rw[tF,pW];simp only[Cs.Rep];exact⟨v,rfl,h1.rep⟩
 | .one c,x,us,F,0,k::k'::ks,_,y,L,hx,hc,hr=>hr.elim
 | .one c,x,us,F,o+1,k::ks,_,y,L,hx,hc,hr=>hr.elim
 | .cons c r,x,us,F,0,k::ks,v::vs,y,L,hx,hc,hr=>by
  simp only[Cs.Rep]at hx;obtain⟨u,us',F1,F2,rfl,rfl,hx1,hx2⟩:=hx;simp only[Cs.upd]at hr;obtain⟨p,L1,L2,_,h1,hr⟩:=Rd.runs_bind hr;obtain⟨q,L3,L4,_,h2,hr⟩:=Rd.runs_bind hr;obtain⟨rfl,_⟩:=hr;obtain⟨k1,k2⟩:=CT.into_own hm hc.1 h1;obtain⟨⟨F',k3,k4⟩,k5⟩:=xJ hm hx2 hc.2 h2;refine⟨⟨(p.2.map (·.1)).flatMap (ol g)++F',?_,λb=>?_⟩,k2.append k5⟩
  · rw[tF];simp only[Cs.Rep];exact⟨v,_,_,_,rfl,rfl,k1.rep,k3⟩
  · have:=k4 b;simp only[pE,map_append,List.flatMap_append];omega
 | .cons c r,x,us,F,o+1,k::ks,vs,y,L,hx,hc,hr=>by
  simp only[Cs.Rep]at hx;obtain⟨u,us',F1,F2,rfl,rfl,hx1,hx2⟩:=hx;simp only[Cs.upd]at hr;obtain⟨q,L3,L4,_,h2,hr⟩:=Rd.runs_bind hr;obtain⟨rfl,_⟩:=hr;obtain⟨⟨F',k3,k4⟩,k5⟩:=xJ hm hx2 hc h2;refine⟨⟨F1++F',?_,λb=>?_⟩,k5⟩
  · rw[yX];simp only[Cs.Rep];exact⟨u,_,_,_,rfl,rfl,hx1,k3⟩
  · have:=k4 b;simp only[pE];omega
theorem wd (hm:oA en g w):∀{e:Cs} {x:e.den} {us:List Value} {F:List Nat} {o:Nat} {cs:List Cell} {vs:List Value} {y:e.den×List (mF×Entry)} {L:List mF},Cs.Rep w e x us F->mQ (mJ (dom en) g w) cs vs->(e.upd false x o cs).Runs (mG en) y L ->
 (∃F',Cs.Rep w e y.1 (nL us o vs) F'/\∀b∈F',b∈F\/g.I b\/qA en g b (y.2.map (·.1)))/\nb en false true y.2
 | .one c,x,us,F,0,[],[],y,L,hx,_,hr=>by
  obtain⟨rfl,_⟩:=hr;rw[pW];exact⟨⟨F,hx,λb hb=>.inl hb⟩,by simp[nb]⟩
 | .one c,x,us,F,o+1,[],[],y,L,hx,_,hr=>by
  obtain⟨rfl,_⟩:=hr;rw[pW];exact⟨⟨F,hx,λb hb=>.inl hb⟩,by simp[nb]⟩
 | .cons c r,x,us,F,0,[],[],y,L,hx,_,hr=>by
  obtain⟨rfl,_⟩:=hr;rw[pW];exact⟨⟨F,hx,λb hb=>.inl hb⟩,by simp[nb]⟩
 | .cons c r,x,us,F,o+1,[],[],y,L,hx,_,hr=>by
  obtain⟨rfl,_⟩:=hr;rw[pW];exact⟨⟨F,hx,λb hb=>.inl hb⟩,by simp[nb]⟩
 | .one c,x,us,F,0,[k],[v],y,L,hx,hc,hr=>by
  simp only[Cs.Rep]at hx;obtain⟨u,rfl,hx⟩:=hx;obtain⟨⟨F',h1,h3⟩,h2⟩:=CT.into_shared hm hc.1 hr;refine⟨⟨F',?_,λb hb=>.inr (h3 b hb)⟩,h2⟩;rw[tF,pW];simp only[Cs.Rep];exact⟨v,rfl,h1⟩
 | .one c,x,us,F,0,k::k'::ks,_,y,L,hx,hc,hr=>hr.elim
 | .one c,x,us,F,o+1,k::ks,_,y,L,hx,hc,hr=>hr.elim
 | .cons c r,x,us,F,0,k::ks,v::vs,y,L,hx,hc,hr=>by
  simp only[Cs.Rep]at hx;obtain⟨u,us',F1,F2,rfl,rfl,hx1,hx2⟩:=hx;simp only[Cs.upd]at hr;obtain⟨p,L1,L2,_,h1,hr⟩:=Rd.runs_bind hr;obtain⟨q,L3,L4,_,h2,hr⟩:=Rd.runs_bind hr;obtain⟨rfl,_⟩:=hr;obtain⟨⟨F0,k1,k6⟩,k2⟩:=CT.into_shared hm hc.1 h1;obtain⟨⟨F',k3,k4⟩,k5⟩:=wd hm hx2 hc.2 h2;refine⟨⟨F0++F',?_,λb hb=>?_⟩,k2.append k5⟩
  · rw[tF];simp only[Cs.Rep];exact⟨v,_,_,_,rfl,rfl,k1,k3⟩
  · rcases mem_append.1 hb with hb|hb
    · exact .inr ((k6 b hb).imp id λh=>h.mono (by simp +contextual))
    · rcases k4 b hb with h|h
      · exact .inl (by simp[h])
      · exact .inr (h.imp id λh=>h.mono (by simp +contextual))
 | .cons c r,x,us,F,o+1,k::ks,vs,y,L,hx,hc,hr=>by
  simp only[Cs.Rep]at hx;obtain⟨u,us',F1,F2,rfl,rfl,hx1,hx2⟩:=hx;simp only[Cs.upd]at hr;obtain⟨q,L3,L4,_,h2,hr⟩:=Rd.runs_bind hr;obtain⟨rfl,_⟩:=hr;obtain⟨⟨F',k3,k4⟩,k5⟩:=wd hm hx2 hc h2;refine⟨⟨F1++F',?_,λb hb=>?_⟩,k5⟩
  · rw[yX];simp only[Cs.Rep];exact⟨u,_,_,_,rfl,rfl,hx1,k3⟩
  · rcases mem_append.1 hb with hb|hb
    · exact .inl (by simp[hb])
    · exact (k4 b hb).imp (λh=>by simp[h]) id
theorem mS.set {α:Type} {n:Nat} {R:α->List Value->List Nat->Prop}:∀{xs:List α} {vs:List Value} {F:List Nat} {i:Nat} {x:α},mS n R xs vs F->xs[i]?=some x ->
 ∃G1 Gi G2,F=G1++Gi++G2/\R x ((vs.drop (i*n)).take n) Gi/\∀y us Gj,R y us Gj->us.length=n->mS n R (xs.set i y) (vs.take (i*n)++us++vs.drop (i*n+n)) (G1++Gj++G2)
 | [],_,_,i,x,_,hx=>by simp at hx
 | z::xs,_,_,0,x,h,hx=>by
  obtain⟨v1,v2,F1,F2,rfl,h1,rfl,hr,h⟩:=h;obtain rfl:z=x:=by simpa using hx
  subst h1;refine⟨[],F1,F2,rfl,by simpa using hr,λy us Gj hy hl=>?_⟩;exact⟨us,v2,Gj,F2,by simp,hl,by simp,hy,h⟩
 | z::xs,_,_,i+1,x,h,hx=>by
  obtain⟨v1,v2,F1,F2,rfl,h1,rfl,hr,h⟩:=h;obtain⟨G1,Gi,G2,rfl,k1,k2⟩:=h.set (i:=i) (x:=x) (by simpa using hx);have e:(i+1)*n=v1.length+i*n:=by rw[h1,Nat.succ_mul,Nat.add_comm]
  refine⟨F1++G1,Gi,G2,by simp,?_,λy us Gj hy hl=>?_⟩
  · rw[e,drop_append,drop_of_length_le (by omega),nil_append,Nat.add_sub_cancel_left];exact k1
  · refine⟨v1,v2.take (i*n)++us++v2.drop (i*n+n),F1,G1++Gj++G2,?_,h1,by simp,hr,k2 y us Gj hy hl⟩;rw[e,Nat.add_assoc,take_append,drop_append,List.take_of_length_le (by omega),drop_of_length_le (l:=v1) (by omega),Nat.add_sub_cancel_left,Nat.add_sub_cancel_left];simp
end Go.V
namespace Go.V
variable {P:Program} {w0:World} {T N:Nat->Prop} {S:St} {g:Gh} {w w':World} {a:Act} {o:Oper} {G:o9} {uid:mF} {en en':List (mF×Entry)}

theorem x5 (A vs B vals:List Value) (q:Nat) (h:q+vals.length<=vs.length):nL (A++vs++B) (A.length+q) vals=A++nL vs q vals++B:=by
 unfold nL;rw[append_assoc A vs B,take_append,List.take_of_length_le (l:=A) (by omega),Nat.add_sub_cancel_left,Nat.add_assoc,drop_append,drop_of_length_le (l:=A) (by omega),Nat.add_sub_cancel_left,
  take_append,drop_append,show q-vs.length=0 by omega,show q+vals.length-vs.length=0 by omega]
 simp
theorem E3 {us vs:List Value} {off:Nat} (h:(us.drop off).take vs.length=vs):us=us.take off++vs++(us.drop off).drop vs.length:=by
 conv=>lhs;rw[←take_append_drop off us,←take_append_drop vs.length (us.drop off),h]
 simp
theorem Ad {us vs:List Value} {off:Nat} (h:(us.drop off).take vs.length=vs) (ho:off<=us.length) (vals:List Value) (q:Nat) (hq:q+vals.length<=vs.length) :
 ((nL us (off+q) vals).drop off).take (nL vs q vals).length=nL vs q vals:=by
 have hA:(us.take off).length=off:=by rw[length_take];omega
 have key:=x5 (us.take off) vs ((us.drop off).drop vs.length) vals q hq;rw[←E3 h,hA]at key;rw[key,append_assoc,drop_append,drop_of_length_le (by omega),hA,Nat.sub_self];simp
theorem rB {l m:List Nat} (h:so m) (k:∀b,l.count b<=m.count b):so l:=λb=>Nat.le_trans (k b) (h b)
theorem oY {b:Nat} {l m:List Nat} (h:b∈l) (k:∀b,l.count b<=m.count b):b∈m:=by
 rw[←List.count_pos_iff]at h ⊢;have:=k b;omega
theorem rC {used:List (mF×Entry)} {deep:Bool} (hu:nb en deep true used) (hd:mP used=true) {m:mF} (hm:m∈used.map (·.1)) {f:Entry} (hf:mG (used++en) m=some f):f.deep=false/\f.alive=false:=by
 rw[pw hm]at hf;obtain⟨p,hp,rfl⟩:=mem_map.1 hm;rw[oX hd hp]at hf;obtain⟨e,m,xs,_,_,he⟩|⟨_,e,xs,_,he⟩:=hu p hp<;>(cases hf;rw[he];exact⟨rfl,rfl⟩)
theorem nb.shallow {kp:Bool} {used:List (mF×Entry)} {deep:Bool} (h:nb en deep kp used):nb en false kp used:=λp hp=>by
 obtain⟨e,m,xs,h1,_,h3⟩|h:=h p hp
 · exact .inl ⟨e,m,xs,h1,(λh=>by cases h),h3⟩
 · exact .inr h

theorem E4 (h:nk w0 T N S g w a) (hT:oG P G.ti) {t:TypeId} {x y:Operand} (ho:o.op=.store t x y) {i:n7} (hi:mG G.ti t=some i) {n:mF} {off:Nat} {cs:List Cell} (hx:mJ (dom S.en) g w (.box n off) (a.eval x))
 (hn:mG S.en n=some (.box cs)) (hb:off+i.cs.len<=cs.length) (hl:(S.eval y).cells.length=i.cs.len) (hu:oq (S.eval y).cells=true) :
 nd P w0 T N S g w a o ⟨.undef,[(n,.box (setSub cs off (S.eval y).cells))]⟩:=by
 have hne:(S.eval y).cells≠[]:=λe=>by rw[e]at hl;have:=i.cs.len_pos;simp at hl;omega
 obtain⟨hc,h1⟩:=cells_rep h.mem (nx h y) hu hne;obtain⟨b,us,k1,k2,k3,k4⟩:=h.mem.rep n _ hn;obtain⟨_,b',k5,hx⟩:=hx;rw[k2]at k5;cases k5;have hlen:(a.eval y).cells.toList.length=i.cs.len:=hc.length.symm.trans hl
 have hus:=k4.length;have hw:=qC (a.eval y).cells.toList off w us k3 (by omega)
 obtain⟨hM,hle⟩:=h.ms.rewrite (E':=.box (setSub cs off (S.eval y).cells)) (F:=g.nest n) hn rfl k1 hw (λhle=>⟨b,_,by simp[Gh.set,k1],by simp[Gh.set,k2],hw.cells,(k4.imp λ_ _=>mJ.mono hle).setSub (hc.imp λ_ _=>mJ.mono hle) off⟩) (λhd=>by cases hd);exact⟨undef,_,_,.inr ⟨rfl,wZ hT ho hi hx k3 hlen (by omega) h1⟩,hM,hle,trivial⟩

theorem De (h:nk w0 T N S g w a) (hT:oG P G.ti) {t:TypeId} {x y:Operand} (ho:o.op=.store t x y) {i:n7} (hi:mG G.ti t=some i) {r:mF} {k off:Nat} {f:Cs} {m:Bool} {xs:List f.den} (hx:mJ (dom S.en) g w (.elem r k off) (a.eval x))
 (hn:mG S.en r=some (.root f m xs)) (hb:off+i.cs.len<=f.len) (hl:(S.eval y).cells.length=i.cs.len) (hu:oq (S.eval y).cells=true) {z:f.den} (hz:xs[k]?=some z) {q:f.den×List (mF×Entry)} {L:List mF}
 (hq:(f.upd m z off (S.eval y).cells).Runs (mG S.en) q L) (hd:mP ((r,.gone)::q.2)=true) :
 nd P w0 T N S g w a o ⟨.undef,(r,.root f m (xs.set k q.1))::q.2⟩:=by
 have hne:(S.eval y).cells≠[]:=λe=>by rw[e]at hl;have:=i.cs.len_pos;simp at hl;omega
 obtain⟨hc,h1⟩:=cells_rep h.mem (nx h y) hu hne;have hlen:(a.eval y).cells.toList.length=i.cs.len:=hc.length.symm.trans hl
 obtain⟨he,hrt,hI,hnd⟩:=nX h.mem hn;obtain⟨hdr,b,o',len,cap0,hloc,hk,hx⟩:=hx;rw[he]at hx;have hxs:k<xs.length:=(List.getElem?_eq_some_iff.1 hz).1
 obtain⟨hrq,hdq⟩:=o0 hd;rcases hrt with ⟨_,rfl,_⟩|⟨b1,off0,cap,us,vs,e1,e2,e3,e4,e5,e6,e7⟩
 · simp at hz
 · rw[hloc]at e1;cases e1;obtain⟨G1,Gi,G2,hF,hri,hset⟩:=e7.set hz;have hvl:=e7.length
   have hkl:k*f.len+f.len<=vs.length:=by rw[hvl,←Nat.succ_mul];exact Nat.mul_le_mul_right _ hxs
   have hvals:(a.eval y).cells.toList.length+off<=f.len:=by omega
   have hwlen:o'+(k*f.len+off)+(a.eval y).cells.toList.length<=us.length:=by
    have:vs.length<=cap0*f.len:=by rw[hvl];exact Nat.mul_le_mul_right _ e3
    omega
   have hw:=qC (a.eval y).cells.toList (o'+(k*f.len+off)) w us e4 hwlen;have hui:((vs.drop (k*f.len)).take f.len).length=f.len:=by rw[length_take,length_drop];omega
   have hvs:vs=vs.take (k*f.len)++(vs.drop (k*f.len)).take f.len++vs.drop (k*f.len+f.len):=by
    conv=>lhs;rw[←take_append_drop (k*f.len) vs,←take_append_drop f.len (vs.drop (k*f.len)),drop_drop]
    simp
   have hpatch:nL vs (k*f.len+off) (a.eval y).cells.toList=vs.take (k*f.len)++nL ((vs.drop (k*f.len)).take f.len) off (a.eval y).cells.toList++vs.drop (k*f.len+f.len):=by
    have hA:(vs.take (k*f.len)).length=k*f.len:=by rw[length_take];omega
    have:=x5 (vs.take (k*f.len)) ((vs.drop (k*f.len)).take f.len) (vs.drop (k*f.len+f.len)) (a.eval y).cells.toList off (by omega);rw[←hvs,hA]at this;exact this
   have hrow:((nL us (o'+(k*f.len+off)) (a.eval y).cells.toList).drop o').take (nL vs (k*f.len+off) (a.eval y).cells.toList).length=nL vs (k*f.len+off) (a.eval y).cells.toList :=
    Ad e6 (by omega) _ _ (by omega)
   have key:∃F',Cs.Rep w f q.1 (nL ((vs.drop (k*f.len)).take f.len) off (a.eval y).cells.toList) F'/\nb S.en false true q.2/\(∀b∈F',g.I b\/qA S.en g b (q.2.map (·.1))) /\
    (m=true->so (G1++F'++G2)/\nb S.en true true q.2/\∀b∈G1++F'++G2,b∈g.nest r\/b∈(q.2.map (·.1)).flatMap (ol g)):=by
    cases m with
    | false =>
     obtain⟨⟨F',k1,k2⟩,k3⟩:=wd h.mem hri hc hq;refine⟨F',k1,k3,λb hb=>?_,λh=>by cases h⟩;rcases k2 b hb with h|h
     · exact .inl (hI b (by rw[hF];simp[h]))
     · exact h
    | true =>
     obtain⟨⟨F',k1,k2⟩,k3⟩:=xJ h.mem hri hc hq;have hcnt:∀b,(G1++F'++G2).count b<=(g.nest r++(q.2.map (·.1)).flatMap (ol g)).count b:=λb=>by
      have:=k2 b;rw[hF];simp only[pE];omega
     have honce:so (g.nest r++(q.2.map (·.1)).flatMap (ol g)):=by
      obtain⟨j1,j2⟩:=sq h.mem k3 hdq;rw[nR,nodup_append];refine⟨hnd rfl,nR.1 j1,λc hc d hd' hcd=>?_⟩;subst hcd;exact j2 r _ hn rfl hrq c hd' (by unfold ol;exact mem_append_right _ hc)
     refine⟨F',k1,k3.shallow,λb hb=>?_,λ_=>⟨rB honce hcnt,k3,λb hb=>mem_append.1 (oY hb hcnt)⟩⟩;rcases mem_append.1 (oY (b:=b) (l:=G1++F'++G2) (by simp[hb]) hcnt)with h'|h'
     · exact .inl (hI b h')
     · exact CB h.mem k3 h'
   obtain⟨F',k1,k2,k3,k4⟩:=key;obtain⟨g1,hM,hle,f1,f2,f3,f4,fI⟩:=h.ms.useAll k2 hdq;have hn1:mG (q.2++S.en) r=some (.root f m xs):=(ne hrq).trans hn
   have hG:∀b∈G1++F'++G2,g1.I b:=λb hb=>(fI b).2 (by
    simp only[mem_append]at hb;rcases hb with (hb|hb)|hb
    · exact .inl (hI b (by rw[hF];simp[hb]))
    · exact k3 b hb
    · exact .inl (hI b (by rw[hF];simp[hb])))
   have hL:=hset q.1 _ F' k1 (by rw[qE (by omega)];exact hui);rw[←hpatch]at hL;obtain⟨hM2,hle2⟩:=hM.rewrite (E':=.root f m (xs.set k q.1)) (F:=G1++F'++G2) hn1 rfl (by rw[f3];exact e2) hw
    (λhle2=>⟨by simp[Gh.set,f2,he],.inr ⟨b,o',cap0,_,_,by simp[Gh.set,f1,hloc],by simp[Gh.set,f3,e2],by simpa using e3,hw.cells,by
     show o'+cap0*f.len<=(nL us _ _).length;rw[qE hwlen];exact e5,hrow,by
     have:(g1.set r ⟨g1.loc r,g1.esz r,g1.top r,G1++F'++G2⟩).nest r=G1++F'++G2:=by simp[Gh.set]
     rw[this];exact hL.imp λx v G _ hGs hr=>Cs.Rep.of_same (λc hc=>hle2.mem c (hG c (hGs c hc))) hr⟩,by simpa[Gh.set]using hG,λhm=>by
     have:(g1.set r ⟨g1.loc r,g1.esz r,g1.top r,G1++F'++G2⟩).nest r=G1++F'++G2:=by simp[Gh.set]
     rw[this];exact nR.1 (k4 hm).1⟩)
    (λhm c hc=>by
     obtain⟨_,j2,j3⟩:=k4 hm;have hm:m=true:=hm
     subst hm;rw[f4];rcases j3 c hc with hcn|hcf
     · refine⟨λk' f' hk' hf' hd'=>?_,h.since.nests r _ c hn rfl hcn⟩;by_cases hin:k'∈q.2.map (·.1)
       · rw[(rC k2 hdq hin hf').1]at hd';cases hd'
       · rw[ne hin]at hf';exact λhc'=>h.mem.nests r k' _ _ hn hf' rfl hd' (Ne.symm hk') c hcn hc'
     · obtain⟨j4,j5⟩:=tE h.ms j2 hcf;refine⟨λk' f' hk' hf' hd'=>?_,j5⟩;by_cases hin:k'∈q.2.map (·.1)
       · rw[(rC k2 hdq hin hf').1]at hd';cases hd'
       · rw[ne hin]at hf';exact j4 k' f' hf' hd' hin)
   refine⟨undef,_,_,.inr ⟨rfl,?_⟩,hM2,hle.trans hle2,trivial⟩;exact wZ hT ho hi (by rw[hx,Nat.add_assoc]) e4 hlen (by omega) h1
theorem CT.into_flat {c:CT} {kp:Bool} {v:Cell} {y:c.den×List (mF×Entry)} {L:List mF} {F:mF->Option Entry} (hv:v.flat=true) (hr:(c.into true kp v).Runs F y L):c.isSl=false:=by
 cases c with
 | sl e=>cases v<;>first | (exact hr.elim) | (cases hv)
 | _=>rfl
theorem yl {F:mF->Option Entry}:∀{f:Cs} {z:f.den} {off:Nat} {vs:List Cell} {q:f.den×List (mF×Entry)} {L:List mF},vs.all Cell.flat=true->(f.upd true z off vs).Runs F q L->∀j,off<=j->j<off+vs.length->f.slAt j=false
 | .one c,z,0,[v],q,L,hv,hr,j,h1,h2=>by
  obtain rfl:j=0:=by simp at h2;omega
  exact CT.into_flat (by simpa using hv) hr
 | .one c,z,off,[],q,L,hv,hr,j,h1,h2=>by simp at h2;omega
 | .cons c r,z,off,[],q,L,hv,hr,j,h1,h2=>by simp at h2;omega
 | .cons c r,z,0,v::vs,q,L,hv,hr,j,h1,h2=>by
  simp only[Cs.upd]at hr;obtain⟨a,L1,L2,_,k1,hr⟩:=Rd.runs_bind hr;obtain⟨b,L3,L4,_,k2,hr⟩:=Rd.runs_bind hr;simp only[List.all_cons,aT]at hv;cases j with
  | zero=>exact CT.into_flat hv.1 k1
  | succ j=>exact yl (f:=r) (off:=0) hv.2 k2 j (by omega) (by simp at h2;omega)
 | .cons c r,z,n+1,v::vs,q,L,hv,hr,j,h1,h2=>by
  simp only[Cs.upd]at hr;obtain⟨b,L3,L4,_,k2,hr⟩:=Rd.runs_bind hr;cases j with
  | zero=>omega
  | succ j=>exact yl (f:=r) (off:=n) hv k2 j (by omega) (by simp at h2 ⊢;omega)
 | .one c,z,0,v::u::vs,q,L,hv,hr,j,h1,h2=>hr.elim
 | .one c,z,n+1,v::vs,q,L,hv,hr,j,h1,h2=>hr.elim
theorem Df {vs vals:List Value} {q p:Nat} (h:q+vals.length<=vs.length) (hp:p<q\/q+vals.length<=p):(nL vs q vals)[p]?=vs[p]?:=by
 unfold nL;have hA:(vs.take q).length=q:=by rw[length_take];omega
 rcases hp with hp|hp
 · rw[append_assoc,List.getElem?_append_left (by omega),List.getElem?_take_of_lt hp]
 · rw[List.getElem?_append_right (by simp;omega),List.getElem?_drop]
   congr 1
   simp;omega
theorem Dg (h:nk w0 T N S g w a) (hT:oG P G.ti) {t:TypeId} {x y:Operand} (ho:o.op=.store t x y) {i:n7} (hi:mG G.ti t=some i) {r:mF} {k off:Nat} {f:Cs} {xs:List f.den} (hx:mJ (dom S.en) g w (.elem r k off) (a.eval x))
 (hn:mG S.en r=some (.tree f xs)) (hb:off+i.cs.len<=f.len) (hl:(S.eval y).cells.length=i.cs.len) (hu:oq (S.eval y).cells=true) (hfl:(S.eval y).cells.all Cell.flat=true) {z:f.den} (hz:xs[k]?=some z) {q:f.den×List (mF×Entry)} {L:List mF}
 (hq:(f.upd true z off (S.eval y).cells).Runs (mG S.en) q L) (hd:q.2=[]) :
 nd P w0 T N S g w a o ⟨.undef,[(r,.tree f (xs.set k q.1))]⟩:=by
 have hne:(S.eval y).cells≠[]:=λe=>by rw[e]at hl;have:=i.cs.len_pos;simp at hl;omega
 obtain⟨hc,h1⟩:=cells_rep h.mem (nx h y) hu hne;have hlen:(a.eval y).cells.toList.length=i.cs.len:=hc.length.symm.trans hl
 obtain⟨he,hrt,hnd⟩:=h.mem.rep r _ hn;obtain⟨hdr,b,o',len,cap0,hloc,hk,hx⟩:=hx;rw[he]at hx;have hxs:k<xs.length:=(List.getElem?_eq_some_iff.1 hz).1
 rcases hrt with ⟨_,rfl,_⟩|⟨b1,off0,cap,vs,F0,e1,e2,e3,⟨c,tt,⟨lo,hi'⟩,hcell,hsz⟩,⟨c',tt',fz',hcell',e6⟩,e7,e8⟩
 · simp at hz
 · rw[hcell]at hcell';cases hcell';rw[hloc]at e1;cases e1;have hbs:b∈g.nest r:=by rw[e2];simp
   have e4:nG w b c.toList:=⟨c,tt,lo,hi',hcell,rfl,h.since.soft b (h.since.born r _ b hn rfl hbs) c tt lo hi' hcell⟩;have e5:o'+cap0*f.len<=c.toList.length:=by simpa using hsz
   obtain⟨G1,Gi,G2,hF,hri,hset⟩:=e7.set hz;have hvl:=e7.length
   have hkl:k*f.len+f.len<=vs.length:=by rw[hvl,←Nat.succ_mul];exact Nat.mul_le_mul_right _ hxs
   have hvals:(a.eval y).cells.toList.length+off<=f.len:=by omega
   have hwlen:o'+(k*f.len+off)+(a.eval y).cells.toList.length<=c.toList.length:=by
    have:vs.length<=cap0*f.len:=by rw[hvl];exact Nat.mul_le_mul_right _ e3
    omega
   have hw:=qC (a.eval y).cells.toList (o'+(k*f.len+off)) w c.toList e4 hwlen;have hui:((vs.drop (k*f.len)).take f.len).length=f.len:=by rw[length_take,length_drop];omega
   have hvs:vs=vs.take (k*f.len)++(vs.drop (k*f.len)).take f.len++vs.drop (k*f.len+f.len):=by
    conv=>lhs;rw[←take_append_drop (k*f.len) vs,←take_append_drop f.len (vs.drop (k*f.len)),drop_drop]
    simp
   have hpatch:nL vs (k*f.len+off) (a.eval y).cells.toList=vs.take (k*f.len)++nL ((vs.drop (k*f.len)).take f.len) off (a.eval y).cells.toList++vs.drop (k*f.len+f.len):=by
    have hA:(vs.take (k*f.len)).length=k*f.len:=by rw[length_take];omega
    have:=x5 (vs.take (k*f.len)) ((vs.drop (k*f.len)).take f.len) (vs.drop (k*f.len+f.len)) (a.eval y).cells.toList off (by omega);rw[←hvs,hA]at this;exact this
   have hrow:((nL c.toList (o'+(k*f.len+off)) (a.eval y).cells.toList).drop o').take (nL vs (k*f.len+off) (a.eval y).cells.toList).length=nL vs (k*f.len+off) (a.eval y).cells.toList :=
    Ad e6 (by omega) _ _ (by omega)
   obtain⟨⟨F',k1,k2⟩,_⟩:=xJ h.mem hri hc hq;have hcnt:∀b,(G1++F'++G2).count b<=F0.count b:=λb=>by
    have:=k2 b;rw[hd]at this;rw[hF];simp only[pE];simp at this;omega
   have hL:=hset q.1 _ F' k1 (by rw[qE (by omega)];exact hui);rw[←hpatch]at hL;have hsub:∀c∈G1++F'++G2,c∈F0:=λc hc=>oY hc hcnt
   have hbF:b∉F0:=by
    have:=hnd;rw[e2]at this;exact (List.nodup_cons.1 this).1
   have hF0:F0.Nodup:=by have:=hnd;rw[e2]at this;exact (List.nodup_cons.1 this).2
   obtain⟨hM2,hle2⟩:=h.ms.retree (ys:=xs.set k q.1) (F:=b::(G1++F'++G2)) hn hw.os hw.out hw.tape (by rw[hw.size];exact Nat.le_refl _)
    (λc _ hcn=>hw.rest c λe=>by subst e;exact hcn hbs)
    (λc hc=>by
     by_cases e:c=b
     · subst e;exact hw.cells.soft
     · rcases hc with hc|hc
       · exact (h.since.soft c (h.since.born r _ c hn rfl hc)).of_same (hw.rest c e)
       · intro c1 t1 l1 u1 hc1;have:=ta hc1
         rw[hw.size]at this;omega)
    (.inr ⟨b,o',cap0,_,_,by simpa using hloc,rfl,by simpa using e3,by
     obtain⟨c2,t2,l2,u2,hc2,hv2,_⟩:=hw.cells;refine⟨c2,t2,_,hc2,?_⟩;have:(nL c.toList (o'+(k*f.len+off)) (a.eval y).cells.toList).length=c2.size:=by rw[show nL c.toList (o'+(k*f.len+off)) (a.eval y).cells.toList=c2.toList from hv2.symm];simp
     rw[qE hwlen]at this;omega,hw.cells.row_at hrow,hL.imp λx v G _ hGs hr=>Cs.Rep.of_same (λc hc=>hw.rest c λe=>hbF (e▸hsub c (hGs c hc))) hr,by
     intro i' j' hi2 hj2;rw[←e8 i' j' (by simpa using hi2) hj2];have hjl:=Cs.slAt_lt hj2
     refine Df (by omega) ?_;by_cases hik:i'=k
     · subst hik;rcases Nat.lt_or_ge j' off with hj|hj
       · exact .inl (by omega)
       · rcases Nat.lt_or_ge j' (off+(S.eval y).cells.length)with hj'|hj'
         · rw[yl hfl hq j' hj hj']at hj2;cases hj2
         · exact .inr (by omega)
     · rcases Nat.lt_or_ge i' k with hlt|hge
       · have:(i'+1)*f.len<=k*f.len:=Nat.mul_le_mul_right _ hlt;rw[Nat.add_mul]at this;exact .inl (by omega)
       · have:(k+1)*f.len<=i'*f.len:=Nat.mul_le_mul_right _ (by omega);rw[Nat.add_mul]at this;exact .inr (by omega)⟩)
    (List.nodup_cons.2 ⟨λhm=>hbF (hsub b hm),nR.1 (rB (nR.2 hF0) hcnt)⟩)
    (λc hc=>.inl (by
     rw[e2];rcases mem_cons.1 hc with rfl|hc
     · simp
     · exact mem_cons_of_mem _ (hsub c hc)))
   refine⟨undef,_,_,.inr ⟨rfl,?_⟩,hM2,hle2,trivial⟩;exact wZ hT ho hi (by rw[hx,Nat.add_assoc]) e4 hlen (by omega) h1
theorem Fa (h:nk w0 T N S g w a) (hT:oG P G.ti) {t:TypeId} {x y:Operand} (ho:o.op=.store t x y) {e:nu} {L:List mF} (hr:(pc G uid S.eval (.store t x y)).Runs (mG S.en) e L):nd P w0 T N S g w a o e:=by
 replace hr:=np hr;obtain⟨i,hi,hr⟩:=hr;have hx:=nx h x
 unfold vZ at hr;cases hk:(Nat.beq (S.eval y).cells.length i.cs.len&&oq (S.eval y).cells)with
 | false=>rw[hk]at hr;exact hr.elim
 | true =>
  rw[hk]at hr;simp only[aT]at hk;obtain⟨hl,hu⟩:=hk;have hl:=Nat.eq_of_beq_eq_true hl
  simp only[cT]at hr;split at hr
  · rename_i n off e1;rw[e1]at hx;obtain⟨L',hL',hr⟩:=hr;cases hn:mG S.en n with
    | none=>rw[hn]at hr;exact hr.elim
    | some E =>
     rw[hn]at hr;cases E with
     | gone=>exact hr.elim
     | fwd _ _=>exact hr.elim
     | pop _ _=>exact hr.elim
     | frz _ _=>exact hr.elim
     | root _ _ _=>exact hr.elim
     | tree _ _=>exact hr.elim
     | box cs =>
      simp only at hr;cases hb:Nat.ble (off+i.cs.len) cs.length with
      | false=>rw[hb]at hr;exact hr.elim
      | true =>
       rw[hb]at hr;obtain⟨rfl,_⟩:=hr;exact E4 h hT ho hi hx hn (qD hb) hl hu
  · rename_i r k off e1;rw[e1]at hx;obtain⟨L',hL',hr⟩:=hr;cases hn:mG S.en r with
    | none=>rw[hn]at hr;exact hr.elim
    | some E =>
     rw[hn]at hr;cases E with
     | gone=>exact hr.elim
     | fwd _ _=>exact hr.elim
     | pop _ _=>exact hr.elim
     | frz _ _=>exact hr.elim
     | box _=>exact hr.elim
     | tree f xs =>
      simp only at hr;cases hb:(Nat.ble (off+i.cs.len) f.len&&(S.eval y).cells.all Cell.flat)with
      | false=>rw[hb]at hr;exact hr.elim
      | true =>
       rw[hb]at hr;simp only[aT]at hb;obtain⟨z,hz,hr⟩:=hr;obtain⟨q,L1,L2,_,hq,hr⟩:=Rd.runs_bind hr;split at hr
       · rename_i hq2;obtain⟨rfl,_⟩:=hr;exact Dg h hT ho hi hx hn (qD hb.1) hl hu hb.2 hz hq hq2
       · exact hr.elim
     | root f m xs =>
      simp only at hr;cases hb:Nat.ble (off+i.cs.len) f.len with
      | false=>rw[hb]at hr;exact hr.elim
      | true =>
       rw[hb]at hr;obtain⟨z,hz,hr⟩:=hr;obtain⟨q,L1,L2,_,hq,hr⟩:=Rd.runs_bind hr;obtain⟨_,L3,L4,_,hd,hr⟩:=Rd.runs_bind hr;obtain⟨rfl,_⟩:=hr;exact De h hT ho hi hx hn (qD hb) hl hu hz hq (Rd.runs_need hd).1
  · exact hr.elim
end Go.V
namespace Go.V
variable {P:Program} {w0:World} {T N:Nat->Prop} {S:St} {g:Gh} {w w':World} {a:Act} {o:Oper} {G:o9} {uid:mF} {en en':List (mF×Entry)}

theorem uA (w:World) (c:Array Value) (t:TypeId):nG (w.alloc (.cells c t)) w.heap.size c.toList :=
 ⟨c,t,0,0,uz w _,rfl,Nat.le_refl _,λo _=>by omega⟩
theorem MS.newBox (h:MS w0 T N en g w) {n:mF} (hn:mG en n=none) {cs:List Cell} {c:Array Value} {t:TypeId} (hc:mQ (mJ (dom en) g w) cs c.toList) :
 MS w0 T N ((n,.box cs)::en) (g.set n ⟨.pointer (some ⟨w.heap.size,0,none⟩),0,some w.heap.size,[]⟩) (w.alloc (.cells c t)) /\
  Le (dom en) g w (dom ((n,.box cs)::en)) (g.set n ⟨.pointer (some ⟨w.heap.size,0,none⟩),0,some w.heap.size,[]⟩) (w.alloc (.cells c t)):=by
 obtain⟨h1,l1⟩:=h.alloc (.cells c t);have hf:=h.free
 have l2:=Gh.set_le (g:=g) (w:=w.alloc (.cells c t)) (n:=n) (.box cs) ⟨.pointer (some ⟨w.heap.size,0,none⟩),0,some w.heap.size,[]⟩ (λhd=>absurd hn hd);obtain⟨h3,l3⟩:=h1.put (n:=n) (e:=.box cs) (i:=⟨.pointer (some ⟨w.heap.size,0,none⟩),0,some w.heap.size,[]⟩) (λhd=>absurd hn hd) rfl
  ⟨w.heap.size,c.toList,by simp[Gh.set],by simp[Gh.set],uA w c t,hc.imp λ_ _=>mJ.mono (l1.trans l2)⟩
  (λ_ b hb=>by cases hb;exact⟨hf.imm,λm f _=>hf.top m f,hf.own,λm f _=>hf.wood m f⟩) (λhd=>by cases hd)
 exact⟨h3,l1.trans l3⟩
theorem rR {D:mF->Prop}:∀{e:Cs} {vs:List Value},zeroOk e vs=true->mQ (mJ D g w) e.zeroCells vs
 | .one c,[v],h=>⟨one c v h,trivial⟩
 | .cons c r,v::vs,h=>by
  simp only[zeroOk,aT]at h;exact⟨one c v h.1,rR h.2⟩
 | .one c,[],h=>by simp[zeroOk]at h
 | .one c,_::_::_,h=>by simp[zeroOk]at h
 | .cons c r,[],h=>by simp[zeroOk]at h
where one:∀(c:CT) (v:Value),zeroOk.one c v=true->mJ D g w (tS c) v
 | .int k,v,h=>by have:=ru.one (w:=w) (.int k) v h;simp only[CT.Rep]at this;exact this.1
 | .bool,v,h=>by have:=ru.one (w:=w) .bool v h;simp only[CT.Rep]at this;exact this.1
 | .str,v,h=>by have:=ru.one (w:=w) .str v h;simp only[CT.Rep]at this;exact this.1
 | .err,v,h=>by have:=ru.one (w:=w) .err v h;simp only[CT.Rep]at this;exact this.2
 | .sl e,v,h=>by
  cases v<;>simp[zeroOk.one]at h;rename_i a len cap;cases a with
  | some a=>simp[zeroOk.one]at h
  | none =>
   cases len<;>cases cap<;>simp[zeroOk.one]at h;rfl
theorem Fb (h:nk w0 T N S g w a) (hT:oG P G.ti) {t:TypeId} (ho:o.op=.alloc t) {e:nu} {L:List mF} (hr:(pc G uid S.eval (.alloc t)).Runs (mG S.en) e L):nd P w0 T N S g w a o e:=by
 replace hr:=np hr;obtain⟨i,hi,hr⟩:=hr;obtain⟨rfl,_,hn⟩:=p8 hr;obtain⟨d,u,z,hf⟩:=hT.facts hi;have hn:=hn _ (mem_singleton.2 rfl)
 obtain⟨hM,hle⟩:=h.ms.newBox (c:=z.cells) (t:=t) hn (rR hf.zok);refine⟨_,_,_,.inl ?_,hM,hle,⟨nJ.2 (.inl rfl),w.heap.size,by simp[Gh.set],rfl⟩⟩;simp only[execOp,ho,Instr.alloc,Sem.run_bind,hf.zero_run,Result.andThen,newVar,newRow,run_newObj,Sem.run_pure];rfl
theorem Hk (h:nk w0 T N S g w a) (hT:oG P G.ti) {t:TypeId} {x:Operand} (ho:o.op=.box t x) {e:nu} {L:List mF} (hr:(pc G uid S.eval (.box t x)).Runs (mG S.en) e L):nd P w0 T N S g w a o e:=by
 replace hr:=np hr;obtain⟨i,hi,hr⟩:=hr;cases hk:(Nat.beq (S.eval x).cells.length i.cs.len&&oq (S.eval x).cells)with
 | false=>rw[hk]at hr;exact hr.elim
 | true =>
  rw[hk]at hr;simp only[aT]at hk;have hl:=Nat.eq_of_beq_eq_true hk.1
  obtain⟨rfl,_,hn⟩:=p8 hr;have hn:=hn _ (mem_singleton.2 rfl)
  have hne:(S.eval x).cells≠[]:=λe=>by rw[e]at hl;have:=i.cs.len_pos;simp at hl;omega
  obtain⟨hc,_⟩:=cells_rep h.mem (nx h x) hk.2 hne;obtain⟨hM,hle⟩:=h.ms.newBox (c:=(a.eval x).cells) (t:=t) hn hc;refine⟨_,_,_,.inl ?_,hM,hle,⟨nJ.2 (.inl rfl),w.heap.size,by simp[Gh.set],rfl⟩⟩;simp only[execOp,ho,Instr.box,Sem.run_bind,Result.andThen,newVar,newRow,run_newObj,Sem.run_pure];rfl

theorem Ca (off:Nat) (l:List Value) (cs:Array Value) (h:off+l.length<=cs.size) :
 ((l.zipIdx 0).foldl (λcs (x:Value×Nat)=>cs.setIfInBounds (off+x.2) x.1) cs).toList=nL cs.toList off l:=by
 obtain⟨h1,h2⟩:=Great.foldl_set off l 0 cs;apply List.ext_getElem?;intro k;rw[Array.getElem?_toList,h2 k];simp only[nL,Nat.add_zero];by_cases hk:off<=k/\k<off+l.length/\k<cs.size
 · rw[if_pos hk,append_assoc,List.getElem?_append_right (by rw[length_take];simp;omega),length_take,List.getElem?_append_left (by simp;omega)]
   congr 1;simp;omega
 · rw[if_neg hk];by_cases hlt:k<off
   · rw[append_assoc,List.getElem?_append_left (by rw[length_take];simp;omega),List.getElem?_take_of_lt hlt];simp
   · rw[List.getElem?_append_right (by simp;omega),List.getElem?_drop];rw[←Array.getElem?_toList];congr 1;simp;omega
theorem Ae (place:Nat->Option (Nat×Nat)) (cells:Array Value) (i:Nat) (v:Value) (rest:List (Nat×Value)) {off size:Nat} (hp:place i=some (off,size)) (hs:v.cells.size=size) (hb:off+v.cells.size<=cells.size) :
 ∃cells':Array Value,Instr.fill place cells ((i,v)::rest)=Instr.fill place cells' rest/\cells'.toList=nL cells.toList off v.cells.toList/\cells'.size=cells.size:=by
 refine⟨_,?_,Ca off v.cells.toList cells (by simpa using hb),(Great.foldl_set off v.cells.toList 0 cells).1⟩;simp only[Instr.fill,hp];rw[if_neg (by simp[hs];omega)];have:(v.cells.zipIdx.foldl (λcs (x:Value×Nat)=>cs.setIfInBounds (off+x.2) x.1) cells)=(v.cells.toList.zipIdx 0).foldl (λcs (x:Value×Nat)=>cs.setIfInBounds (off+x.2) x.1) cells:=by
  rw[←Array.foldl_toList,Array.toList_zipIdx]
 exact congrArg (λc=>Instr.fill place c rest) this
theorem Af {ti:List (Nat×n7)} (hT:oG P ti):∀{fs:List Field} {fl:List (Nat×Nat)},oZ ti fs fl=true ->
 ∃places,fs.mapM (λf=>(P.info? f.type).map λi=>(f.offset,i.size))=some places/\∀(i:Nat) (p:Nat×Nat),fl[i]?=some p->places[i]?=some (p.2,rp ⟨ti,[],[],false⟩ p.1)
 | [],[],_=>⟨[],rfl,by simp⟩
 | f::fs,(t,o)::fl,h=>by
  simp only[oZ,aT]at h;obtain⟨⟨⟨h1,h2⟩,h3⟩,h4⟩:=h;obtain⟨places,k1,k2⟩:=Af hT h4;obtain rfl:=Nat.eq_of_beq_eq_true h1;obtain rfl:=Nat.eq_of_beq_eq_true h2;obtain⟨i,hi⟩:=Option.isSome_iff_exists.1 h3;obtain⟨d,u,z,hf⟩:=hT.facts hi;refine⟨(f.offset,i.cs.len)::places,?_,λj p hj=>?_⟩
  · simp[List.mapM_cons,hf.info,k1,hf.size]
  · cases j with
    | zero=>simp at hj;subst hj;simp[rp,hi]
    | succ j=>simpa using k2 j p (by simpa using hj)
 | [],_::_,h=>by simp[oZ]at h
 | _::_,[],h=>by simp[oZ]at h
theorem yY (h:nk w0 T N S g w a) {fl:List (Nat×Nat)} {places:List (Nat×Nat)} (hp:∀(i:Nat) (p:Nat×Nat),fl[i]?=some p->places[i]?=some (p.2,rp G p.1)) (hpos:∀(i:Nat) (p:Nat×Nat),fl[i]?=some p->0<rp G p.1) :
 ∀(parts:List (Nat×Operand)) (cs cs':List Cell) (cells:Array Value),mQ (mJ (dom S.en) g w) cs cells.toList->qj fl (rp G) cs (parts.map λp=>(p.1,S.eval p.2))=some cs' ->
 ∃cells',Instr.fill (places.toArray[·]?) cells (parts.map λp=>(p.1,a.eval p.2))=some cells'/\mQ (mJ (dom S.en) g w) cs' cells'.toList
 | [],cs,cs',cells,hc,hb=>by
  simp only[map_nil,qj,Option.some.injEq]at hb;subst hb;exact⟨cells,rfl,hc⟩
 | (i,x)::parts,cs,cs',cells,hc,hb=>by
  simp only[map_cons,qj]at hb;cases hf:fl[i]? with
  | none=>rw[hf]at hb;simp at hb
  | some f =>
   rw[hf]at hb;simp only at hb;cases hk:(Nat.beq (S.eval x).cells.length (rp G f.1)&&Nat.ble (f.2+(S.eval x).cells.length) cs.length&&oq (S.eval x).cells)with
   | false=>rw[hk]at hb;simp at hb
   | true =>
    rw[hk]at hb;simp only[aT]at hk;obtain⟨⟨h1,h2⟩,h3⟩:=hk;have h1:=Nat.eq_of_beq_eq_true h1
    have h2:=qD h2;have hne:(S.eval x).cells≠[]:=λe=>by rw[e]at h1;have:=hpos i f hf;simp at h1;omega
    obtain⟨hv,_⟩:=cells_rep h.mem (nx h x) h3 hne;have hsz:(a.eval x).cells.size=rp G f.1:=by rw[←h1];exact hv.length.symm
    have hcs:cs.length=cells.size:=hc.length;obtain⟨cells1,k1,k2,k3⟩:=Ae (places.toArray[·]?) cells i (a.eval x) (parts.map λp=>(p.1,a.eval p.2)) (off:=f.2) (size:=rp G f.1) (by simpa using hp i f hf) hsz (by rw[hsz];omega);obtain⟨cells',j1,j2⟩:=yY h hp hpos parts (setSub cs f.2 (S.eval x).cells) cs' cells1 (by rw[k2];exact hc.setSub hv f.2) hb;exact⟨cells',by rw[map_cons,k1,j1],j2⟩
theorem Fc (h:nk w0 T N S g w a) (hT:oG P G.ti) {t:TypeId} {parts:Array (Nat×Operand)} (ho:o.op=.build t parts) {e:nu} {L:List mF} (hr:(pc G uid S.eval (.build t parts)).Runs (mG S.en) e L):nd P w0 T N S g w a o e:=by
 replace hr:=np hr;obtain⟨i,hi,hr⟩:=hr;obtain⟨d,u,z,hf⟩:=hT.facts hi;cases ha:i.agg with
 | false=>rw[ha]at hr;exact hr.elim
 | true =>
  rw[ha]at hr;simp only[cT]at hr;split at hr
  · rename_i cs hb;obtain⟨rfl,_⟩:=hr;obtain⟨fs,rfl,hfs⟩:=hf.agg ha;obtain⟨places,hp1,hp2⟩:=Af hT hfs;have hsz:∀t,rp G t=rp ⟨G.ti,[],[],false⟩ t:=λt=>rfl
    have hpos:∀(j:Nat) (p:Nat×Nat),i.flds[j]?=some p->0<rp G p.1:=by
     intro j p hj;have:∀(fs:List Field) (fl:List (Nat×Nat)),oZ G.ti fs fl=true->∀(j:Nat) (p:Nat×Nat),fl[j]?=some p->∃i,mG G.ti p.1=some i:=by
      intro fs
      induction fs with
      | nil=>intro fl hfl j p hj;cases fl<;>simp[oZ]at hfl hj
      | cons f fs ih =>
       intro fl hfl j p hj;cases fl with
       | nil=>simp at hj
       | cons q fl =>
        obtain⟨t',o'⟩:=q;simp only[oZ,aT]at hfl;cases j with
        | zero=>simp at hj;subst hj;exact Option.isSome_iff_exists.1 hfl.1.2
        | succ j=>exact ih fl hfl.2 j p (by simpa using hj)
     obtain⟨i',hi'⟩:=this _ _ hfs j p hj;simp only[rp,hi'];exact i'.cs.len_pos
    obtain⟨cells,hc1,hc2⟩:=yY h (places:=places) (λj p hj=>hp2 j p hj) hpos parts.toList i.cs.zeroCells cs z.cells (rR hf.zok) hb;have hbuilt:P.built t ((parts.map λp=>(p.1,a.eval p.2))).toList=some cells:=by
     simp only[Program.built,hf.info,hf.und,hf.zero,hp1,Array.toList_map];exact hc1
    refine nd.pure h (v:=.agg cells) ?_ ⟨cells,rfl,hc2⟩;simp only[execOp,ho,Sem.run_bind];rw[run_build w t _ cells hbuilt];rfl
  · exact hr.elim
end Go.V
namespace Go.V
variable {P:Program} {w0:World} {T N:Nat->Prop} {S:St} {g:Gh} {w w':World} {a:Act} {o:Oper} {G:o9} {uid:mF} {en en':List (mF×Entry)}

theorem x6 {z:Array Value} (hz:0<z.size):∀k,(madeCells z (k*z.size)).toList=(List.replicate k z.toList).flatten
 | 0=>by simp[madeCells]
 | k+1=>by
  have ih:=x6 hz k;simp only[madeCells,Array.toList_map,Array.toList_range]at ih ⊢;rw[Nat.succ_mul,List.range_add,map_append,ih,List.replicate_succ',List.flatten_append];simp only[List.flatten_cons,List.flatten_nil,append_nil,List.map_map]
  congr 1
  apply List.ext_getElem
  · simp
  · intro q h1 h2;simp only[List.length_map,List.length_range]at h1;simp[Nat.mod_eq_of_lt h1,Nat.add_comm,Nat.mul_comm k,Nat.add_mul_mod_self_left,h1]
theorem wM {e:Cs} {x:e.den} {rL:List Value} (h:Cs.Rep w e x rL []):∀k,mS e.len (Cs.Rep w e) (List.replicate k x) (List.replicate k rL).flatten []
 | 0=>⟨rfl,rfl⟩
 | k+1=>⟨rL,(List.replicate k rL).flatten,[],[],by simp[List.replicate_succ],h.length,rfl,h,wM h k⟩
theorem qL {i:n7} {k:Rd nu} {e:nu} {L:List mF} {F:mF->Option Entry} (h:(zN i k).Runs F e L):∃f,i.agg=false/\i.cs=.one (.sl f)/\k.Runs F e L:=by
 unfold zN at h;split at h
 · rename_i f ha hc;exact⟨f,ha,hc,h⟩
 · exact h.elim
theorem B8 (h:nk w0 T N S g w a) (hT:oG P G.ti) {t:TypeId} {n m:Tmp} (ho:o.op=.makeSlice t (.tmp n) (.tmp m)) {e:nu} {L:List mF} (hr:(pc G uid S.eval (.makeSlice t (.tmp n) (.tmp m))).Runs (mG S.en) e L):nd P w0 T N S g w a o e:=by
 replace hr:=np hr;obtain⟨i,hi,hr⟩:=hr;replace hr:=qL hr;obtain⟨f,ha,hc,hr⟩:=hr;replace hr:=np hr;obtain⟨j,hj,hr⟩:=hr;cases hb:Nat.beq n m with
 | false=>rw[hb]at hr;exact hr.elim
 | true =>
  rw[hb]at hr;obtain rfl:=Nat.eq_of_beq_eq_true hb;replace hr:(match S.eval (.tmp n)with | .cell (.int _ n)=>Rd.opt (r6 n) λm=>r9 (.cell (.own uid)) [(uid,.root j.cs true (List.replicate m j.cs.zero))] []|_=>.fail).Runs (mG S.en) e L:=hr;split at hr
  · rename_i k q e1;have hq:a.eval (.tmp n)=.int k q:=s5 h e1
    obtain⟨l,hl,hr⟩:=hr;obtain⟨rfl,_,hn⟩:=p8 hr;have hn:=hn _ (mem_singleton.2 rfl)
    obtain⟨hu,j',d,u,z,hj',hjc,hf⟩:=qx hT hi ha hc;rw[hj]at hj';cases hj';unfold r6 at hl;split at hl
    · rename_i h0;split at hl
      · rename_i h1;cases hl;have hzl:z.cells.size=j.cs.len:=(hf.zrep w).length
        have hpos:0<z.cells.size:=by rw[hzl];exact j.cs.len_pos
        have hsz:d.size=z.cells.size:=by rw[hf.size,hzl]
        have hby:=hf.bytes;have h1':q<=4294967296:=h1
        have hrun:=run_make (P:=P) w t i.elem d z hu hf.info hf.zero k k q q h0 (Int.le_refl _) (by
         have:(d.bytes:Int)*q<=8192*4294967296:=Int.mul_le_mul (by omega) h1' h0 (by omega);omega) (by omega)
        rw[hsz]at hrun;obtain⟨hM,hle⟩:=h.ms.alloc (.cells (madeCells z.cells (q.toNat*z.cells.size)) i.elem);have hlist:=x6 hpos q.toNat
        obtain⟨hM2,hle2⟩:=hM.root (n:=uid) (e:=j.cs) (m:=true) (xs:=List.replicate q.toNat j.cs.zero) (b:=w.heap.size) (off:=0) (cap:=q.toNat) (us:=(madeCells z.cells (q.toNat*z.cells.size)).toList)
         (vs:=(madeCells z.cells (q.toNat*z.cells.size)).toList) (F:=[]) hn h.ms.free (by simp) (uA w _ _) (by simp[size_madeCells,hzl]) (by rw[drop_zero];exact take_length) (by rw[hlist];exact wM (hf.zrep _) _) (by simp) (by simp)
        refine⟨_,_,_,.inl ?_,hM2,hle.trans hle2,⟨nJ.2 (.inl rfl),rfl⟩⟩;simp only[execOp,ho,hq,Sem.run_bind,hrun,Result.andThen,Sem.run_pure,Gh.set,if_true,List.length_replicate]
      · cases hl
    · cases hl
  · exact hr.elim

theorem E5 {us vals:List Value} {o:Nat} (h:o+vals.length<=us.length) (k:Nat):(nL us o vals)[k]?=if o<=k/\k<o+vals.length then vals[k-o]? else us[k]?:=by
 simp only[nL];by_cases hk:o<=k/\k<o+vals.length
 · rw[if_pos hk,append_assoc,List.getElem?_append_right (by rw[length_take];omega),length_take,List.getElem?_append_left (by omega)]
   congr 1;omega
 · rw[if_neg hk];by_cases hlt:k<o
   · rw[append_assoc,List.getElem?_append_left (by rw[length_take];omega),List.getElem?_take_of_lt hlt]
   · rw[List.getElem?_append_right (by simp;omega),List.getElem?_drop]
     congr 1;simp;omega
def rL (us:List Value) (sz j:Nat):List Value:=(us.drop (j*sz)).take sz
theorem CC (us:List Value) (sz j q:Nat) (h:q<sz):(rL us sz j)[q]?=us[j*sz+q]?:=by
 unfold rL;rw[List.getElem?_take_of_lt h,List.getElem?_drop]
theorem yZ {us:List Value} {sz n j:Nat} (h:us.length=n*sz) (hj:j<n):(rL us sz j).length=sz:=by
 unfold rL;have:j*sz+sz<=n*sz:=by rw[←Nat.succ_mul];exact Nat.mul_le_mul_right _ hj
 rw[length_take,length_drop];omega
theorem E6 {us vals:List Value} {sz n i j:Nat} (h:us.length=n*sz) (hi:i<n) (hj:j<n) (hv:vals.length=sz):rL (nL us (i*sz) vals) sz j=if j=i then vals else rL us sz j:=by
 have hin:i*sz+sz<=n*sz:=by rw[←Nat.succ_mul];exact Nat.mul_le_mul_right _ hi
 have hl:(nL us (i*sz) vals).length=n*sz:=by rw[qE (by omega)];exact h
 have h1:=yZ hl hj;have h2:=yZ h hj
 apply List.ext_getElem?;intro q;by_cases hq:q<sz
 · rw[CC _ _ _ _ hq,E5 (by omega)];by_cases hji:j=i
   · subst hji;rw[if_pos (by omega),if_pos rfl];congr 1;omega
   · rw[if_neg hji,CC _ _ _ _ hq,if_neg];intro hc;rcases Nat.lt_or_gt_of_ne hji with hlt|hgt
     · have:j*sz+sz<=i*sz:=by rw[←Nat.succ_mul];exact Nat.mul_le_mul_right _ hlt
       omega
     · have:i*sz+sz<=j*sz:=by rw[←Nat.succ_mul];exact Nat.mul_le_mul_right _ hgt
       omega
 · rw[List.getElem?_eq_none (by omega),List.getElem?_eq_none];split<;>omega
theorem Ag:∀{l:List (Nat×AV)} {n i j:Nat},rn n i l=true->j<i->mG l j=none
 | [],_,_,_,_,_=>rfl
 | (k,v)::l,n,i,j,h,hj=>by
  simp only[rn,aT]at h;have:=qD h.1.1
  rw[ni (by omega)];exact Ag h.2 (by omega)
theorem Ah (h:nk w0 T N S g w a) {sz n:Nat} (hsz:0<sz):∀(parts:List (Nat×Operand)) (i:Nat) (c0:Nat->List Cell) (cells:Array Value),rn n i (parts.map λp=>(p.1,S.eval p.2))=true ->
 ((parts.map λp=>(p.1,S.eval p.2)).all λp=>Nat.beq p.2.cells.length sz&&oq p.2.cells)=true->cells.size=n*sz->(∀j,j<n->mQ (mJ (dom S.en) g w) (c0 j) (rL cells.toList sz j)) ->
 ∃cells',Instr.fill (λi=>some (i*sz,sz)) cells (parts.map λp=>(p.1,a.eval p.2))=some cells'/\cells'.size=n*sz /\
  ∀j,j<n->mQ (mJ (dom S.en) g w) (match mG (parts.map λp=>(p.1,S.eval p.2)) j with|some v=>v.cells|none=>c0 j) (rL cells'.toList sz j)
 | [],i,c0,cells,_,_,hs,hc=>⟨cells,rfl,hs,hc⟩
 | (k,x)::parts,i,c0,cells,hp,hall,hs,hc=>by
  simp only[map_cons,rn,aT,List.all_cons]at hp hall;obtain⟨⟨hp1,hp2⟩,hp3⟩:=hp;obtain⟨⟨hl,hu⟩,hall⟩:=hall;have hl:=Nat.eq_of_beq_eq_true hl
  have hk:k<n:=qD hp2;have hne:(S.eval x).cells≠[]:=λe=>by rw[e]at hl;simp at hl;omega
  obtain⟨hv,_⟩:=cells_rep h.mem (nx h x) hu hne;have hvs:(a.eval x).cells.toList.length=sz:=by rw[←hv.length];exact hl
  have hin:k*sz+sz<=n*sz:=by rw[←Nat.succ_mul];exact Nat.mul_le_mul_right _ hk
  obtain⟨cells1,k1,k2,k3⟩:=Ae (λi=>some (i*sz,sz)) cells k (a.eval x) (parts.map λp=>(p.1,a.eval p.2)) (off:=k*sz) (size:=sz) rfl (by simpa using hvs) (by
   have:(a.eval x).cells.size=sz:=by simpa using hvs
   omega)
  obtain⟨cells',j1,j2,j3⟩:=Ah h hsz parts (k+1) (λj=>if j=k then (S.eval x).cells else c0 j) cells1 hp3 hall (by rw[k3];exact hs) (λj hj=>by
   rw[k2,E6 (by simpa using hs) hk hj hvs];by_cases he:j=k
   · simp only[if_pos he];exact hv
   · simp only[if_neg he];exact hc j hj)
  refine⟨cells',by rw[map_cons,k1,j1],j2,λj hj=>?_⟩;have:=j3 j hj
  simp only[map_cons,mR];by_cases he:j=k
  · subst he;rw[Ag hp3 (Nat.lt_succ_self _)]at this;simpa using this
  · simp only[if_neg (Ne.symm he)];simp only[if_neg he]at this;exact this
theorem B9 (us:List Value) (sz i n:Nat):(us.drop (i*sz)).take ((n+1)*sz)=rL us sz i++(us.drop ((i+1)*sz)).take (n*sz):=by
 unfold rL;rw[Nat.succ_mul,Nat.add_comm (n*sz),List.take_add,drop_drop,Nat.succ_mul]
theorem Ai (hm:oA en g w) {e:Cs} {parts:List (Nat×AV)} {us:List Value}:∀{n i:Nat} {y:List e.den×List (mF×Entry)} {L:List mF},(∀j,i<=j->j<i+n->mQ (mJ (dom en) g w) (w4 e parts j) (rL us e.len j)) ->
 (ux e true parts n i).Runs (mG en) y L->(∃F,mS e.len (Cs.Rep w e) y.1 ((us.drop (i*e.len)).take (n*e.len)) F/\∀b,F.count b<=((y.2.map (·.1)).flatMap (ol g)).count b)/\nb en true true y.2/\y.1.length=n
 | 0,i,y,L,_,hr=>by
  obtain⟨rfl,_⟩:=hr;exact⟨⟨[],⟨by simp,rfl⟩,by simp⟩,by simp[nb],rfl⟩
 | n+1,i,y,L,hc,hr=>by
  simp only[ux]at hr;obtain⟨p,L1,L2,_,h1,hr⟩:=Rd.runs_bind hr;obtain⟨q,L3,L4,_,h2,hr⟩:=Rd.runs_bind hr;obtain⟨rfl,_⟩:=hr;have hci:=hc i (Nat.le_refl _) (by omega)
  obtain⟨k1,k2⟩:=Cs.into_own hm hci h1;obtain⟨⟨F,k3,k4⟩,k5,k6⟩:=Ai hm (n:=n) (i:=i+1) (λj h1 h2=>hc j (by omega) (by omega)) h2;refine⟨⟨(p.2.map (·.1)).flatMap (ol g)++F,?_,λb=>?_⟩,k2.append k5,by simp[k6]⟩
  · rw[B9];exact⟨_,_,_,_,rfl,k1.rep.length,rfl,k1.rep,k3⟩
  · have:=k4 b;simp only[pE,map_append,List.flatMap_append];omega
theorem x7 (hm:oA en g w) {e:Cs} {parts:List (Nat×AV)} {us:List Value}:∀{n i:Nat} {y:List e.den×List (mF×Entry)} {L:List mF},(∀j,i<=j->j<i+n->mQ (mJ (dom en) g w) (w4 e parts j) (rL us e.len j)) ->
 (ux e false parts n i).Runs (mG en) y L->(∃F,mS e.len (Cs.Rep w e) y.1 ((us.drop (i*e.len)).take (n*e.len)) F/\∀b∈F,g.I b\/qA en g b (y.2.map (·.1)))/\nb en false true y.2/\y.1.length=n
 | 0,i,y,L,_,hr=>by
  obtain⟨rfl,_⟩:=hr;exact⟨⟨[],⟨by simp,rfl⟩,by simp⟩,by simp[nb],rfl⟩
 | n+1,i,y,L,hc,hr=>by
  simp only[ux]at hr;obtain⟨p,L1,L2,_,h1,hr⟩:=Rd.runs_bind hr;obtain⟨q,L3,L4,_,h2,hr⟩:=Rd.runs_bind hr;obtain⟨rfl,_⟩:=hr;have hci:=hc i (Nat.le_refl _) (by omega)
  obtain⟨⟨F0,k1,k0⟩,k2⟩:=Cs.into_shared hm hci h1;obtain⟨⟨F,k3,k4⟩,k5,k6⟩:=x7 hm (n:=n) (i:=i+1) (λj h1 h2=>hc j (by omega) (by omega)) h2;refine⟨⟨F0++F,?_,λb hb=>?_⟩,k2.append k5,by simp[k6]⟩
  · rw[B9];exact⟨_,_,_,_,rfl,k1.length,rfl,k1,k3⟩
  · rcases mem_append.1 hb with hb|hb
    · exact (k0 b hb).imp id λh=>h.mono (by simp +contextual)
    · exact (k4 b hb).imp id λh=>h.mono (by simp +contextual)
structure Hl (w0:World) (T N:Nat->Prop) (en:List (mF×Entry)) (g:Gh) (w:World) (m:Bool) (used:List (mF×Entry)) (F:List Nat):Prop where
 ok:nb en m true used
 imm:∀b∈F,g.I b\/qA en g b (used.map (·.1))
 once:m=true->so F/\∀b∈F,b∈(used.map (·.1)).flatMap (ol g)
theorem MS.fedRoot (h:MS w0 T N en g w) {n:mF} {e:Cs} {m:Bool} {xs:List e.den} {b off cap:Nat} {us vs:List Value} {F:List Nat} {used:List (mF×Entry)} (hfed:Hl w0 T N en g w m used F) (hd:mP used=true)
 (hn:mG en n=none) {c:Array Value} {t:TypeId} (hc:us=c.toList) (hcap:xs.length<=cap) (hsize:off+cap*e.len<=us.length) (hrow:(us.drop off).take vs.length=vs) (hL:mS e.len (Cs.Rep w e) xs vs F) :
 ∃g',MS w0 T N ((n,.root e m xs)::(used++en)) g' (w.alloc (.cells c t))/\Le (dom en) g w (dom ((n,.root e m xs)::(used++en))) g' (w.alloc (.cells c t))/\g'.loc n=.slice (some ⟨w.heap.size,off,none⟩) xs.length cap:=by
 obtain⟨g1,hM,hle,f1,f2,f3,f4,fI⟩:=h.useAll hfed.ok.shallow hd;have hnu:n∉used.map (·.1):=λhm=>by
  obtain⟨p,hp,rfl⟩:=mem_map.1 hm;exact yV hfed.ok hp hn
 obtain⟨hM2,hle2⟩:=hM.alloc (.cells c t);have hI:∀b∈F,g1.I b:=λb hb=>(fI b).2 (hfed.imm b hb)
 obtain⟨hM3,hle3⟩:=hM2.root (n:=n) (e:=e) (m:=m) (xs:=xs) (b:=w.heap.size) (off:=off) (cap:=cap) (us:=us) (vs:=vs) (F:=F) ((ne hnu).trans hn) hM.free hcap (by rw[hc];exact uA w c t) hsize hrow
  (hL.imp λx v Gs _ hGs hr=>Cs.Rep.of_same (λc hc=>hle2.mem c (hI c (hGs c hc))) hr) hI (λhm=>by
   obtain⟨j1,j2⟩:=hfed.once hm;refine⟨nR.1 j1,λb hb=>?_⟩;have hok:=hfed.ok
   rw[hm]at hok;obtain⟨j4,j5⟩:=tE h hok (j2 b hb);refine⟨λk f hk hfd=>?_,j5⟩;rw[f4];by_cases hin:k∈used.map (·.1)
   · rw[(rC hfed.ok hd hin hk).1]at hfd;cases hfd
   · rw[ne hin]at hk;exact j4 k f hk hfd hin)
 exact⟨_,hM3,(hle.trans hle2).trans hle3,by simp[Gh.set]⟩
theorem Dh (hm:oA en g w) {used:List (mF×Entry)} {F:List Nat} (hok:nb en true true used) (hd:mP used=true) (hc:∀b,F.count b<=((used.map (·.1)).flatMap (ol g)).count b) :
 Hl w0 T N en g w true used F :=
 ⟨hok,λb hb=>CB hm hok (oY hb hc),λ_=>⟨rB (sq hm hok hd).1 hc,λb hb=>oY hb hc⟩⟩
theorem AF (h:nk w0 T N S g w a) (hT:oG P G.ti) {t:TypeId} {n:Nat} {parts:Array (Nat×Operand)} (ho:o.op=.buildSlice t n parts) {e:nu} {L:List mF} (hr:(pc G uid S.eval (.buildSlice t n parts)).Runs (mG S.en) e L)
 : nd P w0 T N S g w a o e:=by
 replace hr:=np hr;obtain⟨i,hi,hr⟩:=hr;replace hr:=qL hr;obtain⟨f,ha,hc,hr⟩:=hr;replace hr:=np hr;obtain⟨j,hj,hr⟩:=hr;obtain⟨hu,j',d,u,z,hj',hjc,hf⟩:=qx hT hi ha hc;rw[hj]at hj';cases hj';subst hjc;unfold rP at hr;generalize hpl:(parts.toList.map λp=>(p.1,S.eval p.2))=pl at hr;cases hk:(Nat.ble (n*j.cs.len) 16777216&&rn n 0 pl&&pl.all λp=>Nat.beq p.2.cells.length j.cs.len&&oq p.2.cells)with
 | false=>rw[hk]at hr;exact hr.elim
 | true =>
  rw[hk]at hr;simp only[aT]at hk;obtain⟨⟨hk1,hk2⟩,hk3⟩:=hk;obtain⟨y,L1,L2,_,h1,hr⟩:=Rd.runs_bind hr;obtain⟨_,L3,L4,_,hd,hr⟩:=Rd.runs_bind hr;have hd:=(Rd.runs_need hd).1
  obtain⟨rfl,_,hn⟩:=p8 hr;have hn:=hn _ (mem_singleton.2 rfl)
  have hzl:z.cells.size=j.cs.len:=(hf.zrep w).length;have hpos:0<z.cells.size:=by rw[hzl];exact j.cs.len_pos
  have hsz:d.size=z.cells.size:=by rw[hf.size,hzl]
  obtain⟨cells,k1,k2,k3⟩:=Ah h (sz:=j.cs.len) (n:=n) j.cs.len_pos parts.toList 0 (λ_=>j.cs.zeroCells) (madeCells z.cells (n*z.cells.size)) (by rw[hpl];exact hk2) (by rw[hpl];exact hk3) (by rw[size_madeCells,hzl]) (λq hq=>by
   have hz:rL (madeCells z.cells (n*z.cells.size)).toList j.cs.len q=z.cells.toList:=by
    rw[x6 hpos];have hrep:∀(n q:Nat),q<n->rL (List.replicate n z.cells.toList).flatten j.cs.len q=z.cells.toList:=by
     intro n
     induction n with
     | zero=>intro q hq;omega
     | succ n ih =>
      intro q hq;have hlen:z.cells.toList.length=j.cs.len:=by simpa using hzl
      unfold rL at ih ⊢;rw[List.replicate_succ,List.flatten_cons];cases q with
      | zero=>rw[Nat.zero_mul,drop_zero,←hlen,List.take_left]
      | succ q =>
       rw[Nat.succ_mul,drop_append,drop_of_length_le (by omega),nil_append,show q*j.cs.len+j.cs.len-z.cells.toList.length=q*j.cs.len by omega];exact ih q (by omega)
    exact hrep n q hq
   rw[hz];exact rR hf.zok)
  rw[hpl]at k3;have hrows:∀q,0<=q->q<0+n->mQ (mJ (dom S.en) g w) (w4 j.cs pl q) (rL cells.toList j.cs.len q):=λq _ hq=>k3 q (by omega)
  have htake:(cells.toList.drop (0*j.cs.len)).take (n*j.cs.len)=cells.toList:=by
   rw[Nat.zero_mul,drop_zero,←k2];exact take_length
  have key:∃F,mS j.cs.len (Cs.Rep w j.cs) y.1 cells.toList F/\Hl w0 T N S.en g w (w5 pl) y.2 F/\y.1.length=n:=by
   cases hm:w5 pl with
   | true =>
    rw[hm]at h1;obtain⟨⟨F,j1,j2⟩,j3,j4⟩:=Ai h.mem hrows h1;rw[htake]at j1;exact⟨F,j1,Dh h.mem j3 hd j2,j4⟩
   | false =>
    rw[hm]at h1;obtain⟨⟨F,j1,j2⟩,j3,j4⟩:=x7 h.mem hrows h1;rw[htake]at j1;exact⟨F,j1,⟨j3,j2,λh=>by cases h⟩,j4⟩
  obtain⟨F,j1,j2,j3⟩:=key;obtain⟨g',hM,hle,hloc⟩:=h.ms.fedRoot (n:=uid) (b:=0) (off:=0) (cap:=n) (c:=cells) (t:=i.elem) j2 hd hn rfl (by omega) (by simp[k2]) (by rw[drop_zero];exact take_length) j1;refine⟨_,_,_,.inl ?_,hM,hle,⟨nJ.2 (.inl rfl),rfl⟩⟩;rw[hloc,j3];have hsmall:¬n*d.size>2^24:=by have:=qD hk1;rw[hsz,hzl];omega
  have hfill:Instr.fill (λi=>some (i*d.size,d.size)) ((Array.range (n*d.size)).map (z.cells[· % z.cells.size]!)) (parts.map λp=>(p.1,a.eval p.2)).toList=some cells:=by
   rw[Array.toList_map,hsz];rw[←hzl]at k1;exact k1
  simp only[execOp,ho,Sem.run_bind];by_cases h0:n*d.size=0
  · have hn0:n=0:=by
     rcases Nat.mul_eq_zero.1 h0 with h|h
     · exact h
     · rw[hsz]at h;omega
    subst hn0;have hp0:parts = #[]:=by
     cases hpp:parts.toList with
     | nil=>exact Array.toList_eq_nil_iff.1 hpp
     | cons p ps =>
      rw[hpp]at hpl;subst hpl;simp[rn]at hk2
    subst hp0;have hc0:cells = #[]:=by
     apply Array.eq_empty_of_size_eq_zero;simpa using k2
    subst hc0;simp[Instr.buildSlice,run_underlying hu,sizeOf,typeInfo,hf.info,Instr.fill,newRow,Result.andThen];exact congrArg (λc=>w.alloc (.cells c i.elem)) (show (Array.range 0).map (λ_=>(default:Value)) = #[]from by apply Array.ext';simp)
  · rw[run_buildSlice w t i.elem n _ cells d z hu hf.info hf.zero hsmall h0 hfill];rfl
end Go.V
namespace Go.V
variable {P:Program} {w0:World} {T N:Nat->Prop} {S:St} {g:Gh} {w w':World} {a:Act} {o:Oper} {G:o9} {uid:mF} {en en':List (mF×Entry)}

theorem mS.split {α:Type} {n:Nat} {R:α->List Value->List Nat->Prop}:∀(k:Nat) {xs:List α} {vs:List Value} {F:List Nat},mS n R xs vs F ->
 ∃F1 F2,F=F1++F2/\mS n R (xs.take k) (vs.take (k*n)) F1/\mS n R (xs.drop k) (vs.drop (k*n)) F2
 | 0,xs,vs,F,h=>⟨[],F,rfl,by simp[mS],by simpa using h⟩
 | k+1,[],vs,F,h=>by
  obtain⟨rfl,rfl⟩:=h;exact⟨[],[],rfl,by simp[mS],by simp[mS]⟩
 | k+1,x::xs,vs,F,h=>by
  obtain⟨v1,v2,F1,F2,rfl,h1,rfl,hr,h⟩:=h;obtain⟨G1,G2,rfl,k1,k2⟩:=h.split k;have e:(k+1)*n=v1.length+k*n:=by rw[h1,Nat.succ_mul,Nat.add_comm]
  refine⟨F1++G1,G2,by simp,?_,?_⟩
  · rw[e,take_append,List.take_of_length_le (l:=v1) (by omega),Nat.add_sub_cancel_left,List.take_succ_cons];exact⟨v1,_,F1,G1,rfl,h1,rfl,hr,k1⟩
  · rw[e,drop_append,drop_of_length_le (l:=v1) (by omega),Nat.add_sub_cancel_left,List.drop_succ_cons];exact k2
theorem CT.Rep.one {c:CT} {x:c.den} {v:Value} {F:List Nat} (h:CT.Rep w c x v F):v.oneCell'=true:=by
 cases c with
 | int=>simp only[CT.Rep]at h;rw[h.1];rfl
 | bool=>simp only[CT.Rep]at h;rw[h.1];rfl
 | str=>simp only[CT.Rep]at h;rw[h.1];rfl
 | err=>simp only[CT.Rep]at h;rcases h with ⟨_,⟨_,rfl⟩|⟨_,_,_,rfl⟩⟩<;>rfl
 | sl e=>obtain⟨_,_,rfl⟩:=pO h;rfl
theorem Cs.Rep.one:∀{e:Cs} {x:e.den} {vs:List Value} {F:List Nat},Cs.Rep w e x vs F->∀u∈vs,u.oneCell'=true
 | .one c,x,vs,F,h,u,hu=>by
  simp only[Cs.Rep]at h;obtain⟨v,rfl,h⟩:=h;rw[mem_singleton.1 hu];exact h.one
 | .cons c r,x,vs,F,h,u,hu=>by
  simp only[Cs.Rep]at h;obtain⟨v,vs',F1,F2,rfl,rfl,h1,h2⟩:=h;rcases mem_cons.1 hu with rfl|hu
  · exact h1.one
  · exact h2.one u hu
theorem sW {e:Cs}:∀{xs:List e.den} {vs:List Value} {F:List Nat},mS e.len (Cs.Rep w e) xs vs F->∀u∈vs,u.oneCell'=true
 | [],vs,F,h,u,hu=>by rw[h.1]at hu;simp at hu
 | x::xs,vs,F,h,u,hu=>by
  obtain⟨v1,v2,F1,F2,rfl,h1,rfl,hr,h⟩:=h;rcases mem_append.1 hu with hu|hu
  · exact hr.one u hu
  · exact sW h u hu
theorem CT.Rep.flat {c:CT} (hs:c.isSl=false) {x:c.den} {v:Value} {F:List Nat} (h:CT.Rep w c x v F):F=[]:=by
 cases c with
 | int=>simp only[CT.Rep]at h;exact h.2
 | bool=>simp only[CT.Rep]at h;exact h.2
 | str=>simp only[CT.Rep]at h;exact h.2
 | err=>simp only[CT.Rep]at h;exact h.1
 | sl e=>simp[CT.isSl]at hs
theorem Cs.Rep.flat:∀{e:Cs} (hs:e.hasSl=false) {x:e.den} {vs:List Value} {F:List Nat},Cs.Rep w e x vs F->F=[]
 | .one c,hs,x,vs,F,h=>by simp only[Cs.Rep]at h;obtain⟨v,rfl,h⟩:=h;exact h.flat hs
 | .cons c r,hs,x,vs,F,h=>by
  simp only[Cs.hasSl,Bool.or_eq_false_iff]at hs;simp only[Cs.Rep]at h;obtain⟨v,vs',F1,F2,rfl,rfl,h1,h2⟩:=h;rw[h1.flat hs.1,h2.flat hs.2];rfl
theorem u5 {e:Cs} (hs:e.hasSl=false):∀{xs:List e.den} {vs:List Value} {F:List Nat},mS e.len (Cs.Rep w e) xs vs F->F=[]
 | [],_,_,h=>h.2
 | x::xs,_,_,h=>by
  obtain⟨v1,v2,F1,F2,rfl,h1,rfl,hr,h⟩:=h;rw[hr.flat hs,u5 hs h];rfl

structure Jd (w:World) (en:List (mF×Entry)) (g:Gh) (e:Cs) (xs:List e.den) (v:Value) (r:mF) (m:Bool) (F:List Nat):Prop where
 ent:∃ys:List e.den,mG en r=some (.root e m ys)
 rep:oD w e xs v (g.top r) F
 v6:∀b,F.count b<=(g.nest r).count b
theorem x8 (hm:oA en g w) {e:Cs} {c:Cell} {v:Value} {y:List e.den×Option Bool×List (mF×Entry)} {L:List mF} (hc:mJ (dom en) g w c v) (hr:(zL e c).Runs (mG en) y L) :
 (v=.slice none 0 0/\y=([],none,[]))\/∃xs r m F,y=(xs,some m,[(r,.gone)])/\Jd w en g e xs v r m F:=by
 cases c<;>try exact hr.elim
 case nil=>obtain⟨rfl,_⟩:=hr;exact .inl ⟨hc,rfl⟩
 case own r =>
  obtain⟨L',rfl,hr⟩:=hr;obtain⟨_,rfl⟩:=hc;cases hn:mG en r with
  | none=>rw[hn]at hr;exact hr.elim
  | some f =>
   rw[hn]at hr;cases f with
   | tree=>exact hr.elim
   | gone=>exact hr.elim
   | box _=>exact hr.elim
   | fwd f ys=>exact hr.elim
   | pop _ _=>exact hr.elim
   | frz _ _=>exact hr.elim
   | root f m ys =>
    simp only at hr;split at hr
    · rename_i h _;subst h;obtain⟨rfl,_⟩:=hr;obtain⟨_,h2,_⟩:=nX hm hn;exact .inr ⟨ys,r,m,_,rfl,⟨ys,hn⟩,h2,λ_=>Nat.le_refl _⟩
    · exact hr.elim
 case win r lo hi =>
  obtain⟨L',rfl,hr⟩:=hr;obtain⟨_,hlh,ad,len,cap,hloc,hhi,hv⟩:=hc;cases hn:mG en r with
  | none=>rw[hn]at hr;exact hr.elim
  | some f =>
   rw[hn]at hr;cases f with
   | tree=>exact hr.elim
   | gone=>exact hr.elim
   | box _=>exact hr.elim
   | fwd f ys=>exact hr.elim
   | pop _ _=>exact hr.elim
   | frz _ _=>exact hr.elim
   | root f m ys =>
    simp only at hr;split at hr
    · rename_i h _;subst h;obtain⟨rfl,_⟩:=hr;obtain⟨he,h2,_⟩:=nX hm hn;rw[hloc]at h2;rw[he]at hv;refine .inr ⟨(ys.take hi).drop lo,r,m,?_⟩;rcases h2 with ⟨h1,rfl,h3,h4⟩|⟨b,off,cap',us,vs,h1,h3,h5,h6,h7,h8,h9⟩
      · cases h1;obtain rfl:hi=0:=by omega
        obtain rfl:lo=0:=by omega
        exact⟨[],rfl,⟨[],hn⟩,.inl ⟨by simpa using hv,by simp,h3,rfl⟩,by simp⟩
      · cases h1;have hlen:((ys.take hi).drop lo).length=hi-lo:=by simp;omega
        obtain⟨F1,F2,e1,k1,k2⟩:=h9.split hi;obtain⟨F3,F4,e3,k3,k4⟩:=k1.split lo;have hvs:=h9.length
        refine⟨F4,rfl,⟨ys,hn⟩,.inr ⟨b,if cap=lo then off else off+lo*f.len,cap-lo,us,(vs.take (hi*f.len)).drop (lo*f.len),?_,h3,?_,h6,?_,?_,k4⟩,λc=>by rw[e1,e3];simp only[pE];omega⟩
        · rw[hlen,hv];split
          · rfl
          · simp only[Option.map_some,oI]
        · omega
        · split
          · rename_i e;subst e;simp;omega
          · have:(cap-lo)*f.len+lo*f.len=cap*f.len:=by rw[←Nat.add_mul];congr 1;omega
            omega
        · have key:=vD us vs off (lo*f.len) (hi*f.len) h8 (Nat.mul_le_mul_right _ hlh) (by rw[hvs];exact Nat.mul_le_mul_right _ hhi);split
          · rename_i e;subst e;obtain rfl:hi=cap:=by omega
            have e0:(vs.take (hi*f.len)).drop (hi*f.len)=[]:=drop_of_length_le (by rw[length_take];omega);rw[e0];simp
          · exact key
    · exact hr.elim

theorem Ba (hT:oG P G.ti) {tx:TypeId} {e':TypeId} (hu:P.underlying tx=some (.slice e')) {e:Cs} {ys:List e.den} {v:Value} {F:List Nat} (h:CT.Rep w (.sl e) ys v F) :
 ∃news F',Src P e.len tx v ys.length news w/\mS e.len (Cs.Rep w e) ys news F'/\∀b∈F',b∈F:=by
 rw[oM]at h;rcases h with ⟨⟨a,rfl⟩,rfl,rfl⟩|⟨b,off,cap,vs,F',rfl,rfl,_,_,hr,hL⟩
 · cases a with
   | none=>exact⟨[],[],Src.ofNil w hu 0,⟨rfl,rfl⟩,by simp⟩
   | some a=>exact⟨[],[],Src.ofSlice w hu a 0 0 [] (by simp) (by simp) (by simp),⟨rfl,rfl⟩,by simp⟩
 · exact⟨vs,F',Src.ofSlice w hu ⟨b,off,none⟩ ys.length cap vs hL.length (λj u hj=>by rw[oI];exact rV hr j u hj) (sW hL),hL,λb hb=>by simp[hb]⟩
theorem Fe (hT:oG P G.ti) {tx:TypeId} {e':TypeId} (hu:P.underlying tx=some (.slice e')) {e:Cs} {ys:List e.den} {v:Value} {F:List Nat} (h:slRep w e.len (Cs.Rep w e) ys v F) :
 ∃news,Src P e.len tx v ys.length news w/\mS e.len (Cs.Rep w e) ys news F.tail:=by
 rcases h with ⟨⟨a,rfl⟩,rfl,rfl⟩|⟨b,off,cap,vs,F',rfl,rfl,_,_,hr,hL⟩
 · cases a with
   | none=>exact⟨[],Src.ofNil w hu 0,⟨rfl,rfl⟩⟩
   | some a=>exact⟨[],Src.ofSlice w hu a 0 0 [] (by simp) (by simp) (by simp),⟨rfl,rfl⟩⟩
 · exact⟨vs,Src.ofSlice w hu ⟨b,off,none⟩ ys.length cap vs hL.length (λj u hj=>by rw[oI];exact rV hr j u hj) (sW hL),hL⟩
theorem Bb (hT:oG P G.ti) {tx:TypeId} {e':TypeId} (hu:P.underlying tx=some (.slice e')) {e:Cs} {ys:List e.den} {v:Value} {tp:Option Nat} {F:List Nat} (h:oD w e ys v tp F) :
 ∃news,Src P e.len tx v ys.length news w/\mS e.len (Cs.Rep w e) ys news F:=by
 rcases h with ⟨rfl,rfl,rfl,rfl⟩|⟨b,off,cap,us,vs,rfl,rfl,_,h4,_,h6,hL⟩
 · exact⟨[],Src.ofNil w hu 0,rfl,rfl⟩
 · exact⟨vs,Src.ofSlice w hu ⟨b,off,none⟩ ys.length cap vs hL.length (λj u hj=>by rw[oI];exact rV (h4.row_at h6) j u hj) (sW hL),hL⟩
theorem E7 (hm:oA en g w) (hT:oG P G.ti) {tx:TypeId} {e':TypeId} (hu:P.underlying tx=some (.slice e')) {e:Cs} {c:Cell} {v:Value} {y:List e.den×Option Bool×List (mF×Entry)} {L:List mF} (hc:mJ (dom en) g w c v) (hr:(AW e c).Runs (mG en) y L) :
 ∃news F,Src P e.len tx v y.1.length news w/\mS e.len (Cs.Rep w e) y.1 news F/\nb en false true y.2.2/\(∀b∈F,g.I b\/qA en g b (y.2.2.map (·.1))) /\
  (y.2.1=some true->nb en true true y.2.2/\∀b,F.count b<=((y.2.2.map (·.1)).flatMap (ol g)).count b)/\(y.2.1=none->F=[]/\y.2.2=[]):=by
 unfold AW at hr;cases hs:e.hasSl with
 | false =>
  rw[hs]at hr;obtain⟨xs,L1,L2,_,h1,h2⟩:=Rd.runs_bind hr;obtain⟨rfl,_⟩:=h2;obtain⟨F,hF,_⟩:=vc hm hc h1;obtain⟨news,F',k1,k2,_⟩:=Ba hT hu hF;obtain rfl:=u5 hs k2;exact⟨news,[],k1,k2,by simp[nb],by simp,(λh=>by cases h),λ_=>⟨rfl,rfl⟩⟩
 | true =>
  rw[hs]at hr;simp only[cT]at hr;cases c<;>try exact hr.elim
  case nil =>
   obtain⟨rfl,_⟩:=hr;obtain rfl:v=.slice none 0 0:=hc;exact⟨[],[],Src.ofNil w hu 0,⟨rfl,rfl⟩,by simp[nb],by simp,(λh=>by cases h),λ_=>⟨rfl,rfl⟩⟩
  case sh f xs =>
   simp only at hr;split at hr
   · rename_i h _;subst h;obtain⟨rfl,_⟩:=hr;obtain⟨F,hF,hI⟩:=hc;obtain⟨news,F',k1,k2,k3⟩:=Ba hT hu hF;exact⟨news,F',k1,k2,by simp[nb],λb hb=>.inl (hI b (k3 b hb)),(λh=>by cases h),(λh=>by cases h)⟩
   · exact hr.elim
  case win r lo hi =>
   obtain⟨L',rfl,hr⟩:=hr;obtain⟨_,h1,a,len,cap,hl,h2,rfl⟩:=hc;cases hn:mG en r with
   | none=>rw[hn]at hr;exact hr.elim
   | some f =>
    rw[hn]at hr;cases f with
    | tree=>exact hr.elim
    | gone=>exact hr.elim
    | box _=>exact hr.elim
    | fwd f ys=>exact hr.elim
    | pop _ _=>exact hr.elim
    | frz _ _=>exact hr.elim
    | root f m ys =>
     simp only at hr;split at hr
     · rename_i h _;subst h;obtain⟨rfl,_⟩:=hr;obtain⟨he,h3,h4,_⟩:=nX hm hn;have h5:=h3.slRep
       rw[hl]at h5;obtain⟨G',hG,_,hs'⟩:=h5.cut2 h1 h2;obtain⟨news,k1,k2⟩:=Fe hT hu hG;refine⟨news,G'.tail,by rw[he];exact k1,k2,by simp[nb],λb hb=>.inl (h4 b ?_),(λh=>by cases h),(λh=>by cases h)⟩;have:=hs' b hb
       cases ht:g.top r with
       | none=>rw[ht]at this;exact List.mem_of_mem_tail (by simpa using this)
       | some t=>rw[ht]at this;simpa using this
     · exact hr.elim
  case own r =>
   obtain⟨L',rfl,hr⟩:=hr;obtain⟨_,rfl⟩:=hc;cases hn:mG en r with
   | none=>rw[hn]at hr;exact hr.elim
   | some f =>
    rw[hn]at hr;cases f with
    | tree=>exact hr.elim
    | gone=>exact hr.elim
    | box _=>exact hr.elim
    | pop _ _=>exact hr.elim
    | frz _ _=>exact hr.elim
    | fwd f ys =>
     simp only at hr;split at hr
     · rename_i h _;subst h;obtain⟨rfl,_⟩:=hr;obtain⟨F,hF,hI⟩:=hm.rep r _ hn;obtain⟨news,F',k1,k2,k3⟩:=Ba hT hu hF;exact⟨news,F',k1,k2,by simp[nb],λb hb=>.inl (hI b (k3 b hb)),(λh=>by cases h),(λh=>by cases h)⟩
     · exact hr.elim
    | root f m ys =>
     simp only at hr;split at hr
     · rename_i h _;subst h;obtain⟨rfl,_⟩:=hr;obtain⟨_,h2,hI,_⟩:=nX hm hn;obtain⟨news,k1,k2⟩:=Bb hT hu h2;refine⟨news,_,k1,k2,?_,λb hb=>.inl (hI b hb),λh=>?_,(λh=>by cases h)⟩
       · intro p hp;obtain rfl:=mem_singleton.1 hp;exact .inl ⟨f,m,ys,hn,(λh=>by cases h),rfl⟩
       · obtain rfl:m=true:=by cases h;rfl
         refine⟨λp hp=>?_,λb=>?_⟩
         · obtain rfl:=mem_singleton.1 hp;exact .inl ⟨f,true,ys,hn,λ_=>rfl,rfl⟩
         · simp only[map_cons,map_nil,List.flatMap_cons,List.flatMap_nil,append_nil,ol,pE];omega
     · exact hr.elim
end Go.V
namespace Go.V
variable {P:Program} {w0:World} {T N:Nat->Prop} {S:St} {g:Gh} {w w':World} {a:Act} {o:Oper} {G:o9} {uid:mF} {en en':List (mF×Entry)}

theorem MS.wrote (h:MS w0 T N en g w) {b:Nat} (hb:zP w0 T en g b) {us:List Value} (hw:Dc w w' b us):MS w0 T N en g w'/\Le (dom en) g w (dom en) g w' :=
 h.world (λc hc=>hw.rest c λe=>hb.imm (e▸hc)) (λm f c hm ha hc=>hw.rest c λe=>hb.top m f hm ha (e▸hc)) hw.os hw.out hw.tape (by rw[hw.size];exact Nat.le_refl _)
  (λc hc hT=>hw.rest c λe=>by subst e;rcases hb.own with k|k;omega;exact hT k)
  (λm f c hm ht hc=>hw.rest c λe=>hb.wood m f hm ht (e▸hc)) (λc hc=>by
   by_cases e:c=b
   · subst e;exact hw.cells.soft
   · exact (h.since.soft c hc).of_same (hw.rest c e))
theorem MS.rootNil (h:MS w0 T N en g w) {n:mF} (hn:mG en n=none) (e:Cs) (m:Bool) :
 MS w0 T N ((n,.root e m [])::en) (g.set n ⟨.slice none 0 0,e.len,none,[]⟩) w/\Le (dom en) g w (dom ((n,.root e m [])::en)) (g.set n ⟨.slice none 0 0,e.len,none,[]⟩) w :=
 h.put (λhd=>absurd hn hd) rfl ⟨by simp[Gh.set],.inl ⟨by simp[Gh.set],rfl,by simp[Gh.set],by simp[Gh.set]⟩,by simp[Gh.set],λ_=>by simp[Gh.set]⟩ (λ_ b hb=>by cases hb) (λ_ b hb=>by simp at hb)
theorem Di {us vs news:List Value} {off:Nat} (h:(us.drop off).take vs.length=vs) (hl:off+vs.length<=us.length):((nL us (off+vs.length) news).drop off).take (vs++news).length=vs++news:=by
 have hA:(us.take off).length=off:=by rw[length_take];omega
 have e:us.take (off+vs.length)=us.take off++vs:=by rw[List.take_add,h]
 unfold nL;rw[e,append_assoc,append_assoc,drop_append,drop_of_length_le (by omega),hA,Nat.sub_self,drop_zero,nil_append,←append_assoc,List.take_left]
theorem xU (z:Array Value) (k:Nat):(Builtin.zeroCells z k).size=k*z.size:=by simp[Builtin.zeroCells]
theorem xW (hM:MS w0 T N en g w) (hT:oG P G.ti) {n:mF} (hn:mG en n=none) {e:Cs} {xs ys:List e.den} {v1 v2:Value} {tp:Option Nat} {Fd Fs:List Nat} (hd:oD w e xs v1 tp Fd) (htp:∀b,tp=some b->zP w0 T en g b)
 {t tx ty el:TypeId} {news:List Value} (hs:Src P e.len tx v2 ys.length news w) (hL:mS e.len (Cs.Rep w e) ys news Fs) (hI:∀b∈Fd++Fs,g.I b) {m:Bool}
 (hm:m=true->(Fd++Fs).Nodup/\∀b∈Fd++Fs,(∀k f,mG en k=some f->f.deep=true->b∉g.nest k)/\(w0.heap.size<=b\/T b\/N b))
 (hu:P.underlying t=some (.slice el)) {j:n7} (hje:j.cs=e) {d:TypeInfo} {u:TypeDesc} {z:Value} (hf:qn P G.ti el j d u z) (hmax:xs.length+ys.length<=va) :
 ∃v w' g',(Builtin.append_ #[t,tx] ty #[v1,v2]).run P w=.ok v w'/\MS w0 T N ((n,.root e m (xs++ys))::en) g' w'/\Le (dom en) g w (dom ((n,.root e m (xs++ys))::en)) g' w'/\v=g'.loc n:=by
 subst hje;have hmax':xs.length+ys.length<=4294967296:=hmax
 have hby:=hf.bytes;have hzl:z.cells.size=j.cs.len:=(hf.zrep w).length
 have hpos:=j.cs.len_pos;rw[←hf.size]at hs;have hnl:=hs.newsLen
 rw[hf.size]at hnl;have grow:∀(base:Option Addr) (cap:Nat) (vs:List Value),v1=.slice base xs.length cap->cap<xs.length+ys.length->vs.length=xs.length*j.cs.len->mS j.cs.len (Cs.Rep w j.cs) xs vs Fd ->
  (Builtin.firstCells d.size xs.length (.slice base xs.length cap)).run P w.drew=.ok vs.toArray w.drew ->
  ∃v w' g',(Builtin.append_ #[t,tx] ty #[v1,v2]).run P w=.ok v w'/\MS w0 T N ((n,.root j.cs m (xs++ys))::en) g' w'/\Le (dom en) g w (dom ((n,.root j.cs m (xs++ys))::en)) g' w'/\v=g'.loc n:=by
  intro base cap vs hv hg hvl hLd hold;have hrun:=run_append_grow_src (P:=P) w t tx ty el d z hu hf.info hf.zero base xs.length cap vs hold v2 ys.length news hs hg (by omega) (growslice_fits hg (by
   have:(xs.length+ys.length)*d.bytes<=4294967296*8192:=Nat.mul_le_mul hmax' hby;omega))
  have hge:=grownCap_ge w (xs.length+ys.length) cap el;generalize hcap:grownCap w (xs.length+ys.length) cap el=K at hrun hge;obtain⟨h1,l1⟩:=hM.drew;obtain⟨h2,l2⟩:=h1.alloc (.cells ((vs++news).toArray++Builtin.zeroCells z.cells (K-(xs.length+ys.length))) el);have hlist:=(hLd.append hL).imp (R':=Cs.Rep (w.drew.alloc (.cells ((vs++news).toArray++Builtin.zeroCells z.cells (K-(xs.length+ys.length))) el)) j.cs) λx v Gs _ hGs hr=>Cs.Rep.of_same (λc hc=>(l1.trans l2).mem c (hI c (hGs c hc))) hr
  obtain⟨h3,l3⟩:=h2.root (n:=n) (e:=j.cs) (m:=m) (xs:=xs++ys) (b:=w.heap.size) (off:=0) (cap:=K) (us:=((vs++news).toArray++Builtin.zeroCells z.cells (K-(xs.length+ys.length))).toList) (vs:=vs++news) (F:=Fd++Fs)
   hn h1.free (by simpa using hge) (uA w.drew _ _) (by
    simp only[Array.toList_append,List.length_append,Array.length_toList,xU,hvl,hnl,hzl];rw[Nat.zero_add,←Nat.add_mul,←Nat.add_mul];exact Nat.mul_le_mul_right _ (by omega)) (by rw[drop_zero,Array.toList_append];exact List.take_left) hlist hI (λhmt=>⟨(hm hmt).1,(hm hmt).2⟩)
  refine⟨_,_,_,by rw[hv];exact hrun,h3,(l1.trans l2).trans l3,?_⟩;simp[Gh.set]
 rcases hd with ⟨rfl,rfl,rfl,rfl⟩|⟨b,off,cap,us,vs,rfl,rfl,h3,h4,h5,h6,h7⟩
 · by_cases h0:ys.length=0
   · obtain rfl:=List.length_eq_zero_iff.1 h0;obtain⟨rfl,rfl⟩:=hL;obtain⟨h3,l3⟩:=hM.rootNil hn j.cs m;refine⟨.slice none 0 0,w,_,?_,h3,l3,by simp[Gh.set]⟩;have hlen:=hs.len
     have hcells:=hs.cells;simp only[List.length_nil]at hlen hcells;rcases hs.kind with ⟨e',hk⟩|hk<;>simp[Builtin.append_,run_underlying hu,run_underlying hk,sizeOf,typeInfo,hf.info,hlen,hcells]
   · exact grow none 0 [] rfl (by simp;omega) (by simp) ⟨rfl,rfl⟩ (run_firstCells_none w.drew _ _ _ _)
 · have hvl:=h7.length;by_cases hroom:xs.length+ys.length<=cap
   · have hbig:(xs.length+ys.length)*j.cs.len<=cap*j.cs.len:=Nat.mul_le_mul_right _ hroom;rw[Nat.add_mul]at hbig;obtain⟨c,t',lo,hi,hc,rfl,hfz⟩:=h4;have hin:∀q,q<news.length->off+xs.length*d.size+q<c.size:=λq hq=>by
      rw[hf.size];simp at h5;omega
     have hrun:=run_append_room_src (P:=P) w t tx ty el d hu hf.info b off xs.length cap v2 ys.length news hs hroom (λq hq=>by
      simp only[World.cell?,hc];simpa using hin q hq) (λq hq=>by
      simp only[World.frozen?,hc];have:=hfz.2 _ (hin q hq)
      simp only[Bool.and_eq_false_iff,decide_eq_false_iff_not];omega)
     have hw:=qC news (off+xs.length*d.size) w c.toList ⟨c,t',lo,hi,hc,rfl,hfz⟩ (by rw[hf.size];omega);obtain⟨h1,l1⟩:=hM.wrote (htp b rfl) hw;have hlist:=(h7.append hL).imp (R':=Cs.Rep (w.setCells b (off+xs.length*d.size) news) j.cs) λx v Gs _ hGs hr=>Cs.Rep.of_same (λc hc=>l1.mem c (hI c (hGs c hc))) hr
     have hrow:=Di (news:=news) h6 (by omega);rw[hvl,←hf.size]at hrow;obtain⟨h2,l2⟩:=h1.root (n:=n) (e:=j.cs) (m:=m) (xs:=xs++ys) (b:=b) (off:=off) (cap:=cap) (vs:=vs++news) (F:=Fd++Fs) hn (htp b rfl) (by simpa using hroom) hw.cells (by
      have:=qE (us:=c.toList) (vs:=news) (o:=off+xs.length*d.size) (by rw[hf.size];omega);unfold nL at this;rw[this];exact h5) hrow hlist hI (λhmt=>⟨(hm hmt).1,(hm hmt).2⟩)
     refine⟨_,_,_,hrun,h2,l1.trans l2,by simp[Gh.set]⟩
   · exact grow _ cap vs rfl (by omega) hvl h7 (run_firstCells_some w.drew d.size xs.length ⟨b,off,none⟩ xs.length cap vs (by rw[hvl,hf.size]) (λq v hq=>by
      rw[oI];have:=rV (h4.row_at h6) q v hq
      simpa using this))
theorem MS.goneFree (h:MS w0 T N en g w) {r:mF} {E:Entry} (hn:mG en r=some E) (hE:E.alive=true) :
 MS w0 T N ((r,.gone)::en) g w/\Le (dom en) g w (dom ((r,.gone)::en)) g w/\∀b,g.top r=some b->zP w0 T ((r,.gone)::en) g b:=by
 obtain⟨h1,l1⟩:=h.gone (n:=r) (by unfold dom;rw[hn];simp);refine⟨h1,l1,λb hb=>⟨h.mem.topI r E b hn hE hb,λm f hm ha hmb=>?_,h.since.tops r E b hn hE hb,λm f hm ht hmb=>by
  rw[mR]at hm;split at hm
  · cases hm;cases ht
  · exact (h.mem.wood m f b hm ht hmb).2.1 r E hn hE hb⟩⟩
 rw[mR]at hm;split at hm
 · cases hm;cases ha
 · rename_i hne;exact hne (h.mem.apart r m E f b hn hm hE ha hb hmb)
theorem Bc {α:Type} {xs ys zs:List α} (h:app xs ys=some zs):zs=xs++ys/\xs.length+ys.length<=va:=by
 unfold app at h;split at h
 · cases h;exact⟨rfl,by assumption⟩
 · cases h
theorem Dj {e:Cs} {x y:Cell} {q:mF×Nat×Nat×Nat×Nat} (h:CZ e x y=some q):x=.win q.1 q.2.1 q.2.2.1/\y=.win q.1 q.2.2.2.1 q.2.2.2.2:=by
 unfold CZ at h;split at h
 · rename_i r lo hi s lo2 hi2;cases hk:(Nat.beq r s&&e.hasSl)with
   | false=>rw[hk]at h;cases h
   | true =>
    rw[hk]at h;simp only[aT]at hk;obtain rfl:=Nat.eq_of_beq_eq_true hk.1;cases h;exact⟨rfl,rfl⟩
 · cases h
theorem E8 {f:Cs} {ys:List f.den} {b off cap:Nat} {us vs:List Value} (h5:ys.length<=cap) (h6:nG w b us) (h7:off+cap*f.len<=us.length) (h8:(us.drop off).take vs.length=vs) (hvs:vs.length=ys.length*f.len)
 {lo hi:Nat} (hlh:lo<=hi) (hhi:hi<=ys.length) {F4:List Nat} (k4:mS f.len (Cs.Rep w f) ((ys.take hi).drop lo) ((vs.take (hi*f.len)).drop (lo*f.len)) F4) {v:Value}
 (hv:v=.slice (if cap=lo then some ⟨b,off,none⟩else (some ⟨b,off,none⟩:Option Addr).map (·.add (lo*f.len))) (hi-lo) (cap-lo)):oD w f ((ys.take hi).drop lo) v (some b) F4:=by
 have hlen:((ys.take hi).drop lo).length=hi-lo:=by simp;omega
 refine .inr ⟨b,if cap=lo then off else off+lo*f.len,cap-lo,us,(vs.take (hi*f.len)).drop (lo*f.len),?_,rfl,?_,h6,?_,?_,k4⟩
 · rw[hlen,hv];split
   · rfl
   · simp only[Option.map_some,oI]
 · omega
 · split
   · rename_i e;subst e;simp;omega
   · have:(cap-lo)*f.len+lo*f.len=cap*f.len:=by rw[←Nat.add_mul];congr 1;omega
     omega
 · have key:=vD us vs off (lo*f.len) (hi*f.len) h8 (Nat.mul_le_mul_right _ hlh) (by rw[hvs];exact Nat.mul_le_mul_right _ hhi);split
   · rename_i e;subst e;obtain rfl:hi=cap:=by omega
     have e0:(vs.take (hi*f.len)).drop (hi*f.len)=[]:=drop_of_length_le (by rw[length_take];omega);rw[e0];simp
   · exact key
theorem Gw (hm:oA en g w) {r:mF} {f:Cs} {m:Bool} {ys:List f.den} (hn:mG en r=some (.root f m ys)) {lo hi lo2 hi2:Nat} {v1 v2:Value}
 (hc1:mJ (dom en) g w (.win r lo hi) v1) (hc2:mJ (dom en) g w (.win r lo2 hi2) v2) (hle:hi<=lo2) :
 ∃Fd Fs,oD w f ((ys.take hi).drop lo) v1 (g.top r) Fd/\oD w f ((ys.take hi2).drop lo2) v2 (g.top r) Fs/\∀b,(Fd++Fs).count b<=(g.nest r).count b:=by
 obtain⟨_,l1,a,len,cap,hloc,l2,hv1⟩:=hc1;obtain⟨_,l3,a',len',cap',hloc',l4,hv2⟩:=hc2;rw[hloc]at hloc';cases hloc';obtain⟨he,h2,_⟩:=nX hm hn;rw[hloc]at h2;rw[he]at hv1 hv2;rcases h2 with ⟨h1,rfl,h3,h4⟩|⟨b,off,cap',us,vs,h1,h3,h5,h6,h7,h8,h9⟩
 · cases h1;obtain rfl:hi2=0:=by omega
   obtain rfl:lo2=0:=by omega
   obtain rfl:hi=0:=by omega
   obtain rfl:lo=0:=by omega
   exact⟨[],[],.inl ⟨by simpa using hv1,by simp,h3,rfl⟩,.inl ⟨by simpa using hv2,by simp,h3,rfl⟩,by simp⟩
 · cases h1;have hvs:=h9.length
   obtain⟨F1,F2,e1,k1,k2⟩:=h9.split hi2;obtain⟨F3,F4,e3,k3,k4⟩:=k1.split lo2;obtain⟨F5,F6,e5,k5,k6⟩:=k3.split hi;obtain⟨F7,F8,e7,k7,k8⟩:=k5.split lo;rw[take_take,take_take,take_take,take_take,show min (min hi lo2) hi2=hi by omega,show min (min (hi*f.len) (lo2*f.len)) (hi2*f.len)=hi*f.len by
    have:=Nat.mul_le_mul_right f.len hle;have:=Nat.mul_le_mul_right f.len l3
    omega]at k8
   refine⟨F8,F4,?_,?_,λc=>by rw[e1,e3,e5,e7];simp only[pE];omega⟩
   · rw[h3];exact E8 h5 h6 h7 h8 hvs l1 (by omega) k8 hv1
   · rw[h3];exact E8 h5 h6 h7 h8 hvs l3 l4 k4 hv2
theorem E9 (h:nk w0 T N S g w a) (hT:oG P G.ti) {t t':TypeId} {x y:Operand} (ho:o.op=.call { callee:=.builtin .append,args:=#[x,y],argTypes:=#[t,t'] }) {e:nu} {L:List mF}
 (hr:(pc G uid S.eval (.call { callee:=.builtin .append,args:=#[x,y],argTypes:=#[t,t'] })).Runs (mG S.en) e L):nd P w0 T N S g w a o e:=by
 replace hr:=np hr;obtain⟨i,hi,hr⟩:=hr;replace hr:=qL hr;obtain⟨f,ha,hc,hr⟩:=hr;replace hr:=np hr;obtain⟨i',hi',hr⟩:=hr;replace hr:=qL hr;obtain⟨f',ha',hc',hr⟩:=hr;replace hr:=np hr;obtain⟨j,hj,hr⟩:=hr;obtain⟨hu,j',d,u,z,hj',hjc,hf⟩:=qx hT hi ha hc;rw[hj]at hj';cases hj';obtain⟨hu',_⟩:=qx hT hi' ha' hc';have hx:=nx h x
 have hy:=nx h y;unfold uw at hr;split at hr
 · rename_i cx cy e1 e2;rw[e1]at hx;rw[e2]at hy;split at hr
   · rename_i q hq;obtain⟨rfl,rfl⟩:=Dj hq;unfold zM at hr;obtain⟨L',_,hr⟩:=hr;cases hrn:mG S.en q.1 with
     | none=>rw[hrn]at hr;exact hr.elim
     | some E =>
      rw[hrn]at hr;cases E<;>try exact hr.elim
      rename_i f m xs;simp only at hr;split at hr
      · rename_i hf0 _;subst hf0;obtain⟨zs,hz,hr⟩:=hr;unfold DW at hz;split at hz
        · rename_i hle2;obtain⟨rfl,hmax⟩:=Bc hz;obtain⟨rfl,_,hn⟩:=p8 hr;have hn:=hn _ (mem_singleton.2 rfl)
          obtain⟨Fd,Fs,k1,k2,k3⟩:=Gw h.mem hrn (u0 hx) (u0 hy) hle2;obtain⟨news,hs,hL⟩:=Bb hT hu' k2;obtain⟨_,_,hnI,hnd⟩:=nX h.mem hrn;obtain⟨hM1,hle1,hfree⟩:=h.ms.goneFree hrn rfl;have hur:uid≠q.1:=λe=>by rw[e,hrn]at hn;cases hn
          have hI:∀b∈Fd++Fs,g.I b:=λb hb=>hnI b (oY hb k3);obtain⟨v,w',g',hrun,hM2,hle2,hv⟩:=xW (ty:=o.type) (m:=m) (n:=uid) hM1 hT ((ni (Ne.symm hur) _ _).trans hn) k1 hfree hs hL hI (λhmt=>by
           subst hmt;refine⟨nR.1 (rB (nR.2 (hnd rfl)) k3),λb hb=>?_⟩;have hcn:=oY hb k3
           refine⟨λk f' hk hfd=>?_,h.since.nests q.1 _ b hrn rfl hcn⟩;rw[mR]at hk;split at hk
           · cases hk;cases hfd
           · rename_i hne;exact h.mem.nests q.1 k _ _ hrn hk rfl hfd hne b hcn) hu rfl hf hmax
          refine⟨v,w',g',.inl ?_,hM2,hle1.trans hle2,⟨nJ.2 (.inl rfl),hv⟩⟩;simp only[execOp,ho,resolve,invoke,builtin,Sem.run_bind,Sem.run_pure,Result.andThen,List.map_toArray,map_cons,map_nil,hrun]
        · cases hz
      · exact hr.elim
   obtain⟨A,L1,L2,_,hA,hr⟩:=Rd.runs_bind hr;obtain⟨B,L3,L4,_,hB,hr⟩:=Rd.runs_bind hr;obtain⟨_,L5,L6,_,hd,hr⟩:=Rd.runs_bind hr;have hd:=(Rd.runs_need hd).1
   cases hm:yM A.2.1 B.2.1 with
   | none=>rw[hm]at hr;exact hr.elim
   | some m =>
    rw[hm]at hr;obtain⟨zs,hz,hr⟩:=hr;obtain⟨rfl,hmax⟩:=Bc hz;obtain⟨rfl,_,hn⟩:=p8 hr;have hn:=hn _ (mem_singleton.2 rfl)
    obtain⟨news,Fs,hs,hL,hok,hsI,hsT,hsN⟩:=E7 h.mem hT hu' (u0 hy) hB;obtain⟨hdA,BR,hdAB⟩:=nH hd;obtain⟨g1,hM,hle,f1,f2,f3,f4,fI⟩:=h.ms.useAll hok BR;have hnB:uid∉B.2.2.map (·.1):=λhmm=>by
     obtain⟨p,hp,rfl⟩:=mem_map.1 hmm;exact yV hok hp hn
    have hIs:∀b∈Fs,g1.I b:=λb hb=>(fI b).2 (hsI b hb);have fin:∀(en1:List (mF×Entry)) (v1 v2:Value) (tp:Option Nat) (Fd:List Nat),a.eval x=v1->a.eval y=v2->MS w0 T N en1 g1 w->Le (dom S.en) g w (dom en1) g1 w->mG en1 uid=none->oD w j.cs A.1 v1 tp Fd->(∀b,tp=some b->zP w0 T en1 g1 b) ->
     Src P j.cs.len t' v2 B.1.length news w->(∀b∈Fd++Fs,g1.I b)->(m=true->(Fd++Fs).Nodup/\∀b∈Fd++Fs,(∀k f,mG en1 k=some f->f.deep=true->b∉g1.nest k)/\(w0.heap.size<=b\/T b\/N b)) ->
     A.2.2++B.2.2++S.en=en1->nd P w0 T N S g w a o ⟨.cell (.own uid),[(uid,.root j.cs m (A.1++B.1))]++(A.2.2++B.2.2)⟩:=by
     intro en1 v1 v2 tp Fd hv1 hv2 hM1 hle1 hn1 hrt htp hs hI hmm hen;obtain⟨v,w',g',hrun,hM2,hle2,hv⟩:=xW (ty:=o.type) hM1 hT hn1 hrt htp hs hL hI hmm hu rfl hf hmax;refine⟨v,w',g',.inl ?_,?_,?_,?_⟩
     · simp only[execOp,ho,resolve,invoke,builtin,Sem.run_bind,Sem.run_pure,Result.andThen,List.map_toArray,map_cons,map_nil,hv1,hv2,hrun]
     · rw[←hen]at hM2;simpa using hM2
     · rw[←hen]at hle2 hle1;simpa using hle1.trans hle2
     · rw[←hen]at hM2;exact⟨nJ.2 (.inl rfl),hv⟩
    rcases x8 h.mem (u0 hx) hA with ⟨hv1,rfl⟩|⟨xs,r,mA,Fd,rfl,hD⟩
    · refine fin (B.2.2++S.en) _ _ none [] hv1 rfl hM hle ((ne hnB).trans hn) (.inl ⟨rfl,rfl,rfl,rfl⟩) (λb hb=>by cases hb) hs (by simpa using hIs) (λhmt=>?_) (by simp);subst hmt;simp only[nil_append];have key:nb S.en true true B.2.2/\∀b,Fs.count b<=((B.2.2.map (·.1)).flatMap (ol g)).count b:=by
       cases hmB:B.2.1 with
       | none =>
        obtain⟨e0,e3⟩:=hsN hmB;rw[e0,e3];exact⟨by simp[nb],by simp⟩
       | some mB =>
        rw[hmB]at hm;obtain rfl:mB=true:=by simpa[yM]using hm
        exact hsT hmB
      obtain⟨hok',hcnt⟩:=key;refine⟨nR.1 (rB (sq h.mem hok' BR).1 hcnt),λb hb=>?_⟩;obtain⟨j4,j5⟩:=tE h.ms hok' (oY hb hcnt);refine⟨λk f' hk hfd=>?_,j5⟩;rw[f4];by_cases hin:k∈B.2.2.map (·.1)
      · rw[(rC hok BR hin hk).1]at hfd;cases hfd
      · rw[ne hin]at hk;exact j4 k f' hk hfd hin
    · obtain⟨⟨ys0,hrn⟩,hrt,hcd⟩:=hD;have hrB:r∉B.2.2.map (·.1):=hdAB r (by simp)
      have hrn1:mG (B.2.2++S.en) r=some (.root j.cs mA ys0):=(ne hrB).trans hrn;obtain⟨hM1,hle1,hfree⟩:=hM.goneFree hrn1 rfl;have hur:uid≠r:=λe=>by rw[e,hrn]at hn;cases hn
      obtain⟨_,_,hnI,hnd⟩:=nX h.mem hrn;refine fin ((r,.gone)::(B.2.2++S.en)) _ _ (g.top r) Fd rfl rfl hM1 (hle.trans hle1) ((ni (Ne.symm hur) _ _).trans ((ne hnB).trans hn)) hrt (λb hb=>hfree b (by rw[f3];exact hb)) hs (λb hb=>?_) (λhmt=>?_) (by simp)
      · rcases mem_append.1 hb with hb|hb
        · exact (fI b).2 (.inl (hnI b (oY hb hcd)))
        · exact hIs b hb
      · subst hmt;have key:mA=true/\nb S.en true true B.2.2/\∀b,Fs.count b<=((B.2.2.map (·.1)).flatMap (ol g)).count b:=by
         cases hmB:B.2.1 with
         | none =>
          obtain⟨e0,e3⟩:=hsN hmB;rw[hmB]at hm;rw[e0,e3];exact⟨by simpa[yM]using hm,by simp[nb],by simp⟩
         | some mB =>
          rw[hmB]at hm;have:mA=true/\mB=true:=by cases mA<;>cases mB<;>simp[yM]at hm ⊢
          obtain⟨rfl,rfl⟩:=this;exact⟨rfl,hsT hmB⟩
        obtain⟨rfl,hok',hcnt⟩:=key;obtain⟨j1,j2⟩:=sq h.mem hok' BR;have hcnt2:∀b,(Fd++Fs).count b<=(g.nest r++(B.2.2.map (·.1)).flatMap (ol g)).count b:=λb=>by
         have:=hcd b;have:=hcnt b;simp only[pE];omega
        have honce:so (g.nest r++(B.2.2.map (·.1)).flatMap (ol g)):=by
         rw[nR,nodup_append];refine⟨hnd rfl,nR.1 j1,λc hc d hd' hcd=>?_⟩;subst hcd;exact j2 r _ hrn rfl hrB c hd' (by unfold ol;exact mem_append_right _ hc)
        refine⟨nR.1 (rB honce hcnt2),λb hb=>?_⟩;rw[f4];rcases mem_append.1 (oY hb hcnt2)with hcn|hcf
        · refine⟨λk f' hk hfd=>?_,h.since.nests r _ b hrn rfl hcn⟩;rw[mR]at hk;split at hk
          · cases hk;cases hfd
          · rename_i hne;by_cases hin:k∈B.2.2.map (·.1)
            · rw[(rC hok BR hin hk).1]at hfd;cases hfd
            · rw[ne hin]at hk;exact h.mem.nests r k _ _ hrn hk rfl hfd hne b hcn
        · obtain⟨j4,j5⟩:=tE h.ms hok' hcf;refine⟨λk f' hk hfd=>?_,j5⟩;rw[mR]at hk;split at hk
          · cases hk;cases hfd
          · by_cases hin:k∈B.2.2.map (·.1)
            · rw[(rC hok BR hin hk).1]at hfd;cases hfd
            · rw[ne hin]at hk;exact j4 k f' hk hfd hin
 · exact hr.elim
end Go.V
namespace Go.V
variable {P:Program} {w0:World} {T N:Nat->Prop} {S:St} {g:Gh} {w w':World} {a:Act} {o:Oper} {G:o9} {uid:mF} {en en':List (mF×Entry)}

theorem Ff {d e:TypeId} (hu:P.underlying d=some (.slice e)) (he:P.underlying e=some (.int .u8)) {b off n cap:Nat} {c:Array Value} {t:TypeId} {fz:Nat×Nat} (hc:w.heap[b]?=some (.cells c t fz)) :
 (convert d d (.slice (some ⟨b,off,none⟩) n cap)).run P w=.ok (.slice (some ⟨b,off,none⟩) n cap) (w.freeze ⟨b,c.size,none⟩ 1):=by
 have hsh:w.shape? b=some (t,c.size):=by unfold World.shape?;rw[hc]
 simp[convert,run_underlying hu,run_underlying he,markStringish,hsh]
theorem Ea {b k:Nat} {c:Array Value} {t:TypeId} {lo hi:Nat} (hc:w.heap[b]?=some (.cells c t (lo,hi))) :
 (w.freeze ⟨b,k,none⟩ 1).heap[b]?=some (.cells c t (if lo==hi then (k,k+1)else (min lo k,max hi (k+1)))):=by
 unfold World.freeze;rw[if_neg (by decide)];simp[Array.getElem?_modify,hc]
theorem Bd {b k b':Nat} (h:b'≠b):(w.freeze ⟨b,k,none⟩ 1).heap[b']?=w.heap[b']?:=by
 unfold World.freeze;rw[if_neg (by decide)];simp[Array.getElem?_modify,Ne.symm h]
theorem Cb {b k:Nat}:(w.freeze ⟨b,k,none⟩ 1).heap.size=w.heap.size:=by
 unfold World.freeze;rw[if_neg (by decide)];simp
theorem Dk {n lo hi:Nat} (h:yT n lo hi):∃l k,(if lo==hi then (n,n+1)else (min lo n,max hi (n+1)))=(l,k)/\yT n l k:=by
 obtain⟨h1,h2⟩:=h;by_cases he:lo=hi
 · subst he;refine⟨n,n+1,by simp,by omega,λo ho hk=>by omega⟩
 · have hlo:n<=lo:=by
    rcases Nat.lt_or_ge lo n with hl|hl
    · exact absurd ⟨Nat.le_refl lo,by omega⟩ (h2 lo hl)
    · exact hl
   refine⟨min lo n,max hi (n+1),by simp[he],by omega,λo ho hk=>?_⟩;have:=hk.1
   rw[Nat.min_eq_right hlo]at this;omega
theorem Dl (h:nk w0 T N S g w a) (hT:oG P G.ti) {s d:TypeId} {x:Operand} (ho:o.op=.convert s d x) {e:nu} {L:List mF} (hr:(pc G uid S.eval (.convert s d x)).Runs (mG S.en) e L):nd P w0 T N S g w a o e:=by
 replace hr:=np hr;obtain⟨j,hj,hr⟩:=hr;replace hr:=np hr;obtain⟨i,hi,hr⟩:=hr;cases hown:D1 i (S.eval x)with
 | none=>rw[hown]at hr;exact C9 h hT ho hj hi hr
 | some r =>
  rw[hown]at hr;cases hk:(Nat.beq s d&&ra G i.elem)with
  | false=>rw[hk]at hr;exact hr.elim
  | true =>
  rw[hk]at hr;simp only[aT]at hk;obtain rfl:=Nat.eq_of_beq_eq_true hk.1;have hx:=nx h x
  unfold D1 at hown;split at hown
  · rename_i r' hev;split at hown
    · rename_i ha hc;cases hown;rw[hev]at hx;obtain⟨hdr,hxv⟩:=hx;obtain⟨L',_,hr⟩:=hr;dsimp only at hr;split at hr
      · rename_i f m xs hn;split at hr
        · rename_i hsame x0 l _;obtain⟨hsame⟩:=hsame;subst hsame;obtain⟨rfl,_,hnew⟩:=p8 hr;have hnu:mG S.en uid=none:=hnew _ (mem_singleton.2 rfl)
          obtain⟨hu,_⟩:=qx hT hi ha hc;have he:=sn hT hk.2
          obtain⟨hes,hrt,hnI,hnd⟩:=nX h.mem hn;rcases hrt with ⟨_,h2,_⟩|⟨b,off,cap,us,vs,e1,e2,e3,⟨c,t,lo,hi',hc',rfl,hcl⟩,e5,e6,e7⟩
          · cases h2
          have hF:g.nest r=[]:=u5 (by rfl) e7;obtain⟨hM,hle,hfree⟩:=h.ms.goneFree hn rfl;have hfr:=hfree b e2
          obtain⟨lo2,hi2,hz,hcl2⟩:=Dk hcl;have hat:=Ea (k:=c.size) hc'
          rw[hz]at hat;have hne:∀b',b'≠b->(w.freeze ⟨b,c.size,none⟩ 1).heap[b']?=w.heap[b']?:=λb' hb=>Bd hb
          have hown2:nG (w.freeze ⟨b,c.size,none⟩ 1) b c.toList:=⟨c,t,lo2,hi2,hat,rfl,hcl2⟩;obtain⟨hM2,hle2⟩:=hM.world (w':=w.freeze ⟨b,c.size,none⟩ 1) (λb' hb=>hne b' λe=>hfr.imm (e▸hb)) (λm' f' b' hm ha' ht=>hne b' λe=>hfr.top m' f' hm ha' (e▸ht)) (by unfold World.freeze;rfl) (by unfold World.freeze;rfl) (by unfold World.freeze;rfl) (by rw[Cb];omega)
           (λb' hb hT'=>hne b' λe=>by
            subst e;rcases hfr.own with hk|hk
            · omega
            · exact hT' hk)
           (λm' f' b' hm ht hb=>hne b' λe=>hfr.wood m' f' hm ht (e▸hb))
           (λb' hb=>by
            by_cases he':b'=b
            · subst he';exact hown2.soft
            · exact (h.since.soft b' hb).of_same (hne b' he'))
          have hur:uid≠r:=λe=>by rw[e,hn]at hnu;cases hnu
          rw[hF]at e7;obtain⟨hM3,hle3⟩:=hM2.root (n:=uid) (e:=.one (.int .u8)) (m:=m) (xs:=x0::l) (b:=b) (off:=off) (cap:=cap) (us:=c.toList) (vs:=vs) (F:=[]) ((ni (Ne.symm hur) _ _).trans hnu) hfr
           e3 hown2 e5 e6 (e7.imp λy v G' _ hG hr'=>Cs.Rep.of_same (λq hq=>by have:=hG q hq;simp at this) hr') (by simp) (by simp)
          refine⟨.slice (some ⟨b,off,none⟩) (x0::l).length cap,w.freeze ⟨b,c.size,none⟩ 1,_,.inl ?_,hM3,(hle.trans hle2).trans hle3,⟨nJ.2 (.inl rfl),by simp[Gh.set]⟩⟩;have hxe:a.eval x=.slice (some ⟨b,off,none⟩) (x0::l).length cap:=hxv.trans e1
          simp only[execOp,ho,hxe,Sem.run_bind,Ff hu he hc',Result.andThen,Sem.run_pure]
        · exact hr.elim
      · exact hr.elim
    · cases hown
  · cases hown
end Go.V
namespace Go.V
variable {P:Program} {w0:World} {T N:Nat->Prop} {S:St} {g:Gh} {w w':World} {a:Act} {o:Oper} {G:o9} {uid:mF} {en en':List (mF×Entry)}

def Cs.parts:Cs->List CT | .one c=>[c] | .cons c r=>c::r.parts
def rW:CT->Option Nat | .int k=>some (nK k) | .bool=>some 8 | .str=>some 9|_=>none
def zQ (P:Program) (rc:Nat->Option (List CT)):Nat->List Field->Option (List CT)
 | _,[]=>some []
 | off, f::fs => cond (f.name != "_" && Nat.beq f.offset off)
  (match rc f.type with
  | some l=>cond (match P.info? f.type with|some d=>Nat.beq d.size l.length&&Nat.blt 0 l.length|none=>false) (match zQ P rc (off+l.length) fs with|some m=>some (l++m)|none=>none) none
  | none=>none) none
def vH (P:Program):Nat->Nat->Option (List CT)
 | 0,_=>none
 | n+1,t=>match P.underlying t with
  | some (.int k)=>some [.int k]
  | some .bool=>some [.bool]
  | some .string=>some [.str]
  | some (.struct fs)=>cond (P.stoodInHeld t) none (zQ P (vH P n) 0 fs.toList)
  | _=>none
def s6:List CT->List CT->Bool
 | [],[]=>true
 | c::l,d::m=>(match rW c,rW d with|some i,some j=>Nat.beq i j|_,_=>false)&&s6 l m
 | _,_=>false
def Fg (P:Program) (p:Nat×n7):Bool :=
 !p.2.agg||p.2.cs.hasSl||p.2.cs.parts.any (λc=>match c with | .err=>true|_=>false) ||
  (match vH P 6 p.1 with|some l=>s6 l p.2.cs.parts|none=>false)&&!(P.eqGuardType P.depth p.1)
def Be (P:Program) (ti:List (Nat×n7)):Prop:=∀t i,mG ti t=some i->Fg P (t,i)=true
theorem Be.of_all {P:Program} {ti:List (Nat×n7)} (h:ti.all (Fg P)=true):Be P ti:=λt i hi=>all_eq_true.1 h _ (sM hi)

def pX:List CT->List Cell->List Cell->Option Bool
 | [],[],[]=>some true
 | c::l,x::xs,y::ys=>match oV c x y,pX l xs ys with|some a,some b=>some (a&&b)|_,_=>none
 | _,_,_=>none
theorem Eb:∀{e:Cs} {xs ys:List Cell} {r:Bool},oa e xs ys=some r->pX e.parts xs ys=some r
 | .one c,[x],[y],r,h=>by
  simp only[oa]at h;simp[Cs.parts,pX,h]
 | .cons c e,x::xs,y::ys,r,h=>by
  simp only[oa]at h;cases h1:oV c x y with
  | none=>rw[h1]at h;simp at h
  | some p =>
   cases h2:oa e xs ys with
   | none=>rw[h1,h2]at h;simp at h
   | some q=>rw[h1,h2]at h;simp[Cs.parts,pX,h1,Eb h2];simpa using h
 | .one c,[],_,r,h=>by simp[oa]at h
 | .one c,[_],[],r,h=>by simp[oa]at h
 | .one c,[_],_::_::_,r,h=>by simp[oa]at h
 | .one c,_::_::_,_,r,h=>by simp[oa]at h
 | .cons c e,[],_,r,h=>by simp[oa]at h
 | .cons c e,_::_,[],r,h=>by simp[oa]at h
theorem Fh {c d:CT} {i:Nat} (h:rW c=some i) (k:rW d=some i):c=d:=by
 have ik:∀k,nK k<8:=by intro k;cases k<;>simp[nK]
 cases c<;>cases d<;>simp[rW]at h k
 case int.int j j'=>rw[←k]at h;rw[pV h]
 case int.bool j=>have:=ik j;omega
 case int.str j=>have:=ik j;omega
 case bool.int j=>have:=ik j;omega
 case str.int j=>have:=ik j;omega
 case bool.bool=>rfl
 case str.str=>rfl
 all_goals omega
theorem x9:∀{l m:List CT},s6 l m=true->l=m
 | [],[],_=>rfl
 | c::l,d::m,h=>by
  simp only[s6,aT]at h;obtain⟨h1,h2⟩:=h;cases hc:rW c with
  | none=>rw[hc]at h1;simp at h1
  | some i =>
   cases hd:rW d with
   | none=>rw[hc,hd]at h1;simp at h1
   | some j =>
    rw[hc,hd]at h1;obtain rfl:=Nat.eq_of_beq_eq_true h1;rw[Fh hc hd,x9 h2]
 | [],_::_,h=>by simp[s6]at h
 | _::_,[],h=>by simp[s6]at h
theorem Aj:∀{l m:List CT} {xs ys:List Cell} {r:Bool},pX (l++m) xs ys=some r->∃r1 r2,pX l (xs.take l.length) (ys.take l.length)=some r1/\pX m (xs.drop l.length) (ys.drop l.length)=some r2/\r=(r1&&r2)
 | [],m,xs,ys,r,h=>⟨true,r,by simp[pX],by simpa using h,by simp⟩
 | c::l,m,x::xs,y::ys,r,h=>by
  simp only[List.cons_append,pX]at h;cases h1:oV c x y with
  | none=>rw[h1]at h;simp at h
  | some p =>
   cases h2:pX (l++m) xs ys with
   | none=>rw[h1,h2]at h;simp at h
   | some q =>
    rw[h1,h2]at h;obtain⟨r1,r2,k1,k2,rfl⟩:=Aj h2;refine⟨p&&r1,r2,by simp[pX,h1,k1],by simpa using k2,?_⟩;simp at h;rw[←h,Bool.and_assoc]
 | c::l,m,[],ys,r,h=>by simp[pX]at h
 | c::l,m,_::_,[],r,h=>by simp[pX]at h
theorem z0:∀{l:List CT} {xs ys:List Cell} {r:Bool},pX l xs ys=some r->xs.length=l.length/\ys.length=l.length
 | [],[],[],_,_=>⟨rfl,rfl⟩
 | c::l,x::xs,y::ys,r,h=>by
  simp only[pX]at h;cases h1:oV c x y with
  | none=>rw[h1]at h;simp at h
  | some p =>
   cases h2:pX l xs ys with
   | none=>rw[h1,h2]at h;simp at h
   | some q=>obtain⟨k1,k2⟩:=z0 h2;simp[k1,k2]
 | [],_::_,_,_,h=>by simp[pX]at h
 | [],[],_::_,_,h=>by simp[pX]at h
 | _::_,[],_,_,h=>by simp[pX]at h
 | _::_,_::_,[],_,h=>by simp[pX]at h
def tG (P:Program) (t:Nat) (vs:List Value):Value:=match P.underlying t with|some (.struct _)=>.agg vs.toArray|_=>vs.headD undef
theorem Bf {t:Nat} {l:List CT} {n:Nat} (hl:vH P n t=some l) {d:TypeInfo} (hd:P.info? t=some d) (hs:d.size=l.length) {X:List Value} {off:Nat} (ho:off+l.length<=X.length) :
 (part t X.toArray off).run P w=.ok (tG P t ((X.drop off).take l.length)) w:=by
 cases n with
 | zero=>simp[vH]at hl
 | succ n =>
  simp only[vH]at hl;unfold part tG Go.isAgg;cases hu:P.underlying t with
  | none=>rw[hu]at hl;simp at hl
  | some u =>
   rw[hu]at hl;simp only[Sem.run_bind,run_underlying hu,Result.andThen];have scal : l.length=1->((match X.toArray[off]? with|some v => pure v|none => stuck "part: no such cell" : Sem Value)).run P w=.ok (((X.drop off).take l.length).headD undef) w := by
    intro h1;rw[h1]at ho ⊢;have:off<X.length:=by omega
    simp[List.getElem?_eq_getElem this,List.head?_take,List.head?_drop,List.headD_eq_head?_getD]
   cases u<;>try (simp at hl;done)
   case int k=>simp at hl;subst hl;exact scal rfl
   case bool=>simp at hl;subst hl;exact scal rfl
   case string=>simp at hl;subst hl;exact scal rfl
   case struct fs =>
    simp only[Sem.run_pure,if_true,Sem.run_bind,Result.andThen,sizeOf,typeInfo,hd,run_program];simp[hs,List.extract_eq_take_drop,hd]
theorem Dm {c:CT} {x y:Cell} {vx vy:Value} {D:mF->Prop} {r:Bool} (h:oV c x y=some r) (hx:mJ D g w x vx) (hy:mJ D g w y vy) {n:Nat} {t:Nat} {u:TypeDesc} (hu:P.underlying t=some u)
 (hc:(∃k,c=.int k/\u=.int k)\/(c=.bool/\u=.bool)\/(c=.str/\u=.string)):(Op.equalIn (n+1) t vx vy).run P w=.ok r w:=by
 rcases hc with ⟨k,rfl,rfl⟩|⟨rfl,rfl⟩|⟨rfl,rfl⟩
 · cases x<;>try (simp[oV]at h;done)
   cases y<;>try (simp[oV]at h;done)
   rename_i i p j q;simp only[oV]at h;cases hk:(Nat.beq (nK i) (nK k)&&Nat.beq (nK j) (nK k))with
   | false=>rw[hk]at h;simp at h
   | true =>
    rw[hk]at h;simp only[aT]at hk;obtain rfl:=pV (Nat.eq_of_beq_eq_true hk.1);obtain rfl:=pV (Nat.eq_of_beq_eq_true hk.2);obtain rfl:vx=.int _ p:=hx;obtain rfl:vy=.int _ q:=hy;simp at h;subst h;simp[Op.equalIn,run_underlying hu]
 · cases x<;>try (simp[oV]at h;done)
   cases y<;>try (simp[oV]at h;done)
   rename_i p q;obtain rfl:vx=.bool p:=hx;obtain rfl:vy=.bool q:=hy;simp[oV]at h;subst h;simp[Op.equalIn,run_underlying hu]
 · cases x<;>try (simp[oV]at h;done)
   cases y<;>try (simp[oV]at h;done)
   rename_i p q;obtain rfl:vx=.string ⟨p.toArray⟩:=hx;obtain rfl:vy=.string ⟨q.toArray⟩:=hy;simp[oV]at h;subst h;simp[Op.equalIn,run_underlying hu,beq_toListBytes]
theorem Bg {D:mF->Prop} (n d:Nat) (ih:∀{t:Nat} {l:List CT} {xs ys:List Cell} {vx vy:List Value} {r:Bool},vH P n t=some l->pX l xs ys=some r->mQ (mJ D g w) xs vx->mQ (mJ D g w) ys vy ->
 (Op.equalIn (d+n) t (tG P t vx) (tG P t vy)).run P w=.ok r w):∀(off:Nat) (fs:List Field) {l:List CT} {xs ys:List Cell} {X Y:List Value} {r:Bool},zQ P (vH P n) off fs=some l->pX l xs ys=some r->mQ (mJ D g w) xs (X.drop off)->mQ (mJ D g w) ys (Y.drop off) ->
 (Op.eqFields (d+n) X.toArray Y.toArray fs).run P w=.ok r w
 | off,[],l,xs,ys,X,Y,r,h,he,hx,hy=>by
  simp[zQ]at h;subst h
  match xs,ys,he with
  | [],[],he=>simp[pX]at he;subst he;simp[Op.eqFields]
  | _::_,_,he=>simp[pX]at he
  | [],_::_,he=>simp[pX]at he
 | off,f::fs,l,xs,ys,X,Y,r,h,he,hx,hy=>by
  simp only[zQ]at h;cases h1 : (f.name != "_" && Nat.beq f.offset off)with
  | false=>rw[h1]at h;simp at h
  | true =>
   rw[h1]at h;simp only[aT,cT]at h1 h;obtain⟨hname,hoff⟩:=h1;obtain rfl:=Nat.eq_of_beq_eq_true hoff;cases h2:vH P n f.type with
   | none=>rw[h2]at h;simp at h
   | some l1 =>
    rw[h2]at h;simp only at h;cases hd:P.info? f.type with
    | none=>rw[hd]at h;simp at h
    | some di =>
     rw[hd]at h;simp only at h;cases h3:(Nat.beq di.size l1.length&&Nat.blt 0 l1.length)with
     | false=>rw[h3]at h;simp at h
     | true =>
      rw[h3]at h;simp only[cT,aT]at h h3;cases h4:zQ P (vH P n) (f.offset+l1.length) fs with
      | none=>rw[h4]at h;simp at h
      | some m =>
       rw[h4]at h;simp at h;subst h;obtain⟨r1,r2,k1,k2,rfl⟩:=Aj he;obtain⟨e1,e2⟩:=z0 he;rw[List.length_append]at e1 e2;have lx:=hx.length
       have ly:=hy.length;rw[length_drop]at lx ly;have hsz:=Nat.eq_of_beq_eq_true h3.1
       have hpos:0<l1.length:=qD h3.2;have px:=Bf (w:=w) h2 hd hsz (X:=X) (off:=f.offset) (by omega)
       have py:=Bf (w:=w) h2 hd hsz (X:=Y) (off:=f.offset) (by omega);have q1:=ih h2 k1 (hx.take l1.length) (hy.take l1.length)
       have q2:=Bg n d ih (f.offset+l1.length) fs h4 k2 (by rw[←drop_drop];exact hx.drop l1.length) (by rw[←drop_drop];exact hy.drop l1.length);have hname' : f.name ≠ "_" := by simpa using hname
       simp only[Op.eqFields,if_pos hname',Sem.run_bind,px,py,q1,Result.andThen_ok];cases r1 with
       | false=>simp
       | true=>simpa using q2
theorem CD {D:mF->Prop} (d:Nat):∀(n:Nat) {t:Nat} {l:List CT} {xs ys:List Cell} {vx vy:List Value} {r:Bool},vH P n t=some l->pX l xs ys=some r->mQ (mJ D g w) xs vx->mQ (mJ D g w) ys vy ->
 (Op.equalIn (d+n) t (tG P t vx) (tG P t vy)).run P w=.ok r w
 | 0,t,l,xs,ys,vx,vy,r,h,_,_,_=>by simp[vH]at h
 | n+1,t,l,xs,ys,vx,vy,r,h,he,hx,hy=>by
  simp only[vH]at h;cases hu:P.underlying t with
  | none=>rw[hu]at h;simp at h
  | some u =>
   rw[hu]at h;unfold tG;rw[hu];have scal:∀c,l=[c]->((∃k,c=.int k/\u=.int k)\/(c=.bool/\u=.bool)\/(c=.str/\u=.string))->(Op.equalIn (d+(n+1)) t (vx.headD undef) (vy.headD undef)).run P w=.ok r w:=by
    intro c hl hc;subst hl
    match xs,ys,vx,vy,hx,hy,he with
    | [x],[y],[v],[v'],hx,hy,he =>
     have he:oV c x y=some r:=by
      simp only[pX]at he;cases h1:oV c x y with
      | none=>rw[h1]at he;simp at he
      | some p=>rw[h1]at he;simpa using he
     exact Dm he hx.1 hy.1 hu hc
    | [],_,_,_,_,_,he=>simp[pX]at he
    | _::_,[],_,_,_,_,he=>simp[pX]at he
    | [_],_::_::_,_,_,_,_,he=>simp[pX]at he
    | _::_::_,[_],_,_,_,_,he=>simp[pX]at he
    | _::_::_,_::_::_,_,_,_,_,he=>simp[pX]at he
   cases u<;>try (simp at h;done)
   case int k=>simp at h;exact scal _ h.symm (.inl ⟨k,rfl,rfl⟩)
   case bool=>simp at h;exact scal _ h.symm (.inr (.inl ⟨rfl,rfl⟩))
   case string=>simp at h;exact scal _ h.symm (.inr (.inr ⟨rfl,rfl⟩))
   case struct fs =>
    cases hs:P.stoodInHeld t with
    | true=>rw[hs]at h;simp at h
    | false =>
     rw[hs]at h;have hf:P.fieldsOf t=fs:=by simp[Program.fieldsOf,hu]
     show (Op.equalIn ((d+n)+1) t (.agg vx.toArray) (.agg vy.toArray)).run P w=_;rw[run_equalIn_struct w (d+n) t _ _ (by rw[hf];exact hu) hs,hf];exact Bg n d (λh he hx hy=>CD d n h he hx hy) 0 fs.toList h he (by simpa using hx) (by simpa using hy)
theorem xa:∀{e:Cs} {xs ys:List Cell} {r:Bool},oa e xs ys=some r->e.hasSl=false/\(e.parts.any λc=>match c with | .err=>true|_=>false)=false
 | .one c,[x],[y],r,h=>by
  simp only[oa]at h;cases c<;>simp[oV]at h<;>simp[Cs.hasSl,CT.isSl,Cs.parts]
 | .cons c e,x::xs,y::ys,r,h=>by
  simp only[oa]at h;cases h1:oV c x y with
  | none=>rw[h1]at h;simp at h
  | some p =>
   cases h2:oa e xs ys with
   | none=>rw[h1,h2]at h;simp at h
   | some q =>
    obtain⟨k1,k2⟩:=xa h2;simp only[Cs.hasSl,Cs.parts,List.any_cons,k1,k2];cases c<;>simp[oV]at h1<;>simp[CT.isSl]
 | .one c,[],_,r,h=>by simp[oa]at h
 | .one c,[_],[],r,h=>by simp[oa]at h
 | .one c,[_],_::_::_,r,h=>by simp[oa]at h
 | .one c,_::_::_,_,r,h=>by simp[oa]at h
 | .cons c e,[],_,r,h=>by simp[oa]at h
 | .cons c e,_::_,[],r,h=>by simp[oa]at h
theorem Ak (hT:oG P G.ti) (hE:Be P G.ti) {t:Nat} {i:n7} (hi:mG G.ti t=some i) (ha:i.agg=true) {xs ys:List Cell} {r:Bool} (hr:oa i.cs xs ys=some r) {D:mF->Prop} {vx vy:Array Value}
 (hx:mQ (mJ D g w) xs vx.toList) (hy:mQ (mJ D g w) ys vy.toList):(Op.equal t (.agg vx) (.agg vy)).run P w=.ok r w/\P.eqGuardType P.depth t=false:=by
 obtain⟨f1,f2⟩:=xa hr;have hk:=hE t i hi
 simp only[Fg,ha,f1,f2,Bool.not_true,Bool.false_or]at hk;cases hl:vH P 6 t with
 | none=>rw[hl]at hk;simp at hk
 | some l =>
  rw[hl]at hk;simp only[aT,Bool.not_eq_true']at hk;obtain rfl:=x9 hk.1;have:=CD (w:=w) (D:=D) 9994 6 hl (Eb hr) hx hy
  obtain⟨d,u,z,hf⟩:=hT.facts hi;obtain⟨fs,hu,_⟩:=hf.agg ha;have hv:∀v:Array Value,tG P t v.toList=.agg v:=λv=>by simp[tG,hf.und,hu]
  rw[hv,hv]at this;exact⟨this,hk.2⟩
theorem Hm (h:nk w0 T N S g w a) (hT:oG P G.ti) (hE:Be P G.ti) {op:BinOp} {t ty:TypeId} {x y:Operand} (ho:o.op=.binOp op t x y ty) {i:n7} (hi:mG G.ti t=some i) {xs ys:List Cell} (hx:S.eval x=.agg xs) (hy:S.eval y=.agg ys) {c:Bool} {e:nu} {L:List mF}
 (hr:(pC i op c (.agg xs) (.agg ys)).Runs (mG S.en) e L):nd P w0 T N S g w a o e:=by
 have kx:=nx h x;have ky:=nx h y
 rw[hx]at kx;rw[hy]at ky;obtain⟨vx,ex,kx⟩:=kx;obtain⟨vy,ey,ky⟩:=ky;cases ha:i.agg with
 | false=>cases op<;>first|exact hr.elim | (simp only[pC,ha]at hr;exact hr.elim)
 | true =>
  cases op<;>try exact hr.elim
  case eql =>
   simp only[pC,ha,cT]at hr;cases hq:oa i.cs xs ys with
   | none=>rw[hq]at hr;exact hr.elim
   | some r =>
    rw[hq]at hr;obtain⟨k1,k2⟩:=Ak hT hE hi ha hq kx ky;refine oR h hr ?_;simp[execOp,ho,ex,ey,eqGuard,k2,binOp,k1]
  case neq =>
   simp only[pC,ha,cT]at hr;cases hq:oa i.cs xs ys with
   | none=>rw[hq]at hr;exact hr.elim
   | some r =>
    rw[hq]at hr;obtain⟨k1,k2⟩:=Ak hT hE hi ha hq kx ky;refine oR h hr ?_;simp[execOp,ho,ex,ey,eqGuard,k2,binOp,k1]
end Go.V
namespace Go.V
variable {G:o9} {uid rid:Nat} {ops:List Oper}

theorem Al {parts:Array (Nat×Operand)} {ρ ρ':Operand->AV} (h:∀x∈(parts.toList.map (·.2)).toArray,ρ x=ρ' x):(parts.toList.map λp=>(p.1,ρ p.2))=(parts.toList.map λp=>(p.1,ρ' p.2)) :=
 List.map_congr_left λp hp=>by rw[h p.2 (by simp only[List.mem_toArray,mem_map];exact⟨p,hp,rfl⟩)]
theorem Ec {ρ ρ':Operand->AV} {op:Op} (h:∀x∈op.operands,ρ x=ρ' x):pc G uid ρ op=pc G uid ρ' op:=by
 cases op
 case build t ps=>simp only[pc];rw[Al h]
 case buildSlice t n ps=>simp only[pc];rw[Al h]
 case makeFunc f first caps =>
  simp only[Op.operands,Array.mem_append]at h;have hc:caps.toList.map ρ=caps.toList.map ρ':=List.map_congr_left λx hx=>h x (.inr (by simpa using hx))
  cases f<;>try rfl
  rcases first with ⟨_|⟨_,_⟩⟩
  · simp only[pc,hc]
  · rfl
 case slice t x lo hi mx =>
  cases mx with
  | some _=>rfl
  | none =>
   have h1:ρ x=ρ' x:=h x (by simp[Op.operands]);have h2:lo.map ρ=lo.map ρ':=by
    cases lo with
    | none=>rfl
    | some y=>simp only[Option.map_some];rw[h y (by simp[Op.operands])]
   have h3:hi.map ρ=hi.map ρ':=by
    cases hi with
    | none=>rfl
    | some y=>simp only[Option.map_some];rw[h y (by simp[Op.operands])]
   simp only[pc,h1,h2,h3]
 case call c =>
  have ha:∀x∈c.args.toList,ρ x=ρ' x:=λx hx=>h x (by simp only[Op.operands,Call.operands,Array.mem_append];exact .inr (by simpa using hx));have hm:c.args.toList.map ρ=c.args.toList.map ρ':=List.map_congr_left ha
  have hf:∀f,c.callee=.value f->ρ f=ρ' f:=λf hc=>h f (by simp[Op.operands,Call.operands,hc]);unfold pc;split<;>first
   | rfl
   | (rename_i heq;cases heq;done)
   | (rename_i heq;cases heq;simp only[mem_cons,List.not_mem_nil,or_false,forall_eq_or_imp,forall_eq]at ha;simp only[ha])
   | (rename_i heq;cases heq;rw[hf _ rfl,hm])
 case unOp op t x =>
  have:=h x (by simp[Op.operands]);cases op<;>simp only[pc,this]
 case makeSlice t n c =>
  have h1:=h n (by simp[Op.operands]);cases n<;>cases c<;>simp only[pc,h1]
 all_goals first
  | rfl
  | (simp[Op.operands]at h;simp only[pc,h])
theorem xX {ρ ρ':Operand->AV} {op:Op} (h:∀x∈op.operands,ρ x=ρ' x):sU G uid ρ op=sU G uid ρ' op:=by
 cases op
 case pick c a b =>
  simp[Op.operands]at h;simp only[sU,h]
 all_goals exact Ec (G:=G) (uid:=uid) h

abbrev rI:=Option (nu×List mF)
def St.act (S:St) (o:Oper):rI->St
 | some (e,_)=>S.put o.dst e
 | none=>S.put o.dst ⟨.cell .void,[]⟩
def nl:rI->List mF|some (e,_)=>e.ents.map (·.1)|none=>[]
def pf:rI->List mF|some (_,L)=>L|none=>[]
def z4 (ops:List Oper) (S:St) (o:Oper):Prop:=∀j want,o.guard=some (j,want)->∃t,qd ops j=some t/\S.tmp t=.cell (.bool want)
def ym (ops:List Oper) (S:St) (o:Oper):Prop:=∃j want t,o.guard=some (j,want)/\qd ops j=some t/\(S.tmp t=.cell (.bool (!want))\/S.tmp t=.cell .void)
def rf (G:o9) (rid:Nat) (ops:List Oper) (S:St) (i:Nat) (o:Oper):rI->Prop
 | some (e,L)=>z4 ops S o/\(sU G (AO rid i) S.eval o.op).Runs (mG S.en) e L
 | none=>ym ops S o
structure pg (S S':St):Prop where
 tm:∀t,S.tmp t=S'.tmp t
 en:∀n,mG S.en n=mG S'.en n
abbrev Ev:=Nat×Oper×rI
def Tr (G:o9) (rid:Nat) (ops:List Oper):List Ev->St->St->Prop
 | [],S,S'=>pg S S'
 | (i,o,r)::l,S,S'=>rf G rid ops S i o r/\Tr G rid ops l (S.act o r) S'
variable {S S' S1 S2:St}
theorem pg.refl (S:St):pg S S:=⟨λ_=>rfl,λ_=>rfl⟩
theorem pg.symm (h:pg S S'):pg S' S:=⟨λt=>(h.tm t).symm,λn=>(h.en n).symm⟩
theorem pg.trans (h:pg S S1) (k:pg S1 S2):pg S S2:=⟨λt=>(h.tm t).trans (k.tm t),λn=>(h.en n).trans (k.en n)⟩
theorem St.tmp_put (S:St) (dst:Option Tmp) (e:nu) (t:Tmp):(S.put dst e).tmp t=if dst=some t then e.val else S.tmp t:=by
 unfold St.put St.tmp;cases dst with
 | none=>simp
 | some d =>
  simp only[mR,Option.some.injEq];by_cases h:d=t<;>simp[h]
theorem St.en_put (S:St) (dst:Option Tmp) (e:nu):(S.put dst e).en=e.ents++S.en:=rfl
theorem pg.put (h:pg S S') (dst:Option Tmp) (e:nu):pg (S.put dst e) (S'.put dst e) :=
 ⟨λt=>by rw[St.tmp_put,St.tmp_put,h.tm],λn=>by rw[St.en_put,St.en_put,nq,nq,h.en]⟩
theorem pg.act (h:pg S S') (o:Oper) (r:rI):pg (S.act o r) (S'.act o r):=by
 cases r with
 | none=>exact h.put _ _
 | some r=>exact h.put _ _
theorem pg.eval (h:pg S S'):S.eval=S'.eval:=by
 funext x
 cases x with
 | tmp t=>exact h.tm t
 | _=>rfl
theorem rf.same (h:pg S S') {i:Nat} {o:Oper} {r:rI} (k:rf G rid ops S i o r):rf G rid ops S' i o r:=by
 cases r with
 | none =>
  obtain⟨j,want,t,h1,h2,h3⟩:=k;exact⟨j,want,t,h1,h2,by rw[←h.tm];exact h3⟩
 | some r =>
  obtain⟨k1,k2⟩:=k;refine⟨λj want hg=>?_,?_⟩
  · obtain⟨t,h1,h2⟩:=k1 j want hg;exact⟨t,h1,by rw[←h.tm];exact h2⟩
  · rw[←h.eval];exact Rd.runs_local (λn _=>(h.en n).symm) k2
theorem Tr.same:∀{l:List Ev} {S S':St},pg S S'->Tr G rid ops l S S1->Tr G rid ops l S' S1
 | [],S,S',h,k=>h.symm.trans k
 | (i,o,r)::l,S,S',h,⟨k1,k2⟩=>⟨k1.same h,Tr.same (h.act o r) k2⟩
def uB (ops:List Oper) (o:Oper) (t:Tmp):Prop:=.tmp t∈o.op.operands\/∃j want,o.guard=some (j,want)/\qd ops j=some t
structure uC (ops:List Oper) (x y:Oper) (rx ry:rI):Prop where
 xy:∀d,x.dst=some d->¬uB ops y d
 yx:∀d,y.dst=some d->¬uB ops x d
 dd:∀d,x.dst=some d->y.dst≠some d
 wr:∀n∈nl rx,n∉pf ry
 rw:∀n∈nl ry,n∉pf rx
 ww:∀n∈nl rx,n∉nl ry
theorem uC.symm {x y:Oper} {rx ry:rI} (h:uC ops x y rx ry):uC ops y x ry rx :=
 ⟨h.yx,h.xy,λd hd he=>h.dd d he hd,h.rw,h.wr,λn hn he=>h.ww n he hn⟩
theorem St.tmp_act (S:St) (o:Oper) (r:rI) (t:Tmp) (h:o.dst≠some t):(S.act o r).tmp t=S.tmp t:=by
 cases r with
 | none=>simp only[St.act,St.tmp_put,if_neg h]
 | some r=>simp only[St.act,St.tmp_put,if_neg h]
theorem St.en_act (S:St) (o:Oper) (r:rI) (n:mF) (h:n∉nl r):mG (S.act o r).en n=mG S.en n:=by
 cases r with
 | none=>rfl
 | some r =>
  simp only[St.act,St.en_put];exact ne h
theorem rf.move {i:Nat} {o p:Oper} {r q:rI} (hl:∀d,p.dst=some d->¬uB ops o d) (hr:∀n∈nl q,n∉pf r):rf G rid ops (S.act p q) i o r↔rf G rid ops S i o r:=by
 have htm:∀t,uB ops o t->(S.act p q).tmp t=S.tmp t:=λt ht=>St.tmp_act S p q t λhd=>hl t hd ht;have hev:∀x∈o.op.operands,(S.act p q).eval x=S.eval x:=λx hx=>by
  cases x with
  | tmp t=>exact htm t (.inl hx)
  | _=>rfl
 cases r with
 | none =>
  constructor
  · rintro⟨j,want,t,h1,h2,h3⟩;exact⟨j,want,t,h1,h2,by rw[←htm t (.inr ⟨j,want,h1,h2⟩)];exact h3⟩
  · rintro⟨j,want,t,h1,h2,h3⟩;exact⟨j,want,t,h1,h2,by rw[htm t (.inr ⟨j,want,h1,h2⟩)];exact h3⟩
 | some r =>
  have hw:z4 ops (S.act p q) o↔z4 ops S o:=by
   constructor
   · intro k j want hg;obtain⟨t,h1,h2⟩:=k j want hg;exact⟨t,h1,by rw[←htm t (.inr ⟨j,want,hg,h1⟩)];exact h2⟩
   · intro k j want hg;obtain⟨t,h1,h2⟩:=k j want hg;exact⟨t,h1,by rw[htm t (.inr ⟨j,want,hg,h1⟩)];exact h2⟩
  have hn:∀n∈r.2,mG (S.act p q).en n=mG S.en n:=λn hn=>St.en_act S p q n λhq=>hr n hq hn;simp only[rf,hw,xX hev];exact⟨λ⟨k1,k2⟩=>⟨k1,Rd.runs_local (λn h=>(hn n h).symm) k2⟩,λ⟨k1,k2⟩=>⟨k1,Rd.runs_local hn k2⟩⟩
theorem Fi (S:St) {x y:Oper} {rx ry:rI} (h:uC ops x y rx ry):pg ((S.act x rx).act y ry) ((S.act y ry).act x rx):=by
 constructor
 · intro t;by_cases hx:x.dst=some t
   · rw[St.tmp_act _ y ry t (h.dd t hx)];have key:∀S':St,(S'.act x rx).tmp t=match rx with|some (e,_)=>e.val|none=>.cell .void:=λS'=>by
      cases rx with
      | none=>simp only[St.act,St.tmp_put,hx,if_true]
      | some r=>simp only[St.act,St.tmp_put,hx,if_true]
     rw[key,key]
   · rw[St.tmp_act (S.act y ry) x rx t hx];by_cases hy:y.dst=some t
     · have key:∀S':St,(S'.act y ry).tmp t=match ry with|some (e,_)=>e.val|none=>.cell .void:=λS'=>by
        cases ry with
        | none=>simp only[St.act,St.tmp_put,hy,if_true]
        | some r=>simp only[St.act,St.tmp_put,hy,if_true]
       rw[key,key]
     · rw[St.tmp_act _ y ry t hy,St.tmp_act _ x rx t hx,St.tmp_act _ y ry t hy]
 · intro n;by_cases hx:n∈nl rx
   · rw[St.en_act _ y ry n (h.ww n hx)];cases rx with
     | none=>simp[nl]at hx
     | some r=>simp only[St.act,St.en_put];rw[pw hx,pw hx]
   · rw[St.en_act (S.act y ry) x rx n hx];by_cases hy:n∈nl ry
     · cases ry with
       | none=>simp[nl]at hy
       | some r=>simp only[St.act,St.en_put];rw[pw hy,pw hy]
     · rw[St.en_act _ y ry n hy,St.en_act _ x rx n hx,St.en_act _ y ry n hy]
theorem Tr.swap {i j:Nat} {x y:Oper} {rx ry:rI} {l:List Ev} (h:uC ops x y rx ry) (k:Tr G rid ops ((i,x,rx)::(j,y,ry)::l) S S'):Tr G rid ops ((j,y,ry)::(i,x,rx)::l) S S':=by
 obtain⟨k1,k2,k3⟩:=k;exact⟨(rf.move h.xy h.wr).1 k2,(rf.move h.yx h.rw).2 k1,Tr.same (Fi S h) k3⟩
theorem Tr.bubble {j:Nat} {y:Oper} {ry:rI} {l:List Ev}:∀{A:List Ev} {S:St},(∀p∈A,uC ops p.2.1 y p.2.2 ry)->Tr G rid ops (A++(j,y,ry)::l) S S'->Tr G rid ops ((j,y,ry)::(A++l)) S S'
 | [],S,_,k=>k
 | (i,x,rx)::A,S,h,⟨k1,k2⟩=>by
  have k2:=Tr.bubble (A:=A) (λp hp=>h p (mem_cons_of_mem _ hp)) k2;exact Tr.swap (h (i,x,rx) mem_cons_self) ⟨k1,k2⟩
end Go.V
namespace Go.V
variable {G:o9} {uid rid:Nat} {en:List (mF×Entry)} {e:nu} {L:List mF} {ρ:Operand->AV}

def Cell.refs:Cell->List mF | .own r=>[r] | .win r _ _=>[r] | .elem r _ _=>[r] | .box n _=>[n] | .fn _ caps=>caps | .sub r _ _=>[r] | .kid r _ _ _=>[r]|_=>[]
def oN (D:mF->Prop) (c:Cell):Prop:=∀n∈c.refs,D n
def pK (D:mF->Prop):AV->Prop | .cell c=>oN D c | .agg cs=>∀c∈cs,oN D c | .tup _=>False
def p4 (D:mF->Prop):AV->Prop | .tup vs=>∀v∈vs,pK D v|x=>pK D x
theorem oN.mono {D D':mF->Prop} (h:∀n,D n->D' n) {c:Cell} (k:oN D c):oN D' c:=λn hn=>h n (k n hn)
theorem pK.mono {D D':mF->Prop} (h:∀n,D n->D' n) {x:AV} (k:pK D x):pK D' x:=by
 cases x with
 | cell c=>exact oN.mono h k
 | agg cs=>exact λc hc=>oN.mono h (k c hc)
 | tup _=>exact k.elim
theorem p4.mono {D D':mF->Prop} (h:∀n,D n->D' n) {x:AV} (k:p4 D x):p4 D' x:=by
 cases x with
 | tup vs=>exact λv hv=>pK.mono h (k v hv)
 | cell c=>exact pK.mono (x:=.cell c) h k
 | agg cs=>exact pK.mono (x:=.agg cs) h k
theorem p4.cells {D:mF->Prop} {x:AV} (k:p4 D x):∀c∈x.cells,oN D c:=by
 cases x with
 | cell c=>intro c' hc;rw[show c'=c by simpa[AV.cells]using hc];exact k
 | agg cs=>exact k
 | tup _=>intro c hc;simp[AV.cells]at hc
def xK (en:List (mF×Entry)):Prop:=∀n cs,mG en n=some (.box cs)->∀c∈cs,oN (dom en) c
structure mW (en:List (mF×Entry)) (e:nu):Prop where
 val:p4 (dom (e.ents++en)) e.val
 box:∀n cs,(n,Entry.box cs)∈e.ents->∀c∈cs,oN (dom (e.ents++en)) c
theorem mW.one {c:Cell} (hr:(one c).Runs (mG en) e L) (h:oN (dom en) c):mW en e:=by
 obtain⟨rfl,_⟩:=hr;exact⟨h,by simp⟩
theorem mW.pure {x:AV} (h:p4 (dom en) x):mW en ⟨x,[]⟩:=⟨h,by simp⟩
theorem u6 {agg:Bool} {cs:List Cell} (hr:(tC agg cs).Runs (mG en) e L) (h:∀c∈cs,oN (dom en) c):mW en e:=by
 unfold tC at hr;split at hr
 · obtain⟨rfl,_⟩:=hr;exact mW.pure h
 · exact mW.one hr (h _ (by simp))
 · exact hr.elim
theorem CT.cell_in {D:mF->Prop} (c:CT) (x:c.den):oN D (c.cell x):=by cases c<;>simp[CT.cell,oN,Cell.refs]
theorem CT.treeCell_in {D:mF->Prop} {r:mF} {i j:Nat} (hr:D r) (c:CT) (x:c.den):oN D (c.treeCell r i j x):=by
 cases c with
 | sl e=>intro n hn;simp[CT.treeCell,Cell.refs]at hn;subst hn;exact hr
 | int k=>exact CT.cell_in (.int k) x
 | bool=>exact CT.cell_in .bool x
 | str=>exact CT.cell_in .str x
 | err=>exact CT.cell_in .err x
theorem Cs.treeCells_in {D:mF->Prop} {r:mF} {i:Nat} (hr:D r):∀(e:Cs) (j:Nat) (x:e.den),∀c∈e.treeCells r i j x,oN D c
 | .one c,j,x,d,hd=>by simp only[Cs.treeCells,mem_singleton]at hd;subst hd;exact CT.treeCell_in hr c x
 | .cons c s,j,x,d,hd=>by
  simp only[Cs.treeCells,mem_cons]at hd;rcases hd with rfl|hd
  · exact CT.treeCell_in hr c x.1
  · exact Cs.treeCells_in hr s (j+1) x.2 d hd
theorem CT.kidCell_in {D:mF->Prop} {r:mF} {j:Nat} (hr:D r) (c:CT) (x:c.den):oN D (c.kidCell r j x):=by
 cases c with
 | sl e=>intro n hn;simp[CT.kidCell,Cell.refs]at hn;subst hn;exact hr
 | int k=>exact CT.cell_in (.int k) x
 | bool=>exact CT.cell_in .bool x
 | str=>exact CT.cell_in .str x
 | err=>exact CT.cell_in .err x
theorem Cs.kidCells_in {D:mF->Prop} {r:mF} (hr:D r):∀(e:Cs) (j:Nat) (x:e.den),∀c∈e.kidCells r j x,oN D c
 | .one c,j,x,d,hd=>by simp only[Cs.kidCells,mem_singleton]at hd;subst hd;exact CT.kidCell_in hr c x
 | .cons c s,j,x,d,hd=>by
  simp only[Cs.kidCells,mem_cons]at hd;rcases hd with rfl|hd
  · exact CT.kidCell_in hr c x.1
  · exact Cs.kidCells_in hr s (j+1) x.2 d hd
theorem Cs.cells_in {D:mF->Prop}:∀(e:Cs) (x:e.den),∀c∈e.cells x,oN D c
 | .one c,x,d,hd=>by simp only[Cs.cells,mem_singleton]at hd;subst hd;exact CT.cell_in c x
 | .cons c r,x,d,hd=>by
  simp only[Cs.cells,mem_cons]at hd;rcases hd with rfl|hd
  · exact CT.cell_in c x.1
  · exact Cs.cells_in r x.2 d hd
theorem Cs.zero_in {D:mF->Prop}:∀(e:Cs),∀c∈e.zeroCells,oN D c
 | .one c,d,hd=>by simp only[Cs.zeroCells,mem_singleton]at hd;subst hd;cases c<;>simp[tS,CT.cell,oN,Cell.refs]
 | .cons c r,d,hd=>by
  simp only[Cs.zeroCells,mem_cons]at hd;rcases hd with rfl|hd
  · cases c<;>simp[tS,CT.cell,oN,Cell.refs]
  · exact Cs.zero_in r d hd
theorem vI {cs:List Cell} {o n:Nat} {c:Cell} (h:c∈sub cs o n):c∈cs:=List.mem_of_mem_drop (List.mem_of_mem_take h)
theorem z5 {cs vs:List Cell} {o:Nat} {c:Cell} (h:c∈setSub cs o vs):c∈cs\/c∈vs:=by
 unfold setSub at h;simp only[mem_append]at h;rcases h with (h|h)|h
 · exact .inl (List.mem_of_mem_take h)
 · exact .inr h
 · exact .inl (List.mem_of_mem_drop h)
theorem Fj {D:mF->Prop} (v:Value):p4 D (vq v):=by
 unfold vq;split<;>simp[p4,pK,oN,Cell.refs,AV.undef]
theorem mX {D:mF->Prop} {c:Cell} (h:c.refs=[]):oN D c:=λn hn=>by rw[h]at hn;simp at hn
theorem tR {v:AV} {news olds:List (mF×Entry)} (hr:(r9 v news olds).Runs (mG en) e L) (hv:p4 (dom (news++olds++en)) v) (hb:∀n cs,(n,Entry.box cs)∈news++olds->∀c∈cs,oN (dom (news++olds++en)) c):mW en e:=by
 obtain⟨rfl,_⟩:=p8 hr;exact⟨hv,hb⟩
theorem u7 {n:mF} {x:Entry} {l:List (mF×Entry)}:dom ((n,x)::l) n:=nJ.2 (.inl rfl)
theorem wN {D:mF->Prop} {fl:List (Nat×Nat)} {sz:Nat->Nat}:∀{parts:List (Nat×AV)} {cs cs':List Cell},qj fl sz cs parts=some cs'->(∀c∈cs,oN D c)->(∀p∈parts,p4 D p.2)->∀c∈cs',oN D c
 | [],cs,cs',h,hc,_=>by simp only[qj,Option.some.injEq]at h;subst h;exact hc
 | (i,v)::r,cs,cs',h,hc,hp=>by
  simp only[qj]at h;split at h
  · rename_i f _;cases hk:(Nat.beq v.cells.length (sz f.1)&&Nat.ble (f.2+v.cells.length) cs.length&&oq v.cells)with
    | false=>rw[hk]at h;cases h
    | true =>
     rw[hk]at h;refine wN h (λc hc'=>?_) (λp hp'=>hp p (mem_cons_of_mem _ hp'));rcases z5 hc' with h1|h1
     · exact hc c h1
     · exact (hp (i,v) mem_cons_self).cells c h1
  · cases h
end Go.V
namespace Go.V
variable {G:o9} {uid rid:Nat} {en:List (mF×Entry)} {e:nu} {L:List mF} {ρ:Operand->AV}

def NB (l:List (mF×Entry)):Prop:=∀n cs,(n,Entry.box cs)∉l
theorem NB.nil:NB []:=λ_ _ h=>by simp at h
theorem NB.append {l m:List (mF×Entry)} (h:NB l) (k:NB m):NB (l++m):=λn cs hm=>(mem_append.1 hm).elim (h n cs) (k n cs)
theorem NB.one {r:mF} {E:Entry} (h:∀cs,E≠.box cs):NB [(r,E)]:=λn cs hm=>by
 simp only[mem_singleton,Prod.mk.injEq]at hm;exact h cs hm.2.symm
variable {F:mF->Option Entry}
theorem Fk {kp:Bool} {c:Cs} {x:Cell} {y:List c.den×List (mF×Entry)} (hr:(AM kp c x).Runs F y L):NB y.2:=by
 unfold AM at hr;split at hr
 · obtain⟨rfl,_⟩:=hr;exact NB.nil
 · obtain⟨L',_,hr⟩:=hr;dsimp only at hr;split at hr
   · split at hr
     · obtain⟨rfl,_⟩:=hr;exact NB.one (by cases kp<;>simp)
     · exact hr.elim
   · cases kp with
     | false=>exact hr.elim
     | true =>
      simp only[cT]at hr;split at hr
      · obtain⟨rfl,_⟩:=hr;exact NB.one (by simp)
      · exact hr.elim
   · exact hr.elim
 · exact hr.elim
theorem Fl {c:Cs} {x:Cell} {y:List c.den×List (mF×Entry)} (hr:(tB c x).Runs F y L):NB y.2:=by
 unfold tB at hr;split at hr
 · obtain⟨L',_,hr⟩:=hr;dsimp only at hr;split at hr
   · split at hr
     · obtain⟨rfl,_⟩:=hr;exact NB.one (by simp)
     · exact hr.elim
   · split at hr
     · obtain⟨rfl,_⟩:=hr;exact NB.nil
     · exact hr.elim
   · split at hr
     · obtain⟨rfl,_⟩:=hr;exact NB.nil
     · exact hr.elim
   · exact hr.elim
 · obtain⟨L',_,hr⟩:=hr;dsimp only at hr;split at hr
   · split at hr
     · obtain⟨rfl,_⟩:=hr;exact NB.one (by simp)
     · exact hr.elim
   · exact hr.elim
 · split at hr
   · obtain⟨rfl,_⟩:=hr;exact NB.nil
   · exact hr.elim
 · split at hr
   · obtain⟨rfl,_⟩:=hr;exact NB.nil
   · exact hr.elim
 · obtain⟨rfl,_⟩:=hr;exact NB.nil
 · exact hr.elim
theorem CE {c:Cs} {x:Cell} {y:List c.den×Option Bool×List (mF×Entry)} (hr:(zL c x).Runs F y L):NB y.2.2:=by
 unfold zL at hr;split at hr
 · obtain⟨rfl,_⟩:=hr;exact NB.nil
 · obtain⟨L',_,hr⟩:=hr;dsimp only at hr;split at hr
   · split at hr
     · obtain⟨rfl,_⟩:=hr;exact NB.one (by simp)
     · exact hr.elim
   · exact hr.elim
 · obtain⟨L',_,hr⟩:=hr;dsimp only at hr;split at hr
   · split at hr
     · obtain⟨rfl,_⟩:=hr;exact NB.one (by simp)
     · exact hr.elim
   · exact hr.elim
 · exact hr.elim
theorem Fm {c:Cs} {x:Cell} {y:List c.den×List (mF×Entry)} (hr:(AN c x).Runs F y L):NB y.2:=by
 unfold AN at hr;obtain⟨a,L1,L2,_,h1,rfl,_⟩:=Rd.runs_bind hr;exact CE h1
theorem CT.into_nb {m kp:Bool} {c:CT} {x:Cell} {y:c.den×List (mF×Entry)} (hr:(c.into m kp x).Runs F y L):NB y.2:=by
 cases c with
 | sl e =>
  cases m with
  | true=>exact Fk hr
  | false=>cases kp with
   | true=>exact Fl hr
   | false=>exact Fm hr
 | int=>simp only[CT.into]at hr;obtain⟨a,L1,L2,_,_,rfl,_⟩:=Rd.runs_bind hr;exact NB.nil
 | bool=>simp only[CT.into]at hr;obtain⟨a,L1,L2,_,_,rfl,_⟩:=Rd.runs_bind hr;exact NB.nil
 | str=>simp only[CT.into]at hr;obtain⟨a,L1,L2,_,_,rfl,_⟩:=Rd.runs_bind hr;exact NB.nil
 | err=>simp only[CT.into]at hr;obtain⟨a,L1,L2,_,_,rfl,_⟩:=Rd.runs_bind hr;exact NB.nil
theorem Cs.into_nb {m kp:Bool}:∀{c:Cs} {x:List Cell} {y:c.den×List (mF×Entry)} {L:List mF},(c.into m kp x).Runs F y L->NB y.2
 | .one c,[],_,_,hr=>hr.elim
 | .one c,[x],y,L,hr=>CT.into_nb hr
 | .one c,_::_::_,_,_,hr=>hr.elim
 | .cons c r,[],_,_,hr=>hr.elim
 | .cons c r,x::xs,y,L,hr=>by
  simp only[Cs.into]at hr;obtain⟨a,L1,L2,_,h1,hr⟩:=Rd.runs_bind hr;obtain⟨b,L3,L4,_,h2,hr⟩:=Rd.runs_bind hr;obtain⟨rfl,_⟩:=hr;exact (CT.into_nb h1).append (Cs.into_nb h2)
theorem Cs.intoO_nb {o:Option Bool} {c:Cs} {x:List Cell} {y:c.den×List (mF×Entry)} {L:List mF} (hr:(c.intoO o x).Runs F y L):NB y.2:=by
 cases o with
 | none=>exact Cs.into_nb hr
 | some m=>exact Cs.into_nb hr
theorem Cs.upd_nb {m:Bool}:∀{c:Cs} {z:c.den} {o:Nat} {x:List Cell} {y:c.den×List (mF×Entry)} {L:List mF},(c.upd m z o x).Runs F y L->NB y.2
 | .one c,z,0,[],y,L,hr=>by obtain⟨rfl,_⟩:=hr;exact NB.nil
 | .one c,z,o+1,[],y,L,hr=>by obtain⟨rfl,_⟩:=hr;exact NB.nil
 | .cons c r,z,0,[],y,L,hr=>by obtain⟨rfl,_⟩:=hr;exact NB.nil
 | .cons c r,z,o+1,[],y,L,hr=>by obtain⟨rfl,_⟩:=hr;exact NB.nil
 | .one c,z,0,[x],y,L,hr=>CT.into_nb hr
 | .one c,z,0,_::_::_,y,L,hr=>hr.elim
 | .one c,z,o+1,_::_,y,L,hr=>hr.elim
 | .cons c r,z,0,x::xs,y,L,hr=>by
  simp only[Cs.upd]at hr;obtain⟨a,L1,L2,_,h1,hr⟩:=Rd.runs_bind hr;obtain⟨b,L3,L4,_,h2,hr⟩:=Rd.runs_bind hr;obtain⟨rfl,_⟩:=hr;exact (CT.into_nb h1).append (Cs.upd_nb h2)
 | .cons c r,z,o+1,x::xs,y,L,hr=>by
  simp only[Cs.upd]at hr;obtain⟨b,L3,L4,_,h2,hr⟩:=Rd.runs_bind hr;obtain⟨rfl,_⟩:=hr;show NB b.2
  exact Cs.upd_nb h2
theorem Gx {c:Cs} {x:Cell} {y:List c.den×Option Bool×List (mF×Entry)} (hr:(AW c x).Runs F y L):NB y.2.2:=by
 unfold AW at hr;cases hs:c.hasSl with
 | false =>
  rw[hs]at hr;obtain⟨xs,L1,L2,_,_,rfl,_⟩:=Rd.runs_bind hr;exact NB.nil
 | true =>
  rw[hs]at hr;simp only[cT]at hr;split at hr
  · obtain⟨L',_,hr⟩:=hr;dsimp only at hr;split at hr
    · split at hr
      · obtain⟨rfl,_⟩:=hr;exact NB.one (by simp)
      · exact hr.elim
    · split at hr
      · obtain⟨rfl,_⟩:=hr;exact NB.nil
      · exact hr.elim
    · exact hr.elim
  · split at hr
    · obtain⟨rfl,_⟩:=hr;exact NB.nil
    · exact hr.elim
  · obtain⟨L',_,hr⟩:=hr;dsimp only at hr;split at hr
    · split at hr
      · obtain⟨rfl,_⟩:=hr;exact NB.nil
      · exact hr.elim
    · exact hr.elim
  · obtain⟨rfl,_⟩:=hr;exact NB.nil
  · exact hr.elim
theorem Bh {c:Cs} {m:Bool} {parts:List (Nat×AV)}:∀{n i:Nat} {y:List c.den×List (mF×Entry)} {L:List mF},(ux c m parts n i).Runs F y L->NB y.2
 | 0,i,y,L,hr=>by obtain⟨rfl,_⟩:=hr;exact NB.nil
 | n+1,i,y,L,hr=>by
  simp only[ux]at hr;obtain⟨a,L1,L2,_,h1,hr⟩:=Rd.runs_bind hr;obtain⟨b,L3,L4,_,h2,hr⟩:=Rd.runs_bind hr;obtain⟨rfl,_⟩:=hr;exact (Cs.into_nb h1).append (Bh h2)

theorem CT.give_in {mm:Bool} {n:mF} (c:CT) (x:c.den):NB (c.give mm n x).2/\oN (dom (c.give mm n x).2) (c.give mm n x).1:=by
 cases c with
 | sl e=>exact⟨NB.one (by simp),λm hm=>by simp[CT.give,Cell.refs]at hm;subst hm;exact u7⟩
 | int=>exact⟨NB.nil,mX rfl⟩
 | bool=>exact⟨NB.nil,mX rfl⟩
 | str=>exact⟨NB.nil,mX rfl⟩
 | err=>exact⟨NB.nil,mX rfl⟩
theorem qp {l m:List (mF×Entry)} {n:mF} (h:dom m n):dom (l++m) n:=pd l m n h
theorem Cs.give_in {mm:Bool}:∀(n:mF) (c:Cs) (x:c.den),NB (c.give mm n x).2/\∀d∈(c.give mm n x).1,oN (dom (c.give mm n x).2) d
 | n,.one c,x=>by
  obtain⟨h1,h2⟩:=CT.give_in (mm:=mm) (n:=n) c x;exact⟨h1,λd hd=>by simp only[Cs.give,mem_singleton]at hd;subst hd;exact h2⟩
 | n,.cons c r,x=>by
  obtain⟨h1,h2⟩:=CT.give_in (mm:=mm) (n:=n) c x.1;obtain⟨h3,h4⟩:=Cs.give_in (n+1) r x.2;refine⟨h1.append h3,λd hd=>?_⟩;simp only[Cs.give,mem_cons]at hd;rcases hd with rfl|hd
  · exact h2.mono λ_ h=>pz h
  · exact (h4 d hd).mono λ_ h=>qp h
theorem sN (own:Option Bool) (n:mF) (c:Cs) (x:c.den):NB (oL own n c x).2/\∀d∈(oL own n c x).1,oN (dom (oL own n c x).2) d:=by
 cases own with
 | some m=>exact Cs.give_in n c x
 | none=>exact⟨NB.nil,Cs.cells_in c x⟩
theorem CT.giveF_in {n:mF} (c:CT) (x:c.den):NB (c.giveF n x).2/\oN (dom (c.giveF n x).2) (c.giveF n x).1:=by
 cases c with
 | sl e=>exact⟨NB.one (by simp),λm hm=>by simp[CT.giveF,Cell.refs]at hm;subst hm;exact u7⟩
 | int=>exact⟨NB.nil,mX rfl⟩
 | bool=>exact⟨NB.nil,mX rfl⟩
 | str=>exact⟨NB.nil,mX rfl⟩
 | err=>exact⟨NB.nil,mX rfl⟩
theorem Cs.giveF_in:∀(n:mF) (c:Cs) (x:c.den),NB (Cs.giveF n c x).2/\∀d∈(Cs.giveF n c x).1,oN (dom (Cs.giveF n c x).2) d
 | n,.one c,x=>by
  obtain⟨h1,h2⟩:=CT.giveF_in (n:=n) c x;exact⟨h1,λd hd=>by simp only[Cs.giveF,mem_singleton]at hd;subst hd;exact h2⟩
 | n,.cons c r,x=>by
  obtain⟨h1,h2⟩:=CT.giveF_in (n:=n) c x.1;obtain⟨h3,h4⟩:=Cs.giveF_in (n+1) r x.2;refine⟨h1.append h3,λd hd=>?_⟩;simp only[Cs.giveF,mem_cons]at hd;rcases hd with rfl|hd
  · exact h2.mono λ_ h=>pz h
  · exact (h4 d hd).mono λ_ h=>qp h
end Go.V
namespace Go.V
variable {G:o9} {uid rid:Nat} {en:List (mF×Entry)} {e:nu} {L:List mF} {ρ:Operand->AV} {F:mF->Option Entry}

theorem vJ {D:mF->Prop} {agg:Bool} {cs:List Cell} (h:∀c∈cs,oN D c):pK D (pb agg cs):=by
 unfold pb;split
 · exact h _ (by simp)
 · exact h
structure CF (bs:List mF) (g:D2):Prop where
 vals:∀v∈g.vals,pK (dom (g.upds++g.news)) v
 news:∀n cs,(n,Entry.box cs)∈g.news->∀c∈cs,oN (dom (g.upds++g.news)) c
 upds:∀n cs,(n,Entry.box cs)∈g.upds->∀c∈cs,oN (dom (g.upds++g.news)) c
theorem qF {l:List (mF×Entry)} {n:mF}:dom l n↔n∈l.map (·.1):=p9.symm
theorem oN.sub {l m:List (mF×Entry)} (h:∀n,n∈l.map (·.1)->n∈m.map (·.1)) {c:Cell} (k:oN (dom l) c):oN (dom m) c:=λn hn=>qF.2 (h n (qF.1 (k n hn)))
theorem pK.sub {l m:List (mF×Entry)} (h:∀n,n∈l.map (·.1)->n∈m.map (·.1)) {c:AV} (k:pK (dom l) c):pK (dom m) c:=k.mono λn hn=>qF.2 (h n (qF.1 hn))
theorem tH {bs:List mF}:∀(n:mF) (rs:List ob) (x:mI (nr rs)),CF bs (mZ n rs x)
 | n,[],x=>⟨by simp[mZ],by simp[mZ],by simp[mZ]⟩
 | n,.val agg c own::rs,x=>by
  obtain⟨h1,h2,h3⟩:=tH (bs:=bs) (n+64) rs (mI.tl c (nr rs) x);obtain⟨k1,k2⟩:=sN own n c (mI.hd c (nr rs) x);refine⟨λv hv=>?_,λm cs hm d hd=>?_,λm cs hm d hd=>?_⟩
  · simp only[mZ,mem_cons]at hv;rcases hv with rfl|hv
    · exact (vJ k2).sub (by simp +contextual [mZ])
    · refine (h1 v hv).sub ?_;intro z hz;simp only[mZ,map_append,mem_append]at hz ⊢;rcases hz with h|h<;>simp[h]
  · simp only[mZ,mem_append]at hm;rcases hm with hm|hm
    · exact absurd hm (k1 m cs)
    · refine (h2 m cs hm d hd).sub ?_;intro z hz;simp only[mZ,map_append,mem_append]at hz ⊢;rcases hz with h|h<;>simp[h]
  · refine (h3 m cs hm d hd).sub ?_;intro z hz;simp only[mZ,map_append,mem_append]at hz ⊢;rcases hz with h|h<;>simp[h]
 | n,.ptr c own::rs,x=>by
  obtain⟨h1,h2,h3⟩:=tH (bs:=bs) (n+64) rs (mI.tl c (nr rs) x);obtain⟨k1,k2⟩:=sN own (n+1) c (mI.hd c (nr rs) x);refine⟨λv hv=>?_,λm cs hm d hd=>?_,λm cs hm d hd=>?_⟩
  · simp only[mZ,mem_cons]at hv;rcases hv with rfl|hv
    · intro z hz;simp only[Cell.refs,mem_singleton]at hz;subst hz;exact qF.2 (by simp[mZ])
    · refine (h1 v hv).sub ?_;intro z hz;simp only[mZ,map_append,map_cons,mem_append,mem_cons]at hz ⊢;rcases hz with h|h<;>simp[h]
  · simp only[mZ,mem_cons,mem_append,Prod.mk.injEq]at hm;rcases hm with ⟨rfl,hb⟩|hm|hm
    · cases hb;refine (k2 d hd).sub ?_;intro z hz;simp only[mZ,map_append,map_cons,mem_append,mem_cons];simp[hz]
    · exact absurd hm (k1 m cs)
    · refine (h2 m cs hm d hd).sub ?_;intro z hz;simp only[mZ,map_append,map_cons,mem_append,mem_cons]at hz ⊢;rcases hz with h|h<;>simp[h]
  · refine (h3 m cs hm d hd).sub ?_;intro z hz;simp only[mZ,map_append,map_cons,mem_append,mem_cons]at hz ⊢;rcases hz with h|h<;>simp[h]
 | n,.cold agg c::rs,x=>by
  obtain⟨h1,h2,h3⟩:=tH (bs:=bs) (n+64) rs (mI.tl c (nr rs) x);obtain⟨k1,k2⟩:=Cs.giveF_in n c (mI.hd c (nr rs) x);refine⟨λv hv=>?_,λm cs hm d hd=>?_,λm cs hm d hd=>?_⟩
  · simp only[mZ,mem_cons]at hv;rcases hv with rfl|hv
    · exact (vJ k2).sub (by simp +contextual [mZ])
    · refine (h1 v hv).sub ?_;intro z hz;simp only[mZ,map_append,mem_append]at hz ⊢;rcases hz with h|h<;>simp[h]
  · simp only[mZ,mem_append]at hm;rcases hm with hm|hm
    · exact absurd hm (k1 m cs)
    · refine (h2 m cs hm d hd).sub ?_;intro z hz;simp only[mZ,map_append,mem_append]at hz ⊢;rcases hz with h|h<;>simp[h]
  · refine (h3 m cs hm d hd).sub ?_;intro z hz;simp only[mZ,map_append,mem_append]at hz ⊢;rcases hz with h|h<;>simp[h]
theorem sr:∀(n:mF) (ps:List nB) (rs:List ob) (bs:List mF) (x:mI (nS ps rs)),CF bs (mN n ps rs bs x)
 | n,[],rs,bs,x=>tH n rs x
 | n,.val _ _ _::ps,rs,bs,x=>sr n ps rs bs x
 | n,.ptr c own::ps,rs,[],x=>⟨by simp[mN],by simp[mN],by simp[mN]⟩
 | n,.ptr c own::ps,rs,b::bs,x=>by
  obtain⟨h1,h2,h3⟩:=sr (n+64) ps rs bs (mI.tl c (nS ps rs) x);obtain⟨k1,k2⟩:=sN own n c (mI.hd c (nS ps rs) x);refine⟨λv hv=>?_,λm cs hm d hd=>?_,λm cs hm d hd=>?_⟩
  · refine (h1 v hv).sub ?_;intro z hz;simp only[mN,map_append,map_cons,mem_append,mem_cons]at hz ⊢;rcases hz with h|h<;>simp[h]
  · simp only[mN,mem_append]at hm;rcases hm with hm|hm
    · exact absurd hm (k1 m cs)
    · refine (h2 m cs hm d hd).sub ?_;intro z hz;simp only[mN,map_append,map_cons,mem_append,mem_cons]at hz ⊢;rcases hz with h|h<;>simp[h]
  · simp only[mN,mem_cons,Prod.mk.injEq]at hm;rcases hm with ⟨rfl,hb⟩|hm
    · cases hb;refine (k2 d hd).sub ?_;intro z hz;simp only[mN,map_append,map_cons,mem_append,mem_cons];simp[hz]
    · refine (h3 m cs hm d hd).sub ?_;intro z hz;simp only[mN,map_append,map_cons,mem_append,mem_cons]at hz ⊢;rcases hz with h|h<;>simp[h]
theorem sX {sl:Bool}:∀{ps:List nB} {vs:List AV} {b:w6 (mY ps)} {L:List mF},(nT sl ps vs).Runs F b L->NB b.used
 | [],[],b,L,hr=>by obtain⟨rfl,_⟩:=hr;exact NB.nil
 | .val _ c false::ps,v::vs,b,L,hr=>by
  simp only[nT]at hr;obtain⟨_,L5,L6,_,_,hr⟩:=Rd.runs_bind hr;obtain⟨a,L1,L2,_,h1,hr⟩:=Rd.runs_bind hr;obtain⟨b',L3,L4,_,h2,hr⟩:=Rd.runs_bind hr;obtain⟨rfl,_⟩:=hr;refine NB.append ?_ (sX h2);cases sl with
  | true=>exact Cs.into_nb h1
  | false =>
   obtain⟨a',_,_,_,_,h1⟩:=Rd.runs_bind h1;obtain⟨rfl,_⟩:=h1;exact NB.nil
 | .val _ c true::ps,v::vs,b,L,hr=>by
  simp only[nT]at hr;obtain⟨_,L5,L6,_,_,hr⟩:=Rd.runs_bind hr;obtain⟨a,L1,L2,_,h1,hr⟩:=Rd.runs_bind hr;obtain⟨b',L3,L4,_,h2,hr⟩:=Rd.runs_bind hr;obtain⟨rfl,_⟩:=hr;exact (Cs.into_nb h1).append (sX h2)
 | .ptr c own::ps,.cell (.box n 0)::vs,b,L,hr=>by
  simp only[nT]at hr;obtain⟨L',_,hr⟩:=hr;dsimp only at hr;split at hr
  · obtain⟨a,L1,L2,_,h1,hr⟩:=Rd.runs_bind hr;obtain⟨b',L3,L4,_,h2,hr⟩:=Rd.runs_bind hr;obtain⟨rfl,_⟩:=hr;exact NB.append (NB.one (by simp)) ((Cs.intoO_nb h1).append (sX h2))
  · exact hr.elim
end Go.V
namespace Go.V
variable {G:o9} {uid rid:Nat} {en:List (mF×Entry)} {e:nu} {L:List mF} {ρ:Operand->AV} {F:mF->Option Entry}

theorem vK {uid:mF} {c:Cs} {m:Bool} {xs:List c.den} {olds:List (mF×Entry)} (hr:(r9 (.cell (.own uid)) [(uid,.root c m xs)] olds).Runs (mG en) e L) (h:NB olds):mW en e :=
 tR hr (λn hn=>by simp only[Cell.refs,mem_singleton]at hn;subst hn;exact u7) (λn cs hm=>by
  simp only[mem_append,mem_singleton,Prod.mk.injEq]at hm;rcases hm with ⟨_,hm⟩|hm
  · cases hm
  · exact absurd hm (h n cs))
theorem Ed {uid:mF} {cs:List Cell} (hr:(r9 (.cell (.box uid 0)) [(uid,.box cs)] []).Runs (mG en) e L) (h:∀c∈cs,oN (dom en) c):mW en e :=
 tR hr (λn hn=>by simp only[Cell.refs,mem_singleton]at hn;subst hn;exact u7) (λn cs' hm c hc=>by
  simp only[append_nil,mem_singleton,Prod.mk.injEq]at hm;obtain⟨rfl,hm⟩:=hm;cases hm;exact (h c hc).mono (pd _ _))
theorem Ee {op:BinOp} {k:IntKind} {a b:Int} (hr:(vr op k a b).Runs (mG en) e L):mW en e:=by
 unfold vr at hr;split at hr<;>first
  | exact mW.one hr (mX rfl)
  | (obtain⟨n,_,hr⟩:=hr;exact mW.one hr (mX rfl))
  | exact hr.elim
theorem Ef {t:n7} {op:BinOp} {yc:Bool} {x y:AV} (hr:(pC t op yc x y).Runs (mG en) e L):mW en e:=by
 unfold pC at hr;split at hr
 case h_1=>obtain⟨n,_,hr⟩:=hr;exact mW.one hr (mX rfl)
 case h_2=>obtain⟨n,_,hr⟩:=hr;exact mW.one hr (mX rfl)
 case h_3 k a j b _ _ =>
  cases hk:Nat.beq (nK j) (nK k)with
  | false=>rw[hk]at hr;exact hr.elim
  | true=>rw[hk]at hr;exact Ee hr
 case h_4=>obtain⟨n,_,hr⟩:=hr;exact mW.one hr (mX rfl)
 case h_5=>exact mW.one hr (mX rfl)
 case h_6=>exact mW.one hr (mX rfl)
 case h_7 =>
  split at hr
  · exact mW.one hr (mX rfl)
  · exact hr.elim
 case h_8 =>
  split at hr
  · exact mW.one hr (mX rfl)
  · exact hr.elim
 case h_9 =>
  split at hr
  · cases yc with
    | true=>exact mW.one hr (mX rfl)
    | false=>exact hr.elim
  · exact hr.elim
 case h_10 =>
  split at hr
  · cases yc with
    | true=>exact mW.one hr (mX rfl)
    | false=>exact hr.elim
  · exact hr.elim
 case h_11 =>
  cases ht:t.agg with
  | false=>rw[ht]at hr;exact hr.elim
  | true =>
   rw[ht]at hr;simp only[cT]at hr;split at hr
   · exact mW.one hr (mX rfl)
   · exact hr.elim
 case h_12 =>
  cases ht:t.agg with
  | false=>rw[ht]at hr;exact hr.elim
  | true =>
   rw[ht]at hr;simp only[cT]at hr;split at hr
   · exact mW.one hr (mX rfl)
   · exact hr.elim
 case h_13=>exact hr.elim
theorem Eg {x:AV} (hr:(wX x).Runs (mG en) e L):mW en e:=by
 unfold wX at hr;split at hr
 · exact mW.one hr (mX rfl)
 · exact mW.one hr (mX rfl)
 · exact mW.one hr (mX rfl)
 · obtain⟨L',_,hr⟩:=hr;dsimp only at hr;split at hr
   · exact mW.one hr (mX rfl)
   · exact mW.one hr (mX rfl)
   · exact mW.one hr (mX rfl)
   · exact mW.one hr (mX rfl)
   · exact mW.one hr (mX rfl)
   · exact hr.elim
 · obtain⟨L',_,hr⟩:=hr;dsimp only at hr;split at hr
   · exact mW.one hr (mX rfl)
   · exact hr.elim
 · exact hr.elim
theorem z6 {c:Cs} {x i:AV} (hx:p4 (dom en) x) (hr:(sd c x i).Runs (mG en) e L):mW en e:=by
 unfold sd at hr;split at hr
 · rename_i f xs _ i;cases hk:nF f c with
   | false=>rw[hk]at hr;exact hr.elim
   | true=>rw[hk]at hr;obtain⟨v,_,hr⟩:=hr;exact mW.one hr (mX rfl)
 · rename_i r _ i;obtain⟨L',_,hr⟩:=hr;dsimp only at hr;split at hr
   · rename_i f _ xs _;cases hk:nF f c with
     | false=>rw[hk]at hr;exact hr.elim
     | true=>rw[hk]at hr;obtain⟨v,_,hr⟩:=hr;exact mW.one hr (λn hn=>hx n hn)
   · rename_i f xs _;cases hk:nF f c with
     | false=>rw[hk]at hr;exact hr.elim
     | true=>rw[hk]at hr;obtain⟨v,_,hr⟩:=hr;exact mW.one hr (λn hn=>hx n hn)
   · rename_i f xs _;cases hk:nF f c with
     | false=>rw[hk]at hr;exact hr.elim
     | true=>rw[hk]at hr;obtain⟨v,_,hr⟩:=hr;exact mW.one hr (λn hn=>hx n hn)
   · rename_i f xs _;cases hk:nF f c with
     | false=>rw[hk]at hr;exact hr.elim
     | true=>rw[hk]at hr;obtain⟨v,_,hr⟩:=hr;exact mW.one hr (λn hn=>hx n hn)
   · rename_i f xs _;cases hk:nF f c with
     | false=>rw[hk]at hr;exact hr.elim
     | true=>rw[hk]at hr;obtain⟨v,_,hr⟩:=hr;exact mW.one hr (mX rfl)
   · exact hr.elim
 · rename_i r lo hi _ i;obtain⟨L',_,hr⟩:=hr;dsimp only at hr;split at hr
   · rename_i f _ xs _;cases hk:nF f c with
     | false=>rw[hk]at hr;exact hr.elim
     | true=>rw[hk]at hr;obtain⟨v,_,hr⟩:=hr;exact mW.one hr (λn hn=>hx n hn)
   · exact hr.elim
 · exact hr.elim
theorem Dn {uid:mF} {t:n7} {x:AV} (hb:xK en) (hr:(xE uid t x).Runs (mG en) e L):mW en e:=by
 unfold xE at hr;split at hr
 · rename_i n off;obtain⟨L',_,hr⟩:=hr;dsimp only at hr;split at hr
   · rename_i cs hn;cases hk:Nat.ble (off+t.cs.len) cs.length with
     | false=>rw[hk]at hr;exact hr.elim
     | true=>rw[hk]at hr;exact u6 hr λc hc=>hb n cs hn c (vI hc)
   · exact hr.elim
 · rename_i f y off;cases hk:Nat.ble (off+t.cs.len) f.len with
   | false=>rw[hk]at hr;exact hr.elim
   | true=>rw[hk]at hr;exact u6 hr λc hc=>Cs.cells_in f y c (vI hc)
 · rename_i r i off;obtain⟨L',_,hr⟩:=hr;dsimp only at hr;split at hr
   · rename_i f m xs hn;cases hk:Nat.ble (off+t.cs.len) f.len with
     | false=>rw[hk]at hr;exact hr.elim
     | true=>rw[hk]at hr;obtain⟨y,_,hr⟩:=hr;exact u6 hr λc hc=>Cs.cells_in f y c (vI hc)
   · rename_i f xs hn;cases hk:Nat.ble (off+t.cs.len) f.len with
     | false=>rw[hk]at hr;exact hr.elim
     | true =>
      rw[hk]at hr;obtain⟨y,_,hr⟩:=hr;exact u6 hr λc hc=>Cs.treeCells_in (by unfold dom;rw[hn];simp) f 0 y c (vI hc)
   · rename_i f xs hn;cases hk:Nat.ble (off+t.cs.len) f.len with
     | false=>rw[hk]at hr;exact hr.elim
     | true =>
      rw[hk]at hr;obtain⟨y,_,hr⟩:=hr;exact u6 hr λc hc=>Cs.kidCells_in (by unfold dom;rw[hn];simp) f 0 y c (vI hc)
   · rename_i f ys hn;cases hk:(Nat.beq off 0&&(nF f t.cs&&t.agg))with
     | false=>rw[hk]at hr;exact hr.elim
     | true =>
      rw[hk]at hr;obtain⟨y2,_,hr⟩:=hr;obtain⟨h1,h2⟩:=Cs.giveF_in uid f y2;exact tR hr (λd hd=>(h2 d hd).mono λn hn=>pz (pz hn)) (λn cs hm c hc=>by
       rcases mem_append.1 hm with hm|hm
       · exact absurd hm (h1 n cs)
       · simp at hm)
   · exact hr.elim
 · exact hr.elim
theorem Cc {t:n7} {x v:AV} (hb:xK en) (hv:p4 (dom en) v) (hr:(vZ t x v).Runs (mG en) e L):mW en e:=by
 unfold vZ at hr;cases hk:(Nat.beq v.cells.length t.cs.len&&oq v.cells)with
 | false=>rw[hk]at hr;exact hr.elim
 | true =>
  rw[hk]at hr;simp only[cT]at hr;split at hr
  · rename_i n off;obtain⟨L',_,hr⟩:=hr;dsimp only at hr;split at hr
    · rename_i cs hn;cases hk:Nat.ble (off+t.cs.len) cs.length with
      | false=>rw[hk]at hr;exact hr.elim
      | true =>
       rw[hk]at hr;obtain⟨rfl,_⟩:=hr;refine⟨mX rfl,λm cs' hm c hc=>?_⟩;simp only[mem_singleton,Prod.mk.injEq]at hm;obtain⟨rfl,hm⟩:=hm;cases hm;rcases z5 hc with h|h
       · exact (hb _ cs hn c h).mono (pd _ _)
       · exact (hv.cells c h).mono (pd _ _)
    · exact hr.elim
  · rename_i r i off;obtain⟨L',_,hr⟩:=hr;dsimp only at hr;split at hr
    · rename_i f m xs hn;cases hk:Nat.ble (off+t.cs.len) f.len with
      | false=>rw[hk]at hr;exact hr.elim
      | true =>
       rw[hk]at hr;obtain⟨y,_,hr⟩:=hr;obtain⟨q,L1,L2,_,hq,hr⟩:=Rd.runs_bind hr;obtain⟨_,L3,L4,_,_,hr⟩:=Rd.runs_bind hr;obtain⟨rfl,_⟩:=hr;refine⟨mX rfl,λm' cs' hm c hc=>?_⟩;simp only[mem_cons,Prod.mk.injEq]at hm;rcases hm with ⟨_,hm⟩|hm
       · cases hm
       · exact absurd hm (Cs.upd_nb hq m' cs')
    · rename_i f xs hn;cases hk:(Nat.ble (off+t.cs.len) f.len&&v.cells.all Cell.flat)with
      | false=>rw[hk]at hr;exact hr.elim
      | true =>
       rw[hk]at hr;obtain⟨y,_,hr⟩:=hr;obtain⟨q,L1,L2,_,hq,hr⟩:=Rd.runs_bind hr;split at hr
       · obtain⟨rfl,_⟩:=hr;exact⟨mX rfl,λm' cs' hm c hc=>by simp only[mem_singleton,Prod.mk.injEq]at hm;cases hm.2⟩
       · exact hr.elim
    · exact hr.elim
  · exact hr.elim
end Go.V
namespace Go.V
variable {G:o9} {uid rid:Nat} {en:List (mF×Entry)} {e:nu} {L:List mF} {ρ:Operand->AV} {F:mF->Option Entry}

theorem tI {α:Type} {d:Option AV} {h:Option AV} {a b:Option Int} {f:Int->Int->Option α} {g:α->Rd nu} (hr:((r7 d a).bind λl=>(r7 h b).bind λr=>.opt (f l r) g).Runs (mG en) e L) (hg:∀x L,(g x).Runs (mG en) e L->mW en e):mW en e:=by
 obtain⟨_,L1,L2,_,_,hr⟩:=Rd.runs_bind hr;obtain⟨_,L3,L4,_,_,hr⟩:=Rd.runs_bind hr;obtain⟨x,_,hr⟩:=hr;exact hg x _ hr
theorem Cd {t:n7} {x:AV} {lo hi:Option AV} (hx:p4 (dom en) x) (hr:(w3 t x lo hi).Runs (mG en) e L):mW en e:=by
 unfold w3 at hr;split at hr
 · exact tI hr λx L h=>mW.one h (mX rfl)
 · rename_i c f xs _ _;cases hk:nF f c with
   | false=>rw[hk]at hr;exact hr.elim
   | true=>rw[hk]at hr;exact tI hr λx L h=>mW.one h (mX rfl)
 · rename_i c r _ _;obtain⟨L',_,hr⟩:=hr;dsimp only at hr;split at hr
   · rename_i f _ xs _;cases hk:nF f c with
     | false=>rw[hk]at hr;exact hr.elim
     | true=>rw[hk]at hr;exact tI hr λx L h=>mW.one h (λn hn=>hx n hn)
   · rename_i f xs _;cases hk:nF f c with
     | false=>rw[hk]at hr;exact hr.elim
     | true=>rw[hk]at hr;exact tI hr λx L h=>mW.one h (mX rfl)
   · exact hr.elim
 · exact hr.elim
theorem AG {src dst:n7} {sb db:Bool} {x:AV} (hr:(se uid src sb dst db x).Runs (mG en) e L):mW en e:=by
 unfold se at hr;split at hr
 · exact mW.one hr (mX rfl)
 · exact mW.one hr (mX rfl)
 · split at hr
   · cases sb with
     | true=>obtain⟨_,L1,L2,_,_,hr⟩:=Rd.runs_bind hr;exact mW.one hr (mX rfl)
     | false=>exact hr.elim
   · exact hr.elim
 · split at hr
   · cases db with
     | true=>exact vK hr NB.nil
     | false=>exact hr.elim
   · exact hr.elim
 · exact hr.elim
theorem Ce {r:mF} (hr:(AX uid r).Runs (mG en) e L):mW en e:=by
 obtain⟨L',_,hr⟩:=hr;dsimp only at hr;split at hr
 · split at hr
   · exact vK hr (by intro n cs h;simp at h)
   · exact hr.elim
 · exact hr.elim
theorem Bi {c:Cs} {x y:AV} (hr:(uw uid c x y).Runs (mG en) e L):mW en e:=by
 unfold uw at hr;split at hr
 · split at hr
   · unfold zM at hr;obtain⟨L',_,hr⟩:=hr;dsimp only at hr;split at hr
     · split at hr
       · obtain⟨zs,_,hr⟩:=hr;exact vK hr (by intro n cs h;simp at h)
       · exact hr.elim
     · exact hr.elim
   obtain⟨A,L1,L2,_,hA,hr⟩:=Rd.runs_bind hr;obtain⟨B,L3,L4,_,hB,hr⟩:=Rd.runs_bind hr;obtain⟨_,L5,L6,_,hd,hr⟩:=Rd.runs_bind hr;split at hr
   · obtain⟨zs,_,hr⟩:=hr;exact vK hr ((CE hA).append (Gx hB))
   · exact hr.elim
 · exact hr.elim
theorem yn {c:Cs} {n:Nat} {parts:List (Nat×AV)} (hr:(rP uid c n parts).Runs (mG en) e L):mW en e:=by
 unfold rP at hr;cases hk:(Nat.ble (n*c.len) 16777216&&rn n 0 parts&&parts.all λp=>Nat.beq p.2.cells.length c.len&&oq p.2.cells)with
 | false=>rw[hk]at hr;exact hr.elim
 | true =>
  rw[hk]at hr;obtain⟨y,L1,L2,_,h1,hr⟩:=Rd.runs_bind hr;obtain⟨_,L3,L4,_,hd,hr⟩:=Rd.runs_bind hr;exact vK hr (Bh h1)
theorem Do {Fn':Fn} {args:List AV} (hr:(vu uid Fn' args).Runs (mG en) e L):mW en e:=by
 unfold vu at hr;obtain⟨b,L1,L2,_,h1,hr⟩:=Rd.runs_bind hr;obtain⟨_,L3,L4,_,_,hr⟩:=Rd.runs_bind hr;obtain⟨r,_,hr⟩:=hr;have hnb:=sX h1
 obtain⟨k1,k2,k3⟩:=sr uid Fn'.ps Fn'.rs b.ptrs r;have hsub:∀n,dom ((mN uid Fn'.ps Fn'.rs b.ptrs r).upds++(mN uid Fn'.ps Fn'.rs b.ptrs r).news) n->dom ((mN uid Fn'.ps Fn'.rs b.ptrs r).news++((mN uid Fn'.ps Fn'.rs b.ptrs r).upds++b.used)++en) n:=λn hn=>by
  rw[qF]at hn ⊢;simp only[map_append,mem_append]at hn ⊢;rcases hn with h|h<;>simp[h]
 refine tR hr ?_ (λn cs hm c hc=>?_)
 · have hv:∀v∈(mN uid Fn'.ps Fn'.rs b.ptrs r).vals,pK (dom ((mN uid Fn'.ps Fn'.rs b.ptrs r).news++((mN uid Fn'.ps Fn'.rs b.ptrs r).upds++b.used)++en)) v:=λv hv=>(k1 v hv).mono hsub;split
   · rename_i v hq;have:=hv v (by rw[hq];simp)
     cases v with
     | cell c=>exact this
     | agg cs=>exact this
     | tup _=>exact this.elim
   · exact hv
 · simp only[mem_append]at hm;rcases hm with h|h|h
   · exact (k2 n cs h c hc).mono hsub
   · exact (k3 n cs h c hc).mono hsub
   · exact absurd h (hnb n cs)
theorem Eh {l:List (mF×Entry)} {n:mF} {cs:List Cell} (h:(n,Entry.box cs)∈nv l):(n,Entry.box cs)∈l:=by
 obtain⟨p,hp,he⟩:=mem_map.1 h;obtain⟨m,f⟩:=p;simp only[Prod.mk.injEq]at he;obtain⟨rfl,he⟩:=he;cases f with
 | root e m xs=>cases m<;>cases he
 | box ds=>cases he;exact hp
 | gone=>cases he
 | fwd _ _=>cases he
 | tree _ _=>cases he
 | frz _ _=>cases he
 | pop _ _=>cases he
theorem Cf {Fn':Fn} {args:List AV} (hr:(tT uid Fn' args).Runs (mG en) e L):mW en e:=by
 unfold tT at hr;cases hk:(oo Fn'.ps&&vv Fn'.rs)with
 | false=>rw[hk]at hr;exact hr.elim
 | true =>
  rw[hk]at hr;obtain⟨x,L1,L2,_,h1,hr⟩:=Rd.runs_bind hr;obtain⟨r,_,hr⟩:=hr;obtain⟨k1,k2,k3⟩:=sr uid Fn'.ps Fn'.rs [] r;have hu:(mN uid Fn'.ps Fn'.rs [] r).upds=[]:=by
   have key:∀(rs:List ob) (n:mF) (x:mI (nr rs)),(mZ n rs x).upds=[]:=by
    intro rs
    induction rs with
    | nil=>intro n x;rfl
    | cons q rs ih=>intro n x;cases q<;>exact ih _ _
   have key2:∀(ps:List nB) (n:mF) (x:mI (nS ps Fn'.rs)),(mN n ps Fn'.rs [] x).upds=[]:=by
    intro ps
    induction ps with
    | nil=>intro n x;exact key _ _ _
    | cons q ps ih=>intro n x;cases q with
     | val _ _ _=>exact ih _ _
     | ptr _ _=>rfl
   exact key2 _ _ _
  rw[hu]at k1 k2;have hd:∀n,dom ([]++(mN uid Fn'.ps Fn'.rs [] r).news) n->dom (nv (mN uid Fn'.ps Fn'.rs [] r).news++[]++en) n:=λn hn=>by
   rw[qF]at hn ⊢;have:(nv (mN uid Fn'.ps Fn'.rs [] r).news).map (·.1)=(mN uid Fn'.ps Fn'.rs [] r).news.map (·.1):=by unfold nv;rw[List.map_map];rfl
   simp only[map_append,mem_append,this]at hn ⊢;rcases hn with h|h
   · simp at h
   · simp[h]
  refine tR hr ?_ (λn cs hm c hc=>?_)
  · have hv:∀v∈(mN uid Fn'.ps Fn'.rs [] r).vals,pK (dom (nv (mN uid Fn'.ps Fn'.rs [] r).news++[]++en)) v:=λv hv=>(k1 v hv).mono hd;split
    · rename_i v hq;have:=hv v (by rw[hq];simp)
      cases v with
      | cell c=>exact this
      | agg cs=>exact this
      | tup _=>exact this.elim
    · exact hv
  · rw[append_nil]at hm;exact (k2 n cs (Eh hm) c hc).mono hd
theorem tJ {F:mF->Option Entry}:∀{cs:List Cell} {olds:List (mF×Entry)} {L:List mF},(yO cs).Runs F olds L->(∀p∈olds,∃e xs,F p.1=some (.tree e xs)/\p.2=.fwd e xs)/\∀r,Cell.own r∈cs->r∈olds.map (·.1)
 | [],olds,L,hr=>by obtain⟨rfl,_⟩:=hr;exact⟨by simp,by simp⟩
 | c::l,olds,L,hr=>by
  have other:(∀r,c≠.own r)->(yO l).Runs F olds L->(∀p∈olds,∃e xs,F p.1=some (.tree e xs)/\p.2=.fwd e xs)/\∀r,Cell.own r∈c::l->r∈olds.map (·.1):=λhc h=>by
   obtain⟨k1,k2⟩:=tJ h;exact⟨k1,λr hm=>(mem_cons.1 hm).elim (λe=>absurd e.symm (hc r)) (k2 r)⟩
  cases c with
  | own r =>
   obtain⟨L',_,hr⟩:=hr;dsimp only at hr;split at hr
   · rename_i e xs hn;obtain⟨b,L1,L2,_,h1,hr⟩:=Rd.runs_bind hr;obtain⟨rfl,_⟩:=hr;obtain⟨k1,k2⟩:=tJ h1;refine⟨λp hp=>?_,λs hm=>?_⟩
     · rcases mem_cons.1 hp with rfl|hp
       · exact⟨e,xs,hn,rfl⟩
       · exact k1 p hp
     · rcases mem_cons.1 hm with he|hm
       · cases he;simp
       · exact mem_cons_of_mem _ (k2 s hm)
   · exact hr.elim
  | _=>exact other (by intro r h;cases h) hr
theorem wO {F:Fn} {uid:mF} {r:mI (nS F.ps F.rs)}:(mN uid F.ps F.rs [] r).upds=[]:=by
 have key:∀(rs:List ob) (n:mF) (x:mI (nr rs)),(mZ n rs x).upds=[]:=by
  intro rs
  induction rs with
  | nil=>intro n x;rfl
  | cons q rs ih=>intro n x;cases q<;>exact ih _ _
 have key2:∀(ps:List nB) (n:mF) (x:mI (nS ps F.rs)),(mN n ps F.rs [] x).upds=[]:=by
  intro ps
  induction ps with
  | nil=>intro n x;exact key _ _ _
  | cons q ps ih=>intro n x;cases q with
   | val _ _ _=>exact ih _ _
   | ptr _ _=>rfl
 exact key2 _ _ _
theorem Cg {Fn':Fn} {args:List AV} (hr:(tU uid Fn' args).Runs (mG en) e L):mW en e:=by
 unfold tU at hr;cases hk:(oo Fn'.ps&&He Fn'.rs)with
 | false=>rw[hk]at hr;exact hr.elim
 | true =>
  rw[hk]at hr;obtain⟨x,L1,L2,_,h1,hr⟩:=Rd.runs_bind hr;obtain⟨olds,L3,L4,_,h2,hr⟩:=Rd.runs_bind hr;obtain⟨_,L5,L6,_,h3,hr⟩:=Rd.runs_bind hr;obtain⟨r,_,hr⟩:=hr;obtain⟨k1,k2,k3⟩:=sr uid Fn'.ps Fn'.rs [] r;rw[wO]at k1 k2;have hd:∀n,dom ([]++(mN uid Fn'.ps Fn'.rs [] r).news) n->dom ((mN uid Fn'.ps Fn'.rs [] r).news++olds++en) n:=λn hn=>by
   rw[qF]at hn ⊢;simp only[map_append,mem_append]at hn ⊢;rcases hn with h|h
   · simp at h
   · simp[h]
  refine tR hr ?_ (λn cs hm c hc=>?_)
  · have hv:∀v∈(mN uid Fn'.ps Fn'.rs [] r).vals,pK (dom ((mN uid Fn'.ps Fn'.rs [] r).news++olds++en)) v:=λv hv=>(k1 v hv).mono hd;split
    · rename_i v hq;have:=hv v (by rw[hq];simp)
      cases v with
      | cell c=>exact this
      | agg cs=>exact this
      | tup _=>exact this.elim
    · exact hv
  · rcases mem_append.1 hm with hm|hm
    · exact (k2 n cs hm c hc).mono hd
    · obtain⟨f,ys,_,he⟩:=(tJ h2).1 _ hm;cases he
theorem Ch {Fn':Fn} {args:List AV} (hr:(tV uid Fn' args).Runs (mG en) e L):mW en e:=by
 unfold tV at hr;cases hk:(oo Fn'.ps&&vv Fn'.rs)with
 | true=>rw[hk]at hr;exact Cf hr
 | false=>rw[hk]at hr;exact Cg hr
theorem CT.held_nb {c:CT} {x:Cell} {y:c.den}:NB (c.held x y):=by
 cases c with
 | sl e=>cases x<;>first|exact NB.nil|exact NB.one (by simp)
 | _=>exact NB.nil
theorem Cs.held_nb:∀{c:Cs} {xs:List Cell} {y:c.den},NB (c.held xs y)
 | .one c,[x],y=>CT.held_nb
 | .cons c r,x::xs,y=>CT.held_nb.append (Cs.held_nb (c:=r))
 | .one _,[],_=>NB.nil
 | .one _,_::_::_,_=>NB.nil
 | .cons _ _,[],_=>NB.nil
theorem Dp {M:q9} {args:List AV} (hr:(tP M args).Runs (mG en) e L):mW en e:=by
 unfold tP at hr;split at hr
 · split at hr
   · obtain⟨L',_,hr⟩:=hr;dsimp only at hr;split at hr
     · obtain⟨x,_,hr⟩:=hr;obtain⟨ys,_,hr⟩:=hr;obtain⟨z,_,hr⟩:=hr;obtain⟨x',_,hr⟩:=hr;obtain⟨rfl,_⟩:=hr;exact⟨mX rfl,λm' cs' hm c hc=>by simp only[mem_singleton,Prod.mk.injEq]at hm;cases hm.2⟩
     · exact hr.elim
   · exact hr.elim
 · obtain⟨_,L1,L2,_,_,hr⟩:=Rd.runs_bind hr;obtain⟨x,L3,L4,_,_,hr⟩:=Rd.runs_bind hr;obtain⟨z,_,hr⟩:=hr;obtain⟨_,L5,L6,_,_,hr⟩:=Rd.runs_bind hr;obtain⟨rfl,_⟩:=hr;exact⟨mX rfl,λm' cs' hm c hc=>absurd hm (Cs.held_nb m' cs')⟩
 · exact hr.elim
end Go.V
namespace Go.V
variable {G:o9} {uid rid:Nat} {en:List (mF×Entry)} {e:nu} {L:List mF} {ρ:Operand->AV} {F:mF->Option Entry}

theorem Am {D:mF->Prop}:∀{vs:List AV} {ns:List mF},qk vs=some ns->(∀v∈vs,p4 D v)->∀n∈ns,D n
 | [],ns,h,_=>by simp[qk]at h;subst h;simp
 | v::vs,ns,h,hv=>by
  unfold qk at h;split at h
  · cases h;simp
  · rename_i n l heq;cases heq;cases hk:qk vs with
    | none=>rw[hk]at h;cases h
    | some ms =>
     rw[hk]at h;cases h;intro m hm;rcases mem_cons.1 hm with rfl|hm
     · exact hv _ mem_cons_self m (by simp[Cell.refs])
     · exact Am hk (λv hv'=>hv v (mem_cons_of_mem _ hv')) m hm
  · cases h
theorem An {f:Int->Int->Int} {vs:List AV} (hr:(vw f vs).Runs (mG en) e L):mW en e:=by
 unfold vw at hr;split at hr
 · rename_i k a j b;cases hk:Nat.beq (nK j) (nK k)with
   | false=>rw[hk]at hr;exact hr.elim
   | true=>rw[hk]at hr;exact mW.one hr (mX rfl)
 · exact hr.elim
theorem Hn (hρ:∀x,p4 (dom en) (ρ x)) (hb:xK en) {op:Op} (hr:(pc G uid ρ op).Runs (mG en) e L):mW en e:=by
 unfold pc at hr;split at hr
 case h_1=>obtain⟨rfl,_⟩:=hr;exact mW.pure (hρ _)
 case h_2=>obtain⟨rfl,_⟩:=hr;exact mW.pure (hρ _)
 case h_3 =>
  split at hr
  · exact mW.one hr (mX rfl)
  · exact hr.elim
 case h_4 =>
  obtain⟨i,_,hr⟩:=np hr;exact Ed hr (Cs.zero_in _)
 case h_5 x =>
  replace hr:=np hr;obtain⟨i,_,hr⟩:=hr;cases hk:(Nat.beq (ρ x).cells.length i.cs.len&&oq (ρ x).cells)with
  | false=>rw[hk]at hr;exact hr.elim
  | true=>rw[hk]at hr;exact Ed hr (hρ x).cells
 case h_6 t parts =>
  replace hr:=np hr;obtain⟨i,_,hr⟩:=hr;cases ha:i.agg with
  | false=>rw[ha]at hr;exact hr.elim
  | true =>
   rw[ha]at hr;simp only[cT]at hr;split at hr
   · rename_i cs hc;obtain⟨rfl,_⟩:=hr;exact mW.pure (wN hc (Cs.zero_in _) λp hp=>by obtain⟨q,_,rfl⟩:=mem_map.1 hp;exact hρ _)
   · exact hr.elim
 case h_7 =>
  replace hr:=np hr;obtain⟨i,_,hr⟩:=hr;replace hr:=qL hr;obtain⟨_,_,_,hr⟩:=hr;replace hr:=np hr;obtain⟨j,_,hr⟩:=hr;exact yn hr
 case h_8=>replace hr:=np hr;obtain⟨i,_,hr⟩:=hr;exact Dn hb hr
 case h_9=>replace hr:=np hr;obtain⟨i,_,hr⟩:=hr;exact Cc hb (hρ _) hr
 case h_10 x =>
  have hx:=hρ x;split at hr
  · rename_i e1;rw[e1]at hx;exact mW.one hr hx
  · rename_i e1;rw[e1]at hx;exact mW.one hr hx
  · exact mW.one hr (mX rfl)
  · exact hr.elim
 case h_11=>replace hr:=np hr;obtain⟨i,_,hr⟩:=hr;exact Ef hr
 case h_12 =>
  split at hr
  · exact mW.one hr (mX rfl)
  · exact hr.elim
 case h_13 =>
  split at hr
  · exact mW.one hr (mX rfl)
  · exact hr.elim
 case h_14 =>
  replace hr:=np hr;obtain⟨i,_,hr⟩:=hr;replace hr:=np hr;obtain⟨j,_,hr⟩:=hr;split at hr
  · rename_i r _;cases hk:(Nat.beq _ _&&ra G j.elem)with
    | false=>rw[hk]at hr;exact hr.elim
    | true=>rw[hk]at hr;exact Ce hr
  · exact AG hr
 case h_15 n m =>
  replace hr:=np hr;obtain⟨i,_,hr⟩:=hr;replace hr:=qL hr;obtain⟨_,_,_,hr⟩:=hr;replace hr:=np hr;obtain⟨j,_,hr⟩:=hr;cases hk:Nat.beq n m with
  | false=>rw[hk]at hr;exact hr.elim
  | true =>
   rw[hk]at hr;simp only[cT]at hr;split at hr
   · obtain⟨l,_,hr⟩:=hr;exact vK hr NB.nil
   · exact hr.elim
 case h_16=>replace hr:=np hr;obtain⟨i,_,hr⟩:=hr;exact Cd (hρ _) hr
 case h_17 s x f =>
  have hx:=hρ x;replace hr:=np hr;obtain⟨i,_,hr⟩:=hr;cases ha:i.agg with
  | false=>rw[ha]at hr;exact hr.elim
  | true =>
   rw[ha]at hr;simp only[cT]at hr;split at hr
   · rename_i e1;rw[e1]at hx;exact mW.one hr hx
   · rename_i e1;rw[e1]at hx;exact mW.one hr hx
   · exact mW.one hr (mX rfl)
   · exact hr.elim
 case h_18 =>
  replace hr:=np hr;obtain⟨i,_,hr⟩:=hr;split at hr
  · exact z6 (hρ _) hr
  · exact hr.elim
 case h_19 =>
  replace hr:=np hr;obtain⟨i,_,hr⟩:=hr;split at hr
  · obtain⟨b,_,hr⟩:=hr;exact mW.one hr (mX rfl)
  · exact hr.elim
 case h_20 x i =>
  have hx:=hρ x;split at hr
  · rename_i vs e1;rw[e1]at hx;split at hr
    · rename_i v hv;obtain⟨rfl,_⟩:=hr;have:=hx v (List.mem_of_getElem? hv)
      refine mW.pure ?_;cases v with
      | cell c=>exact this
      | agg cs=>exact this
      | tup _=>exact this.elim
    · exact hr.elim
  · exact hr.elim
 case h_21 =>
  split at hr
  · rename_i ns hns;exact mW.one hr (Am hns λv hv=>by obtain⟨x,_,rfl⟩:=mem_map.1 hv;exact hρ x)
  · exact hr.elim
 case h_22 x t =>
  replace hr:=np hr;obtain⟨i,_,hr⟩:=hr;cases hk:yL i (ρ x)with
  | false=>rw[hk]at hr;exact hr.elim
  | true=>rw[hk]at hr;exact Eg hr
 case h_23 =>
  replace hr:=np hr;obtain⟨i,_,hr⟩:=hr;replace hr:=qL hr;obtain⟨_,_,_,hr⟩:=hr;replace hr:=np hr;obtain⟨i',_,hr⟩:=hr;replace hr:=qL hr;obtain⟨_,_,_,hr⟩:=hr;replace hr:=np hr;obtain⟨j,_,hr⟩:=hr;exact Bi hr
 case h_24=>exact An hr
 case h_25=>exact An hr
 case h_26 =>
  split at hr
  · split at hr
    · cases ht:G.trees with
      | false=>rw[ht]at hr;exact Do hr
      | true =>
       rw[ht]at hr;simp only[cT]at hr;split at hr
       · exact Ch hr
       · exact hr.elim
    · split at hr
      · exact Dp hr
      · exact hr.elim
  · exact hr.elim
 all_goals exact hr.elim
theorem Bj {op:Op} (h:∀c a b,op≠.pick c a b):sU G uid ρ op=pc G uid ρ op:=by
 cases op<;>first|rfl|exact absurd rfl (h _ _ _)
theorem Dq {c x y:AV} (hx:p4 (dom en) x) (hy:p4 (dom en) y) (hr:(s3 c x y).Runs (mG en) e L):mW en e:=by
 unfold s3 at hr;split at hr
 · exact mW.one hr (mX rfl)
 · cases (by assumption:Bool)with
   | true=>obtain⟨rfl,_⟩:=hr;exact mW.pure hx
   | false=>obtain⟨rfl,_⟩:=hr;exact mW.pure hy
 · exact hr.elim
theorem Bk (hρ:∀x,p4 (dom en) (ρ x)) (hb:xK en) {op:Op} (hr:(sU G uid ρ op).Runs (mG en) e L):mW en e:=by
 by_cases h:∃c a b,op=.pick c a b
 · obtain⟨c,a,b,rfl⟩:=h;exact Dq (hρ a) (hρ b) hr
 · rw[Bj λc a b he=>h ⟨c,a,b,he⟩]at hr;exact Hn hρ hb hr
structure nE (S:St):Prop where
 tmp:∀t,p4 (dom S.en) (S.tmp t)
 box:xK S.en
theorem nE.eval {S:St} (h:nE S) (x:Operand):p4 (dom S.en) (S.eval x):=by
 cases x with
 | tmp t=>exact h.tmp t
 | const v=>exact Fj v
 | global _=>exact mX rfl
 | func _=>exact mX rfl
theorem nE.put {S:St} (h:nE S) (dst:Option Tmp) {e:nu} (he:mW S.en e):nE (S.put dst e):=by
 refine⟨λt=>?_,λn cs hn c hc=>?_⟩
 · rw[St.tmp_put];split
   · exact he.val
   · exact (h.tmp t).mono (pd _ _)
 · rw[St.en_put]at hn ⊢;rw[nq]at hn;cases hf:mG e.ents n with
   | some x=>rw[hf]at hn;cases hn;exact he.box n cs (sM hf) c hc
   | none=>rw[hf]at hn;exact (h.box n cs hn c hc).mono (pd _ _)
end Go.V
namespace Go.V
variable {G:o9} {uid rid:Nat} {ops:List Oper} {B:List Nat}

namespace Rd
theorem runL_some {α A:Type} {S:mF->Option Entry} {k:α->List mF->Option A} {r:A}:∀{x:Rd α} {L0:List mF},x.runL S L0 k=some r->∃a L,x.Runs S a L/\k a (L.reverse++L0)=some r
 | ret a,L0,h=>⟨a,[],⟨rfl,rfl⟩,by simpa[runL]using h⟩
 | fail,L0,h=>by simp[runL]at h
 | get n f,L0,h=>by
  simp only[runL]at h;obtain⟨a,L,h1,h2⟩:=runL_some h;exact⟨a,n::L,⟨L,rfl,h1⟩,by simpa using h2⟩
 | opt o f,L0,h=>by
  simp only[runL]at h;cases o with
  | none=>simp at h
  | some b =>
   simp only[Option.bind_some]at h;obtain⟨a,L,h1,h2⟩:=runL_some h;exact⟨a,L,⟨b,rfl,h1⟩,h2⟩
end Rd
structure wP (Z:List Tmp) (FN:List mF) (S S1:St):Prop where
 tm:∀t,S.tmp t=S1.tmp t\/(t∈Z/\S.tmp t=.undef)
 en:∀n,n∉FN->mG S.en n=mG S1.en n
 no:∀n∈FN,mG S.en n=none
structure rg (rx ry:rI):Prop where
 wr:∀n∈nl rx,n∉pf ry
 rw:∀n∈nl ry,n∉pf rx
 ww:∀n∈nl rx,n∉nl ry
def PO (B:List Nat) (p q:Ev):Prop:=oW (oz B q.1) p.1=true\/rg p.2.2 q.2.2
structure te (rid:Nat) (B:List Nat) (grp:Bool) (p:Ev):Prop where
 rd:∀n∈pf p.2.2,xF rid (oz B p.1) p.1 n=true
 wr:∀n∈nl p.2.2,xF rid (oz B p.1) p.1 n=true
 own:grp=true->∀n∈nl p.2.2,sK rid p.1 n=true
def we (rid:Nat) (B:List Nat) (acc:pT) (p:Ev):Prop :=
 (pf p.2.2=[]/\nl p.2.2=[]) \/
 ∃q∈acc,q.1=p.1/\((q.2=none/\te rid B true p)\/∃L W,q.2=some (L,W)/\(∀n∈pf p.2.2,n∈L)/\∀n∈nl p.2.2,n∈W)
theorem we.mono {acc acc':pT} (h:∀q∈acc,q∈acc') {p:Ev} (k:we rid B acc p):we rid B acc' p:=by
 rcases k with k|⟨q,hq,k⟩
 · exact .inl k
 · exact .inr ⟨q,h q hq,k⟩
theorem te.loose {p:Ev} {grp:Bool} (h:te rid B true p):te rid B grp p:=⟨h.rd,h.wr,λ_=>h.own rfl⟩
theorem rg.of_idle_right {rx ry:rI} (h1:pf ry=[]) (h2:nl ry=[]):rg rx ry:=⟨by simp[h1],by simp[h2],by simp[h2]⟩
theorem rg.of_idle_left {rx ry:rI} (h1:pf rx=[]) (h2:nl rx=[]):rg rx ry:=⟨by simp[h2],by simp[h1],by simp[h2]⟩
theorem xL {a b:Bool} (h:w8 a b=true):a=b:=by cases a<;>cases b<;>simp[w8]at h ⊢
theorem Gy {a b:Bool} (h:w8 a b=false):a=!b:=by cases a<;>cases b<;>simp[w8]at h ⊢
theorem Gz {i:Nat} {n:mF} (h:sK rid i n=true):n/1024=rid*256+i+1:=Nat.eq_of_beq_eq_true h
theorem Fo {b k i:Nat} {n:mF} (h:xF rid b k n=true) (hm:sK rid i n=true) (hi:i<256):i=k\/oW b i=true:=by
 have hq:=Gz hm;unfold xF at h;simp only[hq]at h;have h1:Nat.ble (rid*256+1) (rid*256+i+1)=true:=Nat.ble_eq_true_of_le (by omega)
 have h2:Nat.ble (rid*256+i+1) (rid*256+256)=true:=Nat.ble_eq_true_of_le (by omega);rw[h1,h2]at h;simp only[Bool.and_self,cT,Bool.or_eq_true]at h;rw[show rid*256+i+1-(rid*256+1)=i by omega]at h;exact h.imp Nat.eq_of_beq_eq_true id
theorem vg {l m:List mF} (h:yQ l m=true):∀n∈l,n∉m:=by
 intro n hn hm;have:=all_eq_true.1 (all_eq_true.1 h n hn) n hm
 simp at this
theorem Bl {o:Oper} {t:Tmp} (h:uB ops o t):t∈o.looksAt ops.toArray:=by
 rcases h with h|⟨j,want,hg,hd⟩
 · exact List.mem_append_left _ (List.mem_filterMap.2 ⟨.tmp t,by simpa using h,rfl⟩)
 · refine mem_append_right _ ?_;rw[hg];unfold qd at hd;cases ho:ops[j]? with
   | none=>rw[ho]at hd;cases hd
   | some p=>rw[ho]at hd;simp[ho,hd]
theorem Tr.tmp:∀{E:List Ev} {S S':St} {t:Tmp},Tr G rid ops E S S'->(∀p∈E,p.2.1.dst≠some t)->S'.tmp t=S.tmp t
 | [],S,S',t,h,_=>(h.tm t).symm
 | (i,o,r)::E,S,S',t,h,hd=>by
  rw[Tr.tmp h.2 λp hp=>hd p (mem_cons_of_mem _ hp)];exact St.tmp_act S o r t (hd (i,o,r) mem_cons_self)
theorem Tr.en:∀{E:List Ev} {S S':St} {n:mF},Tr G rid ops E S S'->(∀p∈E,n∉nl p.2.2)->mG S'.en n=mG S.en n
 | [],S,S',n,h,_=>((show pg S S' from h).en n).symm
 | (i,o,r)::E,S,S',n,h,hd=>by
  rw[Tr.en h.2 λp hp=>hd p (mem_cons_of_mem _ hp)];exact St.en_act S o r n (hd (i,o,r) mem_cons_self)
theorem Tr.append:∀{E F:List Ev} {S S1 S':St},Tr G rid ops E S S1->Tr G rid ops F S1 S'->Tr G rid ops (E++F) S S'
 | [],F,S,S1,S',h,k=>k.same h.symm
 | _::E,F,S,S1,S',h,k=>⟨h.1,Tr.append h.2 k⟩
structure nC {A:Type} (G:o9) (rid:Nat) (ops:List Oper) (B:List Nat) (grp:Bool) (kn:List (Nat×Bool)) (l:List (Nat×Oper)) (S S1:St) (D:List Ev) (k:St->pT->Option A) (r:A) (acc:pT):Prop where
 out:∃(E:List Ev) (S1' S':St) (acc':pT) (Z':List Tmp) (FN':List mF) (nw:List (mF×Entry)),k S' acc'=some r/\Tr G rid ops E S1 S1'/\E.map (λp=>(p.1,p.2.1))=l/\(wP Z' FN' S' S1'/\nE S') /\
  (∀p∈D++E,we rid B acc' p)/\(∀n∈FN',∃q∈acc',q.2=none/\sK rid q.1 n=true)/\(∀p∈E,te rid B grp p)/\E.Pairwise (PO B)/\(∀p∈D,∀q∈E,PO B p q) /\
  (∀p∈E,oU kn p.2.1.dst=true)/\(S'.en=nw++S.en/\∃nt,S'.tm=nt++S.tm)/\(∀p∈E,∀n∈nl p.2.2,n∈nw.map (·.1)\/mG S.en n=none)
structure wQ (rid:Nat) (ops:List Oper) (B:List Nat) (kn:List (Nat×Bool)) (l:List (Nat×Oper)) (S S1:St) (D:List Ev) (acc:pT) (Z:List Tmp) (FN:List mF):Prop where
 sub:wP Z FN S S1
 known:∀t c,mG kn t=some c->S1.tmp t=.cell (.bool c)
 log:∀p∈D,we rid B acc p
 fn:∀n∈FN,∃q∈acc,q.2=none/\sK rid q.1 n=true
 here:∀p∈l,ops[p.1]?=some p.2
 read:∀p∈l,∀t∈Z,¬uB ops p.2 t
 asc:∀p∈D,∀q∈l,p.1<q.1
 asc':l.Pairwise λp q=>p.1<q.1
 closed:nE S
structure vh (ops:List Oper) (B:List Nat):Prop where
 lt:∀k i,k<=i->oW (oz B k) i=false
 len:ops.length<256
theorem u9 {kn:List (Nat×Bool)} {d:Tmp} {c:Bool} (h:oU kn (some d)=true):mG kn d≠some c:=by
 intro hf;simp[oU,hf]at h
theorem vL {l m n:List (Nat×AV)} (h:∃a,l=a++m) (k:∃a,m=a++n):∃a,l=a++n:=by
 obtain⟨a,rfl⟩:=h;obtain⟨b,rfl⟩:=k;exact⟨a++b,(append_assoc _ _ _).symm⟩
theorem Bm (S:St) (d:Option Tmp) (e:nu):∃a,(S.put d e).tm=a++S.tm:=by
 cases d with
 | none=>exact⟨[],rfl⟩
 | some d=>exact⟨[(d,e.val)],rfl⟩
theorem nC.step {A:Type} {grp:Bool} {kn:List (Nat×Bool)} {i:Nat} {o:Oper} {l:List (Nat×Oper)} {S S1 Sn:St} {D:List Ev} {k:St->pT->Option A} {r:A} {acc acc1:pT} {res:rI}
 (hs:rf G rid ops S1 i o res) (hlog:te rid B grp (i,o,res)) (hpo:∀p∈D,PO B p (i,o,res)) (hu:oU kn o.dst=true) {nw0:List (mF×Entry)} (hen:Sn.en=nw0++S.en) (htm:∃nt,Sn.tm=nt++S.tm) (hnw:∀n∈nl res,n∈nw0.map (·.1))
 (h:nC G rid ops B grp kn l Sn (S1.act o res) (D++[(i,o,res)]) k r acc1):nC G rid ops B grp kn ((i,o)::l) S S1 D k r acc:=by
 obtain⟨E,S1',S',acc',Z',FN',nw,h1,h2,h3,h4,h5,h6,h7,h8,h9,h10,h11,h12⟩:=h.out;refine⟨(i,o,res)::E,S1',S',acc',Z',FN',nw++nw0,h1,⟨hs,h2⟩,by simp[h3],h4,by simpa using h5,h6,?_,?_,?_,?_,⟨by rw[h11.1,hen,append_assoc],vL h11.2 htm⟩,?_⟩
 · intro p hp;rcases mem_cons.1 hp with rfl|hp
   · exact hlog
   · exact h7 p hp
 · exact List.pairwise_cons.2 ⟨λq hq=>h9 _ (by simp) q hq,h8⟩
 · intro p hp q hq;rcases mem_cons.1 hq with rfl|hq
   · exact hpo p hp
   · exact h9 p (by simp[hp]) q hq
 · intro p hp;rcases mem_cons.1 hp with rfl|hp
   · exact hu
   · exact h10 p hp
 · intro p hp n hn;rcases mem_cons.1 hp with rfl|hp
   · exact .inl (by simp only[map_append,mem_append];exact .inr (hnw n hn))
   · rcases h12 p hp n hn with h|h
     · exact .inl (by simp only[map_append,mem_append];exact .inl h)
     · rw[hen,nq]at h;cases hf:mG nw0 n with
       | some x=>rw[hf]at h;cases h
       | none=>rw[hf]at h;exact .inr h
end Go.V
namespace Go.V
variable {G:o9} {uid rid:Nat} {ops:List Oper} {B:List Nat}

theorem wQ.next {kn:List (Nat×Bool)} {i:Nat} {o:Oper} {l:List (Nat×Oper)} {S S1 Sn:St} {D:List Ev} {acc acc':pT} {Z:List Tmp} {FN:List mF} (h:wQ rid ops B kn ((i,o)::l) S S1 D acc Z FN) {res:rI}
 (hsub:wP Z FN Sn (S1.act o res)) (hcl:nE Sn) (hu:oU kn o.dst=true) (hacc:∀q∈acc,q∈acc') (hlog:we rid B acc' (i,o,res)):wQ rid ops B kn l Sn (S1.act o res) (D++[(i,o,res)]) acc' Z FN:=by
 refine⟨hsub,λt c hf=>?_,λp hp=>?_,λn hn=>?_,λp hp=>h.here p (mem_cons_of_mem _ hp),λp hp=>h.read p (mem_cons_of_mem _ hp),λp hp q hq=>?_,(List.pairwise_cons.1 h.asc').2,hcl⟩
 · rw[St.tmp_act]
   · exact h.known t c hf
   · intro hd;rw[hd]at hu;exact u9 hu hf
 · rcases mem_append.1 hp with hp|hp
   · exact (h.log p hp).mono hacc
   · rw[mem_singleton.1 hp];exact hlog
 · obtain⟨q,hq,k⟩:=h.fn n hn;exact⟨q,hacc q hq,k⟩
 · rcases mem_append.1 hp with hp|hp
   · exact h.asc p hp q (mem_cons_of_mem _ hq)
   · rw[mem_singleton.1 hp];exact (List.pairwise_cons.1 h.asc').1 q hq
theorem wP.act {Z:List Tmp} {FN:List mF} {S S1:St} (h:wP Z FN S S1) (o:Oper) (e:nu) (L:List mF) (hn:∀n∈e.ents.map (·.1),n∉FN):wP Z FN (S.put o.dst e) (S1.act o (some (e,L))):=by
 refine⟨λt=>?_,λn hnF=>?_,λn hnF=>?_⟩
 · simp only[St.act,St.tmp_put];by_cases hd:o.dst=some t
   · simp[hd]
   · simp only[if_neg hd];exact h.tm t
 · simp only[St.act,St.en_put,nq,h.en n hnF]
 · rw[St.en_put,ne λhm=>hn n hm hnF];exact h.no n hnF
theorem wP.skip {Z:List Tmp} {FN:List mF} {S S1:St} (h:wP Z FN S S1) (o:Oper):wP Z FN (S.put o.dst ⟨.cell .void,[]⟩) (S1.act o none):=by
 refine⟨λt=>?_,λn hnF=>h.en n hnF,λn hnF=>h.no n hnF⟩;simp only[St.act,St.tmp_put];by_cases hd:o.dst=some t
 · simp[hd]
 · simp only[if_neg hd];exact h.tm t
theorem Ei (hB:vh ops B) {i:Nat} {o:Oper} {e:nu} {L:List mF} {acc:pT} {grp:Bool} (hi:i<ops.length) (hk:wY rid (oz B i) i grp L (e.ents.map (·.1)) acc=true) {D:List Ev} (hD:∀p∈D,we rid B acc p) (hasc:∀p∈D,p.1<i) {L':List mF} (hL:∀n∈L',n∈L) :
 te rid B grp (i,o,some (e,L'))/\(∀p∈D,PO B p (i,o,some (e,L')))/\∀q∈acc,q.2=none->(∀n∈L,sK rid q.1 n=false)/\∀n∈e.ents.map (·.1),sK rid q.1 n=false:=by
 simp only[wY,aT,all_eq_true]at hk;obtain⟨h1,h2,h3,h4⟩:=hk;have hown:∀q∈acc,q.2=none->(∀n∈L,sK rid q.1 n=false)/\∀n∈e.ents.map (·.1),sK rid q.1 n=false:=by
  intro q hq hn;have:=h4 q hq
  rw[hn]at this;simp only[aT,all_eq_true,Bool.not_eq_true']at this;exact⟨this.1,this.2.1⟩
 refine⟨⟨λn hn=>h1 n (hL n hn),h2,λhg=>?_⟩,λp hp=>?_,hown⟩
 · rw[hg]at h3;simp only[Bool.not_true,Bool.false_or,all_eq_true]at h3;exact h3
 · rcases hD p hp with ⟨k1,k2⟩|⟨q,hq,hqi,k⟩
   · exact .inr (rg.of_idle_left k1 k2)
   · have hq4:=h4 q hq;rcases k with ⟨hn,hlog⟩|⟨Lq,Wq,hn,k1,k2⟩
     · obtain⟨o1,o2⟩:=hown q hq hn;rw[hn]at hq4;simp only[aT,Bool.or_eq_true,all_eq_true]at hq4;rcases hq4.2.2 with hb|hm
       · exact .inl (by rw[←hqi];exact hb)
       · refine .inr ⟨λn hn hr=>?_,λn hn hr=>?_,λn hn hr=>?_⟩
         · have:=o1 n (hL n hr);rw[hqi,hlog.own rfl n hn]at this;cases this
         · rcases Fo (hlog.rd n hr) (hm n hn) (by have:=hB.len;omega)with he|hb
           · have:=hasc p hp;omega
           · rw[hB.lt p.1 i (Nat.le_of_lt (hasc p hp))]at hb;cases hb
         · have:=o2 n hr;rw[hqi,hlog.own rfl n hn]at this;cases this
     · rw[hn]at hq4;simp only[Bool.or_eq_true,aT]at hq4;rcases hq4 with hb|⟨a1,a2,a3⟩
       · exact .inl (by rw[←hqi];exact hb)
       · exact .inr ⟨λn hn hr=>vg a2 n (k2 n hn) (hL n hr),λn hn hr=>vg a1 n hn (k1 n hr),λn hn hr=>vg a3 n hr (k2 n hn)⟩
theorem St.eval_sub {Z:List Tmp} {FN:List mF} {S S1:St} (h:wP Z FN S S1) {o:Oper} (hr:∀t∈Z,¬uB ops o t):∀x∈o.op.operands,S.eval x=S1.eval x:=λx hx=>by
 cases x with
 | tmp t=>exact (h.tm t).resolve_right λk=>hr t k.1 (.inl hx)
 | _=>rfl
def IH (G:o9) (rid:Nat) (ops:List Oper) (B:List Nat) (f:Nat):Prop :=
 ∀{A:Type} (grp:Bool) (kn:List (Nat×Bool)) (l:List (Nat×Oper)) (S:St) (acc:pT) (k:St->pT->Option A) (r:A) (S1:St) (Z:List Tmp) (FN:List mF) (D:List Ev),
  oJ G rid ops (some B) grp f kn l S acc k=some r->wQ rid ops B kn l S S1 D acc Z FN->nC G rid ops B grp kn l S S1 D k r acc
theorem Dr {i:Nat} {o:Oper} (h:ops[i]?=some o):i<ops.length:=(List.getElem?_eq_some_iff.1 h).1
theorem CG (hB:vh ops B) {f:Nat} (ih:IH G rid ops B f) {A:Type} {grp:Bool} {kn:List (Nat×Bool)} {i:Nat} {o:Oper} {l:List (Nat×Oper)} {S S1:St} {acc:pT} {k:St->pT->Option A} {r:A} {Z:List Tmp} {FN:List mF} {D:List Ev}
 (hr:((sU G (AO rid i) S.eval o.op).runL S.ent [] λe L=>cond (wY rid (oz B i) i grp L (e.ents.map Prod.fst) acc) (oJ G rid ops (some B) grp f kn l (S.put o.dst e) ((i,some (L,e.ents.map Prod.fst))::acc) k) none)=some r)
 (hin:wQ rid ops B kn ((i,o)::l) S S1 D acc Z FN) (hw:z4 ops S1 o) (hu:oU kn o.dst=true):nC G rid ops B grp kn ((i,o)::l) S S1 D k r acc:=by
 obtain⟨e,L,h1,h2⟩:=Rd.runL_some hr;rw[append_nil]at h2;cases hk:wY rid (oz B i) i grp L.reverse (e.ents.map Prod.fst) acc with
 | false=>rw[hk]at h2;cases h2
 | true =>
  rw[hk]at h2;simp only[cT]at h2;have hi:=Dr (hin.here (i,o) mem_cons_self)
  obtain⟨hlog,hpo,hown⟩:=Ei (o:=o) hB hi hk hin.log (λp hp=>hin.asc p hp (i,o) mem_cons_self) (L':=L) (λn hn=>by simpa using hn);have hLF:∀n∈L,n∉FN:=λn hn hF=>by
   obtain⟨q,hq,hqn,hm⟩:=hin.fn n hF;have:=(hown q hq hqn).1 n (by simpa using hn);rw[hm]at this;cases this
  have hWF:∀n∈e.ents.map (·.1),n∉FN:=λn hn hF=>by
   obtain⟨q,hq,hqn,hm⟩:=hin.fn n hF;have:=(hown q hq hqn).2 n hn;rw[hm]at this;cases this
  have hstep:rf G rid ops S1 i o (some (e,L)):=by
   refine⟨hw,?_⟩;rw[←xX (St.eval_sub hin.sub (hin.read (i,o) mem_cons_self))];exact Rd.runs_local (λn hn=>(hin.sub.en n (hLF n hn)).symm) h1
  have hin':=hin.next (res:=some (e,L)) (acc':=(i,some (L.reverse,e.ents.map Prod.fst))::acc) (hin.sub.act o e L hWF) (hin.closed.put o.dst (Bk hin.closed.eval hin.closed.box h1)) hu (λq hq=>mem_cons_of_mem _ hq)
   (.inr ⟨_,mem_cons_self,rfl,.inr ⟨_,_,rfl,λn hn=>by simpa[pf]using hn,λn hn=>hn⟩⟩)
  exact nC.step hstep hlog hpo hu (Sn:=S.put o.dst e) (nw0:=e.ents) rfl (Bm _ _ _) (λn hn=>hn) (ih grp kn l _ _ k r _ Z FN _ h2 hin')
theorem Ao (hB:vh ops B) {f:Nat} (ih:IH G rid ops B f) {A:Type} {grp:Bool} {kn:List (Nat×Bool)} {i:Nat} {o:Oper} {l:List (Nat×Oper)} {S S1:St} {acc:pT} {k:St->pT->Option A} {r:A} {Z:List Tmp} {FN:List mF} {D:List Ev}
 (hr:oJ G rid ops (some B) grp f kn l (S.put o.dst ⟨.cell .void,[]⟩) acc k=some r)
 (hin:wQ rid ops B kn ((i,o)::l) S S1 D acc Z FN) (hw:ym ops S1 o) (hu:oU kn o.dst=true):nC G rid ops B grp kn ((i,o)::l) S S1 D k r acc:=by
 have hin':=hin.next (res:=none) (acc':=acc) (hin.sub.skip o) (hin.closed.put o.dst (mW.pure (mX rfl))) hu (λq hq=>hq) (.inl ⟨rfl,rfl⟩)
 exact nC.step (res:=none) hw ⟨by simp[pf],by simp[nl],by simp[nl]⟩ (λp hp=>.inr (rg.of_idle_right rfl rfl)) hu (Sn:=S.put o.dst ⟨.cell .void,[]⟩) (nw0:=[]) rfl (Bm _ _ _) (by simp[nl]) (ih grp kn l _ _ k r _ Z FN _ hr hin')
end Go.V
namespace Go.V
variable {G:o9} {uid rid:Nat} {ops:List Oper} {B:List Nat}

theorem vM {t:Tmp}:∀{l grp r':List (Nat×Oper)} {pi:Nat} {p:Oper},qK t l=some (grp,(pi,p),r')->l=grp++(pi,p)::r'/\∃x y,p.op=.pick (.tmp t) x y
 | [],_,_,_,_,h=>by simp[qK]at h
 | (i,o)::r,grp,r',pi,p,h=>by
  have hnext:∀{x:Option (List (Nat×Oper)×(Nat×Oper)×List (Nat×Oper))},(match qK t r with|some (a,b,c)=>some ((i,o)::a,b,c)|none=>none)=x->x=some (grp,(pi,p),r')->(i,o)::r=grp++(pi,p)::r'/\∃x y,p.op=.pick (.tmp t) x y:=by
   intro x hx hs;cases hq:qK t r with
   | none=>rw[hq]at hx;subst hx;cases hs
   | some q =>
    obtain⟨a,⟨bi,b⟩,c⟩:=q;rw[hq]at hx;subst hx;simp only[Option.some.injEq,Prod.mk.injEq]at hs;obtain⟨rfl,⟨rfl,rfl⟩,rfl⟩:=hs;obtain⟨h1,h2⟩:=vM hq;exact⟨by rw[h1];rfl,h2⟩
  simp only[qK]at h;split at h
  · rename_i u x y ho;cases hb:Nat.beq u t with
    | true =>
     rw[hb]at h;simp only[cT,Option.some.injEq,Prod.mk.injEq]at h;obtain⟨rfl,⟨rfl,rfl⟩,rfl⟩:=h;exact⟨rfl,x,y,by rw[ho,Nat.eq_of_beq_eq_true hb]⟩
    | false=>rw[hb]at h;exact hnext rfl h
  · exact hnext rfl h
def su (grp:List (Nat×Oper)):List Tmp:=grp.filterMap (·.2.dst)
theorem Bn {grp:List (Nat×Oper)} {t:Tmp}:t∈su grp↔∃p∈grp,p.2.dst=some t:=by simp[su,List.mem_filterMap]
theorem rh:∀{grp:List (Nat×Oper)} {m:List (Nat×AV)} {t:Tmp},(t∈su grp->mG (p6 grp++m) t=some .undef)/\(t∉su grp->mG (p6 grp++m) t=mG m t)
 | [],m,t=>⟨λh=>by simp[su]at h,λ_=>rfl⟩
 | (i,o)::grp,m,t=>by
  obtain⟨k1,k2⟩:=rh (grp:=grp) (m:=m) (t:=t);cases hd:o.dst with
  | none =>
   have e:su ((i,o)::grp)=su grp:=by simp[su,hd]
   rw[e];simp only[p6,hd];exact⟨k1,k2⟩
  | some d =>
   have e:su ((i,o)::grp)=d::su grp:=by simp[su,hd]
   rw[e];simp only[p6,hd,List.cons_append,mR,mem_cons,not_or];by_cases he:d=t
   · subst he;simp
   · rw[if_neg he];exact⟨λh=>k1 (h.resolve_left λe=>he e.symm),λh=>k2 h.2⟩
theorem Bo {j:Nat} {want:Bool} {t:Tmp} (hj:qd ops j=some t):∀{grp:List (Nat×Oper)} {seen:List Nat} {S1:St},okGroup.okFrom ops j want t seen grp=true->S1.tmp t=.cell (.bool (!want))->(∀i∈seen,∀t',qd ops i=some t'->S1.tmp t'=.cell .void) ->
 (∀p∈grp,ops[p.1]?=some p.2)->∃S1a,Tr G rid ops (grp.map λp=>(p.1,p.2,none)) S1 S1a
 | [],seen,S1,_,_,_,_=>⟨S1,pg.refl _⟩
 | (k,o)::grp,seen,S1,h,ht,hs,hh=>by
  simp only[okGroup.okFrom,aT]at h;obtain⟨h1,h2,h3⟩:=h;have hk:ops[k]?=some o:=hh (k,o) mem_cons_self
  have hstep:ym ops S1 o:=by
   cases hg:o.guard with
   | none=>rw[hg]at h1;cases h1
   | some q =>
    obtain⟨i,w⟩:=q;rw[hg]at h1;simp only[Bool.or_eq_true,aT]at h1;rcases h1 with ⟨e1,e2⟩|⟨e1,e2⟩
    · obtain rfl:=Nat.eq_of_beq_eq_true e1;obtain rfl:=xL e2;exact⟨i,w,t,hg,hj,.inl ht⟩
    · obtain⟨q,hq,he⟩:=List.any_eq_true.1 e1;obtain rfl:=Nat.eq_of_beq_eq_true he;cases hd:qd ops q with
      | none=>rw[hd]at e2;cases e2
      | some t'=>exact⟨q,w,t',hg,hd,.inr (hs q hq t' hd)⟩
  have hdt:o.dst≠some t:=λhd=>by rw[hd]at h2;simp at h2
  obtain⟨S1a,hT⟩:=Bo hj (grp:=grp) (seen:=k::seen) (S1:=S1.act o none) h3 (by rw[St.tmp_act _ _ _ _ hdt];exact ht) (λi hi t' hd=>by
   by_cases hw:o.dst=some t'
   · simp only[St.act,St.tmp_put,hw,if_true]
   · rw[St.tmp_act _ _ _ _ hw];rcases mem_cons.1 hi with rfl|hi
     · unfold qd at hd;rw[hk]at hd;exact absurd hd hw
     · exact hs i hi t' hd) (λp hp=>hh p (mem_cons_of_mem _ hp))
  exact⟨S1a,hstep,hT⟩
theorem z7 {j:Nat} {want:Bool} {t:Tmp}:∀{grp:List (Nat×Oper)} {seen:List Nat},okGroup.okFrom ops j want t seen grp=true->∀p∈grp,p.2.dst≠some t
 | [],_,_,p,hp=>by simp at hp
 | (k,o)::grp,seen,h,p,hp=>by
  simp only[okGroup.okFrom,aT]at h;rcases mem_cons.1 hp with rfl|hp
  · intro hd;have hd:o.dst=some t:=hd
    rw[hd]at h;simp at h
  · exact z7 h.2.2 p hp
theorem Ej {F:mF->Option Entry} {b v:Bool} {X Y:AV} (h:(cond b X Y)=.cell (.bool v)):(s3 (.cell (.bool b)) X Y).Runs F ⟨.cell (.bool v),[]⟩ []:=by
 unfold s3;split
 · rename_i c' x' y' e1;cases e1;cases b with
   | true=>cases h;exact⟨rfl,rfl⟩
   | false=>cases h;exact⟨rfl,rfl⟩
 · rename_i e1 _;cases e1;cases b with
   | true=>simp only[cT]at h ⊢;subst h;exact⟨rfl,rfl⟩
   | false=>simp only[cF]at h ⊢;subst h;exact⟨rfl,rfl⟩
 · rename_i h0 h1;exact (h0 _ rfl).elim
theorem xY {x:AV} {v:Bool} (h:rb x=some v):x=.cell (.bool v):=by
 unfold rb at h;split at h
 · cases h;rfl
 · cases h
end Go.V

