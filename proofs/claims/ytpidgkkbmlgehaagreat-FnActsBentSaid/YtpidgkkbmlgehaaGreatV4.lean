/- V: a run of the model's code over plain data, and that it is what the machine does. Part 4 of 4. No condition. -/
import Derived.Test.YtpidgkkbmlgehaaGreatV3
import Derived.ChangeOld
import Derived.WideShapes
import Derived.ChangeArms
import Derived.Carry
import Derived.Below
open List (all_eq_true append_eq_nil_iff)
set_option linter.unusedVariables false
set_option linter.unusedSimpArgs false
namespace Go.V

mutual
/-- Whole numbers lie in their kind's range; lengths are lengths. -/
def CT.wf:(c:CT)->c.den->Prop
 | .int k,n=>k.min<=n/\n<=k.max
 | .bool,_=>True
 | .str,s=>s.length<=maxLen
 | .err,_=>True
 | .sl e,xs=>xs.length<=maxLen/\∀x∈xs,Cs.wf e x
def Cs.wf:(e:Cs)->e.den->Prop
 | .one c,x=>CT.wf c x
 | .cons c r,x=>CT.wf c x.1/\Cs.wf r x.2
end
def Cs.toL:Cs->List CT | .one c=>[c] | .cons c r=>c::r.toL
theorem Cs.toL_length:∀e:Cs,e.toL.length=e.len
 | .one _=>rfl
 | .cons _ r=>by simp[Cs.toL,Cs.len,Cs.toL_length r]
def En:List CT->List CT->Bool
 | [],[]=>true
 | c::l,d::m=>(CT.same c d).isSome&&En l m
 | _,_=>false
theorem KI:∀{l m:List CT},En l m=true->l=m
 | [],[],_=>rfl
 | c::l,d::m,h=>by
  simp only[En,aT]at h;cases hs:CT.same c d with
  | none=>rw[hs]at h;cases h.1
  | some e=>obtain⟨rfl⟩:=e;rw[KI h.2]
 | [],_::_,h=>by cases h
 | _::_,[],h=>by cases h
def Bv (ti:List (Nat×wk)):List Field->Nat->Option (List CT)
 | [],_=>some []
 | f::fs,o=>cond (Nat.beq f.offset o) (match vz ti f.type with|some j=>(match Bv ti fs (o+j.cs.len)with|some l=>some (j.cs.toL++l)|none=>none)|none=>none) none
def KJ (P:Program) (ti:List (Nat×wk)) (p:Nat×wk):Bool :=
 match P.underlying p.1 with
 | some (.struct fs)=>(match Bv ti fs.toList 0 with|some l=>En l p.2.cs.toL|none=>false)
 | _=>true
def Deep (P:Program) (ti:List (Nat×wk)):Prop:=∀t i,vz ti t=some i->KJ P ti (t,i)=true
theorem Deep.of_all {P:Program} {ti:List (Nat×wk)} (h:ti.all (KJ P ti)=true):Deep P ti:=λt i hi=>all_eq_true.1 h _ (Cw hi)
variable {P:Program} {ti:List (Nat×wk)} {w:World}
def FI (w:World) (c:CT) (v:Value):Prop:=∃x F,CT.Rep w c x v F/\(∀b∈F,b<w.heap.size)/\CT.wf c x
theorem HE:∀(e:Cs) (vs:List Value),vT (FI w) e.toL vs->∃x F,Cs.Rep w e x vs F/\(∀b∈F,b<w.heap.size)/\Cs.wf e x
 | .one c,[v],h=>by
  obtain⟨x,F,h1,h2,h3⟩:=h.1;exact⟨x,F,by simp only[Cs.Rep];exact⟨v,rfl,h1⟩,h2,by simp only[Cs.wf];exact h3⟩
 | .one c,[],h=>h.elim
 | .one c,_::_::_,h=>h.2.elim
 | .cons c r,[],h=>h.elim
 | .cons c r,v::vs,h=>by
  obtain⟨x,F,h1,h2,h3⟩:=h.1;obtain⟨y,F',k1,k2,k3⟩:=HE r vs h.2;refine⟨(x,y),F++F',by simp only[Cs.Rep];exact⟨v,vs,F,F',rfl,rfl,h1,k1⟩,λb hb=>(List.mem_append.1 hb).elim (h2 b) (k2 b),by simp only[Cs.wf];exact⟨h3,k3⟩⟩
theorem Ol {α:Type} {n:Nat} {R:α->List Value->List Nat->Prop} {Q:α->List Nat->Prop}:∀(m:Nat) (vs:List Value),vs.length=m*n->(∀i,i<m->∃y F,R y ((vs.drop (i*n)).take n) F/\Q y F) ->
 ∃xs F,xs.length=m/\wb n R xs vs F/\(∀x∈xs,∃G,Q x G)/\∀b∈F,∃x G,Q x G/\b∈G
 | 0,vs,h,_=>⟨[],[],rfl,⟨by simpa using h,rfl⟩,by simp,by simp⟩
 | m+1,vs,h,hr=>by
  obtain⟨y,F,h1,h2⟩:=hr 0 (by omega);rw[Nat.zero_mul,List.drop_zero]at h1;have hn:n<=vs.length:=by rw[h,Nat.add_mul];omega
  obtain⟨xs,F',k1,k2,k3,k4⟩:=Ol (n:=n) (R:=R) (Q:=Q) m (vs.drop n) (by rw[List.length_drop,h,Nat.add_mul];omega) (λi hi=>by
   obtain⟨y,F,h1,h2⟩:=hr (i+1) (by omega);exact⟨y,F,by rw[List.drop_drop];rw[Nat.add_mul,Nat.one_mul,Nat.add_comm]at h1;exact h1,h2⟩)
  refine⟨y::xs,F++F',by simp[k1],⟨vs.take n,vs.drop n,F,F',(List.take_append_drop n vs).symm,by rw[List.length_take];omega,rfl,h1,k2⟩,λx hx=>?_,λb hb=>?_⟩
  · rcases List.mem_cons.1 hx with rfl|hx
    · exact⟨F,h2⟩
    · exact k3 x hx
  · rcases List.mem_append.1 hb with hb|hb
    · exact⟨y,F,h2,hb⟩
    · exact k4 b hb
theorem Eo:∀{fs:List Field} {o:Nat} {l:List CT} {vs:List Value},Bv ti fs o=some l->vs.length=o+l.length ->
 (∀f∈fs,∀j,vz ti f.type=some j->vT (FI w) j.cs.toL ((vs.drop f.offset).take j.cs.len))->vT (FI w) l (vs.drop o)
 | [],o,l,vs,h,hl,_=>by
  cases h;rw[List.drop_of_length_le (by simpa using Nat.le_of_eq hl)];trivial
 | f::fs,o,l,vs,h,hl,hg=>by
  simp only[Bv]at h;cases ho:Nat.beq f.offset o with
  | false=>rw[ho]at h;cases h
  | true =>
   rw[ho]at h;obtain rfl:=Nat.eq_of_beq_eq_true ho;cases hj:vz ti f.type with
   | none=>rw[hj]at h;cases h
   | some j =>
    rw[hj]at h;simp only[cT]at h;cases hr:Bv ti fs (f.offset+j.cs.len)with
    | none=>rw[hr]at h;cases h
    | some m =>
     rw[hr]at h;cases h;rw[List.length_append,Cs.toL_length]at hl;have h1:=hg f List.mem_cons_self j hj
     have h2:=Eo hr (vs:=vs) (by omega) (λf' hf'=>hg f' (List.mem_cons_of_mem _ hf'));have e:vs.drop f.offset=(vs.drop f.offset).take j.cs.len++vs.drop (f.offset+j.cs.len):=by
      conv=>lhs;rw[←List.take_append_drop j.cs.len (vs.drop f.offset)]
      rw[List.drop_drop]
     rw[e];exact h1.append h2
section
variable {H:Type} {enc:TypeId×Value->H} {held:Bool}
theorem A7.cells {t:Nat} {i:wk} {d:TypeInfo} {u:TypeDesc} {z:Value} (h:A7 P ti t i d u z):P.cellsOf t=i.cs.len:=by
 simp[Program.cellsOf,h.info,h.size]
theorem Ir {base:Nat} {a:Addr} {n:Nat} {vs:List Value} (h:w.cells? base a n=some vs):vs.length=n/\∀k,k<n->w.cell? (a.add k)=vs[k]?:=by
 unfold World.cells? at h;split at h
 · refine⟨by simpa using mapM_some_length h,λk hk=>?_⟩;exact mapM_some_get h k k (by simp[hk])
 · cases h
theorem N5 {a:Addr} {v:Value} (h:w.cell? a=some v):a.spot=none/\∃c t fz,w.heap[a.block]?=some (.cells c t fz)/\c[a.off]?=some v:=by
 unfold World.cell? at h;split at h
 · rename_i c t fz hc;split at h
   · cases h
   · rename_i hs;exact⟨by
      cases hsp : a.spot with
      | none=>rfl
      | some _=>rw[hsp]at hs;simp at hs,c,t,fz,hc,h⟩
 · cases h
theorem GC (hT:yp P ti) (hD:Deep P ti):∀(fuel:Nat) (t:Nat) (i:wk) (cs:List Value) (x:DataW H×List MemPlace),vz ti t=some i->DataW.trod enc P w 0 (λ_=>true) held fuel t cs=some x->vT (FI w) i.cs.toL cs
 | 0,t,i,cs,x,hi,h=>by simp[DataW.trod]at h
 | fuel+1,t,i,cs,x,hi,h=>by
  obtain⟨d,u,z,hf⟩:=hT.facts hi;cases ha:i.agg with
  | true =>
   obtain⟨fs,hu,_⟩:=hf.agg ha;have hund:=hf.und
   rw[hu]at hund;obtain⟨xs,n,hn,_,hlen,hxs,hget⟩:=DataW.trod_struct hund h;obtain rfl:fuel=n:=by omega
   have hd:=hD t i hi;unfold KJ at hd;simp only[hund]at hd;cases hdf:Bv ti fs.toList 0 with
   | none=>rw[hdf]at hd;cases hd
   | some l =>
    rw[hdf]at hd;obtain rfl:=KI hd;have hlen':cs.length=0+i.cs.toL.length:=by rw[hlen,hf.cells,Cs.toL_length];omega
    have:=Eo (w:=w) hdf hlen' (λf hfm j hj=>by
     obtain⟨k,hk,hkf⟩:=List.mem_iff_getElem.1 hfm;have hfk:fs[k]?=some f:=by rw[←hkf];simp at hk ⊢
     have hg:=hget k f hfk;have hkx:k<xs.length:=by rw[hxs];simpa using hk
     rw[List.getElem?_eq_getElem hkx]at hg;obtain⟨d',u',z',hf'⟩:=hT.facts hj;rw[hf'.cells]at hg;exact GC hT hD fuel f.type j _ _ hj hg)
    simpa using this
  | false =>
   obtain⟨c,hc,hs⟩:=hf.plain ha;rw[hc];have hund:=hf.und
   cases u<;>try (simp[xI]at hs;done)
   case bool =>
    obtain⟨b,rfl,_⟩:=DataW.trod_bool hund h;cases c<;>simp[xI]at hs;exact⟨⟨b,[],by simp only[CT.Rep];exact⟨trivial,trivial⟩,by simp,by simp only[CT.wf]⟩,trivial⟩
   case int k =>
    obtain⟨n,rfl,_,hw⟩:=DataW.trod_int hund h;cases c<;>simp[xI]at hs;obtain rfl:=zN hs;simp only[Lit.wf,aT,decide_eq_true_eq]at hw;exact⟨⟨n,[],by simp only[CT.Rep];exact⟨trivial,trivial⟩,by simp,by simp only[CT.wf];exact hw⟩,trivial⟩
   case string =>
    obtain⟨s,rfl,_,hw⟩:=DataW.trod_string hund h;cases c<;>simp[xI]at hs;refine⟨⟨s.data.toList,[],by simp only[CT.Rep];exact⟨by simp,trivial⟩,by simp,?_⟩,trivial⟩;simp only[CT.wf];rw[Array.length_toList];exact hw
   case interface ms =>
    cases c<;>simp[xI]at hs;unfold DataW.trod at h;rw[hund]at h;split at h<;>simp_all
    · exact⟨⟨false,[],by simp only[CT.Rep];exact⟨trivial,.inl ⟨trivial,trivial⟩⟩,by simp,by simp only[CT.wf]⟩,trivial⟩
    · exact⟨⟨true,[],by simp only[CT.Rep];exact⟨trivial,.inr ⟨trivial,_,_,rfl⟩⟩,by simp,by simp only[CT.wf]⟩,trivial⟩
   case slice e =>
    cases c<;>simp[xI]at hs;rename_i f;obtain⟨rfl,hs⟩:=hs;cases hj:vz ti i.elem with
    | none=>rw[hj]at hs;simp at hs
    | some j =>
     rw[hj]at hs;have hjf:j.cs=f:=by
      simp only at hs;cases hsm:Cs.same j.cs f with
      | none=>rw[hsm]at hs;cases hs
      | some q=>exact q.down
     subst hjf;obtain⟨d',u',z',hf'⟩:=hT.facts hj;rcases DataW.trod_slice hund h with ⟨rfl,_⟩|⟨a,len,cap,elems,rest,n,hn,rfl,_,_,hlc,hcap,hel,hget,hsp,_⟩
     · exact⟨⟨[],[],zi.2 (.inl ⟨⟨_,rfl⟩,rfl,rfl⟩),by simp,by simp[CT.wf]⟩,trivial⟩
     obtain rfl:fuel=n:=by omega
     obtain⟨hr1,hr2⟩:=hsp rfl;rw[hf'.cells]at hget hr2;have hpos:=Cs.len_pos j.cs
     have hall:∀k,k<cap->∃vs,w.cells? 0 (a.add (k*j.cs.len)) j.cs.len=some vs/\vT (FI w) j.cs.toL vs:=by
      intro k hk;have key:∀{y:DataW H×List MemPlace},(w.cells? 0 (a.add (k*j.cs.len)) j.cs.len).bind (DataW.trod enc P w 0 (λ_=>true) held fuel i.elem)=some y->∃vs,w.cells? 0 (a.add (k*j.cs.len)) j.cs.len=some vs/\vT (FI w) j.cs.toL vs:=by
       intro y hy;rw[Option.bind_eq_some_iff]at hy;obtain⟨vs,h1,h2⟩:=hy;exact⟨vs,h1,GC hT hD fuel i.elem j vs _ hj h2⟩
      by_cases hkl:k<len
      · have:=hget k hkl;rw[List.getElem?_eq_getElem (by omega)]at this;exact key this
      · have:=hr2 (k-len) (by omega);rw[show len+(k-len)=k by omega,List.getElem?_eq_getElem (by omega)]at this;exact key this
     by_cases hc0:cap=0
     · subst hc0;obtain rfl:len=0:=by omega
       exact⟨⟨[],[],zi.2 (.inl ⟨⟨_,rfl⟩,rfl,rfl⟩),by simp,by simp[CT.wf]⟩,trivial⟩
     obtain⟨vs0,h00,_⟩:=hall 0 (by omega);obtain⟨hl0,hg0⟩:=Ir h00;have h0:w.cell? a=some (vs0[0]'(by omega)):=by
      have:=hg0 0 hpos;rw[Nat.zero_mul,List.getElem?_eq_getElem (by omega)]at this;simpa[Addr.add]using this
     obtain⟨hsp0,c,tc,fz,hcell,_⟩:=N5 h0;obtain⟨b,off,sp⟩:=a;obtain rfl:sp=none:=hsp0;have hcells:∀k,k<cap->∃vs,vs.length=j.cs.len/\(∀q,q<j.cs.len->c[off+k*j.cs.len+q]?=vs[q]?)/\vT (FI w) j.cs.toL vs:=by
      intro k hk;obtain⟨vs,h1,h2⟩:=hall k hk;obtain⟨hl,hg⟩:=Ir h1;refine⟨vs,hl,λq hq=>?_,h2⟩;have:=hg q hq
      rw[yy,yy]at this;rw[←this];simp only[World.cell?,hcell];simp
     have hsize:off+cap*j.cs.len<=c.size:=by
      obtain⟨vs,hl,hg,_⟩:=hcells (cap-1) (by omega);have:=hg (j.cs.len-1) (by omega)
      rw[List.getElem?_eq_getElem (by omega)]at this;have hlt:=(Array.getElem?_eq_some_iff.1 this).1
      have e:cap*j.cs.len=(cap-1)*j.cs.len+j.cs.len:=by rw[←Nat.succ_mul];congr 1;omega
      omega
     have hlensz:len*j.cs.len<=cap*j.cs.len:=Nat.mul_le_mul_right _ hlc
     let vs:=(c.toList.drop off).take (len*j.cs.len)
     have hvl:vs.length=len*j.cs.len:=by simp only[vs,List.length_take,List.length_drop,Array.length_toList];omega
     obtain⟨xs,F,hxl,hL,hQ,hFb⟩:=Ol (R:=Cs.Rep w j.cs) (Q:=λy G=>(∀b∈G,b<w.heap.size)/\Cs.wf j.cs y) len vs hvl (λk hk=>by
      obtain⟨us,hl,hg,hgood⟩:=hcells k (by omega);have e:(vs.drop (k*j.cs.len)).take j.cs.len=us:=by
       have hkk:k*j.cs.len+j.cs.len<=len*j.cs.len:=by rw[←Nat.succ_mul];exact Nat.mul_le_mul_right _ hk
       apply List.ext_getElem?;intro q;by_cases hq:q<j.cs.len
       · rw[List.getElem?_take_of_lt hq,List.getElem?_drop];simp only[vs];rw[List.getElem?_take_of_lt (by omega),List.getElem?_drop,←hg q hq,Array.getElem?_toList]
         congr 1;omega
       · rw[List.getElem?_eq_none (by rw[List.length_take];omega),List.getElem?_eq_none (by omega)]
      rw[e];obtain⟨y,G,k1,k2,k3⟩:=HE j.cs us hgood;exact⟨y,G,k1,k2,k3⟩)
     have hb:b<w.heap.size:=(Array.getElem?_eq_some_iff.1 hcell).1;refine⟨⟨xs,b::F,zi.2 (.inr ⟨b,off,cap,vs,F,?_,rfl,by omega,⟨c,tc,fz,hcell,hsize⟩,⟨c,tc,fz,hcell,?_⟩,hL⟩),λb' hb'=>?_,?_⟩,trivial⟩
     · rw[hxl]
     · rw[hvl]
     · rcases List.mem_cons.1 hb' with rfl|hb'
       · exact hb
       · obtain⟨y,G,⟨k1,_⟩,k2⟩:=hFb b' hb';exact k1 b' k2
     · simp only[CT.wf];exact⟨by omega,λy hy=>by obtain⟨G,_,k⟩:=hQ y hy;exact k⟩
end
end Go.V
namespace Go.V
open Go.RowKit
variable {P:Program} {ti:List (Nat×wk)} {W w:World}

mutual
theorem CT.same_refl:∀c:CT,CT.same c c=some ⟨rfl⟩
 | .int k=>by simp[CT.same]
 | .bool=>rfl
 | .str=>rfl
 | .err=>rfl
 | .sl e=>by simp only[CT.same,Cs.same_refl e]
theorem Cs.same_refl:∀e:Cs,Cs.same e e=some ⟨rfl⟩
 | .one c=>by simp only[Cs.same,CT.same_refl c]
 | .cons c r=>by simp only[Cs.same,CT.same_refl c,Cs.same_refl r]
end
theorem CT.read_cell {F:vv->Option Entry} (c:CT) (x:c.den):(c.read (c.cell x)).Runs F x []:=by
 cases c with
 | int k=>exact (show (cond (Nat.beq (xb k) (xb k)) (Rd.ret x) .fail).Runs F x []from by rw[show Nat.beq (xb k) (xb k)=true from Nat.beq_refl _];exact⟨rfl,rfl⟩)
 | bool=>exact⟨rfl,rfl⟩
 | str=>exact⟨rfl,rfl⟩
 | err=>exact⟨rfl,rfl⟩
 | sl e =>
  show (Fk e (.sh e x)).Runs F x [];simp only[Fk,Cs.same_refl];exact⟨rfl,rfl⟩
theorem Cs.read_cells {F:vv->Option Entry}:∀(c:Cs) (x:c.den),(c.read (c.cells x)).Runs F x []
 | .one c,x=>CT.read_cell c x
 | .cons c r,x=>by
  show ((c.read (c.cell x.1)).bind λa=>(r.read (r.cells x.2)).bind λb=>.ret (a,b)).Runs F x [];exact Rd.bind_runs (L1:=[]) (L2:=[]) (CT.read_cell c x.1) (Rd.bind_runs (L1:=[]) (L2:=[]) (Cs.read_cells r x.2) ⟨rfl,rfl⟩)
def DU:(ps:List wQ)->vI (wi ps)->List AV
 | [],_=>[]
 | .val agg c _::ps,x=>zY agg (c.cells (vI.hd c (wi ps) x))::DU ps (vI.tl c (wi ps) x)
 | .ptr c _::ps,x=>DU ps (vI.tl c (wi ps) x)
theorem FJ {D:vv->Prop} {g:Gh}:∀{ps:List wQ} {x:vI (wi ps)} {vs:List Value},zr ps=true->Ac g.I w ps x vs [] []->vT (wP D g w) (DU ps x) vs
 | [],x,vs,_,⟨h,_⟩=>by subst h;trivial
 | .val agg c false::ps,x,vs,hl,⟨v,vs',us,t1,t2,n1,n2,h1,h2,h3,h4,h5,h6⟩=>by
  subst h1;obtain⟨rfl,rfl⟩:=append_eq_nil_iff.1 h3.symm;obtain⟨rfl,rfl⟩:=append_eq_nil_iff.1 h4.symm;rcases h5 with ⟨_,_,h,_⟩|⟨_,_,_,F,hF,hI⟩
  · cases h
  · exact⟨DP (Cs.cells_rep hF hI) h2,FJ (by simpa[zr]using hl) h6⟩
 | .val _ _ true::_,_,_,hl,_=>by simp[zr]at hl
 | .ptr _ _::_,_,_,hl,_=>by simp[zr]at hl
theorem PG {D:vv->Prop} {g:Gh} {agg:Bool} {c:Cs} {x:c.den} {v:Value} {us:List Value} {F:List Nat} (h:isAgg agg v us) (hF:Cs.Rep w c x us F):CF agg (zY agg (c.cells x))=true/\(zY agg (c.cells x)).cells=c.cells x:=by
 rcases h with ⟨rfl,rfl⟩|⟨rfl,_⟩
 · have hl:=hF.length;cases c with
   | one c=>exact⟨rfl,rfl⟩
   | cons c r =>
    exfalso;have:=Cs.len_pos r
    simp[Cs.len]at hl;omega
 · have:zY true (c.cells x)=.agg (c.cells x):=by cases c.cells x<;>rfl
   rw[this];exact⟨rfl,rfl⟩
theorem EF {I:Nat->Prop} {F:vv->Option Entry}:∀{ps:List wQ} {x:vI (wi ps)} {vs:List Value},zr ps=true->Ac I w ps x vs [] []->∃b:Fq (wi ps),(xg false ps (DU ps x)).Runs F b []/\b.args=x/\b.used=[]/\b.ptrs=[]
 | [],x,vs,_,⟨h,_⟩=>⟨⟨(),[],[],[]⟩,⟨rfl,rfl⟩,rfl,rfl,rfl⟩
 | .val agg c false::ps,x,vs,hl,⟨v,vs',us,t1,t2,n1,n2,h1,h2,h3,h4,h5,h6⟩=>by
  subst h1;obtain⟨rfl,rfl⟩:=append_eq_nil_iff.1 h3.symm;obtain⟨rfl,rfl⟩:=append_eq_nil_iff.1 h4.symm;rcases h5 with ⟨_,_,h,_⟩|⟨_,_,_,G,hG,hI⟩
  · cases h
  · obtain⟨k1,k2⟩:=PG (D:=λ_=>False) (g:=⟨λ_=>False,λ_=>.slice none 0 0,λ_=>0,λ_=>none,λ_=>[],λ_=>[]⟩) h2 hG;obtain⟨b,e1,e2,e3,e4⟩:=EF (F:=F) (show zr ps=true by simpa[zr]using hl) h6;refine⟨⟨vI.mk c (wi ps) (vI.hd c (wi ps) x) b.args,[]++b.used,b.ptrs,cond false [] ((zY agg (c.cells (vI.hd c (wi ps) x))).cells.flatMap Cell.names)++b.ro⟩,?_,?_,?_,e4⟩
    · show (xg false (.val agg c false::ps) (zY agg (c.cells (vI.hd c (wi ps) x))::DU ps (vI.tl c (wi ps) x))).Runs F _ [];rw[xg,k1];refine Rd.bind_runs (L1:=[]) (L2:=[]) (a:=()) ⟨rfl,rfl⟩ ?_;refine Rd.bind_runs (L1:=[]) (L2:=[]) (a:=(vI.hd c (wi ps) x,[])) ?_ ?_
      · refine Rd.bind_runs (L1:=[]) (L2:=[]) (a:=vI.hd c (wi ps) x) ?_ ⟨rfl,rfl⟩;rw[k2];exact Cs.read_cells c _
      · exact Rd.bind_runs (L1:=[]) (L2:=[]) e1 ⟨rfl,rfl⟩
    · show vI.mk c (wi ps) (vI.hd c (wi ps) x) b.args=x;rw[e2];have eta:∀(c:Cs) (r:List Cs) (x:vI (c::r)),vI.mk c r (vI.hd c r x) (vI.tl c r x)=x:=by
       intro c r x;cases r with
       | nil=>rfl
       | cons _ _=>rfl
      exact eta c (wi ps) x
    · simpa using e3
 | .val _ _ true::_,_,_,hl,_=>by simp[zr]at hl
 | .ptr _ _::_,_,_,hl,_=>by simp[zr]at hl
abbrev yesR:List xY:=[.val false (.one .bool) (some true)]
def yes:(ps:List wQ)->vI (xo ps yesR)
 | []=>true
 | .val _ _ _::ps=>yes ps
 | .ptr c _::ps=>vI.mk c (xo ps yesR) c.zero (yes ps)
theorem Ht:∀(ps:List wQ) (n:vv),zr ps=true->vV n ps yesR [] (yes ps)=⟨[.cell (.bool true)],[],[]⟩
 | [],n,_=>rfl
 | .val _ _ false::ps,n,h=>Ht ps n (by simpa[zr]using h)
 | .val _ _ true::_,_,h=>by simp[zr]at h
 | .ptr _ _::_,_,h=>by simp[zr]at h
theorem LJ:∀(ps:List wQ),zr ps=true->zR ps yesR=false:=by
 intro ps h;unfold zR;rw[show yesR.any xY.sh=false from rfl,Bool.or_false];rw[List.any_eq_false];intro p hp;have:=all_eq_true.1 h p hp
 cases p with
 | val _ _ _=>simp[wQ.sh]
 | ptr _ _=>cases this
theorem Om {f:FuncId} {ps:List wQ} {den:vI (wi ps)->Option (vI (xo ps yesR))} (hm:Eg P f ⟨ps,yesR,den⟩) (hl:zr ps=true) {x:vI (wi ps)} {vs:List Value} (ha:Ac (λb=>b<w.heap.size) w ps x vs [] []) (hd:den x=some (yes ps)) :
 Calls P f vs.toArray w λe w'=>e=.returned (.bool true)/\Below w.heap.size w w':=by
 have hM:=MS.start (w:=w) (λb=>b<w.heap.size) (λ_=>False) (λk=>∃b,k=w.heap.size+b/\b<w.heap.size) (λ_ h=>h) (λb h=>⟨b,rfl,h⟩) (λ_ h=>h.elim);have h1:=FJ (D:=dom []) (g:=⟨λb=>b<w.heap.size,λ_=>.slice none 0 0,λ_=>0,λ_=>none,λ_=>[],λ_=>[]⟩) hl ha
 obtain⟨b,h2,e1,e2,e3⟩:=EF (F:=vz []) hl ha;have hs:=LJ ps hl
 have hg:=Ht ps 0 hl;have key:=hm.2 w (λ_=>False) (λk=>∃b,k=w.heap.size+b/\b<w.heap.size) [] _ w 0 (DU ps x) vs b [] (yes ps) hM h1 (by rw[hs];exact h2)
  (by rw[e2];simp[vZ,vz]) (by show den b.args=_;rw[e1];exact hd)
  (by show vZ (vV 0 ps yesR b.ptrs (yes ps)).news=true;rw[e3,hg];rfl) (by intro p hp;have hp:p∈(vV 0 ps yesR b.ptrs (yes ps)).news:=hp;rw[e3,hg]at hp;simp at hp)
 refine key.mono λe w' he=>?_;cases e with
 | returned v =>
  obtain⟨g',hM',_,hv⟩:=he;have hv:wP _ g' w' (EY (vV 0 ps yesR b.ptrs (yes ps)).vals) v:=hv
  rw[e3,hg]at hv;have hv:v=.bool true:=hv
  exact⟨by rw[hv],⟨hM'.since.os,hM'.since.tape,hM'.since.out,hM'.since.size,λk hk=>hM'.since.mem k hk (λh=>h)⟩⟩
 | panicked _=>exact he.elim
 | outgrown=>exact he.elim

theorem JE:∀{ps:List wQ} {x:vI (wi ps)} {vs:List Value},KA w ps x vs->Ac (λb=>b<w.heap.size) w ps x vs [] []
 | [],x,vs,h=>⟨h,rfl,rfl⟩
 | .val agg c false::ps,x,vs,⟨v,vs',us,F,h1,h2,h3,h4⟩=>⟨v,vs',us,[],[],[],[],h1,h2,rfl,rfl,.inr ⟨rfl,rfl,rfl,F,h3,λb hb=>h3.lt b hb⟩,JE h4⟩
 | .val _ _ true::_,_,_,h=>h.elim
 | .ptr .. :: _,_,_,h=>h.elim
theorem LK {ps:List wQ} {rs:List xY} (h:zr ps=true) (k:RR rs=true):zR ps rs=false:=by
 unfold zR;rw[Bool.or_eq_false_iff,List.any_eq_false,List.any_eq_false];refine⟨λp hp=>?_,λr hr=>?_⟩
 · have:=all_eq_true.1 h p hp;cases p with
   | val _ _ _=>simp[wQ.sh]
   | ptr _ _=>cases this
 · have:=all_eq_true.1 k r hr;cases r with
   | val agg c own=>cases hx:EN own<;>simp_all [xY.sh]
   | ptr _ _=>cases this
theorem On {f:FuncId} {F:Fn} (hm:Eg P f F) (hl:zr F.ps=true) (hk:RR F.rs=true):Of P f F:=by
 refine⟨hm.1,λw uid x vs r ha hd hdist=>?_⟩;have hM:=MS.start (w:=w) (λb=>b<w.heap.size) (λ_=>False) (λk=>∃b,k=w.heap.size+b/\b<w.heap.size) (λ_ h=>h) (λb h=>⟨b,rfl,h⟩) (λ_ h=>h.elim)
 have ha':=JE ha;have h1:=FJ (D:=dom []) (g:=⟨λb=>b<w.heap.size,λ_=>.slice none 0 0,λ_=>0,λ_=>none,λ_=>[],λ_=>[]⟩) hl ha'
 obtain⟨b,h2,e1,e2,e3⟩:=EF (F:=vz []) hl ha';have hs:=LK hl hk
 have hu:(vV uid F.ps F.rs [] r).upds=[]:=by
  have:=Ci F.ps F.rs uid [] r;cases hq:(vV uid F.ps F.rs [] r).upds with
  | nil=>rfl
  | cons p l=>exact absurd (this p (by rw[hq];simp)) (by simp)
 have key:=hm.2 w (λ_=>False) (λk=>∃b,k=w.heap.size+b/\b<w.heap.size) [] _ w uid (DU F.ps x) vs b [] r hM h1 (by rw[hs];exact h2)
  (by rw[e2];simp[vZ,vz]) (by rw[e1];exact hd) (by rw[e3];exact hdist) (by intro p hp;rfl)
 refine key.mono λe w' he=>?_;cases e with
 | returned v =>
  obtain⟨g',hM',_,hv⟩:=he;rw[e3,e2,hu]at hM' hv;simp only[List.append_nil]at hM' hv;exact⟨g',_,_,λ_ h=>h,λb hb ⟨c,hc,_⟩=>by omega,hM',hv⟩
 | panicked _=>exact he.elim
 | outgrown=>exact he.elim
theorem AW.cons {l:List (FuncId×Fn)} {f:FuncId} {F:Fn} (h:AW P ⟨ti,l,[],false⟩) (hm:Eg P f F):AW P ⟨ti,(f,F)::l,[],false⟩:=by
 refine⟨h.tis,h.eqs,λk F' hk=>?_,(λf M hf=>by cases hf),(λh=>by cases h)⟩;have hk':(if f=k then some F else vz l k)=some F':=by rw[←vY];exact hk
 clear hk;split at hk'
 · rename_i e;subst e;cases hk';exact hm
 · exact h.fns k F' hk'
theorem AW.trees {l:List (FuncId×Fn)} {m:List (FuncId×RQ)} (h:AW P ⟨ti,l,[],false⟩) (hm:∀f M,vz m f=some M->Qr P f M):AW P ⟨ti,l,m,true⟩ :=
 ⟨h.tis,h.eqs,h.fns,hm,λ_ f F hf hl hk=>On (h.fns f F hf) hl hk⟩

def Is:(ps:List wQ)->vI (wi ps)->Prop
 | [],_=>True
 | .val _ c _::ps,x=>Cs.wf c (vI.hd c (wi ps) x)/\Is ps (vI.tl c (wi ps) x)
 | .ptr c _::ps,x=>Cs.wf c (vI.hd c (wi ps) x)/\Is ps (vI.tl c (wi ps) x)
def H4 (ti:List (Nat×wk)):List TypeId->List wQ->Bool
 | [],[]=>true
 | t::ts,.val agg c false::ps=>(match vz ti t with|some i=>Fr i.agg agg&&(Cs.same i.cs c).isSome|none=>false)&&H4 ti ts ps
 | _,_=>false
theorem Hu:∀{ts:List TypeId} {ps:List wQ},H4 ti ts ps=true->zr ps=true
 | [],[],_=>rfl
 | t::ts,.val agg c false::ps,h=>by
  simp only[H4,aT]at h;simpa[zr]using Hu h.2
 | [],_::_,h=>by cases h
 | _::_,[],h=>by cases h
 | _::_,.val _ _ true::_,h=>by cases h
 | _::_,.ptr _ _::_,h=>by cases h
theorem N6 (hT:yp P ti) {t:Nat} {i:wk} (hi:vz ti t=some i) {base:Nat} {v:Value} (hv:Value.okWide P W .any base t v):isAgg i.agg v v.cells.toList:=by
 obtain⟨d,u,z,hf⟩:=hT.facts hi;cases ha:i.agg with
 | true =>
  obtain⟨fs,hu,_⟩:=hf.agg ha;have hund:=hf.und
  rw[hu]at hund;simp only[Value.okWide,hund]at hv;obtain⟨cs,rfl,_⟩:=hv;exact .inr ⟨rfl,rfl⟩
 | false =>
  obtain⟨c,_,hs⟩:=hf.plain ha;have hund:=hf.und
  left;refine⟨rfl,?_⟩;cases u<;>try (simp[xI]at hs;done)
  all_goals
   simp only[Value.okWide,hund,Cell.okWide]at hv;cases v<;>first|rfl | (simp_all [Cell.ok];done)
theorem KK {H:Type} {enc:TypeId×Value->H} {held:Bool} (hT:yp P ti) (hD:Deep P ti) {base:Nat}:∀{ts:List TypeId} {ps:List wQ} {vs:List Value} {ds:List (DataW H)} {p:List MemPlace},H4 ti ts ps=true->DataW.TrodAll enc P W 0 (λ_=>true) held ts vs ds p ->
 (∀(j:Nat) t v,ts[j]?=some t->vs[j]?=some v->Value.okWide P W .any base t v)->∃x,Ac (λb=>b<W.heap.size) W ps x vs [] []/\Is ps x
 | [],[],[],[],p,_,_,_=>⟨(),⟨rfl,rfl,rfl⟩,trivial⟩
 | t::ts,.val agg c false::ps,v::vs,d::ds,p,hs,h,hv=>by
  obtain⟨p1,q1,⟨fuel,h1⟩,h2,_⟩:=h;simp only[H4,aT]at hs;cases hi:vz ti t with
  | none=>rw[hi]at hs;cases hs.1
  | some i =>
   rw[hi]at hs;simp only[aT]at hs;obtain⟨⟨ha,hc⟩,hs⟩:=hs;obtain rfl:=H2 ha;cases hsm:Cs.same i.cs c with
   | none=>rw[hsm]at hc;cases hc
   | some e =>
    obtain⟨e⟩:=e;subst e;obtain⟨x1,F,k1,k2,k3⟩:=HE i.cs _ (GC hT hD fuel t i _ _ hi h1);obtain⟨x2,k4,k5⟩:=KK (ps:=ps) hT hD hs h2 (λj t v ht hv'=>hv (j+1) t v (by simpa using ht) (by simpa using hv'));have hag:=N6 hT hi (hv 0 t v rfl rfl)
    refine⟨vI.mk i.cs (wi ps) x1 x2,⟨v,vs,v.cells.toList,[],[],[],[],rfl,hag,rfl,rfl,.inr ⟨rfl,rfl,rfl,F,?_,k2⟩,?_⟩,?_⟩
    · show Cs.Rep W i.cs (vI.hd i.cs (wi ps) (vI.mk i.cs (wi ps) x1 x2)) _ F;rw[vI.hd_mk];exact k1
    · show Ac _ W ps (vI.tl i.cs (wi ps) (vI.mk i.cs (wi ps) x1 x2)) vs [] [];rw[vI.tl_mk];exact k4
    · show Cs.wf i.cs (vI.hd i.cs (wi ps) (vI.mk i.cs (wi ps) x1 x2))/\Is ps (vI.tl i.cs (wi ps) (vI.mk i.cs (wi ps) x1 x2));rw[vI.hd_mk,vI.tl_mk];exact⟨k3,k5⟩
 | [],[],_::_,_,_,_,h,_=>by cases h
 | [],[],[],_::_,_,_,h,_=>by cases h
 | _::_,_,[],_,_,_,h,_=>by cases h
 | _::_,_,_::_,[],_,_,h,_=>by cases h
 | [],_::_,_,_,_,hs,_,_=>by cases hs
 | _::_,[],_,_,_,hs,_,_=>by cases hs
 | _::_,.val _ _ true::_,_,_,_,hs,_,_=>by cases hs
 | _::_,.ptr _ _::_,_,_,_,hs,_,_=>by cases hs
theorem law_walk {H:Type} {enc:TypeId×Value->H} {held:Bool} {f:FuncId} {ps:List wQ} {den:vI (wi ps)->Option (vI (xo ps yesR))} (hm:Eg P f ⟨ps,yesR,den⟩) (hT:yp P ti) (hD:Deep P ti) {ts:List TypeId} (hs:H4 ti ts ps=true) (hden:∀x,Is ps x->den x=some (yes ps))
 {base:Nat} {vs:List Value} {ds:List (DataW H)} {p:List MemPlace} (h:DataW.TrodAll enc P W 0 (λ_=>true) held ts vs ds p) (hv:∀(j:Nat) t v,ts[j]?=some t->vs[j]?=some v->Value.okWide P W .any base t v) :
 Calls P f vs.toArray W λe W'=>e=.returned (.bool true)/\Below W.heap.size W W':=by
 obtain⟨x,h1,h2⟩:=KK hT hD hs h hv;exact Om hm (Hu hs) h1 (hden x h2)
end Go.V
namespace Go.V
variable {P:Program} {G:xC} {ann:List (Nat×vQ)} {w w':World}

end Go.V
namespace Go.V
def Cr {α:Type} (a b:Option α):Prop:=∀r,a=some r->b=some r
theorem Cr.refl {α:Type} (a:Option α):Cr a a:=λ_ h=>h
theorem Cr.bind {α β:Type} {a b:Option α} {f g:α->Option β} (h:Cr a b) (k:∀x,Cr (f x) (g x)):Cr (a.bind f) (b.bind g):=by
 intro r hr;rw[Option.bind_eq_some_iff]at hr ⊢;obtain⟨x,h1,h2⟩:=hr;exact⟨x,h x h1,k x r h2⟩
theorem Cr.cond {α:Type} {c:Bool} {a b a' b':Option α} (h:Cr a b) (k:Cr a' b'):Cr (cond c a a') (cond c b b'):=by
 cases c
 · exact k
 · exact h
def Tq {α β:Type} (step:α->Option (α⊕β)) (a:α):Option β:=ze step 2048 a
theorem M2 {α β:Type} {f g:α->Option (α⊕β)} (h:∀x,Cr (f x) (g x)):∀(k:Nat) (a:α),Cr (ze f k a) (ze g k a)
 | 0,a=>Cr.refl _
 | k+1,a=>by
  rw[xj,xj];refine Cr.bind (h a) λx=>?_;cases x with
  | inl x=>exact M2 h k x
  | inr b=>exact Cr.refl _
theorem KL {α β:Type} {f:α->Option (α⊕β)}:∀(k k':Nat) (a:α) {b b':β},ze f k a=some b->ze f k' a=some b'->b=b'
 | 0,_,a,b,b',h,_=>by cases h
 | k+1,0,a,b,b',_,h=>by cases h
 | k+1,k'+1,a,b,b',h,h'=>by
  rw[xj,Option.bind_eq_some_iff]at h h';obtain⟨x,h1,h2⟩:=h;obtain⟨x',h1',h2'⟩:=h';rw[h1]at h1';cases h1';cases x with
  | inl x=>exact KL k k' x h2 h2'
  | inr c=>cases h2;cases h2';rfl
theorem A2 {α β:Type} {f:α->Option (α⊕β)} {k:Nat} {a:α} {b:β} (h:ze f k a=some b):loop f a=some b:=by
 unfold loop;have hex:∃k,(ze f k a).isSome:=⟨k,by rw[h];rfl⟩
 rw[dif_pos hex];have:=Classical.choose_spec hex
 cases hc:ze f (Classical.choose hex) a with
 | none=>rw[hc]at this;cases this
 | some b'=>rw[KL _ _ _ h hc]
theorem Cr.loop {α β:Type} {f g:α->Option (α⊕β)} {a:α} (h:∀x,Cr (f x) (g x)):Cr (Tq f a) (loop g a):=λr hr=>A2 (M2 h _ _ r hr)
theorem vW {n:Int} (h1:-9223372036854775808<=n) (h2:n<=9223372036854775807):vA n=n:=by
 show (let m:=n%18446744073709551616;if (true&&decide (m>=9223372036854775808))=true then m-18446744073709551616 else m)=n;simp only[Bool.true_and,decide_eq_true_eq];split<;>omega
end Go.V
namespace Go.V

theorem vR {α β:Type} {step:α->Option (α⊕β)} (wB:Nat->α->Prop) (m:Nat) (R:β->Prop)
 (h:∀k x,k<m->wB k x->(∃y,step x=some (.inl y)/\wB (k+1) y)\/∃b,step x=some (.inr b)/\R b)
 (he:∀x,wB m x->∃b,step x=some (.inr b)/\R b) {x:α} (h0:wB 0 x):∃b,loop step x=some b/\R b:=by
 have key:∀n k x,k+n=m->wB k x->∃b,ze step (n+1) x=some b/\R b:=by
  intro n
  induction n with
  | zero =>
   intro k x hk hx;obtain rfl:k=m:=by omega
   obtain⟨b,h1,h2⟩:=he x hx;exact⟨b,by rw[xj,h1];rfl,h2⟩
  | succ n ih =>
   intro k x hk hx;rcases h k x (by omega) hx with ⟨y,h1,h2⟩|⟨b,h1,h2⟩
   · obtain⟨b,h3,h4⟩:=ih (k+1) y (by omega) h2;exact⟨b,by rw[xj,h1];exact h3,h4⟩
   · exact⟨b,by rw[xj,h1];rfl,h2⟩
 obtain⟨b,h1,h2⟩:=key m 0 x (by omega) h0;exact⟨b,A2 h1,h2⟩
theorem vL {α:Type} {xs:List α} {k:Nat} (h:k<xs.length):at? xs (k:Int)=some xs[k]:=by
 unfold at?;rw[if_pos (by omega),Int.toNat_natCast,List.getElem?_eq_getElem h]
theorem xJ {n k:Nat} (h:k<n):ix n (k:Int)=some k:=by
 unfold ix;rw[if_pos (by omega),if_pos (by omega),Int.toNat_natCast]
theorem vK {k:Nat} (h:k<9223372036854775807):vA ((k:Int)+1)=((k+1:Nat):Int):=by
 rw[vW (by omega) (by omega)];omega
theorem wm {a b:Int} (h:a<b):decide (a<b)=true:=dT h
theorem wg {a b:Int} (h:¬a<b):decide (a<b)=false:=dF h
theorem R9 {α:Type} {a:List α} {g:α->α->Option Bool} (hg:∀x∈a,g x x=some true) (hn:a.length<=4294967295) :
 loop (λi:Int=>cond (decide (i<(a.length:Int))) ((at? a i).bind λx=>(at? a i).bind λy=>(g x y).bind λt=>cond (!t) (some (.inr (.inr false))) (some (.inl (vA (i+1))))) (some (.inr (.inl ())))) 0=some (Sum.inl ():Unit⊕Bool):=by
 obtain⟨b,h1,rfl⟩:=vR (β:=Unit⊕Bool) (step:=λi:Int=>cond (decide (i<(a.length:Int))) ((at? a i).bind λx=>(at? a i).bind λy=>(g x y).bind λt=>cond (!t) (some (.inr (.inr false))) (some (.inl (vA (i+1))))) (some (.inr (.inl ()))))
  (λk i=>i=(k:Int)) a.length (λb=>b=.inl ())
  (λk i hk h=>by
   subst h;refine .inl ⟨((k+1:Nat):Int),?_,rfl⟩;simp only[wm (show (k:Int)<(a.length:Int) by omega),cT,vL hk,Option.bind_some,hg _ (List.getElem_mem hk),Bool.not_true,cF];rw[vK (by omega)])
  (λi h=>by
   subst h;exact⟨.inl (),by simp only[wg (show ¬(a.length:Int)<(a.length:Int) by omega),cF],rfl⟩) (x:=0) rfl
 exact h1
theorem KM {a:List Int} (hn:a.length<=4294967295) :
 loop (λi:Int=>cond (decide (i<(a.length:Int))) ((at? a i).bind λx=>(at? a i).bind λy=>cond (x != y) (some (.inr (.inr false))) (some (.inl (vA (i+1))))) (some (.inr (.inl ())))) 0=some (Sum.inl ():Unit⊕Bool):=by
 have:=R9 (a:=a) (g:=λx y=>some (!(x != y))) (λx _=>by simp) hn;simpa using this
theorem Oo {n:Nat} {step:Int->Option (Int⊕(Unit⊕Bool))} (h:loop step 0=some (Sum.inl ())):cond ((n:Int) != (n:Int)) (some false) ((loop step 0).bind (Sum.elim (λ_=>some true) (λr=>some r)))=some true:=by
 rw[h];simp
end Go.V
namespace Go.V

end Go.V

