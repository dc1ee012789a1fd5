/- V: a run of the model's code over plain data, and that it is what the machine does. Part 4 of 4. No condition. -/
import Derived.Test.YtpidgkkbmlgehaaGreatV3
import Derived.ChangeOld
import Derived.WideShapes
import Derived.ChangeArms
import Derived.Carry
import Derived.Below
open List (all_eq_true append_eq_nil_iff append_nil length_cons length_take map_append mem_append)
set_option linter.unusedVariables false
set_option linter.unusedSimpArgs false
namespace Go.V

mutual
/-- Whole numbers lie in their kind's range; lengths are lengths. -/
def CT.wf:(c:CT)->c.den->Prop
 | .int k,n=>k.min<=n/\n<=k.max
 | .bool,_=>True
 | .str,s=>s.length<=maxLen
 | .err,_=>True
 | .sl e,xs=>xs.length<=maxLen/\∀x∈xs,Cs.wf e x
def Cs.wf:(e:Cs)->e.den->Prop
 | .one c,x=>CT.wf c x
 | .cons c r,x=>CT.wf c x.1/\Cs.wf r x.2
end
def Cs.toL:Cs->List CT | .one c=>[c] | .cons c r=>c::r.toL
theorem Cs.toL_length:∀e:Cs,e.toL.length=e.len
 | .one _=>rfl
 | .cons _ r=>by simp[Cs.toL,Cs.len,Cs.toL_length r]
def BY:List CT->List CT->Bool
 | [],[]=>true
 | c::l,d::m=>(CT.same c d).isSome&&BY l m
 | _,_=>false
theorem CD:∀{l m:List CT},BY l m=true->l=m
 | [],[],_=>rfl
 | c::l,d::m,h=>by
  simp only[BY,aT]at h;cases hs:CT.same c d with
  | none=>rw[hs]at h;cases h.1
  | some e=>obtain⟨rfl⟩:=e;rw[CD h.2]
 | [],_::_,h=>by cases h
 | _::_,[],h=>by cases h
def tU (ti:List (Nat×pk)):List Field->Nat->Option (List CT)
 | [],_=>some []
 | f::fs,o=>cond (Nat.beq f.offset o) (match oS ti f.type with|some j=>(match tU ti fs (o+j.cs.len)with|some l=>some (j.cs.toL++l)|none=>none)|none=>none) none
def CE (P:Program) (ti:List (Nat×pk)) (p:Nat×pk):Bool :=
 match P.underlying p.1 with
 | some (.struct fs)=>(match tU ti fs.toList 0 with|some l=>BY l p.2.cs.toL|none=>false)
 | _=>true
def Deep (P:Program) (ti:List (Nat×pk)):Prop:=∀t i,oS ti t=some i->CE P ti (t,i)=true
theorem Deep.of_all {P:Program} {ti:List (Nat×pk)} (h:ti.all (CE P ti)=true):Deep P ti:=λt i hi=>all_eq_true.1 h _ (uT hi)
variable {P:Program} {ti:List (Nat×pk)} {w:World}
def y9 (w:World) (c:CT) (v:Value):Prop:=∃x F,CT.Rep w c x v F/\(∀b∈F,b<w.heap.size)/\CT.wf c x
theorem zV:∀(e:Cs) (vs:List Value),p5 (y9 w) e.toL vs->∃x F,Cs.Rep w e x vs F/\(∀b∈F,b<w.heap.size)/\Cs.wf e x
 | .one c,[v],h=>by
  obtain⟨x,F,h1,h2,h3⟩:=h.1;exact⟨x,F,by simp only[Cs.Rep];exact⟨v,rfl,h1⟩,h2,by simp only[Cs.wf];exact h3⟩
 | .one c,[],h=>h.elim
 | .one c,_::_::_,h=>h.2.elim
 | .cons c r,[],h=>h.elim
 | .cons c r,v::vs,h=>by
  obtain⟨x,F,h1,h2,h3⟩:=h.1;obtain⟨y,F',k1,k2,k3⟩:=zV r vs h.2;refine⟨(x,y),F++F',by simp only[Cs.Rep];exact⟨v,vs,F,F',rfl,rfl,h1,k1⟩,λb hb=>(mem_append.1 hb).elim (h2 b) (k2 b),by simp only[Cs.wf];exact⟨h3,k3⟩⟩
theorem Fy {α:Type} {n:Nat} {R:α->List Value->List Nat->Prop} {Q:α->List Nat->Prop}:∀(m:Nat) (vs:List Value),vs.length=m*n->(∀i,i<m->∃y F,R y ((vs.drop (i*n)).take n) F/\Q y F) ->
 ∃xs F,xs.length=m/\pb n R xs vs F/\(∀x∈xs,∃G,Q x G)/\∀b∈F,∃x G,Q x G/\b∈G
 | 0,vs,h,_=>⟨[],[],rfl,⟨by simpa using h,rfl⟩,by simp,by simp⟩
 | m+1,vs,h,hr=>by
  obtain⟨y,F,h1,h2⟩:=hr 0 (by omega);rw[Nat.zero_mul,List.drop_zero]at h1;have hn:n<=vs.length:=by rw[h,Nat.add_mul];omega
  obtain⟨xs,F',k1,k2,k3,k4⟩:=Fy (n:=n) (R:=R) (Q:=Q) m (vs.drop n) (by rw[List.length_drop,h,Nat.add_mul];omega) (λi hi=>by
   obtain⟨y,F,h1,h2⟩:=hr (i+1) (by omega);exact⟨y,F,by rw[List.drop_drop];rw[Nat.add_mul,Nat.one_mul,Nat.add_comm]at h1;exact h1,h2⟩)
  refine⟨y::xs,F++F',by simp[k1],⟨vs.take n,vs.drop n,F,F',(List.take_append_drop n vs).symm,by rw[length_take];omega,rfl,h1,k2⟩,λx hx=>?_,λb hb=>?_⟩
  · rcases List.mem_cons.1 hx with rfl|hx
    · exact⟨F,h2⟩
    · exact k3 x hx
  · rcases mem_append.1 hb with hb|hb
    · exact⟨y,F,h2,hb⟩
    · exact k4 b hb
theorem wI:∀{fs:List Field} {o:Nat} {l:List CT} {vs:List Value},tU ti fs o=some l->vs.length=o+l.length ->
 (∀f∈fs,∀j,oS ti f.type=some j->p5 (y9 w) j.cs.toL ((vs.drop f.offset).take j.cs.len))->p5 (y9 w) l (vs.drop o)
 | [],o,l,vs,h,hl,_=>by
  cases h;rw[List.drop_of_length_le (by simpa using Nat.le_of_eq hl)];trivial
 | f::fs,o,l,vs,h,hl,hg=>by
  simp only[tU]at h;cases ho:Nat.beq f.offset o with
  | false=>rw[ho]at h;cases h
  | true =>
   rw[ho]at h;obtain rfl:=Nat.eq_of_beq_eq_true ho;cases hj:oS ti f.type with
   | none=>rw[hj]at h;cases h
   | some j =>
    rw[hj]at h;simp only[cT]at h;cases hr:tU ti fs (f.offset+j.cs.len)with
    | none=>rw[hr]at h;cases h
    | some m =>
     rw[hr]at h;cases h;rw[List.length_append,Cs.toL_length]at hl;have h1:=hg f List.mem_cons_self j hj
     have h2:=wI hr (vs:=vs) (by omega) (λf' hf'=>hg f' (List.mem_cons_of_mem _ hf'));have e:vs.drop f.offset=(vs.drop f.offset).take j.cs.len++vs.drop (f.offset+j.cs.len):=by
      conv=>lhs;rw[←List.take_append_drop j.cs.len (vs.drop f.offset)]
      rw[List.drop_drop]
     rw[e];exact h1.append h2
section
variable {H:Type} {enc:TypeId×Value->H} {held:Bool}
theorem sj.cells {t:Nat} {i:pk} {d:TypeInfo} {u:TypeDesc} {z:Value} (h:sj P ti t i d u z):P.cellsOf t=i.cs.len:=by
 simp[Program.cellsOf,h.info,h.size]
theorem AH {base:Nat} {a:Addr} {n:Nat} {vs:List Value} (h:w.cells? base a n=some vs):vs.length=n/\∀k,k<n->w.cell? (a.add k)=vs[k]?:=by
 unfold World.cells? at h;split at h
 · refine⟨by simpa using mapM_some_length h,λk hk=>?_⟩;exact mapM_some_get h k k (by simp[hk])
 · cases h
theorem Ex {a:Addr} {v:Value} (h:w.cell? a=some v):a.spot=none/\∃c t fz,w.heap[a.block]?=some (.cells c t fz)/\c[a.off]?=some v:=by
 unfold World.cell? at h;split at h
 · rename_i c t fz hc;split at h
   · cases h
   · rename_i hs;exact⟨by
      cases hsp : a.spot with
      | none=>rfl
      | some _=>rw[hsp]at hs;simp at hs,c,t,fz,hc,h⟩
 · cases h
theorem yW (hT:qG P ti) (hD:Deep P ti):∀(fuel:Nat) (t:Nat) (i:pk) (cs:List Value) (x:DataW H×List MemPlace),oS ti t=some i->DataW.trod enc P w 0 (λ_=>true) held fuel t cs=some x->p5 (y9 w) i.cs.toL cs
 | 0,t,i,cs,x,hi,h=>by simp[DataW.trod]at h
 | fuel+1,t,i,cs,x,hi,h=>by
  obtain⟨d,u,z,hf⟩:=hT.facts hi;cases ha:i.agg with
  | true =>
   obtain⟨fs,hu,_⟩:=hf.agg ha;have hund:=hf.und
   rw[hu]at hund;obtain⟨xs,n,hn,_,hlen,hxs,hget⟩:=DataW.trod_struct hund h;obtain rfl:fuel=n:=by omega
   have hd:=hD t i hi;unfold CE at hd;simp only[hund]at hd;cases hdf:tU ti fs.toList 0 with
   | none=>rw[hdf]at hd;cases hd
   | some l =>
    rw[hdf]at hd;obtain rfl:=CD hd;have hlen':cs.length=0+i.cs.toL.length:=by rw[hlen,hf.cells,Cs.toL_length];omega
    have:=wI (w:=w) hdf hlen' (λf hfm j hj=>by
     obtain⟨k,hk,hkf⟩:=List.mem_iff_getElem.1 hfm;have hfk:fs[k]?=some f:=by rw[←hkf];simp at hk ⊢
     have hg:=hget k f hfk;have hkx:k<xs.length:=by rw[hxs];simpa using hk
     rw[List.getElem?_eq_getElem hkx]at hg;obtain⟨d',u',z',hf'⟩:=hT.facts hj;rw[hf'.cells]at hg;exact yW hT hD fuel f.type j _ _ hj hg)
    simpa using this
  | false =>
   obtain⟨c,hc,hs⟩:=hf.plain ha;rw[hc];have hund:=hf.und
   cases u<;>try (simp[qk]at hs;done)
   case bool =>
    obtain⟨b,rfl,_⟩:=DataW.trod_bool hund h;cases c<;>simp[qk]at hs;exact⟨⟨b,[],by simp only[CT.Rep];exact⟨trivial,trivial⟩,by simp,by simp only[CT.wf]⟩,trivial⟩
   case int k =>
    obtain⟨n,rfl,_,hw⟩:=DataW.trod_int hund h;cases c<;>simp[qk]at hs;obtain rfl:=rX hs;simp only[Lit.wf,aT,decide_eq_true_eq]at hw;exact⟨⟨n,[],by simp only[CT.Rep];exact⟨trivial,trivial⟩,by simp,by simp only[CT.wf];exact hw⟩,trivial⟩
   case string =>
    obtain⟨s,rfl,_,hw⟩:=DataW.trod_string hund h;cases c<;>simp[qk]at hs;refine⟨⟨s.data.toList,[],by simp only[CT.Rep];exact⟨by simp,trivial⟩,by simp,?_⟩,trivial⟩;simp only[CT.wf];rw[Array.length_toList];exact hw
   case interface ms =>
    cases c<;>simp[qk]at hs;unfold DataW.trod at h;rw[hund]at h;split at h<;>simp_all
    · exact⟨⟨false,[],by simp only[CT.Rep];exact⟨trivial,.inl ⟨trivial,trivial⟩⟩,by simp,by simp only[CT.wf]⟩,trivial⟩
    · exact⟨⟨true,[],by simp only[CT.Rep];exact⟨trivial,.inr ⟨trivial,_,_,rfl⟩⟩,by simp,by simp only[CT.wf]⟩,trivial⟩
   case slice e =>
    cases c<;>simp[qk]at hs;rename_i f;obtain⟨rfl,hs⟩:=hs;cases hj:oS ti i.elem with
    | none=>rw[hj]at hs;simp at hs
    | some j =>
     rw[hj]at hs;have hjf:j.cs=f:=by
      simp only at hs;cases hsm:Cs.same j.cs f with
      | none=>rw[hsm]at hs;cases hs
      | some q=>exact q.down
     subst hjf;obtain⟨d',u',z',hf'⟩:=hT.facts hj;rcases DataW.trod_slice hund h with ⟨rfl,_⟩|⟨a,len,cap,elems,rest,n,hn,rfl,_,_,hlc,hcap,hel,hget,hsp,_⟩
     · exact⟨⟨[],[],rr.2 (.inl ⟨⟨_,rfl⟩,rfl,rfl⟩),by simp,by simp[CT.wf]⟩,trivial⟩
     obtain rfl:fuel=n:=by omega
     obtain⟨hr1,hr2⟩:=hsp rfl;rw[hf'.cells]at hget hr2;have hpos:=Cs.len_pos j.cs
     have hall:∀k,k<cap->∃vs,w.cells? 0 (a.add (k*j.cs.len)) j.cs.len=some vs/\p5 (y9 w) j.cs.toL vs:=by
      intro k hk;have key:∀{y:DataW H×List MemPlace},(w.cells? 0 (a.add (k*j.cs.len)) j.cs.len).bind (DataW.trod enc P w 0 (λ_=>true) held fuel i.elem)=some y->∃vs,w.cells? 0 (a.add (k*j.cs.len)) j.cs.len=some vs/\p5 (y9 w) j.cs.toL vs:=by
       intro y hy;rw[Option.bind_eq_some_iff]at hy;obtain⟨vs,h1,h2⟩:=hy;exact⟨vs,h1,yW hT hD fuel i.elem j vs _ hj h2⟩
      by_cases hkl:k<len
      · have:=hget k hkl;rw[List.getElem?_eq_getElem (by omega)]at this;exact key this
      · have:=hr2 (k-len) (by omega);rw[show len+(k-len)=k by omega,List.getElem?_eq_getElem (by omega)]at this;exact key this
     by_cases hc0:cap=0
     · subst hc0;obtain rfl:len=0:=by omega
       exact⟨⟨[],[],rr.2 (.inl ⟨⟨_,rfl⟩,rfl,rfl⟩),by simp,by simp[CT.wf]⟩,trivial⟩
     obtain⟨vs0,h00,_⟩:=hall 0 (by omega);obtain⟨hl0,hg0⟩:=AH h00;have h0:w.cell? a=some (vs0[0]'(by omega)):=by
      have:=hg0 0 hpos;rw[Nat.zero_mul,List.getElem?_eq_getElem (by omega)]at this;simpa[Addr.add]using this
     obtain⟨hsp0,c,tc,fz,hcell,_⟩:=Ex h0;obtain⟨b,off,sp⟩:=a;obtain rfl:sp=none:=hsp0;have hcells:∀k,k<cap->∃vs,vs.length=j.cs.len/\(∀q,q<j.cs.len->c[off+k*j.cs.len+q]?=vs[q]?)/\p5 (y9 w) j.cs.toL vs:=by
      intro k hk;obtain⟨vs,h1,h2⟩:=hall k hk;obtain⟨hl,hg⟩:=AH h1;refine⟨vs,hl,λq hq=>?_,h2⟩;have:=hg q hq
      rw[qO,qO]at this;rw[←this];simp only[World.cell?,hcell];simp
     have hsize:off+cap*j.cs.len<=c.size:=by
      obtain⟨vs,hl,hg,_⟩:=hcells (cap-1) (by omega);have:=hg (j.cs.len-1) (by omega)
      rw[List.getElem?_eq_getElem (by omega)]at this;have hlt:=(Array.getElem?_eq_some_iff.1 this).1
      have e:cap*j.cs.len=(cap-1)*j.cs.len+j.cs.len:=by rw[←Nat.succ_mul];congr 1;omega
      omega
     have hlensz:len*j.cs.len<=cap*j.cs.len:=Nat.mul_le_mul_right _ hlc
     let vs:=(c.toList.drop off).take (len*j.cs.len)
     have hvl:vs.length=len*j.cs.len:=by simp only[vs,length_take,List.length_drop,Array.length_toList];omega
     obtain⟨xs,F,hxl,hL,hQ,hFb⟩:=Fy (R:=Cs.Rep w j.cs) (Q:=λy G=>(∀b∈G,b<w.heap.size)/\Cs.wf j.cs y) len vs hvl (λk hk=>by
      obtain⟨us,hl,hg,hgood⟩:=hcells k (by omega);have e:(vs.drop (k*j.cs.len)).take j.cs.len=us:=by
       have hkk:k*j.cs.len+j.cs.len<=len*j.cs.len:=by rw[←Nat.succ_mul];exact Nat.mul_le_mul_right _ hk
       apply List.ext_getElem?;intro q;by_cases hq:q<j.cs.len
       · rw[List.getElem?_take_of_lt hq,List.getElem?_drop];simp only[vs];rw[List.getElem?_take_of_lt (by omega),List.getElem?_drop,←hg q hq,Array.getElem?_toList]
         congr 1;omega
       · rw[List.getElem?_eq_none (by rw[length_take];omega),List.getElem?_eq_none (by omega)]
      rw[e];obtain⟨y,G,k1,k2,k3⟩:=zV j.cs us hgood;exact⟨y,G,k1,k2,k3⟩)
     have hb:b<w.heap.size:=(Array.getElem?_eq_some_iff.1 hcell).1;refine⟨⟨xs,b::F,rr.2 (.inr ⟨b,off,cap,vs,F,?_,rfl,by omega,⟨c,tc,fz,hcell,hsize⟩,⟨c,tc,fz,hcell,?_⟩,hL⟩),λb' hb'=>?_,?_⟩,trivial⟩
     · rw[hxl]
     · rw[hvl]
     · rcases List.mem_cons.1 hb' with rfl|hb'
       · exact hb
       · obtain⟨y,G,⟨k1,_⟩,k2⟩:=hFb b' hb';exact k1 b' k2
     · simp only[CT.wf];exact⟨by omega,λy hy=>by obtain⟨G,_,k⟩:=hQ y hy;exact k⟩
end
end Go.V
namespace Go.V
open Go.RowKit
variable {P:Program} {ti:List (Nat×pk)} {W w:World}

mutual
theorem CT.same_refl:∀c:CT,CT.same c c=some ⟨rfl⟩
 | .int k=>by simp[CT.same]
 | .bool=>rfl
 | .str=>rfl
 | .err=>rfl
 | .sl e=>by simp only[CT.same,Cs.same_refl e]
theorem Cs.same_refl:∀e:Cs,Cs.same e e=some ⟨rfl⟩
 | .one c=>by simp only[Cs.same,CT.same_refl c]
 | .cons c r=>by simp only[Cs.same,CT.same_refl c,Cs.same_refl r]
end
theorem CT.read_cell {F:an->Option Entry} (c:CT) (x:c.den):(c.read (c.cell x)).Runs F x []:=by
 cases c with
 | int k=>exact (show (cond (Nat.beq (pP k) (pP k)) (Rd.ret x) .fail).Runs F x []from by rw[show Nat.beq (pP k) (pP k)=true from Nat.beq_refl _];exact⟨rfl,rfl⟩)
 | bool=>exact⟨rfl,rfl⟩
 | str=>exact⟨rfl,rfl⟩
 | err=>exact⟨rfl,rfl⟩
 | sl e =>
  show (uZ e (.sh e x)).Runs F x [];simp only[uZ,Cs.same_refl];exact⟨rfl,rfl⟩
theorem Cs.read_cells {F:an->Option Entry}:∀(c:Cs) (x:c.den),(c.read (c.cells x)).Runs F x []
 | .one c,x=>CT.read_cell c x
 | .cons c r,x=>by
  show ((c.read (c.cell x.1)).bind λa=>(r.read (r.cells x.2)).bind λb=>.ret (a,b)).Runs F x [];exact Rd.bind_runs (L1:=[]) (L2:=[]) (CT.read_cell c x.1) (Rd.bind_runs (L1:=[]) (L2:=[]) (Cs.read_cells r x.2) ⟨rfl,rfl⟩)
def w9:(ps:List pF)->oW (pf ps)->List AV
 | [],_=>[]
 | .val agg c _::ps,x=>rm agg (c.cells (oW.hd c (pf ps) x))::w9 ps (oW.tl c (pf ps) x)
 | .ptr c _::ps,x=>w9 ps (oW.tl c (pf ps) x)
theorem ya {D:an->Prop} {g:Gh}:∀{ps:List pF} {x:oW (pf ps)} {vs:List Value},ql ps=true->sn g.I w ps x vs [] []->p5 (pp D g w) (w9 ps x) vs
 | [],x,vs,_,⟨h,_⟩=>by subst h;trivial
 | .val agg c false::ps,x,vs,hl,⟨v,vs',us,t1,t2,n1,n2,h1,h2,h3,h4,h5,h6⟩=>by
  subst h1;obtain⟨rfl,rfl⟩:=append_eq_nil_iff.1 h3.symm;obtain⟨rfl,rfl⟩:=append_eq_nil_iff.1 h4.symm;rcases h5 with ⟨_,_,h,_⟩|⟨_,_,_,F,hF,hI⟩
  · cases h
  · exact⟨uW (Cs.cells_rep hF hI) h2,ya (by simpa[ql]using hl) h6⟩
 | .val _ _ true::_,_,_,hl,_=>by simp[ql]at hl
 | .ptr _ _::_,_,_,hl,_=>by simp[ql]at hl
theorem GG {D:an->Prop} {g:Gh} {agg:Bool} {c:Cs} {x:c.den} {v:Value} {us:List Value} {F:List Nat} (h:isAgg agg v us) (hF:Cs.Rep w c x us F):tn agg (rm agg (c.cells x))=true/\(rm agg (c.cells x)).cells=c.cells x:=by
 rcases h with ⟨rfl,rfl⟩|⟨rfl,_⟩
 · have hl:=hF.length;cases c with
   | one c=>exact⟨rfl,rfl⟩
   | cons c r =>
    exfalso;have:=Cs.len_pos r
    simp[Cs.len]at hl;omega
 · have:rm true (c.cells x)=.agg (c.cells x):=by cases c.cells x<;>rfl
   rw[this];exact⟨rfl,rfl⟩
theorem xe {I:Nat->Prop} {F:an->Option Entry}:∀{ps:List pF} {x:oW (pf ps)} {vs:List Value},ql ps=true->sn I w ps x vs [] []->∃b:xN (pf ps),(pX false ps (w9 ps x)).Runs F b []/\b.args=x/\b.used=[]/\b.ptrs=[]
 | [],x,vs,_,⟨h,_⟩=>⟨⟨(),[],[],[]⟩,⟨rfl,rfl⟩,rfl,rfl,rfl⟩
 | .val agg c false::ps,x,vs,hl,⟨v,vs',us,t1,t2,n1,n2,h1,h2,h3,h4,h5,h6⟩=>by
  subst h1;obtain⟨rfl,rfl⟩:=append_eq_nil_iff.1 h3.symm;obtain⟨rfl,rfl⟩:=append_eq_nil_iff.1 h4.symm;rcases h5 with ⟨_,_,h,_⟩|⟨_,_,_,G,hG,hI⟩
  · cases h
  · obtain⟨k1,k2⟩:=GG (D:=λ_=>False) (g:=⟨λ_=>False,λ_=>.slice none 0 0,λ_=>0,λ_=>none,λ_=>[],λ_=>[]⟩) h2 hG;obtain⟨b,e1,e2,e3,e4⟩:=xe (F:=F) (show ql ps=true by simpa[ql]using hl) h6;refine⟨⟨oW.mk c (pf ps) (oW.hd c (pf ps) x) b.args,[]++b.used,b.ptrs,cond false [] ((rm agg (c.cells (oW.hd c (pf ps) x))).cells.flatMap Cell.names)++b.ro⟩,?_,?_,?_,e4⟩
    · show (pX false (.val agg c false::ps) (rm agg (c.cells (oW.hd c (pf ps) x))::w9 ps (oW.tl c (pf ps) x))).Runs F _ [];rw[pX,k1];refine Rd.bind_runs (L1:=[]) (L2:=[]) (a:=()) ⟨rfl,rfl⟩ ?_;refine Rd.bind_runs (L1:=[]) (L2:=[]) (a:=(oW.hd c (pf ps) x,[])) ?_ ?_
      · refine Rd.bind_runs (L1:=[]) (L2:=[]) (a:=oW.hd c (pf ps) x) ?_ ⟨rfl,rfl⟩;rw[k2];exact Cs.read_cells c _
      · exact Rd.bind_runs (L1:=[]) (L2:=[]) e1 ⟨rfl,rfl⟩
    · show oW.mk c (pf ps) (oW.hd c (pf ps) x) b.args=x;rw[e2];have eta:∀(c:Cs) (r:List Cs) (x:oW (c::r)),oW.mk c r (oW.hd c r x) (oW.tl c r x)=x:=by
       intro c r x;cases r with
       | nil=>rfl
       | cons _ _=>rfl
      exact eta c (pf ps) x
    · simpa using e3
 | .val _ _ true::_,_,_,hl,_=>by simp[ql]at hl
 | .ptr _ _::_,_,_,hl,_=>by simp[ql]at hl
abbrev yesR:List qi:=[.val false (.one .bool) (some true)]
def zL:(ps:List pF)->oW (pW ps yesR)
 | []=>true
 | .val _ _ _::ps=>zL ps
 | .ptr c _::ps=>oW.mk c (pW ps yesR) c.zero (zL ps)
theorem zM:∀(ps:List pF) (n:an),ql ps=true->oZ n ps yesR [] (zL ps)=⟨[.cell (.bool true)],[],[]⟩
 | [],n,_=>rfl
 | .val _ _ false::ps,n,h=>zM ps n (by simpa[ql]using h)
 | .val _ _ true::_,_,h=>by simp[ql]at h
 | .ptr _ _::_,_,h=>by simp[ql]at h
theorem Dt:∀(ps:List pF),ql ps=true->rJ ps yesR=false:=by
 intro ps h;unfold rJ;rw[show yesR.any qi.sh=false from rfl,Bool.or_false];rw[List.any_eq_false];intro p hp;have:=all_eq_true.1 h p hp
 cases p with
 | val _ _ _=>simp[pF.sh]
 | ptr _ _=>cases this
theorem Fz {f:FuncId} {ps:List pF} {den:oW (pf ps)->Option (oW (pW ps yesR))} (hm:vC P f ⟨ps,yesR,den⟩) (hl:ql ps=true) {x:oW (pf ps)} {vs:List Value} (ha:sn (λb=>b<w.heap.size) w ps x vs [] []) (hd:den x=some (zL ps)) :
 Calls P f vs.toArray w λe w'=>e=.returned (.bool true)/\Below w.heap.size w w':=by
 have hM:=MS.start (w:=w) (λb=>b<w.heap.size) (λ_=>False) (λk=>∃b,k=w.heap.size+b/\b<w.heap.size) (λ_ h=>h) (λb h=>⟨b,rfl,h⟩) (λ_ h=>h.elim);have h1:=ya (D:=dom []) (g:=⟨λb=>b<w.heap.size,λ_=>.slice none 0 0,λ_=>0,λ_=>none,λ_=>[],λ_=>[]⟩) hl ha
 obtain⟨b,h2,e1,e2,e3⟩:=xe (F:=oS []) hl ha;have hs:=Dt ps hl
 have hg:=zM ps 0 hl;have key:=hm.2 w (λ_=>False) (λk=>∃b,k=w.heap.size+b/\b<w.heap.size) [] _ w 0 (w9 ps x) vs b [] (zL ps) hM h1 (by rw[hs];exact h2)
  (by rw[e2];simp[p6,oS]) (by show den b.args=_;rw[e1];exact hd)
  (by show p6 (oZ 0 ps yesR b.ptrs (zL ps)).news=true;rw[e3,hg];rfl) (by intro p hp;have hp:p∈(oZ 0 ps yesR b.ptrs (zL ps)).news:=hp;rw[e3,hg]at hp;simp at hp)
 refine key.mono λe w' he=>?_;cases e with
 | returned v =>
  obtain⟨g',hM',_,hv⟩:=he;have hv:pp _ g' w' (u7 (oZ 0 ps yesR b.ptrs (zL ps)).vals) v:=hv
  rw[e3,hg]at hv;have hv:v=.bool true:=hv
  exact⟨by rw[hv],⟨hM'.since.os,hM'.since.tape,hM'.since.out,hM'.since.size,λk hk=>hM'.since.mem k hk (λh=>h)⟩⟩
 | panicked _=>exact he.elim
 | outgrown=>exact he.elim

theorem BH:∀{ps:List pF} {x:oW (pf ps)} {vs:List Value},yL w ps x vs->sn (λb=>b<w.heap.size) w ps x vs [] []
 | [],x,vs,h=>⟨h,rfl,rfl⟩
 | .val agg c false::ps,x,vs,⟨v,vs',us,F,h1,h2,h3,h4⟩=>⟨v,vs',us,[],[],[],[],h1,h2,rfl,rfl,.inr ⟨rfl,rfl,rfl,F,h3,λb hb=>h3.lt b hb⟩,BH h4⟩
 | .val _ _ true::_,_,_,h=>h.elim
 | .ptr .. :: _,_,_,h=>h.elim
theorem Du {ps:List pF} {rs:List qi} (h:ql ps=true) (k:xj rs=true):rJ ps rs=false:=by
 unfold rJ;rw[Bool.or_eq_false_iff,List.any_eq_false,List.any_eq_false];refine⟨λp hp=>?_,λr hr=>?_⟩
 · have:=all_eq_true.1 h p hp;cases p with
   | val _ _ _=>simp[pF.sh]
   | ptr _ _=>cases this
 · have:=all_eq_true.1 k r hr;cases r with
   | val agg c own=>cases hx:uA own<;>simp_all [qi.sh]
   | ptr _ _=>cases this
theorem FA {f:FuncId} {F:Fn} (hm:vC P f F) (hl:ql F.ps=true) (hk:xj F.rs=true):Cv P f F:=by
 refine⟨hm.1,λw uid x vs r ha hd hdist=>?_⟩;have hM:=MS.start (w:=w) (λb=>b<w.heap.size) (λ_=>False) (λk=>∃b,k=w.heap.size+b/\b<w.heap.size) (λ_ h=>h) (λb h=>⟨b,rfl,h⟩) (λ_ h=>h.elim)
 have ha':=BH ha;have h1:=ya (D:=dom []) (g:=⟨λb=>b<w.heap.size,λ_=>.slice none 0 0,λ_=>0,λ_=>none,λ_=>[],λ_=>[]⟩) hl ha'
 obtain⟨b,h2,e1,e2,e3⟩:=xe (F:=oS []) hl ha';have hs:=Du hl hk
 have hu:(oZ uid F.ps F.rs [] r).upds=[]:=by
  have:=uL F.ps F.rs uid [] r;cases hq:(oZ uid F.ps F.rs [] r).upds with
  | nil=>rfl
  | cons p l=>exact absurd (this p (by rw[hq];simp)) (by simp)
 have key:=hm.2 w (λ_=>False) (λk=>∃b,k=w.heap.size+b/\b<w.heap.size) [] _ w uid (w9 F.ps x) vs b [] r hM h1 (by rw[hs];exact h2)
  (by rw[e2];simp[p6,oS]) (by rw[e1];exact hd) (by rw[e3];exact hdist) (by intro p hp;rfl)
 refine key.mono λe w' he=>?_;cases e with
 | returned v =>
  obtain⟨g',hM',_,hv⟩:=he;rw[e3,e2,hu]at hM' hv;simp only[append_nil]at hM' hv;exact⟨g',_,_,λ_ h=>h,λb hb ⟨c,hc,_⟩=>by omega,hM',hv⟩
 | panicked _=>exact he.elim
 | outgrown=>exact he.elim
theorem rp.cons {l:List (FuncId×Fn)} {f:FuncId} {F:Fn} (h:rp P ⟨ti,l,[],false⟩) (hm:vC P f F):rp P ⟨ti,(f,F)::l,[],false⟩:=by
 refine⟨h.tis,h.eqs,λk F' hk=>?_,(λf M hf=>by cases hf),(λh=>by cases h)⟩;have hk':(if f=k then some F else oS l k)=some F':=by rw[←p8];exact hk
 clear hk;split at hk'
 · rename_i e;subst e;cases hk';exact hm
 · exact h.fns k F' hk'
theorem rp.trees {l:List (FuncId×Fn)} {m:List (FuncId×sY)} (h:rp P ⟨ti,l,[],false⟩) (hm:∀f M,oS m f=some M->r7 P f M):rp P ⟨ti,l,m,true⟩ :=
 ⟨h.tis,h.eqs,h.fns,hm,λ_ f F hf hl hk=>FA (h.fns f F hf) hl hk⟩

def AI:(ps:List pF)->oW (pf ps)->Prop
 | [],_=>True
 | .val _ c _::ps,x=>Cs.wf c (oW.hd c (pf ps) x)/\AI ps (oW.tl c (pf ps) x)
 | .ptr c _::ps,x=>Cs.wf c (oW.hd c (pf ps) x)/\AI ps (oW.tl c (pf ps) x)
def zh (ti:List (Nat×pk)):List TypeId->List pF->Bool
 | [],[]=>true
 | t::ts,.val agg c false::ps=>(match oS ti t with|some i=>xP i.agg agg&&(Cs.same i.cs c).isSome|none=>false)&&zh ti ts ps
 | _,_=>false
theorem zN:∀{ts:List TypeId} {ps:List pF},zh ti ts ps=true->ql ps=true
 | [],[],_=>rfl
 | t::ts,.val agg c false::ps,h=>by
  simp only[zh,aT]at h;simpa[ql]using zN h.2
 | [],_::_,h=>by cases h
 | _::_,[],h=>by cases h
 | _::_,.val _ _ true::_,h=>by cases h
 | _::_,.ptr _ _::_,h=>by cases h
theorem Ey (hT:qG P ti) {t:Nat} {i:pk} (hi:oS ti t=some i) {base:Nat} {v:Value} (hv:Value.okWide P W .any base t v):isAgg i.agg v v.cells.toList:=by
 obtain⟨d,u,z,hf⟩:=hT.facts hi;cases ha:i.agg with
 | true =>
  obtain⟨fs,hu,_⟩:=hf.agg ha;have hund:=hf.und
  rw[hu]at hund;simp only[Value.okWide,hund]at hv;obtain⟨cs,rfl,_⟩:=hv;exact .inr ⟨rfl,rfl⟩
 | false =>
  obtain⟨c,_,hs⟩:=hf.plain ha;have hund:=hf.und
  left;refine⟨rfl,?_⟩;cases u<;>try (simp[qk]at hs;done)
  all_goals
   simp only[Value.okWide,hund,Cell.okWide]at hv;cases v<;>first|rfl | (simp_all [Cell.ok];done)
theorem CF {H:Type} {enc:TypeId×Value->H} {held:Bool} (hT:qG P ti) (hD:Deep P ti) {base:Nat}:∀{ts:List TypeId} {ps:List pF} {vs:List Value} {ds:List (DataW H)} {p:List MemPlace},zh ti ts ps=true->DataW.TrodAll enc P W 0 (λ_=>true) held ts vs ds p ->
 (∀(j:Nat) t v,ts[j]?=some t->vs[j]?=some v->Value.okWide P W .any base t v)->∃x,sn (λb=>b<W.heap.size) W ps x vs [] []/\AI ps x
 | [],[],[],[],p,_,_,_=>⟨(),⟨rfl,rfl,rfl⟩,trivial⟩
 | t::ts,.val agg c false::ps,v::vs,d::ds,p,hs,h,hv=>by
  obtain⟨p1,q1,⟨fuel,h1⟩,h2,_⟩:=h;simp only[zh,aT]at hs;cases hi:oS ti t with
  | none=>rw[hi]at hs;cases hs.1
  | some i =>
   rw[hi]at hs;simp only[aT]at hs;obtain⟨⟨ha,hc⟩,hs⟩:=hs;obtain rfl:=zf ha;cases hsm:Cs.same i.cs c with
   | none=>rw[hsm]at hc;cases hc
   | some e =>
    obtain⟨e⟩:=e;subst e;obtain⟨x1,F,k1,k2,k3⟩:=zV i.cs _ (yW hT hD fuel t i _ _ hi h1);obtain⟨x2,k4,k5⟩:=CF (ps:=ps) hT hD hs h2 (λj t v ht hv'=>hv (j+1) t v (by simpa using ht) (by simpa using hv'));have hag:=Ey hT hi (hv 0 t v rfl rfl)
    refine⟨oW.mk i.cs (pf ps) x1 x2,⟨v,vs,v.cells.toList,[],[],[],[],rfl,hag,rfl,rfl,.inr ⟨rfl,rfl,rfl,F,?_,k2⟩,?_⟩,?_⟩
    · show Cs.Rep W i.cs (oW.hd i.cs (pf ps) (oW.mk i.cs (pf ps) x1 x2)) _ F;rw[oW.hd_mk];exact k1
    · show sn _ W ps (oW.tl i.cs (pf ps) (oW.mk i.cs (pf ps) x1 x2)) vs [] [];rw[oW.tl_mk];exact k4
    · show Cs.wf i.cs (oW.hd i.cs (pf ps) (oW.mk i.cs (pf ps) x1 x2))/\AI ps (oW.tl i.cs (pf ps) (oW.mk i.cs (pf ps) x1 x2));rw[oW.hd_mk,oW.tl_mk];exact⟨k3,k5⟩
 | [],[],_::_,_,_,_,h,_=>by cases h
 | [],[],[],_::_,_,_,h,_=>by cases h
 | _::_,_,[],_,_,_,h,_=>by cases h
 | _::_,_,_::_,[],_,_,h,_=>by cases h
 | [],_::_,_,_,_,hs,_,_=>by cases hs
 | _::_,[],_,_,_,hs,_,_=>by cases hs
 | _::_,.val _ _ true::_,_,_,_,hs,_,_=>by cases hs
 | _::_,.ptr _ _::_,_,_,_,hs,_,_=>by cases hs
theorem law_walk {H:Type} {enc:TypeId×Value->H} {held:Bool} {f:FuncId} {ps:List pF} {den:oW (pf ps)->Option (oW (pW ps yesR))} (hm:vC P f ⟨ps,yesR,den⟩) (hT:qG P ti) (hD:Deep P ti) {ts:List TypeId} (hs:zh ti ts ps=true) (hden:∀x,AI ps x->den x=some (zL ps))
 {base:Nat} {vs:List Value} {ds:List (DataW H)} {p:List MemPlace} (h:DataW.TrodAll enc P W 0 (λ_=>true) held ts vs ds p) (hv:∀(j:Nat) t v,ts[j]?=some t->vs[j]?=some v->Value.okWide P W .any base t v) :
 Calls P f vs.toArray W λe W'=>e=.returned (.bool true)/\Below W.heap.size W W':=by
 obtain⟨x,h1,h2⟩:=CF hT hD hs h hv;exact Fz hm (zN hs) h1 (hden x h2)
end Go.V
namespace Go.V
variable {P:Program} {G:qd} {ann:List (Nat×p3)} {w w':World}

def yX (agg:Bool) (c:Cs) (x:c.den) (k:Int):St:=⟨[(0,rm agg (Cs.give true 1 c x).1),(1,.cell (.int .i64 k))],pw (Cs.give true 1 c x).2⟩
def CT.reap (S:St) (n:an):(c:CT)->c.den->Option c.den
 | .sl e,_=>vS S e n
 | .int _,x=>some x
 | .bool,x=>some x
 | .str,x=>some x
 | .err,x=>some x
def Cs.reap (S:St):an->(c:Cs)->c.den->Option c.den
 | n,.one c,x=>c.reap S n x
 | n,.cons c r,x=>match c.reap S n x.1,Cs.reap S (n+1) r x.2 with|some a,some b=>some (a,b)|_,_=>none
def wJ (G:qd) (rv:List ResultVar) (c:Cs) (x:c.den) (S:St):Option (c.den×Int) :=
 match v6 G S rv with
 | some [.cell (.int .i64 k)]=>match Cs.reap S 1 c x with|some y=>some (y,k)|none=>none
 | _=>none
noncomputable def sL (G:qd) (ann:List (Nat×p3)) (fn:Func) (c:Code) (agg:Bool) (cs:Cs) (x:cs.den) (k:Int):Option (cs.den×Int) :=
 cond (sa fn.ntmps c&&(Nat.ble 2 fn.ntmps&&p6 (pw (Cs.give true 1 cs x).2))) (s5 G ann c (yX agg cs x k) ⟨wJ G fn.results.toList cs x,λ_ _=>none,wJ G fn.results.toList cs x⟩) none

theorem wK:∀{c:Cs} {n:an} {x:c.den},c.held (Cs.give true n c x).1 x=pw (Cs.give true n c x).2
 | .one c,n,x=>by cases c<;>rfl
 | .cons c r,n,x=>by
  have ih:=wK (c:=r) (n:=n+1) (x:=x.2);simp only[Cs.give,Cs.held,pw,map_append];rw[ih];cases c<;>rfl
theorem BI:∀{c:Cs} {n:an} {x:c.den} {us:List Value} {F:List Nat} {R:List (List Value)},Cs.TRep w c x us F R ->
 ∃(loc:an->Value) (esz:an->Nat) (rows:an->List Value),∀(g:Gh),(∀m,n<=m->g.loc m=loc m/\g.esz m=esz m/\g.rows m=rows m)->Cs.Slot [] g c (Cs.give true n c x).1 us R
 | .one c,n,x,us,F,R,h=>by
  obtain⟨v,rfl,h⟩:=h;cases c with
  | sl e =>
   obtain⟨rw,rfl,_⟩:=h;exact⟨λ_=>v,λ_=>e.len,λ_=>rw,λg hg=>⟨_,v,rfl,rfl,n,rfl,.inr rfl,(hg n (Nat.le_refl _)).1,(hg n (Nat.le_refl _)).2.1,by rw[(hg n (Nat.le_refl _)).2.2]⟩⟩
  | int k=>obtain⟨rfl,_⟩:=h;exact⟨λ_=>v,λ_=>0,λ_=>[],λg hg=>⟨_,v,rfl,rfl,rfl⟩⟩
  | bool=>obtain⟨rfl,_⟩:=h;exact⟨λ_=>v,λ_=>0,λ_=>[],λg hg=>⟨_,v,rfl,rfl,rfl⟩⟩
  | str=>obtain⟨rfl,_⟩:=h;exact⟨λ_=>v,λ_=>0,λ_=>[],λg hg=>⟨_,v,rfl,rfl,rfl⟩⟩
  | err=>obtain⟨rfl,_⟩:=h;exact⟨λ_=>v,λ_=>0,λ_=>[],λg hg=>⟨_,v,rfl,rfl,rfl⟩⟩
 | .cons c r,n,x,us,F,R,h=>by
  obtain⟨v,vs',F1,F2,R1,R2,rfl,rfl,rfl,h1,h2⟩:=h;obtain⟨loc,esz,rows,ih⟩:=BI (n:=n+1) h2;have tail:∀(l:Value) (e:Nat) (rw:List Value) (g:Gh),(∀m,n<=m->g.loc m=(if m=n then l else loc m)/\g.esz m=(if m=n then e else esz m)/\g.rows m=(if m=n then rw else rows m))->Cs.Slot [] g r (Cs.give true (n+1) r x.2).1 vs' R2:=by
   intro l e rw g hg;refine ih g λm hm=>?_;have hne:¬m=n:=Nat.ne_of_gt (Nat.lt_of_succ_le hm)
   have:=hg m (Nat.le_of_succ_le hm);rw[if_neg hne,if_neg hne,if_neg hne]at this;exact this
  cases c with
  | sl e =>
   obtain⟨rw,rfl,_⟩:=h1;refine⟨λm=>if m=n then v else loc m,λm=>if m=n then e.len else esz m,λm=>if m=n then rw else rows m,λg hg=>⟨_,v,_,vs',[rw],R2,rfl,rfl,rfl,⟨n,rfl,.inr rfl,?_⟩,tail v e.len rw g hg⟩⟩;have:=hg n (Nat.le_refl _)
   simp only[if_true]at this;exact⟨this.1,this.2.1,by rw[this.2.2]⟩
  | int k=>obtain⟨rfl,_⟩:=h1;exact⟨λm=>if m=n then v else loc m,λm=>if m=n then 0 else esz m,λm=>if m=n then []else rows m,λg hg=>⟨_,v,_,vs',[],R2,rfl,rfl,rfl,rfl,tail v 0 [] g hg⟩⟩
  | bool=>obtain⟨rfl,_⟩:=h1;exact⟨λm=>if m=n then v else loc m,λm=>if m=n then 0 else esz m,λm=>if m=n then []else rows m,λg hg=>⟨_,v,_,vs',[],R2,rfl,rfl,rfl,rfl,tail v 0 [] g hg⟩⟩
  | str=>obtain⟨rfl,_⟩:=h1;exact⟨λm=>if m=n then v else loc m,λm=>if m=n then 0 else esz m,λm=>if m=n then []else rows m,λg hg=>⟨_,v,_,vs',[],R2,rfl,rfl,rfl,rfl,tail v 0 [] g hg⟩⟩
  | err=>obtain⟨rfl,_⟩:=h1;exact⟨λm=>if m=n then v else loc m,λm=>if m=n then 0 else esz m,λm=>if m=n then []else rows m,λg hg=>⟨_,v,_,vs',[],R2,rfl,rfl,rfl,rfl,tail v 0 [] g hg⟩⟩
theorem FC {D:an->Prop} {g g':Gh} (hg:∀n,g'.loc n=g.loc n):∀{c:Cs} {n:an} {x:c.den} {us:List Value} {F:List Nat} {R:List (List Value)},Cs.TRep w c x us F R->Cs.Slot [] g c (Cs.give true n c x).1 us R->(∀m∈(Cs.give true n c x).2.map (·.1),D m)->p5 (oY D g' w') (Cs.give true n c x).1 us:=by
 have one:∀{c:CT} {n:an} {x:c.den} {v:Value} {F:List Nat} {R S:List (List Value)},CT.TRep w c x v F R->CT.Slot [] g c (c.give true n x).1 v S->(∀m∈(c.give true n x).2.map (·.1),D m)->oY D g' w' (c.give true n x).1 v:=by
  intro c n x v F R S h hs hd;cases c with
  | sl e =>
   obtain⟨r,hr,_,hl,_⟩:=hs;cases hr;exact⟨hd n (by simp[CT.give]),hl.symm.trans (hg n).symm⟩
  | int k=>have:=h.2;simp only[CT.Rep]at this;exact this.1
  | bool=>have:=h.2;simp only[CT.Rep]at this;exact this.1
  | str=>have:=h.2;simp only[CT.Rep]at this;exact this.1
  | err=>have:=h.2;simp only[CT.Rep]at this;exact this.2
 intro c
 induction c using Cs.rec (motive_1:=λ_=>True)with
 | one c _ =>
  intro n x us F R h hs hd;obtain⟨v,rfl,h⟩:=h;obtain⟨y,v',hy,hv,hs⟩:=hs;cases hv;cases hy;exact⟨one h hs hd,trivial⟩
 | cons c r _ ih =>
  intro n x us F R h hs hd;obtain⟨v,vs',F1,F2,R1,R2,rfl,rfl,rfl,h1,h2⟩:=h;obtain⟨y,v',ys,vs'',S1,S2,hy,hv,hS,hs1,hs2⟩:=hs;cases hv;have hlen:∀{c:CT} {y:c.den} {v:Value} {F:List Nat} {R S:List (List Value)} {x:Cell},CT.TRep w c y v F S->CT.Slot [] g c x v R->S.length=R.length:=by
   intro c y v F R S x h1 h2;cases c with
   | sl e=>obtain⟨_,_,_,_,_,rfl⟩:=h2;obtain⟨_,rfl,_⟩:=h1;rfl
   | _=>rw[show R=[]from h2,h1.1]
  obtain⟨rfl,rfl⟩:=List.append_inj hS (hlen h1 hs1);have hy':(c.give true n x.1).1::(Cs.give true (n+1) r x.2).1=y::ys:=hy
  simp only[List.cons.injEq]at hy';obtain⟨rfl,rfl⟩:=hy';refine⟨one h1 hs1 λm hm=>hd m ?_,ih h2 hs2 λm hm=>hd m ?_⟩
  · show m∈((c.give true n x.1).2++(Cs.give true (n+1) r x.2).2).map (·.1);rw[map_append];exact List.mem_append_left _ hm
  · show m∈((c.give true n x.1).2++(Cs.give true (n+1) r x.2).2).map (·.1);rw[map_append];exact List.mem_append_right _ hm
 | _=>trivial
theorem Ez {S:St} {g gf:Gh} (hm:qM S.en gf w'):∀{c:Cs} {n:an} {x x':c.den} {us:List Value} {F:List Nat} {R:List (List Value)},Cs.TRep w c x us F R->Cs.Slot [] g c (Cs.give true n c x).1 us R ->
 (∀m∈(Cs.give true n c x).2.map (·.1),gf.loc m=g.loc m/\gf.rows m=g.rows m)->Cs.reap S n c x=some x'->Cs.TRep w' c x' us (((Cs.give true n c x).2.map (·.1)).flatMap gf.nest) R/\∀m∈(Cs.give true n c x).2.map (·.1),∃e xs,oS S.en m=some (.tree e xs):=by
 have one:∀{c:CT} {n:an} {x x':c.den} {v:Value} {F:List Nat} {R:List (List Value)},CT.TRep w c x v F R->CT.Slot [] g c (c.give true n x).1 v R ->
  (∀m∈(c.give true n x).2.map (·.1),gf.loc m=g.loc m/\gf.rows m=g.rows m)->CT.reap S n c x=some x'->CT.TRep w' c x' v (((c.give true n x).2.map (·.1)).flatMap gf.nest) R/\∀m∈(c.give true n x).2.map (·.1),∃e xs,oS S.en m=some (.tree e xs):=by
  intro c n x x' v F R h hs hg hr;cases c with
  | sl e =>
   obtain⟨r,hr',_,hl,_,hR⟩:=hs;cases hr';have hn:=yu (show vS S e n=some x' from hr)
   obtain⟨_,k2,_⟩:=hm.rep n _ hn;obtain⟨g1,g2⟩:=hg n (by simp[CT.give]);refine⟨⟨g.rows n,hR,?_⟩,λm hm'=>?_⟩
   · rw[g1,g2,hl]at k2;simpa[CT.give]using k2
   · obtain rfl:m=n:=by simpa[CT.give]using hm'
     exact⟨e,x',hn⟩
  | int k=>cases hr;obtain⟨rfl,hr⟩:=h;refine⟨⟨rfl,?_⟩,by simp[CT.give]⟩;simp only[CT.Rep]at hr ⊢;exact⟨hr.1,rfl⟩
  | bool=>cases hr;obtain⟨rfl,hr⟩:=h;refine⟨⟨rfl,?_⟩,by simp[CT.give]⟩;simp only[CT.Rep]at hr ⊢;exact⟨hr.1,rfl⟩
  | str=>cases hr;obtain⟨rfl,hr⟩:=h;refine⟨⟨rfl,?_⟩,by simp[CT.give]⟩;simp only[CT.Rep]at hr ⊢;exact⟨hr.1,rfl⟩
  | err=>cases hr;obtain⟨rfl,hr⟩:=h;refine⟨⟨rfl,?_⟩,by simp[CT.give]⟩;simp only[CT.Rep]at hr ⊢;exact⟨rfl,hr.2⟩
 intro c
 induction c using Cs.rec (motive_1:=λ_=>True)with
 | one c _ =>
  intro n x x' us F R h hs hg hr;obtain⟨v,rfl,h⟩:=h;obtain⟨y,v',hy,hv,hs⟩:=hs;cases hv;cases hy;obtain⟨k1,k2⟩:=one h hs hg hr;exact⟨⟨v,rfl,k1⟩,k2⟩
 | cons c r _ ih =>
  intro n x x' us F R h hs hg hr;obtain⟨v,vs',F1,F2,R1,R2,rfl,rfl,rfl,h1,h2⟩:=h;obtain⟨y,v',ys,vs'',S1,S2,hy,hv,hS,hs1,hs2⟩:=hs;cases hv;have hlen:∀{c:CT} {y:c.den} {v:Value} {F:List Nat} {R S:List (List Value)} {x:Cell},CT.TRep w c y v F S->CT.Slot [] g c x v R->S.length=R.length:=by
   intro c y v F R S x h1 h2;cases c with
   | sl e=>obtain⟨_,_,_,_,_,rfl⟩:=h2;obtain⟨_,rfl,_⟩:=h1;rfl
   | _=>rw[show R=[]from h2,h1.1]
  obtain⟨rfl,rfl⟩:=List.append_inj hS (hlen h1 hs1);have hy':(c.give true n x.1).1::(Cs.give true (n+1) r x.2).1=y::ys:=hy
  simp only[List.cons.injEq]at hy';obtain⟨rfl,rfl⟩:=hy';have hnm:(Cs.give true n (.cons c r) x).2.map (·.1)=(c.give true n x.1).2.map (·.1)++(Cs.give true (n+1) r x.2).2.map (·.1):=map_append
  rw[hnm]at hg ⊢;simp only[Cs.reap]at hr;split at hr
  · rename_i p q hp hq;cases hr;obtain⟨k1,k2⟩:=one h1 hs1 (λm hm'=>hg m (List.mem_append_left _ hm')) hp;obtain⟨k3,k4⟩:=ih h2 hs2 (λm hm'=>hg m (List.mem_append_right _ hm')) hq;exact⟨⟨v,vs',_,_,R1,R2,rfl,List.flatMap_append,rfl,k1,k3⟩,λm hm'=>(mem_append.1 hm').elim (k2 m) (k4 m)⟩
  · cases hr
 | _=>trivial
theorem Hw:∀{c:Cs} {n:an} {x:c.den} (m:an) (cs:List Cell),(m,Entry.box cs)∉pw (Cs.give true n c x).2:=by
 intro c n x m cs h;rw[←wK]at h;exact Cs.held_nb m cs h
theorem tG (hG : rp P G) (hm : P.follows .mixedOrders=true) {f : FuncId} {fn : Func} {c : Code} {agg : Bool} {cs : Cs} (hf : P.funcs[f]?=some fn) (hn : (fn.name == "runtime.NumGoroutine")=false) (hb : fn.body=some c) :
 r7 P f ⟨agg,cs,sL G ann fn c agg cs⟩:=by
 refine⟨⟨fn,c,hf,hn,hb⟩,?_⟩;intro w v us x x' F R k k' hag htr hnd hsoft hden;have hden:sL G ann fn c agg cs x k=some (x',k'):=hden
 unfold sL at hden;cases hck:(sa fn.ntmps c&&(Nat.ble 2 fn.ntmps&&p6 (pw (Cs.give true 1 cs x).2)))with
 | false=>rw[hck]at hden;cases hden
 | true =>
 rw[hck]at hden;simp only[aT,cT]at hck hden;obtain⟨hbel,hnt,hdis⟩:=hck;obtain⟨loc,esz,rows,hslots⟩:=BI (n:=1) htr
 let g0:Gh:=⟨λ_=>False,loc,esz,λ_=>none,λ_=>[],rows⟩
 have hslot:=hslots g0 λm _=>⟨rfl,rfl,rfl⟩;have hM0:=MS.begin (w:=w) g0 (· ∈ F) (λ_=>False) (λb h=>h.elim) (λb h=>h.elim) hsoft
 obtain⟨gc,hMc,_,_,hgc⟩:=Cs.held_put hM0 htr hnd (λb hb=>⟨λh=>h.elim,(λm f h=>by cases h),(λm f h=>by cases h),.inr hb⟩) hslot (by rw[wK];exact hdis);rw[wK,append_nil]at hMc;have hdomG:∀m∈(Cs.give true 1 cs x).2.map (·.1),dom (pw (Cs.give true 1 cs x).2) m:=λm hm=>by rw[sG,s0];exact hm
 have hcells:=FC (w':=w) (D:=dom (pw (Cs.give true 1 cs x).2)) (g:=g0) (g':=gc) (λn=>(hgc n).1) htr hslot hdomG
 let vals:List Value:=[v,.int .i64 k]
 have hInv:pq w (· ∈ F) (λ_=>False) (yX agg cs x k) gc w { tmps:=vals.toArray++Array.replicate (fn.ntmps-vals.toArray.size) undef,defers:=[] }:=by
  refine⟨hMc.mem,hMc.since,λt=>?_,rfl⟩;have hget:∀(t:Nat) (u:Value),vals[t]?=some u->(vals.toArray++Array.replicate (fn.ntmps-vals.toArray.size) undef).getD t undef=u:=by
   intro t u hu;have hlt:t<vals.length:=(List.getElem?_eq_some_iff.1 hu).1
   have hv:=(List.getElem?_eq_some_iff.1 hu).2;have hsz':t<(vals.toArray++Array.replicate (fn.ntmps-vals.toArray.size) undef).size:=by rw[Array.size_append,List.size_toArray];omega
   unfold Array.getD;rw[dif_pos hsz'];show (vals.toArray++Array.replicate (fn.ntmps-vals.toArray.size) undef)[t]'hsz'=u
   rw[Array.getElem_append_left (by simpa using hlt)];simpa using hv
  show pp _ _ _ (match oS [(0,rm agg (Cs.give true 1 cs x).1),(1,AV.cell (.int .i64 k))] t with|some v=>v|none=>.undef) _
  match t with
  | 0=>rw[hget 0 v rfl];exact uW hcells hag
  | 1=>rw[hget 1 (.int .i64 k) rfl];rfl
  | t+2=>trivial
 have hsz:fn.ntmps<=(vals.toArray++Array.replicate (fn.ntmps-vals.toArray.size) undef).size:=by simp;omega
 have hc0:pI (yX agg cs x k):=by
  refine⟨λt=>?_,λn ds hn=>absurd (pG hn) (Hw n ds)⟩;show qY _ (match oS [(0,rm agg (Cs.give true 1 cs x).1),(1,AV.cell (.int .i64 k))] t with|some v=>v|none=>.undef)
  match t with
  | 0 =>
   have h1:=ze (D:=dom (pw (Cs.give true 1 cs x).2)) (agg:=agg) (cs:=(Cs.give true 1 cs x).1) (by
    obtain⟨_,k4⟩:=uU (some true) 1 cs x;intro d hd;refine (k4 d hd).mono λn hn=>?_;rw[sG,s0];exact rj.2 hn)
   show qY _ (rm agg (Cs.give true 1 cs x).1);cases hx:rm agg (Cs.give true 1 cs x).1 with
   | cell c=>rw[hx]at h1;exact h1
   | agg ds=>rw[hx]at h1;exact h1
   | tup l=>rw[hx]at h1;exact h1.elim
  | 1=>exact pj rfl
  | t+2=>exact pj rfl
 have key:∀(S':St) (a':Act) (w':World),At w (· ∈ F) (λ_=>False) fn.ntmps (dom (pw (Cs.give true 1 cs x).2)) gc w S' a' w'->wJ G fn.results.toList cs x S'=some (x',k') ->
  a'.defers=[]/\∃r,(results fn a'.tmps).run P w'=.ok r w'/\(r=.int .i64 k'/\(∃F',Cs.TRep w' cs x' us F' R/\F'.Nodup/\∀b∈F',b∈F\/w.heap.size<=b)/\(∀b,b∈F\/w.heap.size<=b->soft w' b) /\
   w'.os=w.os/\w'.output=w.output/\w'.tape=w.tape/\w.heap.size<=w'.heap.size/\∀b,b<w.heap.size->b∉F->w'.heap[b]?=w.heap[b]?):=by
  intro S' a' w' ⟨gf,hIf,_,hle⟩ hl;unfold wJ at hl;split at hl
  · rename_i k1 hres;split at hl
    · rename_i y hy;cases hl;obtain⟨rvals,h5,h6⟩:=wF hIf hG.tis hres
      match rvals,h5 with
      | [rv],h5 =>
      have hrv:rv=.int .i64 k':=h5.1;obtain⟨t1,t2⟩:=Ez (g:=g0) hIf.mem htr hslot (λm hm=>by
       have hdm:=hdomG m hm;exact⟨(hle.loc m hdm).trans (hgc m).1,(hle.rows m hdm).trans (hgc m).2.2⟩) hy
      have hnn:((Cs.give true 1 cs x).2.map (·.1)).Nodup:=by
       rw[←s0];exact uV hdis
      refine⟨hIf.plain,Ba [rv],zK h6,hrv,⟨_,t1,xY hIf.mem hnn t2,λb hb=>?_⟩,λb hb=>hIf.since.soft b hb.symm,hIf.since.os,hIf.since.out,hIf.since.tape,hIf.since.size,λb hb hbF=>hIf.since.mem b hb hbF⟩;obtain⟨m,hm,hb⟩:=List.mem_flatMap.1 hb;obtain⟨e,ys,hfm⟩:=t2 m hm;exact (hIf.since.born m _ b hfm rfl hb).symm
    · cases hl
  · cases hl
 refine calls_of_wp hf hb (rP hG hm c hbel hInv hsz hc0 hden ⟨λS' a' w' _ _ hat hk=>?_,(λi S' a' w' _ _ hat hk=>by cases hk),λS' a' w' _ _ hat hk=>?_⟩)
 · obtain⟨k1,v,k2,k3⟩:=key S' a' w' hat hk;exact⟨k1,v,k2,k3⟩
 · obtain⟨k1,v,k2,k3⟩:=key S' a' w' hat hk;exact⟨k1,v,k2,k3⟩
theorem BJ:∀f M,oS ([]:List (FuncId×sY)) f=some M->r7 P f M:=λf M h=>by cases h
theorem sq {l:List (FuncId×sY)} {f:FuncId} {K:sY} (h:∀f M,oS l f=some M->r7 P f M) (hk:r7 P f K):∀g M,oS ((f,K)::l) g=some M->r7 P g M:=λg M hg=>by
 rw[p8]at hg;split at hg
 · rename_i e;subst e;cases hg;exact hk
 · exact h g M hg
end Go.V
namespace Go.V
def uP {α:Type} (a b:Option α):Prop:=∀r,a=some r->b=some r
theorem uP.refl {α:Type} (a:Option α):uP a a:=λ_ h=>h
theorem uP.bind {α β:Type} {a b:Option α} {f g:α->Option β} (h:uP a b) (k:∀x,uP (f x) (g x)):uP (a.bind f) (b.bind g):=by
 intro r hr;rw[Option.bind_eq_some_iff]at hr ⊢;obtain⟨x,h1,h2⟩:=hr;exact⟨x,h x h1,k x r h2⟩
theorem uP.cond {α:Type} {c:Bool} {a b a' b':Option α} (h:uP a b) (k:uP a' b'):uP (cond c a a') (cond c b b'):=by
 cases c
 · exact k
 · exact h
def IX {α β:Type} (step:α->Option (α⊕β)) (a:α):Option β:=r8 step 2048 a
theorem DK {α β:Type} {f g:α->Option (α⊕β)} (h:∀x,uP (f x) (g x)):∀(k:Nat) (a:α),uP (r8 f k a) (r8 g k a)
 | 0,a=>uP.refl _
 | k+1,a=>by
  rw[pJ,pJ];refine uP.bind (h a) λx=>?_;cases x with
  | inl x=>exact DK h k x
  | inr b=>exact uP.refl _
theorem CG {α β:Type} {f:α->Option (α⊕β)}:∀(k k':Nat) (a:α) {b b':β},r8 f k a=some b->r8 f k' a=some b'->b=b'
 | 0,_,a,b,b',h,_=>by cases h
 | k+1,0,a,b,b',_,h=>by cases h
 | k+1,k'+1,a,b,b',h,h'=>by
  rw[pJ,Option.bind_eq_some_iff]at h h';obtain⟨x,h1,h2⟩:=h;obtain⟨x',h1',h2'⟩:=h';rw[h1]at h1';cases h1';cases x with
  | inl x=>exact CG k k' x h2 h2'
  | inr c=>cases h2;cases h2';rfl
theorem sM {α β:Type} {f:α->Option (α⊕β)} {k:Nat} {a:α} {b:β} (h:r8 f k a=some b):loop f a=some b:=by
 unfold loop;have hex:∃k,(r8 f k a).isSome:=⟨k,by rw[h];rfl⟩
 rw[dif_pos hex];have:=Classical.choose_spec hex
 cases hc:r8 f (Classical.choose hex) a with
 | none=>rw[hc]at this;cases this
 | some b'=>rw[CG _ _ _ h hc]
theorem uP.loop {α β:Type} {f g:α->Option (α⊕β)} {a:α} (h:∀x,uP (f x) (g x)):uP (IX f a) (loop g a):=λr hr=>sM (DK h _ _ r hr)
theorem sr {n:Int} (h1:-9223372036854775808<=n) (h2:n<=9223372036854775807):oT n=n:=by
 show (let m:=n%18446744073709551616;if (true&&decide (m>=9223372036854775808))=true then m-18446744073709551616 else m)=n;simp only[Bool.true_and,decide_eq_true_eq];split<;>omega
end Go.V
namespace Go.V

theorem qf {α β:Type} {step:α->Option (α⊕β)} (pq:Nat->α->Prop) (m:Nat) (R:β->Prop)
 (h:∀k x,k<m->pq k x->(∃y,step x=some (.inl y)/\pq (k+1) y)\/∃b,step x=some (.inr b)/\R b)
 (he:∀x,pq m x->∃b,step x=some (.inr b)/\R b) {x:α} (h0:pq 0 x):∃b,loop step x=some b/\R b:=by
 have key:∀n k x,k+n=m->pq k x->∃b,r8 step (n+1) x=some b/\R b:=by
  intro n
  induction n with
  | zero =>
   intro k x hk hx;obtain rfl:k=m:=by omega
   obtain⟨b,h1,h2⟩:=he x hx;exact⟨b,by rw[pJ,h1];rfl,h2⟩
  | succ n ih =>
   intro k x hk hx;rcases h k x (by omega) hx with ⟨y,h1,h2⟩|⟨b,h1,h2⟩
   · obtain⟨b,h3,h4⟩:=ih (k+1) y (by omega) h2;exact⟨b,by rw[pJ,h1];exact h3,h4⟩
   · exact⟨b,by rw[pJ,h1];rfl,h2⟩
 obtain⟨b,h1,h2⟩:=key m 0 x (by omega) h0;exact⟨b,sM h1,h2⟩
theorem pv {α:Type} {xs:List α} {k:Nat} (h:k<xs.length):at? xs (k:Int)=some xs[k]:=by
 unfold at?;rw[if_pos (by omega),Int.toNat_natCast,List.getElem?_eq_getElem h]
theorem s6 {n k:Nat} (h:k<n):ix n (k:Int)=some k:=by
 unfold ix;rw[if_pos (by omega),if_pos (by omega),Int.toNat_natCast]
theorem pz {k:Nat} (h:k<9223372036854775807):oT ((k:Int)+1)=((k+1:Nat):Int):=by
 rw[sr (by omega) (by omega)];omega
theorem FD {n:Nat} (h:n<=4294967295):ud (n:Int)=some n:=by
 unfold ud;rw[if_pos (by omega),if_pos (by show (n:Int)<=((4294967296:Nat):Int);omega),Int.toNat_natCast]
theorem qD {a b:Int} (h:a<b):decide (a<b)=true:=dT h
theorem pU {a b:Int} (h:¬a<b):decide (a<b)=false:=dF h
theorem xB {α:Type} {a:List α} {f:α->Option α} (hf:∀x∈a,f x=some x) (hn:a.length<=4294967295) (z:α) :
 loop (λs:Int×List α=>cond (decide (s.1<(a.length:Int))) ((at? a s.1).bind λx=>(f x).bind λt=>(ix s.2.length s.1).bind λj=>(s.2[j]?).bind λ_=>some (.inl (oT (s.1+1),s.2.set j t))) (some (.inr s.2))) (0,List.replicate a.length z)=some a:=by
 obtain⟨b,h1,rfl⟩:=qf (step:=λs:Int×List α=>cond (decide (s.1<(a.length:Int))) ((at? a s.1).bind λx=>(f x).bind λt=>(ix s.2.length s.1).bind λj=>(s.2[j]?).bind λ_=>some (.inl (oT (s.1+1),s.2.set j t))) (some (.inr s.2)))
  (λk s=>s.1=(k:Int)/\s.2=a.take k++List.replicate (a.length-k) z) a.length (λb=>b=a)
  (λk s hk ⟨h1,h2⟩=>by
   obtain⟨i,l⟩:=s;simp only at h1 h2;subst h1;have hl:l.length=a.length:=by rw[h2,List.length_append,length_take,List.length_replicate];omega
   refine .inl ⟨((k+1:Nat),l.set k a[k]),?_,rfl,?_⟩
   · simp only[qD (show (k:Int)<(a.length:Int) by omega),cT,pv hk,Option.bind_some,hf _ (List.getElem_mem hk),hl,s6 hk];rw[List.getElem?_eq_getElem (by omega),Option.bind_some,pz (by omega)]
   · show l.set k a[k]=_;rw[h2,List.set_append_right _ _ (by rw[length_take];omega),length_take,Nat.min_eq_left (by omega),Nat.sub_self];have e:a.length-k=(a.length-(k+1))+1:=by omega
     rw[e,List.replicate_succ,List.set_cons_zero];have e2:a.take (k+1)=a.take k++[a[k]]:=by rw[List.take_add_one,List.getElem?_eq_getElem hk];rfl
     rw[e2,List.append_assoc];rfl)
  (λs ⟨h1,h2⟩=>by
   obtain⟨i,l⟩:=s;simp only at h1 h2;subst h1;refine⟨l,?_,?_⟩
   · simp only[pU (show ¬(a.length:Int)<(a.length:Int) by omega),cF]
   · rw[h2];simp)
  (x:=(0,List.replicate a.length z)) ⟨rfl,by simp⟩
 exact h1
theorem CH {α:Type} {a:List α} (hn:a.length<=4294967295) (z:α) :
 loop (λs:Int×List α=>cond (decide (s.1<(a.length:Int))) ((at? a s.1).bind λx=>(ix s.2.length s.1).bind λj=>(s.2[j]?).bind λ_=>some (.inl (oT (s.1+1),s.2.set j x))) (some (.inr s.2))) (0,List.replicate a.length z)=some a :=
 xB (f:=some) (λ_ _=>rfl) hn z
theorem xC {α:Type} {a:List α} {g:α->α->Option Bool} (hg:∀x∈a,g x x=some true) (hn:a.length<=4294967295) :
 loop (λi:Int=>cond (decide (i<(a.length:Int))) ((at? a i).bind λx=>(at? a i).bind λy=>(g x y).bind λt=>cond (!t) (some (.inr (.inr false))) (some (.inl (oT (i+1))))) (some (.inr (.inl ())))) 0=some (Sum.inl ():Unit⊕Bool):=by
 obtain⟨b,h1,rfl⟩:=qf (β:=Unit⊕Bool) (step:=λi:Int=>cond (decide (i<(a.length:Int))) ((at? a i).bind λx=>(at? a i).bind λy=>(g x y).bind λt=>cond (!t) (some (.inr (.inr false))) (some (.inl (oT (i+1))))) (some (.inr (.inl ()))))
  (λk i=>i=(k:Int)) a.length (λb=>b=.inl ())
  (λk i hk h=>by
   subst h;refine .inl ⟨((k+1:Nat):Int),?_,rfl⟩;simp only[qD (show (k:Int)<(a.length:Int) by omega),cT,pv hk,Option.bind_some,hg _ (List.getElem_mem hk),Bool.not_true,cF];rw[pz (by omega)])
  (λi h=>by
   subst h;exact⟨.inl (),by simp only[pU (show ¬(a.length:Int)<(a.length:Int) by omega),cF],rfl⟩) (x:=0) rfl
 exact h1
theorem CI {a:List Int} (hn:a.length<=4294967295) :
 loop (λi:Int=>cond (decide (i<(a.length:Int))) ((at? a i).bind λx=>(at? a i).bind λy=>cond (x != y) (some (.inr (.inr false))) (some (.inl (oT (i+1))))) (some (.inr (.inl ())))) 0=some (Sum.inl ():Unit⊕Bool):=by
 have:=xC (a:=a) (g:=λx y=>some (!(x != y))) (λx _=>by simp) hn;simpa using this
def rV (left:Int) (o:Option Int) (Q:Prop):Prop:=∃r,o=some r/\(r = -1\/(0<=r/\r<=left/\Q))
theorem uM {n:Nat} {left:Int} (hl:0<=left/\left<=1048576) (hn:n<=maxLen):rV left (let l1:=oT (left-(n:Int));cond (decide (l1<0)) (some (-1)) (some l1)) (n<=1048576):=by
 have hn':n<=9223372036854775807:=hn;show rV left (cond (decide (oT (left-(n:Int))<0)) (some (-1)) (some (oT (left-(n:Int))))) _
 rw[sr (by omega) (by omega)];by_cases h:left-(n:Int)<0
 · rw[qD h];exact⟨-1,rfl,.inl rfl⟩
 · rw[pU h];exact⟨_,rfl,.inr ⟨by omega,by omega,by omega⟩⟩
theorem sS {left:Int} {o:Option Int} {Q R:Prop} {f:Int->Option Int} (h:rV left o Q) (k:∀r,0<=r->r<=left->rV r (f r) R):rV left (o.bind λt=>cond (decide (t<0)) (some (-1)) (f t)) (Q/\R):=by
 obtain⟨r,rfl,h⟩:=h;rw[Option.bind_some];rcases h with rfl|⟨h1,h2,h3⟩
 · rw[qD (by omega)];exact⟨-1,rfl,.inl rfl⟩
 · rw[pU (by omega),cF];obtain⟨s,e,k⟩:=k r h1 h2;rcases k with rfl|⟨k1,k2,k3⟩
   · exact⟨-1,e,.inl rfl⟩
   · exact⟨s,e,.inr ⟨k1,by omega,h3,k3⟩⟩
theorem CJ {n:Nat} {left:Int} {f:Int->Option Int} {R:Prop} (hl:0<=left/\left<=1048576) (hn:n<=maxLen) (k:∀r,0<=r->r<=left->rV r (f r) R):rV left (let l1:=oT (left-(n:Int));cond (decide (l1<0)) (some (-1)) (f l1)) (n<=1048576/\R):=by
 have hn':n<=9223372036854775807:=hn;show rV left (cond (decide (oT (left-(n:Int))<0)) (some (-1)) (f (oT (left-(n:Int))))) _
 rw[sr (by omega) (by omega)];by_cases h:left-(n:Int)<0
 · rw[qD h];exact⟨-1,rfl,.inl rfl⟩
 · rw[pU h,cF];obtain⟨s,e,k⟩:=k (left-(n:Int)) (by omega) (by omega);rcases k with rfl|⟨k1,k2,k3⟩
   · exact⟨-1,e,.inl rfl⟩
   · exact⟨s,e,.inr ⟨k1,by omega,by omega,k3⟩⟩
theorem xD {α:Type} {a:List α} {z:α} {step:Int×List α->Option ((Int×List α)⊕List α)} (hn:a.length<=4294967295) (h:loop step (0,List.replicate a.length z)=some a) :
 ((ud (a.length:Int)).bind λn=>(loop step (0,List.replicate n z)).bind λd=>some d)=some a:=by
 rw[FD hn,Option.bind_some,h];rfl
theorem xE {n:Nat} {step:Int->Option (Int⊕(Unit⊕Bool))} (h:loop step 0=some (Sum.inl ())):cond ((n:Int) != (n:Int)) (some false) ((loop step 0).bind (Sum.elim (λ_=>some true) (λr=>some r)))=some true:=by
 rw[h];simp
theorem wL {left:Int} (h:0<=left):rV left (some left) True:=⟨left,rfl,.inr ⟨h,Int.le_refl _,trivial⟩⟩
theorem yb {left:Int} {o:Option Int} {Q R:Prop} (h:rV left o Q) (k:Q->R):rV left o R:=by
 obtain⟨r,e,h⟩:=h;exact⟨r,e,h.imp id λ⟨a,b,c⟩=>⟨a,b,k c⟩⟩
theorem FE {α:Type} {a:List α} {f:α->Int->Option Int} {Q:α->Prop} (hf:∀x∈a,∀l,0<=l->l<=1048576->rV l (f x l) (Q x)) (hn:a.length<=4294967295) {left:Int} (hl:0<=left/\left<=1048576) :
 rV left ((loop (λs:Int×Int=>cond (decide (s.2<(a.length:Int))) ((at? a s.2).bind λx=>(f x s.1).bind λt=>cond (decide (t<0)) (some (.inr (.inr (-1)))) (some (.inl (t,oT (s.2+1))))) (some (.inr (.inl s.1)))) (left,0)).bind (Sum.elim (λd=>some d) (λr=>some r))) (∀x∈a,Q x):=by
 obtain⟨b,h1,h2⟩:=qf (β:=Int⊕Int) (step:=λs:Int×Int=>cond (decide (s.2<(a.length:Int))) ((at? a s.2).bind λx=>(f x s.1).bind λt=>cond (decide (t<0)) (some (.inr (.inr (-1)))) (some (.inl (t,oT (s.2+1))))) (some (.inr (.inl s.1))))
  (λk s=>s.2=(k:Int)/\0<=s.1/\s.1<=left/\∀x∈a.take k,Q x) a.length (λb=>b=.inr (-1)\/∃d,b=.inl d/\0<=d/\d<=left/\∀x∈a,Q x)
  (λk s hk ⟨e1,e2,e3,e4⟩=>by
   obtain⟨l,i⟩:=s;simp only at e1 e2 e3;subst e1;obtain⟨r,hr,h⟩:=hf a[k] (List.getElem_mem hk) l e2 (by omega);rcases h with rfl|⟨h1,h2,h3⟩
   · refine .inr ⟨.inr (-1),?_,.inl rfl⟩;simp only[qD (show (k:Int)<(a.length:Int) by omega),cT,pv hk,Option.bind_some,hr];rw[qD (by omega),cT]
   · refine .inl ⟨(r,((k+1:Nat):Int)),?_,rfl,h1,by show r<=left;omega,λx hx=>?_⟩
     · simp only[qD (show (k:Int)<(a.length:Int) by omega),cT,pv hk,Option.bind_some,hr];rw[pU (by omega),cF,pz (by omega)]
     · rw[List.take_add_one,List.getElem?_eq_getElem hk,mem_append]at hx;rcases hx with hx|hx
       · exact e4 x hx
       · simp at hx;subst hx;exact h3)
  (λs ⟨e1,e2,e3,e4⟩=>by
   obtain⟨l,i⟩:=s;simp only at e1 e2 e3;subst e1;refine⟨.inl l,?_,.inr ⟨l,rfl,e2,e3,by simpa using e4⟩⟩;simp only[pU (show ¬(a.length:Int)<(a.length:Int) by omega),cF])
  (x:=(left,0)) ⟨rfl,hl.1,Int.le_refl _,by simp⟩
 rw[h1,Option.bind_some];rcases h2 with rfl|⟨d,rfl,h3,h4,h5⟩
 · exact⟨-1,rfl,.inl rfl⟩
 · exact⟨d,rfl,.inr ⟨h3,h4,h5⟩⟩
end Go.V
namespace Go.V

theorem wM {α:Type} {l:List α} {M:Int->Int->List α->Option ((Int×Int×List α)⊕(Int×List α))} {H:List α->Int->Int->Option ((Int×Int)⊕(Int⊕Int))} {B c:Int} (hc:0<=c)
 (hM:∀x∈l,∀k:Int,0<=k->k<=B->∃(x':α) (k':Int),k<=k'/\k'<=k+c/\(∀(n:Nat) (ls:List α) (hn:n<ls.length),ls.length<=l.length->ls[n]=x->M k (n:Int) ls=some (.inl (k',((n+1:Nat):Int),ls.set n x'))) /\
  ∀(n:Nat) (a:List α) (hn:n<a.length),a.length<=l.length->a[n]=x'->H a k (n:Int)=some (.inl (k',((n+1:Nat):Int))))
 (hM0:∀k ls,M k (ls.length:Int) ls=some (.inr (k,ls))) (hH0:∀k (a:List α),H a k (a.length:Int)=some (.inr (.inl k))) {k:Int} (h0:0<=k) (hB:k+c*(l.length:Int)<=B) :
 ∃l' k',loop (λz:Int×Int×List α=>M z.1 z.2.1 z.2.2) (k,0,l)=some (k',l')/\l'.length=l.length/\k<=k'/\k'<=k+c*(l.length:Int)/\loop (λz:Int×Int=>H l' z.1 z.2) (k,0)=some (.inl k'):=by
 have key:∀(rest pre:List α) (k:Int),(∀x∈rest,x∈l)->pre.length+rest.length=l.length->0<=k->k+c*(rest.length:Int)<=B->∃(rest':List α) (k':Int),rest'.length=rest.length/\k<=k'/\k'<=k+c*(rest.length:Int) /\
  r8 (λz:Int×Int×List α=>M z.1 z.2.1 z.2.2) (rest.length+1) (k,(pre.length:Int),pre++rest)=some (k',pre++rest') /\
  r8 (λz:Int×Int=>H (pre++rest') z.1 z.2) (rest.length+1) (k,(pre.length:Int))=some (.inl k'):=by
  intro rest
  induction rest with
  | nil =>
   intro pre k _ _ h0 hB;refine⟨[],k,rfl,Int.le_refl _,by simp,?_,?_⟩
   · rw[pJ];have:=hM0 k (pre++[])
     simp only[append_nil]at this ⊢;rw[this];rfl
   · rw[pJ];have:=hH0 k (pre++[])
     simp only[append_nil]at this ⊢;rw[this];rfl
  | cons x rest ih =>
   intro pre k hin hlen h0 hB;have hcl:c*((x::rest).length:Int)=c*(rest.length:Int)+c:=by rw[length_cons,Int.natCast_succ,Int.mul_add,Int.mul_one]
   have hcr:0<=c*(rest.length:Int):=Int.mul_nonneg hc (Int.natCast_nonneg _);rw[hcl]at hB;obtain⟨x',k1,a1,a2,a3,a4⟩:=hM x (hin x (by simp)) k h0 (by omega);obtain⟨rest',k',b1,b2,b3,b4,b5⟩:=ih (pre++[x']) k1 (λy hy=>hin y (by simp[hy])) (by simp at hlen ⊢;omega) (by omega) (by omega);have hp:((pre++[x']).length:Int)=((pre.length+1:Nat):Int):=by simp
   have e1:pre++[x']++rest=pre++x'::rest:=by simp
   have e2:pre++[x']++rest'=pre++x'::rest':=by simp
   rw[hp,e1,e2]at b4;rw[hp,e2]at b5;refine⟨x'::rest',k',by simp[b1],by omega,by rw[hcl];omega,?_,?_⟩
   · rw[length_cons,pJ];have:=a3 pre.length (pre++x::rest) (by simp) (by simp at hlen ⊢;omega) (by simp)
     simp only[this,Option.bind_some,Sum.elim_inl];have es:(pre++x::rest).set pre.length x'=pre++x'::rest:=by simp
     rw[es];exact b4
   · rw[length_cons,pJ];have:=a4 pre.length (pre++x'::rest') (by simp) (by simp[b1]at hlen ⊢;omega) (by simp)
     simp only[this,Option.bind_some,Sum.elim_inl];exact b5
 obtain⟨l',k',b1,b2,b3,b4,b5⟩:=key l [] k (λ_ h=>h) (by simp) h0 hB;exact⟨l',k',sM b4,b1,b2,b3,sM b5⟩
theorem BK {α:Type} {l:List α} {M:Int->Int->List α->Option ((Int×Int×List α)⊕(Int×List α))} {B c:Int} (hc:0<=c)
 (hM:∀x∈l,∀k:Int,0<=k->k<=B->∃(x':α) (k':Int),k<=k'/\k'<=k+c/\(∀(n:Nat) (ls:List α) (hn:n<ls.length),ls.length<=l.length->ls[n]=x->M k (n:Int) ls=some (.inl (k',((n+1:Nat):Int),ls.set n x'))))
 (hM0:∀k ls,M k (ls.length:Int) ls=some (.inr (k,ls))) {k:Int} (h0:0<=k) (hB:k+c*(l.length:Int)<=B) :
 ∃l' k',loop (λz:Int×Int×List α=>M z.1 z.2.1 z.2.2) (k,0,l)=some (k',l')/\l'.length=l.length/\k<=k'/\k'<=k+c*(l.length:Int):=by
 have key:∀(rest pre:List α) (k:Int),(∀x∈rest,x∈l)->pre.length+rest.length=l.length->0<=k->k+c*(rest.length:Int)<=B->∃(rest':List α) (k':Int),rest'.length=rest.length/\k<=k'/\k'<=k+c*(rest.length:Int) /\
  r8 (λz:Int×Int×List α=>M z.1 z.2.1 z.2.2) (rest.length+1) (k,(pre.length:Int),pre++rest)=some (k',pre++rest'):=by
  intro rest
  induction rest with
  | nil =>
   intro pre k _ _ h0 hB;refine⟨[],k,rfl,Int.le_refl _,by simp,?_⟩;rw[pJ];have:=hM0 k (pre++[])
   simp only[append_nil]at this ⊢;rw[this];rfl
  | cons x rest ih =>
   intro pre k hin hlen h0 hB;have hcl:c*((x::rest).length:Int)=c*(rest.length:Int)+c:=by rw[length_cons,Int.natCast_succ,Int.mul_add,Int.mul_one]
   have hcr:0<=c*(rest.length:Int):=Int.mul_nonneg hc (Int.natCast_nonneg _);rw[hcl]at hB;obtain⟨x',k1,a1,a2,a3⟩:=hM x (hin x (by simp)) k h0 (by omega);obtain⟨rest',k',b1,b2,b3,b4⟩:=ih (pre++[x']) k1 (λy hy=>hin y (by simp[hy])) (by simp at hlen ⊢;omega) (by omega) (by omega);have hp:((pre++[x']).length:Int)=((pre.length+1:Nat):Int):=by simp
   have e1:pre++[x']++rest=pre++x'::rest:=by simp
   have e2:pre++[x']++rest'=pre++x'::rest':=by simp
   rw[hp,e1,e2]at b4;refine⟨x'::rest',k',by simp[b1],by omega,by rw[hcl];omega,?_⟩;rw[length_cons,pJ];have:=a3 pre.length (pre++x::rest) (by simp) (by simp at hlen ⊢;omega) (by simp)
   simp only[this,Option.bind_some,Sum.elim_inl];have es:(pre++x::rest).set pre.length x'=pre++x'::rest:=by simp
   rw[es];exact b4
 obtain⟨l',k',b1,b2,b3,b4⟩:=key l [] k (λ_ h=>h) (by simp) h0 hB;exact⟨l',k',sM b4,b1,b2,b3⟩
theorem ua {n:Int} (h1:0<=n) (h2:n<9223372036854775808):oT n=n:=sr (by omega) (by omega)
theorem sN {α:Type} {l:List α} {n:Nat} {x:α} (h:n<l.length):(l.set n x)[n]?=some x:=List.getElem?_set_self h
end Go.V

