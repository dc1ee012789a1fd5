/- The law FnExactPlayActs: part of the proof that for every input it returns true. No condition. -/
import Derived.Test.YthcdcolihokdmaaGreatFnExactPlayActsBP1
open List (all_eq_true any_eq_false append_assoc append_nil drop_zero flatMap_append getElem_mem getElem_of_mem getElem_set_self length_append length_drop length_eq_zero_iff length_map length_set length_singleton length_take map_append map_cons map_map mem_append mem_cons_of_mem mem_map mem_of_mem_drop mem_of_mem_take mem_range mem_singleton nil_append pairwise_append pairwise_cons pairwise_iff_getElem set_set take_add_one take_length take_of_length_le)
set_option linter.unusedVariables false
set_option linter.unusedSimpArgs false
namespace Go.V.W
theorem O7 {b:List Int}:∀(o pre out:List Int),b=pre++xU o->(∀x∈o,0<=x/\x<=100000)->b.length<=30->out.length+o.length<=10->loop (λz:Int×List Int=>aq b z.1 z.2) ((pre.length:Int),out)=some (.inl ((b.length:Int),out++o))
 | [],pre,out,e,_,hb,_=>by
  have hbl:b.length=pre.length:=by rw[e];simp[xU]
  refine xF ?_;show aq b (pre.length:Int) out=_
  unfold aq;rw[xu (by omega),cF,wX,cF,append_nil,hbl]
 | n::o,pre,out,e,hx,hb,hl=>by
  have e1:b=pre++(grp n++xU o):=by rw[e];rfl
  have e2:b=(pre++grp n)++xU o:=by rw[e1,append_assoc]
  rw[List.length_cons]at hl;have ih:=O7 o (pre++grp n) (out++[n]) e2 (λx h=>hx x (mem_cons_of_mem _ h)) hb (by simp;omega)
  rw[length_append,append_assoc]at ih;have hpl:pre.length<=30:=by rw[e1,length_append]at hb;omega
  have hg1:=Q6 n;have hbl:b.length=pre.length+(grp n).length+(xU o).length:=by rw[e2,length_append,length_append]
  have hr:=Yt (pre:=pre) (rest:=xU o) (hx n (by simp)) (by omega);rw[←e1]at hr;refine xx ?_ ih;show aq b (pre.length:Int) out=_
  unfold aq;rw[xI (show (pre.length:Int)<(b.length:Int) by omega),cT,dT (show (out.length:Int)<=10 by omega),wX,cT,hr,wX];have hx':=hx n (by simp)
  simp only[cF];rw[TR (by omega),wX,wX];simp only[bne_self_eq_false,cF];rw[xh (by simp;omega),wX]
theorem O8 (a:List Int) (n:Int):xU (a++[n])=xU a++grp n:=by unfold xU;rw[flatMap_append];simp
theorem W5 {b:List Int} (hb:A3 b) (hn:b.length<=M):∃v,loop (λz:Int×List Int=>aq b z.1 z.2) (0,[])=some v/\(v=.inr (false,[])\/∃out s,v=.inl (((xU out).length:Int),out)/\b=xU out++s/\out.length<=11):=by
 have hn':b.length<=1048576:=hn;exact xG (step:=λz:Int×List Int=>aq b z.1 z.2) (λk z=>z.2.length=k/\z.1=((xU z.2).length:Int)/\∃s,b=xU z.2++s) 11 (λv=>v=.inr (false,[])\/∃out s,v=.inl (((xU out).length:Int),out)/\b=xU out++s/\out.length<=11)
  (λk z hk ⟨z1,z2,s,z3⟩=>by
   obtain⟨i,out⟩:=z;simp only at z1 z2 z3;subst z2;have hbl:b.length=(xU out).length+s.length:=by rw[←length_append,←z3]
   by_cases hlt:((xU out).length:Int)<(b.length:Int)
   · obtain⟨d,d1,d2,d3,d4,d5,d6⟩:=Ys z3 hb hn;have hs:aq b ((xU out).length:Int) out=(cond d.2.2.2 (some true) ((e9 d.2.1).bind λt51=>some ((t51.length:Int) != d.2.2.1))).bind λt55=>cond t55 (some (.inr (.inr (false,([]:List Int))))) ((app out [d.2.1]).bind λzs60=>some (.inl (d.1,zs60))):=by
      unfold aq;rw[xI hlt,cT,dT (show (out.length:Int)<=10 by omega),wX,cT,d1,wX]
     show (∃y,aq b ((xU out).length:Int) out=some (.inl y)/\_)\/∃v,aq b ((xU out).length:Int) out=some (.inr v)/\_;rw[hs];rcases d2 with d2|⟨l,rest,q1,q2,q3,q4,q5,q6⟩
     · rw[d2];exact .inr ⟨_,rfl,.inl rfl⟩
     · have qb:d.2.2.2=false:=by rw[q3]
       have ql:d.2.2.1=(l.length:Int):=by rw[q3]
       have qa:d.1=(((xU out).length+l.length:Nat):Int):=by rw[q3]
       rw[qb,cF,TR ⟨q4,q5⟩,wX,wX,ql];cases hne:(((grp d.2.1).length:Int) != (l.length:Int))with
       | true=>exact .inr ⟨_,rfl,.inl rfl⟩
       | false =>
        have he:((grp d.2.1).length:Int)=(l.length:Int):=by simpa using hne
        have hl:=q6 (by omega);refine .inl ⟨_,by rw[cF,xh (by simp;omega),wX],by simp;omega,?_,rest,?_⟩
        · show d.1=((xU (out++[d.2.1])).length:Int);rw[O8,length_append,qa,←hl]
        · show b=xU (out++[d.2.1])++rest;rw[O8,←hl,append_assoc,←q1];exact z3
   · refine .inr ⟨.inl (((xU out).length:Int),out),?_,.inr ⟨out,s,rfl,z3,by omega⟩⟩;show aq b ((xU out).length:Int) out=_
     unfold aq;rw[xu hlt];rfl)
  (λz ⟨z1,z2,s,z3⟩=>by
   obtain⟨i,out⟩:=z;simp only at z1 z2 z3;subst z2;refine⟨.inl (((xU out).length:Int),out),?_,.inr ⟨out,s,rfl,z3,by omega⟩⟩;show aq b ((xU out).length:Int) out=_
   unfold aq;by_cases hlt:((xU out).length:Int)<(b.length:Int)
   · rw[xI hlt,cT,dF (by omega)];rfl
   · rw[xu hlt];rfl) (x:=(0,[])) ⟨rfl,rfl,b,rfl⟩
theorem MO:∀{a b:List Int},A3 a->A3 b->yq a=yq b->a=b
 | [],[],_,_,_=>rfl
 | [],_::_,_,_,h=>by simp[yq]at h
 | _::_,[],_,_,h=>by simp[yq]at h
 | x::a,y::b,ha,hb,h=>by
  unfold yq at h;rw[map_cons,map_cons,List.cons.injEq]at h;have hx:=ha x (by simp)
  have hy:=hb y (by simp);have h1:=congrArg UInt8.toNat h.1
  rw[UInt8.toNat_ofNat_of_lt' (by show x.toNat<256;omega),UInt8.toNat_ofNat_of_lt' (by show y.toNat<256;omega)]at h1;rw[MO (λz hz=>ha z (mem_cons_of_mem _ hz)) (λz hz=>hb z (mem_cons_of_mem _ hz)) h.2,show x=y by omega]
theorem Ti {o:List Int} (h:∀x∈o,0<=x/\x<=100000):A3 (xU o):=by
 intro x hx;obtain⟨n,hn,hx⟩:=List.mem_flatMap.1 hx;have:=h n hn
 exact Ml (by omega) x hx
theorem O9 {o:List Int} (h:1<=o.length):1<=(xU o).length:=by
 cases o with
 | nil=>simp at h
 | cons n o =>
  have:=Q6 n;unfold xU;rw[List.flatMap_cons,length_append];omega
theorem W6 {b:List Int} (hb:A3 b) (hn:b.length<=M):∃v,loop (λz:Int×Int×List Int=>av b z.1 z.2.1 z.2.2) (0,0,[])=some v/\(v=.inr (false,[])\/∃out,v=.inl out/\out.length<=M):=by
 have hn':b.length<=1048576:=hn;exact xG (step:=λz:Int×Int×List Int=>av b z.1 z.2.1 z.2.2) (λk z=>z.2.1=(k:Int)/\0<=z.1/\z.2.2.length<=k) b.length (λv=>v=.inr (false,[])\/∃out,v=.inl out/\out.length<=M)
  (λk z hk ⟨z1,z2,z3⟩=>by
   obtain⟨n,i,out⟩:=z;simp only at z1 z2 z3;subst z1;have hx:=hb _ (getElem_mem hk)
   have hm:0<=min2 n 1048576/\min2 n 1048576<=1048576:=by unfold min2;split<;>omega
   show (∃y,av b n (k:Int) out=some (.inl y)/\_)\/∃v,av b n (k:Int) out=some (.inr v)/\_;unfold av;rw[xI (by omega),cT,xo hk,wX];by_cases h40:(k:Int)>=40
   · rw[dT h40];exact .inr ⟨_,rfl,.inl rfl⟩
   rw[dF h40,cF,If hx,Rk (by omega) (by omega),xj (by omega)];simp only;by_cases h:b[k]<128
   · rw[dT h,cT,xh (by simp;omega),wX];exact .inl ⟨_,rfl,rfl,by show (0:Int)<=0;omega,by simp;omega⟩
   · rw[dF h,cF];exact .inl ⟨_,rfl,rfl,by show 0<=min2 n 1048576*128+b[k]%128;omega,by show out.length<=k+1;omega⟩)
  (λz ⟨z1,z2,z3⟩=>by
   obtain⟨n,i,out⟩:=z;simp only at z1 z2 z3;subst z1;refine⟨.inl out,?_,.inr ⟨out,rfl,by show _<=1048576;omega⟩⟩;show av b n (b.length:Int) out=_
   unfold av;rw[xu (by omega),cF]) (x:=(0,0,[])) ⟨rfl,by show (0:Int)<=0;omega,by simp⟩

theorem CU {o:List Int} (h:Au o=true):Za o:=by
 unfold Au at h;rw[aT,Bool.not_eq_true']at h;have h1:=ye h.2
 refine⟨by omega,by omega,λx hx=>?_⟩;obtain⟨k,hk,rfl⟩:=getElem_of_mem hx;have:=any_eq_false.1 h.1 k (mem_range.2 hk)
 unfold Mf at this;simp only[List.getElem?_eq_getElem hk]at this;cases hp:xe o[k] 0 100000 with
 | true=>exact ye hp
 | false=>rw[hp]at this;exact absurd rfl this
theorem Jp {o:List Int} (hn:o.length<=M):cr o=some (cond (Au o) (xU o) []):=by
 obtain⟨v,h1,h2,h3⟩:=Xo hn;rw[Ia (by have:o.length<=1048576:=hn;omega)]at h1;cases h1;exact h3
theorem S8 {b:List Int} (hb:A3 b) (hn:b.length<=M):∃r,bQ b=some r/\ch b=some r/\(r=([],false)\/∃o,r=(o,true)/\b=xU o/\Au o=true):=by
 have hn':b.length<=1048576:=hn;have both:∀o,Au o=true->b=xU o->bQ b=some (o,true)/\ch b=some (o,true):=by
  intro o ho e;obtain⟨o1,o2,o3⟩:=CU ho;have hbl:b.length<=30:=by rw[e];have:=Dk (o:=o) λx hx=>(o3 x hx).2;omega
  have hpos:=O9 o1;constructor
  · unfold bQ;have:=OQ (b:=b) o [] [] (by rw[e];rfl) o3 hbl (by simp;omega)
    simp only[List.length_nil,Int.natCast_zero,nil_append]at this;have this':loop (λz:Int×Int×List Int=>av b z.1 z.2.1 z.2.2) (0,0,[])=some (.inl o):=this
    rw[this',wX,Sum.elim_inl,Jp (by show _<=1048576;omega),wX,ho,cT,←e,beq_eq_false_iff_ne.2 (show ((b.length:Int))≠0 by rw[e];omega),cF,beq_self_eq_true];rfl
  · unfold ch;have:=O7 (b:=b) o [] [] (by rw[e];rfl) o3 hbl (by simp;omega)
    simp only[List.length_nil,nil_append]at this;have this':loop (λz:Int×List Int=>aq b z.1 z.2) (0,[])=some (.inl ((b.length:Int),o)):=this
    rw[this',wX,Sum.elim_inl];simp only[bne_self_eq_false,cF];rw[OK,Ia (by omega),wX,ho];rfl
 obtain⟨v,v1,v2⟩:=W5 hb hn;have sp:ch b=some ([],false)\/∃o,Au o=true/\b=xU o:=by
  unfold ch;rw[v1,wX];rcases v2 with rfl|⟨out,s,rfl,q1,q2⟩
  · exact .inl rfl
  · simp only[Sum.elim_inl];cases hne:(((xU out).length:Int) != (b.length:Int))with
    | true=>exact .inl rfl
    | false =>
     rw[cF,OK,Ia (by omega),wX];cases ho:Au out with
     | false=>exact .inl rfl
     | true =>
      have he:((xU out).length:Int)=(b.length:Int):=by simpa using hne
      have:s=[]:=by
       have:=congrArg List.length q1;rw[length_append]at this;exact length_eq_zero_iff.1 (by omega)
      subst this;exact .inr ⟨out,ho,by rw[q1,append_nil]⟩
 rcases sp with sp|⟨o,ho,e⟩
 · obtain⟨u,u1,u2⟩:=W6 hb hn;have im:bQ b=some ([],false)\/∃o,Au o=true/\b=xU o:=by
    unfold bQ;rw[u1,wX];rcases u2 with rfl|⟨out,rfl,hl⟩
    · exact .inl rfl
    · rw[Sum.elim_inl,Jp hl,wX];cases ho:Au out with
      | false=>exact .inl rfl
      | true =>
       obtain⟨o1,o2,o3⟩:=CU ho;have hpos:=O9 o1
       rw[cT,beq_eq_false_iff_ne.2 (show (((xU out).length:Int))≠0 by omega),cF];cases hq:(yq (xU out)==yq b)with
       | false=>exact .inl rfl
       | true=>exact .inr ⟨out,ho,(MO (Ti o3) hb (eq_of_beq hq)).symm⟩
   rcases im with im|⟨o,ho,e⟩
   · exact⟨_,im,sp,.inl rfl⟩
   · obtain⟨b1,b2⟩:=both o ho e;exact⟨_,b1,b2,.inr ⟨o,rfl,e,ho⟩⟩
 · obtain⟨b1,b2⟩:=both o ho e;exact⟨_,b1,b2,.inr ⟨o,rfl,e,ho⟩⟩

theorem Lt:∀{b:List Int},A3 b->Bz (yq b)=b
 | [],_=>rfl
 | x::b,h=>by
  have hx:=h x (by simp);have ih:=Lt (b:=b) λy hy=>h y (mem_cons_of_mem _ hy)
  unfold Bz yq at ih ⊢;rw[map_cons,map_cons,ih]
  congr 1
  show ((UInt8.ofNat x.toNat).toNat:Int)=x;rw[UInt8.toNat_ofNat_of_lt' (by show x.toNat<256;omega)];omega
def zO (v:A6):List Int:=cond (v.1==2) (yS v.2.1) (cond (v.1==4) (Bz v.2.2.1) (cond (v.1==6) (xU v.2.2.2) []))
theorem M7 {o:List Int} (h:Au o=true):o.length<=10:=(CU h).2.1
theorem W7 {b:List Int} (hb:A3 b) (hn:b.length<=M) {i:Int} (hi:-9223372036854775808<=i/\i<=9223372036854775807):∃r,gu b i=some r/\iu b i=some r/\(r=((0,0,[],[]),0,false)\/∃v next,r=(v,next,true)/\Bg v=true/\CH b i v.1 (zO v) next):=by
 have hM:M=1048576:=rfl;obtain⟨r,r1,r2,r3⟩:=LM hb hn hi;unfold gu iu;rw[r1,r2,wX,wX];have hrl:r.2.1.length<=250/\A3 r.2.1:=by
  rcases r3 with rfl|⟨t,body,next,rfl,h⟩
  · exact⟨by simp,λx hx=>by simp at hx⟩
  · exact⟨h.n,h.b⟩
 have hlM:r.2.1.length<=M:=by omega
 rcases r3 with rfl|⟨t,body,next,rfl,h⟩
 · exact⟨_,rfl,rfl,.inl rfl⟩
 simp only at hrl hlM;simp only[Bool.not_true,cF];by_cases t2:t=2
 · subst t2;obtain⟨g,g1,g2,g3⟩:=SQ hrl.2 hlM;simp only[show ((2:Int)==2)=true from rfl,cT,g1,g2,wX];rcases g3 with rfl|⟨n,rfl,q1,q2,q3⟩
   · exact⟨_,rfl,rfl,.inl rfl⟩
   · simp only[Bool.not_true,cF,wX,Ks (v:=(2,n,[],[])) (by simp),Mg (v:=(2,n,[],[])) (by simp)];cases hv:Bg (2,n,[],[])with
     | false=>exact⟨_,rfl,rfl,.inl rfl⟩
     | true=>exact⟨_,rfl,rfl,.inr ⟨_,_,rfl,hv,by have:zO (2,n,[],[])=body:=q1.symm;rw[this];exact h⟩⟩
 rw[beq_eq_false_iff_ne.2 t2];simp only[cF];by_cases t4:t=4
 · subst t4;simp only[show ((4:Int)==4)=true from rfl,cT,Bool.not_true,wX,cF,Ks (v:=(4,0,yq body,[])) (by simp),Mg (v:=(4,0,yq body,[])) (by simp)];cases hv:Bg (4,0,yq body,[])with
   | false=>exact⟨_,rfl,rfl,.inl rfl⟩
   | true=>exact⟨_,rfl,rfl,.inr ⟨_,_,rfl,hv,by have:zO (4,0,yq body,[])=body:=Lt h.b;rw[this];exact h⟩⟩
 rw[beq_eq_false_iff_ne.2 t4];simp only[cF];by_cases t6:t=6
 · subst t6;obtain⟨g,g1,g2,g3⟩:=S8 hrl.2 hlM;simp only[show ((6:Int)==6)=true from rfl,cT,g1,g2,wX];rcases g3 with rfl|⟨o,rfl,q1,q2⟩
   · exact⟨_,rfl,rfl,.inl rfl⟩
   · have ol:=M7 q2;simp only[Bool.not_true,cF,wX,Ks (v:=(6,0,[],o)) (by show o.length<=M;omega),Mg (v:=(6,0,[],o)) (by show o.length<=M;omega)];cases hv:Bg (6,0,[],o)with
     | false=>exact⟨_,rfl,rfl,.inl rfl⟩
     | true=>exact⟨_,rfl,rfl,.inr ⟨_,_,rfl,hv,by have:zO (6,0,[],o)=body:=q1.symm;rw[this];exact h⟩⟩
 rw[beq_eq_false_iff_ne.2 t6];simp only[cF];cases hz:((body.length:Int)==0)with
 | false=>exact⟨_,rfl,rfl,.inl rfl⟩
 | true =>
  have hb0:body=[]:=length_eq_zero_iff.1 (by have:(body.length:Int)=0:=eq_of_beq hz;omega);simp only[Bool.not_true,cF,wX,Ks (v:=(t,0,[],[])) (by simp),Mg (v:=(t,0,[],[])) (by simp)];cases hv:Bg (t,0,[],[])with
  | false=>exact⟨_,rfl,rfl,.inl rfl⟩
  | true =>
   refine⟨_,rfl,rfl,.inr ⟨_,_,rfl,hv,?_⟩⟩;have:zO (t,0,[],[])=body:=by
    unfold zO;simp only[beq_eq_false_iff_ne.2 t2,beq_eq_false_iff_ne.2 t4,beq_eq_false_iff_ne.2 t6,cF];exact hb0.symm
   rw[this];exact h
theorem XA {r:zC} (hb:A3 r.1) (hn:r.1.length<=M) (hi:-9223372036854775808<=r.2.1/\r.2.1<=9223372036854775807) (tag:Int):∃d,bz r tag=some d/\bL r tag=some d/\d.1.1=r.1/\(d.1.2.2=true->d.2=[])/\(r.2.2=true->d.1.2.2=true)/\(d.1.2.2=false->r.2.2=false/\CH r.1 r.2.1 tag d.2 d.1.2.1)/\(d.1.2.2=true->d.1.2.1=r.2.1):=by
 obtain⟨g,g1,g2,g3⟩:=LM hb hn hi;unfold bz bL;rw[g1,g2,wX];rcases g3 with rfl|⟨t,body,next,rfl,h⟩
 · cases hr:r.2.2 with
   | true=>exact⟨_,rfl,rfl,rfl,λ_=>rfl,λ_=>rfl,λe=>(by cases e),λ_=>rfl⟩
   | false=>exact⟨_,rfl,rfl,rfl,λ_=>rfl,λ_=>rfl,λe=>(by cases e),λ_=>rfl⟩
 · cases hr:r.2.2 with
   | true=>exact⟨_,rfl,rfl,rfl,λ_=>rfl,λ_=>rfl,λe=>(by cases e),λ_=>rfl⟩
   | false =>
    simp only[cF,Bool.not_true,wX];cases ht:(t != tag)with
    | true=>exact⟨_,rfl,rfl,rfl,λ_=>rfl,λ_=>rfl,λe=>(by cases e),λ_=>rfl⟩
    | false =>
     have:t=tag:=by simpa using ht
     subst this;exact⟨_,rfl,rfl,rfl,λe=>(by cases e),λe=>(by cases e),λ_=>⟨by first|rfl|trivial,h⟩,λe=>(by cases e)⟩

structure FS (r:zC):Prop where
 b:A3 r.1
 n:r.1.length<=M
 lo:0<=r.2.1
 hi:r.2.1<=(r.1.length:Int)
theorem CH.next {b:List Int} {i t:Int} {body:List Int} {next:Int} (h:CH b i t body next):0<=next/\next<=(b.length:Int):=by
 obtain⟨pre,rest,e1,e2,e3⟩:=h.ex;have:=congrArg List.length e1
 rw[length_append,length_append]at this;omega
theorem FS.rg {r:zC} (h:FS r):-9223372036854775808<=r.2.1/\r.2.1<=9223372036854775807:=by
 have h1:=h.lo;have h2:=h.hi
 have h3:r.1.length<=1048576:=h.n;omega
theorem M8:A3 []:=λx hx=>by simp at hx
theorem Jq {r:zC} (h:FS r) (tag:Int):∃d,bz r tag=some d/\bL r tag=some d/\FS d.1/\d.1.1=r.1/\A3 d.2/\d.2.length<=250/\(d.1.2.2=true->d.2=[])/\(r.2.2=true->d.1.2.2=true)/\(d.1.2.2=false->r.2.2=false/\CH r.1 r.2.1 tag d.2 d.1.2.1):=by
 obtain⟨d,d1,d2,d3,d4,d5,d6,d7⟩:=XA h.b h.n h.rg tag;refine⟨d,d1,d2,?_,d3,?_,?_,d4,d5,d6⟩
 · cases hb:d.1.2.2 with
   | true=>exact⟨by rw[d3];exact h.b,by rw[d3];exact h.n,by rw[d7 hb];exact h.lo,by rw[d7 hb,d3];exact h.hi⟩
   | false =>
    have:=(d6 hb).2.next
    exact⟨by rw[d3];exact h.b,by rw[d3];exact h.n,this.1,by rw[d3];exact this.2⟩
 · cases hb:d.1.2.2 with
   | true=>rw[d4 hb];exact M8
   | false=>exact (d6 hb).2.b
 · cases hb:d.1.2.2 with
   | true=>rw[d4 hb];simp
   | false=>exact (d6 hb).2.n
theorem QN {r:zC} (h:FS r):∃d,cp r 2=some d/\cL r=some d/\FS d.1/\d.1.1=r.1/\(r.2.2=true->d.1.2.2=true)/\(d.1.2.2=false->r.2.2=false/\CH r.1 r.2.1 2 (yS d.2) d.1.2.1 /\ -2147483648<=d.2/\d.2<=2147483647):=by
 obtain⟨d,d1,d2,d3,d4,d5,d6,d7,d8,d9⟩:=Jq h 2;have hM:M=1048576:=rfl
 obtain⟨g,g1,g2,g3⟩:=SQ d5 (by omega);unfold cp cL;rw[d1,d2,wX,wX,g1,g2,wX];cases hb:d.1.2.2 with
 | true =>
  refine⟨_,rfl,rfl,⟨d3.b,d3.n,d3.lo,d3.hi⟩,d4,λ_=>rfl,λe=>(by cases e)⟩
 | false =>
  obtain⟨q1,q2⟩:=d9 hb;rcases g3 with rfl|⟨n,rfl,e,n1,n2⟩
  · exact⟨_,rfl,rfl,⟨d3.b,d3.n,d3.lo,d3.hi⟩,d4,λ_=>rfl,λe=>(by cases e)⟩
  · refine⟨_,rfl,rfl,⟨d3.b,d3.n,d3.lo,d3.hi⟩,d4,λe=>?_,λ_=>⟨q1,?_,n1,n2⟩⟩
    · rw[q1]at e;cases e
    · rw[←e];exact q2
theorem U1 {b:List Int} (hb:A3 b) (hn:b.length<=M):∃r,gv b=some r/\iv b=some r/\(r=(([],0,0,[],[]),false)\/∃x,r=(x,true)/\C4 x=true/\b=yo 6 (xU x.1)++yo x.2.1 (zO x.2)):=by
 have hM:M=1048576:=rfl;have h0:FS (b,0,false):=⟨hb,hn,by show (0:Int)<=0;omega,by show (0:Int)<=(b.length:Int);omega⟩
 obtain⟨d,d1,d2,d3,d4,d5,d6,d7,d8,d9⟩:=Jq h0 6;obtain⟨g,g1,g2,g3⟩:=S8 d5 (by omega);obtain⟨v,v1,v2,v3⟩:=W7 hb hn d3.rg;unfold gv iv;simp only[d1,d2,g1,g2,v1,v2,wX];cases hbad:d.1.2.2 with
 | true=>exact⟨_,rfl,rfl,.inl rfl⟩
 | false =>
  simp only[cF,wX];obtain⟨_,hp⟩:=d9 hbad;rcases g3 with rfl|⟨o,rfl,go,ho⟩
  · exact⟨_,rfl,rfl,.inl rfl⟩
  simp only[Bool.not_true,cF,wX];rcases v3 with rfl|⟨w,next,rfl,hw,hp2⟩
  · exact⟨_,rfl,rfl,.inl rfl⟩
  simp only[Bool.not_true,cF,wX];cases hne:(next != (b.length:Int))with
  | true=>exact⟨_,rfl,rfl,.inl rfl⟩
  | false =>
   have hnx:next=(b.length:Int):=by simpa using hne
   refine⟨_,rfl,rfl,.inr ⟨(o,w),rfl,by unfold C4;rw[ho,hw];rfl,?_⟩⟩;obtain⟨p1,r1,e1,e2,e3⟩:=hp.ex;obtain⟨p2,r2,f1,f2,f3⟩:=hp2.ex;have hp1:p1=[]:=by
    have e2':(0:Int)=(p1.length:Int):=e2;exact length_eq_zero_iff.1 (by omega)
   subst hp1;have e1':b=yo 6 d.2++r1:=by simpa using e1
   have hl:p2.length=(yo 6 d.2).length:=by
    rw[e3]at f2;simp at f2;omega
   obtain⟨q1,q2⟩:=List.append_inj (f1.symm.trans e1') hl;have hr2:r2=[]:=by
    have:=congrArg List.length f1;rw[length_append,length_append]at this;exact length_eq_zero_iff.1 (by omega)
   show b=yo 6 (xU o)++yo w.1 (zO w);rw[f1,q1,go,hr2,append_nil]

theorem Bp (n:Int):(yS n).length<=4:=by unfold yS;split<;>(try split)<;>(try split)<;>simp
theorem zD (t:Int) {body:List Int}:(yo t body).length<=body.length+3:=by unfold yo;split<;>simp<;>omega
theorem HZ {v:A6} (h:Bg v=true):(zO v).length<=30/\xe v.1 0 255=true/\v.2.2.2.length<=10/\v.2.2.1.length<=20:=by
 obtain⟨k,n,s,o⟩:=v;have EK:∀{x:Int},0<=x->x<=255->xe x 0 255=true:=λh1 h2=>by unfold xe;rw[dT h1,dT h2];rfl
 unfold Bg at h;simp only at h;unfold zO;simp only;by_cases h1:(k==5||(k==128||k==130))=true
 · rw[h1,cT]at h;simp only[aT,beq_iff_eq]at h;simp only[Bool.or_eq_true,beq_iff_eq]at h1;obtain⟨_,rfl,ho⟩:=h;rcases h1 with rfl|rfl|rfl<;>exact⟨by simp,by decide,by omega,by simp⟩
 · have h1':(k==5||(k==128||k==130))=false:=by simpa using h1
   rw[h1',cF]at h;by_cases h2:k=2
   · subst h2;simp only[show ((2:Int)==2)=true from rfl,cT,aT,beq_iff_eq]at h ⊢;obtain⟨_,rfl,ho⟩:=h;have:=Bp n
     exact⟨by omega,by decide,by omega,by simp⟩
   rw[beq_eq_false_iff_ne.2 h2,cF]at h ⊢;by_cases h4:k=4
   · subst h4;simp only[show ((4:Int)==4)=true from rfl,cT,aT,beq_iff_eq,decide_eq_true_eq]at h ⊢;obtain⟨h5,_,ho⟩:=h;exact⟨by unfold Bz;rw[length_map];omega,by decide,by omega,by omega⟩
   rw[beq_eq_false_iff_ne.2 h4,cF]at h ⊢;by_cases h6:k=6
   · subst h6;simp only[show ((6:Int)==6)=true from rfl,cT,aT,beq_iff_eq]at h ⊢;obtain⟨ho,_,rfl⟩:=h;obtain⟨o1,o2,o3⟩:=CU ho;have:=Dk (o:=o) λx hx=>(o3 x hx).2
     exact⟨by omega,by decide,by omega,by simp⟩
   · rw[beq_eq_false_iff_ne.2 h6,cF]at h;cases h
theorem W8 {b:List Int} (hb:b.length<=1000) {v:A6} (h:Bg v=true):gw b v=some (b++yo v.1 (zO v)):=by
 obtain⟨l1,l2,l3,l4⟩:=HZ h;have hM:M=1048576:=rfl
 have fin:∀body:List Int,zO v=body->bj b v.1 body=some (b++yo v.1 (zO v)):=λbody e=>by
  subst e;rw[OP _ hb (by omega),if_pos ⟨l2,by omega⟩]
 unfold gw;rw[Ks (by omega),h,wX];simp only[Bool.not_true,cF];by_cases h2:v.1=2
 · have e:zO v=yS v.2.1:=by unfold zO;rw[beq_iff_eq.2 h2];rfl
   have hr:-2147483648<=v.2.1/\v.2.1<=2147483647:=by
    unfold Bg at h;rw[h2]at h;simp only[show ((2:Int)==5)=false from rfl,show ((2:Int)==128)=false from rfl,show ((2:Int)==130)=false from rfl,Bool.or_self,cF,show ((2:Int)==2)=true from rfl,cT,aT]at h;exact ye h.1
   rw[beq_iff_eq.2 h2,cT,OO (by omega),wX,Ei hr,fin _ e];rfl
 rw[beq_eq_false_iff_ne.2 h2,cF];by_cases h4:v.1=4
 · have e:zO v=Bz v.2.2.1:=by unfold zO;rw[beq_eq_false_iff_ne.2 h2,beq_iff_eq.2 h4];rfl
   rw[beq_iff_eq.2 h4,cT,fin _ e];rfl
 rw[beq_eq_false_iff_ne.2 h4,cF];by_cases h6:v.1=6
 · have e:zO v=xU v.2.2.2:=by unfold zO;rw[beq_eq_false_iff_ne.2 h2,beq_eq_false_iff_ne.2 h4,beq_iff_eq.2 h6];rfl
   have ho:Au v.2.2.2=true:=by
    unfold Bg at h;rw[h6]at h;simp only[show ((6:Int)==5)=false from rfl,show ((6:Int)==128)=false from rfl,show ((6:Int)==130)=false from rfl,Bool.or_self,cF,show ((6:Int)==2)=false from rfl,show ((6:Int)==4)=false from rfl,show ((6:Int)==6)=true from rfl,cT,aT]at h;exact h.1
   rw[beq_iff_eq.2 h6,cT,Jp (by omega),ho,cT,wX,fin _ e];rfl
 · have e:zO v=[]:=by unfold zO;rw[beq_eq_false_iff_ne.2 h2,beq_eq_false_iff_ne.2 h4,beq_eq_false_iff_ne.2 h6];rfl
   rw[beq_eq_false_iff_ne.2 h6,cF,fin _ e];rfl
def FT (x:x7):List Int:=yo 6 (xU x.1)++yo x.2.1 (zO x.2)
def CV (x:x7):List Int:=yo 48 (FT x)
def ym (l:List x7):List Int:=l.flatMap CV
def AI (p:xE):List Int:=yo 2 (yS p.2.1)++yo 2 (yS p.2.2.1)++yo 2 (yS p.2.2.2.1)++yo 48 (ym p.2.2.2.2)
theorem Ao {p:xE} (h:z8 p=true):(∀x∈p.2.2.2.2,C4 x=true)/\p.2.2.2.2.length<=10/\xe p.1 0 255=true/\(-2147483648<=p.2.1/\p.2.1<=2147483647)/\(0<=p.2.2.1/\p.2.2.1<=1000)/\(0<=p.2.2.2.1/\p.2.2.2.1<=1000):=by
 obtain⟨k,id,a,b,l⟩:=p;unfold z8 at h;simp only[aT,Bool.not_eq_true',decide_eq_true_eq]at h;obtain⟨⟨h1,h2⟩,h3,h4⟩:=h;refine⟨λx hx=>?_,by show l.length<=10;omega,?_⟩
 · obtain⟨j,hj,rfl⟩:=getElem_of_mem hx;have hj':j<l.length:=hj
   have:=any_eq_false.1 h1 j (mem_range.2 hj');unfold bX at this;simp only[List.getElem?_eq_getElem hj']at this;simpa using this
 · have h4:=ye h4;by_cases c1:(k==162||k==165)=true
   · rw[c1,cT,aT]at h3;have q1:=ye h3.1
     have q2:=ye h3.2;simp only[Bool.or_eq_true,beq_iff_eq]at c1;refine⟨?_,h4,q1,q2⟩;rcases c1 with rfl|rfl<;>rfl
   · have c1':(k==162||k==165)=false:=by simpa using c1
     rw[c1',cF]at h3;by_cases c2:(k==160||(k==161||k==163))=true
     · rw[c2,cT,aT]at h3;simp only[beq_iff_eq]at h3;simp only[Bool.or_eq_true,beq_iff_eq]at c2;obtain⟨rfl,rfl⟩:=h3;refine⟨?_,h4,by show (0:Int)<=0/\(0:Int)<=1000;omega,by show (0:Int)<=0/\(0:Int)<=1000;omega⟩;rcases c2 with rfl|rfl|rfl<;>rfl
     · have c2':(k==160||(k==161||k==163))=false:=by simpa using c2
       rw[c2',cF]at h3;cases h3
theorem GI {x:x7} (h:C4 x=true):(FT x).length<=100/\(CV x).length<=110:=by
 unfold C4 at h;rw[aT]at h;obtain⟨l1,_⟩:=HZ h.2;obtain⟨o1,o2,o3⟩:=CU h.1;have h3:=Dk (o:=x.1) λy hy=>(o3 y hy).2
 have h4:=zD 6 (body:=xU x.1);have h5:=zD x.2.1 (body:=zO x.2)
 have h6:(FT x).length<=100:=by unfold FT;rw[length_append];omega
 have h7:=zD 48 (body:=FT x);exact⟨h6,by unfold CV;omega⟩
theorem Oa {b:List Int} (hb:b.length<=900) {n:Int} (hn:-2147483648<=n/\n<=2147483647):dy b 2 n=some (b++yo 2 (yS n)):=by
 unfold dy;have h4:=Bp n
 rw[OO (by omega),wX,Ei hn,OP _ (by omega) (by show _<=1048576;omega),wX,if_pos ⟨by decide,by omega⟩]
theorem S9 {p:xE} (hp:zz M p):eC p=some (if z8 p=true/\(ym p.2.2.2.2).length<=250/\(AI p).length<=250 then yo p.1 (AI p)else []):=by
 unfold eC;rw[TK hp,wX];cases h:z8 p with
 | false=>rw[if_neg (by simp)];rfl
 | true =>
  obtain⟨h1,h2,h3,h4,h5,h6⟩:=Ao h;have hl:∀k,(ym (p.2.2.2.2.take k)).length<=110*k:=by
   intro k
   induction k with
   | zero=>simp[ym]
   | succ k ih =>
    by_cases hk:k<p.2.2.2.2.length
    · have ht:ym (p.2.2.2.2.take (k+1))=ym (p.2.2.2.2.take k)++CV p.2.2.2.2[k]:=by
       unfold ym;rw[take_add_one,List.getElem?_eq_getElem hk,flatMap_append];simp
      have:=(GI (h1 _ (getElem_mem hk))).2;rw[ht,length_append];omega
    · rw[take_of_length_le (by omega)]at ih ⊢;omega
  obtain⟨b,e1,rfl⟩:=xG (step:=λz:Int×List Int=>dz p z.1 z.2) (λk z=>z=((k:Int),ym (p.2.2.2.2.take k))) p.2.2.2.2.length (λb=>b=.inl (ym p.2.2.2.2))
   (λk z hk e=>by
    subst e;left;have hx:=h1 _ (getElem_mem hk)
    have hx':=hx;unfold C4 at hx';rw[aT]at hx';obtain⟨o1,o2,o3⟩:=CU hx'.1;have hob:=Dk (o:=p.2.2.2.2[k].1) λy hy=>(o3 y hy).2
    have hlk:=hl k;obtain⟨b1,b2⟩:=GI hx;have ht:ym (p.2.2.2.2.take (k+1))=ym (p.2.2.2.2.take k)++CV p.2.2.2.2[k]:=by
     unfold ym;rw[take_add_one,List.getElem?_eq_getElem hk,flatMap_append];simp
    have ht6:=zD 6 (body:=xU p.2.2.2.2[k].1);refine⟨_,?_,rfl⟩;show dz p (k:Int) (ym (p.2.2.2.2.take k))=_
    unfold dz;rw[xI (by omega),cT,xo hk,wX,Jp (by show _<=1048576;omega),hx'.1,cT,wX,OP _ (by simp) (by show _<=1048576;omega),if_pos ⟨by decide,by omega⟩,wX,nil_append,W8 (by omega) hx'.2,wX];have hone:yo 6 (xU p.2.2.2.2[k].1)++yo p.2.2.2.2[k].2.1 (zO p.2.2.2.2[k].2)=FT p.2.2.2.2[k]:=rfl
    rw[hone,Ri _ (by show _<=1048576;omega),if_pos ⟨by decide,by omega⟩,wX];simp only[Bool.not_true,cF];have hbb:yo 48 (FT p.2.2.2.2[k])=CV p.2.2.2.2[k]:=rfl
    rw[hbb,xh (by omega),wX,xj (by omega),ht])
   (λz e=>by
    subst e;refine⟨_,?_,rfl⟩;show dz p (p.2.2.2.2.length:Int) (ym (p.2.2.2.2.take p.2.2.2.2.length))=_
    unfold dz;rw[xu (by omega),cF,take_length]) (x:=(0,[])) rfl
  have hal:(ym p.2.2.2.2).length<=1100:=by
   have:=hl p.2.2.2.2.length;rw[take_length]at this;omega
  rw[Bool.not_true,cF,e1,wX,Sum.elim_inl,Ri _ (by show _<=1048576;omega)];by_cases ha:(ym p.2.2.2.2).length<=250
  · rw[if_pos ⟨by decide,ha⟩,wX];simp only[Bool.not_true,cF];have t1:=zD 2 (body:=yS p.2.1)
    have t2:=zD 2 (body:=yS p.2.2.1);have t3:=zD 2 (body:=yS p.2.2.2.1)
    have t4:=zD 48 (body:=ym p.2.2.2.2);have i1:=Bp p.2.1
    have i2:=Bp p.2.2.1;have i3:=Bp p.2.2.2.1
    rw[Oa (by simp) h4,wX,nil_append,Oa (by omega) ⟨by omega,by omega⟩,wX,Oa (by rw[length_append];omega) ⟨by omega,by omega⟩,wX,xh (by simp only[length_append];omega),wX];have hbody:yo 2 (yS p.2.1)++yo 2 (yS p.2.2.1)++yo 2 (yS p.2.2.2.1)++yo 48 (ym p.2.2.2.2)=AI p:=rfl
    rw[hbody,Ri _ (by show _<=1048576;unfold AI;simp only[length_append];omega)];by_cases hb:(AI p).length<=250
    · rw[if_pos ⟨h3,hb⟩,if_pos ⟨by first|rfl|trivial,ha,hb⟩];rfl
    · rw[if_neg (λe=>hb e.2),if_neg (λe=>hb e.2.2)];rfl
  · rw[if_neg (λe=>ha e.2),if_neg (λe=>ha e.2.1)];rfl

theorem CH.cons {b P s:List Int} {i t:Int} {x:List Int} {next:Int} (h:CH b i t x next) (e:b=P++s) (hi:i=(P.length:Int)):∃s',b=(P++yo t x)++s'/\next=((P++yo t x).length:Int):=by
 obtain⟨pre,rest,e1,e2,e3⟩:=h.ex;have hl:pre.length=P.length:=by omega
 obtain⟨q1,q2⟩:=List.append_inj (e1.symm.trans e) hl;subst q1;exact⟨rest,by rw[e1,append_assoc],by rw[e3,length_append]⟩
theorem Kf (t:Int) (b:List Int):1<=(yo t b).length:=by unfold yo;simp
theorem A4 {x:x7} (h:C4 x=true):EC M x:=by
 unfold C4 at h;rw[aT]at h;obtain⟨_,_,l3,l4⟩:=HZ h.2;have:=M7 h.1
 have hM:M=1048576:=rfl;exact⟨by omega,by omega,by omega⟩
theorem Tj (l:List x7) (x:x7):ym (l++[x])=ym l++CV x:=by unfold ym;rw[flatMap_append];simp
noncomputable abbrev U2 (K I A B:Int) (c:List Int) (i:Int) (l:List x7):=loop (λz:Int×Int×Int×Int×Int×Int×Int×Int×List Int×Int×Bool×List x7×List x7=>aC z.1 z.2.1 z.2.2.1 z.2.2.2.1 z.2.2.2.2.1 z.2.2.2.2.2.1 z.2.2.2.2.2.2.1 z.2.2.2.2.2.2.2.1 z.2.2.2.2.2.2.2.2.1 z.2.2.2.2.2.2.2.2.2.1 z.2.2.2.2.2.2.2.2.2.2.1 z.2.2.2.2.2.2.2.2.2.2.2.1 z.2.2.2.2.2.2.2.2.2.2.2.2) (0,0,0,0,K,I,A,B,c,i,false,[],l)
noncomputable abbrev N8 (r:zC) (K I A B:Int) (c:List Int) (i:Int) (l:List x7):=loop (λz:List Int×Int×Bool×Int×Int×Int×Int×List Int×Int×Bool×List x7=>ar z.1 z.2.1 z.2.2.1 z.2.2.2.1 z.2.2.2.2.1 z.2.2.2.2.2.1 z.2.2.2.2.2.2.1 z.2.2.2.2.2.2.2.1 z.2.2.2.2.2.2.2.2.1 z.2.2.2.2.2.2.2.2.2.1 z.2.2.2.2.2.2.2.2.2.2) (r.1,r.2.1,r.2.2,K,I,A,B,c,i,false,l)
theorem W9 (r:zC) (hr:r.2.2=false) (K I A B:Int) {c:List Int} (hc:A3 c) (hn:c.length<=M):∀(n:Nat) (l:List x7) (s:List Int),n+l.length=10->c=ym l++s->(∀x∈l,C4 x=true) ->
 (U2 K I A B c ((ym l).length:Int) l=some (.inr (false,0,0,0,0,[]))/\∃d,N8 r K I A B c ((ym l).length:Int) l=some d/\(d.2.2.1=true\/d.2.2.2.2.2.2.2.2.2.2.length=11)/\d.2.1=r.2.1/\Dh M d.2.2.2.2.2.2.2.2.2.2) \/
 (∃l',c=ym l'/\(∀x∈l',C4 x=true)/\l'.length<=10/\U2 K I A B c ((ym l).length:Int) l=some (.inl (0,0,0,0,K,I,A,B,c,(c.length:Int),false,[],l'))/\N8 r K I A B c ((ym l).length:Int) l=some (r.1,r.2.1,false,K,I,A,B,c,(c.length:Int),false,l')):=by
 have hM:M=1048576:=rfl;intro n
 induction n with
 | zero =>
  intro l s hl e hx;have hcl:c.length=(ym l).length+s.length:=by rw[e,length_append]
  by_cases hlt:((ym l).length:Int)<(c.length:Int)
  · have h0:FS (c,((ym l).length:Int),false):=⟨hc,hn,by show (0:Int)<=((ym l).length:Int);omega,by show ((ym l).length:Int)<=(c.length:Int);omega⟩;obtain⟨d,d1,d2,d3,d4,d5,d6,d7,d8,d9⟩:=Jq h0 48;obtain⟨g,g1,g2,g3⟩:=U1 d5 (by omega);have hs:ar r.1 r.2.1 r.2.2 K I A B c ((ym l).length:Int) false l=some (.inl (r.1,r.2.1,cond d.1.2.2 true (!g.2),K,I,A,B,d.1.1,d.1.2.1,d.1.2.2,l++[g.1])):=by
     unfold ar;rw[hr];simp only[Bool.not_false,cT,xI hlt,wX,dT (show (l.length:Int)<=10 by omega),d1,d2,g2];rw[show (cond d.1.2.2 (some true) (some (!g.2)))=some (cond d.1.2.2 true (!g.2)) by cases d.1.2.2<;>rfl,wX,xh (by show l.length+1<=_;omega),wX]
    have hs2:∀(bd:Bool) (c':List Int) (i':Int) (qb:Bool) (l':List x7),(bd=true\/l'.length=11)->ar r.1 r.2.1 bd K I A B c' i' qb l'=some (.inr (r.1,r.2.1,bd,K,I,A,B,c',i',qb,l')):=by
     intro bd c' i' qb l' h;unfold ar;rcases h with rfl|h
     · rfl
     · rw[dF (show ¬(l'.length:Int)<=10 by omega)];cases bd with
       | true=>rfl
       | false=>cases h1:decide (i'<(c'.length:Int))<;>simp
    left;refine⟨xF ?_,_,xx hs (xF (hs2 _ _ _ _ _ (.inr (by rw[length_append];show l.length+1=11;omega)))),.inr (by show (l++[g.1]).length=11;rw[length_append];show l.length+1=11;omega),rfl,?_⟩
    · show aC 0 0 0 0 K I A B c ((ym l).length:Int) false [] l=_;unfold aC;simp only[xI hlt,cT,d1,g1,wX,dT (show (l.length:Int)>=10 by omega)];cases g.2<;>rfl
    · refine⟨by show (l++[g.1]).length<=1048576;rw[length_append];show l.length+1<=_;omega,λx hx'=>?_⟩;rcases mem_append.1 hx' with h|h
      · exact A4 (hx x h)
      · rw[mem_singleton]at h;subst h;rcases g3 with rfl|⟨x,rfl,q,_⟩
        · exact⟨by show 0<=1048576;decide,by show 0<=1048576;decide,by show 0<=1048576;decide⟩
        · exact A4 q
  · have hs0:s=[]:=length_eq_zero_iff.1 (by omega);subst hs0;rw[append_nil]at e;right;refine⟨l,e,hx,by omega,xF ?_,xF ?_⟩
    · show aC 0 0 0 0 K I A B c ((ym l).length:Int) false [] l=_;unfold aC;rw[xu hlt,cF,e]
    · show ar r.1 r.2.1 r.2.2 K I A B c ((ym l).length:Int) false l=_;unfold ar;rw[hr,xu hlt,e];rfl
 | succ n ih =>
  intro l s hl e hx;have hcl:c.length=(ym l).length+s.length:=by rw[e,length_append]
  by_cases hlt:((ym l).length:Int)<(c.length:Int)
  · have h0:FS (c,((ym l).length:Int),false):=⟨hc,hn,by show (0:Int)<=((ym l).length:Int);omega,by show ((ym l).length:Int)<=(c.length:Int);omega⟩;obtain⟨d,d1,d2,d3,d4,d5,d6,d7,d8,d9⟩:=Jq h0 48;obtain⟨g,g1,g2,g3⟩:=U1 d5 (by omega);have hs:ar r.1 r.2.1 r.2.2 K I A B c ((ym l).length:Int) false l=some (.inl (r.1,r.2.1,cond d.1.2.2 true (!g.2),K,I,A,B,d.1.1,d.1.2.1,d.1.2.2,l++[g.1])):=by
     unfold ar;rw[hr];simp only[Bool.not_false,cT,xI hlt,wX,dT (show (l.length:Int)<=10 by omega),d1,d2,g2];rw[show (cond d.1.2.2 (some true) (some (!g.2)))=some (cond d.1.2.2 true (!g.2)) by cases d.1.2.2<;>rfl,wX,xh (by show l.length+1<=_;omega),wX]
    rcases g3 with rfl|⟨x,rfl,hxo,hxe⟩
    · left;have hbd:(cond d.1.2.2 true (!false))=true:=by cases d.1.2.2<;>rfl
      refine⟨xF ?_,_,xx hs (xF (b:=(r.1,r.2.1,true,K,I,A,B,d.1.1,d.1.2.1,d.1.2.2,l++[([],0,0,[],[])])) ?_),.inl rfl,rfl,?_⟩
      · show aC 0 0 0 0 K I A B c ((ym l).length:Int) false [] l=_;unfold aC;simp only[xI hlt,cT,d1,g1,wX];rfl
      · show ar r.1 r.2.1 (cond d.1.2.2 true (!false)) K I A B d.1.1 d.1.2.1 d.1.2.2 (l++[([],0,0,[],[])])=_;rw[hbd];rfl
      · refine⟨by show (l++[_]).length<=1048576;rw[length_append];show l.length+1<=_;omega,λy hy=>?_⟩;rcases mem_append.1 hy with h|h
        · exact A4 (hx y h)
        · rw[mem_singleton]at h;subst h;exact⟨by show 0<=1048576;decide,by show 0<=1048576;decide,by show 0<=1048576;decide⟩
    · have hbad:d.1.2.2=false:=by
       cases hb:d.1.2.2 with
       | false=>rfl
       | true =>
        rw[d7 hb]at hxe;have:=congrArg List.length hxe
        have h1:=Kf 6 (xU x.1);rw[length_append]at this;simp at this;omega
      obtain⟨_,hp⟩:=d9 hbad;obtain⟨s',e1,e2⟩:=hp.cons (P:=ym l) (s:=s) e rfl;have hb:yo 48 d.2=CV x:=by unfold CV FT;rw[←hxe]
      rw[hb,←Tj]at e1 e2;have hdc:d.1.1=c:=d4
      have:=ih (l++[x]) s' (by rw[length_append];show n+(l.length+1)=10;omega) e1 (λy hy=>by
       rcases mem_append.1 hy with h|h
       · exact hx y h
       · rw[mem_singleton]at h;subst h;exact hxo)
      have hi:aC 0 0 0 0 K I A B c ((ym l).length:Int) false [] l=some (.inl (0,0,0,0,K,I,A,B,c,((ym (l++[x])).length:Int),false,[],l++[x])):=by
       unfold aC;simp only[xI hlt,cT,d1,g1,wX,dF (show ¬(l.length:Int)>=10 by omega),Bool.not_true,cF];rw[xh (by show l.length+1<=_;omega),wX,hdc,hbad,e2]
      have hs':ar r.1 r.2.1 r.2.2 K I A B c ((ym l).length:Int) false l=some (.inl (r.1,r.2.1,r.2.2,K,I,A,B,c,((ym (l++[x])).length:Int),false,l++[x])):=by
       rw[hs,hdc,hbad,e2,hr];rfl
      rcases this with ⟨i1,dd,i2,i3⟩|⟨l',q1,q2,q3,i1,i2⟩
      · exact .inl ⟨xx hi i1,dd,xx hs' i2,i3⟩
      · exact .inr ⟨l',q1,q2,q3,xx hi i1,xx hs' i2⟩
  · have hs0:s=[]:=length_eq_zero_iff.1 (by omega);subst hs0;rw[append_nil]at e;right;refine⟨l,e,hx,by omega,xF ?_,xF ?_⟩
    · show aC 0 0 0 0 K I A B c ((ym l).length:Int) false [] l=_;unfold aC;rw[xu hlt,cF,e]
    · show ar r.1 r.2.1 r.2.2 K I A B c ((ym l).length:Int) false l=_;unfold ar;rw[hr,xu hlt,e];rfl

theorem YF (r:zC) (hr:r.2.2=true) (K I A B:Int) (c:List Int):N8 r K I A B c 0 []=some (r.1,r.2.1,true,K,I,A,B,c,0,false,[]):=by
 refine xF ?_;show ar r.1 r.2.1 r.2.2 K I A B c 0 false []=_
 unfold ar;rw[hr];rfl
theorem zz.of {p:xE} (h:∀x∈p.2.2.2.2,C4 x=true) (h2:p.2.2.2.2.length<=11):zz M p:=⟨by show _<=1048576;omega,λx hx=>A4 (h x hx)⟩
theorem Wa {b:List Int} (hb:A3 b) (hn:b.length<=M):∃r,gx b=some r/\iw b=some r/\(r=((0,0,0,0,[]),false)\/∃p,r=(p,true)/\z8 p=true/\zz M p):=by
 have hM:M=1048576:=rfl;obtain⟨t,t1,t2,t3⟩:=LM hb hn (i:=0) (by omega);have htb:t.2.1.length<=250/\A3 t.2.1:=by
  rcases t3 with rfl|⟨k,body,next,rfl,h⟩
  · exact⟨by simp,M8⟩
  · exact⟨h.n,h.b⟩
 have h0:FS (t.2.1,0,false):=⟨htb.2,by show t.2.1.length<=M;omega,by show (0:Int)<=0;omega,by show (0:Int)<=(t.2.1.length:Int);omega⟩;obtain⟨d1,a1,b1,c1,e1,f1,g1⟩:=QN h0;obtain⟨d2,a2,b2,c2,e2,f2,g2⟩:=QN c1;obtain⟨d3,a3,b3,c3,e3,f3,g3⟩:=QN c2;obtain⟨d4,a4,b4,c4,e4,m4,n4,k4,f4,g4⟩:=Jq c3 48;unfold gx iw;simp only[t1,t2,a1,b1,a2,b2,a3,b3,a4,b4,wX];have sp:∃d,N8 d4.1 t.1 d1.2 d2.2 d3.2 d4.2 0 []=some d/\d.2.1=d4.1.2.1/\(d4.1.2.2=true->d.2.2.1=true)/\Dh M d.2.2.2.2.2.2.2.2.2.2:=by
  cases hbad:d4.1.2.2 with
  | true=>exact⟨_,YF d4.1 hbad _ _ _ _ _,rfl,λ_=>rfl,⟨by show 0<=1048576;decide,λx hx=>by simp at hx⟩⟩
  | false =>
   rcases W9 d4.1 hbad t.1 d1.2 d2.2 d3.2 m4 (by omega) 10 [] d4.2 rfl rfl (by simp)with ⟨_,d,q1,_,q3,q4⟩|⟨l',q1,q2,q3,_,q4⟩
   · exact⟨d,q1,q3,λe=>(by cases e),q4⟩
   · exact⟨_,q4,rfl,λe=>(by cases e),⟨by show l'.length<=1048576;omega,λx hx=>A4 (q2 x hx)⟩⟩
 obtain⟨d,s1,s2,s3,s4⟩:=sp;have s1':loop (λz:List Int×Int×Bool×Int×Int×Int×Int×List Int×Int×Bool×List x7=>ar z.1 z.2.1 z.2.2.1 z.2.2.2.1 z.2.2.2.2.1 z.2.2.2.2.2.1 z.2.2.2.2.2.2.1 z.2.2.2.2.2.2.2.1 z.2.2.2.2.2.2.2.2.1 z.2.2.2.2.2.2.2.2.2.1 z.2.2.2.2.2.2.2.2.2.2) (d4.1.1,d4.1.2.1,d4.1.2.2,t.1,d1.2,d2.2,d3.2,d4.2,0,false,[])=some d:=s1
 rw[s1',wX];have pd:bK (d.2.2.2.1,d.2.2.2.2.1,d.2.2.2.2.2.1,d.2.2.2.2.2.2.1,d.2.2.2.2.2.2.2.2.2.2)=some (z8 (d.2.2.2.1,d.2.2.2.2.1,d.2.2.2.2.2.1,d.2.2.2.2.2.2.1,d.2.2.2.2.2.2.2.2.2.2)):=Rc (p:=(d.2.2.2.1,d.2.2.2.2.1,d.2.2.2.2.2.1,d.2.2.2.2.2.2.1,d.2.2.2.2.2.2.2.2.2.2)) s4
 simp only[pd,wX];cases hok:t.2.2.2 with
 | false=>exact⟨_,rfl,rfl,.inl rfl⟩
 | true =>
 simp only[Bool.not_true,cF,wX];cases hnx:(t.2.2.1 != (b.length:Int))with
 | true=>exact⟨_,rfl,rfl,.inl rfl⟩
 | false =>
 simp only[cF,wX];unfold jf;cases hbad:d4.1.2.2 with
 | true =>
  rw[s3 hbad];exact⟨_,rfl,rfl,.inl rfl⟩
 | false =>
 simp only[Bool.not_false,cT,wX];have hlen:d4.1.1=t.2.1:=by rw[e4,e3,e2,e1]
 rw[s2,hlen];cases hat:(d4.1.2.1==(t.2.1.length:Int))with
 | false =>
  have:(d4.1.2.1 != (t.2.1.length:Int))=true:=by rw[bne,hat];rfl
  rw[this];refine⟨((0,0,0,0,[]),false),rfl,?_,.inl rfl⟩;cases d.2.2.1<;>rfl
 | true =>
 have hat':(d4.1.2.1 != (t.2.1.length:Int))=false:=by rw[bne,hat];rfl
 rw[hat'];simp only[Bool.not_true,cF];obtain⟨x3,p4⟩:=g4 hbad;obtain⟨x2,p3,i3⟩:=g3 x3;obtain⟨x1,p2,i2⟩:=g2 x2;obtain⟨_,p1,i1⟩:=g1 x1;rcases t3 with rfl|⟨k,body,next,rfl,hp⟩
 · cases hok
 simp only at p1 hat hnx hlen;have p1':CH body 0 2 (yS d1.2) d1.1.2.1:=p1
 have p2':CH body d1.1.2.1 2 (yS d2.2) d2.1.2.1:=by rw[e1]at p2;exact p2
 have p3':CH body d2.1.2.1 2 (yS d3.2) d3.1.2.1:=by rw[e2,e1]at p3;exact p3
 have p4':CH body d3.1.2.1 48 d4.2 d4.1.2.1:=by rw[e3,e2,e1]at p4;exact p4
 obtain⟨s1x,y1,z1⟩:=p1'.cons (P:=[]) (s:=body) rfl rfl;obtain⟨s2x,y2,z2⟩:=p2'.cons y1 z1;obtain⟨s3x,y3,z3⟩:=p3'.cons y2 z2;obtain⟨s4x,y4,z4⟩:=p4'.cons y3 z3;have hs4:s4x=[]:=by
  have h1:=congrArg List.length y4;rw[length_append]at h1;have h2:d4.1.2.1=(body.length:Int):=eq_of_beq hat
  exact length_eq_zero_iff.1 (by omega)
 subst hs4;rw[append_nil,nil_append]at y4;obtain⟨u1,u2,u3⟩:∃rest,b=yo k body++rest/\rest=[]:=by
  obtain⟨s',w1,w2⟩:=hp.cons (P:=[]) (s:=b) rfl rfl;refine⟨s',by simpa using w1,?_⟩;have h1:=congrArg List.length w1
  rw[length_append]at h1;have h2:next=(b.length:Int):=by simpa using hnx
  exact length_eq_zero_iff.1 (by omega)
 subst u3;rw[append_nil]at u2;rcases W9 d4.1 hbad k d1.2 d2.2 d3.2 m4 (by omega) 10 [] d4.2 rfl rfl (by simp)with ⟨j1,dd,j2,j3,_,_⟩|⟨l',w1,w2,w3,j1,j2⟩
 · have hdd:dd=d:=by
    have:some dd=some d:=j2.symm.trans s1;exact Option.some.inj this
   subst hdd;have j1':loop (λz:Int×Int×Int×Int×Int×Int×Int×Int×List Int×Int×Bool×List x7×List x7=>aC z.1 z.2.1 z.2.2.1 z.2.2.2.1 z.2.2.2.2.1 z.2.2.2.2.2.1 z.2.2.2.2.2.2.1 z.2.2.2.2.2.2.2.1 z.2.2.2.2.2.2.2.2.1 z.2.2.2.2.2.2.2.2.2.1 z.2.2.2.2.2.2.2.2.2.2.1 z.2.2.2.2.2.2.2.2.2.2.2.1 z.2.2.2.2.2.2.2.2.2.2.2.2) (0,0,0,0,k,d1.2,d2.2,d3.2,d4.2,0,false,[],[])=some (.inr (false,0,0,0,0,[])):=j1
   rw[j1',wX,Sum.elim_inr];refine⟨((0,0,0,0,[]),false),rfl,?_,.inl rfl⟩;cases hd:dd.2.2.1 with
   | true=>rfl
   | false =>
    have h11:dd.2.2.2.2.2.2.2.2.2.2.length=11:=by
     rcases j3 with h|h
     · rw[hd]at h;cases h
     · exact h
    have hpf:z8 (dd.2.2.2.1,dd.2.2.2.2.1,dd.2.2.2.2.2.1,dd.2.2.2.2.2.2.1,dd.2.2.2.2.2.2.2.2.2.2)=false:=by
     unfold z8;rw[dF (show ¬((dd.2.2.2.2.2.2.2.2.2.2.length:Nat):Int)<=10 by omega),Bool.and_false,Bool.false_and]
    rw[hpf];simp only[cF,wX];cases (dd.2.2.2.2.2.2.2.2.1 != (dd.2.2.2.2.2.2.2.1.length:Int))<;>rfl
 · have hdd:d=(d4.1.1,d4.1.2.1,false,k,d1.2,d2.2,d3.2,d4.2,(d4.2.length:Int),false,l'):=by
    have:some d=some (d4.1.1,d4.1.2.1,false,k,d1.2,d2.2,d3.2,d4.2,(d4.2.length:Int),false,l'):=s1.symm.trans j2;exact Option.some.inj this
   subst hdd;have j1':loop (λz:Int×Int×Int×Int×Int×Int×Int×Int×List Int×Int×Bool×List x7×List x7=>aC z.1 z.2.1 z.2.2.1 z.2.2.2.1 z.2.2.2.2.1 z.2.2.2.2.2.1 z.2.2.2.2.2.2.1 z.2.2.2.2.2.2.2.1 z.2.2.2.2.2.2.2.2.1 z.2.2.2.2.2.2.2.2.2.1 z.2.2.2.2.2.2.2.2.2.2.1 z.2.2.2.2.2.2.2.2.2.2.2.1 z.2.2.2.2.2.2.2.2.2.2.2.2) (0,0,0,0,k,d1.2,d2.2,d3.2,d4.2,0,false,[],[])=some (.inl (0,0,0,0,k,d1.2,d2.2,d3.2,d4.2,(d4.2.length:Int),false,[],l')):=j1
   rw[j1',wX,Sum.elim_inl];have hpl:zz M (k,d1.2,d2.2,d3.2,l'):=zz.of (p:=(k,d1.2,d2.2,d3.2,l')) w2 (by show l'.length<=11;omega)
   have hbody:body=AI (k,d1.2,d2.2,d3.2,l'):=by
    rw[y4,w1];rfl
   simp only[S9 hpl,wX,bne_self_eq_false,cF];cases hpp:z8 (k,d1.2,d2.2,d3.2,l')with
   | false =>
    rw[if_neg (by simp)];exact⟨_,rfl,rfl,.inl rfl⟩
   | true =>
    have hal:(ym l').length<=250:=by rw[←w1];exact n4
    rw[if_pos ⟨rfl,hal,by rw[←hbody];exact hp.n⟩,←hbody,←u2];have hb1:((b.length:Int)==0)=false:=beq_eq_false_iff_ne.2 (by
     have:=Kf k body;rw[←u2]at this;omega)
    rw[hb1,beq_self_eq_true];exact⟨_,rfl,rfl,.inr ⟨_,rfl,hpp,hpl⟩⟩

theorem Wb (w:List UInt8) {b:List Int} (hb:A3 b) (hn:b.length<=M):∃r,dA w b=some r/\fS w b=some r/\zz M r.1/\(r.2=0->z8 r.1=true):=by
 have hM:M=1048576:=rfl;have nil:zz M ((0,0,0,0,[]):xE):=⟨by show 0<=1048576;decide,λx hx=>by simp at hx⟩
 obtain⟨t,t1,t2,t3⟩:=LM hb hn (i:=0) (by omega);have htb:t.2.1.length<=250/\A3 t.2.1:=by
  rcases t3 with rfl|⟨k,body,next,rfl,h⟩
  · exact⟨by simp,M8⟩
  · exact⟨h.n,h.b⟩
 have h0:FS (t.2.1,0,false):=⟨htb.2,by show t.2.1.length<=M;omega,by show (0:Int)<=0;omega,by show (0:Int)<=(t.2.1.length:Int);omega⟩;obtain⟨d1,a1,b1,c1,e1,f1,g1⟩:=QN h0;obtain⟨d2,a2,b2,c2,e2,m2,n2,k2,f2,g2⟩:=Jq c1 4;have hlen:d2.1.1=t.2.1:=by rw[e2,e1]
 have hlo:=c2.lo;have hhi:=c2.hi
 rw[hlen]at hhi;obtain⟨j,hj⟩:∃j:Nat,d2.1.2.1=(j:Int):=⟨d2.1.2.1.toNat,by omega⟩;have hcut:cut t.2.1 d2.1.2.1 (t.2.1.length:Int)=some (t.2.1.drop j):=by
  rw[hj,As (by omega) (Nat.le_refl _),take_length]
 obtain⟨g,p1,p2,p3⟩:=Wa (b:=t.2.1.drop j) (λx hx=>htb.2 x (mem_of_mem_drop hx)) (by rw[length_drop];omega);unfold dA fS;simp only[t1,t2,a1,b1,a2,b2,wX,hcut,p1,p2];cases (!t.2.2.2)with
 | true=>exact⟨_,rfl,rfl,nil,λe=>(by cases e)⟩
 | false =>
 simp only[cF,wX];cases (t.1 != 48)with
 | true=>exact⟨_,rfl,rfl,nil,λe=>(by cases e)⟩
 | false =>
 simp only[cF,wX];cases (t.2.2.1 != (b.length:Int))with
 | true=>exact⟨_,rfl,rfl,nil,λe=>(by cases e)⟩
 | false =>
 simp only[cF,wX];cases d2.1.2.2 with
 | true=>exact⟨_,rfl,rfl,nil,λe=>(by cases e)⟩
 | false =>
 simp only[cF,wX];cases (d1.2 != 1)with
 | true=>exact⟨_,rfl,rfl,nil,λe=>(by cases e)⟩
 | false =>
 simp only[cF,wX];cases (yq d2.2==w)with
 | false=>exact⟨_,rfl,rfl,nil,λe=>(by cases e)⟩
 | true =>
 simp only[Bool.not_true,cF];rcases p3 with rfl|⟨p,rfl,q1,q2⟩
 · exact⟨_,rfl,rfl,nil,λe=>(by cases e)⟩
 · exact⟨_,rfl,rfl,q2,λ_=>q1⟩

def Kg (p:xE):List Int:=if z8 p=true/\(ym p.2.2.2.2).length<=250/\(AI p).length<=250 then yo p.1 (AI p)else []
def yN (p:xE):Bool:=xe ((Kg p).length:Int) 1 120
theorem Jr {p:xE} (hp:zz M p):aN p=some (yN p):=by
 unfold aN;rw[S9 hp,wX];show (aa ((Kg p).length:Int) 1 120).bind _=_
 rw[Ad,wX];rfl
theorem UL {p:xE} (h:yN p=true):z8 p=true:=by
 unfold yN Kg at h;split at h
 · rename_i hh;exact hh.1
 · obtain⟨h1,_⟩:=ye h;simp at h1
theorem FU {α β:Type} {l:List α} {g:α->β} {step:Int×List β->Option ((Int×List β)⊕List β)} (hn:l.length<=M)
 (h1:∀k (hk:k<l.length) (out:List β),out.length=k->step ((k:Int),out)=some (.inl (((k+1:Nat):Int),out++[g l[k]]))) (h2:∀out,step ((l.length:Int),out)=some (.inr out)):loop step (0,[])=some (l.map g):=by
 obtain⟨b,e1,rfl⟩:=xG (step:=step) (λk z=>z=((k:Int),(l.take k).map g)) l.length (λb=>b=l.map g)
  (λk z hk e=>by
   subst e;refine .inl ⟨_,h1 k hk _ (by rw[length_map,length_take];omega),?_⟩;rw[take_add_one,List.getElem?_eq_getElem hk,map_append];rfl)
  (λz e=>by
   subst e;exact⟨_,h2 _,by rw[take_length]⟩) (x:=(0,[])) rfl
 exact e1
noncomputable def yT (b:wY) (o:List Int):x7:=(aV b o).getD ([],0,0,[],[])
noncomputable def FV (b:wY) (o:List Int):A6:=(bV b o).getD (0,0,[],[])
theorem Js {b:wY} (h:y9 b) {o:List Int} (ho:o.length<=1000):aV b o=some (yT b o)/\((yT b o∈A7 b/\o<(yT b o).1)\/(yT b o=(o,130,0,[],[])/\∀x∈A7 b,¬o<x.1)):=by
 obtain⟨j,hj⟩:=Ym (TF h) o;have e:=Yn h ho hj
 unfold yT;rw[e];refine⟨rfl,?_⟩;by_cases hl:j<(A7 b).length
 · rw[dif_pos hl];exact .inl ⟨getElem_mem hl,hj.yes j hl (Nat.le_refl _)⟩
 · rw[dif_neg hl];refine .inr ⟨rfl,λx hx=>?_⟩;obtain⟨i,hi,rfl⟩:=getElem_of_mem hx;exact hj.no i hi (by omega)
theorem Tk {b:wY} (h:y9 b) {o:List Int} (ho:o.length<9223372036854775807):bV b o=some (FV b o)/\((∃x∈A7 b,x.1=o/\FV b o=x.2)\/((∀x∈A7 b,x.1≠o)/\FV b o=(128,0,[],[]))):=by
 obtain⟨v,e,hv⟩:=Z2 h ho;unfold FV;rw[e];exact⟨rfl,hv⟩
theorem UM {o:List Int} (h:Nm o):Au o=true:=by
 have h1:=h.ok;rw[Ia (by have:=h.n10;omega)]at h1;exact Option.some.inj h1
theorem PK {v:A6} (h:Vl v):Bg v=true:=by
 have h1:=h.ok;rw[Ks (by rw[h.o];show 0<=1048576;omega)]at h1;exact Option.some.inj h1
theorem BQ {o:List Int} (h:Au o=true):o.length<=10:=(CU h).2.1
theorem XB {b:wY} (h:y9 b) {x:x7} (hx:x∈A7 b):C4 x=true:=by
 obtain⟨h1,h2⟩:=FZ h x hx;unfold C4;rw[UM h1,PK h2];rfl
theorem Hv {b:wY} (h:y9 b) {o:List Int} (ho:Au o=true):C4 (yT b o)=true:=by
 obtain⟨_,h1⟩:=Js h (o:=o) (by have:=BQ ho;omega);rcases h1 with ⟨h1,_⟩|⟨h1,_⟩
 · exact XB h h1
 · rw[h1];unfold C4;rw[ho];rfl
theorem Ax {x:x7} (h:C4 x=true):Au x.1=true:=by
 unfold C4 at h;rw[aT]at h;exact h.1
theorem U3 {b:wY} (h:y9 b) {o:List Int} (ho:o.length<9223372036854775807):Bg (FV b o)=true:=by
 obtain⟨_,h1⟩:=Tk h ho;rcases h1 with ⟨x,hx,_,e⟩|⟨_,e⟩
 · rw[e];exact PK (FZ h x hx).2
 · rw[e];rfl
def Cn (s:List x7×List (List Int)):Nat:=min s.2.length (10-s.1.length)
noncomputable def EK (b:wY) (s:List x7×List (List Int)):List x7×List (List Int):=(s.1++(s.2.take (Cn s)).map (yT b),(s.2.take (Cn s)).map (λo=>(yT b o).1)++s.2.drop (Cn s))
noncomputable def Eb (b:wY):Nat->List x7×List (List Int)->List x7×List (List Int)
 | 0,s=>s
 | k+1,s=>if 0<s.2.length/\s.1.length<10 then Eb b k (EK b s)else s
structure IX (s:List x7×List (List Int)):Prop where
 o10:s.1.length<=10
 l10:s.2.length<=10
 oOk:∀x∈s.1,C4 x=true
 lOk:∀o∈s.2,Au o=true
theorem Sa {b:wY} (h:y9 b) {s:List x7×List (List Int)} (hs:IX s):IX (EK b s):=by
 obtain⟨h1,h2,h3,h4⟩:=hs;refine⟨?_,?_,λx hx=>?_,λo ho=>?_⟩
 · show (s.1++_).length<=10;rw[length_append,length_map,length_take];unfold Cn;omega
 · show (_++s.2.drop (Cn s)).length<=10;rw[length_append,length_map,length_take,length_drop];unfold Cn;omega
 · rcases mem_append.1 hx with hx|hx
   · exact h3 x hx
   · obtain⟨o,ho,rfl⟩:=mem_map.1 hx;exact Hv h (h4 o (mem_of_mem_take ho))
 · rcases mem_append.1 ho with ho|ho
   · obtain⟨q,hq,rfl⟩:=mem_map.1 ho;exact Ax (Hv h (h4 q (mem_of_mem_take hq)))
   · exact h4 o (mem_of_mem_drop ho)
theorem YG {b:wY} (h:y9 b) {s:List x7×List (List Int)} (hs:IX s):loop (λz=>cu b s.2 z.1 z.2.1 z.2.2) (0,s.1,s.2)=some (EK b s):=by
 obtain⟨out,l⟩:=s;obtain⟨h1,h2,h3,h4⟩:=hs;simp only at h1 h2 h3 h4;have hm:Cn (out,l)=min l.length (10-out.length):=rfl
 obtain⟨v,e1,rfl⟩:=xG (step:=λz:Int×List x7×List (List Int)=>cu b l z.1 z.2.1 z.2.2) (λk z=>z=((k:Int),out++(l.take k).map (yT b),(l.take k).map (λo=>(yT b o).1)++l.drop k)) (Cn (out,l)) (λv=>v=EK b (out,l))
  (λk z hk e=>by
   subst e;left;have hkl:k<l.length:=by omega
   have hlen:((l.take k).map (λo=>(yT b o).1)++l.drop k).length=l.length:=by rw[length_append,length_map,length_take,length_drop];omega
   have hol:(out++(l.take k).map (yT b)).length=out.length+k:=by rw[length_append,length_map,length_take];omega
   have hA:((l.take k).map (λo=>(yT b o).1)).length=k:=by rw[length_map,length_take];omega
   have hget:((l.take k).map (λo=>(yT b o).1)++l.drop k)[k]?=some l[k]:=by
    rw[List.getElem?_append_right (by omega),hA,Nat.sub_self,List.getElem?_drop,Nat.add_zero,List.getElem?_eq_getElem hkl]
   have hn:=(Js h (o:=l[k]) (by have:=BQ (h4 _ (getElem_mem hkl));omega)).1;refine⟨_,?_,rfl⟩;show cu b l (k:Int) _ _=_
   unfold cu;rw[xI (by omega),cT,hol,dF (by omega),cF,hlen,yE hkl];simp only[wX,hget,hn];rw[xh (by rw[hol];show out.length+k+1<=_;omega),wX,xj (by omega)];have t1:(l.take (k+1))=l.take k++[l[k]]:=by rw[take_add_one,List.getElem?_eq_getElem hkl];rfl
   have t2:((l.take k).map (λo=>(yT b o).1)++l.drop k).set k (yT b l[k]).1=(l.take (k+1)).map (λo=>(yT b o).1)++l.drop (k+1):=by
    rw[List.set_append_right _ _ (by omega),hA,Nat.sub_self,List.drop_eq_getElem_cons hkl,List.set_cons_zero,t1,map_append,append_assoc];rfl
   rw[t2,t1];simp only[map_append,map_cons,List.map_nil,append_assoc])
  (λz e=>by
   subst e;refine⟨_,?_,rfl⟩;show cu b l ((Cn (out,l):Nat):Int) _ _=_
   have hol:(out++(l.take (Cn (out,l))).map (yT b)).length=out.length+Cn (out,l):=by rw[length_append,length_map,length_take];omega
   unfold cu;rw[hol];by_cases hlt:((Cn (out,l):Nat):Int)<(l.length:Int)
   · rw[xI hlt,cT,dT (by omega),cT];rfl
   · rw[xu hlt,cF];rfl) (x:=(0,out,l)) (by simp)
 exact e1
theorem PL {b:wY} (h:y9 b):∀(n:Nat) {s:List x7×List (List Int)},IX s->IX (Eb b n s)
 | 0,s,hs=>hs
 | n+1,s,hs=>by
  unfold Eb;split
  · exact PL h n (Sa h hs)
  · exact hs
theorem U4 {b:wY} (h:y9 b) {p:xE} (hB:p.2.2.2.1<=1000):∀(n i:Nat) {s:List x7×List (List Int)},IX s->((i+n:Nat):Int)=p.2.2.2.1->loop (λz=>bE b p z.1 z.2.1 z.2.2) ((i:Int),s.1,s.2)=some (Eb b n s)
 | 0,i,s,hs,e=>by
  refine xF ?_;show bE b p (i:Int) s.1 s.2=_
  unfold bE;rw[xu (by omega),cF,wX,cF,wX,cF];rfl
 | n+1,i,s,hs,e=>by
  by_cases hc:0<s.2.length/\s.1.length<10
  · refine xx (y:=(((i+1:Nat):Int),(EK b s).1,(EK b s).2)) ?_ ?_
    · show bE b p (i:Int) s.1 s.2=_;unfold bE;rw[xI (by omega),cT,dT (by omega),wX,cT,xI (by omega),wX,cT,YG h hs,wX,xj (by omega)]
    · have:=U4 h hB n (i+1) (Sa h hs) (by omega);rw[this,show Eb b (n+1) s=Eb b n (EK b s)from if_pos hc]
  · refine xF ?_;show bE b p (i:Int) s.1 s.2=_
    have e2:Eb b (n+1) s=s:=if_neg hc;rw[e2];unfold bE;rw[xI (by omega),cT];by_cases h1:0<s.2.length
    · rw[dT (by omega),wX,cT,xu (by omega),wX,cF]
    · rw[dF (by omega),wX,cF,wX,cF]
def yJ (p:xE):Nat:=min p.2.2.1.toNat p.2.2.2.2.length
noncomputable def QO (b:wY) (p:xE):List x7×List (List Int):=Eb b p.2.2.2.1.toNat ((p.2.2.2.2.take (yJ p)).map (λx=>yT b x.1),(p.2.2.2.2.drop (yJ p)).map (λx=>x.1))
noncomputable def AY (b:wY) (p:xE):List x7:=(QO b p).1
theorem U5 {b:wY} (h:y9 b) {p:xE} (hp:z8 p=true):IX ((p.2.2.2.2.take (yJ p)).map (λx=>yT b x.1),(p.2.2.2.2.drop (yJ p)).map (λx=>x.1)):=by
 obtain⟨h1,h2,_⟩:=Ao hp;refine⟨?_,?_,λx hx=>?_,λo ho=>?_⟩
 · rw[length_map,length_take];omega
 · rw[length_map,length_drop];omega
 · obtain⟨y,hy,rfl⟩:=mem_map.1 hx;exact Hv h (Ax (h1 y (mem_of_mem_take hy)))
 · obtain⟨y,hy,rfl⟩:=mem_map.1 ho;exact Ax (h1 y (mem_of_mem_drop hy))
theorem PM {b:wY} (h:y9 b) {p:xE} (hp:z8 p=true):IX (QO b p):=PL h _ (U5 h hp)
theorem XC {b:wY} (h:y9 b) {p:xE} (hp:z8 p=true):gy b p=some (AY b p):=by
 obtain⟨h1,h2,_,_,h5,h6⟩:=Ao hp;have hmin:min2 p.2.2.1 (p.2.2.2.2.length:Int)=((yJ p:Nat):Int):=by
  unfold min2 yJ;split<;>omega
 have hon:yJ p<=p.2.2.2.2.length:=Nat.min_le_right _ _;unfold gy;show ((cut p.2.2.2.2 0 (min2 p.2.2.1 (p.2.2.2.2.length:Int))).bind _)=_
 rw[hmin];have c1:cut p.2.2.2.2 0 ((yJ p:Nat):Int)=some (p.2.2.2.2.take (yJ p)):=by
  have:=As (l:=p.2.2.2.2) (a:=0) (b:=yJ p) (by omega) hon;simpa using this
 have c2:cut p.2.2.2.2 ((yJ p:Nat):Int) (p.2.2.2.2.length:Int)=some (p.2.2.2.2.drop (yJ p)):=by
  have:=As (l:=p.2.2.2.2) (a:=yJ p) (b:=p.2.2.2.2.length) hon (Nat.le_refl _);rw[take_length]at this;exact this
 have l1:loop (λz:Int×List x7=>dG b (p.2.2.2.2.take (yJ p)) z.1 z.2) (0,[])=some ((p.2.2.2.2.take (yJ p)).map (λx=>yT b x.1)):=by
  refine FU (by show _<=1048576;rw[length_take];omega) (λk hk out ho=>?_) (λout=>?_)
  · have hx:=h1 _ (mem_of_mem_take (getElem_mem hk));have hk':=hk
    rw[length_take]at hk';show dG b _ (k:Int) out=_
    unfold dG;rw[xI (by omega),cT,xo hk,wX,(Js h (by have:=BQ (Ax hx);omega)).1,wX,xh (by rw[ho];show k+1<=_;omega),wX,xj (by omega)]
  · show dG b _ ((p.2.2.2.2.take (yJ p)).length:Int) out=_;unfold dG;rw[xu (by omega),cF]
 have l2:loop (λz:Int×List (List Int)=>dH (p.2.2.2.2.drop (yJ p)) z.1 z.2) (0,[])=some ((p.2.2.2.2.drop (yJ p)).map (λx=>x.1)):=by
  refine FU (by show _<=1048576;rw[length_drop];omega) (λk hk out ho=>?_) (λout=>?_)
  · have hk':=hk;rw[length_drop]at hk';show dH _ (k:Int) out=_
    unfold dH;rw[xI (by omega),cT,xo hk,wX,xh (by rw[ho];show k+1<=_;omega),wX,xj (by omega)]
  · show dH _ ((p.2.2.2.2.drop (yJ p)).length:Int) out=_;unfold dH;rw[xu (by omega),cF]
 rw[c1,wX,l1,wX,c2,wX,l2,wX];have:=U4 h (p:=p) (by omega) p.2.2.2.1.toNat 0 (U5 h hp) (by omega)
 have this:loop (λz=>bE b p z.1 z.2.1 z.2.2) (0,(p.2.2.2.2.take (yJ p)).map (λx=>yT b x.1),(p.2.2.2.2.drop (yJ p)).map (λx=>x.1))=_:=this;rw[this,wX];rfl
def shr (f:List x7->Bool):Nat->List x7->Option (List x7)
 | 0,_=>none
 | n+1,l=>if f (l.take n)=true then some (l.take n)else shr f n (l.take n)
theorem Ob {f:List x7->Bool}:∀{n:Nat} {l t:List x7},shr f n l=some t->f t=true/\∃m,m<n/\t=l.take m
 | 0,l,t,h=>by cases h
 | n+1,l,t,h=>by
  unfold shr at h;split at h
  · rename_i hf;cases h;exact⟨hf,n,by omega,rfl⟩
  · obtain⟨h1,m,h2,h3⟩:=Ob h;refine⟨h1,m,by omega,?_⟩;rw[h3,List.take_take,Nat.min_eq_left (by omega)]
theorem Kh {α β γ δ:Type} {step:α->Option (α⊕(β⊕δ))} {x:α} {F:β->Option γ} {G:δ->Option γ} {R:Option γ} (h:∃d,step x=some (.inr (.inl d))) (k:∀d,F d=R):(loop step x).bind (Sum.elim F G)=R:=by
 obtain⟨d,h⟩:=h;rw[xF h,wX,Sum.elim_inl,k]
abbrev Zf:=Int×List UInt8×Int×Int×Int×Int×Int×Int×Int×Int×Int×Int×List UInt8×Int×Int×Int×Int×Int×Int×Int×Int×Int×List Pt×List xa×List xq×List Int×List x7×List Pt×List xa×List xq×List Int×List x7
theorem Wc {p:xE} (h165:(p.1==165)=true) (b:wY) (j0:Int) (j1:List UInt8) (j2 j3 j4 j5 j6 j7 j8 j9 j10:Int) (k i a c:Int) (j11:List Pt) (j12:List xa) (j13:List xq) (j14:List Int) (j15:List x7):∀(n:Nat) (l:List x7),l.length=n->n<=10->(∀x∈l,EC M x) ->
 ∃w,loop (λz:Zf=>eP p z.1 z.2.1 z.2.2.1 z.2.2.2.1 z.2.2.2.2.1 z.2.2.2.2.2.1 z.2.2.2.2.2.2.1 z.2.2.2.2.2.2.2.1 z.2.2.2.2.2.2.2.2.1 z.2.2.2.2.2.2.2.2.2.1 z.2.2.2.2.2.2.2.2.2.2.1 z.2.2.2.2.2.2.2.2.2.2.2.1 z.2.2.2.2.2.2.2.2.2.2.2.2.1 z.2.2.2.2.2.2.2.2.2.2.2.2.2.1 z.2.2.2.2.2.2.2.2.2.2.2.2.2.2.1 z.2.2.2.2.2.2.2.2.2.2.2.2.2.2.2.1 z.2.2.2.2.2.2.2.2.2.2.2.2.2.2.2.2.1 z.2.2.2.2.2.2.2.2.2.2.2.2.2.2.2.2.2.1 z.2.2.2.2.2.2.2.2.2.2.2.2.2.2.2.2.2.2.1 z.2.2.2.2.2.2.2.2.2.2.2.2.2.2.2.2.2.2.2.1 z.2.2.2.2.2.2.2.2.2.2.2.2.2.2.2.2.2.2.2.2.1 z.2.2.2.2.2.2.2.2.2.2.2.2.2.2.2.2.2.2.2.2.2.1 z.2.2.2.2.2.2.2.2.2.2.2.2.2.2.2.2.2.2.2.2.2.2.1 z.2.2.2.2.2.2.2.2.2.2.2.2.2.2.2.2.2.2.2.2.2.2.2.1 z.2.2.2.2.2.2.2.2.2.2.2.2.2.2.2.2.2.2.2.2.2.2.2.2.1 z.2.2.2.2.2.2.2.2.2.2.2.2.2.2.2.2.2.2.2.2.2.2.2.2.2.1 z.2.2.2.2.2.2.2.2.2.2.2.2.2.2.2.2.2.2.2.2.2.2.2.2.2.2.1 z.2.2.2.2.2.2.2.2.2.2.2.2.2.2.2.2.2.2.2.2.2.2.2.2.2.2.2.1 z.2.2.2.2.2.2.2.2.2.2.2.2.2.2.2.2.2.2.2.2.2.2.2.2.2.2.2.2.1 z.2.2.2.2.2.2.2.2.2.2.2.2.2.2.2.2.2.2.2.2.2.2.2.2.2.2.2.2.2.1 z.2.2.2.2.2.2.2.2.2.2.2.2.2.2.2.2.2.2.2.2.2.2.2.2.2.2.2.2.2.2.1 z.2.2.2.2.2.2.2.2.2.2.2.2.2.2.2.2.2.2.2.2.2.2.2.2.2.2.2.2.2.2.2) (j0,j1,j2,j3,j4,j5,j6,j7,j8,j9,j10,b.1,b.2.1,b.2.2.2.2.2.2.1,b.2.2.2.2.2.2.2.1,b.2.2.2.2.2.2.2.2.1,b.2.2.2.2.2.2.2.2.2.1,b.2.2.2.2.2.2.2.2.2.2,k,i,a,c,j11,j12,j13,j14,j15,b.2.2.1,b.2.2.2.1,b.2.2.2.2.1,b.2.2.2.2.2.1,l)=some w/\(match shr (λt=>yN (k,i,a,c,t)) n l with|some t=>w=.inr (true,b.1,b.2.1,b.2.2.2.2.2.2.1,b.2.2.2.2.2.2.2.1,b.2.2.2.2.2.2.2.2.1,b.2.2.2.2.2.2.2.2.2.1,b.2.2.2.2.2.2.2.2.2.2,k,i,a,c,b.2.2.1,b.2.2.2.1,b.2.2.2.2.1,b.2.2.2.2.2.1,t)|none=>∃d,w=.inl d)
 | 0,l,hl,hn,hx=>by
  refine⟨_,xF (b:=Sum.inl (j0,j1,j2,j3,j4,j5,j6,j7,j8,j9,j10,b.1,b.2.1,b.2.2.2.2.2.2.1,b.2.2.2.2.2.2.2.1,b.2.2.2.2.2.2.2.2.1,b.2.2.2.2.2.2.2.2.2.1,b.2.2.2.2.2.2.2.2.2.2,k,i,a,c,j11,j12,j13,j14,j15,b.2.2.1,b.2.2.2.1,b.2.2.2.2.1,b.2.2.2.2.2.1,l)) ?_,⟨_,rfl⟩⟩;dsimp only;unfold eP;rw[h165,cT,dF (by omega),wX,cF]
 | n+1,l,hl,hn,hx=>by
  have hlt:(l.take n).length=n:=by rw[length_take];omega
  have hcut:yX l.length 0 (wZ ((l.length:Int)-1))=some (0,n):=by
   rw[xN (by omega) (by omega),show (l.length:Int)-1=(n:Int) by omega];unfold yX;rw[if_pos (by omega),if_pos (by omega),if_pos (by omega)];simp
  have hp:zz M (k,i,a,c,l.take n):=⟨by show (l.take n).length<=1048576;omega,λx h=>hx x (mem_of_mem_take h)⟩;have hstep:∀q:Bool,yN (k,i,a,c,l.take n)=q->eP p j0 j1 j2 j3 j4 j5 j6 j7 j8 j9 j10 b.1 b.2.1 b.2.2.2.2.2.2.1 b.2.2.2.2.2.2.2.1 b.2.2.2.2.2.2.2.2.1 b.2.2.2.2.2.2.2.2.2.1 b.2.2.2.2.2.2.2.2.2.2 k i a c j11 j12 j13 j14 j15 b.2.2.1 b.2.2.2.1 b.2.2.2.2.1 b.2.2.2.2.2.1 l=cond q (some (.inr (.inr (true,b.1,b.2.1,b.2.2.2.2.2.2.1,b.2.2.2.2.2.2.2.1,b.2.2.2.2.2.2.2.2.1,b.2.2.2.2.2.2.2.2.2.1,b.2.2.2.2.2.2.2.2.2.2,k,i,a,c,b.2.2.1,b.2.2.2.1,b.2.2.2.2.1,b.2.2.2.2.2.1,l.take n)))) (some (.inl (j0,j1,j2,j3,j4,j5,j6,j7,j8,j9,j10,b.1,b.2.1,b.2.2.2.2.2.2.1,b.2.2.2.2.2.2.2.1,b.2.2.2.2.2.2.2.2.1,b.2.2.2.2.2.2.2.2.2.1,b.2.2.2.2.2.2.2.2.2.2,k,i,a,c,j11,j12,j13,j14,j15,b.2.2.1,b.2.2.2.1,b.2.2.2.2.1,b.2.2.2.2.2.1,l.take n))):=by
   intro q hq;unfold eP;rw[h165,cT,dT (by omega),wX,cT,hcut,wX];simp only[drop_zero];rw[Jr hp,wX,hq]
  by_cases hf:yN (k,i,a,c,l.take n)=true
  · have e:shr (λt=>yN (k,i,a,c,t)) (n+1) l=some (l.take n):=if_pos hf;rw[e];exact⟨_,xF (hstep true hf),rfl⟩
  · have e:shr (λt=>yN (k,i,a,c,t)) (n+1) l=shr (λt=>yN (k,i,a,c,t)) n (l.take n):=if_neg hf;rw[e];obtain⟨w,h1,h2⟩:=Wc h165 b j0 j1 j2 j3 j4 j5 j6 j7 j8 j9 j10 k i a c j11 j12 j13 j14 j15 n (l.take n) hlt (by omega) (λx h=>hx x (mem_of_mem_take h));exact⟨w,xx (hstep false (by simpa using hf)) h1,h2⟩
noncomputable def H0 (b:wY) (l:List x7):wY×Int×Int:=(dK b l).getD (b,0,0)
noncomputable def Co (b:wY) (p:xE):wY×xE :=
 cond (p.1==160) (b,162,p.2.1,0,0,p.2.2.2.2.map λx=>(x.1,FV b x.1))
  (cond (p.1==161) (b,162,p.2.1,0,0,p.2.2.2.2.map λx=>yT b x.1)
   (cond (p.1==165) (b,162,p.2.1,0,0,AY b p) ((H0 b p.2.2.2.2).1,162,p.2.1,(H0 b p.2.2.2.2).2.1,(H0 b p.2.2.2.2).2.2,p.2.2.2.2)))
noncomputable def DX (b:wY) (p:xE):wY×xE :=
 match cond (p.1==165) (shr (λt=>yN (162,p.2.1,0,0,t)) (AY b p).length (AY b p)) none with
 | some t=>(b,162,p.2.1,0,0,t)
 | none=>(b,162,p.2.1,7,0,[])
noncomputable def Bc (b:wY) (p:xE):wY×xE:=cond (yN (Co b p).2) (Co b p) (DX b p)
noncomputable def FW (b:wY) (p:xE):Bool:=xQ b&&(z8 p&&(p.1 != 162))
noncomputable def z7 (b:wY) (p:xE):wY×xE×Bool:=cond (FW b p) ((Bc b p).1,(Bc b p).2,true) (b,(0,0,0,0,[]),false)
theorem IY {p:xE} (hp:z8 p=true):Dh M p.2.2.2.2:=by
 obtain⟨h1,h2,_⟩:=Ao hp;exact⟨by show _<=1048576;omega,λx hx=>A4 (h1 x hx)⟩
theorem Sb {b:wY} (h:AC b) (hb:Ar M b) {p:xE} (hp:zz M p):cB b p=some (z7 b p):=by
 unfold cB z7 FW;rw[yn hb,wX,By h,wX];cases hbr:xQ b with
 | false=>rw[Bool.not_false,cT,wX,cT,wX,cT];rfl
 | true =>
 rw[Bool.not_true,cF,TK hp,wX,wX];cases hpp:z8 p with
 | false=>rw[Bool.not_false,cT,wX,cT];rfl
 | true =>
 rw[Bool.not_true,cF,wX];cases h162:(p.1==162)with
 | true =>
  have:(p.1 != 162)=false:=by rw[bne,h162];rfl
  rw[cT,this];rfl
 | false =>
 have hne:(p.1 != 162)=true:=by rw[bne,h162];rfl
 have hBO:=Dx h hbr;obtain⟨x1,x2,x3,x4,x5,x6⟩:=Ao hpp;have hxs:=IY hpp
 rw[cF,hne,Bool.true_and,Bool.true_and,cT];unfold Bc Co DX;cases h160:(p.1==160)with
 | true =>
  have h165:(p.1==165)=false:=by simp only[beq_iff_eq]at h160;rw[h160];rfl
  have e:loop (λz:Int×Int×Int×Int×Int×List x7=>eN b p z.1 z.2.1 z.2.2.1 z.2.2.2.1 z.2.2.2.2.1 z.2.2.2.2.2) (0,162,p.2.1,0,0,[])=some (162,p.2.1,0,0,p.2.2.2.2.map λx=>(x.1,FV b x.1)):=by
   obtain⟨v,e1,rfl⟩:=xG (step:=λz:Int×Int×Int×Int×Int×List x7=>eN b p z.1 z.2.1 z.2.2.1 z.2.2.2.1 z.2.2.2.2.1 z.2.2.2.2.2) (λk z=>z=((k:Int),162,p.2.1,0,0,(p.2.2.2.2.take k).map λx=>(x.1,FV b x.1))) p.2.2.2.2.length (λv=>v=(162,p.2.1,0,0,p.2.2.2.2.map λx=>(x.1,FV b x.1)))
    (λk z hk e=>by
     subst e;refine .inl ⟨_,?_,rfl⟩;have hx:=BQ (Ax (x1 _ (getElem_mem hk)))
     dsimp only;unfold eN;rw[xI (by omega),cT,xo hk,wX,I9 (by show _<=1048576;omega),wX,(Tk hBO (by omega)).1,wX,xh (by rw[length_map,length_take];show min k _+1<=_;omega),wX,xj (by omega),
      take_add_one,List.getElem?_eq_getElem hk,map_append];rfl)
    (λz e=>by
     subst e;refine⟨_,?_,rfl⟩;dsimp only;unfold eN;rw[xu (by omega),cF,take_length]) (x:=(0,162,p.2.1,0,0,[])) rfl
   exact e1
  simp only[cT,cF];rw[e,wX,Jr ⟨by show (p.2.2.2.2.map _).length<=1048576;rw[length_map];omega,λx hx=>by
   obtain⟨y,hy,rfl⟩:=mem_map.1 hx;exact A4 (by unfold C4;rw[Ax (x1 y hy),U3 hBO (by have:=BQ (Ax (x1 y hy));omega)];rfl)⟩,wX]
  cases yN (162,p.2.1,0,0,p.2.2.2.2.map λx=>(x.1,FV b x.1))with
  | true=>rfl
  | false =>
   simp only[cF];refine Kh ?_ λd=>?_
   · dsimp only;unfold mq;rw[h165,cF,wX,cF];exact⟨_,rfl⟩
   · rw[wX];simp only[h165,cF]
 | false =>
 cases h161:(p.1==161)with
 | true =>
  have h165:(p.1==165)=false:=by simp only[beq_iff_eq]at h161;rw[h161];rfl
  have e:loop (λz:Int×Int×Int×Int×Int×List x7=>eO b p z.1 z.2.1 z.2.2.1 z.2.2.2.1 z.2.2.2.2.1 z.2.2.2.2.2) (0,162,p.2.1,0,0,[])=some (162,p.2.1,0,0,p.2.2.2.2.map λx=>yT b x.1):=by
   obtain⟨v,e1,rfl⟩:=xG (step:=λz:Int×Int×Int×Int×Int×List x7=>eO b p z.1 z.2.1 z.2.2.1 z.2.2.2.1 z.2.2.2.2.1 z.2.2.2.2.2) (λk z=>z=((k:Int),162,p.2.1,0,0,(p.2.2.2.2.take k).map λx=>yT b x.1)) p.2.2.2.2.length (λv=>v=(162,p.2.1,0,0,p.2.2.2.2.map λx=>yT b x.1))
    (λk z hk e=>by
     subst e;refine .inl ⟨_,?_,rfl⟩;have hx:=BQ (Ax (x1 _ (getElem_mem hk)))
     dsimp only;unfold eO;rw[xI (by omega),cT,xo hk,wX,(Js hBO (by omega)).1,wX,xh (by rw[length_map,length_take];show min k _+1<=_;omega),wX,xj (by omega),
      take_add_one,List.getElem?_eq_getElem hk,map_append];rfl)
    (λz e=>by
     subst e;refine⟨_,?_,rfl⟩;dsimp only;unfold eO;rw[xu (by omega),cF,take_length]) (x:=(0,162,p.2.1,0,0,[])) rfl
   exact e1
  simp only[cT,cF];rw[e,wX,Jr ⟨by show (p.2.2.2.2.map _).length<=1048576;rw[length_map];omega,λx hx=>by
   obtain⟨y,hy,rfl⟩:=mem_map.1 hx;exact A4 (Hv hBO (Ax (x1 y hy)))⟩,wX]
  cases yN (162,p.2.1,0,0,p.2.2.2.2.map λx=>yT b x.1)with
  | true=>rfl
  | false =>
   simp only[cF];refine Kh ?_ λd=>?_
   · dsimp only;unfold mr;rw[h165,cF,wX,cF];exact⟨_,rfl⟩
   · rw[wX];simp only[h165,cF]
 | false =>
 cases h165:(p.1==165)with
 | true =>
  have hbk:=PM hBO hpp;have hbx:∀x∈AY b p,EC M x:=λx hx=>A4 (hbk.oOk x hx)
  have hbn:(AY b p).length<=10:=hbk.o10;simp only[cT,cF];rw[XC hBO hpp,wX,Jr ⟨by show (AY b p).length<=1048576;omega,hbx⟩,wX];cases yN (162,p.2.1,0,0,AY b p)with
  | true=>rfl
  | false =>
   simp only[cF];obtain⟨w,e1,e2⟩:=Wc h165 b 0 [] 0 0 0 0 0 0 0 0 0 162 p.2.1 0 0 [] [] [] [] [] _ (AY b p) rfl hbn hbx;rw[e1,wX];cases hs:shr (λt=>yN (162,p.2.1,0,0,t)) (AY b p).length (AY b p)with
   | some t=>rw[hs]at e2;rw[e2];rfl
   | none =>
    rw[hs]at e2;obtain⟨d,rfl⟩:=e2;rw[Sum.elim_inl,wX];try rfl
 | false =>
  obtain⟨r,r1,_,_,_⟩:=Mj h hb hxs;have hr:H0 b p.2.2.2.2=r:=by unfold H0;rw[r1];rfl
  simp only[cF];rw[r1,wX,Jb hxs,wX,hr,Jr (p:=(162,p.2.1,r.2.1,r.2.2,p.2.2.2.2)) ⟨hxs.1,hxs.2⟩,wX];cases yN (162,p.2.1,r.2.1,r.2.2,p.2.2.2.2)with
  | true=>rfl
  | false =>
   simp only[cF];refine Kh ?_ λd=>?_
   · dsimp only;unfold mt;rw[h165,cF,wX,cF];exact⟨_,rfl⟩
   · rw[wX]

def aW (a:xk):List UInt8:=a.2.2.2.2.2.2.2.2.2.2.2.1
def yR (b:wY) (w:List UInt8) (l:List xH) (lo la:Int):xk:=(b.1,b.2.1,b.2.2.1,b.2.2.2.1,b.2.2.2.2.1,b.2.2.2.2.2.1,b.2.2.2.2.2.2.1,b.2.2.2.2.2.2.2.1,b.2.2.2.2.2.2.2.2.1,b.2.2.2.2.2.2.2.2.2.1,b.2.2.2.2.2.2.2.2.2.2,w,l,lo,la)
def AZ (id:Int) (m:List Int) (ph:Int) (p:xE) (s:wY) (at' tr:Int):xH:=(id,m,ph,p.1,p.2.1,p.2.2.1,p.2.2.2.1,p.2.2.2.2,s.1,s.2.1,s.2.2.1,s.2.2.2.1,s.2.2.2.2.1,s.2.2.2.2.2.1,s.2.2.2.2.2.2.1,s.2.2.2.2.2.2.2.1,s.2.2.2.2.2.2.2.2.1,s.2.2.2.2.2.2.2.2.2.1,s.2.2.2.2.2.2.2.2.2.2,at',tr)
theorem N9 {b:wY} {w:List UInt8} {l:List xH} {lo la:Int} {k:Nat} (hk:k<l.length) (hl:l.length<=M):bR (yR b w l lo la) (k:Int)=some (yR b w (l.eraseIdx k) lo la):=by
 have hM:M=1048576:=rfl;have c1:yX l.length 0 (k:Int)=some (0,k):=by
  unfold yX;rw[if_pos (by omega),if_pos (by omega),if_pos (by omega)];simp
 have c2:yX l.length (wZ ((k:Int)+1)) (l.length:Int)=some (k+1,l.length):=by
  rw[xj (by omega)];unfold yX;rw[if_pos (by omega),if_pos (by omega),if_pos (by omega)];simp
 have c3:Iw l 0 k (k+1) l.length=some (l.eraseIdx k):=by
  unfold Iw;rw[if_pos (by omega),take_length,drop_zero,xh (by rw[length_take,length_drop];omega),←List.eraseIdx_eq_take_drop_succ]
 unfold bR yR;simp only[c1,wX,c2,c3]
def M9 (b:wY) (j:xH):xH:=AZ j.1 j.2.1 1 (jP j) b 0 (xT j)
theorem Sc {b:wY} (hb:Ar M b) {w:List UInt8} {l:List xH} {lo la:Int} {k:Nat} (hk:k<l.length):eD (yR b w l lo la) (k:Int)=some (yR b w (l.set k (M9 b l[k])) lo la):=by
 have cb:=yn hb;unfold eD yR;simp only[yE hk,wX];have cb':ah (b.1,b.2.1,b.2.2.1,b.2.2.2.1,b.2.2.2.2.1,b.2.2.2.2.2.1,b.2.2.2.2.2.2.1,b.2.2.2.2.2.2.2.1,b.2.2.2.2.2.2.2.2.1,b.2.2.2.2.2.2.2.2.2.1,b.2.2.2.2.2.2.2.2.2.2)=some b:=cb
 simp only[cb',wX,List.getElem?_eq_getElem hk,List.getElem?_set_self hk,set_set];rfl
def Bt (n:Int):Int:=min2 (wZ (n+1)) 1000000
theorem Dd (n:Int):au n=some (Bt n):=rfl
def GJ (b:wY):wY:=(b.1,b.2.1,b.2.2.1,b.2.2.2.1,b.2.2.2.2.1,b.2.2.2.2.2.1,b.2.2.2.2.2.2.1,b.2.2.2.2.2.2.2.1,Bt b.2.2.2.2.2.2.2.2.1,b.2.2.2.2.2.2.2.2.2.1,b.2.2.2.2.2.2.2.2.2.2)
def EA (b:wY):wY:=(b.1,b.2.1,b.2.2.1,b.2.2.2.1,b.2.2.2.2.1,b.2.2.2.2.2.1,b.2.2.2.2.2.2.1,Bt b.2.2.2.2.2.2.2.1,b.2.2.2.2.2.2.2.2.1,b.2.2.2.2.2.2.2.2.2.1,b.2.2.2.2.2.2.2.2.2.2)
noncomputable def yu (w:List UInt8) (m:List Int):xE×Int:=(dA w m).getD ((0,0,0,0,[]),0)
theorem Tl (w:List UInt8) {m:List Int} (hb:A3 m) (hn:m.length<=M):dA w m=some (yu w m)/\fS w m=some (yu w m)/\zz M (yu w m).1/\((yu w m).2=0->z8 (yu w m).1=true):=by
 obtain⟨r,h1,h2,h3,h4⟩:=Wb w hb hn;unfold yu;rw[h1];exact⟨rfl,h2,h3,h4⟩
noncomputable def Ce (p:xE):xE:=cond (yN (162,p.2.1,6,1,p.2.2.2.2)) (162,p.2.1,6,1,p.2.2.2.2) (162,p.2.1,7,0,[])
theorem XD {p:xE} (hp:zz M p):eQ p=some (Ce p):=by
 unfold eQ Ce;rw[Jb hp,wX,Jr (p:=(162,p.2.1,6,1,p.2.2.2.2)) hp,wX];cases yN (162,p.2.1,6,1,p.2.2.2.2)<;>rfl
inductive Wd where
 | stay (j:xH)|gone (d:List xX)
noncomputable def B0 (w:List UInt8) (b:wY) (j:xH):wY×Wd :=
 cond (j.2.2.1==0)
  (cond ((yu w j.2.1).2==3) (GJ b,.gone [])
   (cond ((yu w j.2.1).2 != 0||((yu w j.2.1).1.1==162)) (EA b,.gone [])
    (b,.stay (AZ j.1 j.2.1 1 (yu w j.2.1).1 b 0 (xT j)))))
  (cond (j.2.2.1==2)
   (cond (j.2.2.2.1 != 163) (b,.gone [(j.1,(z7 (jB j) (jP j)).2.1)])
    (cond (b.2.2.2.2.2.2.2.2.2.2==(jB j).2.2.2.2.2.2.2.2.2.2) ((z7 b (jP j)).1,.gone [(j.1,(z7 b (jP j)).2.1)])
     (cond (decide (xT j>=3)) (b,.gone [(j.1,Ce (jP j))])
      (b,.stay (AZ j.1 j.2.1 1 (jP j) b 0 (wZ (xT j+1)))))))
   (cond (decide (AO j<((jP j).2.2.2.2.length:Int))) (b,.stay (AZ j.1 j.2.1 j.2.2.1 (jP j) (jB j) (wZ (AO j+1)) (xT j)))
    (b,.stay (AZ j.1 j.2.1 2 (jP j) (jB j) (AO j) (xT j)))))
noncomputable def Cf (a:xk) (k:Nat) (j:xH):xk×List xX :=
 match (B0 (aW a) (aB a) j).2 with
 | .stay j'=>(yR (B0 (aW a) (aB a) j).1 (aW a) ((x8 a).set k j') (zH a) (xK a),[])
 | .gone d=>(yR (B0 (aW a) (aB a) j).1 (aW a) ((x8 a).eraseIdx k) (zH a) (xK a),d)
theorem XE {b:wY} (hb:Ar M b) {w:List UInt8} {l:List xH} {lo la:Int} {k:Nat} (hk:k<l.length) (hl:l.length<=M) (h1:A3 l[k].2.1) (h2:l[k].2.1.length<=M) :
 eE (yR b w l lo la) (k:Int)=some (cond ((yu w l[k].2.1).2==3) (yR (GJ b) w (l.eraseIdx k) lo la)
  (cond ((yu w l[k].2.1).2 != 0||((yu w l[k].2.1).1.1==162)) (yR (EA b) w (l.eraseIdx k) lo la) (yR b w (l.set k (AZ l[k].1 l[k].2.1 1 (yu w l[k].2.1).1 b 0 (xT l[k]))) lo la))):=by
 obtain⟨m1,_,m3,_⟩:=Tl w h1 h2;unfold eE;have d1:=N9 (b:=GJ b) (w:=w) (lo:=lo) (la:=la) hk hl
 have d2:=N9 (b:=EA b) (w:=w) (lo:=lo) (la:=la) hk hl;unfold GJ yR at d1;unfold EA yR at d2;dsimp only[yR];simp only[yE hk,wX,List.getElem?_eq_getElem hk,m1,Dd];rw[d1,d2];cases ((yu w l[k].2.1).2==3)with
 | true=>rfl
 | false =>
  simp only[cF,wX];cases ((yu w l[k].2.1).2 != 0)with
  | true=>rfl
  | false =>
   simp only[cF,wX,Bool.false_or];cases ((yu w l[k].2.1).1.1==162)with
   | true=>rfl
   | false =>
    simp only[cF,wX];have hs:k<(l.set k (AZ l[k].1 l[k].2.1 l[k].2.2.1 (yu w l[k].2.1).1 (jB l[k]) (AO l[k]) (xT l[k]))).length:=by rw[length_set];exact hk
    have e:=Sc hb (w:=w) (lo:=lo) (la:=la) hs;unfold yR at e;have e2:M9 b (l.set k (AZ l[k].1 l[k].2.1 l[k].2.2.1 (yu w l[k].2.1).1 (jB l[k]) (AO l[k]) (xT l[k])))[k]=AZ l[k].1 l[k].2.1 1 (yu w l[k].2.1).1 b 0 (xT l[k]):=by
     rw[getElem_set_self];rfl
    rw[e2,set_set]at e;refine (congrArg (λo=>Option.bind o λt=>some t) e).trans ?_;rfl
theorem UN {b:wY} (hw:AC b) (hb:Ar M b) {w:List UInt8} {l:List xH} {lo la:Int} {k:Nat} (hk:k<l.length) (hl:l.length<=M) (h1:OM l[k]) (h2:JS M l[k]) :
 eR (yR b w l lo la) (k:Int)=some (cond (l[k].2.2.2.1 != 163) (yR b w (l.eraseIdx k) lo la,[(l[k].1,(z7 (jB l[k]) (jP l[k])).2.1)])
  (cond (b.2.2.2.2.2.2.2.2.2.2==(jB l[k]).2.2.2.2.2.2.2.2.2.2) (yR (z7 b (jP l[k])).1 w (l.eraseIdx k) lo la,[(l[k].1,(z7 b (jP l[k])).2.1)])
   (cond (decide (xT l[k]>=3)) (yR b w (l.eraseIdx k) lo la,[(l[k].1,Ce (jP l[k]))])
    (yR b w (l.set k (AZ l[k].1 l[k].2.1 1 (jP l[k]) b 0 (wZ (xT l[k]+1)))) lo la,[])))):=by
 have r1:=Sb h1.b h2.2.2 h1.p;have r2:=Sb hw hb h1.p
 have r3:=XD h1.p;have d1:=N9 (b:=b) (w:=w) (lo:=lo) (la:=la) hk hl
 have d2:=N9 (b:=(z7 b (jP l[k])).1) (w:=w) (lo:=lo) (la:=la) hk hl;unfold eR;dsimp only[yR];simp only[yE hk,wX,List.getElem?_eq_getElem hk];unfold yR at d1;cases hkind:(l[k].2.2.2.1 != 163)with
 | true =>
  simp only[cT];rw[show cB (l[k].2.2.2.2.2.2.2.2.1,l[k].2.2.2.2.2.2.2.2.2.1,l[k].2.2.2.2.2.2.2.2.2.2.1,l[k].2.2.2.2.2.2.2.2.2.2.2.1,l[k].2.2.2.2.2.2.2.2.2.2.2.2.1,l[k].2.2.2.2.2.2.2.2.2.2.2.2.2.1,l[k].2.2.2.2.2.2.2.2.2.2.2.2.2.2.1,l[k].2.2.2.2.2.2.2.2.2.2.2.2.2.2.2.1,l[k].2.2.2.2.2.2.2.2.2.2.2.2.2.2.2.2.1,l[k].2.2.2.2.2.2.2.2.2.2.2.2.2.2.2.2.2.1,l[k].2.2.2.2.2.2.2.2.2.2.2.2.2.2.2.2.2.2.1) (l[k].2.2.2.1,l[k].2.2.2.2.1,l[k].2.2.2.2.2.1,l[k].2.2.2.2.2.2.1,l[k].2.2.2.2.2.2.2.1)=some (z7 (jB l[k]) (jP l[k]))from r1,wX,d1,wX]
 | false =>
  simp only[cF];show cond (b.2.2.2.2.2.2.2.2.2.2==(jB l[k]).2.2.2.2.2.2.2.2.2.2) _ _=_
  cases hv:(b.2.2.2.2.2.2.2.2.2.2==(jB l[k]).2.2.2.2.2.2.2.2.2.2)with
  | true =>
   simp only[cT];rw[show cB (b.1,b.2.1,b.2.2.1,b.2.2.2.1,b.2.2.2.2.1,b.2.2.2.2.2.1,b.2.2.2.2.2.2.1,b.2.2.2.2.2.2.2.1,b.2.2.2.2.2.2.2.2.1,b.2.2.2.2.2.2.2.2.2.1,b.2.2.2.2.2.2.2.2.2.2) (l[k].2.2.2.1,l[k].2.2.2.2.1,l[k].2.2.2.2.2.1,l[k].2.2.2.2.2.2.1,l[k].2.2.2.2.2.2.2.1)=some (z7 b (jP l[k]))from r2,wX];unfold yR at d2;rw[d2,wX]
  | false =>
   simp only[cF];show cond (decide (xT l[k]>=3)) _ _=_
   cases hq:decide (xT l[k]>=3)with
   | true =>
    simp only[cT];rw[show eQ (l[k].2.2.2.1,l[k].2.2.2.2.1,l[k].2.2.2.2.2.1,l[k].2.2.2.2.2.2.1,l[k].2.2.2.2.2.2.2.1)=some (Ce (jP l[k]))from r3,wX,d1,wX]
   | false =>
    simp only[cF];have hs:k<(l.set k (AZ l[k].1 l[k].2.1 l[k].2.2.1 (jP l[k]) (jB l[k]) (AO l[k]) (wZ (xT l[k]+1)))).length:=by rw[length_set];exact hk
    have e:=Sc hb (w:=w) (lo:=lo) (la:=la) hs;unfold yR at e;have e2:M9 b (l.set k (AZ l[k].1 l[k].2.1 l[k].2.2.1 (jP l[k]) (jB l[k]) (AO l[k]) (wZ (xT l[k]+1))))[k]=AZ l[k].1 l[k].2.1 1 (jP l[k]) b 0 (wZ (xT l[k]+1)):=by
     rw[getElem_set_self];rfl
    rw[e2,set_set]at e;refine (congrArg (λo=>Option.bind o λt=>some (t,([]:List xX))) e).trans ?_;rfl
theorem XF {a:xk} (hw:AC (aB a)) (hl:FY M a) {k:Nat} (hk:k<(x8 a).length) (h1:OM (x8 a)[k]) (h2:A3 (x8 a)[k].2.1):eS a (k:Int)=some (Cf a k (x8 a)[k]):=by
 obtain⟨hb,_,hn,hj⟩:=hl;have hJ:=hj _ (getElem_mem hk)
 have hn:(x8 a).length<=M:=hn;have e1:=XE hb (w:=aW a) (l:=x8 a) (lo:=zH a) (la:=xK a) hk hn h2 hJ.1
 have e2:=UN hw hb (w:=aW a) (l:=x8 a) (lo:=zH a) (la:=xK a) hk hn h1 hJ;have c0:ix a.2.2.2.2.2.2.2.2.2.2.2.2.1.length (k:Int)=some k:=yE hk
 have c1:a.2.2.2.2.2.2.2.2.2.2.2.2.1[k]?=some (x8 a)[k]:=List.getElem?_eq_getElem hk;have e1:eE a (k:Int)=_:=e1
 have e2:eR a (k:Int)=_:=e2;unfold eS Cf B0;rw[c0,wX];simp only[c1,wX];cases hp0:((x8 a)[k].2.2.1==0)with
 | true =>
  rw[cT,e1,wX];cases ((yu (aW a) (x8 a)[k].2.1).2==3)with
  | true=>rfl
  | false =>
   cases ((yu (aW a) (x8 a)[k].2.1).2 != 0||((yu (aW a) (x8 a)[k].2.1).1.1==162))<;>rfl
 | false =>
  rw[cF];cases hp2:((x8 a)[k].2.2.1==2)with
  | true =>
   rw[cT,e2,wX];cases ((x8 a)[k].2.2.2.1 != 163)with
   | true=>rfl
   | false =>
    cases ((aB a).2.2.2.2.2.2.2.2.2.2==(jB (x8 a)[k]).2.2.2.2.2.2.2.2.2.2)with
    | true=>rfl
    | false=>cases decide (xT (x8 a)[k]>=3)<;>rfl
  | false =>
   simp only[cF];show cond (decide (AO (x8 a)[k]<((jP (x8 a)[k]).2.2.2.2.length:Int))) _ _=_
   cases decide (AO (x8 a)[k]<((jP (x8 a)[k]).2.2.2.2.length:Int))<;>rfl

theorem Du {n:Int} (h:xe n 0 1000000=true):xe (Bt n) 0 1000000=true:=by
 obtain⟨r,h1,_,h3⟩:=Nf h;rw[Dd]at h1;cases h1;exact h3
theorem BM {b:wY} (h:xQ b=true):zI b=true/\∀c,zI (b.1,b.2.1,b.2.2.1,b.2.2.2.1,b.2.2.2.2.1,b.2.2.2.2.2.1,c)=true->xQ (b.1,b.2.1,b.2.2.1,b.2.2.2.1,b.2.2.2.2.1,b.2.2.2.2.2.1,c)=true:=by
 unfold xQ at h ⊢;simp only[aT]at h ⊢;obtain⟨h1,h2,h3,h4,h5,h6,h7⟩:=h;exact⟨h7,λc hc=>⟨h1,h2,h3,h4,h5,h6,hc⟩⟩
theorem Lu {b:wY} (h:y9 b) {c:Int×Int×Int×Int×Int} (hc:zI (b.1,b.2.1,b.2.2.1,b.2.2.2.1,b.2.2.2.2.1,b.2.2.2.2.2.1,c)=true):y9 (b.1,b.2.1,b.2.2.1,b.2.2.2.1,b.2.2.2.2.1,b.2.2.2.2.2.1,c) :=
 Dx ⟨h.w.p,h.w.f,h.w.v,h.w.q,h.w.r⟩ ((BM h.ok).2 c hc)
theorem Ap {b:wY} (h:zI b=true):xe b.2.2.2.2.2.2.1 0 1000000=true/\xe b.2.2.2.2.2.2.2.1 0 1000000=true/\xe b.2.2.2.2.2.2.2.2.1 0 1000000=true/\xe b.2.2.2.2.2.2.2.2.2.1 0 1000000=true/\xe b.2.2.2.2.2.2.2.2.2.2 0 1000000=true:=by
 unfold zI at h;simpa only[aT]using h
theorem Tm {b:wY} (h:y9 b):y9 (GJ b):=by
 refine Lu h ?_;obtain⟨h1,h2,h3,h4,h5⟩:=Ap (BM h.ok).1;unfold zI;simp only[aT];exact⟨h1,h2,Du h3,h4,h5⟩
theorem Sd {b:wY} (h:y9 b):y9 (EA b):=by
 refine Lu h ?_;obtain⟨h1,h2,h3,h4,h5⟩:=Ap (BM h.ok).1;unfold zI;simp only[aT];exact⟨h1,Du h2,h3,h4,h5⟩
theorem Hw {b:wY} (h:B6 b) (hl:Ar M b):AC b:=by
 obtain⟨_,l2,l3,l4,l5⟩:=hl;have hM:M<9223372036854775807:=by decide
 exact⟨by omega,by omega,by omega,by omega,h.h⟩
theorem YH {b:wY} (h:y9 b) {l:List x7} (hl:Dh M l):dK b l=some (H0 b l)/\y9 (H0 b l).1:=by
 obtain⟨r,r1,_,r3,r4,_⟩:=Mj h.w h.le hl;unfold H0;rw[r1];obtain⟨k1,k2⟩:=r4 h.ok;exact⟨rfl,Dx (Hw k1 r3) k2⟩
theorem Tn {b:wY} (h:y9 b) {p:xE} (hp:z8 p=true):y9 (Co b p).1:=by
 unfold Co;cases (p.1==160)<;>cases (p.1==161)<;>cases (p.1==165)<;>first|exact h|exact (YH h (IY hp)).2
theorem UO (b:wY) (p:xE):(DX b p).1=b:=by
 unfold DX;split<;>rfl
theorem Lv {b:wY} (h:y9 b) (p:xE):y9 (z7 b p).1:=by
 unfold z7;cases hq:FW b p with
 | false=>exact h
 | true =>
  unfold FW at hq;simp only[aT]at hq;rw[cT];unfold Bc;cases yN (Co b p).2 with
  | true=>exact Tn h hq.2.1
  | false=>rw[cF,UO];exact h
theorem To {p:xE} (hp:z8 p=true):p.1=160\/p.1=161\/p.1=162\/p.1=163\/p.1=165:=by
 unfold z8 at hp;by_cases h0:p.1=160;· exact .inl h0
 by_cases h1:p.1=161;· exact .inr (.inl h1)
 by_cases h2:p.1=162;· exact .inr (.inr (.inl h2))
 by_cases h3:p.1=163;· exact .inr (.inr (.inr (.inl h3)))
 by_cases h5:p.1=165;· exact .inr (.inr (.inr (.inr h5)))
 simp[h0,h1,h2,h3,h5]at hp
structure EH (j:xH):Prop where
 byt:A3 j.2.1
 len:j.2.1.length<=M
 ph:xe j.2.2.1 0 2=true
 at':xe (AO j) 0 ((jP j).2.2.2.2.length:Int)=true
 tr:xe (xT j) 0 3=true
 ok:(j.2.2.1==0)=true\/(z8 (jP j)=true/\((jP j).1 != 162)=true/\y9 (jB j))
 pl:zz M (jP j)
 bw:AC (jB j)
 bl:Ar M (jB j)
theorem EH.jwf {j:xH} (h:EH j):OM j:=⟨h.pl,h.bw⟩
theorem EH.jle {j:xH} (h:EH j):JS M j:=⟨h.len,h.pl,h.bl⟩
structure A2 (a:xk):Prop where
 b:y9 (aB a)
 w:(aW a).length<=20
 n:(x8 a).length<=6
 lo:xe (zH a) 0 1000000=true
 la:xe (xK a) 0 1000000=true
 ids:∀j∈x8 a,xe j.1 1 (xK a)=true
 up:(x8 a).Pairwise λi j=>i.1<j.1
 j:∀j∈x8 a,EH j
theorem A2.ale {a:xk} (h:A2 a):FY M a:=⟨h.b.le,by have:=h.w;show (aW a).length<=1048576;omega,by have:=h.n;show (x8 a).length<=1048576;omega,λx hx=>(h.j x hx).jle⟩
theorem A2.awf {a:xk} (h:A2 a):LH a:=⟨h.b.w,by have:=h.n;omega,λx hx=>(h.j x hx).jwf⟩
theorem A2.ok {a:xk} (h:A2 a):AP a=true:=by
 have hn:=h.n;have hw:=h.w
 unfold AP;have h1:(List.range (x8 a).length).any (H4 (x8 a) (xK a))=false:=by
  rw[any_eq_false];intro k hk;have hk:=mem_range.1 hk
  unfold H4;have hj:=h.j _ (getElem_mem hk)
  have hp:Dj (x8 a)[k]=true:=by
   unfold Dj;simp only[aT,Bool.or_eq_true];refine⟨hj.ph,hj.at',hj.tr,hj.ok.imp (λe=>e) λ⟨k1,k2,k3⟩=>⟨k1,k2,k3.ok⟩⟩
  simp only[List.getElem?_eq_getElem hk,h.ids _ (getElem_mem hk),hp,Bool.and_self,Bool.not_true,Bool.false_or];by_cases h0:0<k
  · have:=pairwise_iff_getElem.1 h.up (k-1) k (by omega) hk (by omega);simp only[List.getElem?_eq_getElem (show k-1<(x8 a).length by omega),aT,decide_eq_true_eq];omega
  · rw[dF h0];simp
 rw[h1];simp only[Bool.not_false,Bool.true_and,aT,decide_eq_true_eq];exact⟨h.b.ok,by show ((aW a).length:Int)<=20;omega,by omega,h.lo,h.la⟩
theorem PN {a:xk} (h:LH a) (hl:FY M a) (hb:∀j∈x8 a,A3 j.2.1) (hp:AP a=true):A2 a:=by
 unfold AP at hp;simp only[aT,Bool.not_eq_true',decide_eq_true_eq]at hp;obtain⟨h1,h2,h3,h4,h5,h6⟩:=hp;have key:∀k (hk:k<(x8 a).length),xe (x8 a)[k].1 1 (xK a)=true/\Dj (x8 a)[k]=true/\(∀h0:0<k,(x8 a)[k-1].1<(x8 a)[k].1):=by
  intro k hk;have:=any_eq_false.1 h1 k (mem_range.2 hk)
  unfold H4 at this;simp only[List.getElem?_eq_getElem hk,Bool.or_eq_true,Bool.not_eq_true',Bool.and_eq_false_iff,not_or]at this;obtain⟨t1,t2⟩:=this;have e1:xe (x8 a)[k].1 1 (xK a)=true:=by
   cases e:xe (x8 a)[k].1 1 (xK a)with
   | true=>rfl
   | false=>exact absurd e t1.1
  have e2:Dj (x8 a)[k]=true:=by
   cases e:Dj (x8 a)[k]with
   | true=>rfl
   | false=>exact absurd e t1.2
  refine⟨e1,e2,λh0=>?_⟩;rw[dT h0]at t2;simp only[List.getElem?_eq_getElem (show k-1<(x8 a).length by omega),Bool.true_and,decide_eq_true_eq]at t2;omega
 refine⟨Dx h.b h2,by have:((aW a).length:Int)<=20:=h3;omega,by omega,h5,h6,λj hj=>?_,?_,λj hj=>?_⟩
 · obtain⟨k,hk,rfl⟩:=getElem_of_mem hj;exact (key k hk).1
 · exact I8 (λa b c h k=>by omega) λk hk=>by
    have:=(key (k+1) hk).2.2 (by omega);simpa using this
 · have hjw:=h.j j hj;have hjl:=hl.2.2.2 j hj
   have hjb:=hb j hj;obtain⟨k,hk,rfl⟩:=getElem_of_mem hj;have hp:=(key k hk).2.1
   unfold Dj at hp;simp only[aT,Bool.or_eq_true]at hp;obtain⟨p1,p2,p3,p4⟩:=hp;exact⟨hjb,hjl.1,p1,p2,p3,p4.imp (λe=>e) λ⟨q1,q2,q3⟩=>⟨q1,q2,Dx hjw.b q3⟩,hjw.p,hjw.b,hjl.2.2⟩
noncomputable def B1 (b:wY) (j:xH):Nat:=if (jP j).1=163/\b.2.2.2.2.2.2.2.2.2.2≠(jB j).2.2.2.2.2.2.2.2.2.2/\xT j<3 then (jP j).2.2.2.2.length+3 else 1
noncomputable def En (w:List UInt8) (m:List Int):Bool:=(yu w m).2==0&&((yu w m).1.1 != 162)
noncomputable def Bd (w:List UInt8) (j:xH):Bool:=En w j.2.1||decide (j.2.2.1>0)
noncomputable def Aq (w:List UInt8) (b:wY) (j:xH):Nat :=
 if j.2.2.1=2 then B1 b j else if j.2.2.1=1 then (jP j).2.2.2.2.length-(AO j).toNat+1+B1 b j
 else if En w j.2.1=true then (yu w j.2.1).1.2.2.2.2.length+3 else 1
theorem IZ {b:wY} (h:y9 b) {p:xE} (hp:z8 p=true) (hk:(p.1 != 162)=true):FW b p=true/\(z7 b p).2.1=(Bc b p).2/\(z7 b p).1=(Bc b p).1/\(Bc b p).2.1=162/\(Bc b p).2.2.1=p.2.1:=by
 have e:FW b p=true:=by unfold FW;rw[h.ok,hp,hk];rfl
 have e1:(Co b p).2.1=162/\(Co b p).2.2.1=p.2.1:=by
  unfold Co;cases (p.1==160)<;>cases (p.1==161)<;>cases (p.1==165)<;>exact⟨rfl,rfl⟩
 have e2:(DX b p).2.1=162/\(DX b p).2.2.1=p.2.1:=by
  unfold DX;split<;>exact⟨rfl,rfl⟩
 refine⟨e,?_,?_,?_⟩
 · unfold z7;rw[e,cT]
 · unfold z7;rw[e,cT]
 · unfold Bc;cases yN (Co b p).2 with
   | true=>exact e1
   | false=>exact e2
theorem Se (p:xE):(Ce p).1=162/\(Ce p).2.1=p.2.1:=by
 unfold Ce;cases yN (162,p.2.1,6,1,p.2.2.2.2)<;>exact⟨rfl,rfl⟩
theorem Oc {j:xH} (h:EH j):j.2.2.1=0\/j.2.2.1=1\/j.2.2.1=2:=by
 obtain⟨h1,h2⟩:=ye h.ph;omega
theorem U6 {w:List UInt8} {b:wY} {j:xH} (h:j.2.2.1=1):Aq w b j=(jP j).2.2.2.2.length-(AO j).toNat+1+B1 b j:=by unfold Aq;rw[if_neg (by omega),if_pos h]
theorem XG {w:List UInt8} {b:wY} {j:xH} (h:j.2.2.1=2):Aq w b j=B1 b j:=by unfold Aq;rw[if_pos h]
def We (w:List UInt8) (b b':wY) (j:xH):Wd->Prop
 | .stay j'=>b'=b/\EH j'/\j'.1=j.1/\Aq w b j'+1=Aq w b j/\Bd w j'=Bd w j
 | .gone d=>y9 b'/\Aq w b j=1/\(Bd w j=false->d=[])/\(Bd w j=true->∃p,d=[(j.1,p)]/\p.1=162)
theorem UP (w:List UInt8) {b:wY} (hb:y9 b) {j:xH} (h:EH j):We w b (B0 w b j).1 j (B0 w b j).2:=by
 obtain⟨m1,_,m3,m4⟩:=Tl w h.byt h.len;obtain⟨t1,t2⟩:=ye h.tr;obtain⟨a1,a2⟩:=ye h.at';rcases Oc h with hp|hp|hp
 ·
   have hne2:¬j.2.2.1=2:=by omega
   have hne1:¬j.2.2.1=1:=by omega
   unfold B0;rw[show (j.2.2.1==0)=true by rw[hp];rfl,cT];have hgood:∀q,En w j.2.1=q->Bd w j=q:=by
    intro q hq;unfold Bd;rw[hq,dF (by omega),Bool.or_false]
   have hneed:En w j.2.1=false->Aq w b j=1:=by
    intro hq;unfold Aq;rw[if_neg hne2,if_neg hne1,if_neg (by rw[hq];simp)]
   cases h3:((yu w j.2.1).2==3)with
   | true =>
    have hg:En w j.2.1=false:=by
     unfold En;simp only[beq_iff_eq]at h3;rw[h3];rfl
    exact⟨Tm hb,hneed hg,λ_=>rfl,λha=>by rw[hgood _ hg]at ha;cases ha⟩
   | false =>
    cases h4:((yu w j.2.1).2 != 0||((yu w j.2.1).1.1==162))with
    | true =>
     have hg:En w j.2.1=false:=by
      unfold En;rw[bne]at h4 ⊢;cases e1:((yu w j.2.1).2==0)<;>cases e2:((yu w j.2.1).1.1==162)<;>simp[e1,e2]at h4 ⊢
     exact⟨Sd hb,hneed hg,λ_=>rfl,λha=>by rw[hgood _ hg]at ha;cases ha⟩
    | false =>
     simp only[Bool.or_eq_false_iff]at h4;have h0:(yu w j.2.1).2=0:=by simpa using h4.1
     have hk:((yu w j.2.1).1.1 != 162)=true:=by rw[bne,h4.2];rfl
     have hg:En w j.2.1=true:=by unfold En;rw[h0,hk];rfl
     refine⟨rfl,⟨h.byt,h.len,rfl,?_,h.tr,.inr ⟨m4 h0,hk,hb⟩,m3,hb.w,hb.le⟩,rfl,?_,?_⟩
     · unfold xe;rw[dT (by show (0:Int)<=0;omega),dT (by show (0:Int)<=_;omega)];rfl
     · have e1:Aq w b j=(yu w j.2.1).1.2.2.2.2.length+3:=by unfold Aq;rw[if_neg hne2,if_neg hne1,if_pos hg]
       rw[e1];show Aq w b (AZ j.1 j.2.1 1 (yu w j.2.1).1 b 0 (xT j))+1=_
       rw[U6 rfl];have e2:B1 b (AZ j.1 j.2.1 1 (yu w j.2.1).1 b 0 (xT j))=1:=by
        unfold B1;rw[if_neg (λhh=>hh.2.1 rfl)]
       rw[e2];show (yu w j.2.1).1.2.2.2.2.length-(0:Int).toNat+1+1+1=_
       simp
     · rw[hgood _ hg];unfold Bd;rw[show decide ((AZ j.1 j.2.1 1 (yu w j.2.1).1 b 0 (xT j)).2.2.1>0)=true from rfl,Bool.or_true]
 ·
   have hok:=h.ok.resolve_left (by rw[hp];simp);unfold B0;rw[show (j.2.2.1==0)=false by rw[hp];rfl,show (j.2.2.1==2)=false by rw[hp];rfl,cF,cF];have hn:Aq w b j=(jP j).2.2.2.2.length-(AO j).toNat+1+B1 b j:=by unfold Aq;rw[if_neg (by omega),if_pos hp]
   have ha:Bd w j=true:=by unfold Bd;rw[dT (show j.2.2.1>0 by omega),Bool.or_true]
   by_cases hlt:AO j<((jP j).2.2.2.2.length:Int)
   · have hw1:wZ (AO j+1)=AO j+1:=xN (by omega) (by
      have:=h.pl.1;have:(jP j).2.2.2.2.length<=1048576:=this
      omega)
     rw[dT hlt,cT,hw1];refine⟨rfl,⟨h.byt,h.len,h.ph,?_,h.tr,.inr hok,h.pl,h.bw,h.bl⟩,rfl,?_,?_⟩
     · show xe (AO j+1) 0 ((jP j).2.2.2.2.length:Int)=true;unfold xe;rw[dT (by omega),dT (by omega)];rfl
     · rw[hn];show Aq w b (AZ j.1 j.2.1 j.2.2.1 (jP j) (jB j) (AO j+1) (xT j))+1=_
       unfold Aq;rw[show (AZ j.1 j.2.1 j.2.2.1 (jP j) (jB j) (AO j+1) (xT j)).2.2.1=1 from hp,if_neg (by omega),if_pos rfl];have e2:B1 b (AZ j.1 j.2.1 j.2.2.1 (jP j) (jB j) (AO j+1) (xT j))=B1 b j:=rfl
       rw[e2];show (jP j).2.2.2.2.length-(AO j+1).toNat+1+B1 b j+1=_
       omega
     · rw[ha];unfold Bd;rw[show decide ((AZ j.1 j.2.1 j.2.2.1 (jP j) (jB j) (AO j+1) (xT j)).2.2.1>0)=true from dT (by show j.2.2.1>0;omega),Bool.or_true]
   · rw[dF hlt,cF];refine⟨rfl,⟨h.byt,h.len,rfl,h.at',h.tr,.inr hok,h.pl,h.bw,h.bl⟩,rfl,?_,?_⟩
     · rw[hn];show Aq w b (AZ j.1 j.2.1 2 (jP j) (jB j) (AO j) (xT j))+1=_
       rw[XG rfl];have e2:B1 b (AZ j.1 j.2.1 2 (jP j) (jB j) (AO j) (xT j))=B1 b j:=rfl
       rw[e2];omega
     · rw[ha];unfold Bd;rw[show decide ((AZ j.1 j.2.1 2 (jP j) (jB j) (AO j) (xT j)).2.2.1>0)=true from rfl,Bool.or_true]
 ·
   obtain⟨hpp,hk,hB⟩:=h.ok.resolve_left (by rw[hp];simp);unfold B0;rw[show (j.2.2.1==0)=false by rw[hp];rfl,show (j.2.2.1==2)=true by rw[hp];rfl,cF,cT];have hn:Aq w b j=B1 b j:=by unfold Aq;rw[if_pos hp]
   have ha:Bd w j=true:=by unfold Bd;rw[dT (show j.2.2.1>0 by omega),Bool.or_true]
   cases h163:(j.2.2.2.1 != 163)with
   | true =>
    obtain⟨_,d2,_,d4,_⟩:=IZ hB hpp hk;refine⟨hb,?_,(λhf=>by rw[ha]at hf;cases hf),λ_=>⟨_,rfl,by rw[d2];exact d4⟩⟩;rw[hn];unfold B1;rw[if_neg (λhh=>by have e:j.2.2.2.1=163:=hh.1;rw[e]at h163;cases h163)]
   | false =>
    have e163:(jP j).1=163:=by
     have:¬j.2.2.2.1≠163:=by simpa using h163
     exact Classical.not_not.1 this
    cases hv:(b.2.2.2.2.2.2.2.2.2.2==(jB j).2.2.2.2.2.2.2.2.2.2)with
    | true =>
     obtain⟨_,d2,_,d4,_⟩:=IZ hb hpp hk;refine⟨Lv hb _,?_,(λhf=>by rw[ha]at hf;cases hf),λ_=>⟨_,rfl,by rw[d2];exact d4⟩⟩;rw[hn];unfold B1;rw[if_neg (λhh=>hh.2.1 (by simpa using hv))]
    | false =>
     by_cases ht:xT j>=3
     · rw[dT ht];refine⟨hb,?_,(λhf=>by rw[ha]at hf;cases hf),λ_=>⟨_,rfl,(Se _).1⟩⟩;rw[hn];unfold B1;rw[if_neg (λhh=>by have:=hh.2.2;omega)]
     · rw[dF ht,xN (by omega) (by omega)];refine⟨rfl,⟨h.byt,h.len,rfl,?_,?_,.inr ⟨hpp,hk,hb⟩,h.pl,hb.w,hb.le⟩,rfl,?_,?_⟩
       · show xe 0 0 ((jP j).2.2.2.2.length:Int)=true;unfold xe;rw[dT (by omega),dT (by omega)];rfl
       · show xe (xT j+1) 0 3=true;unfold xe;rw[dT (by omega),dT (by omega)];rfl
       · rw[hn];have e1:B1 b j=(jP j).2.2.2.2.length+3:=by
          unfold B1;rw[if_pos ⟨e163,by simpa using hv,by omega⟩]
         rw[e1];show Aq w b (AZ j.1 j.2.1 1 (jP j) b 0 (xT j+1))+1=_
         rw[U6 rfl];have e2:B1 b (AZ j.1 j.2.1 1 (jP j) b 0 (xT j+1))=1:=by
          unfold B1;rw[if_neg (λhh=>hh.2.1 rfl)]
         rw[e2];show (jP j).2.2.2.2.length-(0:Int).toNat+1+1+1=_
         simp
       · rw[ha];unfold Bd;rw[show decide ((AZ j.1 j.2.1 1 (jP j) b 0 (xT j+1)).2.2.1>0)=true from rfl,Bool.or_true]

theorem QP {a:xk} (h:A2 a) {k:Nat} (hk:k<(x8 a).length) :
 (∃j',Cf a k (x8 a)[k]=(yR (aB a) (aW a) ((x8 a).set k j') (zH a) (xK a),[])/\EH j'/\j'.1=(x8 a)[k].1/\Aq (aW a) (aB a) j'+1=Aq (aW a) (aB a) (x8 a)[k]/\Bd (aW a) j'=Bd (aW a) (x8 a)[k]) \/
 (∃b' d,Cf a k (x8 a)[k]=(yR b' (aW a) ((x8 a).eraseIdx k) (zH a) (xK a),d)/\y9 b'/\Aq (aW a) (aB a) (x8 a)[k]=1/\(Bd (aW a) (x8 a)[k]=false->d=[])/\(Bd (aW a) (x8 a)[k]=true->∃p,d=[((x8 a)[k].1,p)]/\p.1=162)):=by
 have hs:=UP (aW a) h.b (h.j _ (getElem_mem hk));unfold Cf;cases hf:(B0 (aW a) (aB a) (x8 a)[k]).2 with
 | stay j' =>
  rw[hf]at hs;obtain⟨k1,k2,k3,k4,k5⟩:=hs;exact .inl ⟨j',by simp only[k1],k2,k3,k4,k5⟩
 | gone d =>
  rw[hf]at hs;obtain⟨k1,k2,k3,k4⟩:=hs;exact .inr ⟨_,d,rfl,k1,k2,k3,k4⟩
theorem UQ {a:xk} (h:A2 a) {k:Nat} (hk:k<(x8 a).length) {j':xH} (hj:EH j') (hi:j'.1=(x8 a)[k].1):A2 (yR (aB a) (aW a) ((x8 a).set k j') (zH a) (xK a)):=by
 have hm:∀x∈(x8 a).set k j',x∈x8 a\/x=j':=λx hx=>List.mem_or_eq_of_mem_set hx;have hmap:((x8 a).set k j').map (λj=>j.1)=(x8 a).map (λj=>j.1):=by
  rw[List.map_set,hi];apply List.ext_getElem
  · simp
  · intro i h1 h2;rw[List.getElem_set];split
    · rename_i e;subst e;simp
    · rfl
 refine⟨h.b,h.w,?_,h.lo,h.la,λj hj'=>?_,?_,λj hj'=>?_⟩
 · show ((x8 a).set k j').length<=6;rw[length_set];exact h.n
 · rcases hm j hj' with hj'|rfl
   · exact h.ids j hj'
   · show xe j.1 1 (xK a)=true;rw[hi];exact h.ids _ (getElem_mem hk)
 · have:=h.up;show ((x8 a).set k j').Pairwise λi j=>i.1<j.1
   rw[←List.pairwise_map (f:=λj:xH=>j.1) (R:=λx y=>x<y)]at this ⊢;rw[hmap];exact this
 · rcases hm j hj' with hj'|rfl
   · exact h.j j hj'
   · exact hj
theorem Tp {a:xk} (h:A2 a) (k:Nat) {b':wY} (hb:y9 b'):A2 (yR b' (aW a) ((x8 a).eraseIdx k) (zH a) (xK a)):=by
 have hs:((x8 a).eraseIdx k).Sublist (x8 a):=List.eraseIdx_sublist _ _;refine⟨hb,h.w,Nat.le_trans hs.length_le h.n,h.lo,h.la,λj hj=>h.ids j (hs.subset hj),h.up.sublist hs,λj hj=>h.j j (hs.subset hj)⟩
theorem Tq {a:xk} (h:A2 a) {k:Nat} (hk:k<(x8 a).length):A2 (Cf a k (x8 a)[k]).1/\(Cf a k (x8 a)[k]).2.length<=1:=by
 rcases QP h hk with ⟨j',e,k1,k2,_⟩|⟨b',d,e,k1,_,k3,k4⟩
 · rw[e];exact⟨UQ h hk k1 k2,by simp⟩
 · rw[e];refine⟨Tp h k k1,?_⟩;cases ha:Bd (aW a) (x8 a)[k]with
   | false=>rw[k3 ha];simp
   | true=>obtain⟨p,rfl,_⟩:=k4 ha;simp
theorem U7 {a:xk} (h:A2 a) {k:Nat} (hk:k<(x8 a).length):eS a (k:Int)=some (Cf a k (x8 a)[k]) :=
 XF h.b.w h.ale hk (h.j _ (getElem_mem hk)).jwf (h.j _ (getElem_mem hk)).byt
def Od (w:List UInt8):List Int:=yo 2 (yS 1)++yo 4 (Bz w)
theorem PP {p:xE} (hx:∀x∈p.2.2.2.2,C4 x=true) (hn:p.2.2.2.2.length<=10) (hi:xe p.2.1 (-2147483648) 2147483647=true)
 (hk:(cond (p.1==162||p.1==165) (xe p.2.2.1 0 1000&&xe p.2.2.2.1 0 1000) (cond (p.1==160||(p.1==161||p.1==163)) (p.2.2.1==0&&p.2.2.2.1==0) false))=true):z8 p=true:=by
 unfold z8;have h1:(List.range p.2.2.2.2.length).any (bX p.2.2.2.2)=false:=by
  rw[any_eq_false];intro k hk';have hk':=mem_range.1 hk'
  unfold bX;simp only[List.getElem?_eq_getElem hk',hx _ (getElem_mem hk')];simp
 rw[h1,dT (by omega),hk,hi];rfl

theorem UR {i:Int} (hi:-2147483648<=i/\i<=2147483647):yN (162,i,7,0,[])=true:=by
 have hp:z8 (162,i,7,0,[])=true:=PP (by intro x hx;cases hx) (Nat.zero_le _) (Dy hi.1 hi.2) rfl;have t1:=zD 2 (body:=yS i)
 have t2:=zD 2 (body:=yS 7);have t3:=zD 2 (body:=yS 0)
 have t4:=zD 48 (body:=[]);have i1:=Bp i
 have i2:=Bp 7;have i3:=Bp 0
 have hb:(AI (162,i,7,0,[])).length<=30:=by
  unfold AI;show (yo 2 (yS i)++yo 2 (yS 7)++yo 2 (yS 0)++yo 48 []).length<=30
  simp only[length_append];simp only[List.length_nil]at t4;omega
 have ht:=zD 162 (body:=AI (162,i,7,0,[]));have hpos:=Kf 162 (AI (162,i,7,0,[]))
 unfold yN Kg;rw[if_pos ⟨hp,by show (0:Nat)<=250;omega,by omega⟩];exact Dy (by show (1:Int)<=((yo 162 (AI (162,i,7,0,[]))).length:Int);omega) (by show ((yo 162 (AI (162,i,7,0,[]))).length:Int)<=120;omega)
theorem Sg {b:wY} {p:xE} (hp:z8 p=true):yN (Bc b p).2=true:=by
 have hi:=(Ao hp).2.2.2.1;unfold Bc;cases hf:yN (Co b p).2 with
 | true=>exact hf
 | false =>
  rw[cF];unfold DX;split
  · rename_i t ht;cases h5:(p.1==165)with
    | false=>rw[h5]at ht;cases ht
    | true =>
     rw[h5]at ht;exact (Ob ht).1
  · exact UR hi
def Ts (id:Int) (m:List Int):xH:=(id,m,0,0,0,0,0,[],0,[],[],[],[],[],0,0,0,0,0,0,0)
theorem Tt (id:Int) {m:List Int} (hb:A3 m) (hn:m.length<=M):EH (Ts id m):=by
 have h0:(0:Nat)<=M:=by decide
 refine⟨hb,hn,rfl,rfl,rfl,.inl rfl,⟨h0,λx hx=>by cases hx⟩,⟨by show 0<9223372036854775807;decide,by show 0<9223372036854775807;decide,by show 0<9223372036854775807;decide,by show 0<9223372036854775807;decide,λr hr=>by cases hr⟩,⟨h0,h0,h0,h0,h0⟩⟩
theorem US {a:xk} (h:A2 a) {m:List Int} (hn:m.length<=M) (h6:(x8 a).length<6) (hl:xK a<1000000):bh a m=some (yR (aB a) (aW a) (x8 a++[Ts (xK a+1) m]) (zH a) (xK a+1)):=by
 have hla:=ye h.la;have e1:decide ((a.2.2.2.2.2.2.2.2.2.2.2.2.1.length:Int)>=6)=false:=dF (by show ¬((x8 a).length:Int)>=6;omega)
 have e2:decide (a.2.2.2.2.2.2.2.2.2.2.2.2.2.2>=1000000)=false:=dF (by show ¬xK a>=1000000;omega);have e3:wZ (a.2.2.2.2.2.2.2.2.2.2.2.2.2.2+1)=xK a+1:=xN (by show -9223372036854775808<=xK a+1;omega) (by show xK a+1<=_;omega)
 unfold bh;rw[Dz h.ale,wX,J9 h.awf,wX,h.ok,Bool.not_true,cF,e1,cF,e2,wX,cF,CG hn,wX,e3];rw[xh (by show (x8 a).length+1<=_;omega),wX];rfl
theorem UT {a:xk} (h:A2 a) {m:List Int} (hf:¬((x8 a).length<6/\xK a<1000000)):bh a m=some (yR (aB a) (aW a) (x8 a) (Bt (zH a)) (xK a)):=by
 unfold bh;rw[Dz h.ale,wX,J9 h.awf,wX,h.ok,Bool.not_true,cF];have key:(cond (decide ((a.2.2.2.2.2.2.2.2.2.2.2.2.1.length:Int)>=6)) (some true) (some (decide (a.2.2.2.2.2.2.2.2.2.2.2.2.2.2>=1000000))))=some true:=by
  by_cases h6:(x8 a).length<6
  · have h7:¬xK a<1000000:=λh7=>hf ⟨h6,h7⟩;rw[dF (by show ¬((x8 a).length:Int)>=6;omega),cF,dT (by show xK a>=1000000;omega)]
  · rw[dT (by show ((x8 a).length:Int)>=6;omega),cT]
 rw[key,wX,cT,Dd,wX];rfl
theorem QQ {a:xk} (h:A2 a) {m:List Int} (hb:A3 m) (hn:m.length<=M) (h6:(x8 a).length<6) (hl:xK a<1000000):A2 (yR (aB a) (aW a) (x8 a++[Ts (xK a+1) m]) (zH a) (xK a+1)):=by
 have hla:=ye h.la;refine⟨h.b,h.w,?_,h.lo,?_,λj hj=>?_,?_,λj hj=>?_⟩
 · show (x8 a++[_]).length<=6;rw[length_append];show (x8 a).length+1<=6;omega
 · exact Dy (by show 0<=xK a+1;omega) (by show xK a+1<=1000000;omega)
 · rcases mem_append.1 hj with hj|hj
   · obtain⟨k1,k2⟩:=ye (h.ids j hj);exact Dy k1 (by show j.1<=xK a+1;omega)
   · rw[mem_singleton]at hj;subst hj;exact Dy (by show 1<=xK a+1;omega) (by show xK a+1<=xK a+1;omega)
 · show (x8 a++[_]).Pairwise λi j:xH=>i.1<j.1;refine pairwise_append.2 ⟨h.up,List.pairwise_singleton _ _,λx hx y hy=>?_⟩;rw[mem_singleton]at hy;subst hy;have:=(ye (h.ids x hx)).2
   show x.1<xK a+1;omega
 · rcases mem_append.1 hj with hj|hj
   · exact h.j j hj
   · rw[mem_singleton]at hj;subst hj;exact Tt _ hb hn
theorem Tu {a:xk} (h:A2 a):A2 (yR (aB a) (aW a) (x8 a) (Bt (zH a)) (xK a)):=⟨h.b,h.w,h.n,Du h.lo,h.la,h.ids,h.up,h.j⟩
structure QR (p:xE):Prop where
 k:p.1=160\/p.1=161\/p.1=163\/p.1=165
 i:0<=p.2.1/\p.2.1<100
 ab:(p.1=165/\(0<=p.2.2.1/\p.2.2.1<=1000)/\(0<=p.2.2.2.1/\p.2.2.2.1<=1000))\/(p.1≠165/\p.2.2.1=0/\p.2.2.2.1=0)
 n:p.2.2.2.2.length<=3
 s:∀x∈p.2.2.2.2,Xm x
 o:p.1≠163->∀x∈p.2.2.2.2,C4 x=true
theorem QR.le {p:xE} (h:QR p):zz M p:=⟨by have:=h.n;show _<=1048576;omega,λx hx=>(h.s x hx).le⟩
theorem QR.ok {p:xE} (h:QR p) (hk:p.1≠163):z8 p=true:=by
 have hi:=h.i;refine PP (h.o hk) (by have:=h.n;omega) (Dy (by omega) (by omega)) ?_;rcases h.ab with ⟨e,⟨a1,a2⟩,b1,b2⟩|⟨e,a1,b1⟩
 · rw[e,Dy a1 a2,Dy b1 b2];rfl
 · rw[a1,b1];rcases h.k with k|k|k|k
   · rw[k];rfl
   · rw[k];rfl
   · exact absurd k hk
   · exact absurd k e
def zp (e:xa):Option xa:=cond e.2.2.2.2 (some e) (cond (decide (e.2.2.2.1>=4)) none (some (e.1,e.2.1,e.2.2.1,wZ (e.2.2.2.1+1),e.2.2.2.2)))
theorem YI {l:List xa} (hn:l.length<=1000):gG l=some (l.filterMap zp):=by
 unfold gG;obtain⟨v,e1,rfl⟩:=xG (step:=λz:Int×List xa=>cD l z.1 z.2) (λk z=>z=((k:Int),(l.take k).filterMap zp)) l.length (λv=>v=l.filterMap zp)
  (λk z hk e=>by
   subst e;refine .inl ⟨_,?_,rfl⟩;have hfl:((l.take k).filterMap zp).length<=k:=Nat.le_trans (List.length_filterMap_le _ _) (by rw[length_take];omega)
   have t1:l.take (k+1)=l.take k++[l[k]]:=by rw[take_add_one,List.getElem?_eq_getElem hk];rfl
   have t2:(l.take (k+1)).filterMap zp=(l.take k).filterMap zp++(match zp l[k]with|some y=>[y]|none=>[]):=by
    rw[t1,List.filterMap_append]
    congr 1
    cases hq:zp l[k]with
    | none=>rw[List.filterMap_cons_none hq];rfl
    | some y=>rw[List.filterMap_cons_some hq];rfl
   have ha:∀y:xa,app ((l.take k).filterMap zp) [y]=some ((l.take k).filterMap zp++[y]):=λy=>xh (by show _+1<=_;omega);show cD l (k:Int) _=_
   unfold cD;rw[xI (by omega),cT,xo hk,wX,xj (by omega),t2];cases hs:l[k].2.2.2.2 with
   | true =>
    have hq:zp l[k]=some l[k]:=by unfold zp;rw[hs];rfl
    rw[hq];simp only[Bool.not_true,cF,cT,ha,wX]
   | false =>
    simp only[Bool.not_false,cT,cF];cases h4:decide (l[k].2.2.2.1>=4)with
    | true =>
     have hq:zp l[k]=none:=by unfold zp;rw[hs,h4];rfl
     rw[hq];simp only[cT,append_nil]
    | false =>
     have hq:zp l[k]=some (l[k].1,l[k].2.1,l[k].2.2.1,wZ (l[k].2.2.2.1+1),false):=by unfold zp;rw[hs,h4];rfl
     rw[hq];simp only[cF,ha,wX])
  (λz e=>by
   subst e;refine⟨_,?_,rfl⟩;show cD l (l.length:Int) _=_
   unfold cD;rw[xu (by omega),cF,take_length]) (x:=(0,[])) rfl
 have e1:loop (λz=>cD l z.1 z.2) (0,[])=some (l.filterMap zp):=e1;rw[e1,wX]
theorem Ki {e y:xa} (h:Ct e=true) (hy:zp e=some y):Ct y=true/\y.1=e.1/\y.2.1=e.2.1:=by
 unfold zp at hy;cases hs:e.2.2.2.2 with
 | true=>rw[hs,cT]at hy;cases hy;exact⟨h,rfl,rfl⟩
 | false =>
  rw[hs,cF]at hy;by_cases h4:e.2.2.2.1>=4
  · rw[dT h4,cT]at hy;cases hy
  · rw[dF h4,cF]at hy;cases hy;unfold Ct at h ⊢;simp only[aT]at h;obtain⟨f1,f2,f3,f4,f5⟩:=h;obtain⟨g1,g2⟩:=ye f4;refine⟨?_,rfl,rfl⟩;show (xe e.1 1 99&&(xe e.2.1 1 9999&&(xe e.2.2.1 0 7&&(xe (wZ (e.2.2.2.1+1)) 0 4&&(!false||_)))))=true
    rw[f1,f2,f3,xN (by omega) (by omega),Dy (by omega) (by omega)];rfl
theorem Wf {l:List xa} (h:FB l):FB (l.filterMap zp):=by
 refine⟨λx hx=>?_,?_,Nat.le_trans (List.length_filterMap_le _ _) h.n⟩
 · obtain⟨e,he,hy⟩:=List.mem_filterMap.1 hx;exact (Ki (h.e e he) hy).1
 · refine List.pairwise_filterMap.2 ?_;refine List.Pairwise.imp_of_mem ?_ h.o;intro a b ha hb hab x hx y hy;obtain⟨_,a1,a2⟩:=Ki (h.e a ha) hx;obtain⟨_,b1,b2⟩:=Ki (h.e b hb) hy;unfold lt at hab ⊢;rw[a1,a2,b1,b2];exact hab
def Na (b:wY):wY:=(b.1,b.2.1,b.2.2.1,b.2.2.2.1.filterMap zp,b.2.2.2.2.1,b.2.2.2.2.2.1,Bt b.2.2.2.2.2.2.1,b.2.2.2.2.2.2.2.1,b.2.2.2.2.2.2.2.2.1,b.2.2.2.2.2.2.2.2.2.1,b.2.2.2.2.2.2.2.2.2.2)
noncomputable def BT (b:wY):wY:=(aG b).getD b
noncomputable def Eo (b:wY):wY:=BT (Na b)
theorem QS {b:wY} (h:B6 b) (hv:AJ (b.2.2.2.2.1,b.2.2.2.2.2.1) (b.2.2.1.length:Int)=true):aG b=some (BT b)/\y9 (BT b)/\(BT b).1=b.1/\(BT b).2.1=b.2.1/\(BT b).2.2.1=b.2.2.1/\(BT b).2.2.2.2.2.2.1=b.2.2.2.2.2.2.1/\(BT b).2.2.2.2.2.2.2.1=b.2.2.2.2.2.2.2.1/\(BT b).2.2.2.2.2.2.2.2.1=b.2.2.2.2.2.2.2.2.1/\(BT b).2.2.2.2.2.2.2.2.2.1=b.2.2.2.2.2.2.2.2.2.1/\(BT b).2.2.2.2.2.2.2.2.2.2=Bt b.2.2.2.2.2.2.2.2.2.2:=by
 obtain⟨r,r1,r2,r3,r4,r5,r6,q1,q2,q3,q4,q5,q6,q7⟩:=Us h;have e:BT b=r:=by unfold BT;rw[r1];rfl
 rw[e];have hok:xQ r=true:=r3.ok (by rw[r4,r5,r6];exact hv)
 refine⟨r1,Dx (Hw r3 r3.le) hok,q1,q2,r4,q3,q4,q5,q6,?_⟩;rw[Dd]at q7;exact (Option.some.inj q7).symm
theorem Oe {b:wY} (h:y9 b):B6 (Na b):=by
 have s:=h.sok;refine⟨s.id,s.name,s.n1,s.n6,s.p,(Wf (Id s.f)).ok,?_,s.q,s.v,s.s,s.i,s.h⟩;obtain⟨h1,h2,h3,h4,h5⟩:=Ap (BM h.ok).1;unfold zI;simp only[aT];exact⟨Du h1,h2,h3,h4,h5⟩
theorem QT {b:wY} (h:y9 b):bI b=some (Eo b)/\y9 (Eo b)/\(Eo b).2.1=b.2.1/\(Eo b).2.2.2.2.2.2.2.1=b.2.2.2.2.2.2.2.1/\(Eo b).2.2.2.2.2.2.2.2.1=b.2.2.2.2.2.2.2.2.1/\(Eo b).2.2.2.2.2.2.2.2.2.2=Bt b.2.2.2.2.2.2.2.2.2.2:=by
 obtain⟨t1,t2,t3,t4,t5,t6,t7,t8,t9,t10⟩:=QS (Oe h) h.v;have hf:=Id h.f
 unfold bI;rw[yn h.le,wX,By h.w,wX,h.ok,cT,Dd,wX,YI (by have:=hf.n;omega),wX];have t1':aG (b.1,b.2.1,b.2.2.1,b.2.2.2.1.filterMap zp,b.2.2.2.2.1,b.2.2.2.2.2.1,Bt b.2.2.2.2.2.2.1,b.2.2.2.2.2.2.2.1,b.2.2.2.2.2.2.2.2.1,b.2.2.2.2.2.2.2.2.2.1,b.2.2.2.2.2.2.2.2.2.2)=some (BT (Na b)):=t1
 rw[t1',wX];exact⟨rfl,t2,t4,t7,t8,t10⟩

theorem xP {α β:Type} {o:Option α} {a:α} {k:α->Option β} {r:Option β} (h:o=some a) (hk:k a=r):o.bind k=r:=by rw[h];exact hk
theorem Ec {b:wY} (h:y9 b) (p:Int):bo b p=some (xe p 0 ((b.2.2.1.length:Int)-1)):=by
 have hn:=h.n6;unfold bo;rw[By h.w,wX,h.ok,cT,xN (by omega) (by omega),Ad];rfl
theorem I0 {b:wY} (s:B6 b) {P:List Pt} (hl:P.length=b.2.2.1.length) (hp:∀x∈P,Cr x=true):B6 (b.1,b.2.1,P,b.2.2.2.1,b.2.2.2.2.1,b.2.2.2.2.2.1,b.2.2.2.2.2.2.1,b.2.2.2.2.2.2.2.1,b.2.2.2.2.2.2.2.2.1,b.2.2.2.2.2.2.2.2.2.1,b.2.2.2.2.2.2.2.2.2.2) :=
 ⟨s.id,s.name,by show 1<=P.length;rw[hl];exact s.n1,by show P.length<=6;rw[hl];exact s.n6,hp,s.f,s.c,by show b.2.2.2.2.2.1.length=P.length;rw[hl];exact s.q,s.v,s.s,s.i,s.h⟩
theorem EX {P:List Pt} {k:Nat} {q:Pt} (h:∀x∈P,Cr x=true) (hq:Cr q=true):∀x∈P.set k q,Cr x=true:=λx hx=>by
 rcases List.mem_or_eq_of_mem_set hx with hx|rfl
 · exact h x hx
 · exact hq
theorem U8 {b:wY} (h:y9 b) (p:Int) (up:Bool):∃r,bH b p up=some r/\y9 r:=by
 have hn:=h.n6;have s:=h.sok
 unfold bH;rw[yn h.le,wX,Ec h,wX];cases hp:xe p 0 ((b.2.2.1.length:Int)-1)with
 | false=>exact⟨b,rfl,h⟩
 | true =>
  obtain⟨p0,p1⟩:=ye hp;obtain⟨k,rfl⟩:∃k:Nat,p=(k:Int):=⟨p.toNat,by omega⟩;have hk:k<b.2.2.1.length:=by omega
  have hq:Cr (up,b.2.2.1[k].2.1,false,0,0,0,0,0)=true:=by
   have:=h.p _ (getElem_mem hk);unfold Cr at this ⊢;simp only[aT]at this;rw[this.1];rfl
  have s':=I0 s (P:=b.2.2.1.set k (up,b.2.2.1[k].2.1,false,0,0,0,0,0)) (by rw[length_set]) (EX h.p hq);obtain⟨t1,t2,_⟩:=QS s' (by show AJ (b.2.2.2.2.1,b.2.2.2.2.2.1) ((b.2.2.1.set k _).length:Int)=true;rw[length_set];exact h.v);rw[cT,xo hk,wX,yE hk,wX,List.getElem?_eq_getElem hk,wX];exact⟨_,xP t1 rfl,t2⟩
theorem U9 {b:wY} (h:y9 b) (p:Int) (v:BR):∃r,bG b p v=some r/\y9 r:=by
 have hn:=h.n6;have s:=h.sok
 unfold bG;rw[yn h.le,wX,Ec h,wX];cases hp:xe p 0 ((b.2.2.1.length:Int)-1)with
 | false=>exact⟨b,rfl,h⟩
 | true =>
  obtain⟨p0,p1⟩:=ye hp;obtain⟨k,rfl⟩:∃k:Nat,p=(k:Int):=⟨p.toNat,by omega⟩;have hk:k<b.2.2.1.length:=by omega
  rw[cT,xo hk,wX,wX];cases hu:b.2.2.1[k].1 with
  | false=>exact⟨b,rfl,h⟩
  | true =>
   rw[cT,OB,wX,wX];cases hv:I2 v with
   | false=>exact⟨b,rfl,h⟩
   | true =>
    have hq:Cr (b.2.2.1[k].1,b.2.2.1[k].2.1,true,v.1,v.2.1,v.2.2.1,v.2.2.2.1,v.2.2.2.2)=true:=by
     have:=h.p _ (getElem_mem hk);unfold Cr at this ⊢;simp only[aT]at this;rw[this.1,hu];have hv':I2 (v.1,v.2.1,v.2.2.1,v.2.2.2.1,v.2.2.2.2)=true:=hv
     simp[hv']
    have s':=I0 s (P:=b.2.2.1.set k (b.2.2.1[k].1,b.2.2.1[k].2.1,true,v.1,v.2.1,v.2.2.1,v.2.2.2.1,v.2.2.2.2)) (by rw[length_set]) (EX h.p hq);obtain⟨t1,t2,_⟩:=QS s' (by show AJ (b.2.2.2.2.1,b.2.2.2.2.2.1) ((b.2.2.1.set k _).length:Int)=true;rw[length_set];exact h.v);rw[cT,yE hk,wX,List.getElem?_eq_getElem hk,wX,length_set,yE hk,wX,List.getElem?_set_self hk,wX,set_set];exact⟨_,xP t1 rfl,t2⟩

theorem J0 {x:xa} {t m:Int} (h:zl x t m=true):t<x.1\/(t=x.1/\m<x.2.1):=by
 unfold zl at h;simp only[Bool.or_eq_true,aT,decide_eq_true_eq,beq_iff_eq]at h;rcases h with h|⟨h1,h2⟩
 · exact .inl h
 · exact .inr ⟨h1.symm,h2⟩
theorem Lw {x:xa} {t m:Int} (h:zl x t m=false) (hs:¬(x.1=t/\x.2.1=m)):x.1<t\/(x.1=t/\x.2.1<m):=by
 have h':¬(x.1>t\/(x.1=t/\x.2.1>m)):=by
  intro hc;have:zl x t m=true:=by
   unfold zl;simp only[Bool.or_eq_true,aT,decide_eq_true_eq,beq_iff_eq];exact hc
  rw[this]at h;cases h
 by_cases h1:x.1<t
 · exact .inl h1
 · have e:x.1=t:=by
    have:¬x.1>t:=λhc=>h' (.inl hc);omega
   refine .inr ⟨e,?_⟩;have:¬x.2.1>m:=λhc=>h' (.inr ⟨e,hc⟩)
   have:x.2.1≠m:=λhc=>hs ⟨e,hc⟩;omega
theorem UU {a b c:xa} (h:lt a b) (k:lt b c):lt a c:=by
 unfold lt at *;omega
theorem Cm (l:List xa) (t m:Int):(Fb l t m = -1/\∀x∈l,¬(x.1=t/\x.2.1=m))\/∃k,∃hk:k<l.length,Fb l t m=(k:Int)/\l[k].1=t/\l[k].2.1=m:=by
 unfold Fb;cases h:l.findIdx? (λe=>e.1==t&&e.2.1==m)with
 | none =>
  refine .inl ⟨rfl,λx hx hc=>?_⟩;have:=List.findIdx?_eq_none_iff.1 h x hx
  rw[hc.1,hc.2]at this;simp at this
 | some k =>
  obtain⟨hk,h1,_⟩:=List.findIdx?_eq_some_iff_getElem.1 h;simp only[aT,beq_iff_eq]at h1;exact .inr ⟨k,hk,rfl,h1.1,h1.2⟩
theorem YJ {l:List xa} (h:FB l) {e:xa} (he:Ct e=true):∃y,cC l e=some y/\FB y.1:=by
 have hn:=h.n;have hM:M=1048576:=rfl
 unfold cC;rw[Ef (by omega),wX,G0 (by omega),wX];rcases Cm l e.1 e.2.1 with ⟨h1,h2⟩|⟨k,hk,h1,h2,h3⟩
 · rw[h1,dF (by decide),cF];by_cases h12:(l.length:Int)>=12
   · rw[dT h12,cT];exact⟨_,rfl,h⟩
   · rw[dF h12,cF];obtain⟨d,d1,k,d2,d3,d4,d5⟩:=xG (step:=λz:Int=>aY l e z) (λk z=>z=(k:Int)/\∀x∈l.take k,zl x e.1 e.2.1=false) l.length (λd=>∃k:Nat,d=(k:Int)/\k<=l.length/\(∀x∈l.take k,zl x e.1 e.2.1=false)/\∀hk:k<l.length,zl l[k] e.1 e.2.1=true)
      (λk z hk ⟨e1,e2⟩=>by
       subst e1;have hst:∀q,zl l[k] e.1 e.2.1=q->aY l e (k:Int)=cond (!q) (some (.inl ((k+1:Nat):Int))) (some (.inr (k:Int))):=λq hq=>by
        unfold aY;rw[xI (by omega),cT,xo hk,wX,Me,wX,wX,hq,xj (by omega)]
       cases hq:zl l[k] e.1 e.2.1 with
       | true=>exact .inr ⟨_,hst true hq,k,rfl,by omega,e2,λ_=>hq⟩
       | false =>
        refine .inl ⟨_,hst false hq,rfl,λx hx=>?_⟩;rw[take_add_one,List.getElem?_eq_getElem hk]at hx;rcases mem_append.1 hx with hx|hx
        · exact e2 x hx
        · simp at hx;rw[hx];exact hq)
      (λz ⟨e1,e2⟩=>by
       subst e1;refine⟨_,?_,l.length,rfl,Nat.le_refl _,e2,λhk=>absurd hk (by omega)⟩;show aY l e (l.length:Int)=_
       unfold aY;rw[xu (by omega),cF,wX,cF]) (x:=0) ⟨rfl,by simp⟩
     subst d2;have c1:cut l 0 (k:Int)=some (l.take k):=by
      have:=As (l:=l) (a:=0) (b:=k) (by omega) d3;simpa using this
     have c2:cut l (k:Int) (l.length:Int)=some (l.drop k):=by
      have:=As (l:=l) (a:=k) (b:=l.length) d3 (Nat.le_refl _);rw[take_length]at this;exact this
     have hl1:(l.take k).length<=12:=by rw[length_take];omega
     have hl2:(l.drop k).length<=12:=by rw[length_drop];omega
     refine⟨_,xP d1 (by rw[c1,wX,Ef (by omega),wX,xh (by show (l.take k).length+1<=_;omega),wX,c2,wX,xh (by rw[length_append];show (l.take k).length+1+(l.drop k).length<=_;omega),wX]),?_⟩;refine⟨λx hx=>?_,?_,?_⟩
     · rcases mem_append.1 hx with hx|hx
       · rcases mem_append.1 hx with hx|hx
         · exact h.e x (mem_of_mem_take hx)
         · rw[mem_singleton.1 hx];exact he
       · exact h.e x (mem_of_mem_drop hx)
     · have ho:=h.o;rw[←List.take_append_drop k l]at ho;obtain⟨o1,o2,o3⟩:=pairwise_append.1 ho;have a1:∀x∈l.take k,lt x e:=λx hx=>Lw (d4 x hx) (h2 x (mem_of_mem_take hx))
       have a2:∀y∈l.drop k,lt e y:=λy hy=>by
        obtain⟨j,hj,rfl⟩:=getElem_of_mem hy;rw[length_drop]at hj;have hk:k<l.length:=by omega
        have hb:lt e l[k]:=J0 (d5 hk);rw[List.getElem_drop];rcases Nat.eq_zero_or_pos j with rfl|hj0
        · simpa using hb
        · exact UU hb (pairwise_iff_getElem.1 h.o k (k+j) hk (by omega) (by omega))
       refine pairwise_append.2 ⟨pairwise_append.2 ⟨o1,List.pairwise_singleton _ _,λx hx y hy=>by rw[mem_singleton.1 hy];exact a1 x hx⟩,o2,λx hx y hy=>?_⟩;rcases mem_append.1 hx with hx|hx
       · exact o3 x hx y hy
       · rw[mem_singleton.1 hx];exact a2 y hy
     · simp only[length_append,length_take,length_drop,length_singleton];omega
 · rw[h1,dT (by omega),cT,yE hk,wX,List.getElem?_eq_getElem hk,wX];refine⟨_,rfl,λx hx=>?_,?_,by show (l.set k e).length<=12;rw[length_set];exact hn⟩
   · rcases List.mem_or_eq_of_mem_set hx with hx|rfl
     · exact h.e x hx
     · exact he
   · have ho:=pairwise_iff_getElem.1 h.o;refine pairwise_iff_getElem.2 λi j hi hj hij=>?_;rw[length_set]at hi hj;have:=ho i j hi hj hij
     simp only[List.getElem_set];unfold lt at this ⊢;split<;>split<;>rename_i q1 q2<;>(try subst q1)<;>(try subst q2)<;>omega
theorem Of {l:List xa} (h:FB l) (tag mac port:Int):∃y,dM l tag mac port=some y/\FB y:=by
 have hn:=h.n;have hM:M=1048576:=rfl
 unfold dM;rw[G0 (by omega),wX,TA (by omega),wX,h.ok,Bool.not_true,cF,Nb,wX,wX];have hc:∃y,((bN l).bind λt41=>some t41)=some y/\FB y:=⟨l,by rw[Ef (by omega)];rfl,h⟩
 cases he:Ct (tag,mac,port,0,false)with
 | false=>exact hc
 | true =>
  have hp:∃y,((cC l (tag,mac,port,0,false)).bind λt45=>some t45.1)=some y/\FB y:=by
   obtain⟨y,y1,y2⟩:=YJ h he;exact⟨y.1,by rw[y1];rfl,y2⟩
  rw[Bool.not_true,cF];rcases Cm l tag mac with ⟨h1,_⟩|⟨k,hk,h1,_⟩
  · rw[h1,dF (by decide),cF,wX,wX,cF];exact hp
  · rw[h1,dT (by omega),cT,xo hk,wX,wX,wX];cases l[k].2.2.2.2 with
    | true=>exact hc
    | false=>exact hp

def EB (f:zc):Bool:=xe f.1 0 9999&&(xe f.2.1 1 9999&&(xe f.2.2.1 0 99&&decide ((f.2.2.2.length:Int)<=20)))
theorem Og (f:zc):eT f=some (EB f):=by
 unfold eT EB;simp only[Ad,wX];cases xe f.1 0 9999<;>cases xe f.2.1 1 9999<;>cases xe f.2.2.1 0 99<;>rfl
theorem Kj (l:List xq) (id:Int):(zn l id<0)\/∃k,∃hk:k<l.length,zn l id=(k:Int):=by
 by_cases h:zn l id<0
 · exact .inl h
 · obtain⟨k,hk,e,_⟩:=E0 (l:=l) (id:=id) (by omega);exact .inr ⟨k,hk,e⟩
theorem Sh {v:yl} (h1:v.1.length<=6) (h2:v.2.length<=6) {k:Nat} (hk:k<6) (id:Int):∃t,((ai v id).bind λt27=>(cond (decide (t27<0)) (some true) ((at? v.1 t27).bind λx34=>(ap x34.2.1 (k:Int)).bind λt38=>some (!t38))).bind λt40=>cond t40 (some ((0:Int),false)) (some (id,true)))=some t:=by
 rw[ED (by omega),wX];rcases Kj v.1 id with h|⟨j,hj,e⟩
 · rw[dT h,cT,wX,cT];exact⟨_,rfl⟩
 · obtain⟨t,ht,_⟩:=Ie v.1[j].2.1 hk;rw[e,dF (by omega),cF,xo hj,wX,ht,wX,wX];cases t<;>exact⟨_,rfl⟩
theorem Oh {v:yl} (h1:v.1.length<=6) (h2:v.2.length<=6) {k:Nat} (hk:k<v.2.length) (tag:Int):∃t,dL v (k:Int) tag=some t:=by
 unfold dL;rw[xN (by omega) (by omega),Ad,wX,Dy (by omega) (by omega),Bool.not_true,cF];cases tag==0 with
 | true=>rw[cT,xo hk,wX];exact Sh h1 h2 (by omega) _
 | false=>rw[cF];exact Sh h1 h2 (by omega) _
theorem Ma {v:yl} (h1:v.1.length<=6) (id:Int):∃t,bp v id=some t:=by
 unfold bp;rw[ED (by omega),wX];rcases Kj v.1 id with h|⟨j,hj,e⟩
 · rw[dT h,cT];exact⟨_,rfl⟩
 · rw[e,dF (by omega),cF,xo hj,wX];exact⟨_,rfl⟩
theorem Oi {v:yl} (h1:v.1.length<=6) (id:Int) {k:Nat} (hk:k<6):∃t,bq v id (k:Int)=some t:=by
 unfold bq;rw[ED (by omega),wX];rcases Kj v.1 id with h|⟨j,hj,e⟩
 · rw[dT h,cT,wX,cT];exact⟨_,rfl⟩
 · obtain⟨t,ht,_⟩:=Ie v.1[j].2.2 hk;rw[e,dF (by omega),cF,xo hj,wX,ht,wX,wX];cases t<;>exact⟨_,rfl⟩
theorem Ua {l:List xa} (h:l.length<=12) (tag mac:Int):∃t,dN l tag mac=some t:=by
 unfold dN;rw[G0 (by omega),wX];rcases Cm l tag mac with ⟨h1,_⟩|⟨k,hk,h1,_⟩
 · rw[h1];exact⟨_,rfl⟩
 · rw[h1,dF (by omega),cF,xo hk,wX];exact⟨_,rfl⟩
theorem Tv {f:zc} (h:f.2.2.2.length<=20) (t:Int):bY f t=some (f.1,f.2.1,t,f.2.2.2):=by
 unfold bY;rw[CG (by show _<=1048576;omega)];rfl
theorem Wg {b:wY} (h:y9 b) (i:Int) {f:zc} (hf:f.2.2.2.length<=20) (c:Int) (cl:Int×Bool) (q:Int->Option Bool) (hq:∀k,∃t,q k=some t) {k:Nat} (hk:k<b.2.2.1.length) {out:List xC} (ho:out.length<=10) :
 ∃o:List xC,o.length<=out.length+1/\(((cond ((k:Int) != i) ((bp (b.2.2.2.2.1,b.2.2.2.2.2.1) cl.1).bind λt89=>(ap (zA .i64 c t89) (k:Int)).bind λt92=>some t92) (some false)).bind λt93 =>
  (cond t93 ((q (k:Int)).bind λt101=>some t101) (some false)).bind λt102 =>
  cond t102 ((bq (b.2.2.2.2.1,b.2.2.2.2.2.1) cl.1 (k:Int)).bind λt110=>(bY f t110).bind λt111=>(app out [((k:Int),t111.1,t111.2.1,t111.2.2.1,t111.2.2.2)]).bind λzs114=>some (.inl (wZ ((k:Int)+1),zs114)))
   (some (.inl (wZ ((k:Int)+1),out)))):Option ((Int×List xC)⊕List xC))=some (.inl (((k+1:Nat):Int),o)):=by
 have s:=h.sok;have hv:=s.v
 have hn:=h.n6;obtain⟨e,he⟩:=Ma (v:=(b.2.2.2.2.1,b.2.2.2.2.2.1)) hv cl.1;obtain⟨t,ht,_⟩:=Ie (zA .i64 c e) (k:=k) (by omega);obtain⟨u,hu⟩:=hq (k:Int);obtain⟨g,hg⟩:=Oi (v:=(b.2.2.2.2.1,b.2.2.2.2.2.1)) hv cl.1 (k:=k) (by omega);have no:∃o:List xC,o.length<=out.length+1/\(some (.inl (wZ ((k:Int)+1),out)):Option ((Int×List xC)⊕List xC))=some (.inl (((k+1:Nat):Int),o)):=⟨out,by omega,by rw[xj (by omega)]⟩
 rw[xj (by omega)]at no ⊢;rw[he,wX,ht,wX,hu,wX,hg,wX,Tv hf,wX,xh (by show out.length+1<=_;omega),wX];cases (k:Int) != i<;>cases t<;>cases u<;>first|exact no|exact⟨_,by rw[length_append];exact Nat.le_refl _,rfl⟩
theorem PQ {b:wY} (hn:b.2.2.1.length<=6) (step:Int×List xC->Option ((Int×List xC)⊕List xC))
 (hs:∀(k:Nat) (out:List xC),k<b.2.2.1.length->out.length<=10->∃o:List xC,o.length<=out.length+1/\step ((k:Int),out)=some (.inl (((k+1:Nat):Int),o)))
 (he:∀out:List xC,step ((b.2.2.1.length:Int),out)=some (.inr out)):∃o:List xC,loop step (0,[])=some o/\o.length<=6:=by
 obtain⟨v,h1,h2⟩:=xG (step:=step) (λk z=>z.1=(k:Int)/\z.2.length<=k) b.2.2.1.length (λv=>v.length<=6)
  (λk z hk ⟨e1,e2⟩=>by
   obtain⟨i,out⟩:=z;simp only at e1 e2;subst e1;obtain⟨o,o1,o2⟩:=hs k out hk (by omega);exact .inl ⟨_,o2,rfl,by show o.length<=k+1;omega⟩)
  (λz ⟨e1,e2⟩=>by
   obtain⟨i,out⟩:=z;simp only at e1 e2;subst e1;exact⟨out,he out,by omega⟩) (x:=(0,[])) ⟨rfl,Nat.le_refl _⟩
 exact⟨v,h1,h2⟩
theorem Lx {b:wY} (s:B6 b) {F:List xa} (hF:FB F) {d v:Int} (hd:xe d 0 1000000=true) (hv:xe v 0 1000000=true):B6 (b.1,b.2.1,b.2.2.1,F,b.2.2.2.2.1,b.2.2.2.2.2.1,b.2.2.2.2.2.2.1,b.2.2.2.2.2.2.2.1,b.2.2.2.2.2.2.2.2.1,d,v):=by
 refine⟨s.id,s.name,s.n1,s.n6,s.p,hF.ok,?_,s.q,s.v,s.s,s.i,s.h⟩;obtain⟨q1,q2,q3,q4,q5⟩:=Ap s.c;unfold zI;simp only[aT];exact⟨q1,q2,q3,hd,hv⟩
theorem XH {a:xk} (h:A2 a) {b:wY} (hb:y9 b):A2 (yR b (aW a) (x8 a) (zH a) (xK a)):=⟨hb,h.w,h.n,h.lo,h.la,h.ids,h.up,h.j⟩
theorem Dv {b:List Int} (t:Int) {body:List Int} (hb:b.length<=1200) (hn:body.length<=M):ay b t body=some (b++if xe t 0 255=true/\body.length<=250 then yo t body else []):=by
 have hM:M=1048576:=rfl;unfold ay;rw[Ae (by omega),wX,CX,wX];cases hp:xe t 0 255 with
 | false=>rw[Bool.not_false,cT,wX,cT,if_neg (λh=>by cases h.1),append_nil]
 | true =>
  rw[Bool.not_true,cF,wX];by_cases h250:body.length<=250
  · have hw:IntKind.u8.wrap t=t:=by obtain⟨a,c⟩:=ye hp;rw[w8];omega
    have hl:IntKind.u8.wrap ((body.length:Int))=(body.length:Int):=by rw[w8];omega
    rw[dF (by omega),cF,hw,hl,if_pos ⟨rfl,h250⟩,xh (by show b.length+1<=_;omega),wX];by_cases h127:(body.length:Int)>127
    · rw[dT h127,cT,xh (by rw[length_append];show b.length+1+1<=_;omega),wX,xh (by simp only[length_append,length_singleton];omega),wX,xh (by simp only[length_append,length_singleton];omega),wX];unfold yo;rw[if_pos (by omega)];simp
    · rw[dF h127,cF,xh (by simp only[length_append,length_singleton];omega),wX,xh (by simp only[length_append,length_singleton];omega),wX];unfold yo;rw[if_neg (by omega)];simp
  · rw[dT (by omega),cT,if_neg (λh=>h250 h.2),append_nil]
theorem PR {o:List Int} (h:Au o=true):fU o=some (xU o):=by
 obtain⟨o1,o2,o3⟩:=CU h;have hM:M=1048576:=rfl
 unfold fU;rw[OK,Ia (by omega),wX,h,Bool.not_true,cF];obtain⟨v,e1,rfl⟩:=xG (step:=λz:Int×List Int=>cM o z.1 z.2) (λk z=>z=((k:Int),xU (o.take k))) o.length (λv=>v=xU o)
  (λk z hk e=>by
   subst e;have hx:=o3 _ (getElem_mem hk)
   have hl:(xU (o.take k)).length<=3*(o.take k).length:=Dk λx hx=>(o3 x (mem_of_mem_take hx)).2;rw[length_take]at hl;have hg:=Mk o[k]
   refine .inl ⟨_,?_,rfl⟩;show cM o (k:Int) _=_
   unfold cM;rw[xI (by omega),cT,xo hk,wX,TR ⟨hx.1,by omega⟩,wX,xh (by show (xU (o.take k)).length+(grp o[k]).length<=_;omega),wX,xj (by omega),take_add_one,List.getElem?_eq_getElem hk];unfold xU;rw[flatMap_append];simp)
  (λz e=>by
   subst e;refine⟨_,?_,rfl⟩;show cM o (o.length:Int) _=_
   unfold cM;rw[xu (by omega),cF,take_length]) (x:=(0,[])) rfl
 have e1:loop (λz=>cM o z.1 z.2) (0,([]:List Int))=some (xU o):=e1;rw[e1];rfl
theorem UV {b:List Int} (hb:b.length<=1000) {v:A6} (h:Bg v=true):iy b v=some (b++yo v.1 (zO v)):=by
 have hM:M=1048576:=rfl;obtain⟨l1,l2⟩:=HZ h;have hk:xe v.1 0 255=true:=by
  unfold Bg at h;by_cases c1:(v.1==5||(v.1==128||v.1==130))=true
  · simp only[Bool.or_eq_true,beq_iff_eq]at c1;rcases c1 with c|c|c<;>rw[c]<;>rfl
  · rw[show (v.1==5||(v.1==128||v.1==130))=false by simpa using c1,cF]at h;by_cases c2:v.1=2
    · rw[c2];rfl
    · rw[beq_eq_false_iff_ne.2 c2,cF]at h;by_cases c4:v.1=4
      · rw[c4];rfl
      · rw[beq_eq_false_iff_ne.2 c4,cF]at h;by_cases c6:v.1=6
        · rw[c6];rfl
        · rw[beq_eq_false_iff_ne.2 c6,cF]at h;cases h
 have fin:∀body,zO v=body->ay b v.1 body=some (b++yo v.1 (zO v)):=λbody e=>by
  subst e;rw[Dv _ (by omega) (by omega),if_pos ⟨hk,by omega⟩]
 have ho6:v.2.2.2.length<=M:=by
  unfold Bg at h;by_cases c6:v.1=6
  · rw[c6]at h;simp only[show ((6:Int)==5)=false from rfl,show ((6:Int)==128)=false from rfl,show ((6:Int)==130)=false from rfl,Bool.or_self,cF,show ((6:Int)==2)=false from rfl,show ((6:Int)==4)=false from rfl,show ((6:Int)==6)=true from rfl,cT,aT]at h;have:=M7 h.1
    omega
  · have:v.2.2.2.length=0:=by
     revert h
     cases (v.1==5||(v.1==128||v.1==130))with
     | true=>intro h;simp only[cT,aT,beq_iff_eq]at h;omega
     | false =>
      rw[cF];cases (v.1==2)with
      | true=>intro h;simp only[cT,aT,beq_iff_eq]at h;omega
      | false =>
       rw[cF];cases (v.1==4)with
       | true=>intro h;simp only[cT,aT,beq_iff_eq]at h;omega
       | false=>intro h;rw[cF,beq_eq_false_iff_ne.2 c6]at h;cases h
    omega
 unfold iy;rw[Mg ho6,wX,h,Bool.not_true,cF];by_cases h2:v.1=2
 · have e:zO v=yS v.2.1:=by unfold zO;rw[beq_iff_eq.2 h2];rfl
   have hr:-2147483648<=v.2.1/\v.2.1<=2147483647:=by
    unfold Bg at h;rw[h2]at h;simp only[show ((2:Int)==5)=false from rfl,show ((2:Int)==128)=false from rfl,show ((2:Int)==130)=false from rfl,Bool.or_self,cF,show ((2:Int)==2)=true from rfl,cT,aT]at h;exact ye h.1
   rw[beq_iff_eq.2 h2,cT,Hx,wX,Ei hr,fin _ e];rfl
 rw[beq_eq_false_iff_ne.2 h2,cF];by_cases h4:v.1=4
 · have e:zO v=Bz v.2.2.1:=by unfold zO;rw[beq_eq_false_iff_ne.2 h2,beq_iff_eq.2 h4];rfl
   rw[beq_iff_eq.2 h4,cT,fin _ e];rfl
 rw[beq_eq_false_iff_ne.2 h4,cF];by_cases h6:v.1=6
 · have e:zO v=xU v.2.2.2:=by unfold zO;rw[beq_eq_false_iff_ne.2 h2,beq_eq_false_iff_ne.2 h4,beq_iff_eq.2 h6];rfl
   have ho:Au v.2.2.2=true:=by
    unfold Bg at h;rw[h6]at h;simp only[show ((6:Int)==5)=false from rfl,show ((6:Int)==128)=false from rfl,show ((6:Int)==130)=false from rfl,Bool.or_self,cF,show ((6:Int)==2)=false from rfl,show ((6:Int)==4)=false from rfl,show ((6:Int)==6)=true from rfl,cT,aT]at h;exact h.1
   rw[beq_iff_eq.2 h6,cT,PR ho,wX,fin _ e];rfl
 · have e:zO v=[]:=by unfold zO;rw[beq_eq_false_iff_ne.2 h2,beq_eq_false_iff_ne.2 h4,beq_eq_false_iff_ne.2 h6];rfl
   rw[beq_eq_false_iff_ne.2 h6,cF,fin _ e];rfl
theorem Wh {l:List x7} (hx:∀x∈l,C4 x=true) (hn:l.length<=10):iz l=some (ym l):=by
 have hM:M=1048576:=rfl;have hlen:∀k,(ym (l.take k)).length<=110*k:=λk=>by
  induction k with
  | zero=>simp[ym]
  | succ k ih =>
   rw[take_add_one];unfold ym at ih ⊢;rw[flatMap_append,length_append];cases hk:l[k]? with
   | none=>show (List.flatMap CV (l.take k)).length+0<=_;omega
   | some x =>
    have:=(GI (hx x (List.mem_of_getElem? hk))).2;show (List.flatMap CV (l.take k)).length+(CV x++[]).length<=_
    rw[append_nil];omega
 unfold iz;obtain⟨v,e1,rfl⟩:=xG (step:=λz:Int×List Int=>cN l z.1 z.2) (λk z=>z=((k:Int),ym (l.take k))) l.length (λv=>v=ym l)
  (λk z hk e=>by
   subst e;have hxk:=hx _ (getElem_mem hk)
   have hl:=hlen k;obtain⟨b1,b2⟩:=GI hxk;have hxk':=hxk
   unfold C4 at hxk';rw[aT]at hxk';obtain⟨o1,o2,o3⟩:=CU hxk'.1;have ho:=Dk (o:=l[k].1) λy hy=>(o3 y hy).2
   have ht:=zD 6 (body:=xU l[k].1);refine .inl ⟨_,?_,rfl⟩;show cN l (k:Int) _=_
   unfold cN;rw[xI (by omega),cT,xo hk,wX,PR hxk'.1,wX,Dv _ (by simp) (by omega),if_pos ⟨by decide,by omega⟩,wX,wX,nil_append,UV (by omega) hxk'.2,wX,Dv _ (by show (ym (l.take k)).length<=1200;omega) (by show (FT l[k]).length<=_;omega),if_pos ⟨by decide,by show (FT l[k]).length<=250;omega⟩,wX,xj (by omega),take_add_one,List.getElem?_eq_getElem hk];unfold ym;rw[flatMap_append];simp[CV,FT])
  (λz e=>by
   subst e;refine⟨_,?_,rfl⟩;show cN l (l.length:Int) _=_
   unfold cN;rw[xu (by omega),cF,take_length]) (x:=(0,[])) rfl
 have e1:loop (λz=>cN l z.1 z.2) (0,([]:List Int))=some (ym l):=e1;rw[e1];rfl
theorem UW {p:xE} (hp:zz M p):iA p=some (Kg p):=by
 have hM:M=1048576:=rfl;unfold iA Kg;rw[Rc hp,wX];cases hk:z8 p with
 | false=>rw[Bool.not_false,cT,if_neg (λh=>by cases h.1)]
 | true =>
  obtain⟨k1,k2,k3,k4,k5,k6⟩:=Ao hk;have i1:=Bp p.2.1
  have i2:=Bp p.2.2.1;have i3:=Bp p.2.2.2.1
  have t1:=zD 2 (body:=yS p.2.1);have t2:=zD 2 (body:=yS p.2.2.1)
  have t3:=zD 2 (body:=yS p.2.2.2.1);rw[Bool.not_true,cF];unfold jQ;rw[Wh k1 k2,wX];by_cases ha:(ym p.2.2.2.2).length<=250
  · rw[dF (by omega),cF,Hx,wX,Ei k4,Dv _ (by simp) (by omega),if_pos ⟨by decide,by omega⟩,wX,Hx,wX,Ei (by omega),Dv _ (by simp only[nil_append];omega) (by omega),if_pos ⟨by decide,by omega⟩,wX,Hx,wX,Ei (by omega),Dv _ (by simp only[nil_append,length_append];omega) (by omega),if_pos ⟨by decide,by omega⟩,wX,Dv _ (by simp only[nil_append,length_append];omega) (by omega),if_pos ⟨by decide,ha⟩,wX];have eb:([]++yo 2 (yS p.2.1)++yo 2 (yS p.2.2.1)++yo 2 (yS p.2.2.2.1)++yo 48 (ym p.2.2.2.2))=AI p:=by unfold AI;simp
    rw[eb];have t4:=zD 48 (body:=ym p.2.2.2.2)
    have hbl:(AI p).length<=400:=by unfold AI;simp only[length_append];omega
    by_cases hb:(AI p).length<=250
    · simp only[wX,dT (show ((AI p).length:Int)<=250 by omega),Bool.not_true,cF];rw[Dv _ (by simp) (by omega),if_pos ⟨k3,hb⟩,if_pos ⟨trivial,ha,hb⟩,wX,nil_append]
    · simp only[wX,dF (show ¬((AI p).length:Int)<=250 by omega),Bool.not_false,cT];rw[if_neg (λh=>hb h.2.2)]
  · rw[dT (by omega),cT,wX,Bool.not_false,cT,if_neg (λh=>ha h.2.1)]
theorem Ub {α β:Type} (l:List α) (i:Int) (f:α->Option β):((ix l.length i).bind λj=>(l[j]?).bind f)=(at? l i).bind f:=by
 unfold ix at?;by_cases h0:0<=i
 · rw[if_pos h0,if_pos h0];by_cases h1:i<(l.length:Int)
   · rw[if_pos h1,wX]
   · rw[if_neg h1,List.getElem?_eq_none (by omega)];rfl
 · rw[if_neg h0,if_neg h0];rfl
theorem Wi:kg=eI:=rfl
theorem Tw:cP=aE:=rfl
theorem XI {b:wY} (h:AC b) (o:List Int):iN b o=aV b o:=by
 unfold iN aV;rw[OD h];cases bD b with
 | none=>rfl
 | some l =>
  have hs:(λz:Int×Int×Int×List UInt8×List Int×List Int=>kh o l z.1 z.2.1 z.2.2.1 z.2.2.2.1 z.2.2.2.2.1 z.2.2.2.2.2)=λz=>bW o l z.1 z.2.1 z.2.2.1 z.2.2.2.1 z.2.2.2.2.1 z.2.2.2.2.2:=by
   funext z
   unfold kh bW;simp only[Ub,Wi];cases at? l z.1<;>rfl
  rw[wX,wX,hs];unfold aR;simp only[Option.bind_assoc,wX]
theorem YK {b:wY} (h:AC b) (o:List Int):iP b o=bV b o:=by
 unfold iP bV;rw[OD h];cases bD b with
 | none=>rfl
 | some l =>
  have hs:(λz:Int×Int×Int×List UInt8×List Int=>ki o l z.1 z.2.1 z.2.2.1 z.2.2.2.1 z.2.2.2.2)=λz=>bn o l z.1 z.2.1 z.2.2.1 z.2.2.2.1 z.2.2.2.2:=by
   funext z
   unfold ki bn;simp only[Ub,Tw];cases at? l z.1<;>rfl
  rw[wX,wX,hs]
def I1 (b:wY) (x:x7):Prop:=Au x.1=true/\(x.2.1=130->yT b x.1=x)
theorem Si {b:wY} (h:y9 b) {o:List Int} (ho:Au o=true):I1 b (yT b o):=by
 refine⟨Ax (Hv h ho),λhk=>?_⟩;obtain⟨_,h1⟩:=Js h (o:=o) (by have:=BQ ho;omega);rcases h1 with ⟨h1,_⟩|⟨h1,h2⟩
 · exfalso;have hv:∀v:A6,Vl v->v.1≠130:=λv hv=>by cases hv<;>simp
   exact hv _ (FZ h _ h1).2 hk
 · rw[h1];exact h1
theorem Ly {b:wY} {o:List Int} (ho:Au o=true):I1 b (o,5,0,[],[]):=⟨ho,λhk=>by have hk:(5:Int)=130:=hk;omega⟩
noncomputable def yG (b:wY) (l:List x7):List x7:=l.map λx=>yT b x.1
theorem Sj {b:wY} {x:x7} (h:I1 b x):(cond (x.2.1==130) x (yT b x.1))=yT b x.1:=by
 cases hk:x.2.1==130 with
 | true=>rw[cT];exact (h.2 (by simpa using hk)).symm
 | false=>rfl
noncomputable def BU (b:wY):Nat->List x7×List x7->List x7×List x7
 | 0,s=>s
 | n+1,s=>if 0<s.2.length/\s.1.length<10 then BU b n (s.1++yG b s.2,yG b s.2)else s
theorem QU {b:wY}:∀(n:Nat) {s:List x7×List x7},10<=s.1.length->BU b n s=s
 | 0,s,_=>rfl
 | n+1,s,h=>if_neg (by omega)
theorem Sk {b:wY}:∀(n:Nat) {s:List x7×List (List Int)},10<=s.1.length->Eb b n s=s
 | 0,s,_=>rfl
 | n+1,s,h=>if_neg (by omega)
theorem Lz {b:wY}:∀(n:Nat) (out T:List x7),out.length<=10->(Eb b n (out,T.map λx=>x.1)).1=(BU b n (out,T)).1.take 10
 | 0,out,T,h=>(take_of_length_le h).symm
 | n+1,out,T,h=>by
  by_cases hc:0<T.length/\out.length<10
  · have e1:Eb b (n+1) (out,T.map λx=>x.1)=Eb b n (EK b (out,T.map λx=>x.1)):=if_pos (by simpa using hc);have e2:BU b (n+1) (out,T)=BU b n (out++yG b T,yG b T):=if_pos hc
    rw[e1,e2];by_cases hle:out.length+T.length<=10
    · have hm:Cn (out,T.map λx=>x.1)=T.length:=by unfold Cn;simp only[length_map];omega
      have e3:EK b (out,T.map λx=>x.1)=(out++yG b T,(yG b T).map λx=>x.1):=by
       unfold EK yG;simp only[hm];rw[take_of_length_le (by simp),List.drop_of_length_le (by simp),append_nil,map_map,map_map,map_map];rfl
      rw[e3];exact Lz n _ _ (by rw[length_append];unfold yG;rw[length_map];omega)
    · have hm:Cn (out,T.map λx=>x.1)=10-out.length:=by unfold Cn;simp only[length_map];omega
      have hl1:(EK b (out,T.map λx=>x.1)).1.length=10:=by
       show (out++((T.map λx=>x.1).take (Cn (out,T.map λx=>x.1))).map (yT b)).length=10;rw[hm,length_append,length_map,length_take,length_map];omega
      rw[Sk n (by omega),QU n (by show 10<=(out++yG b T).length;rw[length_append];unfold yG;rw[length_map];omega)];show out++((T.map λx=>x.1).take (Cn (out,T.map λx=>x.1))).map (yT b)=(out++yG b T).take 10
      rw[hm,List.take_append,take_of_length_le h];unfold yG;rw[←List.map_take,←List.map_take,map_map];rfl
  · have e1:Eb b (n+1) (out,T.map λx=>x.1)=(out,T.map λx=>x.1):=if_neg (by simpa using hc);have e2:BU b (n+1) (out,T)=(out,T):=if_neg hc
    rw[e1,e2];exact (take_of_length_le h).symm

theorem QV {p:xE} (hp:zz M p):ef p=some (yN p):=by
 unfold ef;rw[UW hp,wX];show (ac ((Kg p).length:Int) 1 120).bind _=_
 rw[CX,wX];rfl
def named (l:List x7):List x7:=l.map λx=>(x.1,5,0,[],[])
theorem Sl {l:List x7} (hn:l.length<=M):cU l=some (named l):=by
 have hM:M=1048576:=rfl;unfold cU named;refine xP (FU (g:=λx:x7=>((x.1,5,0,[],[]):x7)) hn (λk hk out ho=>?_) (λout=>?_)) rfl
 · show gh l (k:Int) out=_;unfold gh;rw[xI (by omega),cT,xo hk,wX,xh (by rw[ho];show k+1<=_;omega),wX,xj (by omega)]
 · show gh l (l.length:Int) out=_;unfold gh;rw[xu (by omega),cF]
theorem Oj {b:wY} (h:y9 b) {l:List x7} (hn:l.length<=1000) (hT:∀x∈l,I1 b x):bx b l=some (yG b l):=by
 unfold bx yG;refine xP (FU (g:=λx:x7=>yT b x.1) (by show _<=1048576;omega) (λk hk out ho=>?_) (λout=>?_)) rfl
 · have hx:=hT _ (getElem_mem hk);have e:=Sj hx
   show gg b l (k:Int) out=_;unfold gg;rw[xI (by omega),cT,xo hk,wX,wX,wX,XI h.w,(Js h (by have:=BQ hx.1;omega)).1,wX,xj (by omega)];cases hk':l[k].2.1==130 with
   | true =>
    rw[hk',cT]at e;rw[cT,xh (by rw[ho];show k+1<=_;omega),wX,←e]
   | false=>rw[cF,xh (by rw[ho];show k+1<=_;omega),wX]
 · show gg b l (l.length:Int) out=_;unfold gg;rw[xu (by omega),cF]
theorem QW {b:wY} (h:y9 b) {l:List x7} (hT:∀x∈l,I1 b x):∀x∈yG b l,I1 b x:=by
 intro x hx;obtain⟨y,hy,rfl⟩:=mem_map.1 hx;exact Si h (hT y hy).1
theorem Uc {b:wY} (h:y9 b) {p:xE} (hB:p.2.2.2.1<=1000):∀(n i:Nat) (out T:List x7),T.length<=10->out.length<=10+10*i->(∀x∈T,I1 b x)->((i+n:Nat):Int)=p.2.2.2.1->loop (λz=>bM b p z.1 z.2.1 z.2.2) (T,(i:Int),out)=some (BU b n (out,T)).1
 | 0,i,out,T,h1,h2,hT,e=>by
  refine xF ?_;show bM b p T (i:Int) out=_
  unfold bM;rw[xu (by omega),cF,wX,cF,wX,cF];rfl
 | n+1,i,out,T,h1,h2,hT,e=>by
  by_cases hc:0<T.length/\out.length<10
  · have hnl:(yG b T).length=T.length:=by unfold yG;rw[length_map]
    refine xx (y:=(yG b T,((i+1:Nat):Int),out++yG b T)) ?_ ?_
    · show bM b p T (i:Int) out=_;unfold bM;rw[xI (by omega),cT,dT (by omega),wX,cT,xI (by omega),wX,cT,Oj h (by omega) hT,wX,xh (by rw[hnl];omega),wX,xj (by omega)]
    · rw[Uc h hB n (i+1) _ _ (by rw[hnl];exact h1) (by rw[length_append,hnl];omega) (QW h hT) (by omega),show BU b (n+1) (out,T)=BU b n (out++yG b T,yG b T)from if_pos hc]
  · refine xF ?_;show bM b p T (i:Int) out=_
    have e2:BU b (n+1) (out,T)=(out,T):=if_neg hc;rw[e2];unfold bM;rw[xI (by omega),cT];by_cases h1:0<T.length
    · rw[dT (by omega),wX,cT,xu (by omega),wX,cF]
    · rw[dF (by omega),wX,cF,wX,cF]
theorem MP {b:wY}:∀(n:Nat) (out T:List x7),T.length<=10->out.length<=20->(BU b n (out,T)).1.length<=20
 | 0,out,T,_,h=>h
 | n+1,out,T,hT,h=>by
  by_cases hc:0<T.length/\out.length<10
  · rw[show BU b (n+1) (out,T)=BU b n (out++yG b T,yG b T)from if_pos hc];have hnl:(yG b T).length=T.length:=by unfold yG;rw[length_map]
    exact MP n _ _ (by omega) (by rw[length_append,hnl];omega)
  · rw[show BU b (n+1) (out,T)=(out,T)from if_neg hc];exact h
theorem Wj {b:wY} (h:y9 b) {p:xE} (hp:z8 p=true):iO b p=some (AY b p):=by
 obtain⟨x1,x2,_,_,x5,x6⟩:=Ao hp;have hM:M=1048576:=rfl
 have hnl:(named p.2.2.2.2).length=p.2.2.2.2.length:=by unfold named;rw[length_map]
 have hTold:∀x∈named p.2.2.2.2,I1 b x:=by
  intro x hx;obtain⟨y,hy,rfl⟩:=mem_map.1 hx;exact Ly (Ax (x1 y hy))
 have hon:yJ p<=p.2.2.2.2.length:=Nat.min_le_right _ _;have hout:yG b ((named p.2.2.2.2).take (yJ p))=(p.2.2.2.2.take (yJ p)).map (λx=>yT b x.1):=by
  unfold yG named;rw[←List.map_take,map_map];rfl
 have hlast:((named p.2.2.2.2).drop (yJ p)).map (λx=>x.1)=(p.2.2.2.2.drop (yJ p)).map (λx=>x.1):=by
  unfold named;rw[←List.map_drop,map_map];rfl
 have hol:(yG b ((named p.2.2.2.2).take (yJ p))).length<=10:=by rw[hout,length_map,length_take];omega
 have hTl:((named p.2.2.2.2).drop (yJ p)).length<=10:=by rw[length_drop];omega
 have hrun:=Uc h (p:=p) (by omega) p.2.2.2.1.toNat 0 (yG b ((named p.2.2.2.2).take (yJ p))) ((named p.2.2.2.2).drop (yJ p)) hTl (by omega) (λx hx=>hTold x (mem_of_mem_drop hx)) (by omega);have hv:AY b p=(BU b p.2.2.2.1.toNat (yG b ((named p.2.2.2.2).take (yJ p)),(named p.2.2.2.2).drop (yJ p))).1.take 10:=by
  unfold AY QO;rw[←hout,←hlast];exact Lz _ _ _ hol
 have hlen:=MP (b:=b) p.2.2.2.1.toNat _ _ hTl (show (yG b ((named p.2.2.2.2).take (yJ p))).length<=20 by omega);have fin:∀k:Int,k=((yJ p:Nat):Int)->((cU p.2.2.2.2).bind λt22 =>
  (yX t22.length 0 k).bind λq =>
  (bx b ((t22.take q.2).drop q.1)).bind λt27 =>
  (cut t22 k (t22.length:Int)).bind λt30 =>
  (loop (λz=>bM b p z.1 z.2.1 z.2.2) (t30,0,t27)).bind λd =>
  cond (decide ((d.length:Int)>10))
   ((yX d.length 0 10).bind λp_1 =>
   some ((d.take p_1.2).drop p_1.1))
   (some d))=some (AY b p):=by
  rintro k rfl;rw[Sl (by omega),wX,show (0:Int)=((0:Nat):Int)from rfl,G3 (by omega) (by rw[hnl];exact hon),wX];show (bx b (((named p.2.2.2.2).take (yJ p)).drop 0)).bind _=_
  rw[drop_zero,Oj h (by rw[length_take];omega) (λx hx=>hTold x (mem_of_mem_take hx)),wX,As (by rw[hnl];exact hon) (Nat.le_refl _),wX,take_length];refine xP hrun ?_;rw[hv];generalize (BU b p.2.2.2.1.toNat (yG b ((named p.2.2.2.2).take (yJ p)),(named p.2.2.2.2).drop (yJ p))).1=d at hlen;by_cases hd:(d.length:Int)>10
  · rw[dT hd,cT,show (10:Int)=((10:Nat):Int)from rfl,G3 (by omega) (by omega),wX];rfl
  · rw[dF hd,cF,take_of_length_le (by omega)]
 unfold iO;by_cases hc:p.2.2.1>(p.2.2.2.2.length:Int)
 · rw[dT hc,cT];exact fin _ (by unfold yJ;omega)
 · rw[dF hc,cF];exact fin _ (by unfold yJ;omega)
theorem Sm (k i a c:Int) (bulk:Bool):∀(n:Nat) (l:List x7),l.length=n->n<=10->(∀x∈l,EC M x) ->
 ∃t,loop (λz:xE=>ci bulk z.1 z.2.1 z.2.2.1 z.2.2.2.1 z.2.2.2.2) (k,i,a,c,l)=some (k,i,a,c,t)/\zz M (k,i,a,c,t) /\
  ((yN (k,i,a,c,l)=true/\t=l)\/(yN (k,i,a,c,l)=false/\((bulk=true/\yN (k,i,a,c,t)=true/\shr (λt=>yN (k,i,a,c,t)) n l=some t)\/(yN (k,i,a,c,t)=false/\(bulk=true->shr (λt=>yN (k,i,a,c,t)) n l=none)))))
 | n,l,hl,hn,hx=>by
  have hp:zz M (k,i,a,c,l):=⟨by show l.length<=1048576;omega,hx⟩;have hstep:∀q:Bool,yN (k,i,a,c,l)=q->ci bulk k i a c l=cond (bulk&&(!q&&decide ((l.length:Int)>0))) ((yX l.length 0 (wZ ((l.length:Int)-1))).bind λp=>some (.inl (k,i,a,c,(l.take p.2).drop p.1))) (some (.inr (k,i,a,c,l))):=by
   intro q hq;unfold ci;rw[QV hp,hq];cases bulk<;>cases q<;>rfl
  cases hf:yN (k,i,a,c,l)with
  | true =>
   refine⟨l,xF ?_,hp,.inl ⟨rfl,rfl⟩⟩;show ci bulk k i a c l=_
   rw[hstep true hf];cases bulk<;>rfl
  | false =>
   cases hb:bulk with
   | false =>
    subst hb;refine⟨l,xF ?_,hp,.inr ⟨rfl,.inr ⟨hf,(λh=>by cases h)⟩⟩⟩;show ci false k i a c l=_
    rw[hstep false hf];rfl
   | true =>
    subst hb
    match n,hl,hn with
    | 0,hl,hn =>
     refine⟨l,xF ?_,hp,.inr ⟨rfl,.inr ⟨hf,λ_=>rfl⟩⟩⟩;show ci true k i a c l=_
     rw[hstep false hf,dF (by omega)];rfl
    | n+1,hl,hn =>
     have hlt:(l.take n).length=n:=by rw[length_take];omega
     have hs:ci true k i a c l=some (.inl (k,i,a,c,l.take n)):=by
      rw[hstep false hf,dT (by omega)];show ((yX l.length 0 (wZ ((l.length:Int)-1))).bind _)=_
      rw[xN (by omega) (by omega),show (l.length:Int)-1=((n:Nat):Int) by omega,show (0:Int)=((0:Nat):Int)from rfl,G3 (by omega) (by omega),wX];rfl
     obtain⟨t,t1,t2,t3⟩:=Sm k i a c true n (l.take n) hlt (by omega) (λx h=>hx x (mem_of_mem_take h));refine⟨t,xx hs t1,t2,.inr ⟨rfl,?_⟩⟩;rcases t3 with ⟨u1,rfl⟩|⟨u1,⟨_,u2,u3⟩|⟨u2,u3⟩⟩
     · exact .inl ⟨rfl,u1,if_pos u1⟩
     · exact .inl ⟨rfl,u2,by rw[show shr (λt=>yN (k,i,a,c,t)) (n+1) l=shr (λt=>yN (k,i,a,c,t)) n (l.take n)from if_neg (show ¬yN (k,i,a,c,l.take n)=true by rw[u1];simp)];exact u3⟩
     · exact .inr ⟨u2,λ_=>by rw[show shr (λt=>yN (k,i,a,c,t)) (n+1) l=shr (λt=>yN (k,i,a,c,t)) n (l.take n)from if_neg (show ¬yN (k,i,a,c,l.take n)=true by rw[u1];simp)];exact u3 rfl⟩
noncomputable def FX (i a c:Int) (bulk:Bool) (l:List x7):xE :=
 cond (yN (162,i,a,c,l)) (162,i,a,c,l) (match cond bulk (shr (λt=>yN (162,i,a,c,t)) l.length l) none with|some t=>(162,i,a,c,t)|none=>(162,i,7,0,[]))
theorem Ok (i a c:Int) (bulk:Bool) {l:List x7} (hn:l.length<=10) (hx:∀x∈l,EC M x):cO (162,i,a,c,l) bulk=some (FX i a c bulk l):=by
 obtain⟨t,t1,t2,t3⟩:=Sm 162 i a c bulk l.length l rfl hn hx;unfold cO FX;refine xP t1 ?_;rw[QV t2,wX];rcases t3 with ⟨u1,rfl⟩|⟨u1,⟨rfl,u2,u3⟩|⟨u2,u3⟩⟩
 · rw[u1,cT,cT]
 · rw[u1,u2,cT,cF,cT,u3]
 · rw[u1,u2,cF,cF];cases bulk with
   | true=>rw[cT,u3 rfl]
   | false=>rfl
theorem XJ {b:wY} (h:y9 b) {p:xE} (hp:z8 p=true) (h163:(p.1==163)=false) (hk:(p.1 != 162)=true):∃l,iQ b p=some l/\Co b p=(b,162,p.2.1,0,0,l)/\l.length<=10/\∀x∈l,EC M x:=by
 obtain⟨x1,x2,_⟩:=Ao hp;have hM:M=1048576:=rfl
 unfold iQ Co;cases h161:(p.1==161)with
 | true =>
  have h160:(p.1==160)=false:=by simp only[beq_iff_eq]at h161;rw[h161];rfl
  have hTold:∀x∈named p.2.2.2.2,I1 b x:=by
   intro x hx;obtain⟨y,hy,rfl⟩:=mem_map.1 hx;exact Ly (Ax (x1 y hy))
  have he:yG b (named p.2.2.2.2)=p.2.2.2.2.map λx=>yT b x.1:=by unfold yG named;rw[map_map];rfl
  simp only[cT,cF,h160];rw[Sl (by omega),wX,Oj h (by unfold named;rw[length_map];omega) hTold,wX,he];refine⟨_,rfl,rfl,by rw[length_map];exact x2,λx hx=>?_⟩;obtain⟨y,hy,rfl⟩:=mem_map.1 hx;exact A4 (Hv h (Ax (x1 y hy)))
 | false =>
 cases h165:(p.1==165)with
 | true =>
  have h160:(p.1==160)=false:=by simp only[beq_iff_eq]at h165;rw[h165];rfl
  have hbk:=PM h hp;simp only[cT,cF,h160];rw[Wj h hp,wX];exact⟨_,rfl,rfl,hbk.o10,λx hx=>A4 (hbk.oOk x hx)⟩
 | false =>
  have h160:(p.1==160)=true:=by
   rcases To hp with e|e|e|e|e
   · rw[e];rfl
   · rw[e]at h161;cases h161
   · rw[e]at hk;cases hk
   · rw[e]at h163;cases h163
   · rw[e]at h165;cases h165
  simp only[cT,cF,h160];have e:loop (λz:Int×List x7=>ej b p z.1 z.2) (0,[])=some (p.2.2.2.2.map λx=>((x.1,FV b x.1):x7)):=by
   refine FU (by omega) (λk hk' out ho=>?_) (λout=>?_)
   · have hx:=BQ (Ax (x1 _ (getElem_mem hk')));show ej b p (k:Int) out=_
     unfold ej;rw[xI (by omega),cT,xo hk',wX,xh (by show 0+_<=_;omega),wX,wX,YK h.w,(Tk h (by omega)).1,wX,xh (by rw[ho];show k+1<=_;omega),wX,xj (by omega)];rfl
   · show ej b p (p.2.2.2.2.length:Int) out=_;unfold ej;rw[xu (by omega),cF]
  rw[e,wX];refine⟨_,rfl,rfl,by rw[length_map];exact x2,λx hx=>?_⟩;obtain⟨y,hy,rfl⟩:=mem_map.1 hx;exact A4 (by unfold C4;rw[Ax (x1 y hy),U3 h (by have:=BQ (Ax (x1 y hy));omega)];rfl)
theorem Pg {b:wY} {p:xE} {l:List x7} (ha:Co b p=(b,162,p.2.1,0,0,l)) (hl:(p.1==165)=true->l=AY b p):Bc b p=(b,FX p.2.1 0 0 (p.1==165) l):=by
 unfold Bc DX FX;rw[ha];simp only;cases yN (162,p.2.1,0,0,l)with
 | true=>rfl
 | false =>
  rw[cF,cF];cases h165:(p.1==165)with
  | true=>rw[cT,cT,hl h165];cases shr (λt=>yN (162,p.2.1,0,0,t)) (AY b p).length (AY b p)<;>rfl
  | false=>rfl
theorem Wk {b:wY} (h:y9 b) {p:xE} (hp:z8 p=true) (h163:(p.1==163)=true):gd b p=some (Bc b p):=by
 have hxs:=IY hp;have hM:M=1048576:=rfl
 have h10:=(Ao hp).2.1;obtain⟨r,r1,r2,_,_,r5⟩:=Mj h.w h.le hxs;have hr:H0 b p.2.2.2.2=r:=by unfold H0;rw[r1];rfl
 have h160:(p.1==160)=false:=by simp only[beq_iff_eq]at h163;rw[h163];rfl
 have h161:(p.1==161)=false:=by simp only[beq_iff_eq]at h163;rw[h163];rfl
 have h165:(p.1==165)=false:=by simp only[beq_iff_eq]at h163;rw[h163];rfl
 have ha:Co b p=(r.1,162,p.2.1,r.2.1,r.2.2,p.2.2.2.2):=by unfold Co;rw[h160,h161,h165,hr];rfl
 have hless:DX b p=(b,162,p.2.1,7,0,[]):=by unfold DX;rw[h165];rfl
 unfold gd Bc;rw[Fa hxs,wX,r2,wX,QV (p:=(162,p.2.1,r.2.1,r.2.2,p.2.2.2.2)) ⟨hxs.1,hxs.2⟩,wX,ha,hless];simp only;have hb:∀q:Bool,yN (162,p.2.1,r.2.1,r.2.2,p.2.2.2.2)=q->((af b).bind λt36=>(cO (162,p.2.1,r.2.1,r.2.2,p.2.2.2.2) false).bind λt38=>some (t36,t38))=some (b,cond q (162,p.2.1,r.2.1,r.2.2,p.2.2.2.2) (162,p.2.1,7,0,[])):=by
  intro q hq;rw[yW h.le,wX,Ok _ _ _ _ h10 hxs.2,wX];unfold FX;rw[hq];rfl
 cases hf:yN (162,p.2.1,r.2.1,r.2.2,p.2.2.2.2)with
 | false=>rw[Bool.not_false,cT,wX,cT,hb false hf];rfl
 | true =>
  rw[Bool.not_true,cF,wX];cases hc:(r.2.1 != 0)with
  | false=>rfl
  | true =>
   rw[cT,hb true hf];rcases r5 with ⟨r6,_⟩|⟨r6,_⟩
   · rw[r6]at hc;cases hc
   · rw[r6];rfl
theorem Wl {b:wY} (h:AC b) (hb:Ar M b) {p:xE} (hp:zz M p):iR b p=some (z7 b p):=by
 unfold iR jW z7 FW;rw[Dw h,wX,yW hb];cases hbr:xQ b with
 | false=>rfl
 | true =>
 rw[cT,Rc hp,wX,wX];cases hpp:z8 p with
 | false=>rfl
 | true =>
 cases hk:(p.1 != 162)with
 | false=>rfl
 | true =>
 have hBO:=Dx h hbr;simp only[Bool.and_true,cT,wX,Bool.not_true,cF];cases h163:(p.1==163)with
 | true=>rw[cT,Wk hBO hpp h163,wX]
 | false =>
  obtain⟨l,e1,e2,e3,e4⟩:=XJ hBO hpp h163 hk;have hl:(p.1==165)=true->l=AY b p:=by
   intro h165;have h160:(p.1==160)=false:=by simp only[beq_iff_eq]at h165;rw[h165];rfl
   have h161:(p.1==161)=false:=by simp only[beq_iff_eq]at h165;rw[h165];rfl
   have:Co b p=(b,162,p.2.1,0,0,AY b p):=by unfold Co;rw[h160,h161,h165];rfl
   rw[e2]at this;simpa using this
  rw[cF,e1,wX,Fa ⟨by show l.length<=1048576;omega,e4⟩,wX,Ok _ _ _ _ e3 e4,wX,Pg e2 hl]

theorem QX {b:wY} {w:List UInt8} {l:List xH} {lo la:Int} {k:Nat} (hk:k<l.length) (hl:l.length<=M):ea (yR b w l lo la) (k:Int)=some (yR b w (l.eraseIdx k) lo la):=by
 have hM:M=1048576:=rfl;have c1:yX l.length 0 (k:Int)=some (0,k):=by
  unfold yX;rw[if_pos (by omega),if_pos (by omega),if_pos (by omega)];simp
 have c2:yX l.length (wZ ((k:Int)+1)) (l.length:Int)=some (k+1,l.length):=by
  rw[xj (by omega)];unfold yX;rw[if_pos (by omega),if_pos (by omega),if_pos (by omega)];simp
 have c3:app ([]:List xH) ((l.take k).drop 0)=some (l.take k):=by
  rw[drop_zero,xh (by rw[length_take];show 0+_<=_;omega)];rfl
 have c4:app (l.take k) ((l.take l.length).drop (k+1))=some (l.eraseIdx k):=by
  rw[take_length,xh (by rw[length_take,length_drop];omega),←List.eraseIdx_eq_take_drop_succ]
 unfold ea yR;simp only[c1,wX,c2,c3,c4]
theorem So {b:wY} (hb:Ar M b) {w:List UInt8} {l:List xH} {lo la:Int} {k:Nat} (hk:k<l.length):fT (yR b w l lo la) (k:Int)=some (yR b w (l.set k (M9 b l[k])) lo la):=by
 have cb:=yW hb;unfold fT yR;simp only[yE hk,wX];have cb':af (b.1,b.2.1,b.2.2.1,b.2.2.2.1,b.2.2.2.2.1,b.2.2.2.2.2.1,b.2.2.2.2.2.2.1,b.2.2.2.2.2.2.2.1,b.2.2.2.2.2.2.2.2.1,b.2.2.2.2.2.2.2.2.2.1,b.2.2.2.2.2.2.2.2.2.2)=some b:=cb
 simp only[cb',wX,List.getElem?_eq_getElem hk,length_set,yE hk,List.getElem?_set_self hk,set_set];rfl
theorem Ol {n:Int} (h:xe n 0 1000000=true):aH n=some (Bt n):=by
 obtain⟨r,r1,r2,_⟩:=Nf h;rw[r2,←r1,Dd]
theorem Tx {b:wY} (hb:Ar M b) (hc:zI b=true) {w:List UInt8} {l:List xH} {lo la:Int} {k:Nat} (hk:k<l.length) (hl:l.length<=M) (h1:A3 l[k].2.1) (h2:l[k].2.1.length<=M) :
 ed (yR b w l lo la) (k:Int)=some (cond ((yu w l[k].2.1).2==3) (yR (GJ b) w (l.eraseIdx k) lo la)
  (cond ((yu w l[k].2.1).2 != 0||((yu w l[k].2.1).1.1==162)) (yR (EA b) w (l.eraseIdx k) lo la) (yR b w (l.set k (AZ l[k].1 l[k].2.1 1 (yu w l[k].2.1).1 b 0 (xT l[k]))) lo la))):=by
 obtain⟨_,m1,m3,_⟩:=Tl w h1 h2;obtain⟨_,hp,hw,_⟩:=Ap hc;unfold ed;have d1:=QX (b:=GJ b) (w:=w) (lo:=lo) (la:=la) hk hl
 have d2:=QX (b:=EA b) (w:=w) (lo:=lo) (la:=la) hk hl;unfold GJ yR at d1;unfold EA yR at d2;dsimp only[yR];simp only[yE hk,wX,List.getElem?_eq_getElem hk,m1,Ol hp,Ol hw];rw[d1,d2];have hs:k<(l.set k (AZ l[k].1 l[k].2.1 l[k].2.2.1 (yu w l[k].2.1).1 (jB l[k]) (AO l[k]) (xT l[k]))).length:=by rw[length_set];exact hk
 have e:=So hb (w:=w) (lo:=lo) (la:=la) hs;unfold yR at e;have e2:M9 b (l.set k (AZ l[k].1 l[k].2.1 l[k].2.2.1 (yu w l[k].2.1).1 (jB l[k]) (AO l[k]) (xT l[k])))[k]=AZ l[k].1 l[k].2.1 1 (yu w l[k].2.1).1 b 0 (xT l[k]):=by
  rw[getElem_set_self];rfl
 rw[e2,set_set]at e;cases h0:((yu w l[k].2.1).2==0)with
 | true =>
  have h3:((yu w l[k].2.1).2==3)=false:=by
   have:(yu w l[k].2.1).2=0:=by simpa using h0
   rw[this];rfl
  have hn:((yu w l[k].2.1).2 != 0)=false:=by rw[bne,h0];rfl
  rw[h3,hn];simp only[cT,cF,wX,Bool.false_or,bne];cases ((yu w l[k].2.1).1.1==162)with
  | true=>rfl
  | false =>
   simp only[Bool.not_false,cT,cF];refine (congrArg (λo=>Option.bind o λt=>some t) e).trans ?_;rfl
 | false =>
  have hn:((yu w l[k].2.1).2 != 0)=true:=by rw[bne,h0];rfl
  rw[hn];simp only[cT,cF,wX,Bool.true_or];cases ((yu w l[k].2.1).2==3)<;>rfl
theorem Ty {b:wY} {w:List UInt8} {l:List xH} {lo la:Int} {k:Nat} (hk:k<l.length) (hl:l.length<=M) (p:xE):ee (yR b w l lo la) (k:Int) p=some (yR b w (l.eraseIdx k) lo la,[(l[k].1,p)]):=by
 have d:=QX (b:=b) (w:=w) (lo:=lo) (la:=la) hk hl;have c0:ix (yR b w l lo la).2.2.2.2.2.2.2.2.2.2.2.2.1.length (k:Int)=some k:=yE hk
 have c1:(yR b w l lo la).2.2.2.2.2.2.2.2.2.2.2.2.1[k]?=some l[k]:=List.getElem?_eq_getElem hk;unfold ee;rw[c0,wX,c1,wX,d];rfl
theorem QY (p:xE):FX p.2.1 6 1 false p.2.2.2.2=Ce p:=by
 unfold FX Ce;cases yN (162,p.2.1,6,1,p.2.2.2.2)<;>rfl
theorem XK {b:wY} (hB:y9 b) {w:List UInt8} {l:List xH} {lo la:Int} {k:Nat} (hk:k<l.length) (hl:l.length<=M) (hp:z8 (jP l[k])=true) (h163:((jP l[k]).1==163)=true) :
 iL (yR b w l lo la) (k:Int)=some (cond (b.2.2.2.2.2.2.2.2.2.2==(jB l[k]).2.2.2.2.2.2.2.2.2.2) (yR (z7 b (jP l[k])).1 w (l.eraseIdx k) lo la,[(l[k].1,(z7 b (jP l[k])).2.1)])
  (cond (decide (xT l[k]>=3)) (yR b w (l.eraseIdx k) lo la,[(l[k].1,Ce (jP l[k]))])
   (yR b w (l.set k (AZ l[k].1 l[k].2.1 1 (jP l[k]) b 0 (wZ (xT l[k]+1)))) lo la,[]))):=by
 have hk162:((jP l[k]).1 != 162)=true:=by
  have:(jP l[k]).1=163:=by simpa using h163
  rw[this];rfl
 obtain⟨_,r1,r2,_⟩:=IZ hB hp hk162;have hxs:=IY hp
 have h10:=(Ao hp).2.1;have s1:=Wk hB hp h163
 have c0:ix (yR b w l lo la).2.2.2.2.2.2.2.2.2.2.2.2.1.length (k:Int)=some k:=yE hk;have c1:(yR b w l lo la).2.2.2.2.2.2.2.2.2.2.2.2.1[k]?=some l[k]:=List.getElem?_eq_getElem hk
 unfold iL;rw[c0,wX];simp only[c1,wX];show cond (b.2.2.2.2.2.2.2.2.2.2==(jB l[k]).2.2.2.2.2.2.2.2.2.2) _ _=_
 cases hv:(b.2.2.2.2.2.2.2.2.2.2==(jB l[k]).2.2.2.2.2.2.2.2.2.2)with
 | true =>
  rw[cT,cT];refine xP (a:=Bc b (jP l[k])) s1 ?_;have e:=Ty (b:=(Bc b (jP l[k])).1) (w:=w) (lo:=lo) (la:=la) hk hl (Bc b (jP l[k])).2
  rw[r1,r2];exact xP e rfl
 | false =>
  rw[cF,cF];show cond (decide (xT l[k]>=3)) _ _=_
  cases hq:decide (xT l[k]>=3)with
  | true =>
   rw[cT,cT];refine xP (Fa hxs) ?_;refine xP (a:=Ce (jP l[k])) ?_ ?_
   · have e:=Ok (jP l[k]).2.1 6 1 false h10 hxs.2;rw[QY]at e;exact e
   · exact xP (Ty (b:=b) (w:=w) (lo:=lo) (la:=la) hk hl (Ce (jP l[k]))) rfl
  | false =>
   simp only[cF];have hs:k<(l.set k (AZ l[k].1 l[k].2.1 l[k].2.2.1 (jP l[k]) (jB l[k]) (AO l[k]) (wZ (xT l[k]+1)))).length:=by rw[length_set];exact hk
   have e:=So hB.le (w:=w) (lo:=lo) (la:=la) hs;unfold yR at e;have e2:M9 b (l.set k (AZ l[k].1 l[k].2.1 l[k].2.2.1 (jP l[k]) (jB l[k]) (AO l[k]) (wZ (xT l[k]+1))))[k]=AZ l[k].1 l[k].2.1 1 (jP l[k]) b 0 (wZ (xT l[k]+1)):=by
    rw[getElem_set_self];rfl
   rw[e2,set_set]at e;refine (congrArg (λo=>Option.bind o λt=>some (t,([]:List xX))) e).trans ?_;rfl
theorem XL {a:xk} (h:A2 a) {k:Nat} (hk:k<(x8 a).length):iS a (k:Int)=some (Cf a k (x8 a)[k]):=by
 have hJ:=h.j _ (getElem_mem hk);have hn:(x8 a).length<=M:=by have:=h.n;show _<=1048576;omega
 have e1:=Tx h.b.le (BM h.b.ok).1 (w:=aW a) (l:=x8 a) (lo:=zH a) (la:=xK a) hk hn hJ.byt hJ.len;have c0:ix a.2.2.2.2.2.2.2.2.2.2.2.2.1.length (k:Int)=some k:=yE hk
 have c1:a.2.2.2.2.2.2.2.2.2.2.2.2.1[k]?=some (x8 a)[k]:=List.getElem?_eq_getElem hk;have e1:ed a (k:Int)=_:=e1
 unfold iS Cf B0;rw[c0,wX];simp only[c1,wX];rcases Oc hJ with hp|hp|hp
 · rw[hp];show ((ed a (k:Int)).bind _)=_
   rw[e1,wX];cases ((yu (aW a) (x8 a)[k].2.1).2==3)with
   | true=>rfl
   | false=>cases ((yu (aW a) (x8 a)[k].2.1).2 != 0||((yu (aW a) (x8 a)[k].2.1).1.1==162))<;>rfl
 · rw[hp];simp only[show ((1:Int)==0)=false from rfl,show ((1:Int)==1)=true from rfl,show ((1:Int)==2)=false from rfl,cT,cF,wX];show cond (decide (AO (x8 a)[k]<((jP (x8 a)[k]).2.2.2.2.length:Int))) _ _=_
   cases hd:decide (AO (x8 a)[k]<((jP (x8 a)[k]).2.2.2.2.length:Int))with
   | true=>rw[cT];exact congrArg some (by simp only[cT];rfl)
   | false=>rw[cF];exact congrArg some (by simp only[cF];rfl)
 · obtain⟨q1,q2,q3⟩:=hJ.ok.resolve_left (by rw[hp];decide);rw[hp];simp only[show ((2:Int)==0)=false from rfl,show ((2:Int)==1)=false from rfl,show ((2:Int)==2)=true from rfl,cT,cF,wX];show cond ((jP (x8 a)[k]).1==163) _ _=_
   cases h163:((jP (x8 a)[k]).1==163)with
   | true =>
    have hb:((x8 a)[k].2.2.2.1 != 163)=false:=by rw[bne,show ((x8 a)[k].2.2.2.1==163)=true from h163];rfl
    simp only[hb,cT,cF];refine xP (XK (b:=aB a) h.b (w:=aW a) (lo:=zH a) (la:=xK a) hk hn q1 h163) ?_;cases ((aB a).2.2.2.2.2.2.2.2.2.2==(jB (x8 a)[k]).2.2.2.2.2.2.2.2.2.2)with
    | true=>rfl
    | false=>cases decide (xT (x8 a)[k]>=3)<;>rfl
   | false =>
    have hb:((x8 a)[k].2.2.2.1 != 163)=true:=by rw[bne,show ((x8 a)[k].2.2.2.1==163)=false from h163];rfl
    simp only[hb,cT,cF];refine xP (a:=z7 (jB (x8 a)[k]) (jP (x8 a)[k])) (Wl hJ.bw hJ.bl hJ.pl) ?_;exact xP (Ty (b:=aB a) (w:=aW a) (lo:=zH a) (la:=xK a) hk hn (z7 (jB (x8 a)[k]) (jP (x8 a)[k])).2.1) rfl
theorem Wm {a:xk} (h:A2 a) {k:Nat} (hk:k<(x8 a).length):df a (k:Int)=some (Cf a k (x8 a)[k]):=by
 have hn:=h.n;unfold df;rw[DZ h.ale,wX,LI h.awf,wX,h.ok,Bool.not_true,cF];have hw:wZ ((a.2.2.2.2.2.2.2.2.2.2.2.2.1.length:Int)-1)=((x8 a).length:Int)-1:=xN (by show -9223372036854775808<=((x8 a).length:Int)-1;omega) (by show ((x8 a).length:Int)-1<=_;omega)
 rw[hw,CX,wX,Dy (by omega) (by omega),wX,Bool.not_true,cF,XL h hk,wX]
theorem UX {a:xk} (h:A2 a) {k:Int} (hk:k<0\/((x8 a).length:Int)<=k):df a k=some (a,[]):=by
 have hn:=h.n;unfold df;rw[DZ h.ale,wX,LI h.awf,wX,h.ok,Bool.not_true,cF];have hw:wZ ((a.2.2.2.2.2.2.2.2.2.2.2.2.1.length:Int)-1)=((x8 a).length:Int)-1:=xN (by show -9223372036854775808<=((x8 a).length:Int)-1;omega) (by show ((x8 a).length:Int)-1<=_;omega)
 have hp:xe k 0 (((x8 a).length:Int)-1)=false:=by
  unfold xe;rcases hk with hk|hk
  · rw[dF (by omega)];rfl
  · rw[dF (show ¬k<=((x8 a).length:Int)-1 by omega),Bool.and_false]
 rw[hw,CX,wX,hp,wX,Bool.not_false,cT]
theorem Om {a:xk} (h:AP a=true):(x8 a).length<=6/\xe (zH a) 0 1000000=true/\xe (xK a) 0 1000000=true:=by
 unfold AP at h;simp only[aT,decide_eq_true_eq]at h;obtain⟨_,_,_,h4,h5,h6⟩:=h;exact⟨by omega,h5,h6⟩
theorem UY {a:xk} (ha:LH a) (hl:FY M a) {b:List Int} (hb:b.length<=M):∃r,bh a b=some r/\de a b=some r/\FY M r:=by
 have hM:M=1048576:=rfl;unfold bh de;rw[Dz hl,DZ hl,J9 ha,LI ha];simp only[wX];cases hp:AP a with
 | false=>exact⟨_,rfl,rfl,hl⟩
 | true =>
  obtain⟨h1,h2,h3⟩:=Om hp;obtain⟨m,m1,m2,_⟩:=Nf h2;have m1':au a.2.2.2.2.2.2.2.2.2.2.2.2.2.1=some m:=m1
  have m2':aH a.2.2.2.2.2.2.2.2.2.2.2.2.2.1=some m:=m2;simp only[Bool.not_true,cF,wX,m1',m2',CG hb,Ae hb];have hn:(x8 a).length<=1048576:=ha.n
  by_cases h6:((x8 a).length:Int)>=6
  · have h6':decide ((a.2.2.2.2.2.2.2.2.2.2.2.2.1.length:Int)>=6)=true:=dT h6;rw[h6',cT,wX,cT];exact⟨_,rfl,rfl,hl⟩
  · have h6':decide ((a.2.2.2.2.2.2.2.2.2.2.2.2.1.length:Int)>=6)=false:=dF h6;rw[h6',cF,wX];cases decide (a.2.2.2.2.2.2.2.2.2.2.2.2.2.2>=1000000)with
    | true=>exact⟨_,rfl,rfl,hl⟩
    | false =>
     have hap:∀j:xH,app a.2.2.2.2.2.2.2.2.2.2.2.2.1 [j]=some (a.2.2.2.2.2.2.2.2.2.2.2.2.1++[j]):=λj=>xh (by show (x8 a).length+1<=_;omega);simp only[cF,hap,wX];refine⟨_,rfl,rfl,hl.1,hl.2.1,?_,?_⟩
     · show (x8 a++[_]).length<=1048576;rw[length_append];show (x8 a).length+1<=_;omega
     · intro j hj;rcases mem_append.1 hj with hj|hj
       · exact hl.2.2.2 j hj
       · simp only[mem_singleton]at hj;subst hj;exact⟨hb,⟨by show 0<=1048576;decide,λx hx=>by cases hx⟩,by show 0<=1048576;decide,by show 0<=1048576;decide,by show 0<=1048576;decide,by show 0<=1048576;decide,by show 0<=1048576;decide⟩
theorem PS {a:xk} (h:A2 a) {m:List Int} (hm:m.length<=M):de a m=bh a m:=by
 obtain⟨r,r1,r2,_⟩:=UY h.awf h.ale hm;rw[r1,r2]
theorem PT {a:xk} (h:A2 a) {m:List Int} (hb:A3 m) (hm:m.length<=M):∃r,bh a m=some r/\de a m=some r/\A2 r/\zH r+xK r<=zH a+xK a+1:=by
 by_cases hc:(x8 a).length<6/\xK a<1000000
 · have e:=US h hm hc.1 hc.2;exact⟨_,e,(PS h hm).trans e,QQ h hb hm hc.1 hc.2,by show zH a+(xK a+1)<=_;omega⟩
 · have e:=UT h (m:=m) hc;refine⟨_,e,(PS h hm).trans e,Tu h,?_⟩;obtain⟨l1,l2⟩:=ye h.lo;show Bt (zH a)+xK a<=_
   unfold Bt min2;rw[xN (by omega) (by omega)];split<;>omega
theorem YL {l:List xa} (hn:l.length<=1000):iZ l=some (l.filterMap zp):=by
 unfold iZ;obtain⟨v,e1,rfl⟩:=xG (step:=λz:Int×List xa=>cX l z.1 z.2) (λk z=>z=((k:Int),(l.take k).filterMap zp)) l.length (λv=>v=l.filterMap zp)
  (λk z hk e=>by
   subst e;refine .inl ⟨_,?_,rfl⟩;have hfl:((l.take k).filterMap zp).length<=k:=Nat.le_trans (List.length_filterMap_le _ _) (by rw[length_take];omega)
   have t1:l.take (k+1)=l.take k++[l[k]]:=by rw[take_add_one,List.getElem?_eq_getElem hk];rfl
   have t2:(l.take (k+1)).filterMap zp=(l.take k).filterMap zp++(match zp l[k]with|some y=>[y]|none=>[]):=by
    rw[t1,List.filterMap_append]
    congr 1
    cases hq:zp l[k]with
    | none=>rw[List.filterMap_cons_none hq];rfl
    | some y=>rw[List.filterMap_cons_some hq];rfl
   have ha:∀y:xa,app ((l.take k).filterMap zp) [y]=some ((l.take k).filterMap zp++[y]):=λy=>xh (by show _+1<=_;omega);show cX l (k:Int) _=_
   unfold cX;rw[xI (by omega),cT,xo hk,wX,xj (by omega),t2];cases hs:l[k].2.2.2.2 with
   | true =>
    have hq:zp l[k]=some l[k]:=by unfold zp;rw[hs];rfl
    rw[hq];simp only[cT,ha,wX]
   | false =>
    simp only[cF];by_cases h4:l[k].2.2.2.1>=4
    · have hq:zp l[k]=none:=by unfold zp;rw[hs,dT h4];rfl
      rw[hq,xu (by omega)];simp only[cF,append_nil]
    · have hq:zp l[k]=some (l[k].1,l[k].2.1,l[k].2.2.1,wZ (l[k].2.2.2.1+1),false):=by unfold zp;rw[hs,dF h4];rfl
      rw[hq,xI (by omega)];simp only[cT,ha,wX])
  (λz e=>by
   subst e;refine⟨_,?_,rfl⟩;show cX l (l.length:Int) _=_
   unfold cX;rw[xu (by omega),cF,take_length]) (x:=(0,[])) rfl
 have e1:loop (λz=>cX l z.1 z.2) (0,[])=some (l.filterMap zp):=e1;rw[e1,wX]
theorem Wn {b:wY} (h:y9 b):dc b=some (Eo b):=by
 have hf:=Id h.f;obtain⟨r,r1,r2,_⟩:=Ng (Oe h);obtain⟨c1,_⟩:=Ap (BM h.ok).1;have e:BT (Na b)=r:=by unfold BT;rw[r1];rfl
 unfold dc Eo;rw[yW h.le,wX,Dw h.w,wX,h.ok,Bool.not_true,cF,Ol c1,wX,YL (by have:=hf.n;omega),wX,e];have r2':ba (b.1,b.2.1,b.2.2.1,b.2.2.2.1.filterMap zp,b.2.2.2.2.1,b.2.2.2.2.2.1,Bt b.2.2.2.2.2.2.1,b.2.2.2.2.2.2.2.1,b.2.2.2.2.2.2.2.2.1,b.2.2.2.2.2.2.2.2.2.1,b.2.2.2.2.2.2.2.2.2.2)=some r:=r2
 rw[r2',wX]
theorem Sp {b:wY} (h:AC b) (hl:Ar M b):∃r,bI b=some r/\dc b=some r/\(xQ b=true->y9 r)/\(xQ b=false->r=b):=by
 cases hp:xQ b with
 | true =>
  have hB:=Dx h hp;obtain⟨t1,t2,_⟩:=QT hB;exact⟨_,t1,Wn hB,λ_=>t2,(λh=>by cases h)⟩
 | false =>
  refine⟨b,?_,?_,(λh=>by cases h),λ_=>rfl⟩
  · unfold bI;rw[yn hl,wX,By h,wX,hp];rfl
  · unfold dc;rw[yW hl,wX,Dw h,wX,hp];rfl
theorem Sq {α β:Type} {f g:α->Option (α⊕β)} (xR:Nat->α->Prop) (m:Nat) (h:∀k x,k<m->xR k x->∃y,f x=some (.inl y)/\g x=some (.inl y)/\xR (k+1) y) (he:∀x,xR m x->∃b,f x=some (.inr b)/\g x=some (.inr b)) {x:α} (h0:xR 0 x):∃b,loop f x=some b/\loop g x=some b:=by
 have key:∀n k x,k+n=m->xR k x->∃b,zY f (n+1) x=some b/\zY g (n+1) x=some b:=by
  intro n
  induction n with
  | zero =>
   intro k x hk hx;obtain rfl:k=m:=by omega
   obtain⟨b,h1,h2⟩:=he x hx;exact⟨b,by rw[yh,h1];rfl,by rw[yh,h2];rfl⟩
  | succ n ih =>
   intro k x hk hx;obtain⟨y,h1,h2,h3⟩:=h k x (by omega) hx;obtain⟨b,h4,h5⟩:=ih (k+1) y (by omega) h3;exact⟨b,by rw[yh,h1];exact h4,by rw[yh,h2];exact h5⟩
 obtain⟨b,h1,h2⟩:=key m 0 x (by omega) h0;exact⟨b,AH h1,AH h2⟩
def DY (a:xk):Prop:=LH a/\FY M a/\∀j∈x8 a,A3 j.2.1
theorem A2.any {a:xk} (h:A2 a):DY a:=⟨h.awf,h.ale,λj hj=>(h.j j hj).byt⟩
def Sr (n:Nat) (p:xE):Prop:=p.2.2.2.2.length<=n/\∀x∈p.2.2.2.2,EC M x
theorem Sr.le {n:Nat} {p:xE} (h:Sr n p) (hn:n<=1000):zz M p:=⟨by have:=h.1;show _<=1048576;omega,h.2⟩
theorem Sr.up {n m:Nat} {p:xE} (h:Sr n p) (hn:n<=m):Sr m p:=⟨Nat.le_trans h.1 hn,h.2⟩
theorem PU {b:wY} (h:AC b) (hb:Ar M b) {p:xE} (hp:zz M p):Ar M (z7 b p).1/\zz M (z7 b p).2.1/\((z7 b p).2.2=false->(z7 b p).1=b):=by
 have h0:zz M (0,0,0,0,[]):=⟨by show 0<=1048576;decide,λx hx=>by cases hx⟩;unfold z7;cases he:FW b p with
 | false=>exact⟨hb,h0,λ_=>rfl⟩
 | true =>
  unfold FW at he;simp only[aT]at he;obtain⟨e1,e2,e3⟩:=he;have hdn:y9 (Bc b p).1:=by
   have:=Lv (Dx h e1) p;unfold z7 FW at this;rw[e1,e2,e3]at this;exact this
  exact⟨hdn.le,IY (UL (Sg e2)),λhc=>by cases hc⟩
theorem Wo {p:xE} (hp:zz M p):zz M (Ce p):=by
 unfold Ce;cases yN (162,p.2.1,6,1,p.2.2.2.2)with
 | true=>exact hp
 | false=>exact⟨by show 0<=1048576;decide,λx hx=>by cases hx⟩
theorem Wp (w:List UInt8) {b:wY} (hb:y9 b) {j:xH} (h:EH j) {d:List xX} (hd:(B0 w b j).2=.gone d):∀x∈d,zz M x.2:=by
 have one:∀{y:xX} {x:xX},zz M y.2->x∈[y]->zz M x.2:=λhy hx=>by rw[mem_singleton.1 hx];exact hy
 unfold B0 at hd;cases h0:(j.2.2.1==0)with
 | true =>
  rw[h0,cT]at hd;cases h1:((yu w j.2.1).2==3)with
  | true=>rw[h1]at hd;cases hd;intro x hx;cases hx
  | false =>
   rw[h1,cF]at hd;cases h2:((yu w j.2.1).2 != 0||((yu w j.2.1).1.1==162))with
   | true=>rw[h2]at hd;cases hd;intro x hx;cases hx
   | false=>rw[h2]at hd;cases hd
 | false =>
  rw[h0,cF]at hd;cases h1:(j.2.2.1==2)with
  | true =>
   rw[h1,cT]at hd;cases h2:(j.2.2.2.1 != 163)with
   | true=>rw[h2]at hd;cases hd;exact λx hx=>one (PU h.bw h.bl h.pl).2.1 hx
   | false =>
    rw[h2,cF]at hd;cases h3:(b.2.2.2.2.2.2.2.2.2.2==(jB j).2.2.2.2.2.2.2.2.2.2)with
    | true=>rw[h3]at hd;cases hd;exact λx hx=>one (PU hb.w hb.le h.pl).2.1 hx
    | false =>
     rw[h3,cF]at hd;cases h4:decide (xT j>=3)with
     | true=>rw[h4]at hd;cases hd;exact λx hx=>one (Wo h.pl) hx
     | false=>rw[h4]at hd;cases hd
  | false =>
   rw[h1,cF]at hd;cases h2:decide (AO j<((jP j).2.2.2.2.length:Int))with
   | true=>rw[h2]at hd;cases hd
   | false=>rw[h2]at hd;cases hd
theorem Wr {a:xk} (h:A2 a) {k:Nat} (hk:k<(x8 a).length):∀x∈(Cf a k (x8 a)[k]).2,zz M x.2:=by
 have hs:=λd=>Wp (aW a) h.b (h.j _ (getElem_mem hk)) (d:=d);unfold Cf;cases hf:(B0 (aW a) (aB a) (x8 a)[k]).2 with
 | stay j'=>intro x hx;cases hx
 | gone d=>exact hs d hf
theorem YM {b:wY} (h:y9 b) (i:Int) (f:zc):∃r,aO b i f=some r/\y9 r.1/\r.2.length<=6:=by
 have s:=h.sok;have hn:=h.n6
 have hv:=s.v;have hq:=s.q
 obtain⟨q1,q2,q3,q4,q5⟩:=Ap (BM h.ok).1;have hfb:=Id h.f
 unfold aO;rw[yn h.le,wX,Ec h,wX];cases hp:xe i 0 ((b.2.2.1.length:Int)-1)with
 | false=>exact⟨(b,[]),rfl,h,Nat.zero_le _⟩
 | true =>
 rw[Bool.not_true,cF,Og,wX,wX];cases hf:EB f with
 | false=>exact⟨(b,[]),rfl,h,Nat.zero_le _⟩
 | true =>
 have hlen:f.2.2.2.length<=20:=by
  unfold EB at hf;simp only[aT,decide_eq_true_eq]at hf;omega
 obtain⟨p0,p1⟩:=ye hp;obtain⟨k,rfl⟩:∃k:Nat,i=(k:Int):=⟨i.toNat,by omega⟩;have hk:k<b.2.2.1.length:=by omega
 obtain⟨c,_,hc,_⟩:=LF b.1 (l:=b.2.2.1) (by omega);obtain⟨cl,hcl⟩:=Oh (v:=(b.2.2.2.2.1,b.2.2.2.2.2.1)) hv (by show b.2.2.2.2.2.1.length<=6;omega) (k:=k) (by show k<b.2.2.2.2.2.1.length;omega) f.2.2.1;obtain⟨t,ht,_⟩:=Ie (c:Int) (k:=k) (by omega);rw[Bool.not_true,cF,hc,wX,hcl,wX,ht,wX];have hdrop:∃r,((au b.2.2.2.2.2.2.2.2.2.1).bind λt51=>some ((b.1,b.2.1,b.2.2.1,b.2.2.2.1,b.2.2.2.2.1,b.2.2.2.2.2.1,b.2.2.2.2.2.2.1,b.2.2.2.2.2.2.2.1,b.2.2.2.2.2.2.2.2.1,t51,b.2.2.2.2.2.2.2.2.2.2),([]:List xC)))=some r/\y9 r.1/\r.2.length<=6:=by
  rw[Dd,wX];have s':=Lx s hfb (d:=Bt b.2.2.2.2.2.2.2.2.2.1) (v:=b.2.2.2.2.2.2.2.2.2.2) (Du q4) q5
  exact⟨_,rfl,Dx (Hw s' s'.le) (s'.ok h.v),Nat.zero_le _⟩
 cases t with
 | false=>rw[Bool.not_false,cT,wX,cT];exact hdrop
 | true =>
 rw[Bool.not_true,cF,wX];cases cl.2 with
 | false=>rw[Bool.not_false,cT];exact hdrop
 | true =>
 rw[Bool.not_true,cF];obtain⟨F,hF,hFB⟩:=Of hfb cl.1 f.2.1 (k:Int);rw[hF,wX,Dd,wX];have s':=Lx s hFB (d:=b.2.2.2.2.2.2.2.2.2.1) (v:=Bt b.2.2.2.2.2.2.2.2.2.2) q4 (Du q5)
 have hB:=Dx (Hw s' s'.le) (s'.ok h.v);cases f.1 != 0 with
 | true =>
  obtain⟨u,hu⟩:=Ua hFB.n cl.1 f.1;obtain⟨o,o1,o6⟩:=PQ hn (λz=>aw b (k:Int) f (c:Int) cl u z.1 z.2) (λj out hj ho=>by
   obtain⟨o,o1,o2⟩:=Wg h (k:Int) hlen (c:Int) cl (λk=>cond (decide (u<0)) (some true) (some (u==k))) (λk=>by cases decide (u<0)<;>exact⟨_,rfl⟩) hj ho;refine⟨o,o1,?_⟩;show aw b (k:Int) f (c:Int) cl u (j:Int) out=_
   unfold aw;rw[xI (by omega),cT];exact o2) (λout=>by
   show aw b (k:Int) f (c:Int) cl u (b.2.2.1.length:Int) out=_;unfold aw;rw[xu (by omega),cF])
  rw[cT,hu,wX];exact⟨_,xP o1 rfl,hB,o6⟩
 | false =>
  obtain⟨o,o1,o6⟩:=PQ hn (λz=>ax b (k:Int) f (c:Int) cl z.1 z.2) (λj out hj ho=>by
   obtain⟨o,o1,o2⟩:=Wg h (k:Int) hlen (c:Int) cl (λk=>cond (decide ((-1:Int)<0)) (some true) (some ((-1)==k))) (λk=>⟨true,rfl⟩) hj ho;refine⟨o,o1,?_⟩;show ax b (k:Int) f (c:Int) cl (j:Int) out=_
   unfold ax;rw[xI (by omega),cT];exact o2) (λout=>by
   show ax b (k:Int) f (c:Int) cl (b.2.2.1.length:Int) out=_;unfold ax;rw[xu (by omega),cF])
  rw[cF];exact⟨_,xP o1 rfl,hB,o6⟩
def Ud (x:Act):zc:=(x.2.2.2.2.1,x.2.2.2.2.2.1,x.2.2.2.2.2.2.1,x.2.2.2.2.2.2.2.1)
def Ws (x:Act):BR:=x.2.2.2.2.2.2.2.2
noncomputable def oB (b:wY) (x:Act):Option (wY×List xC) :=
 if x.1=3 then aO b x.2.1 (Ud x)else if x.1=4 then (bG b x.2.1 (Ws x)).bind λr=>some (r,[])
 else if x.1=5 then (bH b x.2.1 x.2.2.1).bind λr=>some (r,[])else if x.1=6 then (bI b).bind λr=>some (r,[])else some (b,[])
theorem EY {b:wY} (h:AC b) (hp:xQ b=false) (i:Int):bo b i=some false:=by
 unfold bo;rw[By h,wX,hp];rfl
theorem Yx {b:wY} (h:AC b) (hl:Ar M b) (x:Act):∃r,oB b x=some r/\AC r.1/\Ar M r.1/\r.2.length<=6/\(xQ b=true->y9 r.1)/\(xQ b=false->r=(b,[])):=by
 cases hp:xQ b with
 | false =>
  have e:oB b x=some (b,[]):=by
   unfold oB;split
   · unfold aO;rw[yn hl,EY h hp];rfl
   · split
     · unfold bG;rw[yn hl,EY h hp];rfl
     · split
       · unfold bH;rw[yn hl,EY h hp];rfl
       · split
         · unfold bI;rw[yn hl,By h,hp];rfl
         · rfl
  exact⟨_,e,h,hl,Nat.zero_le _,(λh=>by cases h),λ_=>rfl⟩
 | true =>
  have hB:=Dx h hp;have ok:∀{r:wY×List xC},oB b x=some r->y9 r.1->r.2.length<=6->∃r,oB b x=some r/\AC r.1/\Ar M r.1/\r.2.length<=6/\(true=true->y9 r.1)/\(true=false->r=(b,[])):=λe k hn=>⟨_,e,k.w,k.le,hn,λ_=>k,λh=>by cases h⟩
  unfold oB at ok ⊢;split
  · rename_i h3;obtain⟨r,r1,r2,r3⟩:=YM hB x.2.1 (Ud x);exact⟨r,r1,r2.w,r2.le,r3,λ_=>r2,λh=>by cases h⟩
  · split
    · obtain⟨r,r1,r2⟩:=U9 hB x.2.1 (Ws x);exact⟨(r,[]),by rw[r1];rfl,r2.w,r2.le,Nat.zero_le _,λ_=>r2,λh=>by cases h⟩
    · split
      · obtain⟨r,r1,r2⟩:=U8 hB x.2.1 x.2.2.1;exact⟨(r,[]),by rw[r1];rfl,r2.w,r2.le,Nat.zero_le _,λ_=>r2,λh=>by cases h⟩
      · split
        · obtain⟨r1,r2,_⟩:=QT hB;exact⟨(Eo b,[]),by rw[r1];rfl,r2.w,r2.le,Nat.zero_le _,λ_=>r2,λh=>by cases h⟩
        · exact⟨(b,[]),rfl,h,hl,Nat.zero_le _,λ_=>hB,λh=>by cases h⟩
theorem Wt (a:xk) {x:Act} (h3:3<=x.1) {r:wY×List xC} (e:oB (aB a) x=some r):br a x=some (yR r.1 (aW a) (x8 a) (zH a) (xK a),r.2,[]):=by
 unfold br;rw[show (x.1==1)=false from beq_eq_false_iff_ne.2 (by omega),cF,show (x.1==2)=false from beq_eq_false_iff_ne.2 (by omega),cF];unfold oB at e;by_cases k3:x.1=3
 · rw[if_pos k3]at e;rw[show (x.1==3)=true from beq_iff_eq.2 k3,cT];exact xP e rfl
 rw[if_neg k3]at e;rw[beq_eq_false_iff_ne.2 k3,cF];by_cases k4:x.1=4
 · rw[if_pos k4]at e;rw[show (x.1==4)=true from beq_iff_eq.2 k4,cT];obtain⟨q,q1,q2⟩:=Option.bind_eq_some_iff.1 e;cases q2;exact xP q1 rfl
 rw[if_neg k4]at e;rw[beq_eq_false_iff_ne.2 k4,cF];by_cases k5:x.1=5
 · rw[if_pos k5]at e;rw[show (x.1==5)=true from beq_iff_eq.2 k5,cT];obtain⟨q,q1,q2⟩:=Option.bind_eq_some_iff.1 e;cases q2;exact xP q1 rfl
 rw[if_neg k5]at e;rw[beq_eq_false_iff_ne.2 k5,cF];by_cases k6:x.1=6
 · rw[if_pos k6]at e;rw[show (x.1==6)=true from beq_iff_eq.2 k6,cT];obtain⟨q,q1,q2⟩:=Option.bind_eq_some_iff.1 e;cases q2;exact xP q1 rfl
 rw[if_neg k6]at e;rw[beq_eq_false_iff_ne.2 k6,cF];cases e;rfl
noncomputable def Ss (b:wY) (x:Act):wY:=((oB b x).getD (b,[])).1
theorem On {b:wY} {x:Act} {r:wY×List xC} (e:oB b x=some r):Ss b x=r.1:=by unfold Ss;rw[e];rfl
noncomputable def C3 (a:xk) (x:Act):xk×List xC×List xX:=(bZ a x).getD (a,[],[])
noncomputable def EZ:List Act->xk->List xC->List xX->xk×List xC×List xX
 | [],a,o,d=>(a,o,d)
 | x::l,a,o,d=>EZ l (C3 a x).1 (o++(C3 a x).2.1) (d++(C3 a x).2.2)
abbrev Wu:=Int×Int×List UInt8×Int×Int×Int×Int×Int×List UInt8×Int×Int×List xC×List xX×List Pt×List xa×List xq×List Int×List xH
def J1 (i:Int) (a:xk) (o:List xC) (d:List xX):Wu:=(i,a.1,a.2.1,a.2.2.2.2.2.2.1,a.2.2.2.2.2.2.2.1,a.2.2.2.2.2.2.2.2.1,a.2.2.2.2.2.2.2.2.2.1,a.2.2.2.2.2.2.2.2.2.2.1,a.2.2.2.2.2.2.2.2.2.2.2.1,a.2.2.2.2.2.2.2.2.2.2.2.2.2.1,a.2.2.2.2.2.2.2.2.2.2.2.2.2.2,o,d,a.2.2.1,a.2.2.2.1,a.2.2.2.2.1,a.2.2.2.2.2.1,a.2.2.2.2.2.2.2.2.2.2.2.2.1)
noncomputable def Kk (l:List Act) (z:Wu):=gH l z.1 z.2.1 z.2.2.1 z.2.2.2.1 z.2.2.2.2.1 z.2.2.2.2.2.1 z.2.2.2.2.2.2.1 z.2.2.2.2.2.2.2.1 z.2.2.2.2.2.2.2.2.1 z.2.2.2.2.2.2.2.2.2.1 z.2.2.2.2.2.2.2.2.2.2.1 z.2.2.2.2.2.2.2.2.2.2.2.1 z.2.2.2.2.2.2.2.2.2.2.2.2.1 z.2.2.2.2.2.2.2.2.2.2.2.2.2.1 z.2.2.2.2.2.2.2.2.2.2.2.2.2.2.1 z.2.2.2.2.2.2.2.2.2.2.2.2.2.2.2.1 z.2.2.2.2.2.2.2.2.2.2.2.2.2.2.2.2.1 z.2.2.2.2.2.2.2.2.2.2.2.2.2.2.2.2.2
def Be (e:xa):Bool->List xa->List xa
 | false,[]=>[e]
 | true,[]=>[]
 | false,x::t=>if BN x e=true then x::Be e false t else e::(if B5 x e=true then x::Be e true t else Be e true t)
 | true,x::t=>if B5 x e=true then x::Be e true t else Be e true t
theorem Oo {x e:xa} (h:lt x e):BN x e=true:=by
 cases hb:BN x e with
 | true=>rfl
 | false =>
  exfalso;have:=SD hb
  unfold lt same at *;omega
theorem MQ {x e:xa} (h:lt e x\/same x e):BN x e=false:=by
 cases hb:BN x e with
 | false=>rfl
 | true =>
  exfalso;have:=OH hb
  unfold lt same at *;omega
theorem Kl {x e:xa} (h:¬same x e):B5 x e=true:=by
 cases hb:B5 x e with
 | true=>rfl
 | false=>exact absurd (Pk hb) h
theorem Su {x e:xa} (h:same x e):B5 x e=false:=by
 cases hb:B5 x e with
 | false=>rfl
 | true=>exact absurd h (Ra hb)
theorem J2 {e:xa}:∀{l:List xa},(∀x∈l,¬same x e)->Be e true l=l
 | [],_=>rfl
 | x::t,h=>by
  unfold Be;rw[if_pos (Kl (h x (by simp))),J2 λy hy=>h y (mem_cons_of_mem _ hy)]
theorem Oq {e:xa}:∀{l:List xa} {k:Nat} (hk:k<l.length),l.Pairwise lt->same l[k] e->Be e false l=l.set k e
 | x::t,0,_,hp,hs=>by
  have hs':same x e:=hs;unfold Be;rw[if_neg (by rw[MQ (.inr hs')];simp),if_neg (by rw[Su hs'];simp),J2 λy hy=>by
   have:=(pairwise_cons.1 hp).1 y hy;unfold lt same at *;omega]
  rfl
 | x::t,k+1,hk,hp,hs=>by
  have hs':same (t[k]'(by simpa using hk)) e:=hs;have:=(pairwise_cons.1 hp).1 _ (getElem_mem (by simpa using hk:k<t.length))
  unfold Be;rw[if_pos (Oo (by unfold lt same at *;omega)),Oq (by simpa using hk) (pairwise_cons.1 hp).2 hs'];rfl
theorem PV {e:xa}:∀{l:List xa} {d:Nat},l.Pairwise lt->(∀x∈l,¬same x e)->(∀x∈l.take d,lt x e)->(∀x,l[d]?=some x->lt e x)->Be e false l=l.take d++e::l.drop d
 | [],d,_,_,_,_=>by simp[Be]
 | x::t,0,hp,hn,_,h2=>by
  unfold Be;rw[if_neg (by rw[MQ (.inl (h2 x rfl))];simp),if_pos (Kl (hn x (by simp))),J2 λy hy=>hn y (mem_cons_of_mem _ hy)];rfl
 | x::t,d+1,hp,hn,h1,h2=>by
  unfold Be;rw[if_pos (Oo (h1 x (by simp))),PV (d:=d) (pairwise_cons.1 hp).2 (λy hy=>hn y (mem_cons_of_mem _ hy)) (λy hy=>h1 y (by rw[List.take_succ_cons];exact mem_cons_of_mem _ hy)) (λy hy=>h2 y (by simpa using hy))];rfl
theorem XM {l:List xa} (hn:l.length<=1000) (e:xa):iU l e=some (Be e false l):=by
 obtain⟨d,hd,g⟩:=xG (step:=λz:Bool×Int×List xa=>cV l e z.1 z.2.1 z.2.2)
  (λk z=>z.2.1=(k:Int)/\z.2.2++Be e z.1 (l.drop k)=Be e false l/\z.2.2.length<=2*k) l.length
  (λz=>z.2++Be e z.1 []=Be e false l/\z.2.length<=2000)
  (λk z hk ⟨z1,z2,z3⟩=>by
   obtain⟨t,i,b⟩:=z;simp only at z1 z2 z3;subst z1;left;have ha:∀(xs:List xa) (y:xa),xs.length<=2001->app xs [y]=some (xs++[y]):=λxs y h=>xh (by show xs.length+1<=_;omega)
   have hs:cV l e t (k:Int) b=cond (!t&&!(BN l[k] e))
    (cond (B5 l[k] e) (some (.inl (true,((k+1:Nat):Int),b++[e]++[l[k]]))) (some (.inl (true,((k+1:Nat):Int),b++[e]))))
    (cond (B5 l[k] e) (some (.inl (t,((k+1:Nat):Int),b++[l[k]]))) (some (.inl (t,((k+1:Nat):Int),b)))):=by
    have hA:ce l[k] e.1 e.2.1=some (BN l[k] e):=by unfold ce BN;cases (l[k].1 != e.1)<;>rfl
    have hO:(cond (l[k].1 != e.1) (some true) (some (l[k].2.1 != e.2.1)))=some (B5 l[k] e):=by unfold B5;cases (l[k].1 != e.1)<;>rfl
    unfold cV;simp only[xI (show (k:Int)<(l.length:Int) by omega),cT,xo hk,wX,xj (show k<9223372036854775807 by omega),hA,hO,ha b e (by omega),ha b l[k] (by omega),ha (b++[e]) l[k] (by rw[length_append];show b.length+1<=_;omega)];cases t<;>cases BN l[k] e<;>rfl
   show ∃y,cV l e t (k:Int) b=_/\_;rw[hs];have hd:l.drop k=l[k]::l.drop (k+1):=List.drop_eq_getElem_cons hk
   rw[hd]at z2;generalize hG:Be e false l=G at z2 ⊢;cases t with
   | true =>
    unfold Be at z2;rw[Bool.not_true,Bool.false_and,cF];cases ho:B5 l[k] e with
    | true =>
     rw[if_pos ho]at z2;exact⟨_,rfl,rfl,by simpa using z2,by simp;omega⟩
    | false =>
     rw[if_neg (by rw[ho];simp)]at z2;exact⟨_,rfl,rfl,by simpa using z2,by simp;omega⟩
   | false =>
    unfold Be at z2;rw[Bool.not_false,Bool.true_and];cases hq:BN l[k] e with
    | true =>
     rw[if_pos hq]at z2;rw[Bool.not_true,cF,Kl (Yh (OH hq)),cT];exact⟨_,rfl,rfl,by simpa using z2,by simp;omega⟩
    | false =>
     rw[if_neg (by rw[hq];simp)]at z2;rw[Bool.not_false,cT];cases ho:B5 l[k] e with
     | true =>
      rw[if_pos ho]at z2;exact⟨_,rfl,rfl,by simpa using z2,by simp;omega⟩
     | false =>
      rw[if_neg (by rw[ho];simp)]at z2;exact⟨_,rfl,rfl,by simpa using z2,by simp;omega⟩)
  (λz ⟨z1,z2,z3⟩=>by
   obtain⟨t,i,b⟩:=z;simp only at z1 z2 z3;subst z1;rw[List.drop_length]at z2;refine⟨(t,b),?_,z2,by show b.length<=2000;have:b.length<=2*l.length:=z3;omega⟩;show cV l e t _ b=_
   unfold cV;rw[xu (by omega),cF]) (x:=(false,0,[])) ⟨rfl,rfl,by simp⟩
 unfold iU;rw[hd,wX];obtain⟨t,b⟩:=d;simp only at g ⊢;cases t with
 | true=>rw[Bool.not_true,cF,←g.1];simp[Be]
 | false=>rw[Bool.not_false,cT,xh (by show b.length+1<=_;omega),wX,←g.1];rfl
theorem XN {l:List xa} (h:FB l) (e:xa):∃y,cC l e=some y/\(((∃x∈l,same x e)\/l.length<12)->y.1=Be e false l)/\(¬((∃x∈l,same x e)\/l.length<12)->y.1=l):=by
 have hn:=h.n;have hM:M=1048576:=rfl
 unfold cC;rw[Ef (by omega),wX,G0 (by omega),wX];rcases Cm l e.1 e.2.1 with ⟨h1,h2⟩|⟨k,hk,h1,h2,h3⟩
 · rw[h1,dF (by decide),cF];have hns:∀x∈l,¬same x e:=λx hx hs=>h2 x hx hs
   by_cases h12:(l.length:Int)>=12
   · rw[dT h12,cT];refine⟨_,rfl,λhc=>?_,λ_=>rfl⟩;rcases hc with ⟨x,hx,hs⟩|hc
     · exact absurd hs (hns x hx)
     · omega
   · rw[dF h12,cF];obtain⟨d,d1,k,d2,d3,d4,d5⟩:=xG (step:=λz:Int=>aY l e z) (λk z=>z=(k:Int)/\∀x∈l.take k,zl x e.1 e.2.1=false) l.length (λd=>∃k:Nat,d=(k:Int)/\k<=l.length/\(∀x∈l.take k,zl x e.1 e.2.1=false)/\∀hk:k<l.length,zl l[k] e.1 e.2.1=true)
      (λk z hk ⟨e1,e2⟩=>by
       subst e1;have hst:∀q,zl l[k] e.1 e.2.1=q->aY l e (k:Int)=cond (!q) (some (.inl ((k+1:Nat):Int))) (some (.inr (k:Int))):=λq hq=>by
        unfold aY;rw[xI (by omega),cT,xo hk,wX,Me,wX,wX,hq,xj (by omega)]
       cases hq:zl l[k] e.1 e.2.1 with
       | true=>exact .inr ⟨_,hst true hq,k,rfl,by omega,e2,λ_=>hq⟩
       | false =>
        refine .inl ⟨_,hst false hq,rfl,λx hx=>?_⟩;rw[take_add_one,List.getElem?_eq_getElem hk]at hx;rcases mem_append.1 hx with hx|hx
        · exact e2 x hx
        · simp at hx;rw[hx];exact hq)
      (λz ⟨e1,e2⟩=>by
       subst e1;refine⟨_,?_,l.length,rfl,Nat.le_refl _,e2,λhk=>absurd hk (by omega)⟩;show aY l e (l.length:Int)=_
       unfold aY;rw[xu (by omega),cF,wX,cF]) (x:=0) ⟨rfl,by simp⟩
     subst d2;have c1:cut l 0 (k:Int)=some (l.take k):=by
      have:=As (l:=l) (a:=0) (b:=k) (by omega) d3;simpa using this
     have c2:cut l (k:Int) (l.length:Int)=some (l.drop k):=by
      have:=As (l:=l) (a:=k) (b:=l.length) d3 (Nat.le_refl _);rw[take_length]at this;exact this
     have hl1:(l.take k).length<=12:=by rw[length_take];omega
     have hl2:(l.drop k).length<=12:=by rw[length_drop];omega
     refine⟨_,xP d1 (by rw[c1,wX,Ef (by omega),wX,xh (by show (l.take k).length+1<=_;omega),wX,c2,wX,xh (by rw[length_append];show (l.take k).length+1+(l.drop k).length<=_;omega),wX]),λ_=>?_,λhc=>absurd (.inr (by omega)) hc⟩;rw[PV h.o hns (λx hx=>Lw (d4 x hx) (h2 x (mem_of_mem_take hx))) (λx hx=>by
      have hk:k<l.length:=(List.getElem?_eq_some_iff.1 hx).1;rw[List.getElem?_eq_getElem hk]at hx;cases hx;exact J0 (d5 hk))]
     simp
 · rw[h1,dT (by omega),cT,yE hk,wX,List.getElem?_eq_getElem hk,wX];refine⟨_,rfl,λ_=>?_,λhc=>absurd (.inl ⟨l[k],getElem_mem hk,h2,h3⟩) hc⟩;rw[Oq hk h.o ⟨h2,h3⟩]

theorem QZ {l:List xa} (h:FB l) (tag mac port:Int):iV l tag mac port=dM l tag mac port:=by
 have hn:=h.n;have hl:l.length<=M:=by show _<=1048576;omega
 obtain⟨y,y1,y2,y3⟩:=XN h (tag,mac,port,0,false);unfold iV dM;rw[G0 (by omega),Mh (by omega),TA (by omega),WW (by omega),Ui,Nb,h.ok,Ef hl,OJ hl,XM (by omega),y1];simp only[wX,Bool.not_true,cF];cases Ct (tag,mac,port,0,false)with
 | false=>rfl
 | true =>
  simp only[Bool.not_true,cF,wX];rcases Cm l tag mac with ⟨e,e1⟩|⟨k,hk,e,e1,e2⟩
  · rw[e];simp only[show decide ((-1:Int)>=0)=false from rfl,show decide ((-1:Int)<0)=true from rfl,cT,cF,wX];by_cases hlt:l.length<12
    · rw[dF (show ¬((l.length:Int)>=12) by omega),cF,y2 (.inr hlt)]
    · rw[dT (show ((l.length:Int)>=12) by omega),cT,y3 (λhc=>hc.elim (λ⟨x,hx,hs⟩=>e1 x hx ⟨hs.1,hs.2⟩) hlt)]
  · rw[e,dT (show (k:Int)>=0 by omega),dF (show ¬(k:Int)<0 by omega)];simp only[cT,cF,xo hk,wX];cases l[k].2.2.2.2 with
    | true=>rfl
    | false =>
     simp only[cF,wX,y2 (.inl ⟨l[k],getElem_mem hk,e1,e2⟩)]
theorem Ue:aP=ai:=rfl
theorem R0 (c:Int) {k:Nat} (hk:k<6):aQ c (k:Int)=ap c (k:Int):=by
 obtain⟨t,t1,t2⟩:=Ie c hk;rw[t1,t2]
theorem Wv (v:yl) {k:Nat} (hk:k<6) (tag:Int):iT v (k:Int) tag=dL v (k:Int) tag:=by
 unfold iT dL;simp only[Ad,CX,Ue,R0 _ hk]
theorem UZ:kk=bp:=rfl
theorem Ww (v:yl) (id:Int) {k:Nat} (hk:k<6):iY v id (k:Int)=bq v id (k:Int):=by
 unfold iY bq;simp only[Ue,R0 _ hk]
theorem Wx:kj=eT:=rfl
theorem LA {b:wY} (h:AC b) (i:Int):cY b i=bo b i:=by
 unfold cY bo;rw[Dw h,By h];simp only[Ad,CX]
theorem XO {f:zc} (h:f.2.2.2.length<=20) (t:Int):iX f t=some (f.1,f.2.1,t,f.2.2.2):=by
 unfold iX kl;rw[Ae (by show _<=1048576;omega)];rfl
theorem XP {l:List xa} (h:FB l) (tag mac:Int):∃u,dN l tag mac=some u/\iW l tag mac=some u/\(u = -1\/(0<=u/\u<=7)):=by
 have hn:=h.n;unfold dN iW;rw[G0 (by omega),Mh (by omega)];simp only[wX];rcases Cm l tag mac with ⟨e,_⟩|⟨k,hk,e,_,_⟩
 · rw[e];exact⟨-1,rfl,rfl,.inl rfl⟩
 · rw[e];simp only[dF (show ¬(k:Int)<0 by omega),cF,xo hk,wX];have hf:=h.e _ (getElem_mem hk)
   unfold Ct at hf;simp only[aT]at hf;have:=ye hf.2.2.1
   exact⟨_,rfl,rfl,.inr this⟩
theorem Wy {c:Nat} (hc:c<64) (e:Int):∃m:Nat,m<64/\zA .i64 (c:Int) e=(m:Int):=by
 have h:(BitVec.ofInt 64 (c:Int)&&&BitVec.ofInt 64 e).toNat<=c:=by
  rw[BitVec.toNat_and];refine Nat.le_trans Nat.and_le_left ?_;rw[BitVec.toNat_ofInt];omega
 refine⟨(BitVec.ofInt 64 (c:Int)&&&BitVec.ofInt 64 e).toNat,by omega,?_⟩;show IntKind.i64.wrap _=_
 exact xN (n:=(((BitVec.ofInt 64 (c:Int)&&&BitVec.ofInt 64 e).toNat:Nat):Int)) (by omega) (by omega)
def Wz:Bool:=(List.range 64).all λm=>(List.range 6).all λk=>match shl .i64 1 (IntKind.u64.wrap (k:Int))with
 | some s=>decide (0<=DA .i64 (m:Int) s)&&(decide (DA .i64 (m:Int) s<64)&&((List.range 6).all λj=>Bw (DA .i64 (m:Int) s).toNat (j:Int)==(((j:Int) != (k:Int))&&Bw m (j:Int))))
 | none=>false
theorem Ph:Wz=true:=by kernel_rfl
theorem YN {m:Nat} (hm:m<64) {k:Nat} (hk:k<6):∃s,shl .i64 1 (IntKind.u64.wrap (k:Int))=some s/\∃q:Nat,q<64/\DA .i64 (m:Int) s=(q:Int)/\∀j:Nat,j<6->Bw q (j:Int)=(((j:Int) != (k:Int))&&Bw m (j:Int)):=by
 have h:=all_eq_true.1 (all_eq_true.1 Ph m (mem_range.2 hm)) k (mem_range.2 hk);cases hs:shl .i64 1 (IntKind.u64.wrap (k:Int))with
 | none=>rw[hs]at h;cases h
 | some s =>
  rw[hs]at h;simp only[aT,decide_eq_true_eq,all_eq_true,beq_iff_eq,mem_range]at h;obtain⟨h1,h2,h3⟩:=h;exact⟨s,rfl,(DA .i64 (m:Int) s).toNat,by omega,by omega,h3⟩
def WA:Bool:=(List.range 64).all λm=>(List.range 8).all λu=>match shl .i64 1 (IntKind.u64.wrap (u:Int))with
 | some s=>decide (0<=zA .i64 (m:Int) s)&&(decide (zA .i64 (m:Int) s<64)&&((List.range 6).all λj=>Bw (zA .i64 (m:Int) s).toNat (j:Int)==(Bw m (j:Int)&&((u:Int)==(j:Int)))))
 | none=>false
theorem Pi:WA=true:=by kernel_rfl
theorem YO {m:Nat} (hm:m<64) {u:Nat} (hu:u<8):∃s,shl .i64 1 (IntKind.u64.wrap (u:Int))=some s/\∃q:Nat,q<64/\zA .i64 (m:Int) s=(q:Int)/\∀j:Nat,j<6->Bw q (j:Int)=(Bw m (j:Int)&&((u:Int)==(j:Int))):=by
 have h:=all_eq_true.1 (all_eq_true.1 Pi m (mem_range.2 hm)) u (mem_range.2 hu);cases hs:shl .i64 1 (IntKind.u64.wrap (u:Int))with
 | none=>rw[hs]at h;cases h
 | some s =>
  rw[hs]at h;simp only[aT,decide_eq_true_eq,all_eq_true,beq_iff_eq,mem_range]at h;obtain⟨h1,h2,h3⟩:=h;exact⟨s,rfl,(zA .i64 (m:Int) s).toNat,by omega,by omega,h3⟩
theorem WB {b:wY} (hn:b.2.2.1.length<=6) (hv:b.2.2.2.2.1.length<=6) {f:zc} (hf:f.2.2.2.length<=20) {k:Nat} {c:Nat} {cl:Int×Bool} {e:Int} (he:bp (b.2.2.2.2.1,b.2.2.2.2.2.1) cl.1=some e) {m:Nat} (hm:m<64) (hme:zA .i64 (c:Int) e=(m:Int)) {q:Nat}
 (Q:Int->Option Bool) (Qb:Nat->Bool) (hQ:∀j:Nat,j<6->Q (j:Int)=some (Qb j)) (hq:∀j:Nat,j<6->Bw q (j:Int)=(((j:Int) != (k:Int)&&Bw m (j:Int))&&Qb j))
 (stepI:Int×List xC->Option ((Int×List xC)⊕List xC))
 (hs:∀(j:Nat) (out:List xC),j<b.2.2.1.length->stepI ((j:Int),out)=((cond ((j:Int) != (k:Int)) ((bp (b.2.2.2.2.1,b.2.2.2.2.2.1) cl.1).bind λt89=>(ap (zA .i64 (c:Int) t89) (j:Int)).bind λt92=>some t92) (some false)).bind λt93 =>
  (cond t93 ((Q (j:Int)).bind λt101=>some t101) (some false)).bind λt102 =>
  cond t102 ((bq (b.2.2.2.2.1,b.2.2.2.2.2.1) cl.1 (j:Int)).bind λt110=>(bY f t110).bind λt111=>(app out [((j:Int),t111.1,t111.2.1,t111.2.2.1,t111.2.2.2)]).bind λzs114=>some (.inl (wZ ((j:Int)+1),zs114)))
   (some (.inl (wZ ((j:Int)+1),out)))))
 (he2:∀out:List xC,stepI ((b.2.2.1.length:Int),out)=some (.inr out)) :
 ∃o,loop stepI (0,[])=some o/\cW b cl.1 (q:Int) f=some o:=by
 obtain⟨o,h1,h2⟩:=Sq (f:=stepI) (g:=λz:Int×List xC=>em b cl.1 (q:Int) f z.1 z.2) (λj z=>z.1=(j:Int)/\z.2.length<=j) b.2.2.1.length
  (λj z hj ⟨z1,z2⟩=>by
   obtain⟨i,out⟩:=z;simp only at z1 z2;subst z1;obtain⟨g,hg⟩:=Oi (v:=(b.2.2.2.2.1,b.2.2.2.2.2.1)) hv cl.1 (k:=j) (by omega);have hap:app out [((j:Int),f.1,f.2.1,g,f.2.2.2)]=some (out++[((j:Int),f.1,f.2.1,g,f.2.2.2)]):=xh (by show out.length+1<=_;omega)
   have hb:Bw q (j:Int)=(((j:Int) != (k:Int)&&Bw m (j:Int))&&Qb j):=hq j (by omega);have hI:stepI ((j:Int),out)=cond (Bw q (j:Int)) (some (.inl (((j+1:Nat):Int),out++[((j:Int),f.1,f.2.1,g,f.2.2.2)]))) (some (.inl (((j+1:Nat):Int),out))):=by
    rw[hs j out hj,he,hb];simp only[wX,hme,YZ hm,hQ j (by omega),hg,Tv hf,hap,xj (show j<9223372036854775807 by omega)];cases (j:Int) != (k:Int)<;>cases Bw m (j:Int)<;>cases Qb j<;>rfl
   have hS:em b cl.1 (q:Int) f (j:Int) out=cond (Bw q (j:Int)) (some (.inl (((j+1:Nat):Int),out++[((j:Int),f.1,f.2.1,g,f.2.2.2)]))) (some (.inl (((j+1:Nat):Int),out))):=by
    unfold em;rw[dT (show (j:Int)<(b.2.2.1.length:Int) by omega),cT,YY,wX];simp only[Ww _ _ (show j<6 by omega),hg,wX,XO hf,hap,xj (show j<9223372036854775807 by omega)]
   cases hbit:Bw q (j:Int)with
   | true =>
    rw[hbit]at hI hS;exact⟨_,hI,hS,rfl,by show (out++[_]).length<=j+1;rw[length_append];show out.length+1<=j+1;omega⟩
   | false =>
    rw[hbit]at hI hS;exact⟨_,hI,hS,rfl,by show out.length<=j+1;omega⟩)
  (λz ⟨z1,z2⟩=>by
   obtain⟨i,out⟩:=z;simp only at z1 z2;subst z1;refine⟨out,he2 out,?_⟩;show em b cl.1 (q:Int) f (b.2.2.1.length:Int) out=_
   unfold em;rw[dF (show ¬(b.2.2.1.length:Int)<(b.2.2.1.length:Int) by omega),cF]) (x:=(0,[])) ⟨rfl,Nat.le_refl _⟩
 refine⟨o,h1,?_⟩;unfold cW;exact xP h2 rfl
theorem Or {b:wY} (h:AC b) (hl:Ar M b) (i:Int) (f:zc):da b i f=aO b i f:=by
 cases hp0:xQ b with
 | false =>
  unfold da aO;rw[yn hl,yW hl,LA h,EY h hp0];rfl
 | true =>
 have h:=Dx h hp0;have s:=h.sok
 have hn:=h.n6;have hv:=s.v
 have hq:=s.q;obtain⟨q1,q2,q3,q4,q5⟩:=Ap (BM h.ok).1;have hfb:=Id h.f
 unfold da aO;rw[yn h.le,yW h.le,wX,wX,LA h.w,Ec h,wX,wX];cases hp:xe i 0 ((b.2.2.1.length:Int)-1)with
 | false=>rfl
 | true =>
 rw[Bool.not_true,cF,cF,Wx,Og,wX,wX,wX];cases hf:EB f with
 | false=>rfl
 | true =>
 have hlen:f.2.2.2.length<=20:=by
  unfold EB at hf;simp only[aT,decide_eq_true_eq]at hf;omega
 obtain⟨p0,p1⟩:=ye hp;obtain⟨k,rfl⟩:∃k:Nat,i=(k:Int):=⟨i.toNat,by omega⟩;have hk:k<b.2.2.1.length:=by omega
 have hk6:k<6:=by omega
 obtain⟨c,hc64,hc,hcs⟩:=LF b.1 (l:=b.2.2.1) (by omega);obtain⟨cl,hcl⟩:=Oh (v:=(b.2.2.2.2.1,b.2.2.2.2.2.1)) hv (by show b.2.2.2.2.2.1.length<=6;omega) (k:=k) (by show k<b.2.2.2.2.2.1.length;omega) f.2.2.1;obtain⟨t,ht,_⟩:=Ie (c:Int) hk6;rw[Bool.not_true,cF,cF,hc,hcs,wX,wX,Wv _ hk6,hcl,wX,wX,R0 _ hk6,ht,wX,wX];have hst:∀{A B:Option (wY×List xC)},A=B->(cond (!t) (some true) (some (!cl.2))).bind (λt50=>cond t50 ((aH b.2.2.2.2.2.2.2.2.2.1).bind λt53=>some ((b.1,b.2.1,b.2.2.1,b.2.2.2.1,b.2.2.2.2.1,b.2.2.2.2.2.1,b.2.2.2.2.2.2.1,b.2.2.2.2.2.2.2.1,b.2.2.2.2.2.2.2.2.1,t53,b.2.2.2.2.2.2.2.2.2.2),([]:List xC))) A)=(cond (!t) (some true) (some (!cl.2))).bind (λt48=>cond t48 ((au b.2.2.2.2.2.2.2.2.2.1).bind λt51=>some ((b.1,b.2.1,b.2.2.1,b.2.2.2.1,b.2.2.2.2.1,b.2.2.2.2.2.1,b.2.2.2.2.2.2.1,b.2.2.2.2.2.2.2.1,b.2.2.2.2.2.2.2.2.1,t51,b.2.2.2.2.2.2.2.2.2.2),[])) B):=λe=>by
  rw[e,Ol q4,Dd]
 refine hst ?_;rw[QZ hfb,UZ];obtain⟨F,hF,hFB⟩:=Of hfb cl.1 f.2.1 (k:Int);obtain⟨e,he⟩:=Ma (v:=(b.2.2.2.2.1,b.2.2.2.2.2.1)) hv cl.1;obtain⟨m,hm,hme⟩:=Wy hc64 e;obtain⟨sh,hsh,q,hq64,hqe,hqb⟩:=YN hm hk6;rw[hF,wX,wX,Dd,Ol q5,wX,wX,he,wX,hsh,wX,hme];simp only[hqe];obtain⟨o1,a1,a2⟩:=WB hn hv hlen (k:=k) (c:=c) (cl:=cl) he hm hme (q:=q) (λj=>cond (decide ((-1:Int)<0)) (some true) (some ((-1)==j))) (λ_=>true) (λj hj=>rfl) (λj hj=>by rw[Bool.and_true];exact hqb j hj) (λz=>ax b (k:Int) f (c:Int) cl z.1 z.2)
  (λj out hj=>by
   show ax b (k:Int) f (c:Int) cl (j:Int) out=_;unfold ax;rw[xI (by omega),cT]) (λout=>by
   show ax b (k:Int) f (c:Int) cl (b.2.2.1.length:Int) out=_;unfold ax;rw[xu (by omega),cF])
 cases f.1 != 0 with
 | false =>
  rw[cF,cF,a2,wX]
  symm;exact xP a1 rfl
 | true =>
  obtain⟨u,u1,u2,u3⟩:=XP hFB cl.1 f.1;rw[cT,cT,u1,u2,wX,wX];have fin:∀(q:Nat),(∀j:Nat,j<6->Bw q (j:Int)=(((j:Int) != (k:Int)&&Bw m (j:Int))&&(decide (u<0)||(u==(j:Int)))))->∃o,loop (λz:Int×List xC=>aw b (k:Int) f (c:Int) cl u z.1 z.2) (0,[])=some o/\cW b cl.1 (q:Int) f=some o:=λq hq =>
   WB hn hv hlen (k:=k) (c:=c) (cl:=cl) he hm hme (q:=q) (λj=>cond (decide (u<0)) (some true) (some (u==j))) (λj=>decide (u<0)||(u==(j:Int))) (λj hj=>by cases decide (u<0)<;>rfl) hq _
   (λj out hj=>by
    show aw b (k:Int) f (c:Int) cl u (j:Int) out=_;unfold aw;rw[xI (by omega),cT]) (λout=>by
    show aw b (k:Int) f (c:Int) cl u (b.2.2.1.length:Int) out=_;unfold aw;rw[xu (by omega),cF])
  rcases u3 with rfl|⟨u3,u4⟩
  · obtain⟨o,b1,b2⟩:=fin q (λj hj=>by rw[show decide ((-1:Int)<0)=true from rfl,Bool.true_or,Bool.and_true];exact hqb j hj);rw[show decide ((-1:Int)>=0)=false from rfl,cF,b2,wX]
    symm;exact xP b1 rfl
  · obtain⟨n,rfl⟩:∃n:Nat,u=(n:Int):=⟨u.toNat,by omega⟩;obtain⟨s2,g1,q',g2,g3,g4⟩:=YO hq64 (u:=n) (by omega);obtain⟨o,b1,b2⟩:=fin q' (λj hj=>by rw[g4 j hj,hqb j hj,dF (show ¬(n:Int)<0 by omega),Bool.false_or]);rw[dT (show (n:Int)>=0 by omega),cT,g1,wX,g3,b2,wX]
    symm;exact xP b1 rfl
theorem Sv {b:wY} (h:AC b) (hl:Ar M b) (p:Int) (up:Bool):gj b p up=bH b p up:=by
 unfold gj bH;rw[yn hl,yW hl,wX,wX,LA h];cases hp0:xQ b with
 | false=>rw[EY h hp0];rfl
 | true =>
 have h:=Dx h hp0;have hn:=h.n6
 have s:=h.sok;rw[Ec h,wX,wX];cases hp:xe p 0 ((b.2.2.1.length:Int)-1)with
 | false=>rfl
 | true =>
  obtain⟨p0,p1⟩:=ye hp;obtain⟨k,rfl⟩:∃k:Nat,p=(k:Int):=⟨p.toNat,by omega⟩;have hk:k<b.2.2.1.length:=by omega
  have hq:Cr (up,b.2.2.1[k].2.1,false,0,0,0,0,0)=true:=by
   have:=h.p _ (getElem_mem hk);unfold Cr at this ⊢;simp only[aT]at this;rw[this.1];rfl
  have s':=I0 s (P:=b.2.2.1.set k (up,b.2.2.1[k].2.1,false,0,0,0,0,0)) (by rw[length_set]) (EX h.p hq);obtain⟨r,r1,r2,_⟩:=Ng s';rw[Bool.not_true,cF,cT,xo hk,wX,wX,yE hk,wX,wX,List.getElem?_eq_getElem hk,wX,wX];refine (xP (a:=r) r2 rfl).trans ?_;symm;exact xP (a:=r) r1 rfl

theorem Sw {b:wY} (h:AC b) (hl:Ar M b) (p:Int) (v:BR):gi b p v=bG b p v:=by
 unfold gi bG;rw[yn hl,yW hl,wX,wX,LA h];cases hp0:xQ b with
 | false=>rw[EY h hp0];rfl
 | true =>
 have h:=Dx h hp0;have hn:=h.n6
 have s:=h.sok;rw[Ec h,wX,wX];cases hp:xe p 0 ((b.2.2.1.length:Int)-1)with
 | false=>rfl
 | true =>
  obtain⟨p0,p1⟩:=ye hp;obtain⟨k,rfl⟩:∃k:Nat,p=(k:Int):=⟨p.toNat,by omega⟩;have hk:k<b.2.2.1.length:=by omega
  rw[Bool.not_true,cF,cT,xo hk,wX,wX,wX,wX];cases hu:b.2.2.1[k].1 with
  | false=>rfl
  | true =>
   rw[Bool.not_true,cF,cT,WU,OB,wX,wX,wX,wX];cases hv:I2 v with
   | false=>rfl
   | true =>
    have hq:Cr (b.2.2.1[k].1,b.2.2.1[k].2.1,true,v.1,v.2.1,v.2.2.1,v.2.2.2.1,v.2.2.2.2)=true:=by
     have:=h.p _ (getElem_mem hk);unfold Cr at this ⊢;simp only[aT]at this;rw[this.1,hu];have hv':I2 (v.1,v.2.1,v.2.2.1,v.2.2.2.1,v.2.2.2.2)=true:=hv
     simp[hv']
    rw[Bool.not_true,cF,cT,yE hk,wX,wX,List.getElem?_eq_getElem hk,wX,wX];have hk2:k<(b.2.2.1.set k (b.2.2.1[k].1,b.2.2.1[k].2.1,true,b.2.2.1[k].2.2.2.1,b.2.2.1[k].2.2.2.2.1,b.2.2.1[k].2.2.2.2.2.1,b.2.2.1[k].2.2.2.2.2.2.1,b.2.2.1[k].2.2.2.2.2.2.2)).length:=by rw[length_set];exact hk
    rw[yE hk2,wX,wX,List.getElem?_eq_getElem hk2,wX,wX,getElem_set_self,set_set];have s':=I0 s (P:=b.2.2.1.set k (b.2.2.1[k].1,b.2.2.1[k].2.1,true,v.1,v.2.1,v.2.2.1,v.2.2.2.1,v.2.2.2.2)) (by rw[length_set]) (EX h.p hq)
    obtain⟨r,r1,r2,_⟩:=Ng s';refine (xP (a:=r) r2 rfl).trans ?_;symm;exact xP (a:=r) r1 rfl
theorem Tz {b:wY} (h:AC b) (hl:Ar M b) (x:Act):cZ b x=some (Ss b x):=by
 obtain⟨r,r1,_⟩:=Yx h hl x;rw[On r1];unfold oB at r1;unfold cZ;by_cases k3:x.1=3
 · rw[if_pos k3]at r1;rw[show (x.1==3)=true from beq_iff_eq.2 k3,cT,Or h hl];exact xP r1 rfl
 rw[if_neg k3]at r1;rw[beq_eq_false_iff_ne.2 k3,cF];by_cases k4:x.1=4
 · rw[if_pos k4]at r1;rw[show (x.1==4)=true from beq_iff_eq.2 k4,cT,Sw h hl];obtain⟨q,q1,q2⟩:=Option.bind_eq_some_iff.1 r1;cases q2;exact xP q1 rfl
 rw[if_neg k4]at r1;rw[beq_eq_false_iff_ne.2 k4,cF];by_cases k5:x.1=5
 · rw[if_pos k5]at r1;rw[show (x.1==5)=true from beq_iff_eq.2 k5,cT,Sv h hl];obtain⟨q,q1,q2⟩:=Option.bind_eq_some_iff.1 r1;cases q2;exact xP q1 rfl
 rw[if_neg k5]at r1;rw[beq_eq_false_iff_ne.2 k5,cF];by_cases k6:x.1=6
 · rw[if_pos k6]at r1;rw[show (x.1==6)=true from beq_iff_eq.2 k6,cT];obtain⟨t,t1,t2,_⟩:=Sp h hl;rw[t1]at r1;cases r1;exact xP t2 rfl
 rw[if_neg k6]at r1;rw[beq_eq_false_iff_ne.2 k6,cF,yW hl];cases r1;rfl
noncomputable def J3 (l:List Act) (z:Wu):=gl l z.1 z.2.1 z.2.2.1 z.2.2.2.1 z.2.2.2.2.1 z.2.2.2.2.2.1 z.2.2.2.2.2.2.1 z.2.2.2.2.2.2.2.1 z.2.2.2.2.2.2.2.2.1 z.2.2.2.2.2.2.2.2.2.1 z.2.2.2.2.2.2.2.2.2.2.1 z.2.2.2.2.2.2.2.2.2.2.2.1 z.2.2.2.2.2.2.2.2.2.2.2.2.1 z.2.2.2.2.2.2.2.2.2.2.2.2.2.1 z.2.2.2.2.2.2.2.2.2.2.2.2.2.2.1 z.2.2.2.2.2.2.2.2.2.2.2.2.2.2.2.1 z.2.2.2.2.2.2.2.2.2.2.2.2.2.2.2.2.1 z.2.2.2.2.2.2.2.2.2.2.2.2.2.2.2.2.2
def Km (n:Nat) (x:Act):Prop:=x.2.2.2.1.length<=n/\x.2.2.2.2.2.2.2.1.length<=n
def LB (n:Nat) (l:List Act):Prop:=l.length<=n/\∀x∈l,Km n x
def Sx (x:Act):zc:=(x.2.2.2.2.1,x.2.2.2.2.2.1,x.2.2.2.2.2.2.1,x.2.2.2.2.2.2.2.1)
theorem V0 {f:zc} {left:Int} (hl:In left) (h:f.2.2.2.length<=maxLen):zT left (jI f left) (f.2.2.2.length<=M) :=
 Bn (zq (Mb hl h) λr k1 k2=>BJ k1) λ⟨a,_⟩=>a
theorem XQ {x:Act} {left:Int} (hl:In left) (h:Km maxLen x):zT left (il x left) (Km M x) :=
 Bn (zq (Mb hl h.1) λr k1 k2=>zq (V0 (f:=Sx x) (hl.next k1 k2) h.2) λr' k3 k4=>BJ k3) λ⟨a,b,_⟩=>⟨a,b⟩
theorem WC {l:List Act} {left:Int} (hl:In left) (h:LB maxLen l):zT left (jj l left) (LB M l):=by
 have hn:l.length<=9223372036854775807:=h.1;show zT left (let l1:=wZ (left-(l.length:Int));cond (decide (l1<0)) (some (-1)) ((loop (λz=>ot l z.1 z.2) (l1,0)).bind (Sum.elim (λd=>some d) (λr=>some r)))) _
 by_cases hle:l.length<=M
 · exact Bn (Ea hl h.1 λr k1 k2=>IW (f:=il) (Q:=Km M) (λx hx l' h1 h2=>XQ ⟨h1,h2⟩ (h.2 x hx)) (Ag hle) (hl.next k1 k2)) λ⟨a,b⟩=>⟨a,b⟩
 · refine⟨-1,?_,.inl rfl⟩;show cond (decide (wZ (left-(l.length:Int))<0)) _ _=_
   have:M<l.length:=by omega
   have hM:(1048576:Int)<(l.length:Int):=by have:1048576<l.length:=this;omega
   have:=hl.2;rw[xN (by omega) (by omega),xI (by omega),cT]
theorem V1 {f:zc} (h:f.2.2.2.length<=M):gn f=some f:=by
 unfold gn;rw[Mc h,wX]
theorem XR {x:Act} (h:Km M x):ep x=some x:=by
 unfold ep;have h2:=V1 (f:=Sx x) h.2
 unfold Sx at h2;rw[Mc h.1,wX,h2,wX];rfl
theorem WD {l:List Act} (h:LB M l):dg l=some l:=Ez (Ag h.1) (E9 (f:=ep) (λx hx=>XR (h.2 x hx)) (Ag h.1) _)
theorem PW {f:zc} (h:f.2.2.2.length<=M):eX f f=some true:=by
 unfold eX;simp[Md h]
theorem XS {x:Act} (h:Km M x):eV x x=some true:=by
 have h2:=PW (f:=Sx x) h.2;unfold Sx at h2;unfold eV;simp[Md h.1,h2,Ug]
theorem WE {l:List Act} (h:LB M l):jh l l=some true:=Ch (CS (g:=eV) (λx hx=>XS (h.2 x hx)) (Ag h.1))
theorem WF {x:Act} (h:Cs.wf zg x):Km maxLen x:=by
 simp only[zg,Cs.wf,CT.wf]at h;exact⟨h.2.2.2.1.1,h.2.2.2.2.2.2.2.1.1⟩
theorem V2 {l:List Act} (h:Cs.wf (.one (.sl zg)) l):LB maxLen l:=by
 simp only[zg,Cs.wf,CT.wf]at h;refine⟨h.1,λx hx=>WF ?_⟩;have:=h.2 x hx
 simpa only[zg,Cs.wf,CT.wf]using this

def Kn (x:Act):Prop:=A3 x.2.2.2.1/\x.2.2.2.1.length<=M
def OL (n:Nat) (o:List xC):Prop:=o.length<=n/\∀y∈o,y.2.2.2.2.length<=20
theorem Is {n:Nat}:OL n []:=⟨Nat.zero_le _,λy hy=>by cases hy⟩
theorem OL.app {n m:Nat} {o p:List xC} (h:OL n o) (k:OL m p):OL (n+m) (o++p):=⟨by rw[length_append];exact Nat.add_le_add h.1 k.1,λy hy=>(mem_append.1 hy).elim (h.2 y) (k.2 y)⟩
theorem OL.le {n m:Nat} {o:List xC} (h:OL n o) (k:n<=m):OL m o:=⟨Nat.le_trans h.1 k,h.2⟩
theorem Uf {b:wY} (h:y9 b) (i:Int) {f:zc} (hf:f.2.2.2.length<=20) (c:Int) (cl:Int×Bool) (q:Int->Option Bool) (hq:∀k,∃t,q k=some t) {k:Nat} (hk:k<b.2.2.1.length) {out:List xC} (ho:out.length<=10) :
 ∃o:List xC,(o=out\/∃y:xC,o=out++[y]/\y.2.2.2.2.length<=20)/\(((cond ((k:Int) != i) ((bp (b.2.2.2.2.1,b.2.2.2.2.2.1) cl.1).bind λt89=>(ap (zA .i64 c t89) (k:Int)).bind λt92=>some t92) (some false)).bind λt93 =>
  (cond t93 ((q (k:Int)).bind λt101=>some t101) (some false)).bind λt102 =>
  cond t102 ((bq (b.2.2.2.2.1,b.2.2.2.2.2.1) cl.1 (k:Int)).bind λt110=>(bY f t110).bind λt111=>(app out [((k:Int),t111.1,t111.2.1,t111.2.2.1,t111.2.2.2)]).bind λzs114=>some (.inl (wZ ((k:Int)+1),zs114)))
   (some (.inl (wZ ((k:Int)+1),out)))):Option ((Int×List xC)⊕List xC))=some (.inl (((k+1:Nat):Int),o)):=by
 have s:=h.sok;have hv:=s.v
 have hn:=h.n6;obtain⟨e,he⟩:=Ma (v:=(b.2.2.2.2.1,b.2.2.2.2.2.1)) hv cl.1;obtain⟨t,ht,_⟩:=Ie (zA .i64 c e) (k:=k) (by omega);obtain⟨u,hu⟩:=hq (k:Int);obtain⟨g,hg⟩:=Oi (v:=(b.2.2.2.2.1,b.2.2.2.2.2.1)) hv cl.1 (k:=k) (by omega);have no:∃o:List xC,(o=out\/∃y:xC,o=out++[y]/\y.2.2.2.2.length<=20)/\(some (.inl (wZ ((k:Int)+1),out)):Option ((Int×List xC)⊕List xC))=some (.inl (((k+1:Nat):Int),o)):=⟨out,.inl rfl,by rw[xj (by omega)]⟩
 rw[xj (by omega)]at no ⊢;rw[he,wX,ht,wX,hu,wX,hg,wX,Tv hf,wX,xh (by show out.length+1<=_;omega),wX];cases (k:Int) != i<;>cases t<;>cases u<;>first|exact no|exact⟨_,.inr ⟨_,rfl,hf⟩,rfl⟩
theorem Ot {b:wY} (hn:b.2.2.1.length<=6) (step:Int×List xC->Option ((Int×List xC)⊕List xC))
 (hs:∀(k:Nat) (out:List xC),k<b.2.2.1.length->out.length<=10->∃o:List xC,(o=out\/∃y:xC,o=out++[y]/\y.2.2.2.2.length<=20)/\step ((k:Int),out)=some (.inl (((k+1:Nat):Int),o)))
 (he:∀out:List xC,step ((b.2.2.1.length:Int),out)=some (.inr out)):∃o:List xC,loop step (0,[])=some o/\OL 6 o:=by
 obtain⟨v,h1,h2⟩:=xG (step:=step) (λk z=>z.1=(k:Int)/\OL k z.2) b.2.2.1.length (λv=>OL 6 v)
  (λk z hk ⟨e1,e2⟩=>by
   obtain⟨i,out⟩:=z;simp only at e1 e2;subst e1;obtain⟨o,o1,o2⟩:=hs k out hk (by have:=e2.1;omega);refine .inl ⟨_,o2,rfl,?_⟩;rcases o1 with rfl|⟨y,rfl,hy⟩
   · exact e2.le (by omega)
   · exact e2.app ⟨Nat.le_refl _,λz hz=>by rw[mem_singleton.1 hz];exact hy⟩)
  (λz ⟨e1,e2⟩=>by
   obtain⟨i,out⟩:=z;simp only at e1 e2;subst e1;exact⟨out,he out,e2.le hn⟩) (x:=(0,[])) ⟨rfl,Is⟩
 exact⟨v,h1,h2⟩
theorem XT {b:wY} (h:y9 b) (i:Int) (f:zc):∃r,aO b i f=some r/\y9 r.1/\OL 6 r.2:=by
 have s:=h.sok;have hn:=h.n6
 have hv:=s.v;have hq:=s.q
 obtain⟨q1,q2,q3,q4,q5⟩:=Ap (BM h.ok).1;have hfb:=Id h.f
 unfold aO;rw[yn h.le,wX,Ec h,wX];cases hp:xe i 0 ((b.2.2.1.length:Int)-1)with
 | false=>exact⟨(b,[]),rfl,h,Is⟩
 | true =>
 rw[Bool.not_true,cF,Og,wX,wX];cases hf:EB f with
 | false=>exact⟨(b,[]),rfl,h,Is⟩
 | true =>
 have hlen:f.2.2.2.length<=20:=by
  unfold EB at hf;simp only[aT,decide_eq_true_eq]at hf;omega
 obtain⟨p0,p1⟩:=ye hp;obtain⟨k,rfl⟩:∃k:Nat,i=(k:Int):=⟨i.toNat,by omega⟩;have hk:k<b.2.2.1.length:=by omega
 obtain⟨c,_,hc,_⟩:=LF b.1 (l:=b.2.2.1) (by omega);obtain⟨cl,hcl⟩:=Oh (v:=(b.2.2.2.2.1,b.2.2.2.2.2.1)) hv (by show b.2.2.2.2.2.1.length<=6;omega) (k:=k) (by show k<b.2.2.2.2.2.1.length;omega) f.2.2.1;obtain⟨t,ht,_⟩:=Ie (c:Int) (k:=k) (by omega);rw[Bool.not_true,cF,hc,wX,hcl,wX,ht,wX];have hdrop:∃r,((au b.2.2.2.2.2.2.2.2.2.1).bind λt51=>some ((b.1,b.2.1,b.2.2.1,b.2.2.2.1,b.2.2.2.2.1,b.2.2.2.2.2.1,b.2.2.2.2.2.2.1,b.2.2.2.2.2.2.2.1,b.2.2.2.2.2.2.2.2.1,t51,b.2.2.2.2.2.2.2.2.2.2),([]:List xC)))=some r/\y9 r.1/\OL 6 r.2:=by
  rw[Dd,wX];have s':=Lx s hfb (d:=Bt b.2.2.2.2.2.2.2.2.2.1) (v:=b.2.2.2.2.2.2.2.2.2.2) (Du q4) q5
  exact⟨_,rfl,Dx (Hw s' s'.le) (s'.ok h.v),Is⟩
 cases t with
 | false=>rw[Bool.not_false,cT,wX,cT];exact hdrop
 | true =>
 rw[Bool.not_true,cF,wX];cases cl.2 with
 | false=>rw[Bool.not_false,cT];exact hdrop
 | true =>
 rw[Bool.not_true,cF];obtain⟨F,hF,hFB⟩:=Of hfb cl.1 f.2.1 (k:Int);rw[hF,wX,Dd,wX];have s':=Lx s hFB (d:=b.2.2.2.2.2.2.2.2.2.1) (v:=Bt b.2.2.2.2.2.2.2.2.2.2) q4 (Du q5)
 have hB:=Dx (Hw s' s'.le) (s'.ok h.v);cases f.1 != 0 with
 | true =>
  obtain⟨u,hu⟩:=Ua hFB.n cl.1 f.1;obtain⟨o,o1,o6⟩:=Ot hn (λz=>aw b (k:Int) f (c:Int) cl u z.1 z.2) (λj out hj ho=>by
   obtain⟨o,o1,o2⟩:=Uf h (k:Int) hlen (c:Int) cl (λk=>cond (decide (u<0)) (some true) (some (u==k))) (λk=>by cases decide (u<0)<;>exact⟨_,rfl⟩) hj ho;refine⟨o,o1,?_⟩;show aw b (k:Int) f (c:Int) cl u (j:Int) out=_
   unfold aw;rw[xI (by omega),cT];exact o2) (λout=>by
   show aw b (k:Int) f (c:Int) cl u (b.2.2.1.length:Int) out=_;unfold aw;rw[xu (by omega),cF])
  rw[cT,hu,wX];exact⟨_,xP o1 rfl,hB,o6⟩
 | false =>
  obtain⟨o,o1,o6⟩:=Ot hn (λz=>ax b (k:Int) f (c:Int) cl z.1 z.2) (λj out hj ho=>by
   obtain⟨o,o1,o2⟩:=Uf h (k:Int) hlen (c:Int) cl (λk=>cond (decide ((-1:Int)<0)) (some true) (some ((-1)==k))) (λk=>⟨true,rfl⟩) hj ho;refine⟨o,o1,?_⟩;show ax b (k:Int) f (c:Int) cl (j:Int) out=_
   unfold ax;rw[xI (by omega),cT];exact o2) (λout=>by
   show ax b (k:Int) f (c:Int) cl (b.2.2.1.length:Int) out=_;unfold ax;rw[xu (by omega),cF])
  rw[cF];exact⟨_,xP o1 rfl,hB,o6⟩
theorem YP {b:wY} (h:AC b) (hl:Ar M b) (x:Act):∃r,oB b x=some r/\AC r.1/\Ar M r.1/\OL 6 r.2/\(xQ b=true->y9 r.1)/\(xQ b=false->r=(b,[])):=by
 cases hp:xQ b with
 | false =>
  have e:oB b x=some (b,[]):=by
   unfold oB;split
   · unfold aO;rw[yn hl,EY h hp];rfl
   · split
     · unfold bG;rw[yn hl,EY h hp];rfl
     · split
       · unfold bH;rw[yn hl,EY h hp];rfl
       · split
         · unfold bI;rw[yn hl,By h,hp];rfl
         · rfl
  exact⟨_,e,h,hl,Is,(λh=>by cases h),λ_=>rfl⟩
 | true =>
  have hB:=Dx h hp;have ok:∀{r:wY×List xC},oB b x=some r->y9 r.1->OL 6 r.2->∃r,oB b x=some r/\AC r.1/\Ar M r.1/\OL 6 r.2/\(true=true->y9 r.1)/\(true=false->r=(b,[])):=λe k hn=>⟨_,e,k.w,k.le,hn,λ_=>k,λh=>by cases h⟩
  unfold oB at ok ⊢;split
  · rename_i h3;obtain⟨r,r1,r2,r3⟩:=XT hB x.2.1 (Ud x);exact⟨r,r1,r2.w,r2.le,r3,λ_=>r2,λh=>by cases h⟩
  · split
    · obtain⟨r,r1,r2⟩:=U9 hB x.2.1 (Ws x);exact⟨(r,[]),by rw[r1];rfl,r2.w,r2.le,Is,λ_=>r2,λh=>by cases h⟩
    · split
      · obtain⟨r,r1,r2⟩:=U8 hB x.2.1 x.2.2.1;exact⟨(r,[]),by rw[r1];rfl,r2.w,r2.le,Is,λ_=>r2,λh=>by cases h⟩
      · split
        · obtain⟨r1,r2,_⟩:=QT hB;exact⟨(Eo b,[]),by rw[r1];rfl,r2.w,r2.le,Is,λ_=>r2,λh=>by cases h⟩
        · exact⟨(b,[]),rfl,h,hl,Is,λ_=>hB,λh=>by cases h⟩
theorem YQ {a:xk} (h:DY a) {x:Act} (hx:Kn x):∃r,bZ a x=some r/\DY r.1/\OL 6 r.2.1/\r.2.2.length<=1/\(∀d∈r.2.2,zz M d.2)/\(AP a=false->r=(a,[],[]))/\(AP a=true->3<=x.1->AP r.1=true/\r.1=yR (Ss (aB a) x) (aW a) (x8 a) (zH a) (xK a)):=by
 have hml:x.2.2.2.1.length<=M:=hx.2;unfold bZ;rw[Dz h.2.1,wX,J9 h.1,wX];cases hp:AP a with
 | false=>exact⟨(a,[],[]),rfl,h,Is,Nat.zero_le _,(λd hd=>by cases hd),λ_=>rfl,λh=>by cases h⟩
 | true =>
  have hA:=PN h.1 h.2.1 h.2.2 hp;rw[Bool.not_true,cF];by_cases h3:3<=x.1
  · obtain⟨r,r1,r2,r3,r4,r5,_⟩:=YP hA.b.w hA.b.le x;have hI:=XH hA (r5 hA.b.ok)
    exact⟨_,xP (Wt a h3 r1) rfl,hI.any,r4,Nat.zero_le _,(λd hd=>by cases hd),(λh=>by cases h),λ_ _=>⟨hI.ok,by rw[On r1]⟩⟩
  · have fin:∀{r:xk×List xC×List xX},br a x=some r->DY r.1->r.2.1=[]->r.2.2.length<=1->(∀d∈r.2.2,zz M d.2)->∃r,((br a x).bind λt18=>some t18)=some r/\DY r.1/\OL 6 r.2.1/\r.2.2.length<=1/\(∀d∈r.2.2,zz M d.2)/\(true=false->r=(a,[],[]))/\(true=true->3<=x.1->AP r.1=true/\r.1=yR (Ss (aB a) x) (aW a) (x8 a) (zH a) (xK a)) :=
     λe k1 k2 k3 k4=>⟨_,xP e rfl,k1,by rw[k2];exact Is,k3,k4,(λh=>by cases h),λ_ h=>absurd h h3⟩
    unfold br at fin ⊢;have hn:=hA.n
    by_cases h1:x.1=1
    · rw[show (x.1==1)=true by rw[h1];rfl]at fin ⊢;obtain⟨r,r1,_,r3,_⟩:=PT hA hx.1 hml;exact fin (r:=(r,[],[])) (by rw[cT];exact xP r1 rfl) r3.any rfl (Nat.zero_le _) λd hd=>by cases hd
    rw[beq_eq_false_iff_ne.2 h1]at fin ⊢;by_cases h2:x.1=2
    · rw[show (x.1==2)=true by rw[h2];rfl]at fin ⊢;have e:wZ ((a.2.2.2.2.2.2.2.2.2.2.2.2.1.length:Int)-1)=((x8 a).length:Int)-1:=xN (by show -9223372036854775808<=((x8 a).length:Int)-1;omega) (by show ((x8 a).length:Int)-1<=_;omega)
      rw[e,Ad]at fin ⊢;cases hpk:xe x.2.1 0 (((x8 a).length:Int)-1)with
      | false =>
       rw[hpk]at fin;exact fin (r:=(a,[],[])) rfl h rfl (Nat.zero_le _) λd hd=>by cases hd
      | true =>
       rw[hpk]at fin;obtain⟨p0,p1⟩:=ye hpk;obtain⟨k,hk⟩:∃k:Nat,x.2.1=(k:Int):=⟨x.2.1.toNat,by omega⟩;have hk':k<(x8 a).length:=by omega
       obtain⟨w1,w2⟩:=Tq hA hk';refine fin (r:=((Cf a k (x8 a)[k]).1,[],(Cf a k (x8 a)[k]).2)) ?_ w1.any rfl w2 (Wr hA hk');rw[cF,cT,wX,cT,hk];exact xP (U7 hA hk') rfl
    rw[beq_eq_false_iff_ne.2 h2,beq_eq_false_iff_ne.2 (show x.1≠3 by omega),beq_eq_false_iff_ne.2 (show x.1≠4 by omega),beq_eq_false_iff_ne.2 (show x.1≠5 by omega),beq_eq_false_iff_ne.2 (show x.1≠6 by omega)]at fin ⊢;exact fin (r:=(a,[],[])) rfl h rfl (Nat.zero_le _) λd hd=>by cases hd
theorem WG {a:xk} (h:DY a) {x:Act} (hx:Kn x):bZ a x=some (C3 a x)/\DY (C3 a x).1/\OL 6 (C3 a x).2.1/\(C3 a x).2.2.length<=1/\(∀d∈(C3 a x).2.2,zz M d.2):=by
 obtain⟨r,r1,r2,r3,r4,r5,_⟩:=YQ h hx;have e:C3 a x=r:=by unfold C3;rw[r1];rfl
 rw[e];exact⟨r1,r2,r3,r4,r5⟩
theorem V3 {a:xk} (h:DY a) {x:Act} (hx:Kn x):gk a x=some (C3 a x):=by
 have hml:x.2.2.2.1.length<=M:=hx.2;obtain⟨e1,_⟩:=WG h hx;rw[←e1];unfold gk bZ;rw[Dz h.2.1,DZ h.2.1,wX,wX,J9 h.1,LI h.1,wX,wX];cases hp:AP a with
 | false=>rfl
 | true =>
  have hA:=PN h.1 h.2.1 h.2.2 hp;have hn:=hA.n
  rw[Bool.not_true,cF,cF];by_cases h1:x.1=1
  · obtain⟨r,r1,r2,_⟩:=PT hA hx.1 hml;unfold br;rw[show (x.1==1)=true by rw[h1];rfl,cT,cT,r1,r2];rfl
  by_cases h2:x.1=2
  · unfold br;rw[beq_eq_false_iff_ne.2 h1,cF,cF,show (x.1==2)=true by rw[h2];rfl,cT,cT];have e:wZ ((a.2.2.2.2.2.2.2.2.2.2.2.2.1.length:Int)-1)=((x8 a).length:Int)-1:=xN (by show -9223372036854775808<=((x8 a).length:Int)-1;omega) (by show ((x8 a).length:Int)-1<=_;omega)
    rw[e,Ad,wX];cases hpk:xe x.2.1 0 (((x8 a).length:Int)-1)with
    | false =>
     have hk':x.2.1<0\/((x8 a).length:Int)<=x.2.1:=by
      unfold xe at hpk;by_cases h0:0<=x.2.1
      · rw[dT h0,Bool.true_and,decide_eq_false_iff_not]at hpk;omega
      · omega
     rw[UX hA hk'];rfl
    | true =>
     obtain⟨p0,p1⟩:=ye hpk;obtain⟨k,hk⟩:∃k:Nat,x.2.1=(k:Int):=⟨x.2.1.toNat,by omega⟩;have hk':k<(x8 a).length:=by omega
     rw[hk,Wm hA hk',cT,U7 hA hk'];rfl
  rw[beq_eq_false_iff_ne.2 h1,cF,beq_eq_false_iff_ne.2 h2,cF];by_cases h3:3<=x.1
  · obtain⟨r,r1,_⟩:=Yx hA.b.w hA.b.le x;have hb:=Tz hA.b.w hA.b.le x
    rw[On r1]at hb;refine Eq.trans ?_ (Eq.symm (xP (Wt a h3 r1) (r:=some (yR r.1 (aW a) (x8 a) (zH a) (xK a),r.2,[])) rfl));by_cases k3:x.1=3
    · rw[show (x.1==3)=true from beq_iff_eq.2 k3,cT];unfold oB at r1;rw[if_pos k3]at r1;exact xP ((Or hA.b.w hA.b.le x.2.1 (Ud x)).trans r1) rfl
    have ho:r.2=[]:=by
     unfold oB at r1;rw[if_neg k3]at r1;split at r1
     · obtain⟨q,q1,q2⟩:=Option.bind_eq_some_iff.1 r1;cases q2;rfl
     · split at r1
       · obtain⟨q,q1,q2⟩:=Option.bind_eq_some_iff.1 r1;cases q2;rfl
       · split at r1
         · obtain⟨q,q1,q2⟩:=Option.bind_eq_some_iff.1 r1;cases q2;rfl
         · cases r1;rfl
    rw[beq_eq_false_iff_ne.2 k3,cF,ho];by_cases k4:x.1=4
    · rw[show (x.1==4)=true from beq_iff_eq.2 k4,cT,cT];exact xP hb rfl
    rw[beq_eq_false_iff_ne.2 k4,cF];by_cases k5:x.1=5
    · rw[show (x.1==5)=true from beq_iff_eq.2 k5,cT,cT];exact xP hb rfl
    rw[beq_eq_false_iff_ne.2 k5,cF];by_cases k6:x.1=6
    · rw[show (x.1==6)=true from beq_iff_eq.2 k6,cT];exact xP hb rfl
    rw[beq_eq_false_iff_ne.2 k6,cF];unfold oB at r1;rw[if_neg k3,if_neg k4,if_neg k5,if_neg k6]at r1;cases r1;rfl
  · unfold br;rw[beq_eq_false_iff_ne.2 h1,cF,beq_eq_false_iff_ne.2 h2,cF,beq_eq_false_iff_ne.2 (show x.1≠3 by omega),cF,cF,beq_eq_false_iff_ne.2 (show x.1≠4 by omega),cF,cF,beq_eq_false_iff_ne.2 (show x.1≠5 by omega),cF,cF,beq_eq_false_iff_ne.2 (show x.1≠6 by omega),cF,cF];rfl
structure Jt (n:Nat) (r:xk×List xC×List xX):Prop where
 a:DY r.1
 o:OL (6*n) r.2.1
 d:r.2.2.length<=n
 p:∀d∈r.2.2,zz M d.2
theorem J4 {σ τ:Type} {l:List Act} (hl:l.length<=60) (hx:∀x∈l,Kn x) (st:Nat->xk->List xC->List xX->σ) (fin:xk->List xC->List xX->τ) (step:σ->Option (σ⊕τ))
 (hs:∀(k:Nat) (hk:k<l.length) (a:xk) (o:List xC) (d:List xX),DY a->bZ a l[k]=some (C3 a l[k])->app o (C3 a l[k]).2.1=some (o++(C3 a l[k]).2.1)->app d (C3 a l[k]).2.2=some (d++(C3 a l[k]).2.2)->step (st k a o d)=some (.inl (st (k+1) (C3 a l[k]).1 (o++(C3 a l[k]).2.1) (d++(C3 a l[k]).2.2))))
 (he:∀a o d,step (st l.length a o d)=some (.inr (fin a o d))) :
 ∀(n i:Nat) (a:xk) (o:List xC) (d:List xX),i+n=l.length->Jt i (a,o,d)->loop step (st i a o d)=some (fin (EZ (l.drop i) a o d).1 (EZ (l.drop i) a o d).2.1 (EZ (l.drop i) a o d).2.2)/\Jt 60 (EZ (l.drop i) a o d)
 | 0,i,a,o,d,hi,h=>by
  have e:l.drop i=[]:=List.drop_eq_nil_of_le (by omega);rw[e];have hi:i=l.length:=by omega
  have h3:=h.d;subst hi;exact⟨xF (he a o d),⟨h.a,h.o.le (by omega),by show d.length<=60;have:d.length<=l.length:=h3;omega,h.p⟩⟩
 | n+1,i,a,o,d,hi,h=>by
  have hk:i<l.length:=by omega
  have e:l.drop i=l[i]::l.drop (i+1):=List.drop_eq_getElem_cons hk;have h2:o.length<=6*i:=h.o.1
  have h3:d.length<=i:=h.d;obtain⟨r1,r2,r6,r4,r5⟩:=WG h.a (hx _ (getElem_mem hk));have r3:(C3 a l[i]).2.1.length<=6:=r6.1
  have r4:(C3 a l[i]).2.2.length<=1:=r4;generalize hd1:(C3 a l[i]).2.1.length=n1 at r3;generalize hd2:(C3 a l[i]).2.2.length=n2 at r4;have hn:=J4 hl hx st fin step hs he n (i+1) (C3 a l[i]).1 (o++(C3 a l[i]).2.1) (d++(C3 a l[i]).2.2) (by omega) ⟨r2,(h.o.app r6).le (by omega),by show (d++(C3 a l[i]).2.2).length<=i+1;rw[length_append,hd2];omega,λx hx=>by
   rcases mem_append.1 hx with hx|hx
   · exact h.p x hx
   · exact r5 x hx⟩
  rw[e];exact⟨xx (hs i hk a o d h.a r1 (xh (by rw[hd1];omega)) (xh (by rw[hd2];omega))) hn.1,hn.2⟩
theorem Sy {a:xk} (h:DY a):Jt 0 (a,[],[]):=⟨h,Is,Nat.le_refl _,λd hd=>by cases hd⟩
theorem Sz {l:List Act} {k:Nat} (hk:k<(l.take 60).length):k<l.length/\k<60:=by rw[length_take]at hk;omega
theorem WH {a:xk} (h:DY a) {l:List Act} (hl:l.length<=M) (hx:∀x∈l,Kn x):eU a l=some (EZ (l.take 60) a [] [])/\Jt 60 (EZ (l.take 60) a [] []):=by
 have hlM:l.length<=1048576:=hl;have hp:=J4 (l:=l.take 60) (by rw[length_take];omega) (λx h=>hx x (mem_of_mem_take h)) (λk a o d=>J1 (k:Int) a o d) (λa o d=>(J1 0 a o d).2) (Kk l)
  (λk hk a o d ha e1 e2 e3=>by
   dsimp only[Kk,J1];unfold gH;obtain⟨k1,k2⟩:=Sz hk;rw[List.getElem_take]at e1 e2 e3 ⊢;rw[dT (show (k:Int)<(l.length:Int) by omega),cT,xo k1,wX,dF (show ¬(k:Int)>=60 by omega),cF,xj (by omega)];exact xP e1 (xP e2 (xP e3 rfl)))
  (λa o d=>by
   dsimp only[Kk,J1];unfold gH;by_cases h60:l.length<=60
   · rw[take_of_length_le h60,dF (show ¬(l.length:Int)<(l.length:Int) by omega),cF]
   · have e60:(l.take 60).length=60:=by rw[length_take];omega
     rw[e60,dT (show ((60:Nat):Int)<(l.length:Int) by omega),cT,xo (show 60<l.length by omega),wX,dT (show ((60:Nat):Int)>=60 by omega),cT]) (l.take 60).length 0 a [] [] (by omega) (Sy h)
 rw[drop_zero]at hp;refine⟨?_,hp.2⟩;unfold eU;rw[Dz h.2.1,wX];exact xP hp.1 rfl
theorem WI {a:xk} (h:DY a) {l:List Act} (hl:l.length<=M) (hx:∀x∈l,Kn x):gm a l=some (EZ (l.take 60) a [] []):=by
 have hlM:l.length<=1048576:=hl;have hp:=J4 (l:=l.take 60) (by rw[length_take];omega) (λx h=>hx x (mem_of_mem_take h)) (λk a o d=>J1 (k:Int) a o d) (λa o d=>(J1 0 a o d).2) (J3 l)
  (λk hk a o d ha e1 e2 e3=>by
   dsimp only[J3,J1];unfold gl;obtain⟨k1,k2⟩:=Sz hk;rw[List.getElem_take]at e1 e2 e3 ⊢;rw[dT (show (k:Int)<(l.length:Int) by omega),cT,dT (show (k:Int)<60 by omega),wX,cT,xo k1,wX,xj (by omega)];exact xP (V3 ha (hx _ (getElem_mem k1))) (xP e2 (xP e3 rfl)))
  (λa o d=>by
   dsimp only[J3,J1];unfold gl;by_cases h60:l.length<=60
   · rw[take_of_length_le h60,dF (show ¬(l.length:Int)<(l.length:Int) by omega),cF,wX,cF]
   · have e60:(l.take 60).length=60:=by rw[length_take];omega
     rw[e60,dT (show ((60:Nat):Int)<(l.length:Int) by omega),cT,dF (show ¬((60:Nat):Int)<60 by omega),wX,cF]) (l.take 60).length 0 a [] [] (by omega) (Sy h)
 rw[drop_zero]at hp;unfold gm;rw[DZ h.2.1,wX];exact xP hp.1 rfl

end Go.V.W

