/- The law FnExactDoAct: part of the proof that for every input it returns true. No condition. -/
import Derived.Test.YthcdcolihokdmaaGreatFnExactDoActBP1
open List (all_eq_true any_eq_false append_assoc append_nil drop_zero flatMap_append getElem_mem getElem_of_mem getElem_set_self length_append length_drop length_eq_zero_iff length_map length_set length_singleton length_take map_append map_cons map_map mem_append mem_cons_of_mem mem_map mem_of_mem_drop mem_of_mem_take mem_range mem_singleton nil_append pairwise_append pairwise_cons pairwise_iff_getElem set_set take_add_one take_length take_of_length_le)
set_option linter.unusedVariables false
set_option linter.unusedSimpArgs false
namespace Go.V.W
def Y8 (o:List Int):Prop:=1<=o.length/\o.length<=10/\∀x∈o,0<=x/\x<=100000
theorem X3 {pre rest:List Int} {n:Int} (hn:0<=n/\n<=100000) (hp:pre.length<=1000):loop (λz:Int×Int×Int×Bool=>aI (pre++(grp n++rest)) z.1 z.2.1 z.2.2.1 z.2.2.2) ((pre.length:Int),0,0,true)=some (((pre.length+(grp n).length:Nat):Int),n,((grp n).length:Int),false):=by
 have hg:=LP (n:=n) (by omega);have st:∀(m:Int) (j:Nat) (hj:j<(grp n).length),j<4->0<=m/\m<=2097152->aI (pre++(grp n++rest)) ((pre.length+j:Nat):Int) m (j:Int) true=some (.inl (((pre.length+(j+1):Nat):Int),m*128+(grp n)[j]%128,((j+1:Nat):Int),decide ((grp n)[j]>127))):=λm j hj h4 hm=>by
  have hx:=hg _ (getElem_mem hj);have hat:at? (pre++(grp n++rest)) ((pre.length+j:Nat):Int)=some (grp n)[j]:=by rw[H8,wU (by rw[length_append];omega),List.getElem_append_left hj]
  unfold aI;rw[xk (show ((pre.length+j:Nat):Int)<((pre++(grp n++rest)).length:Int) by rw[length_append,length_append];omega),cT,wC,cT,xk (show (j:Int)<4 by omega),wC,cT,hat,wC,wC,HP hx,QS (by omega) (by omega),wQ (by omega),wQ (by omega)];rfl
 have stop:∀(m:Int) (j:Nat),aI (pre++(grp n++rest)) ((pre.length+j:Nat):Int) m (j:Int) false=some (.inr (((pre.length+j:Nat):Int),m,(j:Int),false)):=λm j=>by
  unfold aI;rfl
 unfold grp at st stop ⊢;by_cases h1:n<=127
 · rw[if_pos h1]at st stop ⊢;have s0:=st 0 0 (by simp) (by omega) (by omega)
   simp only[List.getElem_cons_zero]at s0;rw[dF (by omega),show (0:Int)*128+n%128=n by omega]at s0;exact xb s0 (xh (stop n 1))
 rw[if_neg h1]at st stop ⊢;by_cases h2:n<=16383
 · rw[if_pos h2]at st stop ⊢;have s0:=st 0 0 (by simp) (by omega) (by omega)
   have s1:=st (n/128) 1 (by simp) (by omega) (by omega);simp only[List.getElem_cons_zero,List.getElem_cons_succ]at s0 s1;rw[dT (by omega),show (0:Int)*128+(n/128+128)%128=n/128 by omega]at s0;rw[dF (by omega),show n/128*128+n%128%128=n by omega]at s1;exact xb s0 (xb s1 (xh (stop n 2)))
 rw[if_neg h2]at st stop ⊢;rw[if_pos (show n<=2097151 by omega)]at st stop ⊢;have s0:=st 0 0 (by simp) (by omega) (by omega)
 have s1:=st (n/16384) 1 (by simp) (by omega) (by omega);have s2:=st (n/128) 2 (by simp) (by omega) (by omega)
 simp only[List.getElem_cons_zero,List.getElem_cons_succ]at s0 s1 s2;rw[dT (by omega),show (0:Int)*128+(n/16384+128)%128=n/16384 by omega]at s0;rw[dT (by omega),show n/16384*128+(n/128%128+128)%128=n/128 by omega]at s1;rw[dF (by omega),show n/128*128+n%128%128=n by omega]at s2;exact xb s0 (xb s1 (xb s2 (xh (stop n 3))))
theorem NF {b:List Int}:∀(o pre out:List Int),b=pre++xx o->(∀x∈o,0<=x/\x<=100000)->b.length<=30->out.length+o.length<=10->loop (λz:Int×List Int=>aq b z.1 z.2) ((pre.length:Int),out)=some (.inl ((b.length:Int),out++o))
 | [],pre,out,e,_,hb,_=>by
  have hbl:b.length=pre.length:=by rw[e];simp[xx]
  refine xh ?_;show aq b (pre.length:Int) out=_
  unfold aq;rw[x7 (by omega),cF,wC,cF,append_nil,hbl]
 | n::o,pre,out,e,hx,hb,hl=>by
  have e1:b=pre++(grp n++xx o):=by rw[e];rfl
  have e2:b=(pre++grp n)++xx o:=by rw[e1,append_assoc]
  rw[List.length_cons]at hl;have ih:=NF o (pre++grp n) (out++[n]) e2 (λx h=>hx x (mem_cons_of_mem _ h)) hb (by simp;omega)
  rw[length_append,append_assoc]at ih;have hpl:pre.length<=30:=by rw[e1,length_append]at hb;omega
  have hg1:=PF n;have hbl:b.length=pre.length+(grp n).length+(xx o).length:=by rw[e2,length_append,length_append]
  have hr:=X3 (pre:=pre) (rest:=xx o) (hx n (by simp)) (by omega);rw[←e1]at hr;refine xb ?_ ih;show aq b (pre.length:Int) out=_
  unfold aq;rw[xk (show (pre.length:Int)<(b.length:Int) by omega),cT,dT (show (out.length:Int)<=10 by omega),wC,cT,hr,wC];have hx':=hx n (by simp)
  simp only[cF];rw[To (by omega),wC,wC];simp only[bne_self_eq_false,cF];rw[wO (by simp;omega),wC]
theorem NG (a:List Int) (n:Int):xx (a++[n])=xx a++grp n:=by unfold xx;rw[flatMap_append];simp
theorem VA {b:List Int} (hb:zE b) (hn:b.length<=M):∃v,loop (λz:Int×List Int=>aq b z.1 z.2) (0,[])=some v/\(v=.inr (false,[])\/∃out s,v=.inl (((xx out).length:Int),out)/\b=xx out++s/\out.length<=11):=by
 have hn':b.length<=1048576:=hn;exact xi (step:=λz:Int×List Int=>aq b z.1 z.2) (λk z=>z.2.length=k/\z.1=((xx z.2).length:Int)/\∃s,b=xx z.2++s) 11 (λv=>v=.inr (false,[])\/∃out s,v=.inl (((xx out).length:Int),out)/\b=xx out++s/\out.length<=11)
  (λk z hk ⟨z1,z2,s,z3⟩=>by
   obtain⟨i,out⟩:=z;simp only at z1 z2 z3;subst z2;have hbl:b.length=(xx out).length+s.length:=by rw[←length_append,←z3]
   by_cases hlt:((xx out).length:Int)<(b.length:Int)
   · obtain⟨d,d1,d2,d3,d4,d5,d6⟩:=XW z3 hb hn;have hs:aq b ((xx out).length:Int) out=(cond d.2.2.2 (some true) ((dZ d.2.1).bind λt51=>some ((t51.length:Int) != d.2.2.1))).bind λt55=>cond t55 (some (.inr (.inr (false,([]:List Int))))) ((app out [d.2.1]).bind λzs60=>some (.inl (d.1,zs60))):=by
      unfold aq;rw[xk hlt,cT,dT (show (out.length:Int)<=10 by omega),wC,cT,d1,wC]
     show (∃y,aq b ((xx out).length:Int) out=some (.inl y)/\_)\/∃v,aq b ((xx out).length:Int) out=some (.inr v)/\_;rw[hs];rcases d2 with d2|⟨l,rest,q1,q2,q3,q4,q5,q6⟩
     · rw[d2];exact .inr ⟨_,rfl,.inl rfl⟩
     · have qb:d.2.2.2=false:=by rw[q3]
       have ql:d.2.2.1=(l.length:Int):=by rw[q3]
       have qa:d.1=(((xx out).length+l.length:Nat):Int):=by rw[q3]
       rw[qb,cF,To ⟨q4,q5⟩,wC,wC,ql];cases hne:(((grp d.2.1).length:Int) != (l.length:Int))with
       | true=>exact .inr ⟨_,rfl,.inl rfl⟩
       | false =>
        have he:((grp d.2.1).length:Int)=(l.length:Int):=by simpa using hne
        have hl:=q6 (by omega);refine .inl ⟨_,by rw[cF,wO (by simp;omega),wC],by simp;omega,?_,rest,?_⟩
        · show d.1=((xx (out++[d.2.1])).length:Int);rw[NG,length_append,qa,←hl]
        · show b=xx (out++[d.2.1])++rest;rw[NG,←hl,append_assoc,←q1];exact z3
   · refine .inr ⟨.inl (((xx out).length:Int),out),?_,.inr ⟨out,s,rfl,z3,by omega⟩⟩;show aq b ((xx out).length:Int) out=_
     unfold aq;rw[x7 hlt];rfl)
  (λz ⟨z1,z2,s,z3⟩=>by
   obtain⟨i,out⟩:=z;simp only at z1 z2 z3;subst z2;refine⟨.inl (((xx out).length:Int),out),?_,.inr ⟨out,s,rfl,z3,by omega⟩⟩;show aq b ((xx out).length:Int) out=_
   unfold aq;by_cases hlt:((xx out).length:Int)<(b.length:Int)
   · rw[xk hlt,cT,dF (by omega)];rfl
   · rw[x7 hlt];rfl) (x:=(0,[])) ⟨rfl,rfl,b,rfl⟩
theorem Mn:∀{a b:List Int},zE a->zE b->xU a=xU b->a=b
 | [],[],_,_,_=>rfl
 | [],_::_,_,_,h=>by simp[xU]at h
 | _::_,[],_,_,h=>by simp[xU]at h
 | x::a,y::b,ha,hb,h=>by
  unfold xU at h;rw[map_cons,map_cons,List.cons.injEq]at h;have hx:=ha x (by simp)
  have hy:=hb y (by simp);have h1:=congrArg UInt8.toNat h.1
  rw[UInt8.toNat_ofNat_of_lt' (by show x.toNat<256;omega),UInt8.toNat_ofNat_of_lt' (by show y.toNat<256;omega)]at h1;rw[Mn (λz hz=>ha z (mem_cons_of_mem _ hz)) (λz hz=>hb z (mem_cons_of_mem _ hz)) h.2,show x=y by omega]
theorem SP {o:List Int} (h:∀x∈o,0<=x/\x<=100000):zE (xx o):=by
 intro x hx;obtain⟨n,hn,hx⟩:=List.mem_flatMap.1 hx;have:=h n hn
 exact LP (by omega) x hx
theorem NH {o:List Int} (h:1<=o.length):1<=(xx o).length:=by
 cases o with
 | nil=>simp at h
 | cons n o =>
  have:=PF n;unfold xx;rw[List.flatMap_cons,length_append];omega
theorem VB {b:List Int} (hb:zE b) (hn:b.length<=M):∃v,loop (λz:Int×Int×List Int=>av b z.1 z.2.1 z.2.2) (0,0,[])=some v/\(v=.inr (false,[])\/∃out,v=.inl out/\out.length<=M):=by
 have hn':b.length<=1048576:=hn;exact xi (step:=λz:Int×Int×List Int=>av b z.1 z.2.1 z.2.2) (λk z=>z.2.1=(k:Int)/\0<=z.1/\z.2.2.length<=k) b.length (λv=>v=.inr (false,[])\/∃out,v=.inl out/\out.length<=M)
  (λk z hk ⟨z1,z2,z3⟩=>by
   obtain⟨n,i,out⟩:=z;simp only at z1 z2 z3;subst z1;have hx:=hb _ (getElem_mem hk)
   have hm:0<=min2 n 1048576/\min2 n 1048576<=1048576:=by unfold min2;split<;>omega
   show (∃y,av b n (k:Int) out=some (.inl y)/\_)\/∃v,av b n (k:Int) out=some (.inr v)/\_;unfold av;rw[xk (by omega),cT,wU hk,wC];by_cases h40:(k:Int)>=40
   · rw[dT h40];exact .inr ⟨_,rfl,.inl rfl⟩
   rw[dF h40,cF,HP hx,QS (by omega) (by omega),wQ (by omega)];simp only;by_cases h:b[k]<128
   · rw[dT h,cT,wO (by simp;omega),wC];exact .inl ⟨_,rfl,rfl,by show (0:Int)<=0;omega,by simp;omega⟩
   · rw[dF h,cF];exact .inl ⟨_,rfl,rfl,by show 0<=min2 n 1048576*128+b[k]%128;omega,by show out.length<=k+1;omega⟩)
  (λz ⟨z1,z2,z3⟩=>by
   obtain⟨n,i,out⟩:=z;simp only at z1 z2 z3;subst z1;refine⟨.inl out,?_,.inr ⟨out,rfl,by show _<=1048576;omega⟩⟩;show av b n (b.length:Int) out=_
   unfold av;rw[x7 (by omega),cF]) (x:=(0,0,[])) ⟨rfl,by show (0:Int)<=0;omega,by simp⟩

theorem Cw {o:List Int} (h:A6 o=true):Y8 o:=by
 unfold A6 at h;rw[aT,Bool.not_eq_true']at h;have h1:=xI h.2
 refine⟨by omega,by omega,λx hx=>?_⟩;obtain⟨k,hk,rfl⟩:=getElem_of_mem hx;have:=any_eq_false.1 h.1 k (mem_range.2 hk)
 unfold LJ at this;simp only[List.getElem?_eq_getElem hk]at this;cases hp:wL o[k] 0 100000 with
 | true=>exact xI hp
 | false=>rw[hp]at this;exact absurd rfl this
theorem IZ {o:List Int} (hn:o.length<=M):ct o=some (cond (A6 o) (xx o) []):=by
 obtain⟨v,h1,h2,h3⟩:=WO hn;rw[HL (by have:o.length<=1048576:=hn;omega)]at h1;cases h1;exact h3
theorem RG {b:List Int} (hb:zE b) (hn:b.length<=M):∃r,bQ b=some r/\ch b=some r/\(r=([],false)\/∃o,r=(o,true)/\b=xx o/\A6 o=true):=by
 have hn':b.length<=1048576:=hn;have both:∀o,A6 o=true->b=xx o->bQ b=some (o,true)/\ch b=some (o,true):=by
  intro o ho e;obtain⟨o1,o2,o3⟩:=Cw ho;have hbl:b.length<=30:=by rw[e];have:=CW (o:=o) λx hx=>(o3 x hx).2;omega
  have hpos:=NH o1;constructor
  · unfold bQ;have:=On (b:=b) o [] [] (by rw[e];rfl) o3 hbl (by simp;omega)
    simp only[List.length_nil,Int.natCast_zero,nil_append]at this;have this':loop (λz:Int×Int×List Int=>av b z.1 z.2.1 z.2.2) (0,0,[])=some (.inl o):=this
    rw[this',wC,Sum.elim_inl,IZ (by show _<=1048576;omega),wC,ho,cT,←e,beq_eq_false_iff_ne.2 (show ((b.length:Int))≠0 by rw[e];omega),cF,beq_self_eq_true];rfl
  · unfold ch;have:=NF (b:=b) o [] [] (by rw[e];rfl) o3 hbl (by simp;omega)
    simp only[List.length_nil,nil_append]at this;have this':loop (λz:Int×List Int=>aq b z.1 z.2) (0,[])=some (.inl ((b.length:Int),o)):=this
    rw[this',wC,Sum.elim_inl];simp only[bne_self_eq_false,cF];rw[Oi,HL (by omega),wC,ho];rfl
 obtain⟨v,v1,v2⟩:=VA hb hn;have sp:ch b=some ([],false)\/∃o,A6 o=true/\b=xx o:=by
  unfold ch;rw[v1,wC];rcases v2 with rfl|⟨out,s,rfl,q1,q2⟩
  · exact .inl rfl
  · simp only[Sum.elim_inl];cases hne:(((xx out).length:Int) != (b.length:Int))with
    | true=>exact .inl rfl
    | false =>
     rw[cF,Oi,HL (by omega),wC];cases ho:A6 out with
     | false=>exact .inl rfl
     | true =>
      have he:((xx out).length:Int)=(b.length:Int):=by simpa using hne
      have:s=[]:=by
       have:=congrArg List.length q1;rw[length_append]at this;exact length_eq_zero_iff.1 (by omega)
      subst this;exact .inr ⟨out,ho,by rw[q1,append_nil]⟩
 rcases sp with sp|⟨o,ho,e⟩
 · obtain⟨u,u1,u2⟩:=VB hb hn;have im:bQ b=some ([],false)\/∃o,A6 o=true/\b=xx o:=by
    unfold bQ;rw[u1,wC];rcases u2 with rfl|⟨out,rfl,hl⟩
    · exact .inl rfl
    · rw[Sum.elim_inl,IZ hl,wC];cases ho:A6 out with
      | false=>exact .inl rfl
      | true =>
       obtain⟨o1,o2,o3⟩:=Cw ho;have hpos:=NH o1
       rw[cT,beq_eq_false_iff_ne.2 (show (((xx out).length:Int))≠0 by omega),cF];cases hq:(xU (xx out)==xU b)with
       | false=>exact .inl rfl
       | true=>exact .inr ⟨out,ho,(Mn (SP o3) hb (eq_of_beq hq)).symm⟩
   rcases im with im|⟨o,ho,e⟩
   · exact⟨_,im,sp,.inl rfl⟩
   · obtain⟨b1,b2⟩:=both o ho e;exact⟨_,b1,b2,.inr ⟨o,rfl,e,ho⟩⟩
 · obtain⟨b1,b2⟩:=both o ho e;exact⟨_,b1,b2,.inr ⟨o,rfl,e,ho⟩⟩

theorem KO:∀{b:List Int},zE b->Bc (xU b)=b
 | [],_=>rfl
 | x::b,h=>by
  have hx:=h x (by simp);have ih:=KO (b:=b) λy hy=>h y (mem_cons_of_mem _ hy)
  unfold Bc xU at ih ⊢;rw[map_cons,map_cons,ih]
  congr 1
  show ((UInt8.ofNat x.toNat).toNat:Int)=x;rw[UInt8.toNat_ofNat_of_lt' (by show x.toNat<256;omega)];omega
def zr (v:zH):List Int:=cond (v.1==2) (yw v.2.1) (cond (v.1==4) (Bc v.2.2.1) (cond (v.1==6) (xx v.2.2.2) []))
theorem LB {o:List Int} (h:A6 o=true):o.length<=10:=(Cw h).2.1
theorem VC {b:List Int} (hb:zE b) (hn:b.length<=M) {i:Int} (hi:-9223372036854775808<=i/\i<=9223372036854775807):∃r,gp b i=some r/\ii b i=some r/\(r=((0,0,[],[]),0,false)\/∃v next,r=(v,next,true)/\AS v=true/\Cj b i v.1 (zr v) next):=by
 have hM:M=1048576:=rfl;obtain⟨r,r1,r2,r3⟩:=Lh hb hn hi;unfold gp ii;rw[r1,r2,wC,wC];have hrl:r.2.1.length<=250/\zE r.2.1:=by
  rcases r3 with rfl|⟨t,body,next,rfl,h⟩
  · exact⟨by simp,λx hx=>by simp at hx⟩
  · exact⟨h.n,h.b⟩
 have hlM:r.2.1.length<=M:=by omega
 rcases r3 with rfl|⟨t,body,next,rfl,h⟩
 · exact⟨_,rfl,rfl,.inl rfl⟩
 simp only at hrl hlM;simp only[Bool.not_true,cF];by_cases t2:t=2
 · subst t2;obtain⟨g,g1,g2,g3⟩:=Sm hrl.2 hlM;simp only[show ((2:Int)==2)=true from rfl,cT,g1,g2,wC];rcases g3 with rfl|⟨n,rfl,q1,q2,q3⟩
   · exact⟨_,rfl,rfl,.inl rfl⟩
   · simp only[Bool.not_true,cF,wC,K0 (v:=(2,n,[],[])) (by simp),LK (v:=(2,n,[],[])) (by simp)];cases hv:AS (2,n,[],[])with
     | false=>exact⟨_,rfl,rfl,.inl rfl⟩
     | true=>exact⟨_,rfl,rfl,.inr ⟨_,_,rfl,hv,by have:zr (2,n,[],[])=body:=q1.symm;rw[this];exact h⟩⟩
 rw[beq_eq_false_iff_ne.2 t2];simp only[cF];by_cases t4:t=4
 · subst t4;simp only[show ((4:Int)==4)=true from rfl,cT,Bool.not_true,wC,cF,K0 (v:=(4,0,xU body,[])) (by simp),LK (v:=(4,0,xU body,[])) (by simp)];cases hv:AS (4,0,xU body,[])with
   | false=>exact⟨_,rfl,rfl,.inl rfl⟩
   | true=>exact⟨_,rfl,rfl,.inr ⟨_,_,rfl,hv,by have:zr (4,0,xU body,[])=body:=KO h.b;rw[this];exact h⟩⟩
 rw[beq_eq_false_iff_ne.2 t4];simp only[cF];by_cases t6:t=6
 · subst t6;obtain⟨g,g1,g2,g3⟩:=RG hrl.2 hlM;simp only[show ((6:Int)==6)=true from rfl,cT,g1,g2,wC];rcases g3 with rfl|⟨o,rfl,q1,q2⟩
   · exact⟨_,rfl,rfl,.inl rfl⟩
   · have ol:=LB q2;simp only[Bool.not_true,cF,wC,K0 (v:=(6,0,[],o)) (by show o.length<=M;omega),LK (v:=(6,0,[],o)) (by show o.length<=M;omega)];cases hv:AS (6,0,[],o)with
     | false=>exact⟨_,rfl,rfl,.inl rfl⟩
     | true=>exact⟨_,rfl,rfl,.inr ⟨_,_,rfl,hv,by have:zr (6,0,[],o)=body:=q1.symm;rw[this];exact h⟩⟩
 rw[beq_eq_false_iff_ne.2 t6];simp only[cF];cases hz:((body.length:Int)==0)with
 | false=>exact⟨_,rfl,rfl,.inl rfl⟩
 | true =>
  have hb0:body=[]:=length_eq_zero_iff.1 (by have:(body.length:Int)=0:=eq_of_beq hz;omega);simp only[Bool.not_true,cF,wC,K0 (v:=(t,0,[],[])) (by simp),LK (v:=(t,0,[],[])) (by simp)];cases hv:AS (t,0,[],[])with
  | false=>exact⟨_,rfl,rfl,.inl rfl⟩
  | true =>
   refine⟨_,rfl,rfl,.inr ⟨_,_,rfl,hv,?_⟩⟩;have:zr (t,0,[],[])=body:=by
    unfold zr;simp only[beq_eq_false_iff_ne.2 t2,beq_eq_false_iff_ne.2 t4,beq_eq_false_iff_ne.2 t6,cF];exact hb0.symm
   rw[this];exact h
theorem X4 {r:ze} (hb:zE r.1) (hn:r.1.length<=M) (hi:-9223372036854775808<=r.2.1/\r.2.1<=9223372036854775807) (tag:Int):∃d,bz r tag=some d/\bL r tag=some d/\d.1.1=r.1/\(d.1.2.2=true->d.2=[])/\(r.2.2=true->d.1.2.2=true)/\(d.1.2.2=false->r.2.2=false/\Cj r.1 r.2.1 tag d.2 d.1.2.1)/\(d.1.2.2=true->d.1.2.1=r.2.1):=by
 obtain⟨g,g1,g2,g3⟩:=Lh hb hn hi;unfold bz bL;rw[g1,g2,wC];rcases g3 with rfl|⟨t,body,next,rfl,h⟩
 · cases hr:r.2.2 with
   | true=>exact⟨_,rfl,rfl,rfl,λ_=>rfl,λ_=>rfl,λe=>(by cases e),λ_=>rfl⟩
   | false=>exact⟨_,rfl,rfl,rfl,λ_=>rfl,λ_=>rfl,λe=>(by cases e),λ_=>rfl⟩
 · cases hr:r.2.2 with
   | true=>exact⟨_,rfl,rfl,rfl,λ_=>rfl,λ_=>rfl,λe=>(by cases e),λ_=>rfl⟩
   | false =>
    simp only[cF,Bool.not_true,wC];cases ht:(t != tag)with
    | true=>exact⟨_,rfl,rfl,rfl,λ_=>rfl,λ_=>rfl,λe=>(by cases e),λ_=>rfl⟩
    | false =>
     have:t=tag:=by simpa using ht
     subst this;exact⟨_,rfl,rfl,rfl,λe=>(by cases e),λe=>(by cases e),λ_=>⟨by first|rfl|trivial,h⟩,λe=>(by cases e)⟩

structure Fr (r:ze):Prop where
 b:zE r.1
 n:r.1.length<=M
 lo:0<=r.2.1
 hi:r.2.1<=(r.1.length:Int)
theorem Cj.next {b:List Int} {i t:Int} {body:List Int} {next:Int} (h:Cj b i t body next):0<=next/\next<=(b.length:Int):=by
 obtain⟨pre,rest,e1,e2,e3⟩:=h.ex;have:=congrArg List.length e1
 rw[length_append,length_append]at this;omega
theorem Fr.rg {r:ze} (h:Fr r):-9223372036854775808<=r.2.1/\r.2.1<=9223372036854775807:=by
 have h1:=h.lo;have h2:=h.hi
 have h3:r.1.length<=1048576:=h.n;omega
theorem LC:zE []:=λx hx=>by simp at hx
theorem J0 {r:ze} (h:Fr r) (tag:Int):∃d,bz r tag=some d/\bL r tag=some d/\Fr d.1/\d.1.1=r.1/\zE d.2/\d.2.length<=250/\(d.1.2.2=true->d.2=[])/\(r.2.2=true->d.1.2.2=true)/\(d.1.2.2=false->r.2.2=false/\Cj r.1 r.2.1 tag d.2 d.1.2.1):=by
 obtain⟨d,d1,d2,d3,d4,d5,d6,d7⟩:=X4 h.b h.n h.rg tag;refine⟨d,d1,d2,?_,d3,?_,?_,d4,d5,d6⟩
 · cases hb:d.1.2.2 with
   | true=>exact⟨by rw[d3];exact h.b,by rw[d3];exact h.n,by rw[d7 hb];exact h.lo,by rw[d7 hb,d3];exact h.hi⟩
   | false =>
    have:=(d6 hb).2.next
    exact⟨by rw[d3];exact h.b,by rw[d3];exact h.n,this.1,by rw[d3];exact this.2⟩
 · cases hb:d.1.2.2 with
   | true=>rw[d4 hb];exact LC
   | false=>exact (d6 hb).2.b
 · cases hb:d.1.2.2 with
   | true=>rw[d4 hb];simp
   | false=>exact (d6 hb).2.n
theorem Qn {r:ze} (h:Fr r):∃d,cq r 2=some d/\cN r=some d/\Fr d.1/\d.1.1=r.1/\(r.2.2=true->d.1.2.2=true)/\(d.1.2.2=false->r.2.2=false/\Cj r.1 r.2.1 2 (yw d.2) d.1.2.1 /\ -2147483648<=d.2/\d.2<=2147483647):=by
 obtain⟨d,d1,d2,d3,d4,d5,d6,d7,d8,d9⟩:=J0 h 2;have hM:M=1048576:=rfl
 obtain⟨g,g1,g2,g3⟩:=Sm d5 (by omega);unfold cq cN;rw[d1,d2,wC,wC,g1,g2,wC];cases hb:d.1.2.2 with
 | true =>
  refine⟨_,rfl,rfl,⟨d3.b,d3.n,d3.lo,d3.hi⟩,d4,λ_=>rfl,λe=>(by cases e)⟩
 | false =>
  obtain⟨q1,q2⟩:=d9 hb;rcases g3 with rfl|⟨n,rfl,e,n1,n2⟩
  · exact⟨_,rfl,rfl,⟨d3.b,d3.n,d3.lo,d3.hi⟩,d4,λ_=>rfl,λe=>(by cases e)⟩
  · refine⟨_,rfl,rfl,⟨d3.b,d3.n,d3.lo,d3.hi⟩,d4,λe=>?_,λ_=>⟨q1,?_,n1,n2⟩⟩
    · rw[q1]at e;cases e
    · rw[←e];exact q2
theorem TA {b:List Int} (hb:zE b) (hn:b.length<=M):∃r,gq b=some r/\ij b=some r/\(r=(([],0,0,[],[]),false)\/∃x,r=(x,true)/\BJ x=true/\b=xS 6 (xx x.1)++xS x.2.1 (zr x.2)):=by
 have hM:M=1048576:=rfl;have h0:Fr (b,0,false):=⟨hb,hn,by show (0:Int)<=0;omega,by show (0:Int)<=(b.length:Int);omega⟩
 obtain⟨d,d1,d2,d3,d4,d5,d6,d7,d8,d9⟩:=J0 h0 6;obtain⟨g,g1,g2,g3⟩:=RG d5 (by omega);obtain⟨v,v1,v2,v3⟩:=VC hb hn d3.rg;unfold gq ij;simp only[d1,d2,g1,g2,v1,v2,wC];cases hbad:d.1.2.2 with
 | true=>exact⟨_,rfl,rfl,.inl rfl⟩
 | false =>
  simp only[cF,wC];obtain⟨_,hp⟩:=d9 hbad;rcases g3 with rfl|⟨o,rfl,go,ho⟩
  · exact⟨_,rfl,rfl,.inl rfl⟩
  simp only[Bool.not_true,cF,wC];rcases v3 with rfl|⟨w,next,rfl,hw,hp2⟩
  · exact⟨_,rfl,rfl,.inl rfl⟩
  simp only[Bool.not_true,cF,wC];cases hne:(next != (b.length:Int))with
  | true=>exact⟨_,rfl,rfl,.inl rfl⟩
  | false =>
   have hnx:next=(b.length:Int):=by simpa using hne
   refine⟨_,rfl,rfl,.inr ⟨(o,w),rfl,by unfold BJ;rw[ho,hw];rfl,?_⟩⟩;obtain⟨p1,r1,e1,e2,e3⟩:=hp.ex;obtain⟨p2,r2,f1,f2,f3⟩:=hp2.ex;have hp1:p1=[]:=by
    have e2':(0:Int)=(p1.length:Int):=e2;exact length_eq_zero_iff.1 (by omega)
   subst hp1;have e1':b=xS 6 d.2++r1:=by simpa using e1
   have hl:p2.length=(xS 6 d.2).length:=by
    rw[e3]at f2;simp at f2;omega
   obtain⟨q1,q2⟩:=List.append_inj (f1.symm.trans e1') hl;have hr2:r2=[]:=by
    have:=congrArg List.length f1;rw[length_append,length_append]at this;exact length_eq_zero_iff.1 (by omega)
   show b=xS 6 (xx o)++xS w.1 (zr w);rw[f1,q1,go,hr2,append_nil]

theorem B2 (n:Int):(yw n).length<=4:=by unfold yw;split<;>(try split)<;>(try split)<;>simp
theorem zf (t:Int) {body:List Int}:(xS t body).length<=body.length+3:=by unfold xS;split<;>simp<;>omega
theorem HA {v:zH} (h:AS v=true):(zr v).length<=30/\wL v.1 0 255=true/\v.2.2.2.length<=10/\v.2.2.1.length<=20:=by
 obtain⟨k,n,s,o⟩:=v;have Eh:∀{x:Int},0<=x->x<=255->wL x 0 255=true:=λh1 h2=>by unfold wL;rw[dT h1,dT h2];rfl
 unfold AS at h;simp only at h;unfold zr;simp only;by_cases h1:(k==5||(k==128||k==130))=true
 · rw[h1,cT]at h;simp only[aT,beq_iff_eq]at h;simp only[Bool.or_eq_true,beq_iff_eq]at h1;obtain⟨_,rfl,ho⟩:=h;rcases h1 with rfl|rfl|rfl<;>exact⟨by simp,by decide,by omega,by simp⟩
 · have h1':(k==5||(k==128||k==130))=false:=by simpa using h1
   rw[h1',cF]at h;by_cases h2:k=2
   · subst h2;simp only[show ((2:Int)==2)=true from rfl,cT,aT,beq_iff_eq]at h ⊢;obtain⟨_,rfl,ho⟩:=h;have:=B2 n
     exact⟨by omega,by decide,by omega,by simp⟩
   rw[beq_eq_false_iff_ne.2 h2,cF]at h ⊢;by_cases h4:k=4
   · subst h4;simp only[show ((4:Int)==4)=true from rfl,cT,aT,beq_iff_eq,decide_eq_true_eq]at h ⊢;obtain⟨h5,_,ho⟩:=h;exact⟨by unfold Bc;rw[length_map];omega,by decide,by omega,by omega⟩
   rw[beq_eq_false_iff_ne.2 h4,cF]at h ⊢;by_cases h6:k=6
   · subst h6;simp only[show ((6:Int)==6)=true from rfl,cT,aT,beq_iff_eq]at h ⊢;obtain⟨ho,_,rfl⟩:=h;obtain⟨o1,o2,o3⟩:=Cw ho;have:=CW (o:=o) λx hx=>(o3 x hx).2
     exact⟨by omega,by decide,by omega,by simp⟩
   · rw[beq_eq_false_iff_ne.2 h6,cF]at h;cases h
theorem VD {b:List Int} (hb:b.length<=1000) {v:zH} (h:AS v=true):gt b v=some (b++xS v.1 (zr v)):=by
 obtain⟨l1,l2,l3,l4⟩:=HA h;have hM:M=1048576:=rfl
 have fin:∀body:List Int,zr v=body->bj b v.1 body=some (b++xS v.1 (zr v)):=λbody e=>by
  subst e;rw[Om _ hb (by omega),if_pos ⟨l2,by omega⟩]
 unfold gt;rw[K0 (by omega),h,wC];simp only[Bool.not_true,cF];by_cases h2:v.1=2
 · have e:zr v=yw v.2.1:=by unfold zr;rw[beq_iff_eq.2 h2];rfl
   have hr:-2147483648<=v.2.1/\v.2.1<=2147483647:=by
    unfold AS at h;rw[h2]at h;simp only[show ((2:Int)==5)=false from rfl,show ((2:Int)==128)=false from rfl,show ((2:Int)==130)=false from rfl,Bool.or_self,cF,show ((2:Int)==2)=true from rfl,cT,aT]at h;exact xI h.1
   rw[beq_iff_eq.2 h2,cT,Ol (by omega),wC,DR hr,fin _ e];rfl
 rw[beq_eq_false_iff_ne.2 h2,cF];by_cases h4:v.1=4
 · have e:zr v=Bc v.2.2.1:=by unfold zr;rw[beq_eq_false_iff_ne.2 h2,beq_iff_eq.2 h4];rfl
   rw[beq_iff_eq.2 h4,cT,fin _ e];rfl
 rw[beq_eq_false_iff_ne.2 h4,cF];by_cases h6:v.1=6
 · have e:zr v=xx v.2.2.2:=by unfold zr;rw[beq_eq_false_iff_ne.2 h2,beq_eq_false_iff_ne.2 h4,beq_iff_eq.2 h6];rfl
   have ho:A6 v.2.2.2=true:=by
    unfold AS at h;rw[h6]at h;simp only[show ((6:Int)==5)=false from rfl,show ((6:Int)==128)=false from rfl,show ((6:Int)==130)=false from rfl,Bool.or_self,cF,show ((6:Int)==2)=false from rfl,show ((6:Int)==4)=false from rfl,show ((6:Int)==6)=true from rfl,cT,aT]at h;exact h.1
   rw[beq_iff_eq.2 h6,cT,IZ (by omega),ho,cT,wC,fin _ e];rfl
 · have e:zr v=[]:=by unfold zr;rw[beq_eq_false_iff_ne.2 h2,beq_eq_false_iff_ne.2 h4,beq_eq_false_iff_ne.2 h6];rfl
   rw[beq_eq_false_iff_ne.2 h6,cF,fin _ e];rfl
def Ft (x:wF):List Int:=xS 6 (xx x.1)++xS x.2.1 (zr x.2)
def Cx (x:wF):List Int:=xS 48 (Ft x)
def xP (l:List wF):List Int:=l.flatMap Cx
def Aj (p:xg):List Int:=xS 2 (yw p.2.1)++xS 2 (yw p.2.2.1)++xS 2 (yw p.2.2.2.1)++xS 48 (xP p.2.2.2.2)
theorem A1 {p:xg} (h:yK p=true):(∀x∈p.2.2.2.2,BJ x=true)/\p.2.2.2.2.length<=10/\wL p.1 0 255=true/\(-2147483648<=p.2.1/\p.2.1<=2147483647)/\(0<=p.2.2.1/\p.2.2.1<=1000)/\(0<=p.2.2.2.1/\p.2.2.2.1<=1000):=by
 obtain⟨k,id,a,b,l⟩:=p;unfold yK at h;simp only[aT,Bool.not_eq_true',decide_eq_true_eq]at h;obtain⟨⟨h1,h2⟩,h3,h4⟩:=h;refine⟨λx hx=>?_,by show l.length<=10;omega,?_⟩
 · obtain⟨j,hj,rfl⟩:=getElem_of_mem hx;have hj':j<l.length:=hj
   have:=any_eq_false.1 h1 j (mem_range.2 hj');unfold bX at this;simp only[List.getElem?_eq_getElem hj']at this;simpa using this
 · have h4:=xI h4;by_cases c1:(k==162||k==165)=true
   · rw[c1,cT,aT]at h3;have q1:=xI h3.1
     have q2:=xI h3.2;simp only[Bool.or_eq_true,beq_iff_eq]at c1;refine⟨?_,h4,q1,q2⟩;rcases c1 with rfl|rfl<;>rfl
   · have c1':(k==162||k==165)=false:=by simpa using c1
     rw[c1',cF]at h3;by_cases c2:(k==160||(k==161||k==163))=true
     · rw[c2,cT,aT]at h3;simp only[beq_iff_eq]at h3;simp only[Bool.or_eq_true,beq_iff_eq]at c2;obtain⟨rfl,rfl⟩:=h3;refine⟨?_,h4,by show (0:Int)<=0/\(0:Int)<=1000;omega,by show (0:Int)<=0/\(0:Int)<=1000;omega⟩;rcases c2 with rfl|rfl|rfl<;>rfl
     · have c2':(k==160||(k==161||k==163))=false:=by simpa using c2
       rw[c2',cF]at h3;cases h3
theorem Ge {x:wF} (h:BJ x=true):(Ft x).length<=100/\(Cx x).length<=110:=by
 unfold BJ at h;rw[aT]at h;obtain⟨l1,_⟩:=HA h.2;obtain⟨o1,o2,o3⟩:=Cw h.1;have h3:=CW (o:=x.1) λy hy=>(o3 y hy).2
 have h4:=zf 6 (body:=xx x.1);have h5:=zf x.2.1 (body:=zr x.2)
 have h6:(Ft x).length<=100:=by unfold Ft;rw[length_append];omega
 have h7:=zf 48 (body:=Ft x);exact⟨h6,by unfold Cx;omega⟩
theorem NJ {b:List Int} (hb:b.length<=900) {n:Int} (hn:-2147483648<=n/\n<=2147483647):dz b 2 n=some (b++xS 2 (yw n)):=by
 unfold dz;have h4:=B2 n
 rw[Ol (by omega),wC,DR hn,Om _ (by omega) (by show _<=1048576;omega),wC,if_pos ⟨by decide,by omega⟩]
theorem RH {p:xg} (hp:zk M p):eB p=some (if yK p=true/\(xP p.2.2.2.2).length<=250/\(Aj p).length<=250 then xS p.1 (Aj p)else []):=by
 unfold eB;rw[Th hp,wC];cases h:yK p with
 | false=>rw[if_neg (by simp)];rfl
 | true =>
  obtain⟨h1,h2,h3,h4,h5,h6⟩:=A1 h;have hl:∀k,(xP (p.2.2.2.2.take k)).length<=110*k:=by
   intro k
   induction k with
   | zero=>simp[xP]
   | succ k ih =>
    by_cases hk:k<p.2.2.2.2.length
    · have ht:xP (p.2.2.2.2.take (k+1))=xP (p.2.2.2.2.take k)++Cx p.2.2.2.2[k]:=by
       unfold xP;rw[take_add_one,List.getElem?_eq_getElem hk,flatMap_append];simp
      have:=(Ge (h1 _ (getElem_mem hk))).2;rw[ht,length_append];omega
    · rw[take_of_length_le (by omega)]at ih ⊢;omega
  obtain⟨b,e1,rfl⟩:=xi (step:=λz:Int×List Int=>dA p z.1 z.2) (λk z=>z=((k:Int),xP (p.2.2.2.2.take k))) p.2.2.2.2.length (λb=>b=.inl (xP p.2.2.2.2))
   (λk z hk e=>by
    subst e;left;have hx:=h1 _ (getElem_mem hk)
    have hx':=hx;unfold BJ at hx';rw[aT]at hx';obtain⟨o1,o2,o3⟩:=Cw hx'.1;have hob:=CW (o:=p.2.2.2.2[k].1) λy hy=>(o3 y hy).2
    have hlk:=hl k;obtain⟨b1,b2⟩:=Ge hx;have ht:xP (p.2.2.2.2.take (k+1))=xP (p.2.2.2.2.take k)++Cx p.2.2.2.2[k]:=by
     unfold xP;rw[take_add_one,List.getElem?_eq_getElem hk,flatMap_append];simp
    have ht6:=zf 6 (body:=xx p.2.2.2.2[k].1);refine⟨_,?_,rfl⟩;show dA p (k:Int) (xP (p.2.2.2.2.take k))=_
    unfold dA;rw[xk (by omega),cT,wU hk,wC,IZ (by show _<=1048576;omega),hx'.1,cT,wC,Om _ (by simp) (by show _<=1048576;omega),if_pos ⟨by decide,by omega⟩,wC,nil_append,VD (by omega) hx'.2,wC];have hone:xS 6 (xx p.2.2.2.2[k].1)++xS p.2.2.2.2[k].2.1 (zr p.2.2.2.2[k].2)=Ft p.2.2.2.2[k]:=rfl
    rw[hone,QQ _ (by show _<=1048576;omega),if_pos ⟨by decide,by omega⟩,wC];simp only[Bool.not_true,cF];have hbb:xS 48 (Ft p.2.2.2.2[k])=Cx p.2.2.2.2[k]:=rfl
    rw[hbb,wO (by omega),wC,wQ (by omega),ht])
   (λz e=>by
    subst e;refine⟨_,?_,rfl⟩;show dA p (p.2.2.2.2.length:Int) (xP (p.2.2.2.2.take p.2.2.2.2.length))=_
    unfold dA;rw[x7 (by omega),cF,take_length]) (x:=(0,[])) rfl
  have hal:(xP p.2.2.2.2).length<=1100:=by
   have:=hl p.2.2.2.2.length;rw[take_length]at this;omega
  rw[Bool.not_true,cF,e1,wC,Sum.elim_inl,QQ _ (by show _<=1048576;omega)];by_cases ha:(xP p.2.2.2.2).length<=250
  · rw[if_pos ⟨by decide,ha⟩,wC];simp only[Bool.not_true,cF];have t1:=zf 2 (body:=yw p.2.1)
    have t2:=zf 2 (body:=yw p.2.2.1);have t3:=zf 2 (body:=yw p.2.2.2.1)
    have t4:=zf 48 (body:=xP p.2.2.2.2);have i1:=B2 p.2.1
    have i2:=B2 p.2.2.1;have i3:=B2 p.2.2.2.1
    rw[NJ (by simp) h4,wC,nil_append,NJ (by omega) ⟨by omega,by omega⟩,wC,NJ (by rw[length_append];omega) ⟨by omega,by omega⟩,wC,wO (by simp only[length_append];omega),wC];have hbody:xS 2 (yw p.2.1)++xS 2 (yw p.2.2.1)++xS 2 (yw p.2.2.2.1)++xS 48 (xP p.2.2.2.2)=Aj p:=rfl
    rw[hbody,QQ _ (by show _<=1048576;unfold Aj;simp only[length_append];omega)];by_cases hb:(Aj p).length<=250
    · rw[if_pos ⟨h3,hb⟩,if_pos ⟨by first|rfl|trivial,ha,hb⟩];rfl
    · rw[if_neg (λe=>hb e.2),if_neg (λe=>hb e.2.2)];rfl
  · rw[if_neg (λe=>ha e.2),if_neg (λe=>ha e.2.1)];rfl

theorem Cj.cons {b P s:List Int} {i t:Int} {x:List Int} {next:Int} (h:Cj b i t x next) (e:b=P++s) (hi:i=(P.length:Int)):∃s',b=(P++xS t x)++s'/\next=((P++xS t x).length:Int):=by
 obtain⟨pre,rest,e1,e2,e3⟩:=h.ex;have hl:pre.length=P.length:=by omega
 obtain⟨q1,q2⟩:=List.append_inj (e1.symm.trans e) hl;subst q1;exact⟨rest,by rw[e1,append_assoc],by rw[e3,length_append]⟩
theorem JQ (t:Int) (b:List Int):1<=(xS t b).length:=by unfold xS;simp
theorem zF {x:wF} (h:BJ x=true):E8 M x:=by
 unfold BJ at h;rw[aT]at h;obtain⟨_,_,l3,l4⟩:=HA h.2;have:=LB h.1
 have hM:M=1048576:=rfl;exact⟨by omega,by omega,by omega⟩
theorem SQ (l:List wF) (x:wF):xP (l++[x])=xP l++Cx x:=by unfold xP;rw[flatMap_append];simp
noncomputable abbrev TB (K I A B:Int) (c:List Int) (i:Int) (l:List wF):=loop (λz:Int×Int×Int×Int×Int×Int×Int×Int×List Int×Int×Bool×List wF×List wF=>aD z.1 z.2.1 z.2.2.1 z.2.2.2.1 z.2.2.2.2.1 z.2.2.2.2.2.1 z.2.2.2.2.2.2.1 z.2.2.2.2.2.2.2.1 z.2.2.2.2.2.2.2.2.1 z.2.2.2.2.2.2.2.2.2.1 z.2.2.2.2.2.2.2.2.2.2.1 z.2.2.2.2.2.2.2.2.2.2.2.1 z.2.2.2.2.2.2.2.2.2.2.2.2) (0,0,0,0,K,I,A,B,c,i,false,[],l)
noncomputable abbrev MG (r:ze) (K I A B:Int) (c:List Int) (i:Int) (l:List wF):=loop (λz:List Int×Int×Bool×Int×Int×Int×Int×List Int×Int×Bool×List wF=>ar z.1 z.2.1 z.2.2.1 z.2.2.2.1 z.2.2.2.2.1 z.2.2.2.2.2.1 z.2.2.2.2.2.2.1 z.2.2.2.2.2.2.2.1 z.2.2.2.2.2.2.2.2.1 z.2.2.2.2.2.2.2.2.2.1 z.2.2.2.2.2.2.2.2.2.2) (r.1,r.2.1,r.2.2,K,I,A,B,c,i,false,l)
theorem VE (r:ze) (hr:r.2.2=false) (K I A B:Int) {c:List Int} (hc:zE c) (hn:c.length<=M):∀(n:Nat) (l:List wF) (s:List Int),n+l.length=10->c=xP l++s->(∀x∈l,BJ x=true) ->
 (TB K I A B c ((xP l).length:Int) l=some (.inr (false,0,0,0,0,[]))/\∃d,MG r K I A B c ((xP l).length:Int) l=some d/\(d.2.2.1=true\/d.2.2.2.2.2.2.2.2.2.2.length=11)/\d.2.1=r.2.1/\CS M d.2.2.2.2.2.2.2.2.2.2) \/
 (∃l',c=xP l'/\(∀x∈l',BJ x=true)/\l'.length<=10/\TB K I A B c ((xP l).length:Int) l=some (.inl (0,0,0,0,K,I,A,B,c,(c.length:Int),false,[],l'))/\MG r K I A B c ((xP l).length:Int) l=some (r.1,r.2.1,false,K,I,A,B,c,(c.length:Int),false,l')):=by
 have hM:M=1048576:=rfl;intro n
 induction n with
 | zero =>
  intro l s hl e hx;have hcl:c.length=(xP l).length+s.length:=by rw[e,length_append]
  by_cases hlt:((xP l).length:Int)<(c.length:Int)
  · have h0:Fr (c,((xP l).length:Int),false):=⟨hc,hn,by show (0:Int)<=((xP l).length:Int);omega,by show ((xP l).length:Int)<=(c.length:Int);omega⟩;obtain⟨d,d1,d2,d3,d4,d5,d6,d7,d8,d9⟩:=J0 h0 48;obtain⟨g,g1,g2,g3⟩:=TA d5 (by omega);have hs:ar r.1 r.2.1 r.2.2 K I A B c ((xP l).length:Int) false l=some (.inl (r.1,r.2.1,cond d.1.2.2 true (!g.2),K,I,A,B,d.1.1,d.1.2.1,d.1.2.2,l++[g.1])):=by
     unfold ar;rw[hr];simp only[Bool.not_false,cT,xk hlt,wC,dT (show (l.length:Int)<=10 by omega),d1,d2,g2];rw[show (cond d.1.2.2 (some true) (some (!g.2)))=some (cond d.1.2.2 true (!g.2)) by cases d.1.2.2<;>rfl,wC,wO (by show l.length+1<=_;omega),wC]
    have hs2:∀(bd:Bool) (c':List Int) (i':Int) (qb:Bool) (l':List wF),(bd=true\/l'.length=11)->ar r.1 r.2.1 bd K I A B c' i' qb l'=some (.inr (r.1,r.2.1,bd,K,I,A,B,c',i',qb,l')):=by
     intro bd c' i' qb l' h;unfold ar;rcases h with rfl|h
     · rfl
     · rw[dF (show ¬(l'.length:Int)<=10 by omega)];cases bd with
       | true=>rfl
       | false=>cases h1:decide (i'<(c'.length:Int))<;>simp
    left;refine⟨xh ?_,_,xb hs (xh (hs2 _ _ _ _ _ (.inr (by rw[length_append];show l.length+1=11;omega)))),.inr (by show (l++[g.1]).length=11;rw[length_append];show l.length+1=11;omega),rfl,?_⟩
    · show aD 0 0 0 0 K I A B c ((xP l).length:Int) false [] l=_;unfold aD;simp only[xk hlt,cT,d1,g1,wC,dT (show (l.length:Int)>=10 by omega)];cases g.2<;>rfl
    · refine⟨by show (l++[g.1]).length<=1048576;rw[length_append];show l.length+1<=_;omega,λx hx'=>?_⟩;rcases mem_append.1 hx' with h|h
      · exact zF (hx x h)
      · rw[mem_singleton]at h;subst h;rcases g3 with rfl|⟨x,rfl,q,_⟩
        · exact⟨by show 0<=1048576;decide,by show 0<=1048576;decide,by show 0<=1048576;decide⟩
        · exact zF q
  · have hs0:s=[]:=length_eq_zero_iff.1 (by omega);subst hs0;rw[append_nil]at e;right;refine⟨l,e,hx,by omega,xh ?_,xh ?_⟩
    · show aD 0 0 0 0 K I A B c ((xP l).length:Int) false [] l=_;unfold aD;rw[x7 hlt,cF,e]
    · show ar r.1 r.2.1 r.2.2 K I A B c ((xP l).length:Int) false l=_;unfold ar;rw[hr,x7 hlt,e];rfl
 | succ n ih =>
  intro l s hl e hx;have hcl:c.length=(xP l).length+s.length:=by rw[e,length_append]
  by_cases hlt:((xP l).length:Int)<(c.length:Int)
  · have h0:Fr (c,((xP l).length:Int),false):=⟨hc,hn,by show (0:Int)<=((xP l).length:Int);omega,by show ((xP l).length:Int)<=(c.length:Int);omega⟩;obtain⟨d,d1,d2,d3,d4,d5,d6,d7,d8,d9⟩:=J0 h0 48;obtain⟨g,g1,g2,g3⟩:=TA d5 (by omega);have hs:ar r.1 r.2.1 r.2.2 K I A B c ((xP l).length:Int) false l=some (.inl (r.1,r.2.1,cond d.1.2.2 true (!g.2),K,I,A,B,d.1.1,d.1.2.1,d.1.2.2,l++[g.1])):=by
     unfold ar;rw[hr];simp only[Bool.not_false,cT,xk hlt,wC,dT (show (l.length:Int)<=10 by omega),d1,d2,g2];rw[show (cond d.1.2.2 (some true) (some (!g.2)))=some (cond d.1.2.2 true (!g.2)) by cases d.1.2.2<;>rfl,wC,wO (by show l.length+1<=_;omega),wC]
    rcases g3 with rfl|⟨x,rfl,hxo,hxe⟩
    · left;have hbd:(cond d.1.2.2 true (!false))=true:=by cases d.1.2.2<;>rfl
      refine⟨xh ?_,_,xb hs (xh (b:=(r.1,r.2.1,true,K,I,A,B,d.1.1,d.1.2.1,d.1.2.2,l++[([],0,0,[],[])])) ?_),.inl rfl,rfl,?_⟩
      · show aD 0 0 0 0 K I A B c ((xP l).length:Int) false [] l=_;unfold aD;simp only[xk hlt,cT,d1,g1,wC];rfl
      · show ar r.1 r.2.1 (cond d.1.2.2 true (!false)) K I A B d.1.1 d.1.2.1 d.1.2.2 (l++[([],0,0,[],[])])=_;rw[hbd];rfl
      · refine⟨by show (l++[_]).length<=1048576;rw[length_append];show l.length+1<=_;omega,λy hy=>?_⟩;rcases mem_append.1 hy with h|h
        · exact zF (hx y h)
        · rw[mem_singleton]at h;subst h;exact⟨by show 0<=1048576;decide,by show 0<=1048576;decide,by show 0<=1048576;decide⟩
    · have hbad:d.1.2.2=false:=by
       cases hb:d.1.2.2 with
       | false=>rfl
       | true =>
        rw[d7 hb]at hxe;have:=congrArg List.length hxe
        have h1:=JQ 6 (xx x.1);rw[length_append]at this;simp at this;omega
      obtain⟨_,hp⟩:=d9 hbad;obtain⟨s',e1,e2⟩:=hp.cons (P:=xP l) (s:=s) e rfl;have hb:xS 48 d.2=Cx x:=by unfold Cx Ft;rw[←hxe]
      rw[hb,←SQ]at e1 e2;have hdc:d.1.1=c:=d4
      have:=ih (l++[x]) s' (by rw[length_append];show n+(l.length+1)=10;omega) e1 (λy hy=>by
       rcases mem_append.1 hy with h|h
       · exact hx y h
       · rw[mem_singleton]at h;subst h;exact hxo)
      have hi:aD 0 0 0 0 K I A B c ((xP l).length:Int) false [] l=some (.inl (0,0,0,0,K,I,A,B,c,((xP (l++[x])).length:Int),false,[],l++[x])):=by
       unfold aD;simp only[xk hlt,cT,d1,g1,wC,dF (show ¬(l.length:Int)>=10 by omega),Bool.not_true,cF];rw[wO (by show l.length+1<=_;omega),wC,hdc,hbad,e2]
      have hs':ar r.1 r.2.1 r.2.2 K I A B c ((xP l).length:Int) false l=some (.inl (r.1,r.2.1,r.2.2,K,I,A,B,c,((xP (l++[x])).length:Int),false,l++[x])):=by
       rw[hs,hdc,hbad,e2,hr];rfl
      rcases this with ⟨i1,dd,i2,i3⟩|⟨l',q1,q2,q3,i1,i2⟩
      · exact .inl ⟨xb hi i1,dd,xb hs' i2,i3⟩
      · exact .inr ⟨l',q1,q2,q3,xb hi i1,xb hs' i2⟩
  · have hs0:s=[]:=length_eq_zero_iff.1 (by omega);subst hs0;rw[append_nil]at e;right;refine⟨l,e,hx,by omega,xh ?_,xh ?_⟩
    · show aD 0 0 0 0 K I A B c ((xP l).length:Int) false [] l=_;unfold aD;rw[x7 hlt,cF,e]
    · show ar r.1 r.2.1 r.2.2 K I A B c ((xP l).length:Int) false l=_;unfold ar;rw[hr,x7 hlt,e];rfl

theorem Y9 (r:ze) (hr:r.2.2=true) (K I A B:Int) (c:List Int):MG r K I A B c 0 []=some (r.1,r.2.1,true,K,I,A,B,c,0,false,[]):=by
 refine xh ?_;show ar r.1 r.2.1 r.2.2 K I A B c 0 false []=_
 unfold ar;rw[hr];rfl
theorem zk.of {p:xg} (h:∀x∈p.2.2.2.2,BJ x=true) (h2:p.2.2.2.2.length<=11):zk M p:=⟨by show _<=1048576;omega,λx hx=>zF (h x hx)⟩
theorem VF {b:List Int} (hb:zE b) (hn:b.length<=M):∃r,gu b=some r/\il b=some r/\(r=((0,0,0,0,[]),false)\/∃p,r=(p,true)/\yK p=true/\zk M p):=by
 have hM:M=1048576:=rfl;obtain⟨t,t1,t2,t3⟩:=Lh hb hn (i:=0) (by omega);have htb:t.2.1.length<=250/\zE t.2.1:=by
  rcases t3 with rfl|⟨k,body,next,rfl,h⟩
  · exact⟨by simp,LC⟩
  · exact⟨h.n,h.b⟩
 have h0:Fr (t.2.1,0,false):=⟨htb.2,by show t.2.1.length<=M;omega,by show (0:Int)<=0;omega,by show (0:Int)<=(t.2.1.length:Int);omega⟩;obtain⟨d1,a1,b1,c1,e1,f1,g1⟩:=Qn h0;obtain⟨d2,a2,b2,c2,e2,f2,g2⟩:=Qn c1;obtain⟨d3,a3,b3,c3,e3,f3,g3⟩:=Qn c2;obtain⟨d4,a4,b4,c4,e4,m4,n4,k4,f4,g4⟩:=J0 c3 48;unfold gu il;simp only[t1,t2,a1,b1,a2,b2,a3,b3,a4,b4,wC];have sp:∃d,MG d4.1 t.1 d1.2 d2.2 d3.2 d4.2 0 []=some d/\d.2.1=d4.1.2.1/\(d4.1.2.2=true->d.2.2.1=true)/\CS M d.2.2.2.2.2.2.2.2.2.2:=by
  cases hbad:d4.1.2.2 with
  | true=>exact⟨_,Y9 d4.1 hbad _ _ _ _ _,rfl,λ_=>rfl,⟨by show 0<=1048576;decide,λx hx=>by simp at hx⟩⟩
  | false =>
   rcases VE d4.1 hbad t.1 d1.2 d2.2 d3.2 m4 (by omega) 10 [] d4.2 rfl rfl (by simp)with ⟨_,d,q1,_,q3,q4⟩|⟨l',q1,q2,q3,_,q4⟩
   · exact⟨d,q1,q3,λe=>(by cases e),q4⟩
   · exact⟨_,q4,rfl,λe=>(by cases e),⟨by show l'.length<=1048576;omega,λx hx=>zF (q2 x hx)⟩⟩
 obtain⟨d,s1,s2,s3,s4⟩:=sp;have s1':loop (λz:List Int×Int×Bool×Int×Int×Int×Int×List Int×Int×Bool×List wF=>ar z.1 z.2.1 z.2.2.1 z.2.2.2.1 z.2.2.2.2.1 z.2.2.2.2.2.1 z.2.2.2.2.2.2.1 z.2.2.2.2.2.2.2.1 z.2.2.2.2.2.2.2.2.1 z.2.2.2.2.2.2.2.2.2.1 z.2.2.2.2.2.2.2.2.2.2) (d4.1.1,d4.1.2.1,d4.1.2.2,t.1,d1.2,d2.2,d3.2,d4.2,0,false,[])=some d:=s1
 rw[s1',wC];have pd:bK (d.2.2.2.1,d.2.2.2.2.1,d.2.2.2.2.2.1,d.2.2.2.2.2.2.1,d.2.2.2.2.2.2.2.2.2.2)=some (yK (d.2.2.2.1,d.2.2.2.2.1,d.2.2.2.2.2.1,d.2.2.2.2.2.2.1,d.2.2.2.2.2.2.2.2.2.2)):=QL (p:=(d.2.2.2.1,d.2.2.2.2.1,d.2.2.2.2.2.1,d.2.2.2.2.2.2.1,d.2.2.2.2.2.2.2.2.2.2)) s4
 simp only[pd,wC];cases hok:t.2.2.2 with
 | false=>exact⟨_,rfl,rfl,.inl rfl⟩
 | true =>
 simp only[Bool.not_true,cF,wC];cases hnx:(t.2.2.1 != (b.length:Int))with
 | true=>exact⟨_,rfl,rfl,.inl rfl⟩
 | false =>
 simp only[cF,wC];unfold iY;cases hbad:d4.1.2.2 with
 | true =>
  rw[s3 hbad];exact⟨_,rfl,rfl,.inl rfl⟩
 | false =>
 simp only[Bool.not_false,cT,wC];have hlen:d4.1.1=t.2.1:=by rw[e4,e3,e2,e1]
 rw[s2,hlen];cases hat:(d4.1.2.1==(t.2.1.length:Int))with
 | false =>
  have:(d4.1.2.1 != (t.2.1.length:Int))=true:=by rw[bne,hat];rfl
  rw[this];refine⟨((0,0,0,0,[]),false),rfl,?_,.inl rfl⟩;cases d.2.2.1<;>rfl
 | true =>
 have hat':(d4.1.2.1 != (t.2.1.length:Int))=false:=by rw[bne,hat];rfl
 rw[hat'];simp only[Bool.not_true,cF];obtain⟨x3,p4⟩:=g4 hbad;obtain⟨x2,p3,i3⟩:=g3 x3;obtain⟨x1,p2,i2⟩:=g2 x2;obtain⟨_,p1,i1⟩:=g1 x1;rcases t3 with rfl|⟨k,body,next,rfl,hp⟩
 · cases hok
 simp only at p1 hat hnx hlen;have p1':Cj body 0 2 (yw d1.2) d1.1.2.1:=p1
 have p2':Cj body d1.1.2.1 2 (yw d2.2) d2.1.2.1:=by rw[e1]at p2;exact p2
 have p3':Cj body d2.1.2.1 2 (yw d3.2) d3.1.2.1:=by rw[e2,e1]at p3;exact p3
 have p4':Cj body d3.1.2.1 48 d4.2 d4.1.2.1:=by rw[e3,e2,e1]at p4;exact p4
 obtain⟨s1x,y1,z1⟩:=p1'.cons (P:=[]) (s:=body) rfl rfl;obtain⟨s2x,y2,z2⟩:=p2'.cons y1 z1;obtain⟨s3x,y3,z3⟩:=p3'.cons y2 z2;obtain⟨s4x,y4,z4⟩:=p4'.cons y3 z3;have hs4:s4x=[]:=by
  have h1:=congrArg List.length y4;rw[length_append]at h1;have h2:d4.1.2.1=(body.length:Int):=eq_of_beq hat
  exact length_eq_zero_iff.1 (by omega)
 subst hs4;rw[append_nil,nil_append]at y4;obtain⟨u1,u2,u3⟩:∃rest,b=xS k body++rest/\rest=[]:=by
  obtain⟨s',w1,w2⟩:=hp.cons (P:=[]) (s:=b) rfl rfl;refine⟨s',by simpa using w1,?_⟩;have h1:=congrArg List.length w1
  rw[length_append]at h1;have h2:next=(b.length:Int):=by simpa using hnx
  exact length_eq_zero_iff.1 (by omega)
 subst u3;rw[append_nil]at u2;rcases VE d4.1 hbad k d1.2 d2.2 d3.2 m4 (by omega) 10 [] d4.2 rfl rfl (by simp)with ⟨j1,dd,j2,j3,_,_⟩|⟨l',w1,w2,w3,j1,j2⟩
 · have hdd:dd=d:=by
    have:some dd=some d:=j2.symm.trans s1;exact Option.some.inj this
   subst hdd;have j1':loop (λz:Int×Int×Int×Int×Int×Int×Int×Int×List Int×Int×Bool×List wF×List wF=>aD z.1 z.2.1 z.2.2.1 z.2.2.2.1 z.2.2.2.2.1 z.2.2.2.2.2.1 z.2.2.2.2.2.2.1 z.2.2.2.2.2.2.2.1 z.2.2.2.2.2.2.2.2.1 z.2.2.2.2.2.2.2.2.2.1 z.2.2.2.2.2.2.2.2.2.2.1 z.2.2.2.2.2.2.2.2.2.2.2.1 z.2.2.2.2.2.2.2.2.2.2.2.2) (0,0,0,0,k,d1.2,d2.2,d3.2,d4.2,0,false,[],[])=some (.inr (false,0,0,0,0,[])):=j1
   rw[j1',wC,Sum.elim_inr];refine⟨((0,0,0,0,[]),false),rfl,?_,.inl rfl⟩;cases hd:dd.2.2.1 with
   | true=>rfl
   | false =>
    have h11:dd.2.2.2.2.2.2.2.2.2.2.length=11:=by
     rcases j3 with h|h
     · rw[hd]at h;cases h
     · exact h
    have hpf:yK (dd.2.2.2.1,dd.2.2.2.2.1,dd.2.2.2.2.2.1,dd.2.2.2.2.2.2.1,dd.2.2.2.2.2.2.2.2.2.2)=false:=by
     unfold yK;rw[dF (show ¬((dd.2.2.2.2.2.2.2.2.2.2.length:Nat):Int)<=10 by omega),Bool.and_false,Bool.false_and]
    rw[hpf];simp only[cF,wC];cases (dd.2.2.2.2.2.2.2.2.1 != (dd.2.2.2.2.2.2.2.1.length:Int))<;>rfl
 · have hdd:d=(d4.1.1,d4.1.2.1,false,k,d1.2,d2.2,d3.2,d4.2,(d4.2.length:Int),false,l'):=by
    have:some d=some (d4.1.1,d4.1.2.1,false,k,d1.2,d2.2,d3.2,d4.2,(d4.2.length:Int),false,l'):=s1.symm.trans j2;exact Option.some.inj this
   subst hdd;have j1':loop (λz:Int×Int×Int×Int×Int×Int×Int×Int×List Int×Int×Bool×List wF×List wF=>aD z.1 z.2.1 z.2.2.1 z.2.2.2.1 z.2.2.2.2.1 z.2.2.2.2.2.1 z.2.2.2.2.2.2.1 z.2.2.2.2.2.2.2.1 z.2.2.2.2.2.2.2.2.1 z.2.2.2.2.2.2.2.2.2.1 z.2.2.2.2.2.2.2.2.2.2.1 z.2.2.2.2.2.2.2.2.2.2.2.1 z.2.2.2.2.2.2.2.2.2.2.2.2) (0,0,0,0,k,d1.2,d2.2,d3.2,d4.2,0,false,[],[])=some (.inl (0,0,0,0,k,d1.2,d2.2,d3.2,d4.2,(d4.2.length:Int),false,[],l')):=j1
   rw[j1',wC,Sum.elim_inl];have hpl:zk M (k,d1.2,d2.2,d3.2,l'):=zk.of (p:=(k,d1.2,d2.2,d3.2,l')) w2 (by show l'.length<=11;omega)
   have hbody:body=Aj (k,d1.2,d2.2,d3.2,l'):=by
    rw[y4,w1];rfl
   simp only[RH hpl,wC,bne_self_eq_false,cF];cases hpp:yK (k,d1.2,d2.2,d3.2,l')with
   | false =>
    rw[if_neg (by simp)];exact⟨_,rfl,rfl,.inl rfl⟩
   | true =>
    have hal:(xP l').length<=250:=by rw[←w1];exact n4
    rw[if_pos ⟨rfl,hal,by rw[←hbody];exact hp.n⟩,←hbody,←u2];have hb1:((b.length:Int)==0)=false:=beq_eq_false_iff_ne.2 (by
     have:=JQ k body;rw[←u2]at this;omega)
    rw[hb1,beq_self_eq_true];exact⟨_,rfl,rfl,.inr ⟨_,rfl,hpp,hpl⟩⟩

theorem VG (w:List UInt8) {b:List Int} (hb:zE b) (hn:b.length<=M):∃r,dC w b=some r/\fQ w b=some r/\zk M r.1/\(r.2=0->yK r.1=true):=by
 have hM:M=1048576:=rfl;have nil:zk M ((0,0,0,0,[]):xg):=⟨by show 0<=1048576;decide,λx hx=>by simp at hx⟩
 obtain⟨t,t1,t2,t3⟩:=Lh hb hn (i:=0) (by omega);have htb:t.2.1.length<=250/\zE t.2.1:=by
  rcases t3 with rfl|⟨k,body,next,rfl,h⟩
  · exact⟨by simp,LC⟩
  · exact⟨h.n,h.b⟩
 have h0:Fr (t.2.1,0,false):=⟨htb.2,by show t.2.1.length<=M;omega,by show (0:Int)<=0;omega,by show (0:Int)<=(t.2.1.length:Int);omega⟩;obtain⟨d1,a1,b1,c1,e1,f1,g1⟩:=Qn h0;obtain⟨d2,a2,b2,c2,e2,m2,n2,k2,f2,g2⟩:=J0 c1 4;have hlen:d2.1.1=t.2.1:=by rw[e2,e1]
 have hlo:=c2.lo;have hhi:=c2.hi
 rw[hlen]at hhi;obtain⟨j,hj⟩:∃j:Nat,d2.1.2.1=(j:Int):=⟨d2.1.2.1.toNat,by omega⟩;have hcut:cut t.2.1 d2.1.2.1 (t.2.1.length:Int)=some (t.2.1.drop j):=by
  rw[hj,A5 (by omega) (Nat.le_refl _),take_length]
 obtain⟨g,p1,p2,p3⟩:=VF (b:=t.2.1.drop j) (λx hx=>htb.2 x (mem_of_mem_drop hx)) (by rw[length_drop];omega);unfold dC fQ;simp only[t1,t2,a1,b1,a2,b2,wC,hcut,p1,p2];cases (!t.2.2.2)with
 | true=>exact⟨_,rfl,rfl,nil,λe=>(by cases e)⟩
 | false =>
 simp only[cF,wC];cases (t.1 != 48)with
 | true=>exact⟨_,rfl,rfl,nil,λe=>(by cases e)⟩
 | false =>
 simp only[cF,wC];cases (t.2.2.1 != (b.length:Int))with
 | true=>exact⟨_,rfl,rfl,nil,λe=>(by cases e)⟩
 | false =>
 simp only[cF,wC];cases d2.1.2.2 with
 | true=>exact⟨_,rfl,rfl,nil,λe=>(by cases e)⟩
 | false =>
 simp only[cF,wC];cases (d1.2 != 1)with
 | true=>exact⟨_,rfl,rfl,nil,λe=>(by cases e)⟩
 | false =>
 simp only[cF,wC];cases (xU d2.2==w)with
 | false=>exact⟨_,rfl,rfl,nil,λe=>(by cases e)⟩
 | true =>
 simp only[Bool.not_true,cF];rcases p3 with rfl|⟨p,rfl,q1,q2⟩
 · exact⟨_,rfl,rfl,nil,λe=>(by cases e)⟩
 · exact⟨_,rfl,rfl,q2,λ_=>q1⟩

def JR (p:xg):List Int:=if yK p=true/\(xP p.2.2.2.2).length<=250/\(Aj p).length<=250 then xS p.1 (Aj p)else []
def yq (p:xg):Bool:=wL ((JR p).length:Int) 1 120
theorem J1 {p:xg} (hp:zk M p):aN p=some (yq p):=by
 unfold aN;rw[RH hp,wC];show (aa ((JR p).length:Int) 1 120).bind _=_
 rw[zQ,wC];rfl
theorem Uk {p:xg} (h:yq p=true):yK p=true:=by
 unfold yq JR at h;split at h
 · rename_i hh;exact hh.1
 · obtain⟨h1,_⟩:=xI h;simp at h1
theorem Fu {α β:Type} {l:List α} {g:α->β} {step:Int×List β->Option ((Int×List β)⊕List β)} (hn:l.length<=M)
 (h1:∀k (hk:k<l.length) (out:List β),out.length=k->step ((k:Int),out)=some (.inl (((k+1:Nat):Int),out++[g l[k]]))) (h2:∀out,step ((l.length:Int),out)=some (.inr out)):loop step (0,[])=some (l.map g):=by
 obtain⟨b,e1,rfl⟩:=xi (step:=step) (λk z=>z=((k:Int),(l.take k).map g)) l.length (λb=>b=l.map g)
  (λk z hk e=>by
   subst e;refine .inl ⟨_,h1 k hk _ (by rw[length_map,length_take];omega),?_⟩;rw[take_add_one,List.getElem?_eq_getElem hk,map_append];rfl)
  (λz e=>by
   subst e;exact⟨_,h2 _,by rw[take_length]⟩) (x:=(0,[])) rfl
 exact e1
noncomputable def yy (b:wD) (o:List Int):wF:=(aX b o).getD ([],0,0,[],[])
noncomputable def Fv (b:wD) (o:List Int):zH:=(bV b o).getD (0,0,[],[])
theorem J2 {b:wD} (h:xE b) {o:List Int} (ho:o.length<=1000):aX b o=some (yy b o)/\((yy b o∈zI b/\o<(yy b o).1)\/(yy b o=(o,130,0,[],[])/\∀x∈zI b,¬o<x.1)):=by
 obtain⟨j,hj⟩:=XQ (Tb h) o;have e:=XR h ho hj
 unfold yy;rw[e];refine⟨rfl,?_⟩;by_cases hl:j<(zI b).length
 · rw[dif_pos hl];exact .inl ⟨getElem_mem hl,hj.yes j hl (Nat.le_refl _)⟩
 · rw[dif_neg hl];refine .inr ⟨rfl,λx hx=>?_⟩;obtain⟨i,hi,rfl⟩:=getElem_of_mem hx;exact hj.no i hi (by omega)
theorem SR {b:wD} (h:xE b) {o:List Int} (ho:o.length<9223372036854775807):bV b o=some (Fv b o)/\((∃x∈zI b,x.1=o/\Fv b o=x.2)\/((∀x∈zI b,x.1≠o)/\Fv b o=(128,0,[],[]))):=by
 obtain⟨v,e,hv⟩:=Yw h ho;unfold Fv;rw[e];exact⟨rfl,hv⟩
theorem Ul {o:List Int} (h:Nm o):A6 o=true:=by
 have h1:=h.ok;rw[HL (by have:=h.n10;omega)]at h1;exact Option.some.inj h1
theorem Pj {v:zH} (h:Vl v):AS v=true:=by
 have h1:=h.ok;rw[K0 (by rw[h.o];show 0<=1048576;omega)]at h1;exact Option.some.inj h1
theorem Bu {o:List Int} (h:A6 o=true):o.length<=10:=(Cw h).2.1
theorem X5 {b:wD} (h:xE b) {x:wF} (hx:x∈zI b):BJ x=true:=by
 obtain⟨h1,h2⟩:=Fz h x hx;unfold BJ;rw[Ul h1,Pj h2];rfl
theorem H5 {b:wD} (h:xE b) {o:List Int} (ho:A6 o=true):BJ (yy b o)=true:=by
 obtain⟨_,h1⟩:=J2 h (o:=o) (by have:=Bu ho;omega);rcases h1 with ⟨h1,_⟩|⟨h1,_⟩
 · exact X5 h h1
 · rw[h1];unfold BJ;rw[ho];rfl
theorem A8 {x:wF} (h:BJ x=true):A6 x.1=true:=by
 unfold BJ at h;rw[aT]at h;exact h.1
theorem TC {b:wD} (h:xE b) {o:List Int} (ho:o.length<9223372036854775807):AS (Fv b o)=true:=by
 obtain⟨_,h1⟩:=SR h ho;rcases h1 with ⟨x,hx,_,e⟩|⟨_,e⟩
 · rw[e];exact Pj (Fz h x hx).2
 · rw[e];rfl
def C0 (s:List wF×List (List Int)):Nat:=min s.2.length (10-s.1.length)
noncomputable def Eh (b:wD) (s:List wF×List (List Int)):List wF×List (List Int):=(s.1++(s.2.take (C0 s)).map (yy b),(s.2.take (C0 s)).map (λo=>(yy b o).1)++s.2.drop (C0 s))
noncomputable def DK (b:wD):Nat->List wF×List (List Int)->List wF×List (List Int)
 | 0,s=>s
 | k+1,s=>if 0<s.2.length/\s.1.length<10 then DK b k (Eh b s)else s
structure Iy (s:List wF×List (List Int)):Prop where
 o10:s.1.length<=10
 l10:s.2.length<=10
 oOk:∀x∈s.1,BJ x=true
 lOk:∀o∈s.2,A6 o=true
theorem RI {b:wD} (h:xE b) {s:List wF×List (List Int)} (hs:Iy s):Iy (Eh b s):=by
 obtain⟨h1,h2,h3,h4⟩:=hs;refine⟨?_,?_,λx hx=>?_,λo ho=>?_⟩
 · show (s.1++_).length<=10;rw[length_append,length_map,length_take];unfold C0;omega
 · show (_++s.2.drop (C0 s)).length<=10;rw[length_append,length_map,length_take,length_drop];unfold C0;omega
 · rcases mem_append.1 hx with hx|hx
   · exact h3 x hx
   · obtain⟨o,ho,rfl⟩:=mem_map.1 hx;exact H5 h (h4 o (mem_of_mem_take ho))
 · rcases mem_append.1 ho with ho|ho
   · obtain⟨q,hq,rfl⟩:=mem_map.1 ho;exact A8 (H5 h (h4 q (mem_of_mem_take hq)))
   · exact h4 o (mem_of_mem_drop ho)
theorem Ya {b:wD} (h:xE b) {s:List wF×List (List Int)} (hs:Iy s):loop (λz=>cw b s.2 z.1 z.2.1 z.2.2) (0,s.1,s.2)=some (Eh b s):=by
 obtain⟨out,l⟩:=s;obtain⟨h1,h2,h3,h4⟩:=hs;simp only at h1 h2 h3 h4;have hm:C0 (out,l)=min l.length (10-out.length):=rfl
 obtain⟨v,e1,rfl⟩:=xi (step:=λz:Int×List wF×List (List Int)=>cw b l z.1 z.2.1 z.2.2) (λk z=>z=((k:Int),out++(l.take k).map (yy b),(l.take k).map (λo=>(yy b o).1)++l.drop k)) (C0 (out,l)) (λv=>v=Eh b (out,l))
  (λk z hk e=>by
   subst e;left;have hkl:k<l.length:=by omega
   have hlen:((l.take k).map (λo=>(yy b o).1)++l.drop k).length=l.length:=by rw[length_append,length_map,length_take,length_drop];omega
   have hol:(out++(l.take k).map (yy b)).length=out.length+k:=by rw[length_append,length_map,length_take];omega
   have hA:((l.take k).map (λo=>(yy b o).1)).length=k:=by rw[length_map,length_take];omega
   have hget:((l.take k).map (λo=>(yy b o).1)++l.drop k)[k]?=some l[k]:=by
    rw[List.getElem?_append_right (by omega),hA,Nat.sub_self,List.getElem?_drop,Nat.add_zero,List.getElem?_eq_getElem hkl]
   have hn:=(J2 h (o:=l[k]) (by have:=Bu (h4 _ (getElem_mem hkl));omega)).1;refine⟨_,?_,rfl⟩;show cw b l (k:Int) _ _=_
   unfold cw;rw[xk (by omega),cT,hol,dF (by omega),cF,hlen,ym hkl];simp only[wC,hget,hn];rw[wO (by rw[hol];show out.length+k+1<=_;omega),wC,wQ (by omega)];have t1:(l.take (k+1))=l.take k++[l[k]]:=by rw[take_add_one,List.getElem?_eq_getElem hkl];rfl
   have t2:((l.take k).map (λo=>(yy b o).1)++l.drop k).set k (yy b l[k]).1=(l.take (k+1)).map (λo=>(yy b o).1)++l.drop (k+1):=by
    rw[List.set_append_right _ _ (by omega),hA,Nat.sub_self,List.drop_eq_getElem_cons hkl,List.set_cons_zero,t1,map_append,append_assoc];rfl
   rw[t2,t1];simp only[map_append,map_cons,List.map_nil,append_assoc])
  (λz e=>by
   subst e;refine⟨_,?_,rfl⟩;show cw b l ((C0 (out,l):Nat):Int) _ _=_
   have hol:(out++(l.take (C0 (out,l))).map (yy b)).length=out.length+C0 (out,l):=by rw[length_append,length_map,length_take];omega
   unfold cw;rw[hol];by_cases hlt:((C0 (out,l):Nat):Int)<(l.length:Int)
   · rw[xk hlt,cT,dT (by omega),cT];rfl
   · rw[x7 hlt,cF];rfl) (x:=(0,out,l)) (by simp)
 exact e1
theorem Pk {b:wD} (h:xE b):∀(n:Nat) {s:List wF×List (List Int)},Iy s->Iy (DK b n s)
 | 0,s,hs=>hs
 | n+1,s,hs=>by
  unfold DK;split
  · exact Pk h n (RI h hs)
  · exact hs
theorem TD {b:wD} (h:xE b) {p:xg} (hB:p.2.2.2.1<=1000):∀(n i:Nat) {s:List wF×List (List Int)},Iy s->((i+n:Nat):Int)=p.2.2.2.1->loop (λz=>bE b p z.1 z.2.1 z.2.2) ((i:Int),s.1,s.2)=some (DK b n s)
 | 0,i,s,hs,e=>by
  refine xh ?_;show bE b p (i:Int) s.1 s.2=_
  unfold bE;rw[x7 (by omega),cF,wC,cF,wC,cF];rfl
 | n+1,i,s,hs,e=>by
  by_cases hc:0<s.2.length/\s.1.length<10
  · refine xb (y:=(((i+1:Nat):Int),(Eh b s).1,(Eh b s).2)) ?_ ?_
    · show bE b p (i:Int) s.1 s.2=_;unfold bE;rw[xk (by omega),cT,dT (by omega),wC,cT,xk (by omega),wC,cT,Ya h hs,wC,wQ (by omega)]
    · have:=TD h hB n (i+1) (RI h hs) (by omega);rw[this,show DK b (n+1) s=DK b n (Eh b s)from if_pos hc]
  · refine xh ?_;show bE b p (i:Int) s.1 s.2=_
    have e2:DK b (n+1) s=s:=if_neg hc;rw[e2];unfold bE;rw[xk (by omega),cT];by_cases h1:0<s.2.length
    · rw[dT (by omega),wC,cT,x7 (by omega),wC,cF]
    · rw[dF (by omega),wC,cF,wC,cF]
def yn (p:xg):Nat:=min p.2.2.1.toNat p.2.2.2.2.length
noncomputable def Qo (b:wD) (p:xg):List wF×List (List Int):=DK b p.2.2.2.1.toNat ((p.2.2.2.2.take (yn p)).map (λx=>yy b x.1),(p.2.2.2.2.drop (yn p)).map (λx=>x.1))
noncomputable def AB (b:wD) (p:xg):List wF:=(Qo b p).1
theorem TE {b:wD} (h:xE b) {p:xg} (hp:yK p=true):Iy ((p.2.2.2.2.take (yn p)).map (λx=>yy b x.1),(p.2.2.2.2.drop (yn p)).map (λx=>x.1)):=by
 obtain⟨h1,h2,_⟩:=A1 hp;refine⟨?_,?_,λx hx=>?_,λo ho=>?_⟩
 · rw[length_map,length_take];omega
 · rw[length_map,length_drop];omega
 · obtain⟨y,hy,rfl⟩:=mem_map.1 hx;exact H5 h (A8 (h1 y (mem_of_mem_take hy)))
 · obtain⟨y,hy,rfl⟩:=mem_map.1 ho;exact A8 (h1 y (mem_of_mem_drop hy))
theorem Pl {b:wD} (h:xE b) {p:xg} (hp:yK p=true):Iy (Qo b p):=Pk h _ (TE h hp)
theorem X6 {b:wD} (h:xE b) {p:xg} (hp:yK p=true):gv b p=some (AB b p):=by
 obtain⟨h1,h2,_,_,h5,h6⟩:=A1 hp;have hmin:min2 p.2.2.1 (p.2.2.2.2.length:Int)=((yn p:Nat):Int):=by
  unfold min2 yn;split<;>omega
 have hon:yn p<=p.2.2.2.2.length:=Nat.min_le_right _ _;unfold gv;show ((cut p.2.2.2.2 0 (min2 p.2.2.1 (p.2.2.2.2.length:Int))).bind _)=_
 rw[hmin];have c1:cut p.2.2.2.2 0 ((yn p:Nat):Int)=some (p.2.2.2.2.take (yn p)):=by
  have:=A5 (l:=p.2.2.2.2) (a:=0) (b:=yn p) (by omega) hon;simpa using this
 have c2:cut p.2.2.2.2 ((yn p:Nat):Int) (p.2.2.2.2.length:Int)=some (p.2.2.2.2.drop (yn p)):=by
  have:=A5 (l:=p.2.2.2.2) (a:=yn p) (b:=p.2.2.2.2.length) hon (Nat.le_refl _);rw[take_length]at this;exact this
 have l1:loop (λz:Int×List wF=>dH b (p.2.2.2.2.take (yn p)) z.1 z.2) (0,[])=some ((p.2.2.2.2.take (yn p)).map (λx=>yy b x.1)):=by
  refine Fu (by show _<=1048576;rw[length_take];omega) (λk hk out ho=>?_) (λout=>?_)
  · have hx:=h1 _ (mem_of_mem_take (getElem_mem hk));have hk':=hk
    rw[length_take]at hk';show dH b _ (k:Int) out=_
    unfold dH;rw[xk (by omega),cT,wU hk,wC,(J2 h (by have:=Bu (A8 hx);omega)).1,wC,wO (by rw[ho];show k+1<=_;omega),wC,wQ (by omega)]
  · show dH b _ ((p.2.2.2.2.take (yn p)).length:Int) out=_;unfold dH;rw[x7 (by omega),cF]
 have l2:loop (λz:Int×List (List Int)=>dJ (p.2.2.2.2.drop (yn p)) z.1 z.2) (0,[])=some ((p.2.2.2.2.drop (yn p)).map (λx=>x.1)):=by
  refine Fu (by show _<=1048576;rw[length_drop];omega) (λk hk out ho=>?_) (λout=>?_)
  · have hk':=hk;rw[length_drop]at hk';show dJ _ (k:Int) out=_
    unfold dJ;rw[xk (by omega),cT,wU hk,wC,wO (by rw[ho];show k+1<=_;omega),wC,wQ (by omega)]
  · show dJ _ ((p.2.2.2.2.drop (yn p)).length:Int) out=_;unfold dJ;rw[x7 (by omega),cF]
 rw[c1,wC,l1,wC,c2,wC,l2,wC];have:=TD h (p:=p) (by omega) p.2.2.2.1.toNat 0 (TE h hp) (by omega)
 have this:loop (λz=>bE b p z.1 z.2.1 z.2.2) (0,(p.2.2.2.2.take (yn p)).map (λx=>yy b x.1),(p.2.2.2.2.drop (yn p)).map (λx=>x.1))=_:=this;rw[this,wC];rfl
def shr (f:List wF->Bool):Nat->List wF->Option (List wF)
 | 0,_=>none
 | n+1,l=>if f (l.take n)=true then some (l.take n)else shr f n (l.take n)
theorem NK {f:List wF->Bool}:∀{n:Nat} {l t:List wF},shr f n l=some t->f t=true/\∃m,m<n/\t=l.take m
 | 0,l,t,h=>by cases h
 | n+1,l,t,h=>by
  unfold shr at h;split at h
  · rename_i hf;cases h;exact⟨hf,n,by omega,rfl⟩
  · obtain⟨h1,m,h2,h3⟩:=NK h;refine⟨h1,m,by omega,?_⟩;rw[h3,List.take_take,Nat.min_eq_left (by omega)]
theorem JS {α β γ δ:Type} {step:α->Option (α⊕(β⊕δ))} {x:α} {F:β->Option γ} {G:δ->Option γ} {R:Option γ} (h:∃d,step x=some (.inr (.inl d))) (k:∀d,F d=R):(loop step x).bind (Sum.elim F G)=R:=by
 obtain⟨d,h⟩:=h;rw[xh h,wC,Sum.elim_inl,k]
abbrev YI:=Int×List UInt8×Int×Int×Int×Int×Int×Int×Int×Int×Int×Int×List UInt8×Int×Int×Int×Int×Int×Int×Int×Int×Int×List Pt×List wJ×List wY×List Int×List wF×List Pt×List wJ×List wY×List Int×List wF
theorem VH {p:xg} (h165:(p.1==165)=true) (b:wD) (j0:Int) (j1:List UInt8) (j2 j3 j4 j5 j6 j7 j8 j9 j10:Int) (k i a c:Int) (j11:List Pt) (j12:List wJ) (j13:List wY) (j14:List Int) (j15:List wF):∀(n:Nat) (l:List wF),l.length=n->n<=10->(∀x∈l,E8 M x) ->
 ∃w,loop (λz:YI=>eO p z.1 z.2.1 z.2.2.1 z.2.2.2.1 z.2.2.2.2.1 z.2.2.2.2.2.1 z.2.2.2.2.2.2.1 z.2.2.2.2.2.2.2.1 z.2.2.2.2.2.2.2.2.1 z.2.2.2.2.2.2.2.2.2.1 z.2.2.2.2.2.2.2.2.2.2.1 z.2.2.2.2.2.2.2.2.2.2.2.1 z.2.2.2.2.2.2.2.2.2.2.2.2.1 z.2.2.2.2.2.2.2.2.2.2.2.2.2.1 z.2.2.2.2.2.2.2.2.2.2.2.2.2.2.1 z.2.2.2.2.2.2.2.2.2.2.2.2.2.2.2.1 z.2.2.2.2.2.2.2.2.2.2.2.2.2.2.2.2.1 z.2.2.2.2.2.2.2.2.2.2.2.2.2.2.2.2.2.1 z.2.2.2.2.2.2.2.2.2.2.2.2.2.2.2.2.2.2.1 z.2.2.2.2.2.2.2.2.2.2.2.2.2.2.2.2.2.2.2.1 z.2.2.2.2.2.2.2.2.2.2.2.2.2.2.2.2.2.2.2.2.1 z.2.2.2.2.2.2.2.2.2.2.2.2.2.2.2.2.2.2.2.2.2.1 z.2.2.2.2.2.2.2.2.2.2.2.2.2.2.2.2.2.2.2.2.2.2.1 z.2.2.2.2.2.2.2.2.2.2.2.2.2.2.2.2.2.2.2.2.2.2.2.1 z.2.2.2.2.2.2.2.2.2.2.2.2.2.2.2.2.2.2.2.2.2.2.2.2.1 z.2.2.2.2.2.2.2.2.2.2.2.2.2.2.2.2.2.2.2.2.2.2.2.2.2.1 z.2.2.2.2.2.2.2.2.2.2.2.2.2.2.2.2.2.2.2.2.2.2.2.2.2.2.1 z.2.2.2.2.2.2.2.2.2.2.2.2.2.2.2.2.2.2.2.2.2.2.2.2.2.2.2.1 z.2.2.2.2.2.2.2.2.2.2.2.2.2.2.2.2.2.2.2.2.2.2.2.2.2.2.2.2.1 z.2.2.2.2.2.2.2.2.2.2.2.2.2.2.2.2.2.2.2.2.2.2.2.2.2.2.2.2.2.1 z.2.2.2.2.2.2.2.2.2.2.2.2.2.2.2.2.2.2.2.2.2.2.2.2.2.2.2.2.2.2.1 z.2.2.2.2.2.2.2.2.2.2.2.2.2.2.2.2.2.2.2.2.2.2.2.2.2.2.2.2.2.2.2) (j0,j1,j2,j3,j4,j5,j6,j7,j8,j9,j10,b.1,b.2.1,b.2.2.2.2.2.2.1,b.2.2.2.2.2.2.2.1,b.2.2.2.2.2.2.2.2.1,b.2.2.2.2.2.2.2.2.2.1,b.2.2.2.2.2.2.2.2.2.2,k,i,a,c,j11,j12,j13,j14,j15,b.2.2.1,b.2.2.2.1,b.2.2.2.2.1,b.2.2.2.2.2.1,l)=some w/\(match shr (λt=>yq (k,i,a,c,t)) n l with|some t=>w=.inr (true,b.1,b.2.1,b.2.2.2.2.2.2.1,b.2.2.2.2.2.2.2.1,b.2.2.2.2.2.2.2.2.1,b.2.2.2.2.2.2.2.2.2.1,b.2.2.2.2.2.2.2.2.2.2,k,i,a,c,b.2.2.1,b.2.2.2.1,b.2.2.2.2.1,b.2.2.2.2.2.1,t)|none=>∃d,w=.inl d)
 | 0,l,hl,hn,hx=>by
  refine⟨_,xh (b:=Sum.inl (j0,j1,j2,j3,j4,j5,j6,j7,j8,j9,j10,b.1,b.2.1,b.2.2.2.2.2.2.1,b.2.2.2.2.2.2.2.1,b.2.2.2.2.2.2.2.2.1,b.2.2.2.2.2.2.2.2.2.1,b.2.2.2.2.2.2.2.2.2.2,k,i,a,c,j11,j12,j13,j14,j15,b.2.2.1,b.2.2.2.1,b.2.2.2.2.1,b.2.2.2.2.2.1,l)) ?_,⟨_,rfl⟩⟩;dsimp only;unfold eO;rw[h165,cT,dF (by omega),wC,cF]
 | n+1,l,hl,hn,hx=>by
  have hlt:(l.take n).length=n:=by rw[length_take];omega
  have hcut:yC l.length 0 (wE ((l.length:Int)-1))=some (0,n):=by
   rw[xq (by omega) (by omega),show (l.length:Int)-1=(n:Int) by omega];unfold yC;rw[if_pos (by omega),if_pos (by omega),if_pos (by omega)];simp
  have hp:zk M (k,i,a,c,l.take n):=⟨by show (l.take n).length<=1048576;omega,λx h=>hx x (mem_of_mem_take h)⟩;have hstep:∀q:Bool,yq (k,i,a,c,l.take n)=q->eO p j0 j1 j2 j3 j4 j5 j6 j7 j8 j9 j10 b.1 b.2.1 b.2.2.2.2.2.2.1 b.2.2.2.2.2.2.2.1 b.2.2.2.2.2.2.2.2.1 b.2.2.2.2.2.2.2.2.2.1 b.2.2.2.2.2.2.2.2.2.2 k i a c j11 j12 j13 j14 j15 b.2.2.1 b.2.2.2.1 b.2.2.2.2.1 b.2.2.2.2.2.1 l=cond q (some (.inr (.inr (true,b.1,b.2.1,b.2.2.2.2.2.2.1,b.2.2.2.2.2.2.2.1,b.2.2.2.2.2.2.2.2.1,b.2.2.2.2.2.2.2.2.2.1,b.2.2.2.2.2.2.2.2.2.2,k,i,a,c,b.2.2.1,b.2.2.2.1,b.2.2.2.2.1,b.2.2.2.2.2.1,l.take n)))) (some (.inl (j0,j1,j2,j3,j4,j5,j6,j7,j8,j9,j10,b.1,b.2.1,b.2.2.2.2.2.2.1,b.2.2.2.2.2.2.2.1,b.2.2.2.2.2.2.2.2.1,b.2.2.2.2.2.2.2.2.2.1,b.2.2.2.2.2.2.2.2.2.2,k,i,a,c,j11,j12,j13,j14,j15,b.2.2.1,b.2.2.2.1,b.2.2.2.2.1,b.2.2.2.2.2.1,l.take n))):=by
   intro q hq;unfold eO;rw[h165,cT,dT (by omega),wC,cT,hcut,wC];simp only[drop_zero];rw[J1 hp,wC,hq]
  by_cases hf:yq (k,i,a,c,l.take n)=true
  · have e:shr (λt=>yq (k,i,a,c,t)) (n+1) l=some (l.take n):=if_pos hf;rw[e];exact⟨_,xh (hstep true hf),rfl⟩
  · have e:shr (λt=>yq (k,i,a,c,t)) (n+1) l=shr (λt=>yq (k,i,a,c,t)) n (l.take n):=if_neg hf;rw[e];obtain⟨w,h1,h2⟩:=VH h165 b j0 j1 j2 j3 j4 j5 j6 j7 j8 j9 j10 k i a c j11 j12 j13 j14 j15 n (l.take n) hlt (by omega) (λx h=>hx x (mem_of_mem_take h));exact⟨w,xb (hstep false (by simpa using hf)) h1,h2⟩
noncomputable def Gz (b:wD) (l:List wF):wD×Int×Int:=(dL b l).getD (b,0,0)
noncomputable def C1 (b:wD) (p:xg):wD×xg :=
 cond (p.1==160) (b,162,p.2.1,0,0,p.2.2.2.2.map λx=>(x.1,Fv b x.1))
  (cond (p.1==161) (b,162,p.2.1,0,0,p.2.2.2.2.map λx=>yy b x.1)
   (cond (p.1==165) (b,162,p.2.1,0,0,AB b p) ((Gz b p.2.2.2.2).1,162,p.2.1,(Gz b p.2.2.2.2).2.1,(Gz b p.2.2.2.2).2.2,p.2.2.2.2)))
noncomputable def DA (b:wD) (p:xg):wD×xg :=
 match cond (p.1==165) (shr (λt=>yq (162,p.2.1,0,0,t)) (AB b p).length (AB b p)) none with
 | some t=>(b,162,p.2.1,0,0,t)
 | none=>(b,162,p.2.1,7,0,[])
noncomputable def AO (b:wD) (p:xg):wD×xg:=cond (yq (C1 b p).2) (C1 b p) (DA b p)
noncomputable def Fw (b:wD) (p:xg):Bool:=xr b&&(yK p&&(p.1 != 162))
noncomputable def yJ (b:wD) (p:xg):wD×xg×Bool:=cond (Fw b p) ((AO b p).1,(AO b p).2,true) (b,(0,0,0,0,[]),false)
theorem Iz {p:xg} (hp:yK p=true):CS M p.2.2.2.2:=by
 obtain⟨h1,h2,_⟩:=A1 hp;exact⟨by show _<=1048576;omega,λx hx=>zF (h1 x hx)⟩
theorem RJ {b:wD} (h:Af b) (hb:A4 M b) {p:xg} (hp:zk M p):cC b p=some (yJ b p):=by
 unfold cC yJ Fw;rw[xQ hb,wC,Bb h,wC];cases hbr:xr b with
 | false=>rw[Bool.not_false,cT,wC,cT,wC,cT];rfl
 | true =>
 rw[Bool.not_true,cF,Th hp,wC,wC];cases hpp:yK p with
 | false=>rw[Bool.not_false,cT,wC,cT];rfl
 | true =>
 rw[Bool.not_true,cF,wC];cases h162:(p.1==162)with
 | true =>
  have:(p.1 != 162)=false:=by rw[bne,h162];rfl
  rw[cT,this];rfl
 | false =>
 have hne:(p.1 != 162)=true:=by rw[bne,h162];rfl
 have hBO:=Db h hbr;obtain⟨x1,x2,x3,x4,x5,x6⟩:=A1 hpp;have hxs:=Iz hpp
 rw[cF,hne,Bool.true_and,Bool.true_and,cT];unfold AO C1 DA;cases h160:(p.1==160)with
 | true =>
  have h165:(p.1==165)=false:=by simp only[beq_iff_eq]at h160;rw[h160];rfl
  have e:loop (λz:Int×Int×Int×Int×Int×List wF=>eM b p z.1 z.2.1 z.2.2.1 z.2.2.2.1 z.2.2.2.2.1 z.2.2.2.2.2) (0,162,p.2.1,0,0,[])=some (162,p.2.1,0,0,p.2.2.2.2.map λx=>(x.1,Fv b x.1)):=by
   obtain⟨v,e1,rfl⟩:=xi (step:=λz:Int×Int×Int×Int×Int×List wF=>eM b p z.1 z.2.1 z.2.2.1 z.2.2.2.1 z.2.2.2.2.1 z.2.2.2.2.2) (λk z=>z=((k:Int),162,p.2.1,0,0,(p.2.2.2.2.take k).map λx=>(x.1,Fv b x.1))) p.2.2.2.2.length (λv=>v=(162,p.2.1,0,0,p.2.2.2.2.map λx=>(x.1,Fv b x.1)))
    (λk z hk e=>by
     subst e;refine .inl ⟨_,?_,rfl⟩;have hx:=Bu (A8 (x1 _ (getElem_mem hk)))
     dsimp only;unfold eM;rw[xk (by omega),cT,wU hk,wC,HK (by show _<=1048576;omega),wC,(SR hBO (by omega)).1,wC,wO (by rw[length_map,length_take];show min k _+1<=_;omega),wC,wQ (by omega),
      take_add_one,List.getElem?_eq_getElem hk,map_append];rfl)
    (λz e=>by
     subst e;refine⟨_,?_,rfl⟩;dsimp only;unfold eM;rw[x7 (by omega),cF,take_length]) (x:=(0,162,p.2.1,0,0,[])) rfl
   exact e1
  simp only[cT,cF];rw[e,wC,J1 ⟨by show (p.2.2.2.2.map _).length<=1048576;rw[length_map];omega,λx hx=>by
   obtain⟨y,hy,rfl⟩:=mem_map.1 hx;exact zF (by unfold BJ;rw[A8 (x1 y hy),TC hBO (by have:=Bu (A8 (x1 y hy));omega)];rfl)⟩,wC]
  cases yq (162,p.2.1,0,0,p.2.2.2.2.map λx=>(x.1,Fv b x.1))with
  | true=>rfl
  | false =>
   simp only[cF];refine JS ?_ λd=>?_
   · dsimp only;unfold mh;rw[h165,cF,wC,cF];exact⟨_,rfl⟩
   · rw[wC];simp only[h165,cF]
 | false =>
 cases h161:(p.1==161)with
 | true =>
  have h165:(p.1==165)=false:=by simp only[beq_iff_eq]at h161;rw[h161];rfl
  have e:loop (λz:Int×Int×Int×Int×Int×List wF=>eN b p z.1 z.2.1 z.2.2.1 z.2.2.2.1 z.2.2.2.2.1 z.2.2.2.2.2) (0,162,p.2.1,0,0,[])=some (162,p.2.1,0,0,p.2.2.2.2.map λx=>yy b x.1):=by
   obtain⟨v,e1,rfl⟩:=xi (step:=λz:Int×Int×Int×Int×Int×List wF=>eN b p z.1 z.2.1 z.2.2.1 z.2.2.2.1 z.2.2.2.2.1 z.2.2.2.2.2) (λk z=>z=((k:Int),162,p.2.1,0,0,(p.2.2.2.2.take k).map λx=>yy b x.1)) p.2.2.2.2.length (λv=>v=(162,p.2.1,0,0,p.2.2.2.2.map λx=>yy b x.1))
    (λk z hk e=>by
     subst e;refine .inl ⟨_,?_,rfl⟩;have hx:=Bu (A8 (x1 _ (getElem_mem hk)))
     dsimp only;unfold eN;rw[xk (by omega),cT,wU hk,wC,(J2 hBO (by omega)).1,wC,wO (by rw[length_map,length_take];show min k _+1<=_;omega),wC,wQ (by omega),
      take_add_one,List.getElem?_eq_getElem hk,map_append];rfl)
    (λz e=>by
     subst e;refine⟨_,?_,rfl⟩;dsimp only;unfold eN;rw[x7 (by omega),cF,take_length]) (x:=(0,162,p.2.1,0,0,[])) rfl
   exact e1
  simp only[cT,cF];rw[e,wC,J1 ⟨by show (p.2.2.2.2.map _).length<=1048576;rw[length_map];omega,λx hx=>by
   obtain⟨y,hy,rfl⟩:=mem_map.1 hx;exact zF (H5 hBO (A8 (x1 y hy)))⟩,wC]
  cases yq (162,p.2.1,0,0,p.2.2.2.2.map λx=>yy b x.1)with
  | true=>rfl
  | false =>
   simp only[cF];refine JS ?_ λd=>?_
   · dsimp only;unfold mi;rw[h165,cF,wC,cF];exact⟨_,rfl⟩
   · rw[wC];simp only[h165,cF]
 | false =>
 cases h165:(p.1==165)with
 | true =>
  have hbk:=Pl hBO hpp;have hbx:∀x∈AB b p,E8 M x:=λx hx=>zF (hbk.oOk x hx)
  have hbn:(AB b p).length<=10:=hbk.o10;simp only[cT,cF];rw[X6 hBO hpp,wC,J1 ⟨by show (AB b p).length<=1048576;omega,hbx⟩,wC];cases yq (162,p.2.1,0,0,AB b p)with
  | true=>rfl
  | false =>
   simp only[cF];obtain⟨w,e1,e2⟩:=VH h165 b 0 [] 0 0 0 0 0 0 0 0 0 162 p.2.1 0 0 [] [] [] [] [] _ (AB b p) rfl hbn hbx;rw[e1,wC];cases hs:shr (λt=>yq (162,p.2.1,0,0,t)) (AB b p).length (AB b p)with
   | some t=>rw[hs]at e2;rw[e2];rfl
   | none =>
    rw[hs]at e2;obtain⟨d,rfl⟩:=e2;rw[Sum.elim_inl,wC];try rfl
 | false =>
  obtain⟨r,r1,_,_,_⟩:=LN h hb hxs;have hr:Gz b p.2.2.2.2=r:=by unfold Gz;rw[r1];rfl
  simp only[cF];rw[r1,wC,IL hxs,wC,hr,J1 (p:=(162,p.2.1,r.2.1,r.2.2,p.2.2.2.2)) ⟨hxs.1,hxs.2⟩,wC];cases yq (162,p.2.1,r.2.1,r.2.2,p.2.2.2.2)with
  | true=>rfl
  | false =>
   simp only[cF];refine JS ?_ λd=>?_
   · dsimp only;unfold mj;rw[h165,cF,wC,cF];exact⟨_,rfl⟩
   · rw[wC]

def aW (a:wW):List UInt8:=a.2.2.2.2.2.2.2.2.2.2.2.1
def yv (b:wD) (w:List UInt8) (l:List xl) (lo la:Int):wW:=(b.1,b.2.1,b.2.2.1,b.2.2.2.1,b.2.2.2.2.1,b.2.2.2.2.2.1,b.2.2.2.2.2.2.1,b.2.2.2.2.2.2.2.1,b.2.2.2.2.2.2.2.2.1,b.2.2.2.2.2.2.2.2.2.1,b.2.2.2.2.2.2.2.2.2.2,w,l,lo,la)
def AC (id:Int) (m:List Int) (ph:Int) (p:xg) (s:wD) (at' tr:Int):xl:=(id,m,ph,p.1,p.2.1,p.2.2.1,p.2.2.2.1,p.2.2.2.2,s.1,s.2.1,s.2.2.1,s.2.2.2.1,s.2.2.2.2.1,s.2.2.2.2.2.1,s.2.2.2.2.2.2.1,s.2.2.2.2.2.2.2.1,s.2.2.2.2.2.2.2.2.1,s.2.2.2.2.2.2.2.2.2.1,s.2.2.2.2.2.2.2.2.2.2,at',tr)
theorem MH {b:wD} {w:List UInt8} {l:List xl} {lo la:Int} {k:Nat} (hk:k<l.length) (hl:l.length<=M):bR (yv b w l lo la) (k:Int)=some (yv b w (l.eraseIdx k) lo la):=by
 have hM:M=1048576:=rfl;have c1:yC l.length 0 (k:Int)=some (0,k):=by
  unfold yC;rw[if_pos (by omega),if_pos (by omega),if_pos (by omega)];simp
 have c2:yC l.length (wE ((k:Int)+1)) (l.length:Int)=some (k+1,l.length):=by
  rw[wQ (by omega)];unfold yC;rw[if_pos (by omega),if_pos (by omega),if_pos (by omega)];simp
 have c3:I7 l 0 k (k+1) l.length=some (l.eraseIdx k):=by
  unfold I7;rw[if_pos (by omega),take_length,drop_zero,wO (by rw[length_take,length_drop];omega),←List.eraseIdx_eq_take_drop_succ]
 unfold bR yv;simp only[c1,wC,c2,c3]
def LD (b:wD) (j:xl):xl:=AC j.1 j.2.1 1 (jP j) b 0 (xw j)
theorem RK {b:wD} (hb:A4 M b) {w:List UInt8} {l:List xl} {lo la:Int} {k:Nat} (hk:k<l.length):eC (yv b w l lo la) (k:Int)=some (yv b w (l.set k (LD b l[k])) lo la):=by
 have cb:=xQ hb;unfold eC yv;simp only[ym hk,wC];have cb':ah (b.1,b.2.1,b.2.2.1,b.2.2.2.1,b.2.2.2.2.1,b.2.2.2.2.2.1,b.2.2.2.2.2.2.1,b.2.2.2.2.2.2.2.1,b.2.2.2.2.2.2.2.2.1,b.2.2.2.2.2.2.2.2.2.1,b.2.2.2.2.2.2.2.2.2.2)=some b:=cb
 simp only[cb',wC,List.getElem?_eq_getElem hk,List.getElem?_set_self hk,set_set];rfl
def B6 (n:Int):Int:=min2 (wE (n+1)) 1000000
theorem CO (n:Int):au n=some (B6 n):=rfl
def Gf (b:wD):wD:=(b.1,b.2.1,b.2.2.1,b.2.2.2.1,b.2.2.2.2.1,b.2.2.2.2.2.1,b.2.2.2.2.2.2.1,b.2.2.2.2.2.2.2.1,B6 b.2.2.2.2.2.2.2.2.1,b.2.2.2.2.2.2.2.2.2.1,b.2.2.2.2.2.2.2.2.2.2)
def E6 (b:wD):wD:=(b.1,b.2.1,b.2.2.1,b.2.2.2.1,b.2.2.2.2.1,b.2.2.2.2.2.1,b.2.2.2.2.2.2.1,B6 b.2.2.2.2.2.2.2.1,b.2.2.2.2.2.2.2.2.1,b.2.2.2.2.2.2.2.2.2.1,b.2.2.2.2.2.2.2.2.2.2)
noncomputable def xY (w:List UInt8) (m:List Int):xg×Int:=(dC w m).getD ((0,0,0,0,[]),0)
theorem SS (w:List UInt8) {m:List Int} (hb:zE m) (hn:m.length<=M):dC w m=some (xY w m)/\fQ w m=some (xY w m)/\zk M (xY w m).1/\((xY w m).2=0->yK (xY w m).1=true):=by
 obtain⟨r,h1,h2,h3,h4⟩:=VG w hb hn;unfold xY;rw[h1];exact⟨rfl,h2,h3,h4⟩
noncomputable def BS (p:xg):xg:=cond (yq (162,p.2.1,6,1,p.2.2.2.2)) (162,p.2.1,6,1,p.2.2.2.2) (162,p.2.1,7,0,[])
theorem X7 {p:xg} (hp:zk M p):eP p=some (BS p):=by
 unfold eP BS;rw[IL hp,wC,J1 (p:=(162,p.2.1,6,1,p.2.2.2.2)) hp,wC];cases yq (162,p.2.1,6,1,p.2.2.2.2)<;>rfl
inductive VI where
 | stay (j:xl)|gone (d:List xZ)
noncomputable def AD (w:List UInt8) (b:wD) (j:xl):wD×VI :=
 cond (j.2.2.1==0)
  (cond ((xY w j.2.1).2==3) (Gf b,.gone [])
   (cond ((xY w j.2.1).2 != 0||((xY w j.2.1).1.1==162)) (E6 b,.gone [])
    (b,.stay (AC j.1 j.2.1 1 (xY w j.2.1).1 b 0 (xw j)))))
  (cond (j.2.2.1==2)
   (cond (j.2.2.2.1 != 163) (b,.gone [(j.1,(yJ (jB j) (jP j)).2.1)])
    (cond (b.2.2.2.2.2.2.2.2.2.2==(jB j).2.2.2.2.2.2.2.2.2.2) ((yJ b (jP j)).1,.gone [(j.1,(yJ b (jP j)).2.1)])
     (cond (decide (xw j>=3)) (b,.gone [(j.1,BS (jP j))])
      (b,.stay (AC j.1 j.2.1 1 (jP j) b 0 (wE (xw j+1)))))))
   (cond (decide (Aq j<((jP j).2.2.2.2.length:Int))) (b,.stay (AC j.1 j.2.1 j.2.2.1 (jP j) (jB j) (wE (Aq j+1)) (xw j)))
    (b,.stay (AC j.1 j.2.1 2 (jP j) (jB j) (Aq j) (xw j)))))
noncomputable def BT (a:wW) (k:Nat) (j:xl):wW×List xZ :=
 match (AD (aW a) (aB a) j).2 with
 | .stay j'=>(yv (AD (aW a) (aB a) j).1 (aW a) ((wG a).set k j') (zl a) (xn a),[])
 | .gone d=>(yv (AD (aW a) (aB a) j).1 (aW a) ((wG a).eraseIdx k) (zl a) (xn a),d)
theorem X8 {b:wD} (hb:A4 M b) {w:List UInt8} {l:List xl} {lo la:Int} {k:Nat} (hk:k<l.length) (hl:l.length<=M) (h1:zE l[k].2.1) (h2:l[k].2.1.length<=M) :
 eD (yv b w l lo la) (k:Int)=some (cond ((xY w l[k].2.1).2==3) (yv (Gf b) w (l.eraseIdx k) lo la)
  (cond ((xY w l[k].2.1).2 != 0||((xY w l[k].2.1).1.1==162)) (yv (E6 b) w (l.eraseIdx k) lo la) (yv b w (l.set k (AC l[k].1 l[k].2.1 1 (xY w l[k].2.1).1 b 0 (xw l[k]))) lo la))):=by
 obtain⟨m1,_,m3,_⟩:=SS w h1 h2;unfold eD;have d1:=MH (b:=Gf b) (w:=w) (lo:=lo) (la:=la) hk hl
 have d2:=MH (b:=E6 b) (w:=w) (lo:=lo) (la:=la) hk hl;unfold Gf yv at d1;unfold E6 yv at d2;dsimp only[yv];simp only[ym hk,wC,List.getElem?_eq_getElem hk,m1,CO];rw[d1,d2];cases ((xY w l[k].2.1).2==3)with
 | true=>rfl
 | false =>
  simp only[cF,wC];cases ((xY w l[k].2.1).2 != 0)with
  | true=>rfl
  | false =>
   simp only[cF,wC,Bool.false_or];cases ((xY w l[k].2.1).1.1==162)with
   | true=>rfl
   | false =>
    simp only[cF,wC];have hs:k<(l.set k (AC l[k].1 l[k].2.1 l[k].2.2.1 (xY w l[k].2.1).1 (jB l[k]) (Aq l[k]) (xw l[k]))).length:=by rw[length_set];exact hk
    have e:=RK hb (w:=w) (lo:=lo) (la:=la) hs;unfold yv at e;have e2:LD b (l.set k (AC l[k].1 l[k].2.1 l[k].2.2.1 (xY w l[k].2.1).1 (jB l[k]) (Aq l[k]) (xw l[k])))[k]=AC l[k].1 l[k].2.1 1 (xY w l[k].2.1).1 b 0 (xw l[k]):=by
     rw[getElem_set_self];rfl
    rw[e2,set_set]at e;refine (congrArg (λo=>Option.bind o λt=>some t) e).trans ?_;rfl
theorem Um {b:wD} (hw:Af b) (hb:A4 M b) {w:List UInt8} {l:List xl} {lo la:Int} {k:Nat} (hk:k<l.length) (hl:l.length<=M) (h1:Oj l[k]) (h2:Jr M l[k]) :
 eQ (yv b w l lo la) (k:Int)=some (cond (l[k].2.2.2.1 != 163) (yv b w (l.eraseIdx k) lo la,[(l[k].1,(yJ (jB l[k]) (jP l[k])).2.1)])
  (cond (b.2.2.2.2.2.2.2.2.2.2==(jB l[k]).2.2.2.2.2.2.2.2.2.2) (yv (yJ b (jP l[k])).1 w (l.eraseIdx k) lo la,[(l[k].1,(yJ b (jP l[k])).2.1)])
   (cond (decide (xw l[k]>=3)) (yv b w (l.eraseIdx k) lo la,[(l[k].1,BS (jP l[k]))])
    (yv b w (l.set k (AC l[k].1 l[k].2.1 1 (jP l[k]) b 0 (wE (xw l[k]+1)))) lo la,[])))):=by
 have r1:=RJ h1.b h2.2.2 h1.p;have r2:=RJ hw hb h1.p
 have r3:=X7 h1.p;have d1:=MH (b:=b) (w:=w) (lo:=lo) (la:=la) hk hl
 have d2:=MH (b:=(yJ b (jP l[k])).1) (w:=w) (lo:=lo) (la:=la) hk hl;unfold eQ;dsimp only[yv];simp only[ym hk,wC,List.getElem?_eq_getElem hk];unfold yv at d1;cases hkind:(l[k].2.2.2.1 != 163)with
 | true =>
  simp only[cT];rw[show cC (l[k].2.2.2.2.2.2.2.2.1,l[k].2.2.2.2.2.2.2.2.2.1,l[k].2.2.2.2.2.2.2.2.2.2.1,l[k].2.2.2.2.2.2.2.2.2.2.2.1,l[k].2.2.2.2.2.2.2.2.2.2.2.2.1,l[k].2.2.2.2.2.2.2.2.2.2.2.2.2.1,l[k].2.2.2.2.2.2.2.2.2.2.2.2.2.2.1,l[k].2.2.2.2.2.2.2.2.2.2.2.2.2.2.2.1,l[k].2.2.2.2.2.2.2.2.2.2.2.2.2.2.2.2.1,l[k].2.2.2.2.2.2.2.2.2.2.2.2.2.2.2.2.2.1,l[k].2.2.2.2.2.2.2.2.2.2.2.2.2.2.2.2.2.2.1) (l[k].2.2.2.1,l[k].2.2.2.2.1,l[k].2.2.2.2.2.1,l[k].2.2.2.2.2.2.1,l[k].2.2.2.2.2.2.2.1)=some (yJ (jB l[k]) (jP l[k]))from r1,wC,d1,wC]
 | false =>
  simp only[cF];show cond (b.2.2.2.2.2.2.2.2.2.2==(jB l[k]).2.2.2.2.2.2.2.2.2.2) _ _=_
  cases hv:(b.2.2.2.2.2.2.2.2.2.2==(jB l[k]).2.2.2.2.2.2.2.2.2.2)with
  | true =>
   simp only[cT];rw[show cC (b.1,b.2.1,b.2.2.1,b.2.2.2.1,b.2.2.2.2.1,b.2.2.2.2.2.1,b.2.2.2.2.2.2.1,b.2.2.2.2.2.2.2.1,b.2.2.2.2.2.2.2.2.1,b.2.2.2.2.2.2.2.2.2.1,b.2.2.2.2.2.2.2.2.2.2) (l[k].2.2.2.1,l[k].2.2.2.2.1,l[k].2.2.2.2.2.1,l[k].2.2.2.2.2.2.1,l[k].2.2.2.2.2.2.2.1)=some (yJ b (jP l[k]))from r2,wC];unfold yv at d2;rw[d2,wC]
  | false =>
   simp only[cF];show cond (decide (xw l[k]>=3)) _ _=_
   cases hq:decide (xw l[k]>=3)with
   | true =>
    simp only[cT];rw[show eP (l[k].2.2.2.1,l[k].2.2.2.2.1,l[k].2.2.2.2.2.1,l[k].2.2.2.2.2.2.1,l[k].2.2.2.2.2.2.2.1)=some (BS (jP l[k]))from r3,wC,d1,wC]
   | false =>
    simp only[cF];have hs:k<(l.set k (AC l[k].1 l[k].2.1 l[k].2.2.1 (jP l[k]) (jB l[k]) (Aq l[k]) (wE (xw l[k]+1)))).length:=by rw[length_set];exact hk
    have e:=RK hb (w:=w) (lo:=lo) (la:=la) hs;unfold yv at e;have e2:LD b (l.set k (AC l[k].1 l[k].2.1 l[k].2.2.1 (jP l[k]) (jB l[k]) (Aq l[k]) (wE (xw l[k]+1))))[k]=AC l[k].1 l[k].2.1 1 (jP l[k]) b 0 (wE (xw l[k]+1)):=by
     rw[getElem_set_self];rfl
    rw[e2,set_set]at e;refine (congrArg (λo=>Option.bind o λt=>some (t,([]:List xZ))) e).trans ?_;rfl
theorem X9 {a:wW} (hw:Af (aB a)) (hl:Fy M a) {k:Nat} (hk:k<(wG a).length) (h1:Oj (wG a)[k]) (h2:zE (wG a)[k].2.1):eR a (k:Int)=some (BT a k (wG a)[k]):=by
 obtain⟨hb,_,hn,hj⟩:=hl;have hJ:=hj _ (getElem_mem hk)
 have hn:(wG a).length<=M:=hn;have e1:=X8 hb (w:=aW a) (l:=wG a) (lo:=zl a) (la:=xn a) hk hn h2 hJ.1
 have e2:=Um hw hb (w:=aW a) (l:=wG a) (lo:=zl a) (la:=xn a) hk hn h1 hJ;have c0:ix a.2.2.2.2.2.2.2.2.2.2.2.2.1.length (k:Int)=some k:=ym hk
 have c1:a.2.2.2.2.2.2.2.2.2.2.2.2.1[k]?=some (wG a)[k]:=List.getElem?_eq_getElem hk;have e1:eD a (k:Int)=_:=e1
 have e2:eQ a (k:Int)=_:=e2;unfold eR BT AD;rw[c0,wC];simp only[c1,wC];cases hp0:((wG a)[k].2.2.1==0)with
 | true =>
  rw[cT,e1,wC];cases ((xY (aW a) (wG a)[k].2.1).2==3)with
  | true=>rfl
  | false =>
   cases ((xY (aW a) (wG a)[k].2.1).2 != 0||((xY (aW a) (wG a)[k].2.1).1.1==162))<;>rfl
 | false =>
  rw[cF];cases hp2:((wG a)[k].2.2.1==2)with
  | true =>
   rw[cT,e2,wC];cases ((wG a)[k].2.2.2.1 != 163)with
   | true=>rfl
   | false =>
    cases ((aB a).2.2.2.2.2.2.2.2.2.2==(jB (wG a)[k]).2.2.2.2.2.2.2.2.2.2)with
    | true=>rfl
    | false=>cases decide (xw (wG a)[k]>=3)<;>rfl
  | false =>
   simp only[cF];show cond (decide (Aq (wG a)[k]<((jP (wG a)[k]).2.2.2.2.length:Int))) _ _=_
   cases decide (Aq (wG a)[k]<((jP (wG a)[k]).2.2.2.2.length:Int))<;>rfl

theorem D8 {n:Int} (h:wL n 0 1000000=true):wL (B6 n) 0 1000000=true:=by
 obtain⟨r,h1,_,h3⟩:=ML h;rw[CO]at h1;cases h1;exact h3
theorem Bp {b:wD} (h:xr b=true):zm b=true/\∀c,zm (b.1,b.2.1,b.2.2.1,b.2.2.2.1,b.2.2.2.2.1,b.2.2.2.2.2.1,c)=true->xr (b.1,b.2.1,b.2.2.1,b.2.2.2.1,b.2.2.2.2.1,b.2.2.2.2.2.1,c)=true:=by
 unfold xr at h ⊢;simp only[aT]at h ⊢;obtain⟨h1,h2,h3,h4,h5,h6,h7⟩:=h;exact⟨h7,λc hc=>⟨h1,h2,h3,h4,h5,h6,hc⟩⟩
theorem KP {b:wD} (h:xE b) {c:Int×Int×Int×Int×Int} (hc:zm (b.1,b.2.1,b.2.2.1,b.2.2.2.1,b.2.2.2.2.1,b.2.2.2.2.2.1,c)=true):xE (b.1,b.2.1,b.2.2.1,b.2.2.2.1,b.2.2.2.2.1,b.2.2.2.2.2.1,c) :=
 Db ⟨h.w.p,h.w.f,h.w.v,h.w.q,h.w.r⟩ ((Bp h.ok).2 c hc)
theorem A2 {b:wD} (h:zm b=true):wL b.2.2.2.2.2.2.1 0 1000000=true/\wL b.2.2.2.2.2.2.2.1 0 1000000=true/\wL b.2.2.2.2.2.2.2.2.1 0 1000000=true/\wL b.2.2.2.2.2.2.2.2.2.1 0 1000000=true/\wL b.2.2.2.2.2.2.2.2.2.2 0 1000000=true:=by
 unfold zm at h;simpa only[aT]using h
theorem ST {b:wD} (h:xE b):xE (Gf b):=by
 refine KP h ?_;obtain⟨h1,h2,h3,h4,h5⟩:=A2 (Bp h.ok).1;unfold zm;simp only[aT];exact⟨h1,h2,D8 h3,h4,h5⟩
theorem RL {b:wD} (h:xE b):xE (E6 b):=by
 refine KP h ?_;obtain⟨h1,h2,h3,h4,h5⟩:=A2 (Bp h.ok).1;unfold zm;simp only[aT];exact⟨h1,D8 h2,h3,h4,h5⟩
theorem H6 {b:wD} (h:AJ b) (hl:A4 M b):Af b:=by
 obtain⟨_,l2,l3,l4,l5⟩:=hl;have hM:M<9223372036854775807:=by decide
 exact⟨by omega,by omega,by omega,by omega,h.h⟩
theorem Yb {b:wD} (h:xE b) {l:List wF} (hl:CS M l):dL b l=some (Gz b l)/\xE (Gz b l).1:=by
 obtain⟨r,r1,_,r3,r4,_⟩:=LN h.w h.le hl;unfold Gz;rw[r1];obtain⟨k1,k2⟩:=r4 h.ok;exact⟨rfl,Db (H6 k1 r3) k2⟩
theorem SU {b:wD} (h:xE b) {p:xg} (hp:yK p=true):xE (C1 b p).1:=by
 unfold C1;cases (p.1==160)<;>cases (p.1==161)<;>cases (p.1==165)<;>first|exact h|exact (Yb h (Iz hp)).2
theorem Un (b:wD) (p:xg):(DA b p).1=b:=by
 unfold DA;split<;>rfl
theorem KQ {b:wD} (h:xE b) (p:xg):xE (yJ b p).1:=by
 unfold yJ;cases hq:Fw b p with
 | false=>exact h
 | true =>
  unfold Fw at hq;simp only[aT]at hq;rw[cT];unfold AO;cases yq (C1 b p).2 with
  | true=>exact SU h hq.2.1
  | false=>rw[cF,Un];exact h
theorem SV {p:xg} (hp:yK p=true):p.1=160\/p.1=161\/p.1=162\/p.1=163\/p.1=165:=by
 unfold yK at hp;by_cases h0:p.1=160;· exact .inl h0
 by_cases h1:p.1=161;· exact .inr (.inl h1)
 by_cases h2:p.1=162;· exact .inr (.inr (.inl h2))
 by_cases h3:p.1=163;· exact .inr (.inr (.inr (.inl h3)))
 by_cases h5:p.1=165;· exact .inr (.inr (.inr (.inr h5)))
 simp[h0,h1,h2,h3,h5]at hp
structure Ee (j:xl):Prop where
 byt:zE j.2.1
 len:j.2.1.length<=M
 ph:wL j.2.2.1 0 2=true
 at':wL (Aq j) 0 ((jP j).2.2.2.2.length:Int)=true
 tr:wL (xw j) 0 3=true
 ok:(j.2.2.1==0)=true\/(yK (jP j)=true/\((jP j).1 != 162)=true/\xE (jB j))
 pl:zk M (jP j)
 bw:Af (jB j)
 bl:A4 M (jB j)
theorem Ee.jwf {j:xl} (h:Ee j):Oj j:=⟨h.pl,h.bw⟩
theorem Ee.jle {j:xl} (h:Ee j):Jr M j:=⟨h.len,h.pl,h.bl⟩
structure zD (a:wW):Prop where
 b:xE (aB a)
 w:(aW a).length<=20
 n:(wG a).length<=6
 lo:wL (zl a) 0 1000000=true
 la:wL (xn a) 0 1000000=true
 ids:∀j∈wG a,wL j.1 1 (xn a)=true
 up:(wG a).Pairwise λi j=>i.1<j.1
 j:∀j∈wG a,Ee j
theorem zD.ale {a:wW} (h:zD a):Fy M a:=⟨h.b.le,by have:=h.w;show (aW a).length<=1048576;omega,by have:=h.n;show (wG a).length<=1048576;omega,λx hx=>(h.j x hx).jle⟩
theorem zD.awf {a:wW} (h:zD a):Lb a:=⟨h.b.w,by have:=h.n;omega,λx hx=>(h.j x hx).jwf⟩
theorem zD.ok {a:wW} (h:zD a):Ar a=true:=by
 have hn:=h.n;have hw:=h.w
 unfold Ar;have h1:(List.range (wG a).length).any (GB (wG a) (xn a))=false:=by
  rw[any_eq_false];intro k hk;have hk:=mem_range.1 hk
  unfold GB;have hj:=h.j _ (getElem_mem hk)
  have hp:CV (wG a)[k]=true:=by
   unfold CV;simp only[aT,Bool.or_eq_true];refine⟨hj.ph,hj.at',hj.tr,hj.ok.imp (λe=>e) λ⟨k1,k2,k3⟩=>⟨k1,k2,k3.ok⟩⟩
  simp only[List.getElem?_eq_getElem hk,h.ids _ (getElem_mem hk),hp,Bool.and_self,Bool.not_true,Bool.false_or];by_cases h0:0<k
  · have:=pairwise_iff_getElem.1 h.up (k-1) k (by omega) hk (by omega);simp only[List.getElem?_eq_getElem (show k-1<(wG a).length by omega),aT,decide_eq_true_eq];omega
  · rw[dF h0];simp
 rw[h1];simp only[Bool.not_false,Bool.true_and,aT,decide_eq_true_eq];exact⟨h.b.ok,by show ((aW a).length:Int)<=20;omega,by omega,h.lo,h.la⟩
theorem Pm {a:wW} (h:Lb a) (hl:Fy M a) (hb:∀j∈wG a,zE j.2.1) (hp:Ar a=true):zD a:=by
 unfold Ar at hp;simp only[aT,Bool.not_eq_true',decide_eq_true_eq]at hp;obtain⟨h1,h2,h3,h4,h5,h6⟩:=hp;have key:∀k (hk:k<(wG a).length),wL (wG a)[k].1 1 (xn a)=true/\CV (wG a)[k]=true/\(∀h0:0<k,(wG a)[k-1].1<(wG a)[k].1):=by
  intro k hk;have:=any_eq_false.1 h1 k (mem_range.2 hk)
  unfold GB at this;simp only[List.getElem?_eq_getElem hk,Bool.or_eq_true,Bool.not_eq_true',Bool.and_eq_false_iff,not_or]at this;obtain⟨t1,t2⟩:=this;have e1:wL (wG a)[k].1 1 (xn a)=true:=by
   cases e:wL (wG a)[k].1 1 (xn a)with
   | true=>rfl
   | false=>exact absurd e t1.1
  have e2:CV (wG a)[k]=true:=by
   cases e:CV (wG a)[k]with
   | true=>rfl
   | false=>exact absurd e t1.2
  refine⟨e1,e2,λh0=>?_⟩;rw[dT h0]at t2;simp only[List.getElem?_eq_getElem (show k-1<(wG a).length by omega),Bool.true_and,decide_eq_true_eq]at t2;omega
 refine⟨Db h.b h2,by have:((aW a).length:Int)<=20:=h3;omega,by omega,h5,h6,λj hj=>?_,?_,λj hj=>?_⟩
 · obtain⟨k,hk,rfl⟩:=getElem_of_mem hj;exact (key k hk).1
 · exact HJ (λa b c h k=>by omega) λk hk=>by
    have:=(key (k+1) hk).2.2 (by omega);simpa using this
 · have hjw:=h.j j hj;have hjl:=hl.2.2.2 j hj
   have hjb:=hb j hj;obtain⟨k,hk,rfl⟩:=getElem_of_mem hj;have hp:=(key k hk).2.1
   unfold CV at hp;simp only[aT,Bool.or_eq_true]at hp;obtain⟨p1,p2,p3,p4⟩:=hp;exact⟨hjb,hjl.1,p1,p2,p3,p4.imp (λe=>e) λ⟨q1,q2,q3⟩=>⟨q1,q2,Db hjw.b q3⟩,hjw.p,hjw.b,hjl.2.2⟩
noncomputable def AE (b:wD) (j:xl):Nat:=if (jP j).1=163/\b.2.2.2.2.2.2.2.2.2.2≠(jB j).2.2.2.2.2.2.2.2.2.2/\xw j<3 then (jP j).2.2.2.2.length+3 else 1
noncomputable def DW (w:List UInt8) (m:List Int):Bool:=(xY w m).2==0&&((xY w m).1.1 != 162)
noncomputable def AP (w:List UInt8) (j:xl):Bool:=DW w j.2.1||decide (j.2.2.1>0)
noncomputable def A3 (w:List UInt8) (b:wD) (j:xl):Nat :=
 if j.2.2.1=2 then AE b j else if j.2.2.1=1 then (jP j).2.2.2.2.length-(Aq j).toNat+1+AE b j
 else if DW w j.2.1=true then (xY w j.2.1).1.2.2.2.2.length+3 else 1
theorem IA {b:wD} (h:xE b) {p:xg} (hp:yK p=true) (hk:(p.1 != 162)=true):Fw b p=true/\(yJ b p).2.1=(AO b p).2/\(yJ b p).1=(AO b p).1/\(AO b p).2.1=162/\(AO b p).2.2.1=p.2.1:=by
 have e:Fw b p=true:=by unfold Fw;rw[h.ok,hp,hk];rfl
 have e1:(C1 b p).2.1=162/\(C1 b p).2.2.1=p.2.1:=by
  unfold C1;cases (p.1==160)<;>cases (p.1==161)<;>cases (p.1==165)<;>exact⟨rfl,rfl⟩
 have e2:(DA b p).2.1=162/\(DA b p).2.2.1=p.2.1:=by
  unfold DA;split<;>exact⟨rfl,rfl⟩
 refine⟨e,?_,?_,?_⟩
 · unfold yJ;rw[e,cT]
 · unfold yJ;rw[e,cT]
 · unfold AO;cases yq (C1 b p).2 with
   | true=>exact e1
   | false=>exact e2
theorem RM (p:xg):(BS p).1=162/\(BS p).2.1=p.2.1:=by
 unfold BS;cases yq (162,p.2.1,6,1,p.2.2.2.2)<;>exact⟨rfl,rfl⟩
theorem NL {j:xl} (h:Ee j):j.2.2.1=0\/j.2.2.1=1\/j.2.2.1=2:=by
 obtain⟨h1,h2⟩:=xI h.ph;omega
theorem TF {w:List UInt8} {b:wD} {j:xl} (h:j.2.2.1=1):A3 w b j=(jP j).2.2.2.2.length-(Aq j).toNat+1+AE b j:=by unfold A3;rw[if_neg (by omega),if_pos h]
theorem Xa {w:List UInt8} {b:wD} {j:xl} (h:j.2.2.1=2):A3 w b j=AE b j:=by unfold A3;rw[if_pos h]
def VJ (w:List UInt8) (b b':wD) (j:xl):VI->Prop
 | .stay j'=>b'=b/\Ee j'/\j'.1=j.1/\A3 w b j'+1=A3 w b j/\AP w j'=AP w j
 | .gone d=>xE b'/\A3 w b j=1/\(AP w j=false->d=[])/\(AP w j=true->∃p,d=[(j.1,p)]/\p.1=162)
theorem Uo (w:List UInt8) {b:wD} (hb:xE b) {j:xl} (h:Ee j):VJ w b (AD w b j).1 j (AD w b j).2:=by
 obtain⟨m1,_,m3,m4⟩:=SS w h.byt h.len;obtain⟨t1,t2⟩:=xI h.tr;obtain⟨a1,a2⟩:=xI h.at';rcases NL h with hp|hp|hp
 ·
   have hne2:¬j.2.2.1=2:=by omega
   have hne1:¬j.2.2.1=1:=by omega
   unfold AD;rw[show (j.2.2.1==0)=true by rw[hp];rfl,cT];have hgood:∀q,DW w j.2.1=q->AP w j=q:=by
    intro q hq;unfold AP;rw[hq,dF (by omega),Bool.or_false]
   have hneed:DW w j.2.1=false->A3 w b j=1:=by
    intro hq;unfold A3;rw[if_neg hne2,if_neg hne1,if_neg (by rw[hq];simp)]
   cases h3:((xY w j.2.1).2==3)with
   | true =>
    have hg:DW w j.2.1=false:=by
     unfold DW;simp only[beq_iff_eq]at h3;rw[h3];rfl
    exact⟨ST hb,hneed hg,λ_=>rfl,λha=>by rw[hgood _ hg]at ha;cases ha⟩
   | false =>
    cases h4:((xY w j.2.1).2 != 0||((xY w j.2.1).1.1==162))with
    | true =>
     have hg:DW w j.2.1=false:=by
      unfold DW;rw[bne]at h4 ⊢;cases e1:((xY w j.2.1).2==0)<;>cases e2:((xY w j.2.1).1.1==162)<;>simp[e1,e2]at h4 ⊢
     exact⟨RL hb,hneed hg,λ_=>rfl,λha=>by rw[hgood _ hg]at ha;cases ha⟩
    | false =>
     simp only[Bool.or_eq_false_iff]at h4;have h0:(xY w j.2.1).2=0:=by simpa using h4.1
     have hk:((xY w j.2.1).1.1 != 162)=true:=by rw[bne,h4.2];rfl
     have hg:DW w j.2.1=true:=by unfold DW;rw[h0,hk];rfl
     refine⟨rfl,⟨h.byt,h.len,rfl,?_,h.tr,.inr ⟨m4 h0,hk,hb⟩,m3,hb.w,hb.le⟩,rfl,?_,?_⟩
     · unfold wL;rw[dT (by show (0:Int)<=0;omega),dT (by show (0:Int)<=_;omega)];rfl
     · have e1:A3 w b j=(xY w j.2.1).1.2.2.2.2.length+3:=by unfold A3;rw[if_neg hne2,if_neg hne1,if_pos hg]
       rw[e1];show A3 w b (AC j.1 j.2.1 1 (xY w j.2.1).1 b 0 (xw j))+1=_
       rw[TF rfl];have e2:AE b (AC j.1 j.2.1 1 (xY w j.2.1).1 b 0 (xw j))=1:=by
        unfold AE;rw[if_neg (λhh=>hh.2.1 rfl)]
       rw[e2];show (xY w j.2.1).1.2.2.2.2.length-(0:Int).toNat+1+1+1=_
       simp
     · rw[hgood _ hg];unfold AP;rw[show decide ((AC j.1 j.2.1 1 (xY w j.2.1).1 b 0 (xw j)).2.2.1>0)=true from rfl,Bool.or_true]
 ·
   have hok:=h.ok.resolve_left (by rw[hp];simp);unfold AD;rw[show (j.2.2.1==0)=false by rw[hp];rfl,show (j.2.2.1==2)=false by rw[hp];rfl,cF,cF];have hn:A3 w b j=(jP j).2.2.2.2.length-(Aq j).toNat+1+AE b j:=by unfold A3;rw[if_neg (by omega),if_pos hp]
   have ha:AP w j=true:=by unfold AP;rw[dT (show j.2.2.1>0 by omega),Bool.or_true]
   by_cases hlt:Aq j<((jP j).2.2.2.2.length:Int)
   · have hw1:wE (Aq j+1)=Aq j+1:=xq (by omega) (by
      have:=h.pl.1;have:(jP j).2.2.2.2.length<=1048576:=this
      omega)
     rw[dT hlt,cT,hw1];refine⟨rfl,⟨h.byt,h.len,h.ph,?_,h.tr,.inr hok,h.pl,h.bw,h.bl⟩,rfl,?_,?_⟩
     · show wL (Aq j+1) 0 ((jP j).2.2.2.2.length:Int)=true;unfold wL;rw[dT (by omega),dT (by omega)];rfl
     · rw[hn];show A3 w b (AC j.1 j.2.1 j.2.2.1 (jP j) (jB j) (Aq j+1) (xw j))+1=_
       unfold A3;rw[show (AC j.1 j.2.1 j.2.2.1 (jP j) (jB j) (Aq j+1) (xw j)).2.2.1=1 from hp,if_neg (by omega),if_pos rfl];have e2:AE b (AC j.1 j.2.1 j.2.2.1 (jP j) (jB j) (Aq j+1) (xw j))=AE b j:=rfl
       rw[e2];show (jP j).2.2.2.2.length-(Aq j+1).toNat+1+AE b j+1=_
       omega
     · rw[ha];unfold AP;rw[show decide ((AC j.1 j.2.1 j.2.2.1 (jP j) (jB j) (Aq j+1) (xw j)).2.2.1>0)=true from dT (by show j.2.2.1>0;omega),Bool.or_true]
   · rw[dF hlt,cF];refine⟨rfl,⟨h.byt,h.len,rfl,h.at',h.tr,.inr hok,h.pl,h.bw,h.bl⟩,rfl,?_,?_⟩
     · rw[hn];show A3 w b (AC j.1 j.2.1 2 (jP j) (jB j) (Aq j) (xw j))+1=_
       rw[Xa rfl];have e2:AE b (AC j.1 j.2.1 2 (jP j) (jB j) (Aq j) (xw j))=AE b j:=rfl
       rw[e2];omega
     · rw[ha];unfold AP;rw[show decide ((AC j.1 j.2.1 2 (jP j) (jB j) (Aq j) (xw j)).2.2.1>0)=true from rfl,Bool.or_true]
 ·
   obtain⟨hpp,hk,hB⟩:=h.ok.resolve_left (by rw[hp];simp);unfold AD;rw[show (j.2.2.1==0)=false by rw[hp];rfl,show (j.2.2.1==2)=true by rw[hp];rfl,cF,cT];have hn:A3 w b j=AE b j:=by unfold A3;rw[if_pos hp]
   have ha:AP w j=true:=by unfold AP;rw[dT (show j.2.2.1>0 by omega),Bool.or_true]
   cases h163:(j.2.2.2.1 != 163)with
   | true =>
    obtain⟨_,d2,_,d4,_⟩:=IA hB hpp hk;refine⟨hb,?_,(λhf=>by rw[ha]at hf;cases hf),λ_=>⟨_,rfl,by rw[d2];exact d4⟩⟩;rw[hn];unfold AE;rw[if_neg (λhh=>by have e:j.2.2.2.1=163:=hh.1;rw[e]at h163;cases h163)]
   | false =>
    have e163:(jP j).1=163:=by
     have:¬j.2.2.2.1≠163:=by simpa using h163
     exact Classical.not_not.1 this
    cases hv:(b.2.2.2.2.2.2.2.2.2.2==(jB j).2.2.2.2.2.2.2.2.2.2)with
    | true =>
     obtain⟨_,d2,_,d4,_⟩:=IA hb hpp hk;refine⟨KQ hb _,?_,(λhf=>by rw[ha]at hf;cases hf),λ_=>⟨_,rfl,by rw[d2];exact d4⟩⟩;rw[hn];unfold AE;rw[if_neg (λhh=>hh.2.1 (by simpa using hv))]
    | false =>
     by_cases ht:xw j>=3
     · rw[dT ht];refine⟨hb,?_,(λhf=>by rw[ha]at hf;cases hf),λ_=>⟨_,rfl,(RM _).1⟩⟩;rw[hn];unfold AE;rw[if_neg (λhh=>by have:=hh.2.2;omega)]
     · rw[dF ht,xq (by omega) (by omega)];refine⟨rfl,⟨h.byt,h.len,rfl,?_,?_,.inr ⟨hpp,hk,hb⟩,h.pl,hb.w,hb.le⟩,rfl,?_,?_⟩
       · show wL 0 0 ((jP j).2.2.2.2.length:Int)=true;unfold wL;rw[dT (by omega),dT (by omega)];rfl
       · show wL (xw j+1) 0 3=true;unfold wL;rw[dT (by omega),dT (by omega)];rfl
       · rw[hn];have e1:AE b j=(jP j).2.2.2.2.length+3:=by
          unfold AE;rw[if_pos ⟨e163,by simpa using hv,by omega⟩]
         rw[e1];show A3 w b (AC j.1 j.2.1 1 (jP j) b 0 (xw j+1))+1=_
         rw[TF rfl];have e2:AE b (AC j.1 j.2.1 1 (jP j) b 0 (xw j+1))=1:=by
          unfold AE;rw[if_neg (λhh=>hh.2.1 rfl)]
         rw[e2];show (jP j).2.2.2.2.length-(0:Int).toNat+1+1+1=_
         simp
       · rw[ha];unfold AP;rw[show decide ((AC j.1 j.2.1 1 (jP j) b 0 (xw j+1)).2.2.1>0)=true from rfl,Bool.or_true]

theorem Qp {a:wW} (h:zD a) {k:Nat} (hk:k<(wG a).length) :
 (∃j',BT a k (wG a)[k]=(yv (aB a) (aW a) ((wG a).set k j') (zl a) (xn a),[])/\Ee j'/\j'.1=(wG a)[k].1/\A3 (aW a) (aB a) j'+1=A3 (aW a) (aB a) (wG a)[k]/\AP (aW a) j'=AP (aW a) (wG a)[k]) \/
 (∃b' d,BT a k (wG a)[k]=(yv b' (aW a) ((wG a).eraseIdx k) (zl a) (xn a),d)/\xE b'/\A3 (aW a) (aB a) (wG a)[k]=1/\(AP (aW a) (wG a)[k]=false->d=[])/\(AP (aW a) (wG a)[k]=true->∃p,d=[((wG a)[k].1,p)]/\p.1=162)):=by
 have hs:=Uo (aW a) h.b (h.j _ (getElem_mem hk));unfold BT;cases hf:(AD (aW a) (aB a) (wG a)[k]).2 with
 | stay j' =>
  rw[hf]at hs;obtain⟨k1,k2,k3,k4,k5⟩:=hs;exact .inl ⟨j',by simp only[k1],k2,k3,k4,k5⟩
 | gone d =>
  rw[hf]at hs;obtain⟨k1,k2,k3,k4⟩:=hs;exact .inr ⟨_,d,rfl,k1,k2,k3,k4⟩
theorem Up {a:wW} (h:zD a) {k:Nat} (hk:k<(wG a).length) {j':xl} (hj:Ee j') (hi:j'.1=(wG a)[k].1):zD (yv (aB a) (aW a) ((wG a).set k j') (zl a) (xn a)):=by
 have hm:∀x∈(wG a).set k j',x∈wG a\/x=j':=λx hx=>List.mem_or_eq_of_mem_set hx;have hmap:((wG a).set k j').map (λj=>j.1)=(wG a).map (λj=>j.1):=by
  rw[List.map_set,hi];apply List.ext_getElem
  · simp
  · intro i h1 h2;rw[List.getElem_set];split
    · rename_i e;subst e;simp
    · rfl
 refine⟨h.b,h.w,?_,h.lo,h.la,λj hj'=>?_,?_,λj hj'=>?_⟩
 · show ((wG a).set k j').length<=6;rw[length_set];exact h.n
 · rcases hm j hj' with hj'|rfl
   · exact h.ids j hj'
   · show wL j.1 1 (xn a)=true;rw[hi];exact h.ids _ (getElem_mem hk)
 · have:=h.up;show ((wG a).set k j').Pairwise λi j=>i.1<j.1
   rw[←List.pairwise_map (f:=λj:xl=>j.1) (R:=λx y=>x<y)]at this ⊢;rw[hmap];exact this
 · rcases hm j hj' with hj'|rfl
   · exact h.j j hj'
   · exact hj
theorem SW {a:wW} (h:zD a) (k:Nat) {b':wD} (hb:xE b'):zD (yv b' (aW a) ((wG a).eraseIdx k) (zl a) (xn a)):=by
 have hs:((wG a).eraseIdx k).Sublist (wG a):=List.eraseIdx_sublist _ _;refine⟨hb,h.w,Nat.le_trans hs.length_le h.n,h.lo,h.la,λj hj=>h.ids j (hs.subset hj),h.up.sublist hs,λj hj=>h.j j (hs.subset hj)⟩
theorem SX {a:wW} (h:zD a) {k:Nat} (hk:k<(wG a).length):zD (BT a k (wG a)[k]).1/\(BT a k (wG a)[k]).2.length<=1:=by
 rcases Qp h hk with ⟨j',e,k1,k2,_⟩|⟨b',d,e,k1,_,k3,k4⟩
 · rw[e];exact⟨Up h hk k1 k2,by simp⟩
 · rw[e];refine⟨SW h k k1,?_⟩;cases ha:AP (aW a) (wG a)[k]with
   | false=>rw[k3 ha];simp
   | true=>obtain⟨p,rfl,_⟩:=k4 ha;simp
theorem TG {a:wW} (h:zD a) {k:Nat} (hk:k<(wG a).length):eR a (k:Int)=some (BT a k (wG a)[k]) :=
 X9 h.b.w h.ale hk (h.j _ (getElem_mem hk)).jwf (h.j _ (getElem_mem hk)).byt
def NM (w:List UInt8):List Int:=xS 2 (yw 1)++xS 4 (Bc w)
theorem Pn {p:xg} (hx:∀x∈p.2.2.2.2,BJ x=true) (hn:p.2.2.2.2.length<=10) (hi:wL p.2.1 (-2147483648) 2147483647=true)
 (hk:(cond (p.1==162||p.1==165) (wL p.2.2.1 0 1000&&wL p.2.2.2.1 0 1000) (cond (p.1==160||(p.1==161||p.1==163)) (p.2.2.1==0&&p.2.2.2.1==0) false))=true):yK p=true:=by
 unfold yK;have h1:(List.range p.2.2.2.2.length).any (bX p.2.2.2.2)=false:=by
  rw[any_eq_false];intro k hk';have hk':=mem_range.1 hk'
  unfold bX;simp only[List.getElem?_eq_getElem hk',hx _ (getElem_mem hk')];simp
 rw[h1,dT (by omega),hk,hi];rfl

theorem Uq {i:Int} (hi:-2147483648<=i/\i<=2147483647):yq (162,i,7,0,[])=true:=by
 have hp:yK (162,i,7,0,[])=true:=Pn (by intro x hx;cases hx) (Nat.zero_le _) (Dc hi.1 hi.2) rfl;have t1:=zf 2 (body:=yw i)
 have t2:=zf 2 (body:=yw 7);have t3:=zf 2 (body:=yw 0)
 have t4:=zf 48 (body:=[]);have i1:=B2 i
 have i2:=B2 7;have i3:=B2 0
 have hb:(Aj (162,i,7,0,[])).length<=30:=by
  unfold Aj;show (xS 2 (yw i)++xS 2 (yw 7)++xS 2 (yw 0)++xS 48 []).length<=30
  simp only[length_append];simp only[List.length_nil]at t4;omega
 have ht:=zf 162 (body:=Aj (162,i,7,0,[]));have hpos:=JQ 162 (Aj (162,i,7,0,[]))
 unfold yq JR;rw[if_pos ⟨hp,by show (0:Nat)<=250;omega,by omega⟩];exact Dc (by show (1:Int)<=((xS 162 (Aj (162,i,7,0,[]))).length:Int);omega) (by show ((xS 162 (Aj (162,i,7,0,[]))).length:Int)<=120;omega)
theorem RN {b:wD} {p:xg} (hp:yK p=true):yq (AO b p).2=true:=by
 have hi:=(A1 hp).2.2.2.1;unfold AO;cases hf:yq (C1 b p).2 with
 | true=>exact hf
 | false =>
  rw[cF];unfold DA;split
  · rename_i t ht;cases h5:(p.1==165)with
    | false=>rw[h5]at ht;cases ht
    | true =>
     rw[h5]at ht;exact (NK ht).1
  · exact Uq hi
def SY (id:Int) (m:List Int):xl:=(id,m,0,0,0,0,0,[],0,[],[],[],[],[],0,0,0,0,0,0,0)
theorem SZ (id:Int) {m:List Int} (hb:zE m) (hn:m.length<=M):Ee (SY id m):=by
 have h0:(0:Nat)<=M:=by decide
 refine⟨hb,hn,rfl,rfl,rfl,.inl rfl,⟨h0,λx hx=>by cases hx⟩,⟨by show 0<9223372036854775807;decide,by show 0<9223372036854775807;decide,by show 0<9223372036854775807;decide,by show 0<9223372036854775807;decide,λr hr=>by cases hr⟩,⟨h0,h0,h0,h0,h0⟩⟩
theorem Ur {a:wW} (h:zD a) {m:List Int} (hn:m.length<=M) (h6:(wG a).length<6) (hl:xn a<1000000):bh a m=some (yv (aB a) (aW a) (wG a++[SY (xn a+1) m]) (zl a) (xn a+1)):=by
 have hla:=xI h.la;have e1:decide ((a.2.2.2.2.2.2.2.2.2.2.2.2.1.length:Int)>=6)=false:=dF (by show ¬((wG a).length:Int)>=6;omega)
 have e2:decide (a.2.2.2.2.2.2.2.2.2.2.2.2.2.2>=1000000)=false:=dF (by show ¬xn a>=1000000;omega);have e3:wE (a.2.2.2.2.2.2.2.2.2.2.2.2.2.2+1)=xn a+1:=xq (by show -9223372036854775808<=xn a+1;omega) (by show xn a+1<=_;omega)
 unfold bh;rw[E9 h.ale,wC,IJ h.awf,wC,h.ok,Bool.not_true,cF,e1,cF,e2,wC,cF,Ci hn,wC,e3];rw[wO (by show (wG a).length+1<=_;omega),wC];rfl
theorem Us {a:wW} (h:zD a) {m:List Int} (hf:¬((wG a).length<6/\xn a<1000000)):bh a m=some (yv (aB a) (aW a) (wG a) (B6 (zl a)) (xn a)):=by
 unfold bh;rw[E9 h.ale,wC,IJ h.awf,wC,h.ok,Bool.not_true,cF];have key:(cond (decide ((a.2.2.2.2.2.2.2.2.2.2.2.2.1.length:Int)>=6)) (some true) (some (decide (a.2.2.2.2.2.2.2.2.2.2.2.2.2.2>=1000000))))=some true:=by
  by_cases h6:(wG a).length<6
  · have h7:¬xn a<1000000:=λh7=>hf ⟨h6,h7⟩;rw[dF (by show ¬((wG a).length:Int)>=6;omega),cF,dT (by show xn a>=1000000;omega)]
  · rw[dT (by show ((wG a).length:Int)>=6;omega),cT]
 rw[key,wC,cT,CO,wC];rfl
theorem Qq {a:wW} (h:zD a) {m:List Int} (hb:zE m) (hn:m.length<=M) (h6:(wG a).length<6) (hl:xn a<1000000):zD (yv (aB a) (aW a) (wG a++[SY (xn a+1) m]) (zl a) (xn a+1)):=by
 have hla:=xI h.la;refine⟨h.b,h.w,?_,h.lo,?_,λj hj=>?_,?_,λj hj=>?_⟩
 · show (wG a++[_]).length<=6;rw[length_append];show (wG a).length+1<=6;omega
 · exact Dc (by show 0<=xn a+1;omega) (by show xn a+1<=1000000;omega)
 · rcases mem_append.1 hj with hj|hj
   · obtain⟨k1,k2⟩:=xI (h.ids j hj);exact Dc k1 (by show j.1<=xn a+1;omega)
   · rw[mem_singleton]at hj;subst hj;exact Dc (by show 1<=xn a+1;omega) (by show xn a+1<=xn a+1;omega)
 · show (wG a++[_]).Pairwise λi j:xl=>i.1<j.1;refine pairwise_append.2 ⟨h.up,List.pairwise_singleton _ _,λx hx y hy=>?_⟩;rw[mem_singleton]at hy;subst hy;have:=(xI (h.ids x hx)).2
   show x.1<xn a+1;omega
 · rcases mem_append.1 hj with hj|hj
   · exact h.j j hj
   · rw[mem_singleton]at hj;subst hj;exact SZ _ hb hn
theorem T0 {a:wW} (h:zD a):zD (yv (aB a) (aW a) (wG a) (B6 (zl a)) (xn a)):=⟨h.b,h.w,h.n,D8 h.lo,h.la,h.ids,h.up,h.j⟩
structure Qr (p:xg):Prop where
 k:p.1=160\/p.1=161\/p.1=163\/p.1=165
 i:0<=p.2.1/\p.2.1<100
 ab:(p.1=165/\(0<=p.2.2.1/\p.2.2.1<=1000)/\(0<=p.2.2.2.1/\p.2.2.2.1<=1000))\/(p.1≠165/\p.2.2.1=0/\p.2.2.2.1=0)
 n:p.2.2.2.2.length<=3
 s:∀x∈p.2.2.2.2,WM x
 o:p.1≠163->∀x∈p.2.2.2.2,BJ x=true
theorem Qr.le {p:xg} (h:Qr p):zk M p:=⟨by have:=h.n;show _<=1048576;omega,λx hx=>(h.s x hx).le⟩
theorem Qr.ok {p:xg} (h:Qr p) (hk:p.1≠163):yK p=true:=by
 have hi:=h.i;refine Pn (h.o hk) (by have:=h.n;omega) (Dc (by omega) (by omega)) ?_;rcases h.ab with ⟨e,⟨a1,a2⟩,b1,b2⟩|⟨e,a1,b1⟩
 · rw[e,Dc a1 a2,Dc b1 b2];rfl
 · rw[a1,b1];rcases h.k with k|k|k|k
   · rw[k];rfl
   · rw[k];rfl
   · exact absurd k hk
   · exact absurd k e
def yY (e:wJ):Option wJ:=cond e.2.2.2.2 (some e) (cond (decide (e.2.2.2.1>=4)) none (some (e.1,e.2.1,e.2.2.1,wE (e.2.2.2.1+1),e.2.2.2.2)))
theorem Yc {l:List wJ} (hn:l.length<=1000):gD l=some (l.filterMap yY):=by
 unfold gD;obtain⟨v,e1,rfl⟩:=xi (step:=λz:Int×List wJ=>cE l z.1 z.2) (λk z=>z=((k:Int),(l.take k).filterMap yY)) l.length (λv=>v=l.filterMap yY)
  (λk z hk e=>by
   subst e;refine .inl ⟨_,?_,rfl⟩;have hfl:((l.take k).filterMap yY).length<=k:=Nat.le_trans (List.length_filterMap_le _ _) (by rw[length_take];omega)
   have t1:l.take (k+1)=l.take k++[l[k]]:=by rw[take_add_one,List.getElem?_eq_getElem hk];rfl
   have t2:(l.take (k+1)).filterMap yY=(l.take k).filterMap yY++(match yY l[k]with|some y=>[y]|none=>[]):=by
    rw[t1,List.filterMap_append]
    congr 1
    cases hq:yY l[k]with
    | none=>rw[List.filterMap_cons_none hq];rfl
    | some y=>rw[List.filterMap_cons_some hq];rfl
   have ha:∀y:wJ,app ((l.take k).filterMap yY) [y]=some ((l.take k).filterMap yY++[y]):=λy=>wO (by show _+1<=_;omega);show cE l (k:Int) _=_
   unfold cE;rw[xk (by omega),cT,wU hk,wC,wQ (by omega),t2];cases hs:l[k].2.2.2.2 with
   | true =>
    have hq:yY l[k]=some l[k]:=by unfold yY;rw[hs];rfl
    rw[hq];simp only[Bool.not_true,cF,cT,ha,wC]
   | false =>
    simp only[Bool.not_false,cT,cF];cases h4:decide (l[k].2.2.2.1>=4)with
    | true =>
     have hq:yY l[k]=none:=by unfold yY;rw[hs,h4];rfl
     rw[hq];simp only[cT,append_nil]
    | false =>
     have hq:yY l[k]=some (l[k].1,l[k].2.1,l[k].2.2.1,wE (l[k].2.2.2.1+1),false):=by unfold yY;rw[hs,h4];rfl
     rw[hq];simp only[cF,ha,wC])
  (λz e=>by
   subst e;refine⟨_,?_,rfl⟩;show cE l (l.length:Int) _=_
   unfold cE;rw[x7 (by omega),cF,take_length]) (x:=(0,[])) rfl
 have e1:loop (λz=>cE l z.1 z.2) (0,[])=some (l.filterMap yY):=e1;rw[e1,wC]
theorem JT {e y:wJ} (h:C4 e=true) (hy:yY e=some y):C4 y=true/\y.1=e.1/\y.2.1=e.2.1:=by
 unfold yY at hy;cases hs:e.2.2.2.2 with
 | true=>rw[hs,cT]at hy;cases hy;exact⟨h,rfl,rfl⟩
 | false =>
  rw[hs,cF]at hy;by_cases h4:e.2.2.2.1>=4
  · rw[dT h4,cT]at hy;cases hy
  · rw[dF h4,cF]at hy;cases hy;unfold C4 at h ⊢;simp only[aT]at h;obtain⟨f1,f2,f3,f4,f5⟩:=h;obtain⟨g1,g2⟩:=xI f4;refine⟨?_,rfl,rfl⟩;show (wL e.1 1 99&&(wL e.2.1 1 9999&&(wL e.2.2.1 0 7&&(wL (wE (e.2.2.2.1+1)) 0 4&&(!false||_)))))=true
    rw[f1,f2,f3,xq (by omega) (by omega),Dc (by omega) (by omega)];rfl
theorem VK {l:List wJ} (h:FB l):FB (l.filterMap yY):=by
 refine⟨λx hx=>?_,?_,Nat.le_trans (List.length_filterMap_le _ _) h.n⟩
 · obtain⟨e,he,hy⟩:=List.mem_filterMap.1 hx;exact (JT (h.e e he) hy).1
 · refine List.pairwise_filterMap.2 ?_;refine List.Pairwise.imp_of_mem ?_ h.o;intro a b ha hb hab x hx y hy;obtain⟨_,a1,a2⟩:=JT (h.e a ha) hx;obtain⟨_,b1,b2⟩:=JT (h.e b hb) hy;unfold lt at hab ⊢;rw[a1,a2,b1,b2];exact hab
def MI (b:wD):wD:=(b.1,b.2.1,b.2.2.1,b.2.2.2.1.filterMap yY,b.2.2.2.2.1,b.2.2.2.2.2.1,B6 b.2.2.2.2.2.2.1,b.2.2.2.2.2.2.2.1,b.2.2.2.2.2.2.2.2.1,b.2.2.2.2.2.2.2.2.2.1,b.2.2.2.2.2.2.2.2.2.2)
noncomputable def Bz (b:wD):wD:=(aH b).getD b
noncomputable def DX (b:wD):wD:=Bz (MI b)
theorem Qs {b:wD} (h:AJ b) (hv:Ak (b.2.2.2.2.1,b.2.2.2.2.2.1) (b.2.2.1.length:Int)=true):aH b=some (Bz b)/\xE (Bz b)/\(Bz b).1=b.1/\(Bz b).2.1=b.2.1/\(Bz b).2.2.1=b.2.2.1/\(Bz b).2.2.2.2.2.2.1=b.2.2.2.2.2.2.1/\(Bz b).2.2.2.2.2.2.2.1=b.2.2.2.2.2.2.2.1/\(Bz b).2.2.2.2.2.2.2.2.1=b.2.2.2.2.2.2.2.2.1/\(Bz b).2.2.2.2.2.2.2.2.2.1=b.2.2.2.2.2.2.2.2.2.1/\(Bz b).2.2.2.2.2.2.2.2.2.2=B6 b.2.2.2.2.2.2.2.2.2.2:=by
 obtain⟨r,r1,r2,r3,r4,r5,r6,q1,q2,q3,q4,q5,q6,q7⟩:=U1 h;have e:Bz b=r:=by unfold Bz;rw[r1];rfl
 rw[e];have hok:xr r=true:=r3.ok (by rw[r4,r5,r6];exact hv)
 refine⟨r1,Db (H6 r3 r3.le) hok,q1,q2,r4,q3,q4,q5,q6,?_⟩;rw[CO]at q7;exact (Option.some.inj q7).symm
theorem NN {b:wD} (h:xE b):AJ (MI b):=by
 have s:=h.sok;refine⟨s.id,s.name,s.n1,s.n6,s.p,(VK (HN s.f)).ok,?_,s.q,s.v,s.s,s.i,s.h⟩;obtain⟨h1,h2,h3,h4,h5⟩:=A2 (Bp h.ok).1;unfold zm;simp only[aT];exact⟨D8 h1,h2,h3,h4,h5⟩
theorem Qt {b:wD} (h:xE b):bI b=some (DX b)/\xE (DX b)/\(DX b).2.1=b.2.1/\(DX b).2.2.2.2.2.2.2.1=b.2.2.2.2.2.2.2.1/\(DX b).2.2.2.2.2.2.2.2.1=b.2.2.2.2.2.2.2.2.1/\(DX b).2.2.2.2.2.2.2.2.2.2=B6 b.2.2.2.2.2.2.2.2.2.2:=by
 obtain⟨t1,t2,t3,t4,t5,t6,t7,t8,t9,t10⟩:=Qs (NN h) h.v;have hf:=HN h.f
 unfold bI;rw[xQ h.le,wC,Bb h.w,wC,h.ok,cT,CO,wC,Yc (by have:=hf.n;omega),wC];have t1':aH (b.1,b.2.1,b.2.2.1,b.2.2.2.1.filterMap yY,b.2.2.2.2.1,b.2.2.2.2.2.1,B6 b.2.2.2.2.2.2.1,b.2.2.2.2.2.2.2.1,b.2.2.2.2.2.2.2.2.1,b.2.2.2.2.2.2.2.2.2.1,b.2.2.2.2.2.2.2.2.2.2)=some (Bz (MI b)):=t1
 rw[t1',wC];exact⟨rfl,t2,t4,t7,t8,t10⟩

theorem xJ {α β:Type} {o:Option α} {a:α} {k:α->Option β} {r:Option β} (h:o=some a) (hk:k a=r):o.bind k=r:=by rw[h];exact hk
theorem DL {b:wD} (h:xE b) (p:Int):bo b p=some (wL p 0 ((b.2.2.1.length:Int)-1)):=by
 have hn:=h.n6;unfold bo;rw[Bb h.w,wC,h.ok,cT,xq (by omega) (by omega),zQ];rfl
theorem HB {b:wD} (s:AJ b) {P:List Pt} (hl:P.length=b.2.2.1.length) (hp:∀x∈P,C3 x=true):AJ (b.1,b.2.1,P,b.2.2.2.1,b.2.2.2.2.1,b.2.2.2.2.2.1,b.2.2.2.2.2.2.1,b.2.2.2.2.2.2.2.1,b.2.2.2.2.2.2.2.2.1,b.2.2.2.2.2.2.2.2.2.1,b.2.2.2.2.2.2.2.2.2.2) :=
 ⟨s.id,s.name,by show 1<=P.length;rw[hl];exact s.n1,by show P.length<=6;rw[hl];exact s.n6,hp,s.f,s.c,by show b.2.2.2.2.2.1.length=P.length;rw[hl];exact s.q,s.v,s.s,s.i,s.h⟩
theorem Ew {P:List Pt} {k:Nat} {q:Pt} (h:∀x∈P,C3 x=true) (hq:C3 q=true):∀x∈P.set k q,C3 x=true:=λx hx=>by
 rcases List.mem_or_eq_of_mem_set hx with hx|rfl
 · exact h x hx
 · exact hq
theorem TH {b:wD} (h:xE b) (p:Int) (up:Bool):∃r,bH b p up=some r/\xE r:=by
 have hn:=h.n6;have s:=h.sok
 unfold bH;rw[xQ h.le,wC,DL h,wC];cases hp:wL p 0 ((b.2.2.1.length:Int)-1)with
 | false=>exact⟨b,rfl,h⟩
 | true =>
  obtain⟨p0,p1⟩:=xI hp;obtain⟨k,rfl⟩:∃k:Nat,p=(k:Int):=⟨p.toNat,by omega⟩;have hk:k<b.2.2.1.length:=by omega
  have hq:C3 (up,b.2.2.1[k].2.1,false,0,0,0,0,0)=true:=by
   have:=h.p _ (getElem_mem hk);unfold C3 at this ⊢;simp only[aT]at this;rw[this.1];rfl
  have s':=HB s (P:=b.2.2.1.set k (up,b.2.2.1[k].2.1,false,0,0,0,0,0)) (by rw[length_set]) (Ew h.p hq);obtain⟨t1,t2,_⟩:=Qs s' (by show Ak (b.2.2.2.2.1,b.2.2.2.2.2.1) ((b.2.2.1.set k _).length:Int)=true;rw[length_set];exact h.v);rw[cT,wU hk,wC,ym hk,wC,List.getElem?_eq_getElem hk,wC];exact⟨_,xJ t1 rfl,t2⟩
theorem TI {b:wD} (h:xE b) (p:Int) (v:Bv):∃r,bG b p v=some r/\xE r:=by
 have hn:=h.n6;have s:=h.sok
 unfold bG;rw[xQ h.le,wC,DL h,wC];cases hp:wL p 0 ((b.2.2.1.length:Int)-1)with
 | false=>exact⟨b,rfl,h⟩
 | true =>
  obtain⟨p0,p1⟩:=xI hp;obtain⟨k,rfl⟩:∃k:Nat,p=(k:Int):=⟨p.toNat,by omega⟩;have hk:k<b.2.2.1.length:=by omega
  rw[cT,wU hk,wC,wC];cases hu:b.2.2.1[k].1 with
  | false=>exact⟨b,rfl,h⟩
  | true =>
   rw[cT,O9,wC,wC];cases hv:HE v with
   | false=>exact⟨b,rfl,h⟩
   | true =>
    have hq:C3 (b.2.2.1[k].1,b.2.2.1[k].2.1,true,v.1,v.2.1,v.2.2.1,v.2.2.2.1,v.2.2.2.2)=true:=by
     have:=h.p _ (getElem_mem hk);unfold C3 at this ⊢;simp only[aT]at this;rw[this.1,hu];have hv':HE (v.1,v.2.1,v.2.2.1,v.2.2.2.1,v.2.2.2.2)=true:=hv
     simp[hv']
    have s':=HB s (P:=b.2.2.1.set k (b.2.2.1[k].1,b.2.2.1[k].2.1,true,v.1,v.2.1,v.2.2.1,v.2.2.2.1,v.2.2.2.2)) (by rw[length_set]) (Ew h.p hq);obtain⟨t1,t2,_⟩:=Qs s' (by show Ak (b.2.2.2.2.1,b.2.2.2.2.2.1) ((b.2.2.1.set k _).length:Int)=true;rw[length_set];exact h.v);rw[cT,ym hk,wC,List.getElem?_eq_getElem hk,wC,length_set,ym hk,wC,List.getElem?_set_self hk,wC,set_set];exact⟨_,xJ t1 rfl,t2⟩

theorem IB {x:wJ} {t m:Int} (h:yT x t m=true):t<x.1\/(t=x.1/\m<x.2.1):=by
 unfold yT at h;simp only[Bool.or_eq_true,aT,decide_eq_true_eq,beq_iff_eq]at h;rcases h with h|⟨h1,h2⟩
 · exact .inl h
 · exact .inr ⟨h1.symm,h2⟩
theorem KS {x:wJ} {t m:Int} (h:yT x t m=false) (hs:¬(x.1=t/\x.2.1=m)):x.1<t\/(x.1=t/\x.2.1<m):=by
 have h':¬(x.1>t\/(x.1=t/\x.2.1>m)):=by
  intro hc;have:yT x t m=true:=by
   unfold yT;simp only[Bool.or_eq_true,aT,decide_eq_true_eq,beq_iff_eq];exact hc
  rw[this]at h;cases h
 by_cases h1:x.1<t
 · exact .inl h1
 · have e:x.1=t:=by
    have:¬x.1>t:=λhc=>h' (.inl hc);omega
   refine .inr ⟨e,?_⟩;have:¬x.2.1>m:=λhc=>h' (.inr ⟨e,hc⟩)
   have:x.2.1≠m:=λhc=>hs ⟨e,hc⟩;omega
theorem Ut {a b c:wJ} (h:lt a b) (k:lt b c):lt a c:=by
 unfold lt at *;omega
theorem BZ (l:List wJ) (t m:Int):(EB l t m = -1/\∀x∈l,¬(x.1=t/\x.2.1=m))\/∃k,∃hk:k<l.length,EB l t m=(k:Int)/\l[k].1=t/\l[k].2.1=m:=by
 unfold EB;cases h:l.findIdx? (λe=>e.1==t&&e.2.1==m)with
 | none =>
  refine .inl ⟨rfl,λx hx hc=>?_⟩;have:=List.findIdx?_eq_none_iff.1 h x hx
  rw[hc.1,hc.2]at this;simp at this
 | some k =>
  obtain⟨hk,h1,_⟩:=List.findIdx?_eq_some_iff_getElem.1 h;simp only[aT,beq_iff_eq]at h1;exact .inr ⟨k,hk,rfl,h1.1,h1.2⟩
theorem Yd {l:List wJ} (h:FB l) {e:wJ} (he:C4 e=true):∃y,cD l e=some y/\FB y.1:=by
 have hn:=h.n;have hM:M=1048576:=rfl
 unfold cD;rw[DO (by omega),wC,FA (by omega),wC];rcases BZ l e.1 e.2.1 with ⟨h1,h2⟩|⟨k,hk,h1,h2,h3⟩
 · rw[h1,dF (by decide),cF];by_cases h12:(l.length:Int)>=12
   · rw[dT h12,cT];exact⟨_,rfl,h⟩
   · rw[dF h12,cF];obtain⟨d,d1,k,d2,d3,d4,d5⟩:=xi (step:=λz:Int=>aZ l e z) (λk z=>z=(k:Int)/\∀x∈l.take k,yT x e.1 e.2.1=false) l.length (λd=>∃k:Nat,d=(k:Int)/\k<=l.length/\(∀x∈l.take k,yT x e.1 e.2.1=false)/\∀hk:k<l.length,yT l[k] e.1 e.2.1=true)
      (λk z hk ⟨e1,e2⟩=>by
       subst e1;have hst:∀q,yT l[k] e.1 e.2.1=q->aZ l e (k:Int)=cond (!q) (some (.inl ((k+1:Nat):Int))) (some (.inr (k:Int))):=λq hq=>by
        unfold aZ;rw[xk (by omega),cT,wU hk,wC,LI,wC,wC,hq,wQ (by omega)]
       cases hq:yT l[k] e.1 e.2.1 with
       | true=>exact .inr ⟨_,hst true hq,k,rfl,by omega,e2,λ_=>hq⟩
       | false =>
        refine .inl ⟨_,hst false hq,rfl,λx hx=>?_⟩;rw[take_add_one,List.getElem?_eq_getElem hk]at hx;rcases mem_append.1 hx with hx|hx
        · exact e2 x hx
        · simp at hx;rw[hx];exact hq)
      (λz ⟨e1,e2⟩=>by
       subst e1;refine⟨_,?_,l.length,rfl,Nat.le_refl _,e2,λhk=>absurd hk (by omega)⟩;show aZ l e (l.length:Int)=_
       unfold aZ;rw[x7 (by omega),cF,wC,cF]) (x:=0) ⟨rfl,by simp⟩
     subst d2;have c1:cut l 0 (k:Int)=some (l.take k):=by
      have:=A5 (l:=l) (a:=0) (b:=k) (by omega) d3;simpa using this
     have c2:cut l (k:Int) (l.length:Int)=some (l.drop k):=by
      have:=A5 (l:=l) (a:=k) (b:=l.length) d3 (Nat.le_refl _);rw[take_length]at this;exact this
     have hl1:(l.take k).length<=12:=by rw[length_take];omega
     have hl2:(l.drop k).length<=12:=by rw[length_drop];omega
     refine⟨_,xJ d1 (by rw[c1,wC,DO (by omega),wC,wO (by show (l.take k).length+1<=_;omega),wC,c2,wC,wO (by rw[length_append];show (l.take k).length+1+(l.drop k).length<=_;omega),wC]),?_⟩;refine⟨λx hx=>?_,?_,?_⟩
     · rcases mem_append.1 hx with hx|hx
       · rcases mem_append.1 hx with hx|hx
         · exact h.e x (mem_of_mem_take hx)
         · rw[mem_singleton.1 hx];exact he
       · exact h.e x (mem_of_mem_drop hx)
     · have ho:=h.o;rw[←List.take_append_drop k l]at ho;obtain⟨o1,o2,o3⟩:=pairwise_append.1 ho;have a1:∀x∈l.take k,lt x e:=λx hx=>KS (d4 x hx) (h2 x (mem_of_mem_take hx))
       have a2:∀y∈l.drop k,lt e y:=λy hy=>by
        obtain⟨j,hj,rfl⟩:=getElem_of_mem hy;rw[length_drop]at hj;have hk:k<l.length:=by omega
        have hb:lt e l[k]:=IB (d5 hk);rw[List.getElem_drop];rcases Nat.eq_zero_or_pos j with rfl|hj0
        · simpa using hb
        · exact Ut hb (pairwise_iff_getElem.1 h.o k (k+j) hk (by omega) (by omega))
       refine pairwise_append.2 ⟨pairwise_append.2 ⟨o1,List.pairwise_singleton _ _,λx hx y hy=>by rw[mem_singleton.1 hy];exact a1 x hx⟩,o2,λx hx y hy=>?_⟩;rcases mem_append.1 hx with hx|hx
       · exact o3 x hx y hy
       · rw[mem_singleton.1 hx];exact a2 y hy
     · simp only[length_append,length_take,length_drop,length_singleton];omega
 · rw[h1,dT (by omega),cT,ym hk,wC,List.getElem?_eq_getElem hk,wC];refine⟨_,rfl,λx hx=>?_,?_,by show (l.set k e).length<=12;rw[length_set];exact hn⟩
   · rcases List.mem_or_eq_of_mem_set hx with hx|rfl
     · exact h.e x hx
     · exact he
   · have ho:=pairwise_iff_getElem.1 h.o;refine pairwise_iff_getElem.2 λi j hi hj hij=>?_;rw[length_set]at hi hj;have:=ho i j hi hj hij
     simp only[List.getElem_set];unfold lt at this ⊢;split<;>split<;>rename_i q1 q2<;>(try subst q1)<;>(try subst q2)<;>omega
theorem NO {l:List wJ} (h:FB l) (tag mac port:Int):∃y,dN l tag mac port=some y/\FB y:=by
 have hn:=h.n;have hM:M=1048576:=rfl
 unfold dN;rw[FA (by omega),wC,T6 (by omega),wC,h.ok,Bool.not_true,cF,MJ,wC,wC];have hc:∃y,((bN l).bind λt41=>some t41)=some y/\FB y:=⟨l,by rw[DO (by omega)];rfl,h⟩
 cases he:C4 (tag,mac,port,0,false)with
 | false=>exact hc
 | true =>
  have hp:∃y,((cD l (tag,mac,port,0,false)).bind λt45=>some t45.1)=some y/\FB y:=by
   obtain⟨y,y1,y2⟩:=Yd h he;exact⟨y.1,by rw[y1];rfl,y2⟩
  rw[Bool.not_true,cF];rcases BZ l tag mac with ⟨h1,_⟩|⟨k,hk,h1,_⟩
  · rw[h1,dF (by decide),cF,wC,wC,cF];exact hp
  · rw[h1,dT (by omega),cT,wU hk,wC,wC,wC];cases l[k].2.2.2.2 with
    | true=>exact hc
    | false=>exact hp

def E7 (f:yE):Bool:=wL f.1 0 9999&&(wL f.2.1 1 9999&&(wL f.2.2.1 0 99&&decide ((f.2.2.2.length:Int)<=20)))
theorem NP (f:yE):eS f=some (E7 f):=by
 unfold eS E7;simp only[zQ,wC];cases wL f.1 0 9999<;>cases wL f.2.1 1 9999<;>cases wL f.2.2.1 0 99<;>rfl
theorem JU (l:List wY) (id:Int):(yV l id<0)\/∃k,∃hk:k<l.length,yV l id=(k:Int):=by
 by_cases h:yV l id<0
 · exact .inl h
 · obtain⟨k,hk,e,_⟩:=DB (l:=l) (id:=id) (by omega);exact .inr ⟨k,hk,e⟩
theorem RO {v:xO} (h1:v.1.length<=6) (h2:v.2.length<=6) {k:Nat} (hk:k<6) (id:Int):∃t,((ai v id).bind λt27=>(cond (decide (t27<0)) (some true) ((at? v.1 t27).bind λx34=>(ap x34.2.1 (k:Int)).bind λt38=>some (!t38))).bind λt40=>cond t40 (some ((0:Int),false)) (some (id,true)))=some t:=by
 rw[Ea (by omega),wC];rcases JU v.1 id with h|⟨j,hj,e⟩
 · rw[dT h,cT,wC,cT];exact⟨_,rfl⟩
 · obtain⟨t,ht,_⟩:=HO v.1[j].2.1 hk;rw[e,dF (by omega),cF,wU hj,wC,ht,wC,wC];cases t<;>exact⟨_,rfl⟩
theorem NQ {v:xO} (h1:v.1.length<=6) (h2:v.2.length<=6) {k:Nat} (hk:k<v.2.length) (tag:Int):∃t,dM v (k:Int) tag=some t:=by
 unfold dM;rw[xq (by omega) (by omega),zQ,wC,Dc (by omega) (by omega),Bool.not_true,cF];cases tag==0 with
 | true=>rw[cT,wU hk,wC];exact RO h1 h2 (by omega) _
 | false=>rw[cF];exact RO h1 h2 (by omega) _
theorem LE {v:xO} (h1:v.1.length<=6) (id:Int):∃t,bp v id=some t:=by
 unfold bp;rw[Ea (by omega),wC];rcases JU v.1 id with h|⟨j,hj,e⟩
 · rw[dT h,cT];exact⟨_,rfl⟩
 · rw[e,dF (by omega),cF,wU hj,wC];exact⟨_,rfl⟩
theorem NR {v:xO} (h1:v.1.length<=6) (id:Int) {k:Nat} (hk:k<6):∃t,bq v id (k:Int)=some t:=by
 unfold bq;rw[Ea (by omega),wC];rcases JU v.1 id with h|⟨j,hj,e⟩
 · rw[dT h,cT,wC,cT];exact⟨_,rfl⟩
 · obtain⟨t,ht,_⟩:=HO v.1[j].2.2 hk;rw[e,dF (by omega),cF,wU hj,wC,ht,wC,wC];cases t<;>exact⟨_,rfl⟩
theorem TJ {l:List wJ} (h:l.length<=12) (tag mac:Int):∃t,dO l tag mac=some t:=by
 unfold dO;rw[FA (by omega),wC];rcases BZ l tag mac with ⟨h1,_⟩|⟨k,hk,h1,_⟩
 · rw[h1];exact⟨_,rfl⟩
 · rw[h1,dF (by omega),cF,wU hk,wC];exact⟨_,rfl⟩
theorem T1 {f:yE} (h:f.2.2.2.length<=20) (t:Int):bY f t=some (f.1,f.2.1,t,f.2.2.2):=by
 unfold bY;rw[Ci (by show _<=1048576;omega)];rfl
theorem VL {b:wD} (h:xE b) (i:Int) {f:yE} (hf:f.2.2.2.length<=20) (c:Int) (cl:Int×Bool) (q:Int->Option Bool) (hq:∀k,∃t,q k=some t) {k:Nat} (hk:k<b.2.2.1.length) {out:List xm} (ho:out.length<=10) :
 ∃o:List xm,o.length<=out.length+1/\(((cond ((k:Int) != i) ((bp (b.2.2.2.2.1,b.2.2.2.2.2.1) cl.1).bind λt89=>(ap (zc .i64 c t89) (k:Int)).bind λt92=>some t92) (some false)).bind λt93 =>
  (cond t93 ((q (k:Int)).bind λt101=>some t101) (some false)).bind λt102 =>
  cond t102 ((bq (b.2.2.2.2.1,b.2.2.2.2.2.1) cl.1 (k:Int)).bind λt110=>(bY f t110).bind λt111=>(app out [((k:Int),t111.1,t111.2.1,t111.2.2.1,t111.2.2.2)]).bind λzs114=>some (.inl (wE ((k:Int)+1),zs114)))
   (some (.inl (wE ((k:Int)+1),out)))):Option ((Int×List xm)⊕List xm))=some (.inl (((k+1:Nat):Int),o)):=by
 have s:=h.sok;have hv:=s.v
 have hn:=h.n6;obtain⟨e,he⟩:=LE (v:=(b.2.2.2.2.1,b.2.2.2.2.2.1)) hv cl.1;obtain⟨t,ht,_⟩:=HO (zc .i64 c e) (k:=k) (by omega);obtain⟨u,hu⟩:=hq (k:Int);obtain⟨g,hg⟩:=NR (v:=(b.2.2.2.2.1,b.2.2.2.2.2.1)) hv cl.1 (k:=k) (by omega);have no:∃o:List xm,o.length<=out.length+1/\(some (.inl (wE ((k:Int)+1),out)):Option ((Int×List xm)⊕List xm))=some (.inl (((k+1:Nat):Int),o)):=⟨out,by omega,by rw[wQ (by omega)]⟩
 rw[wQ (by omega)]at no ⊢;rw[he,wC,ht,wC,hu,wC,hg,wC,T1 hf,wC,wO (by show out.length+1<=_;omega),wC];cases (k:Int) != i<;>cases t<;>cases u<;>first|exact no|exact⟨_,by rw[length_append];exact Nat.le_refl _,rfl⟩
theorem Po {b:wD} (hn:b.2.2.1.length<=6) (step:Int×List xm->Option ((Int×List xm)⊕List xm))
 (hs:∀(k:Nat) (out:List xm),k<b.2.2.1.length->out.length<=10->∃o:List xm,o.length<=out.length+1/\step ((k:Int),out)=some (.inl (((k+1:Nat):Int),o)))
 (he:∀out:List xm,step ((b.2.2.1.length:Int),out)=some (.inr out)):∃o:List xm,loop step (0,[])=some o/\o.length<=6:=by
 obtain⟨v,h1,h2⟩:=xi (step:=step) (λk z=>z.1=(k:Int)/\z.2.length<=k) b.2.2.1.length (λv=>v.length<=6)
  (λk z hk ⟨e1,e2⟩=>by
   obtain⟨i,out⟩:=z;simp only at e1 e2;subst e1;obtain⟨o,o1,o2⟩:=hs k out hk (by omega);exact .inl ⟨_,o2,rfl,by show o.length<=k+1;omega⟩)
  (λz ⟨e1,e2⟩=>by
   obtain⟨i,out⟩:=z;simp only at e1 e2;subst e1;exact⟨out,he out,by omega⟩) (x:=(0,[])) ⟨rfl,Nat.le_refl _⟩
 exact⟨v,h1,h2⟩
theorem KT {b:wD} (s:AJ b) {F:List wJ} (hF:FB F) {d v:Int} (hd:wL d 0 1000000=true) (hv:wL v 0 1000000=true):AJ (b.1,b.2.1,b.2.2.1,F,b.2.2.2.2.1,b.2.2.2.2.2.1,b.2.2.2.2.2.2.1,b.2.2.2.2.2.2.2.1,b.2.2.2.2.2.2.2.2.1,d,v):=by
 refine⟨s.id,s.name,s.n1,s.n6,s.p,hF.ok,?_,s.q,s.v,s.s,s.i,s.h⟩;obtain⟨q1,q2,q3,q4,q5⟩:=A2 s.c;unfold zm;simp only[aT];exact⟨q1,q2,q3,hd,hv⟩
theorem Xb {a:wW} (h:zD a) {b:wD} (hb:xE b):zD (yv b (aW a) (wG a) (zl a) (xn a)):=⟨hb,h.w,h.n,h.lo,h.la,h.ids,h.up,h.j⟩
theorem D9 {b:List Int} (t:Int) {body:List Int} (hb:b.length<=1200) (hn:body.length<=M):az b t body=some (b++if wL t 0 255=true/\body.length<=250 then xS t body else []):=by
 have hM:M=1048576:=rfl;unfold az;rw[zR (by omega),wC,Cz,wC];cases hp:wL t 0 255 with
 | false=>rw[Bool.not_false,cT,wC,cT,if_neg (λh=>by cases h.1),append_nil]
 | true =>
  rw[Bool.not_true,cF,wC];by_cases h250:body.length<=250
  · have hw:IntKind.u8.wrap t=t:=by obtain⟨a,c⟩:=xI hp;rw[w8];omega
    have hl:IntKind.u8.wrap ((body.length:Int))=(body.length:Int):=by rw[w8];omega
    rw[dF (by omega),cF,hw,hl,if_pos ⟨rfl,h250⟩,wO (by show b.length+1<=_;omega),wC];by_cases h127:(body.length:Int)>127
    · rw[dT h127,cT,wO (by rw[length_append];show b.length+1+1<=_;omega),wC,wO (by simp only[length_append,length_singleton];omega),wC,wO (by simp only[length_append,length_singleton];omega),wC];unfold xS;rw[if_pos (by omega)];simp
    · rw[dF h127,cF,wO (by simp only[length_append,length_singleton];omega),wC,wO (by simp only[length_append,length_singleton];omega),wC];unfold xS;rw[if_neg (by omega)];simp
  · rw[dT (by omega),cT,if_neg (λh=>h250 h.2),append_nil]
theorem Pp {o:List Int} (h:A6 o=true):fS o=some (xx o):=by
 obtain⟨o1,o2,o3⟩:=Cw h;have hM:M=1048576:=rfl
 unfold fS;rw[Oi,HL (by omega),wC,h,Bool.not_true,cF];obtain⟨v,e1,rfl⟩:=xi (step:=λz:Int×List Int=>cO o z.1 z.2) (λk z=>z=((k:Int),xx (o.take k))) o.length (λv=>v=xx o)
  (λk z hk e=>by
   subst e;have hx:=o3 _ (getElem_mem hk)
   have hl:(xx (o.take k)).length<=3*(o.take k).length:=CW λx hx=>(o3 x (mem_of_mem_take hx)).2;rw[length_take]at hl;have hg:=LO o[k]
   refine .inl ⟨_,?_,rfl⟩;show cO o (k:Int) _=_
   unfold cO;rw[xk (by omega),cT,wU hk,wC,To ⟨hx.1,by omega⟩,wC,wO (by show (xx (o.take k)).length+(grp o[k]).length<=_;omega),wC,wQ (by omega),take_add_one,List.getElem?_eq_getElem hk];unfold xx;rw[flatMap_append];simp)
  (λz e=>by
   subst e;refine⟨_,?_,rfl⟩;show cO o (o.length:Int) _=_
   unfold cO;rw[x7 (by omega),cF,take_length]) (x:=(0,[])) rfl
 have e1:loop (λz=>cO o z.1 z.2) (0,([]:List Int))=some (xx o):=e1;rw[e1];rfl
theorem Uu {b:List Int} (hb:b.length<=1000) {v:zH} (h:AS v=true):ip b v=some (b++xS v.1 (zr v)):=by
 have hM:M=1048576:=rfl;obtain⟨l1,l2⟩:=HA h;have hk:wL v.1 0 255=true:=by
  unfold AS at h;by_cases c1:(v.1==5||(v.1==128||v.1==130))=true
  · simp only[Bool.or_eq_true,beq_iff_eq]at c1;rcases c1 with c|c|c<;>rw[c]<;>rfl
  · rw[show (v.1==5||(v.1==128||v.1==130))=false by simpa using c1,cF]at h;by_cases c2:v.1=2
    · rw[c2];rfl
    · rw[beq_eq_false_iff_ne.2 c2,cF]at h;by_cases c4:v.1=4
      · rw[c4];rfl
      · rw[beq_eq_false_iff_ne.2 c4,cF]at h;by_cases c6:v.1=6
        · rw[c6];rfl
        · rw[beq_eq_false_iff_ne.2 c6,cF]at h;cases h
 have fin:∀body,zr v=body->az b v.1 body=some (b++xS v.1 (zr v)):=λbody e=>by
  subst e;rw[D9 _ (by omega) (by omega),if_pos ⟨hk,by omega⟩]
 have ho6:v.2.2.2.length<=M:=by
  unfold AS at h;by_cases c6:v.1=6
  · rw[c6]at h;simp only[show ((6:Int)==5)=false from rfl,show ((6:Int)==128)=false from rfl,show ((6:Int)==130)=false from rfl,Bool.or_self,cF,show ((6:Int)==2)=false from rfl,show ((6:Int)==4)=false from rfl,show ((6:Int)==6)=true from rfl,cT,aT]at h;have:=LB h.1
    omega
  · have:v.2.2.2.length=0:=by
     revert h
     cases (v.1==5||(v.1==128||v.1==130))with
     | true=>intro h;simp only[cT,aT,beq_iff_eq]at h;omega
     | false =>
      rw[cF];cases (v.1==2)with
      | true=>intro h;simp only[cT,aT,beq_iff_eq]at h;omega
      | false =>
       rw[cF];cases (v.1==4)with
       | true=>intro h;simp only[cT,aT,beq_iff_eq]at h;omega
       | false=>intro h;rw[cF,beq_eq_false_iff_ne.2 c6]at h;cases h
    omega
 unfold ip;rw[LK ho6,wC,h,Bool.not_true,cF];by_cases h2:v.1=2
 · have e:zr v=yw v.2.1:=by unfold zr;rw[beq_iff_eq.2 h2];rfl
   have hr:-2147483648<=v.2.1/\v.2.1<=2147483647:=by
    unfold AS at h;rw[h2]at h;simp only[show ((2:Int)==5)=false from rfl,show ((2:Int)==128)=false from rfl,show ((2:Int)==130)=false from rfl,Bool.or_self,cF,show ((2:Int)==2)=true from rfl,cT,aT]at h;exact xI h.1
   rw[beq_iff_eq.2 h2,cT,H7,wC,DR hr,fin _ e];rfl
 rw[beq_eq_false_iff_ne.2 h2,cF];by_cases h4:v.1=4
 · have e:zr v=Bc v.2.2.1:=by unfold zr;rw[beq_eq_false_iff_ne.2 h2,beq_iff_eq.2 h4];rfl
   rw[beq_iff_eq.2 h4,cT,fin _ e];rfl
 rw[beq_eq_false_iff_ne.2 h4,cF];by_cases h6:v.1=6
 · have e:zr v=xx v.2.2.2:=by unfold zr;rw[beq_eq_false_iff_ne.2 h2,beq_eq_false_iff_ne.2 h4,beq_iff_eq.2 h6];rfl
   have ho:A6 v.2.2.2=true:=by
    unfold AS at h;rw[h6]at h;simp only[show ((6:Int)==5)=false from rfl,show ((6:Int)==128)=false from rfl,show ((6:Int)==130)=false from rfl,Bool.or_self,cF,show ((6:Int)==2)=false from rfl,show ((6:Int)==4)=false from rfl,show ((6:Int)==6)=true from rfl,cT,aT]at h;exact h.1
   rw[beq_iff_eq.2 h6,cT,Pp ho,wC,fin _ e];rfl
 · have e:zr v=[]:=by unfold zr;rw[beq_eq_false_iff_ne.2 h2,beq_eq_false_iff_ne.2 h4,beq_eq_false_iff_ne.2 h6];rfl
   rw[beq_eq_false_iff_ne.2 h6,cF,fin _ e];rfl
theorem VM {l:List wF} (hx:∀x∈l,BJ x=true) (hn:l.length<=10):iq l=some (xP l):=by
 have hM:M=1048576:=rfl;have hlen:∀k,(xP (l.take k)).length<=110*k:=λk=>by
  induction k with
  | zero=>simp[xP]
  | succ k ih =>
   rw[take_add_one];unfold xP at ih ⊢;rw[flatMap_append,length_append];cases hk:l[k]? with
   | none=>show (List.flatMap Cx (l.take k)).length+0<=_;omega
   | some x =>
    have:=(Ge (hx x (List.mem_of_getElem? hk))).2;show (List.flatMap Cx (l.take k)).length+(Cx x++[]).length<=_
    rw[append_nil];omega
 unfold iq;obtain⟨v,e1,rfl⟩:=xi (step:=λz:Int×List Int=>cP l z.1 z.2) (λk z=>z=((k:Int),xP (l.take k))) l.length (λv=>v=xP l)
  (λk z hk e=>by
   subst e;have hxk:=hx _ (getElem_mem hk)
   have hl:=hlen k;obtain⟨b1,b2⟩:=Ge hxk;have hxk':=hxk
   unfold BJ at hxk';rw[aT]at hxk';obtain⟨o1,o2,o3⟩:=Cw hxk'.1;have ho:=CW (o:=l[k].1) λy hy=>(o3 y hy).2
   have ht:=zf 6 (body:=xx l[k].1);refine .inl ⟨_,?_,rfl⟩;show cP l (k:Int) _=_
   unfold cP;rw[xk (by omega),cT,wU hk,wC,Pp hxk'.1,wC,D9 _ (by simp) (by omega),if_pos ⟨by decide,by omega⟩,wC,wC,nil_append,Uu (by omega) hxk'.2,wC,D9 _ (by show (xP (l.take k)).length<=1200;omega) (by show (Ft l[k]).length<=_;omega),if_pos ⟨by decide,by show (Ft l[k]).length<=250;omega⟩,wC,wQ (by omega),take_add_one,List.getElem?_eq_getElem hk];unfold xP;rw[flatMap_append];simp[Cx,Ft])
  (λz e=>by
   subst e;refine⟨_,?_,rfl⟩;show cP l (l.length:Int) _=_
   unfold cP;rw[x7 (by omega),cF,take_length]) (x:=(0,[])) rfl
 have e1:loop (λz=>cP l z.1 z.2) (0,([]:List Int))=some (xP l):=e1;rw[e1];rfl
theorem Uv {p:xg} (hp:zk M p):ir p=some (JR p):=by
 have hM:M=1048576:=rfl;unfold ir JR;rw[QL hp,wC];cases hk:yK p with
 | false=>rw[Bool.not_false,cT,if_neg (λh=>by cases h.1)]
 | true =>
  obtain⟨k1,k2,k3,k4,k5,k6⟩:=A1 hk;have i1:=B2 p.2.1
  have i2:=B2 p.2.2.1;have i3:=B2 p.2.2.2.1
  have t1:=zf 2 (body:=yw p.2.1);have t2:=zf 2 (body:=yw p.2.2.1)
  have t3:=zf 2 (body:=yw p.2.2.2.1);rw[Bool.not_true,cF];unfold jH;rw[VM k1 k2,wC];by_cases ha:(xP p.2.2.2.2).length<=250
  · rw[dF (by omega),cF,H7,wC,DR k4,D9 _ (by simp) (by omega),if_pos ⟨by decide,by omega⟩,wC,H7,wC,DR (by omega),D9 _ (by simp only[nil_append];omega) (by omega),if_pos ⟨by decide,by omega⟩,wC,H7,wC,DR (by omega),D9 _ (by simp only[nil_append,length_append];omega) (by omega),if_pos ⟨by decide,by omega⟩,wC,D9 _ (by simp only[nil_append,length_append];omega) (by omega),if_pos ⟨by decide,ha⟩,wC];have eb:([]++xS 2 (yw p.2.1)++xS 2 (yw p.2.2.1)++xS 2 (yw p.2.2.2.1)++xS 48 (xP p.2.2.2.2))=Aj p:=by unfold Aj;simp
    rw[eb];have t4:=zf 48 (body:=xP p.2.2.2.2)
    have hbl:(Aj p).length<=400:=by unfold Aj;simp only[length_append];omega
    by_cases hb:(Aj p).length<=250
    · simp only[wC,dT (show ((Aj p).length:Int)<=250 by omega),Bool.not_true,cF];rw[D9 _ (by simp) (by omega),if_pos ⟨k3,hb⟩,if_pos ⟨trivial,ha,hb⟩,wC,nil_append]
    · simp only[wC,dF (show ¬((Aj p).length:Int)<=250 by omega),Bool.not_false,cT];rw[if_neg (λh=>hb h.2.2)]
  · rw[dT (by omega),cT,wC,Bool.not_false,cT,if_neg (λh=>ha h.2.1)]
theorem TK {α β:Type} (l:List α) (i:Int) (f:α->Option β):((ix l.length i).bind λj=>(l[j]?).bind f)=(at? l i).bind f:=by
 unfold ix at?;by_cases h0:0<=i
 · rw[if_pos h0,if_pos h0];by_cases h1:i<(l.length:Int)
   · rw[if_pos h1,wC]
   · rw[if_neg h1,List.getElem?_eq_none (by omega)];rfl
 · rw[if_neg h0,if_neg h0];rfl
theorem VN:jV=eH:=rfl
theorem T2:cR=aF:=rfl
theorem Xc {b:wD} (h:Af b) (o:List Int):iH b o=aX b o:=by
 unfold iH aX;rw[Ob h];cases bD b with
 | none=>rfl
 | some l =>
  have hs:(λz:Int×Int×Int×List UInt8×List Int×List Int=>jW o l z.1 z.2.1 z.2.2.1 z.2.2.2.1 z.2.2.2.2.1 z.2.2.2.2.2)=λz=>bW o l z.1 z.2.1 z.2.2.1 z.2.2.2.1 z.2.2.2.2.1 z.2.2.2.2.2:=by
   funext z
   unfold jW bW;simp only[TK,VN];cases at? l z.1<;>rfl
  rw[wC,wC,hs];unfold aS;simp only[Option.bind_assoc,wC]
theorem Ye {b:wD} (h:Af b) (o:List Int):iJ b o=bV b o:=by
 unfold iJ bV;rw[Ob h];cases bD b with
 | none=>rfl
 | some l =>
  have hs:(λz:Int×Int×Int×List UInt8×List Int=>jX o l z.1 z.2.1 z.2.2.1 z.2.2.2.1 z.2.2.2.2)=λz=>bn o l z.1 z.2.1 z.2.2.1 z.2.2.2.1 z.2.2.2.2:=by
   funext z
   unfold jX bn;simp only[TK,T2];cases at? l z.1<;>rfl
  rw[wC,wC,hs]
def HC (b:wD) (x:wF):Prop:=A6 x.1=true/\(x.2.1=130->yy b x.1=x)
theorem RP {b:wD} (h:xE b) {o:List Int} (ho:A6 o=true):HC b (yy b o):=by
 refine⟨A8 (H5 h ho),λhk=>?_⟩;obtain⟨_,h1⟩:=J2 h (o:=o) (by have:=Bu ho;omega);rcases h1 with ⟨h1,_⟩|⟨h1,h2⟩
 · exfalso;have hv:∀v:zH,Vl v->v.1≠130:=λv hv=>by cases hv<;>simp
   exact hv _ (Fz h _ h1).2 hk
 · rw[h1];exact h1
theorem KU {b:wD} {o:List Int} (ho:A6 o=true):HC b (o,5,0,[],[]):=⟨ho,λhk=>by have hk:(5:Int)=130:=hk;omega⟩
noncomputable def yj (b:wD) (l:List wF):List wF:=l.map λx=>yy b x.1
theorem RQ {b:wD} {x:wF} (h:HC b x):(cond (x.2.1==130) x (yy b x.1))=yy b x.1:=by
 cases hk:x.2.1==130 with
 | true=>rw[cT];exact (h.2 (by simpa using hk)).symm
 | false=>rfl
noncomputable def BA (b:wD):Nat->List wF×List wF->List wF×List wF
 | 0,s=>s
 | n+1,s=>if 0<s.2.length/\s.1.length<10 then BA b n (s.1++yj b s.2,yj b s.2)else s
theorem Qu {b:wD}:∀(n:Nat) {s:List wF×List wF},10<=s.1.length->BA b n s=s
 | 0,s,_=>rfl
 | n+1,s,h=>if_neg (by omega)
theorem RR {b:wD}:∀(n:Nat) {s:List wF×List (List Int)},10<=s.1.length->DK b n s=s
 | 0,s,_=>rfl
 | n+1,s,h=>if_neg (by omega)
theorem KV {b:wD}:∀(n:Nat) (out T:List wF),out.length<=10->(DK b n (out,T.map λx=>x.1)).1=(BA b n (out,T)).1.take 10
 | 0,out,T,h=>(take_of_length_le h).symm
 | n+1,out,T,h=>by
  by_cases hc:0<T.length/\out.length<10
  · have e1:DK b (n+1) (out,T.map λx=>x.1)=DK b n (Eh b (out,T.map λx=>x.1)):=if_pos (by simpa using hc);have e2:BA b (n+1) (out,T)=BA b n (out++yj b T,yj b T):=if_pos hc
    rw[e1,e2];by_cases hle:out.length+T.length<=10
    · have hm:C0 (out,T.map λx=>x.1)=T.length:=by unfold C0;simp only[length_map];omega
      have e3:Eh b (out,T.map λx=>x.1)=(out++yj b T,(yj b T).map λx=>x.1):=by
       unfold Eh yj;simp only[hm];rw[take_of_length_le (by simp),List.drop_of_length_le (by simp),append_nil,map_map,map_map,map_map];rfl
      rw[e3];exact KV n _ _ (by rw[length_append];unfold yj;rw[length_map];omega)
    · have hm:C0 (out,T.map λx=>x.1)=10-out.length:=by unfold C0;simp only[length_map];omega
      have hl1:(Eh b (out,T.map λx=>x.1)).1.length=10:=by
       show (out++((T.map λx=>x.1).take (C0 (out,T.map λx=>x.1))).map (yy b)).length=10;rw[hm,length_append,length_map,length_take,length_map];omega
      rw[RR n (by omega),Qu n (by show 10<=(out++yj b T).length;rw[length_append];unfold yj;rw[length_map];omega)];show out++((T.map λx=>x.1).take (C0 (out,T.map λx=>x.1))).map (yy b)=(out++yj b T).take 10
      rw[hm,List.take_append,take_of_length_le h];unfold yj;rw[←List.map_take,←List.map_take,map_map];rfl
  · have e1:DK b (n+1) (out,T.map λx=>x.1)=(out,T.map λx=>x.1):=if_neg (by simpa using hc);have e2:BA b (n+1) (out,T)=(out,T):=if_neg hc
    rw[e1,e2];exact (take_of_length_le h).symm

theorem Qv {p:xg} (hp:zk M p):ee p=some (yq p):=by
 unfold ee;rw[Uv hp,wC];show (ac ((JR p).length:Int) 1 120).bind _=_
 rw[Cz,wC];rfl
def named (l:List wF):List wF:=l.map λx=>(x.1,5,0,[],[])
theorem RS {l:List wF} (hn:l.length<=M):cW l=some (named l):=by
 have hM:M=1048576:=rfl;unfold cW named;refine xJ (Fu (g:=λx:wF=>((x.1,5,0,[],[]):wF)) hn (λk hk out ho=>?_) (λout=>?_)) rfl
 · show ge l (k:Int) out=_;unfold ge;rw[xk (by omega),cT,wU hk,wC,wO (by rw[ho];show k+1<=_;omega),wC,wQ (by omega)]
 · show ge l (l.length:Int) out=_;unfold ge;rw[x7 (by omega),cF]
theorem NS {b:wD} (h:xE b) {l:List wF} (hn:l.length<=1000) (hT:∀x∈l,HC b x):bx b l=some (yj b l):=by
 unfold bx yj;refine xJ (Fu (g:=λx:wF=>yy b x.1) (by show _<=1048576;omega) (λk hk out ho=>?_) (λout=>?_)) rfl
 · have hx:=hT _ (getElem_mem hk);have e:=RQ hx
   show gd b l (k:Int) out=_;unfold gd;rw[xk (by omega),cT,wU hk,wC,wC,wC,Xc h.w,(J2 h (by have:=Bu hx.1;omega)).1,wC,wQ (by omega)];cases hk':l[k].2.1==130 with
   | true =>
    rw[hk',cT]at e;rw[cT,wO (by rw[ho];show k+1<=_;omega),wC,←e]
   | false=>rw[cF,wO (by rw[ho];show k+1<=_;omega),wC]
 · show gd b l (l.length:Int) out=_;unfold gd;rw[x7 (by omega),cF]
theorem Qw {b:wD} (h:xE b) {l:List wF} (hT:∀x∈l,HC b x):∀x∈yj b l,HC b x:=by
 intro x hx;obtain⟨y,hy,rfl⟩:=mem_map.1 hx;exact RP h (hT y hy).1
theorem TL {b:wD} (h:xE b) {p:xg} (hB:p.2.2.2.1<=1000):∀(n i:Nat) (out T:List wF),T.length<=10->out.length<=10+10*i->(∀x∈T,HC b x)->((i+n:Nat):Int)=p.2.2.2.1->loop (λz=>bM b p z.1 z.2.1 z.2.2) (T,(i:Int),out)=some (BA b n (out,T)).1
 | 0,i,out,T,h1,h2,hT,e=>by
  refine xh ?_;show bM b p T (i:Int) out=_
  unfold bM;rw[x7 (by omega),cF,wC,cF,wC,cF];rfl
 | n+1,i,out,T,h1,h2,hT,e=>by
  by_cases hc:0<T.length/\out.length<10
  · have hnl:(yj b T).length=T.length:=by unfold yj;rw[length_map]
    refine xb (y:=(yj b T,((i+1:Nat):Int),out++yj b T)) ?_ ?_
    · show bM b p T (i:Int) out=_;unfold bM;rw[xk (by omega),cT,dT (by omega),wC,cT,xk (by omega),wC,cT,NS h (by omega) hT,wC,wO (by rw[hnl];omega),wC,wQ (by omega)]
    · rw[TL h hB n (i+1) _ _ (by rw[hnl];exact h1) (by rw[length_append,hnl];omega) (Qw h hT) (by omega),show BA b (n+1) (out,T)=BA b n (out++yj b T,yj b T)from if_pos hc]
  · refine xh ?_;show bM b p T (i:Int) out=_
    have e2:BA b (n+1) (out,T)=(out,T):=if_neg hc;rw[e2];unfold bM;rw[xk (by omega),cT];by_cases h1:0<T.length
    · rw[dT (by omega),wC,cT,x7 (by omega),wC,cF]
    · rw[dF (by omega),wC,cF,wC,cF]
theorem Mo {b:wD}:∀(n:Nat) (out T:List wF),T.length<=10->out.length<=20->(BA b n (out,T)).1.length<=20
 | 0,out,T,_,h=>h
 | n+1,out,T,hT,h=>by
  by_cases hc:0<T.length/\out.length<10
  · rw[show BA b (n+1) (out,T)=BA b n (out++yj b T,yj b T)from if_pos hc];have hnl:(yj b T).length=T.length:=by unfold yj;rw[length_map]
    exact Mo n _ _ (by omega) (by rw[length_append,hnl];omega)
  · rw[show BA b (n+1) (out,T)=(out,T)from if_neg hc];exact h
theorem VO {b:wD} (h:xE b) {p:xg} (hp:yK p=true):iI b p=some (AB b p):=by
 obtain⟨x1,x2,_,_,x5,x6⟩:=A1 hp;have hM:M=1048576:=rfl
 have hnl:(named p.2.2.2.2).length=p.2.2.2.2.length:=by unfold named;rw[length_map]
 have hTold:∀x∈named p.2.2.2.2,HC b x:=by
  intro x hx;obtain⟨y,hy,rfl⟩:=mem_map.1 hx;exact KU (A8 (x1 y hy))
 have hon:yn p<=p.2.2.2.2.length:=Nat.min_le_right _ _;have hout:yj b ((named p.2.2.2.2).take (yn p))=(p.2.2.2.2.take (yn p)).map (λx=>yy b x.1):=by
  unfold yj named;rw[←List.map_take,map_map];rfl
 have hlast:((named p.2.2.2.2).drop (yn p)).map (λx=>x.1)=(p.2.2.2.2.drop (yn p)).map (λx=>x.1):=by
  unfold named;rw[←List.map_drop,map_map];rfl
 have hol:(yj b ((named p.2.2.2.2).take (yn p))).length<=10:=by rw[hout,length_map,length_take];omega
 have hTl:((named p.2.2.2.2).drop (yn p)).length<=10:=by rw[length_drop];omega
 have hrun:=TL h (p:=p) (by omega) p.2.2.2.1.toNat 0 (yj b ((named p.2.2.2.2).take (yn p))) ((named p.2.2.2.2).drop (yn p)) hTl (by omega) (λx hx=>hTold x (mem_of_mem_drop hx)) (by omega);have hv:AB b p=(BA b p.2.2.2.1.toNat (yj b ((named p.2.2.2.2).take (yn p)),(named p.2.2.2.2).drop (yn p))).1.take 10:=by
  unfold AB Qo;rw[←hout,←hlast];exact KV _ _ _ hol
 have hlen:=Mo (b:=b) p.2.2.2.1.toNat _ _ hTl (show (yj b ((named p.2.2.2.2).take (yn p))).length<=20 by omega);have fin:∀k:Int,k=((yn p:Nat):Int)->((cW p.2.2.2.2).bind λt22 =>
  (yC t22.length 0 k).bind λq =>
  (bx b ((t22.take q.2).drop q.1)).bind λt27 =>
  (cut t22 k (t22.length:Int)).bind λt30 =>
  (loop (λz=>bM b p z.1 z.2.1 z.2.2) (t30,0,t27)).bind λd =>
  cond (decide ((d.length:Int)>10))
   ((yC d.length 0 10).bind λp_1 =>
   some ((d.take p_1.2).drop p_1.1))
   (some d))=some (AB b p):=by
  rintro k rfl;rw[RS (by omega),wC,show (0:Int)=((0:Nat):Int)from rfl,FC (by omega) (by rw[hnl];exact hon),wC];show (bx b (((named p.2.2.2.2).take (yn p)).drop 0)).bind _=_
  rw[drop_zero,NS h (by rw[length_take];omega) (λx hx=>hTold x (mem_of_mem_take hx)),wC,A5 (by rw[hnl];exact hon) (Nat.le_refl _),wC,take_length];refine xJ hrun ?_;rw[hv];generalize (BA b p.2.2.2.1.toNat (yj b ((named p.2.2.2.2).take (yn p)),(named p.2.2.2.2).drop (yn p))).1=d at hlen;by_cases hd:(d.length:Int)>10
  · rw[dT hd,cT,show (10:Int)=((10:Nat):Int)from rfl,FC (by omega) (by omega),wC];rfl
  · rw[dF hd,cF,take_of_length_le (by omega)]
 unfold iI;by_cases hc:p.2.2.1>(p.2.2.2.2.length:Int)
 · rw[dT hc,cT];exact fin _ (by unfold yn;omega)
 · rw[dF hc,cF];exact fin _ (by unfold yn;omega)
theorem RT (k i a c:Int) (bulk:Bool):∀(n:Nat) (l:List wF),l.length=n->n<=10->(∀x∈l,E8 M x) ->
 ∃t,loop (λz:xg=>ci bulk z.1 z.2.1 z.2.2.1 z.2.2.2.1 z.2.2.2.2) (k,i,a,c,l)=some (k,i,a,c,t)/\zk M (k,i,a,c,t) /\
  ((yq (k,i,a,c,l)=true/\t=l)\/(yq (k,i,a,c,l)=false/\((bulk=true/\yq (k,i,a,c,t)=true/\shr (λt=>yq (k,i,a,c,t)) n l=some t)\/(yq (k,i,a,c,t)=false/\(bulk=true->shr (λt=>yq (k,i,a,c,t)) n l=none)))))
 | n,l,hl,hn,hx=>by
  have hp:zk M (k,i,a,c,l):=⟨by show l.length<=1048576;omega,hx⟩;have hstep:∀q:Bool,yq (k,i,a,c,l)=q->ci bulk k i a c l=cond (bulk&&(!q&&decide ((l.length:Int)>0))) ((yC l.length 0 (wE ((l.length:Int)-1))).bind λp=>some (.inl (k,i,a,c,(l.take p.2).drop p.1))) (some (.inr (k,i,a,c,l))):=by
   intro q hq;unfold ci;rw[Qv hp,hq];cases bulk<;>cases q<;>rfl
  cases hf:yq (k,i,a,c,l)with
  | true =>
   refine⟨l,xh ?_,hp,.inl ⟨rfl,rfl⟩⟩;show ci bulk k i a c l=_
   rw[hstep true hf];cases bulk<;>rfl
  | false =>
   cases hb:bulk with
   | false =>
    subst hb;refine⟨l,xh ?_,hp,.inr ⟨rfl,.inr ⟨hf,(λh=>by cases h)⟩⟩⟩;show ci false k i a c l=_
    rw[hstep false hf];rfl
   | true =>
    subst hb
    match n,hl,hn with
    | 0,hl,hn =>
     refine⟨l,xh ?_,hp,.inr ⟨rfl,.inr ⟨hf,λ_=>rfl⟩⟩⟩;show ci true k i a c l=_
     rw[hstep false hf,dF (by omega)];rfl
    | n+1,hl,hn =>
     have hlt:(l.take n).length=n:=by rw[length_take];omega
     have hs:ci true k i a c l=some (.inl (k,i,a,c,l.take n)):=by
      rw[hstep false hf,dT (by omega)];show ((yC l.length 0 (wE ((l.length:Int)-1))).bind _)=_
      rw[xq (by omega) (by omega),show (l.length:Int)-1=((n:Nat):Int) by omega,show (0:Int)=((0:Nat):Int)from rfl,FC (by omega) (by omega),wC];rfl
     obtain⟨t,t1,t2,t3⟩:=RT k i a c true n (l.take n) hlt (by omega) (λx h=>hx x (mem_of_mem_take h));refine⟨t,xb hs t1,t2,.inr ⟨rfl,?_⟩⟩;rcases t3 with ⟨u1,rfl⟩|⟨u1,⟨_,u2,u3⟩|⟨u2,u3⟩⟩
     · exact .inl ⟨rfl,u1,if_pos u1⟩
     · exact .inl ⟨rfl,u2,by rw[show shr (λt=>yq (k,i,a,c,t)) (n+1) l=shr (λt=>yq (k,i,a,c,t)) n (l.take n)from if_neg (show ¬yq (k,i,a,c,l.take n)=true by rw[u1];simp)];exact u3⟩
     · exact .inr ⟨u2,λ_=>by rw[show shr (λt=>yq (k,i,a,c,t)) (n+1) l=shr (λt=>yq (k,i,a,c,t)) n (l.take n)from if_neg (show ¬yq (k,i,a,c,l.take n)=true by rw[u1];simp)];exact u3 rfl⟩
noncomputable def Fx (i a c:Int) (bulk:Bool) (l:List wF):xg :=
 cond (yq (162,i,a,c,l)) (162,i,a,c,l) (match cond bulk (shr (λt=>yq (162,i,a,c,t)) l.length l) none with|some t=>(162,i,a,c,t)|none=>(162,i,7,0,[]))
theorem NT (i a c:Int) (bulk:Bool) {l:List wF} (hn:l.length<=10) (hx:∀x∈l,E8 M x):cQ (162,i,a,c,l) bulk=some (Fx i a c bulk l):=by
 obtain⟨t,t1,t2,t3⟩:=RT 162 i a c bulk l.length l rfl hn hx;unfold cQ Fx;refine xJ t1 ?_;rw[Qv t2,wC];rcases t3 with ⟨u1,rfl⟩|⟨u1,⟨rfl,u2,u3⟩|⟨u2,u3⟩⟩
 · rw[u1,cT,cT]
 · rw[u1,u2,cT,cF,cT,u3]
 · rw[u1,u2,cF,cF];cases bulk with
   | true=>rw[cT,u3 rfl]
   | false=>rfl
theorem Xd {b:wD} (h:xE b) {p:xg} (hp:yK p=true) (h163:(p.1==163)=false) (hk:(p.1 != 162)=true):∃l,iK b p=some l/\C1 b p=(b,162,p.2.1,0,0,l)/\l.length<=10/\∀x∈l,E8 M x:=by
 obtain⟨x1,x2,_⟩:=A1 hp;have hM:M=1048576:=rfl
 unfold iK C1;cases h161:(p.1==161)with
 | true =>
  have h160:(p.1==160)=false:=by simp only[beq_iff_eq]at h161;rw[h161];rfl
  have hTold:∀x∈named p.2.2.2.2,HC b x:=by
   intro x hx;obtain⟨y,hy,rfl⟩:=mem_map.1 hx;exact KU (A8 (x1 y hy))
  have he:yj b (named p.2.2.2.2)=p.2.2.2.2.map λx=>yy b x.1:=by unfold yj named;rw[map_map];rfl
  simp only[cT,cF,h160];rw[RS (by omega),wC,NS h (by unfold named;rw[length_map];omega) hTold,wC,he];refine⟨_,rfl,rfl,by rw[length_map];exact x2,λx hx=>?_⟩;obtain⟨y,hy,rfl⟩:=mem_map.1 hx;exact zF (H5 h (A8 (x1 y hy)))
 | false =>
 cases h165:(p.1==165)with
 | true =>
  have h160:(p.1==160)=false:=by simp only[beq_iff_eq]at h165;rw[h165];rfl
  have hbk:=Pl h hp;simp only[cT,cF,h160];rw[VO h hp,wC];exact⟨_,rfl,rfl,hbk.o10,λx hx=>zF (hbk.oOk x hx)⟩
 | false =>
  have h160:(p.1==160)=true:=by
   rcases SV hp with e|e|e|e|e
   · rw[e];rfl
   · rw[e]at h161;cases h161
   · rw[e]at hk;cases hk
   · rw[e]at h163;cases h163
   · rw[e]at h165;cases h165
  simp only[cT,cF,h160];have e:loop (λz:Int×List wF=>ei b p z.1 z.2) (0,[])=some (p.2.2.2.2.map λx=>((x.1,Fv b x.1):wF)):=by
   refine Fu (by omega) (λk hk' out ho=>?_) (λout=>?_)
   · have hx:=Bu (A8 (x1 _ (getElem_mem hk')));show ei b p (k:Int) out=_
     unfold ei;rw[xk (by omega),cT,wU hk',wC,wO (by show 0+_<=_;omega),wC,wC,Ye h.w,(SR h (by omega)).1,wC,wO (by rw[ho];show k+1<=_;omega),wC,wQ (by omega)];rfl
   · show ei b p (p.2.2.2.2.length:Int) out=_;unfold ei;rw[x7 (by omega),cF]
  rw[e,wC];refine⟨_,rfl,rfl,by rw[length_map];exact x2,λx hx=>?_⟩;obtain⟨y,hy,rfl⟩:=mem_map.1 hx;exact zF (by unfold BJ;rw[A8 (x1 y hy),TC h (by have:=Bu (A8 (x1 y hy));omega)];rfl)
theorem OO {b:wD} {p:xg} {l:List wF} (ha:C1 b p=(b,162,p.2.1,0,0,l)) (hl:(p.1==165)=true->l=AB b p):AO b p=(b,Fx p.2.1 0 0 (p.1==165) l):=by
 unfold AO DA Fx;rw[ha];simp only;cases yq (162,p.2.1,0,0,l)with
 | true=>rfl
 | false =>
  rw[cF,cF];cases h165:(p.1==165)with
  | true=>rw[cT,cT,hl h165];cases shr (λt=>yq (162,p.2.1,0,0,t)) (AB b p).length (AB b p)<;>rfl
  | false=>rfl
theorem VP {b:wD} (h:xE b) {p:xg} (hp:yK p=true) (h163:(p.1==163)=true):ga b p=some (AO b p):=by
 have hxs:=Iz hp;have hM:M=1048576:=rfl
 have h10:=(A1 hp).2.1;obtain⟨r,r1,r2,_,_,r5⟩:=LN h.w h.le hxs;have hr:Gz b p.2.2.2.2=r:=by unfold Gz;rw[r1];rfl
 have h160:(p.1==160)=false:=by simp only[beq_iff_eq]at h163;rw[h163];rfl
 have h161:(p.1==161)=false:=by simp only[beq_iff_eq]at h163;rw[h163];rfl
 have h165:(p.1==165)=false:=by simp only[beq_iff_eq]at h163;rw[h163];rfl
 have ha:C1 b p=(r.1,162,p.2.1,r.2.1,r.2.2,p.2.2.2.2):=by unfold C1;rw[h160,h161,h165,hr];rfl
 have hless:DA b p=(b,162,p.2.1,7,0,[]):=by unfold DA;rw[h165];rfl
 unfold ga AO;rw[Ez hxs,wC,r2,wC,Qv (p:=(162,p.2.1,r.2.1,r.2.2,p.2.2.2.2)) ⟨hxs.1,hxs.2⟩,wC,ha,hless];simp only;have hb:∀q:Bool,yq (162,p.2.1,r.2.1,r.2.2,p.2.2.2.2)=q->((af b).bind λt36=>(cQ (162,p.2.1,r.2.1,r.2.2,p.2.2.2.2) false).bind λt38=>some (t36,t38))=some (b,cond q (162,p.2.1,r.2.1,r.2.2,p.2.2.2.2) (162,p.2.1,7,0,[])):=by
  intro q hq;rw[yB h.le,wC,NT _ _ _ _ h10 hxs.2,wC];unfold Fx;rw[hq];rfl
 cases hf:yq (162,p.2.1,r.2.1,r.2.2,p.2.2.2.2)with
 | false=>rw[Bool.not_false,cT,wC,cT,hb false hf];rfl
 | true =>
  rw[Bool.not_true,cF,wC];cases hc:(r.2.1 != 0)with
  | false=>rfl
  | true =>
   rw[cT,hb true hf];rcases r5 with ⟨r6,_⟩|⟨r6,_⟩
   · rw[r6]at hc;cases hc
   · rw[r6];rfl
theorem VQ {b:wD} (h:Af b) (hb:A4 M b) {p:xg} (hp:zk M p):iL b p=some (yJ b p):=by
 unfold iL jN yJ Fw;rw[Da h,wC,yB hb];cases hbr:xr b with
 | false=>rfl
 | true =>
 rw[cT,QL hp,wC,wC];cases hpp:yK p with
 | false=>rfl
 | true =>
 cases hk:(p.1 != 162)with
 | false=>rfl
 | true =>
 have hBO:=Db h hbr;simp only[Bool.and_true,cT,wC,Bool.not_true,cF];cases h163:(p.1==163)with
 | true=>rw[cT,VP hBO hpp h163,wC]
 | false =>
  obtain⟨l,e1,e2,e3,e4⟩:=Xd hBO hpp h163 hk;have hl:(p.1==165)=true->l=AB b p:=by
   intro h165;have h160:(p.1==160)=false:=by simp only[beq_iff_eq]at h165;rw[h165];rfl
   have h161:(p.1==161)=false:=by simp only[beq_iff_eq]at h165;rw[h165];rfl
   have:C1 b p=(b,162,p.2.1,0,0,AB b p):=by unfold C1;rw[h160,h161,h165];rfl
   rw[e2]at this;simpa using this
  rw[cF,e1,wC,Ez ⟨by show l.length<=1048576;omega,e4⟩,wC,NT _ _ _ _ e3 e4,wC,OO e2 hl]

theorem Qx {b:wD} {w:List UInt8} {l:List xl} {lo la:Int} {k:Nat} (hk:k<l.length) (hl:l.length<=M):e9 (yv b w l lo la) (k:Int)=some (yv b w (l.eraseIdx k) lo la):=by
 have hM:M=1048576:=rfl;have c1:yC l.length 0 (k:Int)=some (0,k):=by
  unfold yC;rw[if_pos (by omega),if_pos (by omega),if_pos (by omega)];simp
 have c2:yC l.length (wE ((k:Int)+1)) (l.length:Int)=some (k+1,l.length):=by
  rw[wQ (by omega)];unfold yC;rw[if_pos (by omega),if_pos (by omega),if_pos (by omega)];simp
 have c3:app ([]:List xl) ((l.take k).drop 0)=some (l.take k):=by
  rw[drop_zero,wO (by rw[length_take];show 0+_<=_;omega)];rfl
 have c4:app (l.take k) ((l.take l.length).drop (k+1))=some (l.eraseIdx k):=by
  rw[take_length,wO (by rw[length_take,length_drop];omega),←List.eraseIdx_eq_take_drop_succ]
 unfold e9 yv;simp only[c1,wC,c2,c3,c4]
theorem RU {b:wD} (hb:A4 M b) {w:List UInt8} {l:List xl} {lo la:Int} {k:Nat} (hk:k<l.length):fR (yv b w l lo la) (k:Int)=some (yv b w (l.set k (LD b l[k])) lo la):=by
 have cb:=yB hb;unfold fR yv;simp only[ym hk,wC];have cb':af (b.1,b.2.1,b.2.2.1,b.2.2.2.1,b.2.2.2.2.1,b.2.2.2.2.2.1,b.2.2.2.2.2.2.1,b.2.2.2.2.2.2.2.1,b.2.2.2.2.2.2.2.2.1,b.2.2.2.2.2.2.2.2.2.1,b.2.2.2.2.2.2.2.2.2.2)=some b:=cb
 simp only[cb',wC,List.getElem?_eq_getElem hk,length_set,ym hk,List.getElem?_set_self hk,set_set];rfl
theorem NU {n:Int} (h:wL n 0 1000000=true):aE n=some (B6 n):=by
 obtain⟨r,r1,r2,_⟩:=ML h;rw[r2,←r1,CO]
theorem T3 {b:wD} (hb:A4 M b) (hc:zm b=true) {w:List UInt8} {l:List xl} {lo la:Int} {k:Nat} (hk:k<l.length) (hl:l.length<=M) (h1:zE l[k].2.1) (h2:l[k].2.1.length<=M) :
 ea (yv b w l lo la) (k:Int)=some (cond ((xY w l[k].2.1).2==3) (yv (Gf b) w (l.eraseIdx k) lo la)
  (cond ((xY w l[k].2.1).2 != 0||((xY w l[k].2.1).1.1==162)) (yv (E6 b) w (l.eraseIdx k) lo la) (yv b w (l.set k (AC l[k].1 l[k].2.1 1 (xY w l[k].2.1).1 b 0 (xw l[k]))) lo la))):=by
 obtain⟨_,m1,m3,_⟩:=SS w h1 h2;obtain⟨_,hp,hw,_⟩:=A2 hc;unfold ea;have d1:=Qx (b:=Gf b) (w:=w) (lo:=lo) (la:=la) hk hl
 have d2:=Qx (b:=E6 b) (w:=w) (lo:=lo) (la:=la) hk hl;unfold Gf yv at d1;unfold E6 yv at d2;dsimp only[yv];simp only[ym hk,wC,List.getElem?_eq_getElem hk,m1,NU hp,NU hw];rw[d1,d2];have hs:k<(l.set k (AC l[k].1 l[k].2.1 l[k].2.2.1 (xY w l[k].2.1).1 (jB l[k]) (Aq l[k]) (xw l[k]))).length:=by rw[length_set];exact hk
 have e:=RU hb (w:=w) (lo:=lo) (la:=la) hs;unfold yv at e;have e2:LD b (l.set k (AC l[k].1 l[k].2.1 l[k].2.2.1 (xY w l[k].2.1).1 (jB l[k]) (Aq l[k]) (xw l[k])))[k]=AC l[k].1 l[k].2.1 1 (xY w l[k].2.1).1 b 0 (xw l[k]):=by
  rw[getElem_set_self];rfl
 rw[e2,set_set]at e;cases h0:((xY w l[k].2.1).2==0)with
 | true =>
  have h3:((xY w l[k].2.1).2==3)=false:=by
   have:(xY w l[k].2.1).2=0:=by simpa using h0
   rw[this];rfl
  have hn:((xY w l[k].2.1).2 != 0)=false:=by rw[bne,h0];rfl
  rw[h3,hn];simp only[cT,cF,wC,Bool.false_or,bne];cases ((xY w l[k].2.1).1.1==162)with
  | true=>rfl
  | false =>
   simp only[Bool.not_false,cT,cF];refine (congrArg (λo=>Option.bind o λt=>some t) e).trans ?_;rfl
 | false =>
  have hn:((xY w l[k].2.1).2 != 0)=true:=by rw[bne,h0];rfl
  rw[hn];simp only[cT,cF,wC,Bool.true_or];cases ((xY w l[k].2.1).2==3)<;>rfl
theorem T4 {b:wD} {w:List UInt8} {l:List xl} {lo la:Int} {k:Nat} (hk:k<l.length) (hl:l.length<=M) (p:xg):ed (yv b w l lo la) (k:Int) p=some (yv b w (l.eraseIdx k) lo la,[(l[k].1,p)]):=by
 have d:=Qx (b:=b) (w:=w) (lo:=lo) (la:=la) hk hl;have c0:ix (yv b w l lo la).2.2.2.2.2.2.2.2.2.2.2.2.1.length (k:Int)=some k:=ym hk
 have c1:(yv b w l lo la).2.2.2.2.2.2.2.2.2.2.2.2.1[k]?=some l[k]:=List.getElem?_eq_getElem hk;unfold ed;rw[c0,wC,c1,wC,d];rfl
theorem Qy (p:xg):Fx p.2.1 6 1 false p.2.2.2.2=BS p:=by
 unfold Fx BS;cases yq (162,p.2.1,6,1,p.2.2.2.2)<;>rfl
theorem Xe {b:wD} (hB:xE b) {w:List UInt8} {l:List xl} {lo la:Int} {k:Nat} (hk:k<l.length) (hl:l.length<=M) (hp:yK (jP l[k])=true) (h163:((jP l[k]).1==163)=true) :
 iF (yv b w l lo la) (k:Int)=some (cond (b.2.2.2.2.2.2.2.2.2.2==(jB l[k]).2.2.2.2.2.2.2.2.2.2) (yv (yJ b (jP l[k])).1 w (l.eraseIdx k) lo la,[(l[k].1,(yJ b (jP l[k])).2.1)])
  (cond (decide (xw l[k]>=3)) (yv b w (l.eraseIdx k) lo la,[(l[k].1,BS (jP l[k]))])
   (yv b w (l.set k (AC l[k].1 l[k].2.1 1 (jP l[k]) b 0 (wE (xw l[k]+1)))) lo la,[]))):=by
 have hk162:((jP l[k]).1 != 162)=true:=by
  have:(jP l[k]).1=163:=by simpa using h163
  rw[this];rfl
 obtain⟨_,r1,r2,_⟩:=IA hB hp hk162;have hxs:=Iz hp
 have h10:=(A1 hp).2.1;have s1:=VP hB hp h163
 have c0:ix (yv b w l lo la).2.2.2.2.2.2.2.2.2.2.2.2.1.length (k:Int)=some k:=ym hk;have c1:(yv b w l lo la).2.2.2.2.2.2.2.2.2.2.2.2.1[k]?=some l[k]:=List.getElem?_eq_getElem hk
 unfold iF;rw[c0,wC];simp only[c1,wC];show cond (b.2.2.2.2.2.2.2.2.2.2==(jB l[k]).2.2.2.2.2.2.2.2.2.2) _ _=_
 cases hv:(b.2.2.2.2.2.2.2.2.2.2==(jB l[k]).2.2.2.2.2.2.2.2.2.2)with
 | true =>
  rw[cT,cT];refine xJ (a:=AO b (jP l[k])) s1 ?_;have e:=T4 (b:=(AO b (jP l[k])).1) (w:=w) (lo:=lo) (la:=la) hk hl (AO b (jP l[k])).2
  rw[r1,r2];exact xJ e rfl
 | false =>
  rw[cF,cF];show cond (decide (xw l[k]>=3)) _ _=_
  cases hq:decide (xw l[k]>=3)with
  | true =>
   rw[cT,cT];refine xJ (Ez hxs) ?_;refine xJ (a:=BS (jP l[k])) ?_ ?_
   · have e:=NT (jP l[k]).2.1 6 1 false h10 hxs.2;rw[Qy]at e;exact e
   · exact xJ (T4 (b:=b) (w:=w) (lo:=lo) (la:=la) hk hl (BS (jP l[k]))) rfl
  | false =>
   simp only[cF];have hs:k<(l.set k (AC l[k].1 l[k].2.1 l[k].2.2.1 (jP l[k]) (jB l[k]) (Aq l[k]) (wE (xw l[k]+1)))).length:=by rw[length_set];exact hk
   have e:=RU hB.le (w:=w) (lo:=lo) (la:=la) hs;unfold yv at e;have e2:LD b (l.set k (AC l[k].1 l[k].2.1 l[k].2.2.1 (jP l[k]) (jB l[k]) (Aq l[k]) (wE (xw l[k]+1))))[k]=AC l[k].1 l[k].2.1 1 (jP l[k]) b 0 (wE (xw l[k]+1)):=by
    rw[getElem_set_self];rfl
   rw[e2,set_set]at e;refine (congrArg (λo=>Option.bind o λt=>some (t,([]:List xZ))) e).trans ?_;rfl
theorem Xf {a:wW} (h:zD a) {k:Nat} (hk:k<(wG a).length):iM a (k:Int)=some (BT a k (wG a)[k]):=by
 have hJ:=h.j _ (getElem_mem hk);have hn:(wG a).length<=M:=by have:=h.n;show _<=1048576;omega
 have e1:=T3 h.b.le (Bp h.b.ok).1 (w:=aW a) (l:=wG a) (lo:=zl a) (la:=xn a) hk hn hJ.byt hJ.len;have c0:ix a.2.2.2.2.2.2.2.2.2.2.2.2.1.length (k:Int)=some k:=ym hk
 have c1:a.2.2.2.2.2.2.2.2.2.2.2.2.1[k]?=some (wG a)[k]:=List.getElem?_eq_getElem hk;have e1:ea a (k:Int)=_:=e1
 unfold iM BT AD;rw[c0,wC];simp only[c1,wC];rcases NL hJ with hp|hp|hp
 · rw[hp];show ((ea a (k:Int)).bind _)=_
   rw[e1,wC];cases ((xY (aW a) (wG a)[k].2.1).2==3)with
   | true=>rfl
   | false=>cases ((xY (aW a) (wG a)[k].2.1).2 != 0||((xY (aW a) (wG a)[k].2.1).1.1==162))<;>rfl
 · rw[hp];simp only[show ((1:Int)==0)=false from rfl,show ((1:Int)==1)=true from rfl,show ((1:Int)==2)=false from rfl,cT,cF,wC];show cond (decide (Aq (wG a)[k]<((jP (wG a)[k]).2.2.2.2.length:Int))) _ _=_
   cases hd:decide (Aq (wG a)[k]<((jP (wG a)[k]).2.2.2.2.length:Int))with
   | true=>rw[cT];exact congrArg some (by simp only[cT];rfl)
   | false=>rw[cF];exact congrArg some (by simp only[cF];rfl)
 · obtain⟨q1,q2,q3⟩:=hJ.ok.resolve_left (by rw[hp];decide);rw[hp];simp only[show ((2:Int)==0)=false from rfl,show ((2:Int)==1)=false from rfl,show ((2:Int)==2)=true from rfl,cT,cF,wC];show cond ((jP (wG a)[k]).1==163) _ _=_
   cases h163:((jP (wG a)[k]).1==163)with
   | true =>
    have hb:((wG a)[k].2.2.2.1 != 163)=false:=by rw[bne,show ((wG a)[k].2.2.2.1==163)=true from h163];rfl
    simp only[hb,cT,cF];refine xJ (Xe (b:=aB a) h.b (w:=aW a) (lo:=zl a) (la:=xn a) hk hn q1 h163) ?_;cases ((aB a).2.2.2.2.2.2.2.2.2.2==(jB (wG a)[k]).2.2.2.2.2.2.2.2.2.2)with
    | true=>rfl
    | false=>cases decide (xw (wG a)[k]>=3)<;>rfl
   | false =>
    have hb:((wG a)[k].2.2.2.1 != 163)=true:=by rw[bne,show ((wG a)[k].2.2.2.1==163)=false from h163];rfl
    simp only[hb,cT,cF];refine xJ (a:=yJ (jB (wG a)[k]) (jP (wG a)[k])) (VQ hJ.bw hJ.bl hJ.pl) ?_;exact xJ (T4 (b:=aB a) (w:=aW a) (lo:=zl a) (la:=xn a) hk hn (yJ (jB (wG a)[k]) (jP (wG a)[k])).2.1) rfl
theorem VR {a:wW} (h:zD a) {k:Nat} (hk:k<(wG a).length):dj a (k:Int)=some (BT a k (wG a)[k]):=by
 have hn:=h.n;unfold dj;rw[EA h.ale,wC,Lc h.awf,wC,h.ok,Bool.not_true,cF];have hw:wE ((a.2.2.2.2.2.2.2.2.2.2.2.2.1.length:Int)-1)=((wG a).length:Int)-1:=xq (by show -9223372036854775808<=((wG a).length:Int)-1;omega) (by show ((wG a).length:Int)-1<=_;omega)
 rw[hw,Cz,wC,Dc (by omega) (by omega),wC,Bool.not_true,cF,Xf h hk,wC]
theorem Uw {a:wW} (h:zD a) {k:Int} (hk:k<0\/((wG a).length:Int)<=k):dj a k=some (a,[]):=by
 have hn:=h.n;unfold dj;rw[EA h.ale,wC,Lc h.awf,wC,h.ok,Bool.not_true,cF];have hw:wE ((a.2.2.2.2.2.2.2.2.2.2.2.2.1.length:Int)-1)=((wG a).length:Int)-1:=xq (by show -9223372036854775808<=((wG a).length:Int)-1;omega) (by show ((wG a).length:Int)-1<=_;omega)
 have hp:wL k 0 (((wG a).length:Int)-1)=false:=by
  unfold wL;rcases hk with hk|hk
  · rw[dF (by omega)];rfl
  · rw[dF (show ¬k<=((wG a).length:Int)-1 by omega),Bool.and_false]
 rw[hw,Cz,wC,hp,wC,Bool.not_false,cT]
theorem NV {a:wW} (h:Ar a=true):(wG a).length<=6/\wL (zl a) 0 1000000=true/\wL (xn a) 0 1000000=true:=by
 unfold Ar at h;simp only[aT,decide_eq_true_eq]at h;obtain⟨_,_,_,h4,h5,h6⟩:=h;exact⟨by omega,h5,h6⟩
theorem Ux {a:wW} (ha:Lb a) (hl:Fy M a) {b:List Int} (hb:b.length<=M):∃r,bh a b=some r/\dh a b=some r/\Fy M r:=by
 have hM:M=1048576:=rfl;unfold bh dh;rw[E9 hl,EA hl,IJ ha,Lc ha];simp only[wC];cases hp:Ar a with
 | false=>exact⟨_,rfl,rfl,hl⟩
 | true =>
  obtain⟨h1,h2,h3⟩:=NV hp;obtain⟨m,m1,m2,_⟩:=ML h2;have m1':au a.2.2.2.2.2.2.2.2.2.2.2.2.2.1=some m:=m1
  have m2':aE a.2.2.2.2.2.2.2.2.2.2.2.2.2.1=some m:=m2;simp only[Bool.not_true,cF,wC,m1',m2',Ci hb,zR hb];have hn:(wG a).length<=1048576:=ha.n
  by_cases h6:((wG a).length:Int)>=6
  · have h6':decide ((a.2.2.2.2.2.2.2.2.2.2.2.2.1.length:Int)>=6)=true:=dT h6;rw[h6',cT,wC,cT];exact⟨_,rfl,rfl,hl⟩
  · have h6':decide ((a.2.2.2.2.2.2.2.2.2.2.2.2.1.length:Int)>=6)=false:=dF h6;rw[h6',cF,wC];cases decide (a.2.2.2.2.2.2.2.2.2.2.2.2.2.2>=1000000)with
    | true=>exact⟨_,rfl,rfl,hl⟩
    | false =>
     have hap:∀j:xl,app a.2.2.2.2.2.2.2.2.2.2.2.2.1 [j]=some (a.2.2.2.2.2.2.2.2.2.2.2.2.1++[j]):=λj=>wO (by show (wG a).length+1<=_;omega);simp only[cF,hap,wC];refine⟨_,rfl,rfl,hl.1,hl.2.1,?_,?_⟩
     · show (wG a++[_]).length<=1048576;rw[length_append];show (wG a).length+1<=_;omega
     · intro j hj;rcases mem_append.1 hj with hj|hj
       · exact hl.2.2.2 j hj
       · simp only[mem_singleton]at hj;subst hj;exact⟨hb,⟨by show 0<=1048576;decide,λx hx=>by cases hx⟩,by show 0<=1048576;decide,by show 0<=1048576;decide,by show 0<=1048576;decide,by show 0<=1048576;decide,by show 0<=1048576;decide⟩
theorem Pq {a:wW} (h:zD a) {m:List Int} (hm:m.length<=M):dh a m=bh a m:=by
 obtain⟨r,r1,r2,_⟩:=Ux h.awf h.ale hm;rw[r1,r2]
theorem Pr {a:wW} (h:zD a) {m:List Int} (hb:zE m) (hm:m.length<=M):∃r,bh a m=some r/\dh a m=some r/\zD r/\zl r+xn r<=zl a+xn a+1:=by
 by_cases hc:(wG a).length<6/\xn a<1000000
 · have e:=Ur h hm hc.1 hc.2;exact⟨_,e,(Pq h hm).trans e,Qq h hb hm hc.1 hc.2,by show zl a+(xn a+1)<=_;omega⟩
 · have e:=Us h (m:=m) hc;refine⟨_,e,(Pq h hm).trans e,T0 h,?_⟩;obtain⟨l1,l2⟩:=xI h.lo;show B6 (zl a)+xn a<=_
   unfold B6 min2;rw[xq (by omega) (by omega)];split<;>omega
theorem Yf {l:List wJ} (hn:l.length<=1000):gg l=some (l.filterMap yY):=by
 unfold gg;obtain⟨v,e1,rfl⟩:=xi (step:=λz:Int×List wJ=>cj l z.1 z.2) (λk z=>z=((k:Int),(l.take k).filterMap yY)) l.length (λv=>v=l.filterMap yY)
  (λk z hk e=>by
   subst e;refine .inl ⟨_,?_,rfl⟩;have hfl:((l.take k).filterMap yY).length<=k:=Nat.le_trans (List.length_filterMap_le _ _) (by rw[length_take];omega)
   have t1:l.take (k+1)=l.take k++[l[k]]:=by rw[take_add_one,List.getElem?_eq_getElem hk];rfl
   have t2:(l.take (k+1)).filterMap yY=(l.take k).filterMap yY++(match yY l[k]with|some y=>[y]|none=>[]):=by
    rw[t1,List.filterMap_append]
    congr 1
    cases hq:yY l[k]with
    | none=>rw[List.filterMap_cons_none hq];rfl
    | some y=>rw[List.filterMap_cons_some hq];rfl
   have ha:∀y:wJ,app ((l.take k).filterMap yY) [y]=some ((l.take k).filterMap yY++[y]):=λy=>wO (by show _+1<=_;omega);show cj l (k:Int) _=_
   unfold cj;rw[xk (by omega),cT,wU hk,wC,wQ (by omega),t2];cases hs:l[k].2.2.2.2 with
   | true =>
    have hq:yY l[k]=some l[k]:=by unfold yY;rw[hs];rfl
    rw[hq];simp only[cT,ha,wC]
   | false =>
    simp only[cF];by_cases h4:l[k].2.2.2.1>=4
    · have hq:yY l[k]=none:=by unfold yY;rw[hs,dT h4];rfl
      rw[hq,x7 (by omega)];simp only[cF,append_nil]
    · have hq:yY l[k]=some (l[k].1,l[k].2.1,l[k].2.2.1,wE (l[k].2.2.2.1+1),false):=by unfold yY;rw[hs,dF h4];rfl
      rw[hq,xk (by omega)];simp only[cT,ha,wC])
  (λz e=>by
   subst e;refine⟨_,?_,rfl⟩;show cj l (l.length:Int) _=_
   unfold cj;rw[x7 (by omega),cF,take_length]) (x:=(0,[])) rfl
 have e1:loop (λz=>cj l z.1 z.2) (0,[])=some (l.filterMap yY):=e1;rw[e1,wC]
theorem VS {b:wD} (h:xE b):da b=some (DX b):=by
 have hf:=HN h.f;obtain⟨r,r1,r2,_⟩:=MM (NN h);obtain⟨c1,_⟩:=A2 (Bp h.ok).1;have e:Bz (MI b)=r:=by unfold Bz;rw[r1];rfl
 unfold da DX;rw[yB h.le,wC,Da h.w,wC,h.ok,Bool.not_true,cF,NU c1,wC,Yf (by have:=hf.n;omega),wC,e];have r2':ba (b.1,b.2.1,b.2.2.1,b.2.2.2.1.filterMap yY,b.2.2.2.2.1,b.2.2.2.2.2.1,B6 b.2.2.2.2.2.2.1,b.2.2.2.2.2.2.2.1,b.2.2.2.2.2.2.2.2.1,b.2.2.2.2.2.2.2.2.2.1,b.2.2.2.2.2.2.2.2.2.2)=some r:=r2
 rw[r2',wC]
theorem RV {b:wD} (h:Af b) (hl:A4 M b):∃r,bI b=some r/\da b=some r/\(xr b=true->xE r)/\(xr b=false->r=b):=by
 cases hp:xr b with
 | true =>
  have hB:=Db h hp;obtain⟨t1,t2,_⟩:=Qt hB;exact⟨_,t1,VS hB,λ_=>t2,(λh=>by cases h)⟩
 | false =>
  refine⟨b,?_,?_,(λh=>by cases h),λ_=>rfl⟩
  · unfold bI;rw[xQ hl,wC,Bb h,wC,hp];rfl
  · unfold da;rw[yB hl,wC,Da h,wC,hp];rfl
theorem RW {α β:Type} {f g:α->Option (α⊕β)} (xt:Nat->α->Prop) (m:Nat) (h:∀k x,k<m->xt k x->∃y,f x=some (.inl y)/\g x=some (.inl y)/\xt (k+1) y) (he:∀x,xt m x->∃b,f x=some (.inr b)/\g x=some (.inr b)) {x:α} (h0:xt 0 x):∃b,loop f x=some b/\loop g x=some b:=by
 have key:∀n k x,k+n=m->xt k x->∃b,zJ f (n+1) x=some b/\zJ g (n+1) x=some b:=by
  intro n
  induction n with
  | zero =>
   intro k x hk hx;obtain rfl:k=m:=by omega
   obtain⟨b,h1,h2⟩:=he x hx;exact⟨b,by rw[xR,h1];rfl,by rw[xR,h2];rfl⟩
  | succ n ih =>
   intro k x hk hx;obtain⟨y,h1,h2,h3⟩:=h k x (by omega) hx;obtain⟨b,h4,h5⟩:=ih (k+1) y (by omega) h3;exact⟨b,by rw[xR,h1];exact h4,by rw[xR,h2];exact h5⟩
 obtain⟨b,h1,h2⟩:=key m 0 x (by omega) h0;exact⟨b,AA h1,AA h2⟩
def HD (a:wW):Prop:=Lb a/\Fy M a/\∀j∈wG a,zE j.2.1
theorem zD.any {a:wW} (h:zD a):HD a:=⟨h.awf,h.ale,λj hj=>(h.j j hj).byt⟩
def RX (n:Nat) (p:xg):Prop:=p.2.2.2.2.length<=n/\∀x∈p.2.2.2.2,E8 M x
theorem RX.le {n:Nat} {p:xg} (h:RX n p) (hn:n<=1000):zk M p:=⟨by have:=h.1;show _<=1048576;omega,h.2⟩
theorem RX.up {n m:Nat} {p:xg} (h:RX n p) (hn:n<=m):RX m p:=⟨Nat.le_trans h.1 hn,h.2⟩
theorem Ps {b:wD} (h:Af b) (hb:A4 M b) {p:xg} (hp:zk M p):A4 M (yJ b p).1/\zk M (yJ b p).2.1/\((yJ b p).2.2=false->(yJ b p).1=b):=by
 have h0:zk M (0,0,0,0,[]):=⟨by show 0<=1048576;decide,λx hx=>by cases hx⟩;unfold yJ;cases he:Fw b p with
 | false=>exact⟨hb,h0,λ_=>rfl⟩
 | true =>
  unfold Fw at he;simp only[aT]at he;obtain⟨e1,e2,e3⟩:=he;have hdn:xE (AO b p).1:=by
   have:=KQ (Db h e1) p;unfold yJ Fw at this;rw[e1,e2,e3]at this;exact this
  exact⟨hdn.le,Iz (Uk (RN e2)),λhc=>by cases hc⟩
theorem VU {p:xg} (hp:zk M p):zk M (BS p):=by
 unfold BS;cases yq (162,p.2.1,6,1,p.2.2.2.2)with
 | true=>exact hp
 | false=>exact⟨by show 0<=1048576;decide,λx hx=>by cases hx⟩
theorem VV (w:List UInt8) {b:wD} (hb:xE b) {j:xl} (h:Ee j) {d:List xZ} (hd:(AD w b j).2=.gone d):∀x∈d,zk M x.2:=by
 have one:∀{y:xZ} {x:xZ},zk M y.2->x∈[y]->zk M x.2:=λhy hx=>by rw[mem_singleton.1 hx];exact hy
 unfold AD at hd;cases h0:(j.2.2.1==0)with
 | true =>
  rw[h0,cT]at hd;cases h1:((xY w j.2.1).2==3)with
  | true=>rw[h1]at hd;cases hd;intro x hx;cases hx
  | false =>
   rw[h1,cF]at hd;cases h2:((xY w j.2.1).2 != 0||((xY w j.2.1).1.1==162))with
   | true=>rw[h2]at hd;cases hd;intro x hx;cases hx
   | false=>rw[h2]at hd;cases hd
 | false =>
  rw[h0,cF]at hd;cases h1:(j.2.2.1==2)with
  | true =>
   rw[h1,cT]at hd;cases h2:(j.2.2.2.1 != 163)with
   | true=>rw[h2]at hd;cases hd;exact λx hx=>one (Ps h.bw h.bl h.pl).2.1 hx
   | false =>
    rw[h2,cF]at hd;cases h3:(b.2.2.2.2.2.2.2.2.2.2==(jB j).2.2.2.2.2.2.2.2.2.2)with
    | true=>rw[h3]at hd;cases hd;exact λx hx=>one (Ps hb.w hb.le h.pl).2.1 hx
    | false =>
     rw[h3,cF]at hd;cases h4:decide (xw j>=3)with
     | true=>rw[h4]at hd;cases hd;exact λx hx=>one (VU h.pl) hx
     | false=>rw[h4]at hd;cases hd
  | false =>
   rw[h1,cF]at hd;cases h2:decide (Aq j<((jP j).2.2.2.2.length:Int))with
   | true=>rw[h2]at hd;cases hd
   | false=>rw[h2]at hd;cases hd
theorem VW {a:wW} (h:zD a) {k:Nat} (hk:k<(wG a).length):∀x∈(BT a k (wG a)[k]).2,zk M x.2:=by
 have hs:=λd=>VV (aW a) h.b (h.j _ (getElem_mem hk)) (d:=d);unfold BT;cases hf:(AD (aW a) (aB a) (wG a)[k]).2 with
 | stay j'=>intro x hx;cases hx
 | gone d=>exact hs d hf
theorem Yg {b:wD} (h:xE b) (i:Int) (f:yE):∃r,aO b i f=some r/\xE r.1/\r.2.length<=6:=by
 have s:=h.sok;have hn:=h.n6
 have hv:=s.v;have hq:=s.q
 obtain⟨q1,q2,q3,q4,q5⟩:=A2 (Bp h.ok).1;have hfb:=HN h.f
 unfold aO;rw[xQ h.le,wC,DL h,wC];cases hp:wL i 0 ((b.2.2.1.length:Int)-1)with
 | false=>exact⟨(b,[]),rfl,h,Nat.zero_le _⟩
 | true =>
 rw[Bool.not_true,cF,NP,wC,wC];cases hf:E7 f with
 | false=>exact⟨(b,[]),rfl,h,Nat.zero_le _⟩
 | true =>
 have hlen:f.2.2.2.length<=20:=by
  unfold E7 at hf;simp only[aT,decide_eq_true_eq]at hf;omega
 obtain⟨p0,p1⟩:=xI hp;obtain⟨k,rfl⟩:∃k:Nat,i=(k:Int):=⟨i.toNat,by omega⟩;have hk:k<b.2.2.1.length:=by omega
 obtain⟨c,_,hc,_⟩:=L9 b.1 (l:=b.2.2.1) (by omega);obtain⟨cl,hcl⟩:=NQ (v:=(b.2.2.2.2.1,b.2.2.2.2.2.1)) hv (by show b.2.2.2.2.2.1.length<=6;omega) (k:=k) (by show k<b.2.2.2.2.2.1.length;omega) f.2.2.1;obtain⟨t,ht,_⟩:=HO (c:Int) (k:=k) (by omega);rw[Bool.not_true,cF,hc,wC,hcl,wC,ht,wC];have hdrop:∃r,((au b.2.2.2.2.2.2.2.2.2.1).bind λt51=>some ((b.1,b.2.1,b.2.2.1,b.2.2.2.1,b.2.2.2.2.1,b.2.2.2.2.2.1,b.2.2.2.2.2.2.1,b.2.2.2.2.2.2.2.1,b.2.2.2.2.2.2.2.2.1,t51,b.2.2.2.2.2.2.2.2.2.2),([]:List xm)))=some r/\xE r.1/\r.2.length<=6:=by
  rw[CO,wC];have s':=KT s hfb (d:=B6 b.2.2.2.2.2.2.2.2.2.1) (v:=b.2.2.2.2.2.2.2.2.2.2) (D8 q4) q5
  exact⟨_,rfl,Db (H6 s' s'.le) (s'.ok h.v),Nat.zero_le _⟩
 cases t with
 | false=>rw[Bool.not_false,cT,wC,cT];exact hdrop
 | true =>
 rw[Bool.not_true,cF,wC];cases cl.2 with
 | false=>rw[Bool.not_false,cT];exact hdrop
 | true =>
 rw[Bool.not_true,cF];obtain⟨F,hF,hFB⟩:=NO hfb cl.1 f.2.1 (k:Int);rw[hF,wC,CO,wC];have s':=KT s hFB (d:=b.2.2.2.2.2.2.2.2.2.1) (v:=B6 b.2.2.2.2.2.2.2.2.2.2) q4 (D8 q5)
 have hB:=Db (H6 s' s'.le) (s'.ok h.v);cases f.1 != 0 with
 | true =>
  obtain⟨u,hu⟩:=TJ hFB.n cl.1 f.1;obtain⟨o,o1,o6⟩:=Po hn (λz=>aw b (k:Int) f (c:Int) cl u z.1 z.2) (λj out hj ho=>by
   obtain⟨o,o1,o2⟩:=VL h (k:Int) hlen (c:Int) cl (λk=>cond (decide (u<0)) (some true) (some (u==k))) (λk=>by cases decide (u<0)<;>exact⟨_,rfl⟩) hj ho;refine⟨o,o1,?_⟩;show aw b (k:Int) f (c:Int) cl u (j:Int) out=_
   unfold aw;rw[xk (by omega),cT];exact o2) (λout=>by
   show aw b (k:Int) f (c:Int) cl u (b.2.2.1.length:Int) out=_;unfold aw;rw[x7 (by omega),cF])
  rw[cT,hu,wC];exact⟨_,xJ o1 rfl,hB,o6⟩
 | false =>
  obtain⟨o,o1,o6⟩:=Po hn (λz=>ax b (k:Int) f (c:Int) cl z.1 z.2) (λj out hj ho=>by
   obtain⟨o,o1,o2⟩:=VL h (k:Int) hlen (c:Int) cl (λk=>cond (decide ((-1:Int)<0)) (some true) (some ((-1)==k))) (λk=>⟨true,rfl⟩) hj ho;refine⟨o,o1,?_⟩;show ax b (k:Int) f (c:Int) cl (j:Int) out=_
   unfold ax;rw[xk (by omega),cT];exact o2) (λout=>by
   show ax b (k:Int) f (c:Int) cl (b.2.2.1.length:Int) out=_;unfold ax;rw[x7 (by omega),cF])
  rw[cF];exact⟨_,xJ o1 rfl,hB,o6⟩
def TM (x:Act):yE:=(x.2.2.2.2.1,x.2.2.2.2.2.1,x.2.2.2.2.2.2.1,x.2.2.2.2.2.2.2.1)
def VX (x:Act):Bv:=x.2.2.2.2.2.2.2.2
noncomputable def oB (b:wD) (x:Act):Option (wD×List xm) :=
 if x.1=3 then aO b x.2.1 (TM x)else if x.1=4 then (bG b x.2.1 (VX x)).bind λr=>some (r,[])
 else if x.1=5 then (bH b x.2.1 x.2.2.1).bind λr=>some (r,[])else if x.1=6 then (bI b).bind λr=>some (r,[])else some (b,[])
theorem Ex {b:wD} (h:Af b) (hp:xr b=false) (i:Int):bo b i=some false:=by
 unfold bo;rw[Bb h,wC,hp];rfl
theorem Y0 {b:wD} (h:Af b) (hl:A4 M b) (x:Act):∃r,oB b x=some r/\Af r.1/\A4 M r.1/\r.2.length<=6/\(xr b=true->xE r.1)/\(xr b=false->r=(b,[])):=by
 cases hp:xr b with
 | false =>
  have e:oB b x=some (b,[]):=by
   unfold oB;split
   · unfold aO;rw[xQ hl,Ex h hp];rfl
   · split
     · unfold bG;rw[xQ hl,Ex h hp];rfl
     · split
       · unfold bH;rw[xQ hl,Ex h hp];rfl
       · split
         · unfold bI;rw[xQ hl,Bb h,hp];rfl
         · rfl
  exact⟨_,e,h,hl,Nat.zero_le _,(λh=>by cases h),λ_=>rfl⟩
 | true =>
  have hB:=Db h hp;have ok:∀{r:wD×List xm},oB b x=some r->xE r.1->r.2.length<=6->∃r,oB b x=some r/\Af r.1/\A4 M r.1/\r.2.length<=6/\(true=true->xE r.1)/\(true=false->r=(b,[])):=λe k hn=>⟨_,e,k.w,k.le,hn,λ_=>k,λh=>by cases h⟩
  unfold oB at ok ⊢;split
  · rename_i h3;obtain⟨r,r1,r2,r3⟩:=Yg hB x.2.1 (TM x);exact⟨r,r1,r2.w,r2.le,r3,λ_=>r2,λh=>by cases h⟩
  · split
    · obtain⟨r,r1,r2⟩:=TI hB x.2.1 (VX x);exact⟨(r,[]),by rw[r1];rfl,r2.w,r2.le,Nat.zero_le _,λ_=>r2,λh=>by cases h⟩
    · split
      · obtain⟨r,r1,r2⟩:=TH hB x.2.1 x.2.2.1;exact⟨(r,[]),by rw[r1];rfl,r2.w,r2.le,Nat.zero_le _,λ_=>r2,λh=>by cases h⟩
      · split
        · obtain⟨r1,r2,_⟩:=Qt hB;exact⟨(DX b,[]),by rw[r1];rfl,r2.w,r2.le,Nat.zero_le _,λ_=>r2,λh=>by cases h⟩
        · exact⟨(b,[]),rfl,h,hl,Nat.zero_le _,λ_=>hB,λh=>by cases h⟩
theorem VY (a:wW) {x:Act} (h3:3<=x.1) {r:wD×List xm} (e:oB (aB a) x=some r):br a x=some (yv r.1 (aW a) (wG a) (zl a) (xn a),r.2,[]):=by
 unfold br;rw[show (x.1==1)=false from beq_eq_false_iff_ne.2 (by omega),cF,show (x.1==2)=false from beq_eq_false_iff_ne.2 (by omega),cF];unfold oB at e;by_cases k3:x.1=3
 · rw[if_pos k3]at e;rw[show (x.1==3)=true from beq_iff_eq.2 k3,cT];exact xJ e rfl
 rw[if_neg k3]at e;rw[beq_eq_false_iff_ne.2 k3,cF];by_cases k4:x.1=4
 · rw[if_pos k4]at e;rw[show (x.1==4)=true from beq_iff_eq.2 k4,cT];obtain⟨q,q1,q2⟩:=Option.bind_eq_some_iff.1 e;cases q2;exact xJ q1 rfl
 rw[if_neg k4]at e;rw[beq_eq_false_iff_ne.2 k4,cF];by_cases k5:x.1=5
 · rw[if_pos k5]at e;rw[show (x.1==5)=true from beq_iff_eq.2 k5,cT];obtain⟨q,q1,q2⟩:=Option.bind_eq_some_iff.1 e;cases q2;exact xJ q1 rfl
 rw[if_neg k5]at e;rw[beq_eq_false_iff_ne.2 k5,cF];by_cases k6:x.1=6
 · rw[if_pos k6]at e;rw[show (x.1==6)=true from beq_iff_eq.2 k6,cT];obtain⟨q,q1,q2⟩:=Option.bind_eq_some_iff.1 e;cases q2;exact xJ q1 rfl
 rw[if_neg k6]at e;rw[beq_eq_false_iff_ne.2 k6,cF];cases e;rfl
noncomputable def RY (b:wD) (x:Act):wD:=((oB b x).getD (b,[])).1
theorem NW {b:wD} {x:Act} {r:wD×List xm} (e:oB b x=some r):RY b x=r.1:=by unfold RY;rw[e];rfl
noncomputable def KW (a:wW) (x:Act):wW×List xm×List xZ:=(bZ a x).getD (a,[],[])
def AQ (e:wJ):Bool->List wJ->List wJ
 | false,[]=>[e]
 | true,[]=>[]
 | false,x::t=>if Bq x e=true then x::AQ e false t else e::(if AI x e=true then x::AQ e true t else AQ e true t)
 | true,x::t=>if AI x e=true then x::AQ e true t else AQ e true t
theorem NX {x e:wJ} (h:lt x e):Bq x e=true:=by
 cases hb:Bq x e with
 | true=>rfl
 | false =>
  exfalso;have:=S8 hb
  unfold lt same at *;omega
theorem Mp {x e:wJ} (h:lt e x\/same x e):Bq x e=false:=by
 cases hb:Bq x e with
 | false=>rfl
 | true =>
  exfalso;have:=Of hb
  unfold lt same at *;omega
theorem JV {x e:wJ} (h:¬same x e):AI x e=true:=by
 cases hb:AI x e with
 | true=>rfl
 | false=>exact absurd (OS hb) h
theorem RZ {x e:wJ} (h:same x e):AI x e=false:=by
 cases hb:AI x e with
 | false=>rfl
 | true=>exact absurd h (QJ hb)
theorem IC {e:wJ}:∀{l:List wJ},(∀x∈l,¬same x e)->AQ e true l=l
 | [],_=>rfl
 | x::t,h=>by
  unfold AQ;rw[if_pos (JV (h x (by simp))),IC λy hy=>h y (mem_cons_of_mem _ hy)]
theorem NY {e:wJ}:∀{l:List wJ} {k:Nat} (hk:k<l.length),l.Pairwise lt->same l[k] e->AQ e false l=l.set k e
 | x::t,0,_,hp,hs=>by
  have hs':same x e:=hs;unfold AQ;rw[if_neg (by rw[Mp (.inr hs')];simp),if_neg (by rw[RZ hs'];simp),IC λy hy=>by
   have:=(pairwise_cons.1 hp).1 y hy;unfold lt same at *;omega]
  rfl
 | x::t,k+1,hk,hp,hs=>by
  have hs':same (t[k]'(by simpa using hk)) e:=hs;have:=(pairwise_cons.1 hp).1 _ (getElem_mem (by simpa using hk:k<t.length))
  unfold AQ;rw[if_pos (NX (by unfold lt same at *;omega)),NY (by simpa using hk) (pairwise_cons.1 hp).2 hs'];rfl
theorem Pu {e:wJ}:∀{l:List wJ} {d:Nat},l.Pairwise lt->(∀x∈l,¬same x e)->(∀x∈l.take d,lt x e)->(∀x,l[d]?=some x->lt e x)->AQ e false l=l.take d++e::l.drop d
 | [],d,_,_,_,_=>by simp[AQ]
 | x::t,0,hp,hn,_,h2=>by
  unfold AQ;rw[if_neg (by rw[Mp (.inl (h2 x rfl))];simp),if_pos (JV (hn x (by simp))),IC λy hy=>hn y (mem_cons_of_mem _ hy)];rfl
 | x::t,d+1,hp,hn,h1,h2=>by
  unfold AQ;rw[if_pos (NX (h1 x (by simp))),Pu (d:=d) (pairwise_cons.1 hp).2 (λy hy=>hn y (mem_cons_of_mem _ hy)) (λy hy=>h1 y (by rw[List.take_succ_cons];exact mem_cons_of_mem _ hy)) (λy hy=>h2 y (by simpa using hy))];rfl
theorem Xg {l:List wJ} (hn:l.length<=1000) (e:wJ):iO l e=some (AQ e false l):=by
 obtain⟨d,hd,g⟩:=xi (step:=λz:Bool×Int×List wJ=>cX l e z.1 z.2.1 z.2.2)
  (λk z=>z.2.1=(k:Int)/\z.2.2++AQ e z.1 (l.drop k)=AQ e false l/\z.2.2.length<=2*k) l.length
  (λz=>z.2++AQ e z.1 []=AQ e false l/\z.2.length<=2000)
  (λk z hk ⟨z1,z2,z3⟩=>by
   obtain⟨t,i,b⟩:=z;simp only at z1 z2 z3;subst z1;left;have ha:∀(xs:List wJ) (y:wJ),xs.length<=2001->app xs [y]=some (xs++[y]):=λxs y h=>wO (by show xs.length+1<=_;omega)
   have hs:cX l e t (k:Int) b=cond (!t&&!(Bq l[k] e))
    (cond (AI l[k] e) (some (.inl (true,((k+1:Nat):Int),b++[e]++[l[k]]))) (some (.inl (true,((k+1:Nat):Int),b++[e]))))
    (cond (AI l[k] e) (some (.inl (t,((k+1:Nat):Int),b++[l[k]]))) (some (.inl (t,((k+1:Nat):Int),b)))):=by
    have hA:ce l[k] e.1 e.2.1=some (Bq l[k] e):=by unfold ce Bq;cases (l[k].1 != e.1)<;>rfl
    have hO:(cond (l[k].1 != e.1) (some true) (some (l[k].2.1 != e.2.1)))=some (AI l[k] e):=by unfold AI;cases (l[k].1 != e.1)<;>rfl
    unfold cX;simp only[xk (show (k:Int)<(l.length:Int) by omega),cT,wU hk,wC,wQ (show k<9223372036854775807 by omega),hA,hO,ha b e (by omega),ha b l[k] (by omega),ha (b++[e]) l[k] (by rw[length_append];show b.length+1<=_;omega)];cases t<;>cases Bq l[k] e<;>rfl
   show ∃y,cX l e t (k:Int) b=_/\_;rw[hs];have hd:l.drop k=l[k]::l.drop (k+1):=List.drop_eq_getElem_cons hk
   rw[hd]at z2;generalize hG:AQ e false l=G at z2 ⊢;cases t with
   | true =>
    unfold AQ at z2;rw[Bool.not_true,Bool.false_and,cF];cases ho:AI l[k] e with
    | true =>
     rw[if_pos ho]at z2;exact⟨_,rfl,rfl,by simpa using z2,by simp;omega⟩
    | false =>
     rw[if_neg (by rw[ho];simp)]at z2;exact⟨_,rfl,rfl,by simpa using z2,by simp;omega⟩
   | false =>
    unfold AQ at z2;rw[Bool.not_false,Bool.true_and];cases hq:Bq l[k] e with
    | true =>
     rw[if_pos hq]at z2;rw[Bool.not_true,cF,JV (XL (Of hq)),cT];exact⟨_,rfl,rfl,by simpa using z2,by simp;omega⟩
    | false =>
     rw[if_neg (by rw[hq];simp)]at z2;rw[Bool.not_false,cT];cases ho:AI l[k] e with
     | true =>
      rw[if_pos ho]at z2;exact⟨_,rfl,rfl,by simpa using z2,by simp;omega⟩
     | false =>
      rw[if_neg (by rw[ho];simp)]at z2;exact⟨_,rfl,rfl,by simpa using z2,by simp;omega⟩)
  (λz ⟨z1,z2,z3⟩=>by
   obtain⟨t,i,b⟩:=z;simp only at z1 z2 z3;subst z1;rw[List.drop_length]at z2;refine⟨(t,b),?_,z2,by show b.length<=2000;have:b.length<=2*l.length:=z3;omega⟩;show cX l e t _ b=_
   unfold cX;rw[x7 (by omega),cF]) (x:=(false,0,[])) ⟨rfl,rfl,by simp⟩
 unfold iO;rw[hd,wC];obtain⟨t,b⟩:=d;simp only at g ⊢;cases t with
 | true=>rw[Bool.not_true,cF,←g.1];simp[AQ]
 | false=>rw[Bool.not_false,cT,wO (by show b.length+1<=_;omega),wC,←g.1];rfl
theorem Xh {l:List wJ} (h:FB l) (e:wJ):∃y,cD l e=some y/\(((∃x∈l,same x e)\/l.length<12)->y.1=AQ e false l)/\(¬((∃x∈l,same x e)\/l.length<12)->y.1=l):=by
 have hn:=h.n;have hM:M=1048576:=rfl
 unfold cD;rw[DO (by omega),wC,FA (by omega),wC];rcases BZ l e.1 e.2.1 with ⟨h1,h2⟩|⟨k,hk,h1,h2,h3⟩
 · rw[h1,dF (by decide),cF];have hns:∀x∈l,¬same x e:=λx hx hs=>h2 x hx hs
   by_cases h12:(l.length:Int)>=12
   · rw[dT h12,cT];refine⟨_,rfl,λhc=>?_,λ_=>rfl⟩;rcases hc with ⟨x,hx,hs⟩|hc
     · exact absurd hs (hns x hx)
     · omega
   · rw[dF h12,cF];obtain⟨d,d1,k,d2,d3,d4,d5⟩:=xi (step:=λz:Int=>aZ l e z) (λk z=>z=(k:Int)/\∀x∈l.take k,yT x e.1 e.2.1=false) l.length (λd=>∃k:Nat,d=(k:Int)/\k<=l.length/\(∀x∈l.take k,yT x e.1 e.2.1=false)/\∀hk:k<l.length,yT l[k] e.1 e.2.1=true)
      (λk z hk ⟨e1,e2⟩=>by
       subst e1;have hst:∀q,yT l[k] e.1 e.2.1=q->aZ l e (k:Int)=cond (!q) (some (.inl ((k+1:Nat):Int))) (some (.inr (k:Int))):=λq hq=>by
        unfold aZ;rw[xk (by omega),cT,wU hk,wC,LI,wC,wC,hq,wQ (by omega)]
       cases hq:yT l[k] e.1 e.2.1 with
       | true=>exact .inr ⟨_,hst true hq,k,rfl,by omega,e2,λ_=>hq⟩
       | false =>
        refine .inl ⟨_,hst false hq,rfl,λx hx=>?_⟩;rw[take_add_one,List.getElem?_eq_getElem hk]at hx;rcases mem_append.1 hx with hx|hx
        · exact e2 x hx
        · simp at hx;rw[hx];exact hq)
      (λz ⟨e1,e2⟩=>by
       subst e1;refine⟨_,?_,l.length,rfl,Nat.le_refl _,e2,λhk=>absurd hk (by omega)⟩;show aZ l e (l.length:Int)=_
       unfold aZ;rw[x7 (by omega),cF,wC,cF]) (x:=0) ⟨rfl,by simp⟩
     subst d2;have c1:cut l 0 (k:Int)=some (l.take k):=by
      have:=A5 (l:=l) (a:=0) (b:=k) (by omega) d3;simpa using this
     have c2:cut l (k:Int) (l.length:Int)=some (l.drop k):=by
      have:=A5 (l:=l) (a:=k) (b:=l.length) d3 (Nat.le_refl _);rw[take_length]at this;exact this
     have hl1:(l.take k).length<=12:=by rw[length_take];omega
     have hl2:(l.drop k).length<=12:=by rw[length_drop];omega
     refine⟨_,xJ d1 (by rw[c1,wC,DO (by omega),wC,wO (by show (l.take k).length+1<=_;omega),wC,c2,wC,wO (by rw[length_append];show (l.take k).length+1+(l.drop k).length<=_;omega),wC]),λ_=>?_,λhc=>absurd (.inr (by omega)) hc⟩;rw[Pu h.o hns (λx hx=>KS (d4 x hx) (h2 x (mem_of_mem_take hx))) (λx hx=>by
      have hk:k<l.length:=(List.getElem?_eq_some_iff.1 hx).1;rw[List.getElem?_eq_getElem hk]at hx;cases hx;exact IB (d5 hk))]
     simp
 · rw[h1,dT (by omega),cT,ym hk,wC,List.getElem?_eq_getElem hk,wC];refine⟨_,rfl,λ_=>?_,λhc=>absurd (.inl ⟨l[k],getElem_mem hk,h2,h3⟩) hc⟩;rw[NY hk h.o ⟨h2,h3⟩]

theorem Qz {l:List wJ} (h:FB l) (tag mac port:Int):iP l tag mac port=dN l tag mac port:=by
 have hn:=h.n;have hl:l.length<=M:=by show _<=1048576;omega
 obtain⟨y,y1,y2,y3⟩:=Xh h (tag,mac,port,0,false);unfold iP dN;rw[FA (by omega),LL (by omega),T6 (by omega),Wl (by omega),TR,MJ,h.ok,DO hl,Oh hl,Xg (by omega),y1];simp only[wC,Bool.not_true,cF];cases C4 (tag,mac,port,0,false)with
 | false=>rfl
 | true =>
  simp only[Bool.not_true,cF,wC];rcases BZ l tag mac with ⟨e,e1⟩|⟨k,hk,e,e1,e2⟩
  · rw[e];simp only[show decide ((-1:Int)>=0)=false from rfl,show decide ((-1:Int)<0)=true from rfl,cT,cF,wC];by_cases hlt:l.length<12
    · rw[dF (show ¬((l.length:Int)>=12) by omega),cF,y2 (.inr hlt)]
    · rw[dT (show ((l.length:Int)>=12) by omega),cT,y3 (λhc=>hc.elim (λ⟨x,hx,hs⟩=>e1 x hx ⟨hs.1,hs.2⟩) hlt)]
  · rw[e,dT (show (k:Int)>=0 by omega),dF (show ¬(k:Int)<0 by omega)];simp only[cT,cF,wU hk,wC];cases l[k].2.2.2.2 with
    | true=>rfl
    | false =>
     simp only[cF,wC,y2 (.inl ⟨l[k],getElem_mem hk,e1,e2⟩)]
theorem TN:aP=ai:=rfl
theorem QA (c:Int) {k:Nat} (hk:k<6):aQ c (k:Int)=ap c (k:Int):=by
 obtain⟨t,t1,t2⟩:=HO c hk;rw[t1,t2]
theorem VZ (v:xO) {k:Nat} (hk:k<6) (tag:Int):iN v (k:Int) tag=dM v (k:Int) tag:=by
 unfold iN dM;simp only[zQ,Cz,TN,QA _ hk]
theorem Uy:jZ=bp:=rfl
theorem W0 (v:xO) (id:Int) {k:Nat} (hk:k<6):iS v id (k:Int)=bq v id (k:Int):=by
 unfold iS bq;simp only[TN,QA _ hk]
theorem W1:jY=eS:=rfl
theorem KY {b:wD} (h:Af b) (i:Int):dc b i=bo b i:=by
 unfold dc bo;rw[Da h,Bb h];simp only[zQ,Cz]
theorem Xi {f:yE} (h:f.2.2.2.length<=20) (t:Int):iR f t=some (f.1,f.2.1,t,f.2.2.2):=by
 unfold iR kc;rw[zR (by show _<=1048576;omega)];rfl
theorem Xj {l:List wJ} (h:FB l) (tag mac:Int):∃u,dO l tag mac=some u/\iQ l tag mac=some u/\(u = -1\/(0<=u/\u<=7)):=by
 have hn:=h.n;unfold dO iQ;rw[FA (by omega),LL (by omega)];simp only[wC];rcases BZ l tag mac with ⟨e,_⟩|⟨k,hk,e,_,_⟩
 · rw[e];exact⟨-1,rfl,rfl,.inl rfl⟩
 · rw[e];simp only[dF (show ¬(k:Int)<0 by omega),cF,wU hk,wC];have hf:=h.e _ (getElem_mem hk)
   unfold C4 at hf;simp only[aT]at hf;have:=xI hf.2.2.1
   exact⟨_,rfl,rfl,.inr this⟩
theorem W2 {c:Nat} (hc:c<64) (e:Int):∃m:Nat,m<64/\zc .i64 (c:Int) e=(m:Int):=by
 have h:(BitVec.ofInt 64 (c:Int)&&&BitVec.ofInt 64 e).toNat<=c:=by
  rw[BitVec.toNat_and];refine Nat.le_trans Nat.and_le_left ?_;rw[BitVec.toNat_ofInt];omega
 refine⟨(BitVec.ofInt 64 (c:Int)&&&BitVec.ofInt 64 e).toNat,by omega,?_⟩;show IntKind.i64.wrap _=_
 exact xq (n:=(((BitVec.ofInt 64 (c:Int)&&&BitVec.ofInt 64 e).toNat:Nat):Int)) (by omega) (by omega)
def W3:Bool:=(List.range 64).all λm=>(List.range 6).all λk=>match shl .i64 1 (IntKind.u64.wrap (k:Int))with
 | some s=>decide (0<=Dd .i64 (m:Int) s)&&(decide (Dd .i64 (m:Int) s<64)&&((List.range 6).all λj=>B9 (Dd .i64 (m:Int) s).toNat (j:Int)==(((j:Int) != (k:Int))&&B9 m (j:Int))))
 | none=>false
theorem OP:W3=true:=by kernel_rfl
theorem Yh {m:Nat} (hm:m<64) {k:Nat} (hk:k<6):∃s,shl .i64 1 (IntKind.u64.wrap (k:Int))=some s/\∃q:Nat,q<64/\Dd .i64 (m:Int) s=(q:Int)/\∀j:Nat,j<6->B9 q (j:Int)=(((j:Int) != (k:Int))&&B9 m (j:Int)):=by
 have h:=all_eq_true.1 (all_eq_true.1 OP m (mem_range.2 hm)) k (mem_range.2 hk);cases hs:shl .i64 1 (IntKind.u64.wrap (k:Int))with
 | none=>rw[hs]at h;cases h
 | some s =>
  rw[hs]at h;simp only[aT,decide_eq_true_eq,all_eq_true,beq_iff_eq,mem_range]at h;obtain⟨h1,h2,h3⟩:=h;exact⟨s,rfl,(Dd .i64 (m:Int) s).toNat,by omega,by omega,h3⟩
def W4:Bool:=(List.range 64).all λm=>(List.range 8).all λu=>match shl .i64 1 (IntKind.u64.wrap (u:Int))with
 | some s=>decide (0<=zc .i64 (m:Int) s)&&(decide (zc .i64 (m:Int) s<64)&&((List.range 6).all λj=>B9 (zc .i64 (m:Int) s).toNat (j:Int)==(B9 m (j:Int)&&((u:Int)==(j:Int)))))
 | none=>false
theorem OQ:W4=true:=by kernel_rfl
theorem Yi {m:Nat} (hm:m<64) {u:Nat} (hu:u<8):∃s,shl .i64 1 (IntKind.u64.wrap (u:Int))=some s/\∃q:Nat,q<64/\zc .i64 (m:Int) s=(q:Int)/\∀j:Nat,j<6->B9 q (j:Int)=(B9 m (j:Int)&&((u:Int)==(j:Int))):=by
 have h:=all_eq_true.1 (all_eq_true.1 OQ m (mem_range.2 hm)) u (mem_range.2 hu);cases hs:shl .i64 1 (IntKind.u64.wrap (u:Int))with
 | none=>rw[hs]at h;cases h
 | some s =>
  rw[hs]at h;simp only[aT,decide_eq_true_eq,all_eq_true,beq_iff_eq,mem_range]at h;obtain⟨h1,h2,h3⟩:=h;exact⟨s,rfl,(zc .i64 (m:Int) s).toNat,by omega,by omega,h3⟩
theorem W5 {b:wD} (hn:b.2.2.1.length<=6) (hv:b.2.2.2.2.1.length<=6) {f:yE} (hf:f.2.2.2.length<=20) {k:Nat} {c:Nat} {cl:Int×Bool} {e:Int} (he:bp (b.2.2.2.2.1,b.2.2.2.2.2.1) cl.1=some e) {m:Nat} (hm:m<64) (hme:zc .i64 (c:Int) e=(m:Int)) {q:Nat}
 (Q:Int->Option Bool) (Qb:Nat->Bool) (hQ:∀j:Nat,j<6->Q (j:Int)=some (Qb j)) (hq:∀j:Nat,j<6->B9 q (j:Int)=(((j:Int) != (k:Int)&&B9 m (j:Int))&&Qb j))
 (stepI:Int×List xm->Option ((Int×List xm)⊕List xm))
 (hs:∀(j:Nat) (out:List xm),j<b.2.2.1.length->stepI ((j:Int),out)=((cond ((j:Int) != (k:Int)) ((bp (b.2.2.2.2.1,b.2.2.2.2.2.1) cl.1).bind λt89=>(ap (zc .i64 (c:Int) t89) (j:Int)).bind λt92=>some t92) (some false)).bind λt93 =>
  (cond t93 ((Q (j:Int)).bind λt101=>some t101) (some false)).bind λt102 =>
  cond t102 ((bq (b.2.2.2.2.1,b.2.2.2.2.2.1) cl.1 (j:Int)).bind λt110=>(bY f t110).bind λt111=>(app out [((j:Int),t111.1,t111.2.1,t111.2.2.1,t111.2.2.2)]).bind λzs114=>some (.inl (wE ((j:Int)+1),zs114)))
   (some (.inl (wE ((j:Int)+1),out)))))
 (he2:∀out:List xm,stepI ((b.2.2.1.length:Int),out)=some (.inr out)) :
 ∃o,loop stepI (0,[])=some o/\cY b cl.1 (q:Int) f=some o:=by
 obtain⟨o,h1,h2⟩:=RW (f:=stepI) (g:=λz:Int×List xm=>ej b cl.1 (q:Int) f z.1 z.2) (λj z=>z.1=(j:Int)/\z.2.length<=j) b.2.2.1.length
  (λj z hj ⟨z1,z2⟩=>by
   obtain⟨i,out⟩:=z;simp only at z1 z2;subst z1;obtain⟨g,hg⟩:=NR (v:=(b.2.2.2.2.1,b.2.2.2.2.2.1)) hv cl.1 (k:=j) (by omega);have hap:app out [((j:Int),f.1,f.2.1,g,f.2.2.2)]=some (out++[((j:Int),f.1,f.2.1,g,f.2.2.2)]):=wO (by show out.length+1<=_;omega)
   have hb:B9 q (j:Int)=(((j:Int) != (k:Int)&&B9 m (j:Int))&&Qb j):=hq j (by omega);have hI:stepI ((j:Int),out)=cond (B9 q (j:Int)) (some (.inl (((j+1:Nat):Int),out++[((j:Int),f.1,f.2.1,g,f.2.2.2)]))) (some (.inl (((j+1:Nat):Int),out))):=by
    rw[hs j out hj,he,hb];simp only[wC,hme,Yt hm,hQ j (by omega),hg,T1 hf,hap,wQ (show j<9223372036854775807 by omega)];cases (j:Int) != (k:Int)<;>cases B9 m (j:Int)<;>cases Qb j<;>rfl
   have hS:ej b cl.1 (q:Int) f (j:Int) out=cond (B9 q (j:Int)) (some (.inl (((j+1:Nat):Int),out++[((j:Int),f.1,f.2.1,g,f.2.2.2)]))) (some (.inl (((j+1:Nat):Int),out))):=by
    unfold ej;rw[dT (show (j:Int)<(b.2.2.1.length:Int) by omega),cT,Ys,wC];simp only[W0 _ _ (show j<6 by omega),hg,wC,Xi hf,hap,wQ (show j<9223372036854775807 by omega)]
   cases hbit:B9 q (j:Int)with
   | true =>
    rw[hbit]at hI hS;exact⟨_,hI,hS,rfl,by show (out++[_]).length<=j+1;rw[length_append];show out.length+1<=j+1;omega⟩
   | false =>
    rw[hbit]at hI hS;exact⟨_,hI,hS,rfl,by show out.length<=j+1;omega⟩)
  (λz ⟨z1,z2⟩=>by
   obtain⟨i,out⟩:=z;simp only at z1 z2;subst z1;refine⟨out,he2 out,?_⟩;show ej b cl.1 (q:Int) f (b.2.2.1.length:Int) out=_
   unfold ej;rw[dF (show ¬(b.2.2.1.length:Int)<(b.2.2.1.length:Int) by omega),cF]) (x:=(0,[])) ⟨rfl,Nat.le_refl _⟩
 refine⟨o,h1,?_⟩;unfold cY;exact xJ h2 rfl
theorem NZ {b:wD} (h:Af b) (hl:A4 M b) (i:Int) (f:yE):cZ b i f=aO b i f:=by
 cases hp0:xr b with
 | false =>
  unfold cZ aO;rw[xQ hl,yB hl,KY h,Ex h hp0];rfl
 | true =>
 have h:=Db h hp0;have s:=h.sok
 have hn:=h.n6;have hv:=s.v
 have hq:=s.q;obtain⟨q1,q2,q3,q4,q5⟩:=A2 (Bp h.ok).1;have hfb:=HN h.f
 unfold cZ aO;rw[xQ h.le,yB h.le,wC,wC,KY h.w,DL h,wC,wC];cases hp:wL i 0 ((b.2.2.1.length:Int)-1)with
 | false=>rfl
 | true =>
 rw[Bool.not_true,cF,cF,W1,NP,wC,wC,wC];cases hf:E7 f with
 | false=>rfl
 | true =>
 have hlen:f.2.2.2.length<=20:=by
  unfold E7 at hf;simp only[aT,decide_eq_true_eq]at hf;omega
 obtain⟨p0,p1⟩:=xI hp;obtain⟨k,rfl⟩:∃k:Nat,i=(k:Int):=⟨i.toNat,by omega⟩;have hk:k<b.2.2.1.length:=by omega
 have hk6:k<6:=by omega
 obtain⟨c,hc64,hc,hcs⟩:=L9 b.1 (l:=b.2.2.1) (by omega);obtain⟨cl,hcl⟩:=NQ (v:=(b.2.2.2.2.1,b.2.2.2.2.2.1)) hv (by show b.2.2.2.2.2.1.length<=6;omega) (k:=k) (by show k<b.2.2.2.2.2.1.length;omega) f.2.2.1;obtain⟨t,ht,_⟩:=HO (c:Int) hk6;rw[Bool.not_true,cF,cF,hc,hcs,wC,wC,VZ _ hk6,hcl,wC,wC,QA _ hk6,ht,wC,wC];have hst:∀{A B:Option (wD×List xm)},A=B->(cond (!t) (some true) (some (!cl.2))).bind (λt50=>cond t50 ((aE b.2.2.2.2.2.2.2.2.2.1).bind λt53=>some ((b.1,b.2.1,b.2.2.1,b.2.2.2.1,b.2.2.2.2.1,b.2.2.2.2.2.1,b.2.2.2.2.2.2.1,b.2.2.2.2.2.2.2.1,b.2.2.2.2.2.2.2.2.1,t53,b.2.2.2.2.2.2.2.2.2.2),([]:List xm))) A)=(cond (!t) (some true) (some (!cl.2))).bind (λt48=>cond t48 ((au b.2.2.2.2.2.2.2.2.2.1).bind λt51=>some ((b.1,b.2.1,b.2.2.1,b.2.2.2.1,b.2.2.2.2.1,b.2.2.2.2.2.1,b.2.2.2.2.2.2.1,b.2.2.2.2.2.2.2.1,b.2.2.2.2.2.2.2.2.1,t51,b.2.2.2.2.2.2.2.2.2.2),[])) B):=λe=>by
  rw[e,NU q4,CO]
 refine hst ?_;rw[Qz hfb,Uy];obtain⟨F,hF,hFB⟩:=NO hfb cl.1 f.2.1 (k:Int);obtain⟨e,he⟩:=LE (v:=(b.2.2.2.2.1,b.2.2.2.2.2.1)) hv cl.1;obtain⟨m,hm,hme⟩:=W2 hc64 e;obtain⟨sh,hsh,q,hq64,hqe,hqb⟩:=Yh hm hk6;rw[hF,wC,wC,CO,NU q5,wC,wC,he,wC,hsh,wC,hme];simp only[hqe];obtain⟨o1,a1,a2⟩:=W5 hn hv hlen (k:=k) (c:=c) (cl:=cl) he hm hme (q:=q) (λj=>cond (decide ((-1:Int)<0)) (some true) (some ((-1)==j))) (λ_=>true) (λj hj=>rfl) (λj hj=>by rw[Bool.and_true];exact hqb j hj) (λz=>ax b (k:Int) f (c:Int) cl z.1 z.2)
  (λj out hj=>by
   show ax b (k:Int) f (c:Int) cl (j:Int) out=_;unfold ax;rw[xk (by omega),cT]) (λout=>by
   show ax b (k:Int) f (c:Int) cl (b.2.2.1.length:Int) out=_;unfold ax;rw[x7 (by omega),cF])
 cases f.1 != 0 with
 | false =>
  rw[cF,cF,a2,wC]
  symm;exact xJ a1 rfl
 | true =>
  obtain⟨u,u1,u2,u3⟩:=Xj hFB cl.1 f.1;rw[cT,cT,u1,u2,wC,wC];have fin:∀(q:Nat),(∀j:Nat,j<6->B9 q (j:Int)=(((j:Int) != (k:Int)&&B9 m (j:Int))&&(decide (u<0)||(u==(j:Int)))))->∃o,loop (λz:Int×List xm=>aw b (k:Int) f (c:Int) cl u z.1 z.2) (0,[])=some o/\cY b cl.1 (q:Int) f=some o:=λq hq =>
   W5 hn hv hlen (k:=k) (c:=c) (cl:=cl) he hm hme (q:=q) (λj=>cond (decide (u<0)) (some true) (some (u==j))) (λj=>decide (u<0)||(u==(j:Int))) (λj hj=>by cases decide (u<0)<;>rfl) hq _
   (λj out hj=>by
    show aw b (k:Int) f (c:Int) cl u (j:Int) out=_;unfold aw;rw[xk (by omega),cT]) (λout=>by
    show aw b (k:Int) f (c:Int) cl u (b.2.2.1.length:Int) out=_;unfold aw;rw[x7 (by omega),cF])
  rcases u3 with rfl|⟨u3,u4⟩
  · obtain⟨o,b1,b2⟩:=fin q (λj hj=>by rw[show decide ((-1:Int)<0)=true from rfl,Bool.true_or,Bool.and_true];exact hqb j hj);rw[show decide ((-1:Int)>=0)=false from rfl,cF,b2,wC]
    symm;exact xJ b1 rfl
  · obtain⟨n,rfl⟩:∃n:Nat,u=(n:Int):=⟨u.toNat,by omega⟩;obtain⟨s2,g1,q',g2,g3,g4⟩:=Yi hq64 (u:=n) (by omega);obtain⟨o,b1,b2⟩:=fin q' (λj hj=>by rw[g4 j hj,hqb j hj,dF (show ¬(n:Int)<0 by omega),Bool.false_or]);rw[dT (show (n:Int)>=0 by omega),cT,g1,wC,g3,b2,wC]
    symm;exact xJ b1 rfl
theorem S0 {b:wD} (h:Af b) (hl:A4 M b) (p:Int) (up:Bool):gi b p up=bH b p up:=by
 unfold gi bH;rw[xQ hl,yB hl,wC,wC,KY h];cases hp0:xr b with
 | false=>rw[Ex h hp0];rfl
 | true =>
 have h:=Db h hp0;have hn:=h.n6
 have s:=h.sok;rw[DL h,wC,wC];cases hp:wL p 0 ((b.2.2.1.length:Int)-1)with
 | false=>rfl
 | true =>
  obtain⟨p0,p1⟩:=xI hp;obtain⟨k,rfl⟩:∃k:Nat,p=(k:Int):=⟨p.toNat,by omega⟩;have hk:k<b.2.2.1.length:=by omega
  have hq:C3 (up,b.2.2.1[k].2.1,false,0,0,0,0,0)=true:=by
   have:=h.p _ (getElem_mem hk);unfold C3 at this ⊢;simp only[aT]at this;rw[this.1];rfl
  have s':=HB s (P:=b.2.2.1.set k (up,b.2.2.1[k].2.1,false,0,0,0,0,0)) (by rw[length_set]) (Ew h.p hq);obtain⟨r,r1,r2,_⟩:=MM s';rw[Bool.not_true,cF,cT,wU hk,wC,wC,ym hk,wC,wC,List.getElem?_eq_getElem hk,wC,wC];refine (xJ (a:=r) r2 rfl).trans ?_;symm;exact xJ (a:=r) r1 rfl

theorem S3 {b:wD} (h:Af b) (hl:A4 M b) (p:Int) (v:Bv):gh b p v=bG b p v:=by
 unfold gh bG;rw[xQ hl,yB hl,wC,wC,KY h];cases hp0:xr b with
 | false=>rw[Ex h hp0];rfl
 | true =>
 have h:=Db h hp0;have hn:=h.n6
 have s:=h.sok;rw[DL h,wC,wC];cases hp:wL p 0 ((b.2.2.1.length:Int)-1)with
 | false=>rfl
 | true =>
  obtain⟨p0,p1⟩:=xI hp;obtain⟨k,rfl⟩:∃k:Nat,p=(k:Int):=⟨p.toNat,by omega⟩;have hk:k<b.2.2.1.length:=by omega
  rw[Bool.not_true,cF,cT,wU hk,wC,wC,wC,wC];cases hu:b.2.2.1[k].1 with
  | false=>rfl
  | true =>
   rw[Bool.not_true,cF,cT,Wj,O9,wC,wC,wC,wC];cases hv:HE v with
   | false=>rfl
   | true =>
    have hq:C3 (b.2.2.1[k].1,b.2.2.1[k].2.1,true,v.1,v.2.1,v.2.2.1,v.2.2.2.1,v.2.2.2.2)=true:=by
     have:=h.p _ (getElem_mem hk);unfold C3 at this ⊢;simp only[aT]at this;rw[this.1,hu];have hv':HE (v.1,v.2.1,v.2.2.1,v.2.2.2.1,v.2.2.2.2)=true:=hv
     simp[hv']
    rw[Bool.not_true,cF,cT,ym hk,wC,wC,List.getElem?_eq_getElem hk,wC,wC];have hk2:k<(b.2.2.1.set k (b.2.2.1[k].1,b.2.2.1[k].2.1,true,b.2.2.1[k].2.2.2.1,b.2.2.1[k].2.2.2.2.1,b.2.2.1[k].2.2.2.2.2.1,b.2.2.1[k].2.2.2.2.2.2.1,b.2.2.1[k].2.2.2.2.2.2.2)).length:=by rw[length_set];exact hk
    rw[ym hk2,wC,wC,List.getElem?_eq_getElem hk2,wC,wC,getElem_set_self,set_set];have s':=HB s (P:=b.2.2.1.set k (b.2.2.1[k].1,b.2.2.1[k].2.1,true,v.1,v.2.1,v.2.2.1,v.2.2.2.1,v.2.2.2.2)) (by rw[length_set]) (Ew h.p hq)
    obtain⟨r,r1,r2,_⟩:=MM s';refine (xJ (a:=r) r2 rfl).trans ?_;symm;exact xJ (a:=r) r1 rfl
theorem T5 {b:wD} (h:Af b) (hl:A4 M b) (x:Act):df b x=some (RY b x):=by
 obtain⟨r,r1,_⟩:=Y0 h hl x;rw[NW r1];unfold oB at r1;unfold df;by_cases k3:x.1=3
 · rw[if_pos k3]at r1;rw[show (x.1==3)=true from beq_iff_eq.2 k3,cT,NZ h hl];exact xJ r1 rfl
 rw[if_neg k3]at r1;rw[beq_eq_false_iff_ne.2 k3,cF];by_cases k4:x.1=4
 · rw[if_pos k4]at r1;rw[show (x.1==4)=true from beq_iff_eq.2 k4,cT,S3 h hl];obtain⟨q,q1,q2⟩:=Option.bind_eq_some_iff.1 r1;cases q2;exact xJ q1 rfl
 rw[if_neg k4]at r1;rw[beq_eq_false_iff_ne.2 k4,cF];by_cases k5:x.1=5
 · rw[if_pos k5]at r1;rw[show (x.1==5)=true from beq_iff_eq.2 k5,cT,S0 h hl];obtain⟨q,q1,q2⟩:=Option.bind_eq_some_iff.1 r1;cases q2;exact xJ q1 rfl
 rw[if_neg k5]at r1;rw[beq_eq_false_iff_ne.2 k5,cF];by_cases k6:x.1=6
 · rw[if_pos k6]at r1;rw[show (x.1==6)=true from beq_iff_eq.2 k6,cT];obtain⟨t,t1,t2,_⟩:=RV h hl;rw[t1]at r1;cases r1;exact xJ t2 rfl
 rw[if_neg k6]at r1;rw[beq_eq_false_iff_ne.2 k6,cF,yB hl];cases r1;rfl
def O0 (n:Nat) (x:Act):Prop:=x.2.2.2.1.length<=n/\x.2.2.2.2.2.2.2.1.length<=n
def S4 (x:Act):yE:=(x.2.2.2.2.1,x.2.2.2.2.2.1,x.2.2.2.2.2.2.1,x.2.2.2.2.2.2.2.1)
theorem Uz {f:yE} {left:Int} (hl:In left) (h:f.2.2.2.length<=maxLen):zM left (jz f left) (f.2.2.2.length<=M) :=
 Bt (yZ (LF hl h) λr k1 k2=>Bm k1) λ⟨a,_⟩=>a
theorem Xk {x:Act} {left:Int} (hl:In left) (h:O0 maxLen x):zM left (jb x left) (O0 M x) :=
 Bt (yZ (LF hl h.1) λr k1 k2=>yZ (Uz (f:=S4 x) (hl.next k1 k2) h.2) λr' k3 k4=>Bm k3) λ⟨a,b,_⟩=>⟨a,b⟩
theorem UA {f:yE} (h:f.2.2.2.length<=M):gk f=some f:=by
 unfold gk;rw[LG h,wC]
theorem Xl {x:Act} (h:O0 M x):cm x=some x:=by
 unfold cm;have h2:=UA (f:=S4 x) h.2
 unfold S4 at h2;rw[LG h.1,wC,h2,wC];rfl
theorem Pv {f:yE} (h:f.2.2.2.length<=M):eT f f=some true:=by
 unfold eT;simp[LH h]
theorem Xm {x:Act} (h:O0 M x):gE x x=some true:=by
 have h2:=Pv (f:=S4 x) h.2;unfold S4 at h2;unfold gE;simp[LH h.1,h2,TP]
theorem W6 {x:Act} (h:Cs.wf Ao x):O0 maxLen x:=by
 simp only[Ao,Cs.wf,CT.wf]at h;exact⟨h.2.2.2.1.1,h.2.2.2.2.2.2.2.1.1⟩
def QB (x:Act):Prop:=zE x.2.2.2.1/\x.2.2.2.1.length<=M
def OL (n:Nat) (o:List xm):Prop:=o.length<=n/\∀y∈o,y.2.2.2.2.length<=20
theorem ID {n:Nat}:OL n []:=⟨Nat.zero_le _,λy hy=>by cases hy⟩
theorem OL.app {n m:Nat} {o p:List xm} (h:OL n o) (k:OL m p):OL (n+m) (o++p):=⟨by rw[length_append];exact Nat.add_le_add h.1 k.1,λy hy=>(mem_append.1 hy).elim (h.2 y) (k.2 y)⟩
theorem OL.le {n m:Nat} {o:List xm} (h:OL n o) (k:n<=m):OL m o:=⟨Nat.le_trans h.1 k,h.2⟩
theorem TO {b:wD} (h:xE b) (i:Int) {f:yE} (hf:f.2.2.2.length<=20) (c:Int) (cl:Int×Bool) (q:Int->Option Bool) (hq:∀k,∃t,q k=some t) {k:Nat} (hk:k<b.2.2.1.length) {out:List xm} (ho:out.length<=10) :
 ∃o:List xm,(o=out\/∃y:xm,o=out++[y]/\y.2.2.2.2.length<=20)/\(((cond ((k:Int) != i) ((bp (b.2.2.2.2.1,b.2.2.2.2.2.1) cl.1).bind λt89=>(ap (zc .i64 c t89) (k:Int)).bind λt92=>some t92) (some false)).bind λt93 =>
  (cond t93 ((q (k:Int)).bind λt101=>some t101) (some false)).bind λt102 =>
  cond t102 ((bq (b.2.2.2.2.1,b.2.2.2.2.2.1) cl.1 (k:Int)).bind λt110=>(bY f t110).bind λt111=>(app out [((k:Int),t111.1,t111.2.1,t111.2.2.1,t111.2.2.2)]).bind λzs114=>some (.inl (wE ((k:Int)+1),zs114)))
   (some (.inl (wE ((k:Int)+1),out)))):Option ((Int×List xm)⊕List xm))=some (.inl (((k+1:Nat):Int),o)):=by
 have s:=h.sok;have hv:=s.v
 have hn:=h.n6;obtain⟨e,he⟩:=LE (v:=(b.2.2.2.2.1,b.2.2.2.2.2.1)) hv cl.1;obtain⟨t,ht,_⟩:=HO (zc .i64 c e) (k:=k) (by omega);obtain⟨u,hu⟩:=hq (k:Int);obtain⟨g,hg⟩:=NR (v:=(b.2.2.2.2.1,b.2.2.2.2.2.1)) hv cl.1 (k:=k) (by omega);have no:∃o:List xm,(o=out\/∃y:xm,o=out++[y]/\y.2.2.2.2.length<=20)/\(some (.inl (wE ((k:Int)+1),out)):Option ((Int×List xm)⊕List xm))=some (.inl (((k+1:Nat):Int),o)):=⟨out,.inl rfl,by rw[wQ (by omega)]⟩
 rw[wQ (by omega)]at no ⊢;rw[he,wC,ht,wC,hu,wC,hg,wC,T1 hf,wC,wO (by show out.length+1<=_;omega),wC];cases (k:Int) != i<;>cases t<;>cases u<;>first|exact no|exact⟨_,.inr ⟨_,rfl,hf⟩,rfl⟩
theorem O1 {b:wD} (hn:b.2.2.1.length<=6) (step:Int×List xm->Option ((Int×List xm)⊕List xm))
 (hs:∀(k:Nat) (out:List xm),k<b.2.2.1.length->out.length<=10->∃o:List xm,(o=out\/∃y:xm,o=out++[y]/\y.2.2.2.2.length<=20)/\step ((k:Int),out)=some (.inl (((k+1:Nat):Int),o)))
 (he:∀out:List xm,step ((b.2.2.1.length:Int),out)=some (.inr out)):∃o:List xm,loop step (0,[])=some o/\OL 6 o:=by
 obtain⟨v,h1,h2⟩:=xi (step:=step) (λk z=>z.1=(k:Int)/\OL k z.2) b.2.2.1.length (λv=>OL 6 v)
  (λk z hk ⟨e1,e2⟩=>by
   obtain⟨i,out⟩:=z;simp only at e1 e2;subst e1;obtain⟨o,o1,o2⟩:=hs k out hk (by have:=e2.1;omega);refine .inl ⟨_,o2,rfl,?_⟩;rcases o1 with rfl|⟨y,rfl,hy⟩
   · exact e2.le (by omega)
   · exact e2.app ⟨Nat.le_refl _,λz hz=>by rw[mem_singleton.1 hz];exact hy⟩)
  (λz ⟨e1,e2⟩=>by
   obtain⟨i,out⟩:=z;simp only at e1 e2;subst e1;exact⟨out,he out,e2.le hn⟩) (x:=(0,[])) ⟨rfl,ID⟩
 exact⟨v,h1,h2⟩
theorem Xn {b:wD} (h:xE b) (i:Int) (f:yE):∃r,aO b i f=some r/\xE r.1/\OL 6 r.2:=by
 have s:=h.sok;have hn:=h.n6
 have hv:=s.v;have hq:=s.q
 obtain⟨q1,q2,q3,q4,q5⟩:=A2 (Bp h.ok).1;have hfb:=HN h.f
 unfold aO;rw[xQ h.le,wC,DL h,wC];cases hp:wL i 0 ((b.2.2.1.length:Int)-1)with
 | false=>exact⟨(b,[]),rfl,h,ID⟩
 | true =>
 rw[Bool.not_true,cF,NP,wC,wC];cases hf:E7 f with
 | false=>exact⟨(b,[]),rfl,h,ID⟩
 | true =>
 have hlen:f.2.2.2.length<=20:=by
  unfold E7 at hf;simp only[aT,decide_eq_true_eq]at hf;omega
 obtain⟨p0,p1⟩:=xI hp;obtain⟨k,rfl⟩:∃k:Nat,i=(k:Int):=⟨i.toNat,by omega⟩;have hk:k<b.2.2.1.length:=by omega
 obtain⟨c,_,hc,_⟩:=L9 b.1 (l:=b.2.2.1) (by omega);obtain⟨cl,hcl⟩:=NQ (v:=(b.2.2.2.2.1,b.2.2.2.2.2.1)) hv (by show b.2.2.2.2.2.1.length<=6;omega) (k:=k) (by show k<b.2.2.2.2.2.1.length;omega) f.2.2.1;obtain⟨t,ht,_⟩:=HO (c:Int) (k:=k) (by omega);rw[Bool.not_true,cF,hc,wC,hcl,wC,ht,wC];have hdrop:∃r,((au b.2.2.2.2.2.2.2.2.2.1).bind λt51=>some ((b.1,b.2.1,b.2.2.1,b.2.2.2.1,b.2.2.2.2.1,b.2.2.2.2.2.1,b.2.2.2.2.2.2.1,b.2.2.2.2.2.2.2.1,b.2.2.2.2.2.2.2.2.1,t51,b.2.2.2.2.2.2.2.2.2.2),([]:List xm)))=some r/\xE r.1/\OL 6 r.2:=by
  rw[CO,wC];have s':=KT s hfb (d:=B6 b.2.2.2.2.2.2.2.2.2.1) (v:=b.2.2.2.2.2.2.2.2.2.2) (D8 q4) q5
  exact⟨_,rfl,Db (H6 s' s'.le) (s'.ok h.v),ID⟩
 cases t with
 | false=>rw[Bool.not_false,cT,wC,cT];exact hdrop
 | true =>
 rw[Bool.not_true,cF,wC];cases cl.2 with
 | false=>rw[Bool.not_false,cT];exact hdrop
 | true =>
 rw[Bool.not_true,cF];obtain⟨F,hF,hFB⟩:=NO hfb cl.1 f.2.1 (k:Int);rw[hF,wC,CO,wC];have s':=KT s hFB (d:=b.2.2.2.2.2.2.2.2.2.1) (v:=B6 b.2.2.2.2.2.2.2.2.2.2) q4 (D8 q5)
 have hB:=Db (H6 s' s'.le) (s'.ok h.v);cases f.1 != 0 with
 | true =>
  obtain⟨u,hu⟩:=TJ hFB.n cl.1 f.1;obtain⟨o,o1,o6⟩:=O1 hn (λz=>aw b (k:Int) f (c:Int) cl u z.1 z.2) (λj out hj ho=>by
   obtain⟨o,o1,o2⟩:=TO h (k:Int) hlen (c:Int) cl (λk=>cond (decide (u<0)) (some true) (some (u==k))) (λk=>by cases decide (u<0)<;>exact⟨_,rfl⟩) hj ho;refine⟨o,o1,?_⟩;show aw b (k:Int) f (c:Int) cl u (j:Int) out=_
   unfold aw;rw[xk (by omega),cT];exact o2) (λout=>by
   show aw b (k:Int) f (c:Int) cl u (b.2.2.1.length:Int) out=_;unfold aw;rw[x7 (by omega),cF])
  rw[cT,hu,wC];exact⟨_,xJ o1 rfl,hB,o6⟩
 | false =>
  obtain⟨o,o1,o6⟩:=O1 hn (λz=>ax b (k:Int) f (c:Int) cl z.1 z.2) (λj out hj ho=>by
   obtain⟨o,o1,o2⟩:=TO h (k:Int) hlen (c:Int) cl (λk=>cond (decide ((-1:Int)<0)) (some true) (some ((-1)==k))) (λk=>⟨true,rfl⟩) hj ho;refine⟨o,o1,?_⟩;show ax b (k:Int) f (c:Int) cl (j:Int) out=_
   unfold ax;rw[xk (by omega),cT];exact o2) (λout=>by
   show ax b (k:Int) f (c:Int) cl (b.2.2.1.length:Int) out=_;unfold ax;rw[x7 (by omega),cF])
  rw[cF];exact⟨_,xJ o1 rfl,hB,o6⟩
theorem Yj {b:wD} (h:Af b) (hl:A4 M b) (x:Act):∃r,oB b x=some r/\Af r.1/\A4 M r.1/\OL 6 r.2/\(xr b=true->xE r.1)/\(xr b=false->r=(b,[])):=by
 cases hp:xr b with
 | false =>
  have e:oB b x=some (b,[]):=by
   unfold oB;split
   · unfold aO;rw[xQ hl,Ex h hp];rfl
   · split
     · unfold bG;rw[xQ hl,Ex h hp];rfl
     · split
       · unfold bH;rw[xQ hl,Ex h hp];rfl
       · split
         · unfold bI;rw[xQ hl,Bb h,hp];rfl
         · rfl
  exact⟨_,e,h,hl,ID,(λh=>by cases h),λ_=>rfl⟩
 | true =>
  have hB:=Db h hp;have ok:∀{r:wD×List xm},oB b x=some r->xE r.1->OL 6 r.2->∃r,oB b x=some r/\Af r.1/\A4 M r.1/\OL 6 r.2/\(true=true->xE r.1)/\(true=false->r=(b,[])):=λe k hn=>⟨_,e,k.w,k.le,hn,λ_=>k,λh=>by cases h⟩
  unfold oB at ok ⊢;split
  · rename_i h3;obtain⟨r,r1,r2,r3⟩:=Xn hB x.2.1 (TM x);exact⟨r,r1,r2.w,r2.le,r3,λ_=>r2,λh=>by cases h⟩
  · split
    · obtain⟨r,r1,r2⟩:=TI hB x.2.1 (VX x);exact⟨(r,[]),by rw[r1];rfl,r2.w,r2.le,ID,λ_=>r2,λh=>by cases h⟩
    · split
      · obtain⟨r,r1,r2⟩:=TH hB x.2.1 x.2.2.1;exact⟨(r,[]),by rw[r1];rfl,r2.w,r2.le,ID,λ_=>r2,λh=>by cases h⟩
      · split
        · obtain⟨r1,r2,_⟩:=Qt hB;exact⟨(DX b,[]),by rw[r1];rfl,r2.w,r2.le,ID,λ_=>r2,λh=>by cases h⟩
        · exact⟨(b,[]),rfl,h,hl,ID,λ_=>hB,λh=>by cases h⟩
theorem Yk {a:wW} (h:HD a) {x:Act} (hx:QB x):∃r,bZ a x=some r/\HD r.1/\OL 6 r.2.1/\r.2.2.length<=1/\(∀d∈r.2.2,zk M d.2)/\(Ar a=false->r=(a,[],[]))/\(Ar a=true->3<=x.1->Ar r.1=true/\r.1=yv (RY (aB a) x) (aW a) (wG a) (zl a) (xn a)):=by
 have hml:x.2.2.2.1.length<=M:=hx.2;unfold bZ;rw[E9 h.2.1,wC,IJ h.1,wC];cases hp:Ar a with
 | false=>exact⟨(a,[],[]),rfl,h,ID,Nat.zero_le _,(λd hd=>by cases hd),λ_=>rfl,λh=>by cases h⟩
 | true =>
  have hA:=Pm h.1 h.2.1 h.2.2 hp;rw[Bool.not_true,cF];by_cases h3:3<=x.1
  · obtain⟨r,r1,r2,r3,r4,r5,_⟩:=Yj hA.b.w hA.b.le x;have hI:=Xb hA (r5 hA.b.ok)
    exact⟨_,xJ (VY a h3 r1) rfl,hI.any,r4,Nat.zero_le _,(λd hd=>by cases hd),(λh=>by cases h),λ_ _=>⟨hI.ok,by rw[NW r1]⟩⟩
  · have fin:∀{r:wW×List xm×List xZ},br a x=some r->HD r.1->r.2.1=[]->r.2.2.length<=1->(∀d∈r.2.2,zk M d.2)->∃r,((br a x).bind λt18=>some t18)=some r/\HD r.1/\OL 6 r.2.1/\r.2.2.length<=1/\(∀d∈r.2.2,zk M d.2)/\(true=false->r=(a,[],[]))/\(true=true->3<=x.1->Ar r.1=true/\r.1=yv (RY (aB a) x) (aW a) (wG a) (zl a) (xn a)) :=
     λe k1 k2 k3 k4=>⟨_,xJ e rfl,k1,by rw[k2];exact ID,k3,k4,(λh=>by cases h),λ_ h=>absurd h h3⟩
    unfold br at fin ⊢;have hn:=hA.n
    by_cases h1:x.1=1
    · rw[show (x.1==1)=true by rw[h1];rfl]at fin ⊢;obtain⟨r,r1,_,r3,_⟩:=Pr hA hx.1 hml;exact fin (r:=(r,[],[])) (by rw[cT];exact xJ r1 rfl) r3.any rfl (Nat.zero_le _) λd hd=>by cases hd
    rw[beq_eq_false_iff_ne.2 h1]at fin ⊢;by_cases h2:x.1=2
    · rw[show (x.1==2)=true by rw[h2];rfl]at fin ⊢;have e:wE ((a.2.2.2.2.2.2.2.2.2.2.2.2.1.length:Int)-1)=((wG a).length:Int)-1:=xq (by show -9223372036854775808<=((wG a).length:Int)-1;omega) (by show ((wG a).length:Int)-1<=_;omega)
      rw[e,zQ]at fin ⊢;cases hpk:wL x.2.1 0 (((wG a).length:Int)-1)with
      | false =>
       rw[hpk]at fin;exact fin (r:=(a,[],[])) rfl h rfl (Nat.zero_le _) λd hd=>by cases hd
      | true =>
       rw[hpk]at fin;obtain⟨p0,p1⟩:=xI hpk;obtain⟨k,hk⟩:∃k:Nat,x.2.1=(k:Int):=⟨x.2.1.toNat,by omega⟩;have hk':k<(wG a).length:=by omega
       obtain⟨w1,w2⟩:=SX hA hk';refine fin (r:=((BT a k (wG a)[k]).1,[],(BT a k (wG a)[k]).2)) ?_ w1.any rfl w2 (VW hA hk');rw[cF,cT,wC,cT,hk];exact xJ (TG hA hk') rfl
    rw[beq_eq_false_iff_ne.2 h2,beq_eq_false_iff_ne.2 (show x.1≠3 by omega),beq_eq_false_iff_ne.2 (show x.1≠4 by omega),beq_eq_false_iff_ne.2 (show x.1≠5 by omega),beq_eq_false_iff_ne.2 (show x.1≠6 by omega)]at fin ⊢;exact fin (r:=(a,[],[])) rfl h rfl (Nat.zero_le _) λd hd=>by cases hd
theorem W7 {a:wW} (h:HD a) {x:Act} (hx:QB x):bZ a x=some (KW a x)/\HD (KW a x).1/\OL 6 (KW a x).2.1/\(KW a x).2.2.length<=1/\(∀d∈(KW a x).2.2,zk M d.2):=by
 obtain⟨r,r1,r2,r3,r4,r5,_⟩:=Yk h hx;have e:KW a x=r:=by unfold KW;rw[r1];rfl
 rw[e];exact⟨r1,r2,r3,r4,r5⟩
theorem UB {a:wW} (h:HD a) {x:Act} (hx:QB x):gj a x=some (KW a x):=by
 have hml:x.2.2.2.1.length<=M:=hx.2;obtain⟨e1,_⟩:=W7 h hx;rw[←e1];unfold gj bZ;rw[E9 h.2.1,EA h.2.1,wC,wC,IJ h.1,Lc h.1,wC,wC];cases hp:Ar a with
 | false=>rfl
 | true =>
  have hA:=Pm h.1 h.2.1 h.2.2 hp;have hn:=hA.n
  rw[Bool.not_true,cF,cF];by_cases h1:x.1=1
  · obtain⟨r,r1,r2,_⟩:=Pr hA hx.1 hml;unfold br;rw[show (x.1==1)=true by rw[h1];rfl,cT,cT,r1,r2];rfl
  by_cases h2:x.1=2
  · unfold br;rw[beq_eq_false_iff_ne.2 h1,cF,cF,show (x.1==2)=true by rw[h2];rfl,cT,cT];have e:wE ((a.2.2.2.2.2.2.2.2.2.2.2.2.1.length:Int)-1)=((wG a).length:Int)-1:=xq (by show -9223372036854775808<=((wG a).length:Int)-1;omega) (by show ((wG a).length:Int)-1<=_;omega)
    rw[e,zQ,wC];cases hpk:wL x.2.1 0 (((wG a).length:Int)-1)with
    | false =>
     have hk':x.2.1<0\/((wG a).length:Int)<=x.2.1:=by
      unfold wL at hpk;by_cases h0:0<=x.2.1
      · rw[dT h0,Bool.true_and,decide_eq_false_iff_not]at hpk;omega
      · omega
     rw[Uw hA hk'];rfl
    | true =>
     obtain⟨p0,p1⟩:=xI hpk;obtain⟨k,hk⟩:∃k:Nat,x.2.1=(k:Int):=⟨x.2.1.toNat,by omega⟩;have hk':k<(wG a).length:=by omega
     rw[hk,VR hA hk',cT,TG hA hk'];rfl
  rw[beq_eq_false_iff_ne.2 h1,cF,beq_eq_false_iff_ne.2 h2,cF];by_cases h3:3<=x.1
  · obtain⟨r,r1,_⟩:=Y0 hA.b.w hA.b.le x;have hb:=T5 hA.b.w hA.b.le x
    rw[NW r1]at hb;refine Eq.trans ?_ (Eq.symm (xJ (VY a h3 r1) (r:=some (yv r.1 (aW a) (wG a) (zl a) (xn a),r.2,[])) rfl));by_cases k3:x.1=3
    · rw[show (x.1==3)=true from beq_iff_eq.2 k3,cT];unfold oB at r1;rw[if_pos k3]at r1;exact xJ ((NZ hA.b.w hA.b.le x.2.1 (TM x)).trans r1) rfl
    have ho:r.2=[]:=by
     unfold oB at r1;rw[if_neg k3]at r1;split at r1
     · obtain⟨q,q1,q2⟩:=Option.bind_eq_some_iff.1 r1;cases q2;rfl
     · split at r1
       · obtain⟨q,q1,q2⟩:=Option.bind_eq_some_iff.1 r1;cases q2;rfl
       · split at r1
         · obtain⟨q,q1,q2⟩:=Option.bind_eq_some_iff.1 r1;cases q2;rfl
         · cases r1;rfl
    rw[beq_eq_false_iff_ne.2 k3,cF,ho];by_cases k4:x.1=4
    · rw[show (x.1==4)=true from beq_iff_eq.2 k4,cT,cT];exact xJ hb rfl
    rw[beq_eq_false_iff_ne.2 k4,cF];by_cases k5:x.1=5
    · rw[show (x.1==5)=true from beq_iff_eq.2 k5,cT,cT];exact xJ hb rfl
    rw[beq_eq_false_iff_ne.2 k5,cF];by_cases k6:x.1=6
    · rw[show (x.1==6)=true from beq_iff_eq.2 k6,cT];exact xJ hb rfl
    rw[beq_eq_false_iff_ne.2 k6,cF];unfold oB at r1;rw[if_neg k3,if_neg k4,if_neg k5,if_neg k6]at r1;cases r1;rfl
  · unfold br;rw[beq_eq_false_iff_ne.2 h1,cF,beq_eq_false_iff_ne.2 h2,cF,beq_eq_false_iff_ne.2 (show x.1≠3 by omega),cF,cF,beq_eq_false_iff_ne.2 (show x.1≠4 by omega),cF,cF,beq_eq_false_iff_ne.2 (show x.1≠5 by omega),cF,cF,beq_eq_false_iff_ne.2 (show x.1≠6 by omega),cF,cF];rfl
end Go.V.W

