/- The law FnRepliesBent: part of the proof that for every input it returns true. No condition. -/
import Derived.Test.YtpidgkkbmlgehaaGreatFnRepliesBentBP1
open List (any_eq_false append_nil flatMap_append getElem_mem getElem_of_mem length_append length_cons length_drop length_map length_nil length_set length_singleton length_take map_append map_map mem_append mem_cons mem_cons_of_mem mem_map mem_of_mem_take mem_range mem_singleton nil_append pairwise_cons take_add_one take_length take_of_length_le take_succ_cons)
set_option linter.unusedVariables false
set_option linter.unusedSimpArgs false
namespace Go.V.W
def Ak (b:oA) (o:List Int):Bool:=uZ o&&(match o.drop 3 with
 | [a,c]=>a==1&&oE c 2 5
 | [a,c,p]=>a==2&&((c==1||c==3)&&oE p 1 (qR b))
 | [a,c,p,q]=>(a==4&&c==1)&&decide (zh b.2.2.2.1 p q>=0)
 | _=>false)
theorem IZ {b:oA} (hb:uI M b) {o:List Int} (ho:o.length<=M):ei b o=some (Ak b o):=by
 have hr:b.2.2.2.1.length<9223372036854775807:=by have:b.2.2.2.1.length<=1048576:=hb.2.2.1;omega
 unfold ei Ak;rw[IU ho,oy];cases uZ o with
 | false=>rfl
 | true =>
  simp only[cT,Bool.not_true,cF,Bool.true_and]
  match o.drop 3 with
  | []=>rfl
  | [a]=>rfl
  | [a,c] =>
   rw[show (([a,c].length:Int)==2)=true from rfl,cT,show at? [a,c] 0=some a from rfl,show at? [a,c] 1=some c from rfl];simp only[oy,uN];cases a==1<;>rfl
  | [a,c,p] =>
   rw[show (([a,c,p].length:Int)==2)=false from rfl,cF,show (([a,c,p].length:Int)==3)=true from rfl,cT,show at? [a,c,p] 0=some a from rfl,show at? [a,c,p] 1=some c from rfl,show at? [a,c,p] 2=some p from rfl];simp only[oy,uN];cases a==2<;>cases c==1<;>cases c==3<;>simp
  | [a,c,p,q] =>
   rw[show (([a,c,p,q].length:Int)==2)=false from rfl,cF,show (([a,c,p,q].length:Int)==3)=false from rfl,cF,show (([a,c,p,q].length:Int)==4)=true from rfl,cT,show at? [a,c,p,q] 0=some a from rfl,show at? [a,c,p,q] 1=some c from rfl,show at? [a,c,p,q] 2=some p from rfl,show at? [a,c,p,q] 3=some q from rfl];simp only[oy,HB hr];cases a==4<;>cases c==1<;>simp
  | a::c::p::q::r::l =>
   simp only[length_cons];rw[show ((((l.length+1+1+1+1+1:Nat):Int))==2)=false from beq_eq_false_iff_ne.2 (by omega),show ((((l.length+1+1+1+1+1:Nat):Int))==3)=false from beq_eq_false_iff_ne.2 (by omega),show ((((l.length+1+1+1+1+1:Nat):Int))==4)=false from beq_eq_false_iff_ne.2 (by omega)];rfl

structure sD (b:oA):Prop where
 id:oE b.1 1 99=true
 name:b.2.1.length<=10
 n1:1<=b.2.2.1.length
 n6:b.2.2.1.length<=6
 p:∀x∈b.2.2.1,un x=true
 f:th b.2.2.2.1=true
 c:sF b=true
 q:b.2.2.2.2.2.1.length=b.2.2.1.length
 v:b.2.2.2.2.1.length<=6
 s:b.2.2.2.2.1.Pairwise λr s=>r.1<s.1
 i:∀r∈b.2.2.2.2.1,oE r.1 1 99=true
 h:∀r∈b.2.2.2.2.1,-9223372036854775808<=r.2.2/\r.2.2<=9223372036854775807
theorem sD.f12 {b:oA} (h:sD b):b.2.2.2.1.length<=12:=by
 have hf:=h.f;unfold th at hf;simp only[aT,decide_eq_true_eq]at hf;omega
theorem sD.le {b:oA} (h:sD b):uI M b:=by
 have h1:=h.name;have h2:=h.n6;have h3:=h.f12;have h4:=h.v;have h5:=h.q
 have hM:M=1048576:=rfl;exact⟨by omega,by omega,by omega,by omega,by omega⟩
theorem qe.sok {b:oA} (h:qe b):sD b:=by
 obtain⟨v1,v2,v3,v4⟩:=h.vt.len;refine⟨h.id,h.name,h.n1,h.n6,h.p,h.f,h.c,v3,v4,Bo h,λr hr=>?_,h.w.r⟩;obtain⟨k,hk,rfl⟩:=getElem_of_mem hr;have hv:=h.v
 unfold rg at hv;simp only[aT,Bool.not_eq_true']at hv;have hx:=any_eq_false.1 hv.2.1 k (mem_range.2 hk)
 unfold ud at hx;simp only[List.getElem?_eq_getElem hk]at hx;cases hq:oE b.2.2.2.2.1[k].1 1 99 with
 | true=>rfl
 | false=>rw[hq]at hx;simp at hx
theorem sW {o:List Int} (h:o.length<=2):(∀lo hi head,qo o lo hi head=false)/\uZ o=false:=by
 refine⟨λlo hi head=>?_,?_⟩
 · unfold qo;rw[beq_eq_false_iff_ne.2 (by omega),Bool.false_and]
 · unfold uZ;rw[dF (by omega),Bool.false_and]
theorem DV {x y z:Int} {t:List Int} (h:¬(x=1/\y=3/\z=1)):(∀lo hi head,qo (x::y::z::t) lo hi head=false)/\uZ (x::y::z::t)=false:=by
 refine⟨λlo hi head=>?_,?_⟩
 · unfold qo;have:((x::y::z::t).take (head.length+3)==[1,3,1]++head)=false:=by
    rw[bF];intro e;rw[take_succ_cons,take_succ_cons,take_succ_cons]at e;simp at e;exact h ⟨e.1,e.2.1,e.2.2.1⟩
   rw[this,Bool.false_and,Bool.and_false]
 · unfold uZ;have:((x::y::z::t).take 3==[1,3,1])=false:=by
    rw[bF];intro e;simp at e;exact h e
   rw[this,Bool.and_false]
theorem HU (t:List Int) (lo hi c:Int):qo (1::3::1::t) lo hi [c]=match t with | [a,x]=>a==c&&oE x lo hi|_=>false:=by
 match t with
 | []=>simp[qo]
 | [a]=>simp[qo]
 | [a,x]=>simp[qo]
 | a::x::y::t=>simp[qo]
theorem HV (t:List Int) (lo hi c d:Int):qo (1::3::1::t) lo hi [c,d]=match t with | [a,b,x]=>(a==c&&b==d)&&oE x lo hi|_=>false:=by
 match t with
 | []=>simp[qo]
 | [a]=>simp[qo]
 | [a,x]=>simp[qo]
 | [a,b,x]=>simp[qo]
 | a::b::x::y::t=>simp[qo]
theorem HW (t:List Int):uZ (1::3::1::t)=decide (0<t.length):=by
 unfold uZ;rw[show ((1::3::1::t).take 3==[1,3,1])=true from rfl,Bool.and_true];simp
theorem JD (c:Int):oE c 1 1=(c==1):=by
 unfold oE;by_cases h:c=1
 · subst h;rfl
 · rw[beq_eq_false_iff_ne.2 h];simp only[Bool.and_eq_false_iff,decide_eq_false_iff_not];omega
theorem Hb {b:oA} (h:sD b) (o:List Int):Ei b o=zR b o:=by
 unfold Ei zR
 match o with
 | []=>simp only[(sW (o:=[]) (by simp)).1,(sW (o:=[]) (by simp)).2];rfl
 | [x]=>simp only[(sW (o:=[x]) (by simp)).1,(sW (o:=[x]) (by simp)).2];rfl
 | [x,y]=>simp only[(sW (o:=[x,y]) (by simp)).1,(sW (o:=[x,y]) (by simp)).2];rfl
 | x::y::z::t =>
  by_cases h3:x=1/\y=3/\z=1
  · obtain⟨rfl,rfl,rfl⟩:=h3;simp only[HU,HV,HW,JD]
    match t with
    | []=>rfl
    | [a]=>simp
    | [a,c]=>simp
    | [a,c,p] =>
     have hp:decide (qt (s3 b) p>=0)=true->oE p 1 99=true:=by
      intro e;obtain⟨k,hk,_,e2⟩:=vJ (of_decide_eq_true e);rw[←e2];exact h.i _ (getElem_mem hk)
     have e5:(1::3::1::[a,c,p])[5]?=some p:=rfl;rw[e5];rw[show decide (0<[a,c,p].length)=true from rfl,Bool.true_and];show (((false:Bool)||((((a==2)&&(c==2))&&oE p 1 (qR b))||((((a==2)&&(c==4))&&oE p 1 (qR b))||((((a==3)&&(c==1))&&oE p 1 99)||(((((a==3)&&(c==2))&&oE p 1 99)||(((a==3)&&(c==3))&&oE p 1 99))&&decide (qt (s3 b) p>=0)))))))=((a==2)&&(((c==2)||(c==4))&&oE p 1 (qR b))||(a==3)&&((c==1)&&oE p 1 99||((c==2)||(c==3))&&decide (qt (s3 b) p>=0)))
     revert hp
     generalize (a==2)=a2;generalize (a==3)=a3;generalize (c==1)=c1;generalize (c==2)=c2;generalize (c==3)=c3;generalize (c==4)=c4;generalize oE p 1 (qR b)=pn;generalize oE p 1 99=pg;generalize decide (qt (s3 b) p>=0)=R;clear e5
     revert a2 a3 c1 c2 c3 c4 pn pg R
     decide
    | a::c::p::q::l=>simp
  · simp only[(DV (t:=t) h3).1,(DV (t:=t) h3).2];rfl
theorem EU {b:oA} (h:sD b) (o:List Int):BF b o=Ak b o:=by
 unfold BF Ak
 match o with
 | []=>simp only[(sW (o:=[]) (by simp)).1,(sW (o:=[]) (by simp)).2];rfl
 | [x]=>simp only[(sW (o:=[x]) (by simp)).1,(sW (o:=[x]) (by simp)).2];rfl
 | [x,y]=>simp only[(sW (o:=[x,y]) (by simp)).1,(sW (o:=[x,y]) (by simp)).2];rfl
 | x::y::z::t =>
  by_cases h3:x=1/\y=3/\z=1
  · obtain⟨rfl,rfl,rfl⟩:=h3;simp only[HU,HV,HW,JD]
    match t with
    | []=>rfl
    | [a]=>simp
    | [a,c]=>simp
    | [a,c,p] =>
     have e7:((1::3::1::[a,c,p]).length==7)=false:=rfl;rw[e7,Bool.false_and,Bool.false_and,Bool.false_or];show ((a==2&&c==1)&&oE p 1 (qR b)||((a==2&&c==3)&&oE p 1 (qR b)||false))=(true&&(a==2&&((c==1||c==3)&&oE p 1 (qR b))))
     cases (a==2)<;>cases (c==1)<;>cases (c==3)<;>simp
    | [a,c,p,q]=>simp
    | a::c::p::q::r::l=>simp
  · simp only[(DV (t:=t) h3).1,(DV (t:=t) h3).2];rw[Bool.false_or,Bool.false_or,Bool.false_or,Bool.false_and];have:((x::y::z::t).take 5==[1,3,1,4,1])=false:=by
     rw[bF];intro e;simp at e;exact h3 ⟨e.1,e.2.1,e.2.2.1⟩
    rw[this,Bool.and_false,Bool.false_and]
def pS (r:oO):Bool->List oO->List oO
 | false,[]=>[r]
 | true,[]=>[]
 | false,x::t=>if x.1>=r.1 then r::(if x.1 != r.1 then x::pS r true t else pS r true t)else x::pS r false t
 | true,x::t=>if x.1 != r.1 then x::pS r true t else pS r true t
theorem wK {r:oO}:∀{l:List oO},(∀x∈l,x.1≠r.1)->pS r true l=l
 | [],_=>rfl
 | x::t,h=>by
  unfold pS;rw[if_pos (bne_iff_ne.2 (h x (by simp))),wK λy hy=>h y (mem_cons_of_mem _ hy)]
theorem zG {r:oO}:∀{l:List oO} {k:Nat} (hk:k<l.length),l.Pairwise (λr s=>r.1<s.1)->l[k].1=r.1->pS r false l=l.set k r
 | x::t,0,_,hp,e=>by
  have e':x.1=r.1:=e;unfold pS;rw[if_pos (by omega),if_neg (by simp[e']),wK λy hy=>by have:=(pairwise_cons.1 hp).1 y hy;omega];rfl
 | x::t,k+1,hk,hp,e=>by
  have e':(t[k]'(by simpa using hk)).1=r.1:=e;have:=(pairwise_cons.1 hp).1 _ (getElem_mem (by simpa using hk:k<t.length))
  unfold pS;rw[if_neg (by omega),zG (by simpa using hk) (pairwise_cons.1 hp).2 e'];rfl
theorem D1 {r:oO}:∀{l:List oO} {d:Nat},l.Pairwise (λr s=>r.1<s.1)->(∀x∈l,x.1≠r.1)->(∀x∈l.take d,x.1<=r.1)->(∀x,l[d]?=some x->¬x.1<=r.1)->pS r false l=l.take d++r::l.drop d
 | [],d,_,_,_,_=>by simp[pS]
 | x::t,0,hp,hn,_,h2=>by
  have:=h2 x rfl;unfold pS;rw[if_pos (by omega),if_pos (bne_iff_ne.2 (hn x (by simp))),wK λy hy=>hn y (mem_cons_of_mem _ hy)];rfl
 | x::t,d+1,hp,hn,h1,h2=>by
  have a1:=h1 x (by simp);have a2:=hn x (by simp)
  unfold pS;rw[if_neg (by omega),D1 (d:=d) (pairwise_cons.1 hp).2 (λy hy=>hn y (mem_cons_of_mem _ hy)) (λy hy=>h1 y (by rw[take_succ_cons];exact mem_cons_of_mem _ hy)) (λy hy=>h2 y (by simpa using hy))];rfl
theorem HX {v:pk} (r:oO) (h1:v.1.length<=1000) (h2:v.2.length<=1000):az v r=some (pS r false v.1,v.2):=by
 unfold az;rw[oH (by show 0+v.2.length<=_;omega),oy];obtain⟨b,e1,e2⟩:=oR (β:=Bool×List oO) (step:=λz:Bool×Int×List oO=>aw v r z.1 z.2.1 z.2.2)
  (λk z=>z.2.1=(k:Int)/\z.2.2++pS r z.1 (v.1.drop k)=pS r false v.1/\z.2.2.length<=2*k) v.1.length
  (λz=>z.2++pS r z.1 []=pS r false v.1/\z.2.length<=2000)
  (λk z hk ⟨z1,z2,z3⟩=>by
   obtain⟨dn,i,out⟩:=z;simp only at z1 z2 z3;subst z1;left;have hd:v.1.drop k=v.1[k]::v.1.drop (k+1):=List.drop_eq_getElem_cons hk
   have hw:oB ((k:Int)+1)=((k+1:Nat):Int):=oQ (by omega);have ha:∀(x:oO),oX out [x]=some (out++[x]):=λx=>oH (by show _+1<=_;omega)
   have hb:∀(x y:oO),oX (out++[x]) [y]=some (out++[x]++[y]):=λx y=>oH (by simp only[length_append,length_cons,length_nil];omega);rw[hd]at z2;generalize hG:pS r false v.1=G at z2 ⊢;unfold aw;simp only[pr (show (k:Int)<(v.1.length:Int) by omega),cT,oT hk,oy,ha,hb,hw];cases dn with
   | true =>
    simp only[Bool.not_true,cF,oy];unfold pS at z2;cases hq:(v.1[k].1 != r.1)with
    | true =>
     rw[hq]at z2;exact⟨_,rfl,rfl,by simpa using z2,by simp;omega⟩
    | false =>
     rw[hq]at z2;exact⟨_,rfl,rfl,by simpa using z2,by simp;omega⟩
   | false =>
    simp only[Bool.not_false,cT,oy];unfold pS at z2;by_cases hg:v.1[k].1>=r.1
    · rw[if_pos hg]at z2;simp only[dT hg,cT];cases hq:(v.1[k].1 != r.1)with
      | true =>
       rw[hq]at z2;exact⟨_,rfl,rfl,by simpa using z2,by simp;omega⟩
      | false =>
       rw[hq]at z2;exact⟨_,rfl,rfl,by simpa using z2,by simp;omega⟩
    · rw[if_neg hg]at z2;simp only[dF hg,cF,bne_iff_ne.2 (show v.1[k].1≠r.1 by omega),cT];exact⟨_,rfl,rfl,by simpa using z2,by simp;omega⟩)
  (λz ⟨z1,z2,z3⟩=>by
   obtain⟨dn,i,out⟩:=z;simp only at z1 z2 z3;subst z1;rw[List.drop_length]at z2;refine⟨(dn,out),?_,z2,by show out.length<=2000;have:out.length<=2*v.1.length:=z3;omega⟩;unfold aw;rw[pb (by omega),cF]) (x:=(false,0,[])) ⟨rfl,rfl,by simp⟩
 rw[e1,oy];obtain⟨dn,out⟩:=b;simp only at e2 ⊢;cases dn with
 | true =>
  rw[Bool.not_true,cF,←e2.1];simp[pS]
 | false =>
  rw[Bool.not_false,cT,oH (by show _+1<=_;omega),oy,←e2.1];rfl
theorem FW {v:pk} (r:oO) (h1:v.1.length<=1000) (h2:v.2.length<=1000) (hp:v.1.Pairwise λr s=>r.1<s.1):dU v r=some (pS r false v.1,v.2):=by
 unfold dU;have hM:M=1048576:=rfl
 rw[zP ⟨by omega,by omega⟩,oy,yT (by omega),oy];by_cases hr:qt v.1 r.1>=0
 · obtain⟨k,hk,e1,e2⟩:=vJ hr;have hx:ix v.1.length (k:Int)=some k:=by unfold ix;rw[if_pos (by omega),if_pos (by omega),Int.toNat_natCast]
   rw[dT hr,cT,e1,hx,oy,List.getElem?_eq_getElem hk,oy,zG hk hp e2]
 · rw[dF hr,cF];have hn:=Eh (by omega:qt v.1 r.1<0)
   obtain⟨d,e1,k,hk,rfl,e3,e4⟩:=oR (β:=Int) (step:=λz=>ff v r z)
    (λk z=>z=(k:Int)/\∀x∈v.1.take k,x.1<=r.1) v.1.length
    (λz=>∃k:Nat,k<=v.1.length/\z=(k:Int)/\(∀x∈v.1.take k,x.1<=r.1)/\(∀x,v.1[k]?=some x->¬x.1<=r.1))
    (λk z hk ⟨z1,z2⟩=>by
     subst z1;unfold ff;simp only[pr (show (k:Int)<(v.1.length:Int) by omega),cT,oT hk,oy];by_cases hq:v.1[k].1<=r.1
     · refine .inl ⟨_,by rw[dT hq,cT],oQ (by omega),λx hx=>?_⟩;rw[take_add_one,List.getElem?_eq_getElem hk,mem_append]at hx;rcases hx with hx|hx
       · exact z2 x hx
       · simp at hx;subst hx;exact hq
     · refine .inr ⟨_,by rw[dF hq,cF],k,by omega,rfl,z2,λx hx=>?_⟩;rw[List.getElem?_eq_getElem hk]at hx;cases hx;exact hq)
    (λz ⟨z1,z2⟩=>by
     subst z1;refine⟨(v.1.length:Int),?_,v.1.length,Nat.le_refl _,rfl,z2,λx hx=>?_⟩
     · unfold ff;rw[pb (by omega),cF];rfl
     · rw[List.getElem?_eq_none (Nat.le_refl _)]at hx;cases hx) (x:=0) ⟨rfl,by simp⟩
   rw[e1,oy,show (0:Int)=((0:Nat):Int)from rfl,rV (Nat.zero_le _) hk,oy,List.drop_zero];have hl:(v.1.take k).length<=1000:=by rw[length_take];omega
   rw[oH (by simp only[length_nil];omega),oy,nil_append,oH (by simp only[length_cons,length_nil];omega),oy,rV hk (Nat.le_refl _),oy,take_length,oH (by simp only[length_append,length_cons,length_nil,length_drop];omega),oy,D1 hp hn e3 e4];simp

def HY (b:oA) (m s:Option (oA×Int)):Prop:=∃r,m=some r/\s=some r/\sD r.1/\(r.2≠0->r.1=b)
theorem wj {n a b:Nat} (h1:a<=b) (h2:b<=n):rX n (a:Int) (b:Int)=some (a,b):=by
 unfold rX;rw[if_pos (by omega),if_pos (by omega),if_pos (by omega)];simp
theorem FX {v:pk} (id:Int) (h1:v.1.length<=1000) (h2:v.2.length<=1000) {k:Nat} (hk:k<v.1.length) (e:qt v.1 id=(k:Int)):dV v id=some (v.1.eraseIdx k,v.2):=by
 unfold dV;have hM:M=1048576:=rfl
 have hw:oB ((k:Int)+1)=((k+1:Nat):Int):=oQ (by omega);rw[zP ⟨by omega,by omega⟩,oy,yT (by omega),oy,e,dT (by omega),cT,hw,show (0:Int)=((0:Nat):Int)from rfl,rV (Nat.zero_le _) (by omega),oy,oH (by simp only[length_nil,length_drop,length_take];omega),oy,rV (by omega) (Nat.le_refl _),oy,oH (by simp only[length_append,length_nil,length_drop,length_take];omega),oy,List.eraseIdx_eq_take_drop_succ];simp
theorem AO {r:oO} {l:List oO} (hs:l.Pairwise λr s=>r.1<s.1) (hi:∀x∈l,oE x.1 1 99=true) (hh:∀x∈l,-9223372036854775808<=x.2.2/\x.2.2<=9223372036854775807)
 (ri:oE r.1 1 99=true) (rh:-9223372036854775808<=r.2.2/\r.2.2<=9223372036854775807) :
 (pS r false l).Pairwise (λr s=>r.1<s.1)/\(∀x∈pS r false l,oE x.1 1 99=true)/\(∀x∈pS r false l,-9223372036854775808<=x.2.2/\x.2.2<=9223372036854775807):=by
 have hm:∀{dn:Bool} {l:List oO},∀x∈pS r dn l,x=r\/x∈l:=by
  intro dn l
  induction l generalizing dn with
  | nil=>intro x hx;cases dn<;>simp[pS]at hx;exact .inl hx
  | cons y t ih =>
   intro x hx;cases dn with
   | true =>
    unfold pS at hx;split at hx
    · rcases mem_cons.1 hx with rfl|hx
      · exact .inr (by simp)
      · rcases ih x hx with e|e
        · exact .inl e
        · exact .inr (mem_cons_of_mem _ e)
    · rcases ih x hx with e|e
      · exact .inl e
      · exact .inr (mem_cons_of_mem _ e)
   | false =>
    unfold pS at hx;split at hx
    · rcases mem_cons.1 hx with rfl|hx
      · exact .inl rfl
      · split at hx
        · rcases mem_cons.1 hx with rfl|hx
          · exact .inr (by simp)
          · rcases ih x hx with e|e
            · exact .inl e
            · exact .inr (mem_cons_of_mem _ e)
        · rcases ih x hx with e|e
          · exact .inl e
          · exact .inr (mem_cons_of_mem _ e)
    · rcases mem_cons.1 hx with rfl|hx
      · exact .inr (by simp)
      · rcases ih x hx with e|e
        · exact .inl e
        · exact .inr (mem_cons_of_mem _ e)
 have hp:∀{l:List oO},l.Pairwise (λr s=>r.1<s.1)->(pS r false l).Pairwise (λr s=>r.1<s.1):=by
  intro l
  induction l with
  | nil=>intro _;simp[pS]
  | cons y t ih =>
   intro h;have h1:=(pairwise_cons.1 h).1
   have h2:=(pairwise_cons.1 h).2;unfold pS;split
   · next hy =>
     have ht:pS r true t=t:=wK λz hz=>by have:=h1 z hz;omega
     rw[ht];split
     · next hq =>
       have hq:=bne_iff_ne.1 hq;refine pairwise_cons.2 ⟨λz hz=>?_,h⟩;rcases mem_cons.1 hz with rfl|hz
       · omega
       · have:=h1 z hz;omega
     · next hq =>
       have hq:y.1=r.1:=by simpa using hq
       refine pairwise_cons.2 ⟨λz hz=>?_,h2⟩;have:=h1 z hz;omega
   · next hy =>
     refine pairwise_cons.2 ⟨λz hz=>?_,ih h2⟩;rcases hm z hz with rfl|hz
     · omega
     · exact h1 z hz
 refine⟨hp hs,λx hx=>?_,λx hx=>?_⟩
 · rcases hm x hx with rfl|hx
   · exact ri
   · exact hi x hx
 · rcases hm x hx with rfl|hx
   · exact rh
   · exact hh x hx
theorem FY {r:oO} {dn:Bool} {l:List oO}:(pS r dn l).length<=l.length+1:=by
 induction l generalizing dn with
 | nil=>cases dn<;>simp[pS]
 | cons x t ih =>
  have h1:=ih (dn:=true);have h2:=ih (dn:=false)
  have h3:(pS r true t).length<=t.length:=by
   clear ih h1 h2
   induction t with
   | nil=>simp[pS]
   | cons y t ih=>unfold pS;split<;>simp<;>omega
  cases dn<;>unfold pS<;>split<;>(try split)<;>simp<;>omega
theorem sD.rows {b:oA} (h:sD b) {R:List oO} (h1:R.length<=6) (h2:R.Pairwise λr s=>r.1<s.1) (h3:∀x∈R,oE x.1 1 99=true) (h4:∀x∈R,-9223372036854775808<=x.2.2/\x.2.2<=9223372036854775807) :
 sD (b.1,b.2.1,b.2.2.1,b.2.2.2.1,R,b.2.2.2.2.2.1,b.2.2.2.2.2.2.1,b.2.2.2.2.2.2.2.1,b.2.2.2.2.2.2.2.2.1,b.2.2.2.2.2.2.2.2.2.1,b.2.2.2.2.2.2.2.2.2.2) :=
 ⟨h.id,h.name,h.n1,h.n6,h.p,h.f,h.c,h.q,h1,h2,h3,h4⟩
theorem Al {b:oA} (h:sD b):oE (b.2.2.1.length:Int) 1 6=true:=by
 have h1:=h.n1;have h2:=h.n6
 unfold oE;rw[dT (by omega),dT (by omega)];rfl
theorem Hc {b:oA} (h:sD b) (c id n:Int) (hc:(c=1/\oE id 1 99=true)\/((c=2\/c=3)/\qt (s3 b) id>=0)):HY b (fg b c id n) (ej b c id n):=by
 have hv:=h.v;have hq:b.2.2.2.2.2.1.length<=6:=by have:=h.q;have:=h.n6;omega
 have hr:∀(id:Int),al (b.2.2.2.2.1,b.2.2.2.2.2.1) id=some (qt (s3 b) id):=λid=>yT (v:=(b.2.2.2.2.1,b.2.2.2.2.2.1)) (by show b.2.2.2.2.1.length<_;omega) id;have hrs:∀(id:Int),aR (b.2.2.2.2.1,b.2.2.2.2.2.1) id=some (qt (s3 b) id):=hr
 have hw:∀(r:oO),dU (b.2.2.2.2.1,b.2.2.2.2.2.1) r=some (pS r false b.2.2.2.2.1,b.2.2.2.2.2.1):=λr=>FW (v:=(b.2.2.2.2.1,b.2.2.2.2.2.1)) r (by show b.2.2.2.2.1.length<=_;omega) (by show b.2.2.2.2.2.1.length<=_;omega) h.s;have hws:∀(r:oO),az (b.2.2.2.2.1,b.2.2.2.2.2.1) r=some (pS r false b.2.2.2.2.1,b.2.2.2.2.2.1):=λr=>HX (v:=(b.2.2.2.2.1,b.2.2.2.2.2.1)) r (by show b.2.2.2.2.1.length<=_;omega) (by show b.2.2.2.2.2.1.length<=_;omega)
 unfold fg ej;rw[hr,oy];by_cases h1:c=1
 · subst h1;have hid:oE id 1 99=true:=by rcases hc with hc|hc;exact hc.2;rcases hc.1 with e|e<;>cases e
   unfold fy;rw[hrs];simp only[show ((1:Int)==1)=true from rfl,cT,oy,hw,hws];by_cases hp:qt (s3 b) id>=0
   · have hp':¬qt (s3 b) id<0:=by omega
     simp only[dT hp,dF hp'];have e4:cond (n==4) (some false) (some false)=some false:=by cases (n==4)<;>rfl
     rw[e4];simp only[oy,cF];cases hn:(n==6)with
     | false =>
      simp only[cF,oy];exact⟨_,rfl,rfl,h,λ_=>rfl⟩
     | true =>
      obtain⟨k,hk,e1,e2⟩:=vJ hp;simp only[cT,oy];have hk':k<b.2.2.2.2.1.length:=hk
      have hw64:oB (qt (s3 b) id+1)=((k+1:Nat):Int):=by rw[e1];exact oQ (by omega)
      have hwo:dV (b.2.2.2.2.1,b.2.2.2.2.2.1) id=some (b.2.2.2.2.1.eraseIdx k,b.2.2.2.2.2.1):=FX (v:=(b.2.2.2.2.1,b.2.2.2.2.2.1)) id (by show b.2.2.2.2.1.length<=_;omega) (by show b.2.2.2.2.2.1.length<=_;omega) hk e1;have hso:(rX b.2.2.2.2.1.length 0 (qt (s3 b) id)).bind (λp=>(oX ([]:List oO) ((b.2.2.2.2.1.take p.2).drop p.1)).bind λzs47=>(rX b.2.2.2.2.1.length (oB (qt (s3 b) id+1)) (b.2.2.2.2.1.length:Int)).bind λp_1=>(oX zs47 ((b.2.2.2.2.1.take p_1.2).drop p_1.1)).bind λzs54=>some ((b.1,b.2.1,b.2.2.1,b.2.2.2.1,zs54,b.2.2.2.2.2.1,b.2.2.2.2.2.2.1,b.2.2.2.2.2.2.2.1,b.2.2.2.2.2.2.2.2.1,b.2.2.2.2.2.2.2.2.2.1,b.2.2.2.2.2.2.2.2.2.2),(0:Int)))
       = some ((b.1,b.2.1,b.2.2.1,b.2.2.2.1,b.2.2.2.2.1.eraseIdx k,b.2.2.2.2.2.1,b.2.2.2.2.2.2.1,b.2.2.2.2.2.2.2.1,b.2.2.2.2.2.2.2.2.1,b.2.2.2.2.2.2.2.2.2.1,b.2.2.2.2.2.2.2.2.2.2),0):=by
       rw[hw64,e1,show (0:Int)=((0:Nat):Int)from rfl,wj (Nat.zero_le _) (by omega),oy,oH (by simp only[length_nil,length_drop,length_take];omega),oy,wj (by omega) (Nat.le_refl _),oy,oH (by simp only[length_append,length_nil,length_drop,length_take];omega),oy,List.eraseIdx_eq_take_drop_succ];simp
      rw[hwo];refine⟨_,rfl,by rw[hso];rfl,h.rows ?_ ?_ ?_ ?_,λe=>absurd rfl e⟩
      · rw[List.length_eraseIdx];split<;>omega
      · exact h.s.sublist (List.eraseIdx_sublist _ _)
      · exact λx hx=>h.i x (List.mem_of_mem_eraseIdx hx)
      · exact λx hx=>h.h x (List.mem_of_mem_eraseIdx hx)
   · have hp':qt (s3 b) id<0:=by omega
     simp only[dF hp,dT hp'];have e6:cond (n==6) (some false) (some false)=some false:=by cases (n==6)<;>rfl
     rw[e6];cases hn:(n==4)with
     | false =>
      simp only[cF,oy];exact⟨_,rfl,rfl,h,λ_=>rfl⟩
     | true =>
      simp only[cT,oy];by_cases h6:(b.2.2.2.2.1.length:Int)<6
      · simp only[dT h6,cT];obtain⟨g1,g2,g3⟩:=AO (r:=(id,0,0)) h.s h.i h.h hid ⟨by show (-9223372036854775808:Int)<=0;decide,by show (0:Int)<=9223372036854775807;decide⟩;have:=FY (r:=(id,0,0)) (dn:=false) (l:=b.2.2.2.2.1)
        exact⟨_,rfl,rfl,h.rows (by omega) g1 g2 g3,λe=>absurd rfl e⟩
      · simp only[dF h6,cF,oy];exact⟨_,rfl,rfl,h,λ_=>rfl⟩
 · have h23:c=2\/c=3:=by rcases hc with hc|hc;exact absurd hc.1 h1;exact hc.1
   have hp:qt (s3 b) id>=0:=by rcases hc with hc|hc;exact absurd hc.1 h1;exact hc.2
   obtain⟨k,hk,e1,e2⟩:=vJ hp;have hk':k<b.2.2.2.2.1.length:=hk
   obtain⟨t,q1,q2⟩:=E4 (Al h);rw[show (c==1)=false from beq_eq_false_iff_ne.2 h1];simp only[cF,Bk (Al h),q1,oy,s4,uN,q2];cases hn:oE n 0 (qd (b.2.2.1.length:Int))with
   | false=>exact⟨_,rfl,rfl,h,λ_=>rfl⟩
   | true =>
    have ht:=(BC (Al h)).2;have hnr:-9223372036854775808<=n/\n<=9223372036854775807:=by
     unfold oE at hn;simp only[aT,decide_eq_true_eq]at hn;omega
    have hx:ix b.2.2.2.2.1.length (k:Int)=some k:=tZ hk';rw[hrs];simp only[Bool.not_true,cF,oy,e1,hx,List.getElem?_eq_getElem hk',hws];have hin:∀(r:oO),r.1=b.2.2.2.2.1[k].1->pS r false b.2.2.2.2.1=b.2.2.2.2.1.set k r:=λr e=>zG hk' h.s e.symm
    have hki:=h.i _ (getElem_mem hk');have hkh:=h.h _ (getElem_mem hk')
    have hlen:∀(r:oO),r.1=b.2.2.2.2.1[k].1->(pS r false b.2.2.2.2.1).length<=6:=λr e=>by rw[hin r e,length_set];exact hv
    rcases h23 with rfl|rfl
    · simp only[show ((2:Int)==2)=true from rfl,cT];obtain⟨g1,g2,g3⟩:=AO (r:=(b.2.2.2.2.1[k].1,n,b.2.2.2.2.1[k].2.2)) h.s h.i h.h hki hkh;refine⟨_,rfl,?_,?_,λe=>absurd rfl e⟩
      · rw[hin (b.2.2.2.2.1[k].1,n,b.2.2.2.2.1[k].2.2) rfl]
      · rw[←hin (b.2.2.2.2.1[k].1,n,b.2.2.2.2.1[k].2.2) rfl];exact h.rows (hlen _ rfl) g1 g2 g3
    · simp only[show ((3:Int)==2)=false from rfl,cF];obtain⟨g1,g2,g3⟩:=AO (r:=(b.2.2.2.2.1[k].1,b.2.2.2.2.1[k].2.1,n)) h.s h.i h.h hki hnr;refine⟨_,rfl,?_,?_,λe=>absurd rfl e⟩
      · rw[hin (b.2.2.2.2.1[k].1,b.2.2.2.2.1[k].2.1,n) rfl]
      · rw[←hin (b.2.2.2.2.1[k].1,b.2.2.2.2.1[k].2.1,n) rfl];exact h.rows (hlen _ rfl) g1 g2 g3
theorem EV {b:oA} {o:List Int} (h:zR b o=true):o=[1,3,1,1,1]\/(∃c p,o=[1,3,1,2,c,p]/\(c=2\/c=4)/\oE p 1 (qR b)=true)\/(∃c p,o=[1,3,1,3,c,p]/\((c=1/\oE p 1 99=true)\/((c=2\/c=3)/\qt (s3 b) p>=0))):=by
 unfold zR at h;rw[aT]at h;obtain⟨h1,h2⟩:=h;unfold uZ at h1;simp only[aT,decide_eq_true_eq,beq_iff_eq]at h1;have ho:o=[1,3,1]++o.drop 3:=by rw[←h1.2,List.take_append_drop]
 match hd:o.drop 3,h2 with
 | [a,c],h2 =>
  simp only[aT,beq_iff_eq]at h2;rw[hd]at ho;exact .inl (by rw[ho,h2.1,h2.2];rfl)
 | [a,c,p],h2 =>
  rw[hd]at ho;simp only[Bool.or_eq_true,aT,beq_iff_eq,decide_eq_true_eq]at h2;rcases h2 with ⟨rfl,h3,h4⟩|⟨rfl,h3⟩
  · exact .inr (.inl ⟨c,p,ho,h3,h4⟩)
  · exact .inr (.inr ⟨c,p,ho,h3⟩)
theorem HZ {b:oA} {p:Int} (h:oE p 1 (qR b)=true) (hn:b.2.2.1.length<=6):∃k,k<b.2.2.1.length/\oB (p-1)=(k:Int):=by
 unfold oE qR at h;simp only[aT,decide_eq_true_eq]at h;exact⟨(p-1).toNat,by omega,by rw[pj (by omega) (by omega)];omega⟩
theorem Hd {p:Pt} {n:Int} (hn:oE n 1 1000=true) (h:un p=true):un (p.1,n,p.2.2.1,p.2.2.2.1,p.2.2.2.2.1,p.2.2.2.2.2.1,p.2.2.2.2.2.2.1,p.2.2.2.2.2.2.2)=true:=by
 unfold un at h ⊢;rw[aT]at h ⊢;exact⟨hn,h.2⟩
theorem I0 {b:oA} (h:sD b) {x:oC} (hx:x.1.length<=M):HY b (cb b x) (d8 b x):=by
 unfold cb d8;rw[Ki h.le hx,oy,te h.le,oy,Kj h.le hx,oy,Hb h];cases hm:zR b x.1 with
 | false =>
  rw[cF,Bool.not_false,cT,Jz h.le hx,IZ h.le hx,oy,oy,EU h];cases Ak b x.1 with
  | true=>exact⟨_,rfl,rfl,h,λ_=>rfl⟩
  | false=>exact⟨_,rfl,rfl,h,λ_=>rfl⟩
 | true =>
  obtain⟨o,kd,n,w,vo⟩:=x;rw[cT,Bool.not_true,cF];simp only;unfold fR;rcases EV hm with ho|⟨c,p,ho,hc,hp⟩|⟨c,p,ho,hc⟩
  · simp only at ho;subst ho;rw[show at? [1,3,1,1,1] 3=some (1:Int)from rfl,show cut [1,3,1,1,1] 3 (([1,3,1,1,1]:List Int).length:Int)=some ([1,1]:List Int)from rfl];simp only[oy,show at? [1,1] 0=some (1:Int)from rfl,show ((1:Int)==1)=true from rfl,cT,Bool.not_true,cF];cases (kd != 4)with
    | true=>exact⟨_,rfl,rfl,h,λ_=>rfl⟩
    | false =>
     simp only[cF,oy];by_cases hw:(w.length:Int)>10
     · simp only[dT hw,cT];exact⟨_,rfl,rfl,h,λ_=>rfl⟩
     · simp only[dF hw,cF];exact⟨_,rfl,rfl,⟨h.id,by show w.length<=10;omega,h.n1,h.n6,h.p,h.f,h.c,h.q,h.v,h.s,h.i,h.h⟩,λe=>absurd rfl e⟩
  · simp only at ho;subst ho;rw[show at? [1,3,1,2,c,p] 3=some (2:Int)from rfl,show at? [1,3,1,2,c,p] 4=some c from rfl,show at? [1,3,1,2,c,p] 5=some p from rfl,show cut [1,3,1,2,c,p] 3 (([1,3,1,2,c,p]:List Int).length:Int)=some ([2,c,p]:List Int)from rfl];simp only[oy,show at? [2,c,p] 0=some (2:Int)from rfl,show at? [2,c,p] 1=some c from rfl,show at? [2,c,p] 2=some p from rfl,show ((2:Int)==1)=false from rfl,show ((2:Int)==2)=true from rfl,show ((2:Int)==3)=false from rfl,cT,Bool.not_false,cF];cases (kd != 2)with
    | true=>exact⟨_,rfl,rfl,h,λ_=>rfl⟩
    | false =>
     obtain⟨k,hk,ek⟩:=HZ hp h.n6;simp only[cF,oy,ek];unfold fx;have hx1:ix b.2.2.1.length (k:Int)=some k:=tZ hk
     have hx2:ix b.2.2.2.2.2.1.length (k:Int)=some k:=tZ (by rw[h.q];exact hk);have hk2:k<b.2.2.2.2.2.1.length:=by rw[h.q];exact hk
     simp only[s4,uN,oy,hx1,hx2,List.getElem?_eq_getElem hk,List.getElem?_eq_getElem hk2];rcases hc with rfl|rfl
     · simp only[show ((2:Int)==2)=true from rfl,cT];cases hn:oE n 1 1000 with
       | false=>exact⟨_,rfl,rfl,h,λ_=>rfl⟩
       | true =>
        exact⟨_,rfl,rfl,⟨h.id,h.name,by simp only[length_set];exact h.n1,by simp only[length_set];exact h.n6,λy hy=>by
         rcases List.mem_or_eq_of_mem_set hy with e|rfl
         · exact h.p y e
         · exact Hd hn (h.p _ (getElem_mem hk)),h.f,h.c,by simp only[length_set];exact h.q,h.v,h.s,h.i,h.h⟩,λe=>absurd rfl e⟩
     · simp only[show ((4:Int)==2)=false from rfl,cF];exact⟨_,rfl,rfl,⟨h.id,h.name,h.n1,h.n6,h.p,h.f,h.c,by simp only[length_set];exact h.q,h.v,h.s,h.i,h.h⟩,λe=>absurd rfl e⟩
  · simp only at ho;subst ho;rw[show at? [1,3,1,3,c,p] 3=some (3:Int)from rfl,show at? [1,3,1,3,c,p] 4=some c from rfl,show at? [1,3,1,3,c,p] 5=some p from rfl,show cut [1,3,1,3,c,p] 3 (([1,3,1,3,c,p]:List Int).length:Int)=some ([3,c,p]:List Int)from rfl];simp only[oy,show at? [3,c,p] 0=some (3:Int)from rfl,show at? [3,c,p] 1=some c from rfl,show at? [3,c,p] 2=some p from rfl,show ((3:Int)==1)=false from rfl,show ((3:Int)==2)=false from rfl,show ((3:Int)==3)=true from rfl,cT,Bool.not_false,cF];cases (kd != 2)with
    | true=>exact⟨_,rfl,rfl,h,λ_=>rfl⟩
    | false =>
     simp only[cF,oy];obtain⟨r,r1,r2,r3,r4⟩:=Hc h c p n hc;exact⟨r,by rw[r1];rfl,by rw[r2];rfl,r3,r4⟩

theorem zH {α β:Type} {step t:α->Option (α⊕β)} (pc:Nat->α->Prop) (m:Nat) (R:β->Prop)
 (h:∀k x,k<m->pc k x->(∃y,step x=some (.inl y)/\t x=some (.inl y)/\pc (k+1) y)\/∃b,step x=some (.inr b)/\t x=some (.inr b)/\R b)
 (he:∀x,pc m x->∃b,step x=some (.inr b)/\t x=some (.inr b)/\R b) {x:α} (h0:pc 0 x):∃b,loop step x=some b/\loop t x=some b/\R b:=by
 have key:∀n k x,k+n=m->pc k x->∃b,rB step (n+1) x=some b/\rB t (n+1) x=some b/\R b:=by
  intro n
  induction n with
  | zero =>
   intro k x hk hx;obtain rfl:k=m:=by omega
   obtain⟨b,h1,h3,h2⟩:=he x hx;exact⟨b,by rw[q9,h1];rfl,by rw[q9,h3];rfl,h2⟩
  | succ n ih =>
   intro k x hk hx;rcases h k x (by omega) hx with ⟨y,h1,h5,h2⟩|⟨b,h1,h5,h2⟩
   · obtain⟨b,h3,h6,h4⟩:=ih (k+1) y (by omega) h2;exact⟨b,by rw[q9,h1];exact h3,by rw[q9,h5];exact h6,h4⟩
   · exact⟨b,by rw[q9,h1];rfl,by rw[q9,h5];rfl,h2⟩
 obtain⟨b,h1,h3,h2⟩:=key m 0 x (by omega) h0;exact⟨b,td h1,td h3,h2⟩
theorem J0 {l:List oG} (h:th l=true):FB l:=by
 unfold th at h;simp only[aT,Bool.not_eq_true',decide_eq_true_eq]at h;refine⟨λx hx=>?_,zN (R:=lt) (λ_ _ _=>lt_trans) λk hk=>?_,by omega⟩
 · obtain⟨k,hk,rfl⟩:=getElem_of_mem hx;have hx:=any_eq_false.1 h.1 k (mem_range.2 hk)
   unfold tk at hx;simp only[List.getElem?_eq_getElem hk,Bool.or_eq_true,not_or,Bool.not_eq_true',Bool.not_eq_false]at hx;exact hx.1
 · have hx:=any_eq_false.1 h.1 (k+1) (mem_range.2 hk);unfold tk at hx;simp only[List.getElem?_eq_getElem hk,Nat.add_sub_cancel,List.getElem?_eq_getElem (show k<l.length by omega),Bool.or_eq_true,aT,decide_eq_true_eq,not_or,not_and,Bool.not_eq_true',Bool.not_eq_false]at hx;have hp:=hx.2 (by omega)
   unfold uo at hp;simp only[Bool.or_eq_true,aT,decide_eq_true_eq,beq_iff_eq]at hp;unfold lt;omega
theorem FB.sub {l m:List oG} (h:FB l) (hs:m.Sublist l):FB m :=
 ⟨λx hx=>h.e x (hs.subset hx),h.o.sublist hs,Nat.le_trans hs.length_le h.n⟩
def u0 (l:List oG) (p:Int):List oG:=l.filter λe=>e.2.2.2.2||e.2.2.1 != p
theorem Am {l:List oG} (p:Int) (hn:l.length<=1000) (step:Int×List oG->Option ((Int×List oG)⊕List oG))
 (hs:∀k (hk:k<l.length) out,step ((k:Int),out)=cond (l[k].2.2.2.2||l[k].2.2.1 != p) ((oX out [l[k]]).bind λzs=>some (.inl (((k+1:Nat):Int),zs))) (some (.inl (((k+1:Nat):Int),out))))
 (he:∀out,step ((l.length:Int),out)=some (.inr out)):loop step (0,[])=some (u0 l p):=by
 obtain⟨b,h1,rfl⟩:=oR (step:=step) (λk z=>z.1=(k:Int)/\z.2=u0 (l.take k) p) l.length (λb=>b=u0 l p)
  (λk z hk ⟨z1,z2⟩=>by
   obtain⟨i,out⟩:=z;simp only at z1 z2;subst z1 z2;left;have hl:(u0 (l.take k) p).length<=k:=by
    have:=(List.filter_sublist (p:=λe:oG=>e.2.2.2.2||e.2.2.1 != p) (l:=l.take k)).length_le;rw[length_take]at this;show (List.filter _ _).length<=k
    omega
   have ht:u0 (l.take (k+1)) p=u0 (l.take k) p++cond (l[k].2.2.2.2||l[k].2.2.1 != p) [l[k]] []:=by
    unfold u0;rw[take_add_one,List.getElem?_eq_getElem hk,List.filter_append];rw[Option.toList_some,List.filter_cons,List.filter_nil];cases (l[k].2.2.2.2||l[k].2.2.1 != p)<;>rfl
   rw[hs k hk];cases hc:(l[k].2.2.2.2||l[k].2.2.1 != p)with
   | true =>
    rw[hc]at ht;exact⟨_,by rw[cT,oH (by show _+1<=_;omega)];rfl,rfl,by rw[ht];rfl⟩
   | false =>
    rw[hc]at ht;exact⟨_,rfl,rfl,by rw[ht];simp⟩)
  (λz ⟨z1,z2⟩=>by
   obtain⟨i,out⟩:=z;simp only at z1 z2;subst z1 z2;exact⟨_,he _,by rw[take_length]⟩) (x:=(0,[])) ⟨rfl,rfl⟩
 exact h1
theorem I1 {l:List oG} (p:Int) (hn:l.length<=1000):fm l p=some (u0 l p):=by
 unfold fm;rw[Am p hn (λz=>cV l p z.1 z.2) (λk hk out=>by
  show cV l p (k:Int) out=_;unfold cV;rw[pr (by omega),cT,oT hk,oy,oQ (by omega)];cases l[k].2.2.2.2<;>rfl) (λout=>by
  show cV l p (l.length:Int) out=_;unfold cV;rw[pb (by omega),cF])];rfl
theorem He {l:List oG} (p:Int) (hn:l.length<=1000):et l p=some (u0 l p):=by
 unfold et;rw[Am p hn (λz=>ch l p z.1 z.2) (λk hk out=>by
  show ch l p (k:Int) out=_;unfold ch;rw[pr (by omega),cT,oT hk,oy,oy,oy,oQ (by omega)];cases l[k].2.2.2.2<;>rfl) (λout=>by
  show ch l p (l.length:Int) out=_;unfold ch;rw[pb (by omega),cF])];rfl
theorem EW:∀k:Nat,k<6->oE (k:Int) 0 62=true/\oE (k:Int) 0 7=true:=by
 intro k hk;unfold oE;constructor<;>(rw[dT (by omega),dT (by omega)];rfl)
theorem JN (c:Int) {k:Nat} (hk:k<6):∃t,shr .i64 c (k:Int)=some t:=by
 unfold shr;rw[if_neg (by omega)];exact⟨_,rfl⟩
theorem JO (c:Int) {k:Nat} (hk:k<6):∃t,fk c (k:Int)=some t/\es c (k:Int)=some t:=by
 obtain⟨t,h⟩:=JN c hk;unfold fk es;rw[s4,uN,oy,oy,(EW k hk).1,(EW k hk).2,cT,cT,Aw (by omega),h];exact⟨_,rfl,rfl⟩
theorem J1 {n:Int} (h:oE n 0 1000000=true):∃r,dW n=some r/\em n=some r/\oE r 0 1000000=true:=by
 unfold oE at h;simp only[aT,decide_eq_true_eq]at h;unfold dW em oE min2;rw[pj (by omega) (by omega)];by_cases hn:n>=1000000
 · rw[dT hn,cT];refine⟨n,?_,rfl,?_⟩
   · simp only;split<;>first|rfl | (congr 1;omega)
   · simp only[aT,decide_eq_true_eq];omega
 · rw[dF hn,cF];refine⟨n+1,?_,rfl,?_⟩
   · simp only;split<;>first|rfl | (congr 1;omega)
   · simp only[aT,decide_eq_true_eq];omega
theorem sD.ok {b:oA} (h:sD b) (hv:rg (b.2.2.2.2.1,b.2.2.2.2.2.1) (b.2.2.1.length:Int)=true):pY b=true:=by
 unfold pY;have h1:(List.range b.2.2.1.length).any (wm b.2.2.1)=false:=by
  rw[any_eq_false];intro k hk;have hk:=mem_range.1 hk
  unfold wm;simp[List.getElem?_eq_getElem hk,h.p _ (getElem_mem hk)]
 have h2:=h.name;rw[h1,h.id,h.f,hv,h.c,Al h,dF (show ¬(b.2.1.length:Int)>10 by omega)];rfl
theorem J2 {b:oA} (h:sD b):∃r,cc b=some r/\ci b=some r/\sD r/\r.2.2.1=b.2.2.1/\r.2.2.2.2.1=b.2.2.2.2.1/\r.2.2.2.2.2.1=b.2.2.2.2.2.1/\r.1=b.1/\r.2.1=b.2.1/\r.2.2.2.2.2.2.1=b.2.2.2.2.2.2.1/\r.2.2.2.2.2.2.2.1=b.2.2.2.2.2.2.2.1/\r.2.2.2.2.2.2.2.2.1=b.2.2.2.2.2.2.2.2.1/\r.2.2.2.2.2.2.2.2.2.1=b.2.2.2.2.2.2.2.2.2.1/\dW b.2.2.2.2.2.2.2.2.2.2=some r.2.2.2.2.2.2.2.2.2.2:=by
 have n6:=h.n6;have hc:=h.c
 unfold sF at hc;simp only[aT]at hc;obtain⟨v,v1,v2,v3⟩:=J1 hc.2.2.2.2;obtain⟨c,_,c1,c2⟩:=Iy b.1 (l:=b.2.2.1) (by omega);unfold cc ci;rw[v1,v2,c1,c2];simp only[oy];have hF:=J0 h.f
 obtain⟨d,d1,d2,F,hf,rfl⟩:=zH (step:=λz:Int×Int×List UInt8×Int×Int×Int×Int×Int×List oG=>fo b (c:Int) z.1 z.2.1 z.2.2.1 z.2.2.2.1 z.2.2.2.2.1 z.2.2.2.2.2.1 z.2.2.2.2.2.2.1 z.2.2.2.2.2.2.2.1 z.2.2.2.2.2.2.2.2)
  (t:=λz:Int×Int×List UInt8×Int×Int×Int×Int×Int×List oG=>eu b (c:Int) z.1 z.2.1 z.2.2.1 z.2.2.2.1 z.2.2.2.2.1 z.2.2.2.2.2.1 z.2.2.2.2.2.2.1 z.2.2.2.2.2.2.2.1 z.2.2.2.2.2.2.2.2)
  (λk z=>∃F:List oG,F.Sublist b.2.2.2.1/\z=((k:Int),b.1,b.2.1,b.2.2.2.2.2.2.1,b.2.2.2.2.2.2.2.1,b.2.2.2.2.2.2.2.2.1,b.2.2.2.2.2.2.2.2.2.1,v,F)) b.2.2.1.length
  (λd=>∃F:List oG,F.Sublist b.2.2.2.1/\d=(b.1,b.2.1,b.2.2.2.2.2.2.1,b.2.2.2.2.2.2.2.1,b.2.2.2.2.2.2.2.2.1,b.2.2.2.2.2.2.2.2.2.1,v,F))
  (λk z hk ⟨F,hf,e⟩=>by
   subst e;left;obtain⟨t,t1,t2⟩:=JO (c:Int) (show k<6 by omega);have hl:F.length<=1000:=by have:=hf.length_le;have:=hF.n;omega
   simp only;unfold fo eu;rw[pr (show (k:Int)<(b.2.2.1.length:Int) by omega),cT,cT,t1,t2,oy,oy,I1 _ hl,He _ hl,oQ (show k<9223372036854775807 by omega)];cases t with
   | true=>exact⟨_,rfl,rfl,F,hf,rfl⟩
   | false=>exact⟨_,rfl,rfl,u0 F (k:Int),List.Sublist.trans List.filter_sublist hf,rfl⟩)
  (λz ⟨F,hf,e⟩=>by
   subst e;simp only;unfold fo eu;rw[pb (show ¬(b.2.2.1.length:Int)<(b.2.2.1.length:Int) by omega),cF,cF];exact⟨_,rfl,rfl,F,hf,rfl⟩) (x:=(0,b.1,b.2.1,b.2.2.2.2.2.2.1,b.2.2.2.2.2.2.2.1,b.2.2.2.2.2.2.2.2.1,b.2.2.2.2.2.2.2.2.2.1,v,b.2.2.2.1)) ⟨_,List.Sublist.refl _,rfl⟩
 rw[d1,d2];refine⟨_,rfl,rfl,⟨h.id,h.name,h.n1,h.n6,h.p,(hF.sub hf).ok,?_,h.q,h.v,h.s,h.i,h.h⟩,rfl,rfl,rfl,rfl,rfl,rfl,rfl,rfl,rfl,rfl⟩;unfold sF;simp only[aT];exact⟨hc.1,hc.2.1,hc.2.2.1,hc.2.2.2.1,v3⟩
theorem J3 {b:oA} (h:sD b):∃r,cc b=some r/\ci b=some r/\sD r/\r.2.2.1=b.2.2.1/\r.2.2.2.2.1=b.2.2.2.2.1/\r.2.2.2.2.2.1=b.2.2.2.2.2.1:=by
 obtain⟨r,h1,h2,h3,h4,h5,h6,_⟩:=J2 h;exact⟨r,h1,h2,h3,h4,h5,h6⟩
theorem FZ {α:Type} [BEq α] [LawfulBEq α] (a b:α):(a==b)=(b==a):=by
 by_cases h:a=b
 · subst h;rfl
 · rw[beq_eq_false_iff_ne.2 h,beq_eq_false_iff_ne.2 (Ne.symm h)]

abbrev I2:=Int×Int×Int×List UInt8×Int×Int×Int×Int×Int×List Pt×List oG×List oO×List Int
abbrev JE:=Int×List UInt8×Int×Int×Int×Int×Int
def I4 (c k:Int) (b:oA):I2:=(c,k,b.1,b.2.1,b.2.2.2.2.2.2.1,b.2.2.2.2.2.2.2.1,b.2.2.2.2.2.2.2.2.1,b.2.2.2.2.2.2.2.2.2.1,b.2.2.2.2.2.2.2.2.2.2,b.2.2.1,b.2.2.2.1,b.2.2.2.2.1,b.2.2.2.2.2.1)
theorem I5 {b:oA} (hb:uI M b) {l:List oC} (hl:xa M l) {k:Nat} (hk:k<l.length) (s:JE) :
 ∃r:JE⊕I2,loop (λz=>dX b (k:Int) l[k] (l.take k) z.1 z.2.1 z.2.2.1 z.2.2.2.1 z.2.2.2.2.1 z.2.2.2.2.2.1 z.2.2.2.2.2.2.1 z.2.2.2.2.2.2.2) (0,s)=some r
  /\ loop (λz=>dh b l (k:Int) z.1 z.2.1 z.2.2.1 z.2.2.2.1 z.2.2.2.2.1 z.2.2.2.2.2.1 z.2.2.2.2.2.2.1 z.2.2.2.2.2.2.2) (0,s)=some r/\((r=.inl s/\∀j (hj:j<k),l[j].1≠l[k].1)\/(r=.inr (I4 5 ((k+1:Nat):Int) b)/\∃j,∃hj:j<k,l[j].1=l[k].1)):=by
 obtain⟨a0,a1,a6,a7,a8,a9,a10⟩:=s;have hn:l.length<=1048576:=hl.1
 refine zH (λj z=>z=((j:Int),a0,a1,a6,a7,a8,a9,a10)/\∀i (hi:i<k),i<j->l[i].1≠l[k].1) k _ (λj z hj ⟨e,hne⟩=>?_) (λz ⟨e,hne⟩=>?_) ⟨rfl,λi _ hi=>absurd hi (Nat.not_lt_zero _)⟩
 · subst e;have ht:j<(l.take k).length:=by rw[length_take];omega
   have hg:(l.take k)[j]=l[j]:=List.getElem_take;have hw:∀i,i<l.length->∀(hi:i<l.length),l[i].1.length<9223372036854775807:=λi h1 h2=>by have:l[i].1.length<=1048576:=(hl.2 _ (getElem_mem h2)).1;omega
   have s1:au l[k].1 l[j].1=some (l[k].1==l[j].1):=uL (hw j (by omega) (by omega));have s2:bH l[j].1 l[k].1=some (l[k].1==l[j].1):=by rw[FZ];exact uL (hw k hk hk)
   simp only;unfold dX dh;rw[pr (show (j:Int)<((l.take k).length:Int) by omega),pr (show (j:Int)<(k:Int) by omega),cT,cT,oT ht,hg,oT (show j<l.length by omega),oT hk];simp only[oy,s1,s2];cases hb2:(l[k].1==l[j].1)with
   | true =>
    right;rw[vI hb,te hb];exact⟨_,rfl,by rw[oQ (show k<9223372036854775807 by omega)];rfl,.inr ⟨by rw[oQ (show k<9223372036854775807 by omega)];rfl,j,hj,(beq_iff_eq.1 hb2).symm⟩⟩
   | false =>
    left;refine⟨_,rfl,rfl,by rw[oQ (show j<9223372036854775807 by omega)],λi hi hij=>?_⟩;by_cases e:i=j
    · subst e;exact λe=>(beq_eq_false_iff_ne.1 hb2) e.symm
    · exact hne i hi (by omega)
 · subst e;have ht:(l.take k).length=k:=by rw[length_take];omega
   refine⟨.inl (a0,a1,a6,a7,a8,a9,a10),?_,?_,.inl ⟨rfl,λj hj=>hne j hj hj⟩⟩
   · show dX b _ _ _ _ _ _ _ _ _ _ _=_;unfold dX;rw[ht,pb (by omega),cF]
   · show dh b _ _ _ _ _ _ _ _ _ _=_;unfold dh;rw[pb (by omega),cF]
theorem pG {α β:Type} {step:α->Option (α⊕β)} {x:α} {b:β} (h:step x=some (.inr b)):loop step x=some b:=td (k:=1) (by rw[q9,h];rfl)
inductive wL (b:oA):List oC->oA->Prop
 | nil:wL b [] b
 | snoc {l:List oC} {y y':oA} {x:oC}:wL b l y->sD y->cb y x=some (y',0)->wL b (l++[x]) y'
def GC (b:oA) (l:List oC) (c:Int):Prop:=(pY b=false/\c=3)\/(∃k y,∃hk:k<l.length,wL b (l.take k) y/\sD y/\(((∃j,∃hj:j<k,l[j].1=l[k].1)/\c=5)\/∃y',cb y l[k]=some (y',c)))\/∃y,wL b l y/\c=5
theorem AP {b:oA} (h:sG b) (hb:uI M b) {l:List oC} (hl:xa M l):∃r,cW b l=some r/\ez b l=some r/\uI M r.1/\(pY b=true->sD r.1/\pY r.1=true)/\((r.2.1=0/\r.2.2=0/\((l=[]/\r.1=b)\/∃y,wL b l y/\sD y/\(∀i (hi:i<l.length),∀j (hj:j<i),l[j].1≠l[i].1)/\cc y=some r.1))\/(r.1=b/\r.2.1≠0/\1<=r.2.2/\r.2.2<=(l.length:Int)/\GC b l r.2.1)):=by
 have hn:l.length<=1048576:=hl.1;unfold cW ez;rw[vI hb,te hb,AQ h,AR h];simp only[oy];by_cases h0:l=[]
 · subst h0;have e1:decide ((([]:List oC).length:Int)>0)=false:=rfl
   have e2:((([]:List oC).length:Int)==0)=true:=rfl;have e3:cond (!pY b) (some false) (some false)=some false:=by cases pY b<;>rfl
   rw[e1,e2,e3,cT];simp only[oy,cF];refine⟨_,rfl,(congrArg (λo=>Option.bind o _) (pG (b:=.inl (0,[],0,0,0,0,0,b.1,b.2.1,b.2.2.2.2.2.2.1,b.2.2.2.2.2.2.2.1,b.2.2.2.2.2.2.2.2.1,b.2.2.2.2.2.2.2.2.2.1,b.2.2.2.2.2.2.2.2.2.2,[],[],[],[],b.2.2.1,b.2.2.2.1,b.2.2.2.2.1,b.2.2.2.2.2.1)) rfl)).trans rfl,hb,λhp=>⟨(Bn h hp).sok,hp⟩,.inl ⟨rfl,rfl,.inl ⟨by first|trivial|rfl,rfl⟩⟩⟩
 · have hpos:0<l.length:=List.length_pos_iff.2 h0;rw[show ((l.length:Int)==0)=false from beq_eq_false_iff_ne.2 (by omega),dT (show (l.length:Int)>0 by omega)];cases hp:pY b with
   | false=>exact⟨_,rfl,rfl,hb,λhp=>(by cases hp),.inr ⟨rfl,(by show (3:Int)≠0;decide),by show (1:Int)<=1;decide,by show (1:Int)<=_;omega,.inl ⟨hp,rfl⟩⟩⟩
   | true =>
    have hs0:=(Bn h hp).sok;simp only[Bool.not_true,cF,oy];obtain⟨d,d1,d2,d3⟩:=zH (step:=λz:Int×Int×List UInt8×Int×Int×Int×Int×Int×Int×List UInt8×Int×Int×Int×Int×Int×List Pt×List oG×List oO×List Int×List Pt×List oG×List oO×List Int=>fp b l z.1 z.2.1 z.2.2.1 z.2.2.2.1 z.2.2.2.2.1 z.2.2.2.2.2.1 z.2.2.2.2.2.2.1 z.2.2.2.2.2.2.2.1 z.2.2.2.2.2.2.2.2.1 z.2.2.2.2.2.2.2.2.2.1 z.2.2.2.2.2.2.2.2.2.2.1 z.2.2.2.2.2.2.2.2.2.2.2.1 z.2.2.2.2.2.2.2.2.2.2.2.2.1 z.2.2.2.2.2.2.2.2.2.2.2.2.2.1 z.2.2.2.2.2.2.2.2.2.2.2.2.2.2.1 z.2.2.2.2.2.2.2.2.2.2.2.2.2.2.2.1 z.2.2.2.2.2.2.2.2.2.2.2.2.2.2.2.2.1 z.2.2.2.2.2.2.2.2.2.2.2.2.2.2.2.2.2.1 z.2.2.2.2.2.2.2.2.2.2.2.2.2.2.2.2.2.2.1 z.2.2.2.2.2.2.2.2.2.2.2.2.2.2.2.2.2.2.2.1 z.2.2.2.2.2.2.2.2.2.2.2.2.2.2.2.2.2.2.2.2.1 z.2.2.2.2.2.2.2.2.2.2.2.2.2.2.2.2.2.2.2.2.2.1 z.2.2.2.2.2.2.2.2.2.2.2.2.2.2.2.2.2.2.2.2.2.2)
     (t:=λz=>ev b l z.1 z.2.1 z.2.2.1 z.2.2.2.1 z.2.2.2.2.1 z.2.2.2.2.2.1 z.2.2.2.2.2.2.1 z.2.2.2.2.2.2.2.1 z.2.2.2.2.2.2.2.2.1 z.2.2.2.2.2.2.2.2.2.1 z.2.2.2.2.2.2.2.2.2.2.1 z.2.2.2.2.2.2.2.2.2.2.2.1 z.2.2.2.2.2.2.2.2.2.2.2.2.1 z.2.2.2.2.2.2.2.2.2.2.2.2.2.1 z.2.2.2.2.2.2.2.2.2.2.2.2.2.2.1 z.2.2.2.2.2.2.2.2.2.2.2.2.2.2.2.1 z.2.2.2.2.2.2.2.2.2.2.2.2.2.2.2.2.1 z.2.2.2.2.2.2.2.2.2.2.2.2.2.2.2.2.2.1 z.2.2.2.2.2.2.2.2.2.2.2.2.2.2.2.2.2.2.1 z.2.2.2.2.2.2.2.2.2.2.2.2.2.2.2.2.2.2.2.1 z.2.2.2.2.2.2.2.2.2.2.2.2.2.2.2.2.2.2.2.2.1 z.2.2.2.2.2.2.2.2.2.2.2.2.2.2.2.2.2.2.2.2.2.1 z.2.2.2.2.2.2.2.2.2.2.2.2.2.2.2.2.2.2.2.2.2.2)
     (λk z=>∃y:oA,(sD y/\wL b (l.take k) y/\∀i (hi:i<l.length),i<k->∀j (hj:j<i),l[j].1≠l[i].1)/\z=((k:Int),0,[],0,0,0,0,0,y.1,y.2.1,y.2.2.2.2.2.2.1,y.2.2.2.2.2.2.2.1,y.2.2.2.2.2.2.2.2.1,y.2.2.2.2.2.2.2.2.2.1,y.2.2.2.2.2.2.2.2.2.2,[],[],[],[],y.2.2.1,y.2.2.2.1,y.2.2.2.2.1,y.2.2.2.2.2.1)) l.length
     (λd=>(∃y:oA,(sD y/\wL b l y/\∀i (hi:i<l.length),∀j (hj:j<i),l[j].1≠l[i].1)/\d=.inl (0,[],0,0,0,0,0,y.1,y.2.1,y.2.2.2.2.2.2.1,y.2.2.2.2.2.2.2.1,y.2.2.2.2.2.2.2.2.1,y.2.2.2.2.2.2.2.2.2.1,y.2.2.2.2.2.2.2.2.2.2,[],[],[],[],y.2.2.1,y.2.2.2.1,y.2.2.2.2.1,y.2.2.2.2.2.1))\/∃c k:Int,c≠0/\1<=k/\k<=(l.length:Int)/\GC b l c/\d=.inr (I4 c k b))
     (λk z hk ⟨y,⟨hy,hst,hdi⟩,e⟩=>by
      subst e;obtain⟨r,r1,r2,r3⟩:=I5 hb hl hk (0,[],0,0,0,0,0);have hc:cut l 0 (k:Int)=some (l.take k):=by rw[show (0:Int)=((0:Nat):Int)from rfl,rV (Nat.zero_le _) (by omega),List.drop_zero]
      simp only;unfold fp ev;rw[pr (show (k:Int)<(l.length:Int) by omega),cT,cT,oT hk,oy,hc,oy,r1,r2,oy,oy];rcases r3 with ⟨rfl,hnd⟩|⟨rfl,hdup⟩
      · obtain⟨q,q1,q2,q3,q4⟩:=I0 hy (hl.2 _ (getElem_mem hk)).1;have q1':cb (y.1,y.2.1,y.2.2.1,y.2.2.2.1,y.2.2.2.2.1,y.2.2.2.2.2.1,y.2.2.2.2.2.2.1,y.2.2.2.2.2.2.2.1,y.2.2.2.2.2.2.2.2.1,y.2.2.2.2.2.2.2.2.2.1,y.2.2.2.2.2.2.2.2.2.2) l[k]=some q:=q1
        have q2':d8 (y.1,y.2.1,y.2.2.1,y.2.2.2.1,y.2.2.2.2.1,y.2.2.2.2.2.1,y.2.2.2.2.2.2.1,y.2.2.2.2.2.2.2.1,y.2.2.2.2.2.2.2.2.1,y.2.2.2.2.2.2.2.2.2.1,y.2.2.2.2.2.2.2.2.2.2) l[k]=some q:=q2;simp only[Sum.elim_inl,oy,q1',q2',vI hb,te hb,oQ (show k<9223372036854775807 by omega)];cases hq:(q.2 != 0)with
        | true =>
         right;exact⟨_,rfl,rfl,.inr ⟨q.2,((k+1:Nat):Int),bne_iff_ne.1 hq,by omega,by omega,.inr (.inl ⟨k,y,hk,hst,hy,.inr ⟨q.1,q1⟩⟩),rfl⟩⟩
        | false =>
         left;have hq0:q.2=0:=by simpa using hq
         refine⟨_,rfl,rfl,q.1,⟨q3,?_,λi hi hik j hj=>?_⟩,rfl⟩
         · rw[take_add_one,List.getElem?_eq_getElem hk];exact .snoc hst hy (by rw[q1,←hq0])
         · by_cases e:i=k
           · subst e;exact hnd j hj
           · exact hdi i hi (by omega) j hj
      · right;exact⟨_,rfl,rfl,.inr ⟨5,((k+1:Nat):Int),by decide,by omega,by omega,.inr (.inl ⟨k,y,hk,hst,hy,.inl ⟨hdup,rfl⟩⟩),rfl⟩⟩)
     (λz ⟨y,⟨hy,hst,hdi⟩,e⟩=>by
      subst e;simp only;unfold fp ev;rw[pb (show ¬(l.length:Int)<(l.length:Int) by omega),cF,cF];rw[take_length]at hst;exact⟨_,rfl,rfl,.inl ⟨y,⟨hy,hst,λi hi=>hdi i hi hi⟩,rfl⟩⟩) (x:=(0,0,[],0,0,0,0,0,b.1,b.2.1,b.2.2.2.2.2.2.1,b.2.2.2.2.2.2.2.1,b.2.2.2.2.2.2.2.2.1,b.2.2.2.2.2.2.2.2.2.1,b.2.2.2.2.2.2.2.2.2.2,[],[],[],[],b.2.2.1,b.2.2.2.1,b.2.2.2.2.1,b.2.2.2.2.2.1)) ⟨b,⟨hs0,.nil,λi _ hi=>absurd hi (Nat.not_lt_zero _)⟩,rfl⟩
    rw[d1,d2,oy,oy];rcases d3 with ⟨y,⟨hy,hst,hdi⟩,rfl⟩|⟨c,k,c0,k1,k2,hfl,rfl⟩
    · have n6:=hy.n6;have v6:=hy.v;have hq:=hy.q
      have t1:cM (y.2.2.2.2.1,y.2.2.2.2.2.1) (y.2.2.1.length:Int)=some (rg (y.2.2.2.2.1,y.2.2.2.2.2.1) (y.2.2.1.length:Int)):=GN (v:=(y.2.2.2.2.1,y.2.2.2.2.2.1)) _ (by show y.2.2.2.2.1.length<_;omega) (by show y.2.2.2.2.2.1.length<_;omega);have t2:aF (y.2.2.2.2.1,y.2.2.2.2.2.1) (y.2.2.1.length:Int)=some (rg (y.2.2.2.2.1,y.2.2.2.2.2.1) (y.2.2.1.length:Int)):=E6 (v:=(y.2.2.2.2.1,y.2.2.2.2.2.1)) _ (by show y.2.2.2.2.1.length<_;omega) (by show y.2.2.2.2.2.1.length<_;omega) hy.h
      simp only[Sum.elim_inl,t1,t2,oy];cases hv:rg (y.2.2.2.2.1,y.2.2.2.2.2.1) (y.2.2.1.length:Int)with
      | false=>exact⟨_,rfl,rfl,hb,λ_=>⟨hs0,hp⟩,.inr ⟨rfl,by show (5:Int)≠0;decide,by show (1:Int)<=(l.length:Int);omega,Int.le_refl _,.inr (.inr ⟨y,hst,rfl⟩)⟩⟩
      | true =>
       obtain⟨r,r1,r2,r3,r4,r5,r6⟩:=J3 hy;have r1':cc (y.1,y.2.1,y.2.2.1,y.2.2.2.1,y.2.2.2.2.1,y.2.2.2.2.2.1,y.2.2.2.2.2.2.1,y.2.2.2.2.2.2.2.1,y.2.2.2.2.2.2.2.2.1,y.2.2.2.2.2.2.2.2.2.1,y.2.2.2.2.2.2.2.2.2.2)=some r:=r1
       have r2':ci (y.1,y.2.1,y.2.2.1,y.2.2.2.1,y.2.2.2.2.1,y.2.2.2.2.2.1,y.2.2.2.2.2.2.1,y.2.2.2.2.2.2.2.1,y.2.2.2.2.2.2.2.2.1,y.2.2.2.2.2.2.2.2.2.1,y.2.2.2.2.2.2.2.2.2.2)=some r:=r2;simp only[Bool.not_true,cF,r1',r2',oy];exact⟨_,rfl,rfl,r3.le,λ_=>⟨r3,r3.ok (by rw[r4,r5,r6];exact hv)⟩,.inl ⟨rfl,rfl,.inr ⟨y,hst,hy,hdi,r1⟩⟩⟩
    · simp only[Sum.elim_inr];exact⟨_,rfl,rfl,hb,λ_=>⟨hs0,hp⟩,.inr ⟨rfl,c0,k1,k2,hfl⟩⟩

theorem qe.le {b:oA} (h:qe b):uI M b:=by
 obtain⟨v1,v2,v3,v4⟩:=h.vt.len;have h1:=h.name;have h2:=h.n6;have h3:=h.f12
 have v3':b.2.2.2.2.2.1.length=b.2.2.1.length:=v3;have v4':b.2.2.2.2.1.length<=6:=v4
 have hM:M=1048576:=rfl;exact⟨by omega,by omega,by omega,by omega,by omega⟩
theorem xU {b:oA} (h:uI M b):dq b b=some true:=by
 obtain⟨h0,h1,h2,h3,h4⟩:=h;have hM:M=1048576:=rfl
 have r1:eJ b.2.2.2.2.1 b.2.2.2.2.1=some true:=by
  unfold eJ;rw[show ((b.2.2.2.2.1.length:Int) != (b.2.2.2.2.1.length:Int))=false by simp,cF,y6 (n:=b.2.2.2.2.1.length) (λk hk=>by
   unfold fM;rw[pr (by omega),cT,oT hk,oy,oy,oQ (by omega)];simp) (by unfold fM;rw[pb (by omega),cF])]
  rfl
 have r2:loop (λz=>eK b b z) 0=some (.inl ()):=y6 (n:=b.2.2.1.length) (λk hk=>by
  unfold eK;rw[pr (by omega),cT,oT hk,oy,oy,oQ (by omega)];simp) (by unfold eK;rw[pb (by omega),cF])
 have r3:loop (λz=>eL b b z) 0=some (.inl ()):=y6 (n:=b.2.2.2.1.length) (λk hk=>by
  unfold eL;rw[pr (by omega),cT,oT hk,oy,oy,oQ (by omega)];simp) (by unfold eL;rw[pb (by omega),cF])
 unfold dq;rw[r1,r2,r3,uL (by omega)];simp
theorem I6 {x:List UInt8} (h:x∈([[116,101,110,45,98,121,116,101,115,45],[101,108,101,118,101,110,45,98,121,116,101]]:List (List UInt8))):x.length<=11:=by
 simp only[mem_cons,List.not_mem_nil,or_false]at h;rcases h with rfl|rfl<;>decide
theorem JP {c:oL} (h:CW c):∃c' b,eV c=some (c',b)/\CW c'/\sG b/\uI M b:=by
 obtain⟨c1,b,e1,w1,hb,hbp⟩:=Hr h;obtain⟨n1,n2,n3,n4,n5⟩:=(Bn hb hbp).le;obtain⟨c2,r,e2,w2,_⟩:=qq w1 16;unfold eV;rw[e1,oy];show ∃c' b',((aa c1 16).bind _)=_/\_
 rw[e2,oy];show ∃c' b',cond (r==0) _ (cond (r==1) _ (cond (r==2) _ (cond (r==3) _ (cond (r==4) _ (cond (r==5) _ _)))))=_/\_
 cases r==0 with
 | true =>
  obtain⟨c3,x,e3,w3,_⟩:=rM w2 (l:=[0,99,100]) (by decide);rw[cT,e3,oy];exact⟨_,_,rfl,w3,⟨hb.p,hb.f,hb.v,hb.q,hb.r⟩,n1,n2,n3,n4,n5⟩
 | false =>
 cases r==1 with
 | true =>
  obtain⟨c3,x,e3,w3,hx⟩:=Gk w2 (l:=[[116,101,110,45,98,121,116,101,115,45],[101,108,101,118,101,110,45,98,121,116,101]]) (by decide);rw[cF,cT,e3,oy];exact⟨_,_,rfl,w3,⟨hb.p,hb.f,hb.v,hb.q,hb.r⟩,(by have:=I6 hx;show x.length<=1048576;omega),n2,n3,n4,n5⟩
 | false =>
 cases r==2 with
 | true =>
  obtain⟨c3,x,e3,w3,hx⟩:=IO w2;rw[cF,cF,cT,e3,oy];exact⟨_,_,rfl,w3,⟨by show x.length<_;omega,hb.f,hb.v,hb.q,hb.r⟩,n1,(by show x.length<=1048576;omega),n3,n4,n5⟩
 | false =>
 cases r==3 with
 | true =>
  obtain⟨c3,x,e3,w3,hx⟩:=Kg w2;rw[cF,cF,cF,cT,e3,oy];exact⟨_,_,rfl,w3,⟨hb.p,by show x.length<_;omega,hb.v,hb.q,hb.r⟩,n1,n2,(by show x.length<=1048576;omega),n4,n5⟩
 | false =>
 cases r==4 with
 | true =>
  obtain⟨c3,x,n,e3,w3,hx⟩:=Jw w2;have ha:=hx.a
  have hb':=hx.b;rw[cF,cF,cF,cF,cT,e3,oy];exact⟨_,_,rfl,w3,⟨hb.p,hb.f,by show x.1.length<_;omega,by show x.2.length<_;omega,hx.r⟩,n1,n2,n3,(by show x.1.length<=1048576;omega),(by show x.2.length<=1048576;omega)⟩
 | false =>
 cases r==5 with
 | true =>
  obtain⟨c3,x,e3,w3,_⟩:=rM w2 (l:=[(-1),1000000,1000001]) (by decide);rw[cF,cF,cF,cF,cF,cT,e3,oy];exact⟨_,_,rfl,w3,⟨hb.p,hb.f,hb.v,hb.q,hb.r⟩,n1,n2,n3,n4,n5⟩
 | false=>exact⟨_,_,rfl,w2,hb,n1,n2,n3,n4,n5⟩

def Dr {α:Type} (P:α->Prop) (o:Option (oL×α)):Prop:=∃c x,o=some (c,x)/\CW c/\P x
theorem Dr.cond {α:Type} {P:α->Prop} {a b:Option (oL×α)} {t:Bool} (ha:Dr P a) (hb:Dr P b):Dr P (cond t a b):=by cases t<;>assumption
theorem Dr.bind {α β:Type} {Q:α->Prop} {P:β->Prop} {o:Option (oL×α)} {f:oL×α->Option (oL×β)} (h:Dr Q o) (k:∀c x,CW c->Q x->Dr P (f (c,x))):Dr P (o.bind f):=by
 obtain⟨c,x,rfl,hc,hx⟩:=h;exact k c x hc hx
theorem Dr.some {α:Type} {P:α->Prop} {c:oL} {x:α} (hc:CW c) (hx:P x):Dr P (some (c,x)):=⟨c,x,rfl,hc,hx⟩
theorem qj {c:oL} (h:CW c) (n:Int):Dr (λr:Int=>0<=r/\(1<=n->r<n)) (aa c n):=by
 obtain⟨c',r,e,w,h1,h2⟩:=qq h n;exact⟨c',r,e,w,h1,h2⟩
theorem wM {c:oL} (h:CW c) {l:List Int} (hl:1<=l.length):Dr (λr:Int=>r∈l) (ah c l):=by
 obtain⟨c',r,e,w,h1⟩:=rM h hl;exact⟨c',r,e,w,h1⟩
theorem GD {c:oL} (h:CW c) {l:List (List UInt8)} (hl:1<=l.length):Dr (λr:List UInt8=>r∈l) (aN c l):=by
 obtain⟨c',r,e,w,h1⟩:=Gk h hl;exact⟨c',r,e,w,h1⟩
theorem za {c:oL} (h:CW c):Dr (λo:List Int=>Nm o) (av c):=by
 obtain⟨c',r,e,w,h1⟩:=IN h;exact⟨c',r,e,w,h1⟩
theorem DW {c:oL} (h:CW c):Dr (λ_:Int=>True) (br c):=by
 unfold br;refine Dr.bind (qj h 1000) λc x hc _=>?_;obtain⟨c',r,e,w,_⟩:=rM hc (l:=[0,1,(-1),127,128,(-128),(-129),255,256,32767,32768,(-32769),8388608,2147483647,(-2147483648),2147483648,(-2147483649),9223372036854775807,(-9223372036854775808),x]) (by simp);simp only[e];exact⟨c',r,rfl,w,trivial⟩
def EX (v:rm):Prop:=(v.1=2->v.2.2.1=[]/\v.2.2.2=[])/\(v.1=4->v.2.1=0/\v.2.2.2=[])
theorem Cl (n:Int):EX (2,n,[],[]):=⟨λ_=>⟨rfl,rfl⟩,λh=>absurd (show (2:Int)=4 from h) (by decide)⟩
theorem I7 (s:List UInt8):EX (4,0,s,[]):=⟨λh=>absurd (show (4:Int)=2 from h) (by decide),λ_=>⟨rfl,rfl⟩⟩
theorem JQ (o:List Int):EX (6,0,[],o):=⟨λh=>absurd (show (6:Int)=2 from h) (by decide),λh=>absurd (show (6:Int)=4 from h) (by decide)⟩
theorem G0 (k:Int):EX (k,0,[],[]):=⟨λ_=>⟨rfl,rfl⟩,λ_=>⟨rfl,rfl⟩⟩
def D2 (v:rm):Prop:=v.2.2.1.length<=100/\v.2.2.2.length<=1000/\EX v
theorem GE (n:Int):∃r,ao n=some r:=by
 unfold ao;cases decide (n>2147483647)<;>cases decide (n<(-2147483648))<;>exact⟨_,rfl⟩
theorem EY {x:List UInt8} {l:List (List UInt8)} {n:Nat} (h:x∈l) (hl:∀y∈l,y.length<=n):x.length<=n:=hl x h
theorem An {c:oL} (h:CW c):Dr D2 (ap c):=by
 unfold ap;refine Dr.bind (qj h 6) λc x hc _=>?_;have hn:∀c,CW c->Dr D2 ((br c).bind λt12=>(ao t12.2).bind λt13=>(ai t13).bind λt14=>some (t12.1,t14)):=λc hc=>by
  refine Dr.bind (DW hc) λc x hc _=>?_;obtain⟨r,hr⟩:=GE x;simp only[hr,oy,ai];exact Dr.some hc ⟨by simp,by simp,Cl _⟩
 have hs:∀c,CW c->Dr D2 ((aN c ([[],[97],[121,97,114,100],[0]]:List (List UInt8))).bind λt19=>some (t19.1,(4,0,t19.2,[]))):=λc hc=>by
  refine Dr.bind (GD hc (by decide)) λc x hc hx=>?_;exact Dr.some hc ⟨Nat.le_trans (EY (n:=4) hx (by decide)) (by decide),by simp,I7 _⟩
 have ho:∀c,CW c->Dr D2 ((av c).bind λt24=>some (t24.1,(6,0,[],t24.2))):=λc hc=>by
  refine Dr.bind (za hc) λc x hc hx=>?_;exact Dr.some hc ⟨by simp,by have:=hx.n10;show x.length<=1000;omega,JQ _⟩
 have hi:∀c,CW c->Dr D2 ((ah c ([128,130]:List Int)).bind λt28=>some (t28.1,(t28.2,0,[],[]))):=λc hc=>by
  refine Dr.bind (wM hc (by decide)) λc x hc hx=>?_;exact Dr.some hc ⟨by simp,by simp,G0 _⟩
 repeat' (first|apply Dr.cond|exact Dr.some hc ⟨by simp,by simp,G0 _⟩|exact hn c hc|exact hs c hc|exact ho c hc|exact hi c hc)
def tU (x:oC):Prop:=x.1.length<=1000/\D2 x.2
theorem tU.le {x:oC} (h:tU x):vq M x:=by
 have hM:M=1048576:=rfl;obtain⟨h1,h2,h3,_⟩:=h;exact⟨by omega,by omega,by omega⟩
theorem I8 {c:oL} (h:CW c) {b:oA} (hb:sG b) (hn:∀c,CW c->Dr Nm (aq c b)):Dr tU (eN c b):=by
 obtain⟨t18,hsh⟩:∃t,shl .i64 1 (IntKind.u64.wrap (b.2.2.1.length:Int))=some t:=by
  unfold shl;rw[if_neg (show ¬IntKind.u64.wrap (b.2.2.1.length:Int)<0 by show ¬((b.2.2.1.length:Int)%18446744073709551616)<0;omega)];exact⟨_,rfl⟩
 have hnm:∀(l:List Int),l.length<=100->ac l=some ([1,3,1]++l):=λl hl=>zg l hl;have h22:∀c p,CW c->Dr tU ((ac [2,2,oB (1+p)]).bind λt36=>(ah c ([1,5,1000,0,1001]:List Int)).bind λt39=>(ai t39.2).bind λt40=>some (t39.1,(t36,t40.1,t40.2.1,t40.2.2.1,t40.2.2.2))):=λc p hc=>by
  rw[hnm _ (by simp),oy];exact Dr.bind (wM hc (by decide)) λc x hc _=>Dr.some hc ⟨by simp,by simp,by simp,Cl _⟩
 have h24:∀c p,CW c->Dr tU ((ac [2,4,oB (1+p)]).bind λt46=>(aa c 4).bind λt48=>(ai (oB (1+t48.2))).bind λt50=>some (t48.1,(t46,t50.1,t50.2.1,t50.2.2.1,t50.2.2.2))):=λc p hc=>by
  rw[hnm _ (by simp),oy];exact Dr.bind (qj hc 4) λc x hc _=>Dr.some hc ⟨by simp,by simp,by simp,Cl _⟩
 have h31:∀c,CW c->Dr tU ((aa c 4).bind λt56=>(ac [3,1,oB (1+t56.2)]).bind λt59=>(ah t56.1 ([4,4,6,1]:List Int)).bind λt62=>(ai t62.2).bind λt63=>some (t62.1,(t59,t63.1,t63.2.1,t63.2.2.1,t63.2.2.2))):=λc hc=>by
  refine Dr.bind (qj hc 4) λc x hc _=>?_;rw[hnm _ (by simp),oy];exact Dr.bind (wM hc (by decide)) λc x hc _=>Dr.some hc ⟨by simp,by simp,by simp,Cl _⟩
 have h3x:∀c k m,CW c->Dr tU ((aa c 4).bind λt69=>(ac [3,k,oB (1+t69.2)]).bind λt72=>(aa t69.1 m).bind λt76=>(ai t76.2).bind λt77=>some (t76.1,(t72,t77.1,t77.2.1,t77.2.2.1,t77.2.2.2))):=λc k m hc=>by
  refine Dr.bind (qj hc 4) λc x hc _=>?_;rw[hnm _ (by simp),oy];exact Dr.bind (qj hc m) λc x hc _=>Dr.some hc ⟨by simp,by simp,by simp,Cl _⟩
 have hoth:∀c,CW c->Dr tU ((aq c b).bind λt94=>(ap t94.1).bind λt96=>some (t96.1,(t94.2,t96.2.1,t96.2.2.1,t96.2.2.2.1,t96.2.2.2.2))):=λc hc=>by
  refine Dr.bind (hn c hc) λc o hc ho=>?_;refine Dr.bind (An hc) λc v hc hv=>?_;exact Dr.some hc ⟨by have:=ho.n10;show o.length<=1000;omega,hv⟩
 have h11:∀c,CW c->Dr tU ((ac ([1,1]:List Int)).bind λt25=>(aN c ([[110,101,119],[],[101,108,101,118,101,110,45,98,121,116,101]]:List (List UInt8))).bind λt28=>some (t28.1,(t25,4,0,t28.2,[]))):=λc hc=>by
  rw[hnm _ (by simp),oy];exact Dr.bind (GD hc (by decide)) λc x hc hx=>Dr.some hc ⟨by simp,Nat.le_trans (EY (n:=11) hx (by decide)) (by decide),by simp,I7 _⟩
 unfold eN;refine Dr.bind (qj h _) λc p hc _=>?_;rw[hsh,oy];refine Dr.bind (qj hc 10) λc r hc _=>?_
 repeat' (first|apply Dr.cond|exact h22 c p hc|exact h24 c p hc|exact h31 c hc|exact h3x c _ _ hc|exact hoth c hc|exact h11 c hc)
theorem Hf {c:oL} (h:CW c) {b:oA} (hb:sG b) (hn:∀c,CW c->Dr Nm (aq c b)):Dr (λl:List oC=>l.length<=3/\∀x∈l,tU x) (dD c b):=by
 unfold dD;obtain⟨c1,k,e1,w1,hk⟩:=qr h (n:=4) (by decide);have e1':aa c 4=some (c1,(k:Int)):=e1
 rw[e1',oy];obtain⟨d,d1,d2,d3,d4⟩:=oR (step:=λz:Int×List Int×Int×Int×List oC=>bR b z.1 z.2.1 z.2.2.1 z.2.2.2.1 z.2.2.2.2)
  (λi z=>z.1=((k-i:Nat):Int)/\CW (z.2.1,z.2.2.1,z.2.2.2.1)/\z.2.2.2.2.length=i/\∀x∈z.2.2.2.2,tU x) k
  (λd=>CW (d.1,d.2.1,d.2.2.1)/\d.2.2.2.length=k/\∀x∈d.2.2.2,tU x)
  (λi z hi ⟨z1,z2,z3,z4⟩=>by
   obtain⟨j,c0,c1,c2,out⟩:=z;simp only at z1 z2 z3 z4;subst z1 z3;left;obtain⟨c',x,x1,x2,x3⟩:=I8 z2 hb hn;refine⟨_,by
    show bR b _ _ _ _ _=_;unfold bR;rw[dT (show ((k-out.length:Nat):Int)>0 by omega),cT,x1,oy,oH (by show _+1<=_;omega),oy],?_,x2,by simp,?_⟩
   · show oB (((k-out.length:Nat):Int)-1)=_;rw[pj (by omega) (by omega)];omega
   · intro y hy;rcases mem_append.1 hy with hy|hy
     · exact z4 y hy
     · simp at hy;subst hy;exact x3)
  (λz ⟨z1,z2,z3,z4⟩=>by
   obtain⟨j,c0,c1,c2,out⟩:=z;simp only at z1 z2 z3 z4;rw[Nat.sub_self]at z1;subst z1;refine⟨(c0,c1,c2,out),?_,z2,z3,z4⟩;show bR b _ _ _ _ _=_
   unfold bR;rw[dF (show ¬((0:Nat):Int)>0 by decide),cF]) (x:=((k:Int),c1.1,c1.2.1,c1.2.2,[])) ⟨rfl,w1,rfl,by simp⟩
 show Dr _ ((loop (λz:Int×List Int×Int×Int×List oC=>bR b z.1 z.2.1 z.2.2.1 z.2.2.2.1 z.2.2.2.2) ((k:Int),c1.1,c1.2.1,c1.2.2,[])).bind _);rw[d1,oy];exact Dr.some d2 ⟨by omega,d4⟩

def uT (n:Int):Int:=if n>2147483647 then 2147483647 else if n < -2147483648 then -2147483648 else n
theorem D3 (n:Int):-2147483648<=uT n/\uT n<=2147483647:=by unfold uT;split<;>(try split)<;>omega
def qI (m:Int):List Int:=if oE m (-128) 127 then [m%256]else if oE m (-32768) 32767 then [m/256%256,m%256]else if oE m (-8388608) 8388607 then [m/65536%256,m/256%256,m%256]else [m/16777216%256,m/65536%256,m/256%256,m%256]
theorem w8 (x:Int):IntKind.u8.wrap x=x%256:=rfl
theorem fd (m:Int) {k:Int} (hk:0<=k):m.fdiv k=m/k:=Int.fdiv_eq_ediv_of_nonneg m hk
theorem qb {α β:Type} {step:α->Option (α⊕β)} {x y:α} {b:β} (h:step x=some (.inl y)) (k:loop step y=some b):loop step x=some b:=by
 obtain⟨n,hn⟩:=yA k;exact td (k:=n+1) (by rw[q9,h];exact hn)
theorem EZ {n:Int} (hn:-9223372036854775808<=n/\n<=9223372036854775807):dK n=some (qI (uT n)):=by
 unfold dK;have hc:max2 (-2147483648) (min2 n 2147483647)=uT n:=by
  unfold max2 min2 uT;split<;>split<;>(try split)<;>(try split)<;>omega
 rw[hc];obtain⟨h1,h2⟩:=D3 n;generalize uT n=m at h1 h2;simp only;have a1:aJ m 1=cond (!(oE m (-128) 127)) (some (.inl 2)) (some (.inr 1)):=by
  unfold aJ;rw[show shl .i64 (-1) (oB ((oB (8*1))-1))=some (-128)from rfl,show shl .i64 1 (oB ((oB (8*1))-1))=some 128 from rfl];simp only[oy,s4];rw[show oB (128-1)=127 from rfl];cases oE m (-128) 127<;>rfl
 have a2:aJ m 2=cond (!(oE m (-32768) 32767)) (some (.inl 3)) (some (.inr 2)):=by
  unfold aJ;rw[show shl .i64 (-1) (oB ((oB (8*2))-1))=some (-32768)from rfl,show shl .i64 1 (oB ((oB (8*2))-1))=some 32768 from rfl];simp only[oy,s4];rw[show oB (32768-1)=32767 from rfl];cases oE m (-32768) 32767<;>rfl
 have a3:aJ m 3=cond (!(oE m (-8388608) 8388607)) (some (.inl 4)) (some (.inr 3)):=by
  unfold aJ;rw[show shl .i64 (-1) (oB ((oB (8*3))-1))=some (-8388608)from rfl,show shl .i64 1 (oB ((oB (8*3))-1))=some 8388608 from rfl];simp only[oy,s4];rw[show oB (8388608-1)=8388607 from rfl];cases oE m (-8388608) 8388607<;>rfl
 have a4:aJ m 4=some (.inr 4):=rfl;have b3:∀out:List Int,out.length<=10->ay m 3 out=some (.inl (2,out++[m/16777216%256])):=λout ho=>by
  unfold ay;rw[show shr .i64 m (oB (8*3))=some (m.fdiv (2^24))from rfl,oy,oH (by simp;omega),oy,w8,fd m (by decide)];rfl
 have b2:∀out:List Int,out.length<=10->ay m 2 out=some (.inl (1,out++[m/65536%256])):=λout ho=>by
  unfold ay;rw[show shr .i64 m (oB (8*2))=some (m.fdiv (2^16))from rfl,oy,oH (by simp;omega),oy,w8,fd m (by decide)];rfl
 have b1:∀out:List Int,out.length<=10->ay m 1 out=some (.inl (0,out++[m/256%256])):=λout ho=>by
  unfold ay;rw[show shr .i64 m (oB (8*1))=some (m.fdiv (2^8))from rfl,oy,oH (by simp;omega),oy,w8,fd m (by decide)];rfl
 have b0:∀out:List Int,out.length<=10->ay m 0 out=some (.inl (-1,out++[m%256])):=λout ho=>by
  unfold ay;rw[show shr .i64 m (oB (8*0))=some (m.fdiv (2^0))from rfl,oy,oH (by simp;omega),oy,w8,fd m (by decide)];simp;rfl
 have be:∀out:List Int,ay m (-1) out=some (.inr out):=λout=>rfl;have c0:∀out:List Int,out.length<=9->loop (λz:Int×List Int=>ay m z.1 z.2) (0,out)=some (out++[m%256]):=λout ho=>qb (b0 out (by omega)) (pG (be _))
 have c1:∀out:List Int,out.length<=8->loop (λz:Int×List Int=>ay m z.1 z.2) (1,out)=some (out++[m/256%256]++[m%256]):=λout ho=>qb (b1 out (by omega)) (c0 _ (by simp;omega));have c2:∀out:List Int,out.length<=7->loop (λz:Int×List Int=>ay m z.1 z.2) (2,out)=some (out++[m/65536%256]++[m/256%256]++[m%256]):=λout ho=>qb (b2 out (by omega)) (c1 _ (by simp;omega))
 have c3:∀out:List Int,out.length<=6->loop (λz:Int×List Int=>ay m z.1 z.2) (3,out)=some (out++[m/16777216%256]++[m/65536%256]++[m/256%256]++[m%256]):=λout ho=>qb (b3 out (by omega)) (c2 _ (by simp;omega));unfold qI;cases h8:oE m (-128) 127 with
 | true =>
  rw[h8]at a1;rw[pG (step:=λz=>aJ m z) a1,oy,show oB (1-1)=0 from rfl,c0 [] (by simp)];rfl
 | false =>
  rw[h8]at a1;cases h16:oE m (-32768) 32767 with
  | true =>
   rw[h16]at a2;rw[qb (step:=λz=>aJ m z) a1 (pG a2),oy,show oB (2-1)=1 from rfl,c1 [] (by simp)];rfl
  | false =>
   rw[h16]at a2;cases h24:oE m (-8388608) 8388607 with
   | true =>
    rw[h24]at a3;rw[qb (step:=λz=>aJ m z) a1 (qb a2 (pG a3)),oy,show oB (3-1)=2 from rfl,c2 [] (by simp)];rfl
   | false =>
    rw[h24]at a3;rw[qb (step:=λz=>aJ m z) a1 (qb a2 (qb a3 (pG a4))),oy,show oB (4-1)=3 from rfl,c3 [] (by simp)];rfl
theorem yI {n a b:Int} (h:oE n a b=false):n<a\/n>b:=by
 unfold oE at h;simp only[Bool.and_eq_false_iff,decide_eq_false_iff_not]at h;omega
theorem r8 {n a b:Int} (h:oE n a b=true):a<=n/\n<=b:=by
 unfold oE at h;simp only[aT,decide_eq_true_eq]at h;omega
theorem zb {n:Int}:bC n=some (qI (uT n)):=by
 unfold bC;have hc:ao n=some (uT n):=by
  unfold ao uT;by_cases h1:n>2147483647
  · rw[dT h1,cT,if_pos h1]
  · rw[dF h1,cF,if_neg h1];by_cases h2:n < -2147483648
    · rw[dT h2,cT,if_pos h2]
    · rw[dF h2,cF,if_neg h2]
 rw[hc,oy];obtain⟨h1,h2⟩:=D3 n;generalize uT n=m at h1 h2;have st:∀(x:Int) (out:List Int),out.length<=10->bg x out=cond (oE x (-128) 127) (some (.inr out)) (some (.inl (x/256,x/256%256::out))):=λx out ho=>by
  unfold bg;have e:(cond (decide (x<(-128))) (some true) (some (decide (x>127))))=some (!(oE x (-128) 127)):=by
   unfold oE;by_cases h1:x < -128
   · rw[dT h1,cT,dF (show ¬x >= -128 by omega)];rfl
   · rw[dF h1,cF,dT (show x >= -128 by omega)];by_cases h2:x>127
     · rw[dT h2,dF (show ¬x<=127 by omega)];rfl
     · rw[dF h2,dT (show x<=127 by omega)];rfl
  rw[e,oy,oH (by simp;omega),oy,w8,fd x (by decide)];cases oE x (-128) 127<;>rfl
 rw[w8];have goes:∀(x:Int) (out:List Int),out.length<=9->oE x (-128) 127=true->loop (λz:Int×List Int=>bg z.1 z.2) (x,out)=some out:=λx out ho h=>pG (by show bg x out=_;rw[st x out (by omega),h];rfl)
 have more:∀(x:Int) (out r:List Int),out.length<=9->oE x (-128) 127=false->loop (λz:Int×List Int=>bg z.1 z.2) (x/256,x/256%256::out)=some r->loop (λz:Int×List Int=>bg z.1 z.2) (x,out)=some r:=λx out r ho h k=>qb (by show bg x out=_;rw[st x out (by omega),h];rfl) k;have vp:∀(x a b:Int),a<=x->x<=b->oE x a b=true:=λx a b h1 h2=>by unfold oE;rw[dT h1,dT h2];rfl
 have outn:∀(x a b:Int),(x<a\/x>b)->oE x a b=false:=λx a b h=>by
  unfold oE;simp only[Bool.and_eq_false_iff,decide_eq_false_iff_not];omega
 unfold qI;cases h8:oE m (-128) 127 with
 | true=>rw[goes m _ (by simp) h8];rfl
 | false =>
  have k8:=yI h8;cases h16:oE m (-32768) 32767 with
  | true =>
   have k16:=r8 h16;rw[more m _ _ (by simp) h8 (goes (m/256) _ (by simp) (vp _ _ _ (by omega) (by omega)))];rfl
  | false =>
   have k16:=yI h16;cases h24:oE m (-8388608) 8388607 with
   | true =>
    have k24:=r8 h24;rw[more m _ _ (by simp) h8 (more (m/256) _ _ (by simp) (outn _ _ _ (by omega)) (goes (m/256/256) _ (by simp) (vp _ _ _ (by omega) (by omega))))];rw[show m/256/256=m/65536 by omega];rfl
   | false =>
    have k24:=yI h24;rw[more m _ _ (by simp) h8 (more (m/256) _ _ (by simp) (outn _ _ _ (by omega)) (more (m/256/256) _ _ (by simp) (outn _ _ _ (by omega)) (goes (m/256/256/256) _ (by simp) (vp _ _ _ (by omega) (by omega)))))];rw[show m/256/256=m/65536 by omega,show m/65536/256=m/16777216 by omega];rfl

def Kn (b:List Int):Prop:=∀x∈b,0<=x/\x<=255
def pE (t:Int) (body:List Int):List Int:=t::((if body.length>=128 then [129,(body.length:Int)]else [(body.length:Int)])++body)
theorem DX (t:Int) {body:List Int} (hn:body.length<=M):bV t body=some (if oE t 0 255=true/\body.length<=250 then (pE t body,true)else ([],false)):=by
 have hn':body.length<=1048576:=hn;unfold bV;rw[s4,oy];cases ht:oE t 0 255 with
 | false=>rw[if_neg (by simp)];rfl
 | true =>
  obtain⟨t1,t2⟩:=r8 ht;rw[Bool.not_true,cF,oy];by_cases h:(body.length:Int)>250
  · rw[dT h,cT,if_neg (by omega)]
  · rw[dF h,cF,if_pos ⟨rfl,by omega⟩];unfold pE;have e1:IntKind.u8.wrap t=t:=by rw[w8];omega
    have e2:IntKind.u8.wrap (body.length:Int)=(body.length:Int):=by rw[w8];omega
    by_cases h8:(body.length:Int)>=128
    · rw[dT h8,cT,oH (by simp),oy,oH (by simp),oy,oH (by simp;omega),oy,if_pos (by omega),e1,e2];rfl
    · rw[dF h8,cF,oH (by simp),oy,oH (by simp;omega),oy,if_neg (by omega),e1,e2];rfl
theorem Cm {b:List Int} (t:Int) {body:List Int} (hb:b.length<=1000) (hn:body.length<=M):aV b t body=some (b++if oE t 0 255=true/\body.length<=250 then pE t body else []):=by
 unfold aV;have hM:M=1048576:=rfl
 rw[DX t hn,oy,Fr (by omega),oy];split
 · next h =>
   have:(pE t body).length<=300:=by unfold pE;split<;>simp<;>omega
   rw[oH (by show b.length+(pE t body).length<=_;omega)];rfl
 · rw[oH (by show b.length+0<=_;omega)];rfl
structure yJ (b:List Int) (at':Int) (t:Int) (body:List Int) (next:Int):Prop where
 ex:∃pre rest,b=pre++(pE t body++rest)/\at'=(pre.length:Int)/\next=((pre.length+(pE t body).length:Nat):Int)
 n:body.length<=250
 t:oE t 0 255=true
 b:Kn body
def GF (x:Int):Int:=if x>127 then x-256 else x
theorem vP {n:Int} (h:-2147483648<=n/\n<=2147483647):uT n=n:=by unfold uT;split<;>(try split)<;>omega
theorem i8 {x:Int} (hx:0<=x/\x<=255):oB (IntKind.i8.wrap x)=GF x:=by
 have:IntKind.i8.wrap x=GF x:=by
  show (let m:=x%256;if (true&&decide (m>=128))=true then m-256 else m)=_;unfold GF;simp only[Bool.true_and,decide_eq_true_eq];split<;>split<;>omega
 rw[this];unfold GF;split<;>exact pj (by omega) (by omega)
theorem GG:((2^64:Nat):Int)=18446744073709551616:=by decide
theorem xw {x:Int} (hx:0<=x/\x<9223372036854775808):rJ .i64 x 127=x%128:=by
 show IntKind.i64.wrap (((BitVec.ofInt 64 x&&&BitVec.ofInt 64 127).toNat:Nat):Int)=_;rw[BitVec.toNat_and,BitVec.toNat_ofInt,BitVec.toNat_ofInt,GG];have h2:((127:Int)%18446744073709551616).toNat=2^7-1:=by decide
 have h1:(x%18446744073709551616).toNat=x.toNat:=by omega
 rw[h1,h2,Nat.and_two_pow_sub_one_eq_mod];show (let z:=((x.toNat%2^7:Nat):Int)%18446744073709551616;if (true&&decide (z>=9223372036854775808))=true then z-18446744073709551616 else z)=_
 simp only[Bool.true_and,decide_eq_true_eq];split<;>omega
theorem I9 {x:Int} (hx:0<=x/\x<128):zS .i64 x 128=x+128:=by
 show IntKind.i64.wrap (((BitVec.ofInt 64 x|||BitVec.ofInt 64 128).toNat:Nat):Int)=_;rw[BitVec.toNat_or,BitVec.toNat_ofInt,BitVec.toNat_ofInt,GG];have h2:((128:Int)%18446744073709551616).toNat=2^7*1:=by decide
 have h1:(x%18446744073709551616).toNat=x.toNat:=by omega
 rw[h1,h2,Nat.or_comm,←Nat.two_pow_add_eq_or_of_lt (by show x.toNat<2^7;omega)];show (let z:=((2^7*1+x.toNat:Nat):Int)%18446744073709551616;if (true&&decide (z>=9223372036854775808))=true then z-18446744073709551616 else z)=_
 simp only[Bool.true_and,decide_eq_true_eq];split<;>omega
def grp (n:Int):List Int:=if n<=127 then [n]else if n<=16383 then [n/128+128,n%128]else if n<=2097151 then [n/16384+128,n/128%128+128,n%128]else [n/2097152+128,n/16384%128+128,n/128%128+128,n%128]
def qU (o:List Int):List Int:=o.flatMap grp
theorem JR {n:Int} (hn:0<=n/\n<268435456):ed n=some (grp n):=by
 unfold ed;have st:∀(x:Int) (out:List Int),0<=x/\x<268435456->out.length<=10->bh x out=cond (decide (x>127)) (some (.inl (x/128,(x/128%128+128)::out))) (some (.inr out)):=λx out hx ho=>by
  unfold bh;rw[fd x (by decide),show (2:Int)^7=128 from rfl,xw (by omega),I9 (by omega),w8,oH (by simp;omega),oy,show (x/128%128+128)%256=x/128%128+128 by omega];rfl
 have goes:∀(x:Int) (out:List Int),0<=x/\x<268435456->out.length<=9->x<=127->loop (λz:Int×List Int=>bh z.1 z.2) (x,out)=some out:=λx out hx ho h=>pG (by show bh x out=_;rw[st x out hx (by omega),dF (by omega)];rfl);have more:∀(x:Int) (out r:List Int),0<=x/\x<268435456->out.length<=9->127<x->loop (λz:Int×List Int=>bh z.1 z.2) (x/128,(x/128%128+128)::out)=some r->loop (λz:Int×List Int=>bh z.1 z.2) (x,out)=some r:=λx out r hx ho h k=>qb (by show bh x out=_;rw[st x out hx (by omega),dT (by omega)];rfl) k
 rw[xw (by omega),w8,show n%128%256=n%128 by omega];unfold grp;by_cases h1:n<=127
 · rw[if_pos h1,goes n _ hn (by simp) h1,show n%128=n by omega];rfl
 rw[if_neg h1];by_cases h2:n<=16383
 · rw[if_pos h2,more n _ _ hn (by simp) (by omega) (goes (n/128) _ (by omega) (by simp) (by omega)),show n/128%128=n/128 by omega];rfl
 rw[if_neg h2];by_cases h3:n<=2097151
 · rw[if_pos h3,more n _ _ hn (by simp) (by omega) (more (n/128) _ _ (by omega) (by simp) (by omega) (goes (n/128/128) _ (by omega) (by simp) (by omega))),show n/128/128=n/16384 by omega,show n/16384%128=n/16384 by omega];rfl
 rw[if_neg h3,more n _ _ hn (by simp) (by omega) (more (n/128) _ _ (by omega) (by simp) (by omega) (more (n/128/128) _ _ (by omega) (by simp) (by omega) (goes (n/128/128/128) _ (by omega) (by simp) (by omega)))),show n/128/128=n/16384 by omega,show n/16384/128=n/2097152 by omega,show n/2097152%128=n/2097152 by omega];rfl
theorem Hg (n:Int):(grp n).length<=4:=by unfold grp;split<;>(try split)<;>(try split)<;>simp
theorem G3 {n:Int} (h:n<=100000):(grp n).length<=3:=by unfold grp;split<;>(try split)<;>(try split)<;>simp<;>omega
theorem uU {o:List Int} (h:∀x∈o,x<=100000):(qU o).length<=3*o.length:=by
 induction o with
 | nil=>simp[qU]
 | cons x t ih =>
  have h1:=ih λy hy=>h y (mem_cons_of_mem _ hy);have h2:=G3 (h x (by simp))
  unfold qU at h1 ⊢;rw[List.flatMap_cons,length_append,length_cons];omega
theorem JS {n:Int} (hn:0<=n/\n<=100000) {out:List Int} (ho:out.length<=100):∃d,loop (λz=>bu n z) 0=some d/\∃e,loop (λz:Int×List Int=>bW n z.1 z.2) (d,out)=some e/\e.length<=104/\e++[IntKind.u8.wrap (rJ .i64 n 127)]=out++grp n:=by
 have s0:bu n 0=cond (decide (n>127)) (some (.inl 1)) (some (.inr 0)):=by
  unfold bu;rw[show shr .i64 n (oB (7*0))=some (n.fdiv (2^0))from rfl,oy,fd n (by decide),show n/2^0=n by simp];rfl
 have s1:bu n 1=cond (decide (n/128>127)) (some (.inl 2)) (some (.inr 1)):=by
  unfold bu;rw[show shr .i64 n (oB (7*1))=some (n.fdiv (2^7))from rfl,oy,fd n (by decide),show (2:Int)^7=128 from rfl];rfl
 have s2:bu n 2=some (.inr 2):=by
  unfold bu;rw[show shr .i64 n (oB (7*2))=some (n.fdiv (2^14))from rfl,oy,fd n (by decide),show (2:Int)^14=16384 from rfl,dF (by omega)];rfl
 have t0:∀o:List Int,bW n 0 o=some (.inr o):=λo=>rfl;have t1:∀o:List Int,o.length<=110->bW n 1 o=some (.inl (0,o++[n/128%128+128])):=λo ho=>by
  unfold bW;rw[show shr .i64 n (oB (7*1))=some (n.fdiv (2^7))from rfl,oy,fd n (by decide),show (2:Int)^7=128 from rfl,xw (by omega),pj (by omega) (by omega),w8,oH (by simp;omega),oy,show (n/128%128+128)%256=n/128%128+128 by omega];rfl
 have t2:∀o:List Int,o.length<=110->bW n 2 o=some (.inl (1,o++[n/16384%128+128])):=λo ho=>by
  unfold bW;rw[show shr .i64 n (oB (7*2))=some (n.fdiv (2^14))from rfl,oy,fd n (by decide),show (2:Int)^14=16384 from rfl,xw (by omega),pj (by omega) (by omega),w8,oH (by simp;omega),oy,show (n/16384%128+128)%256=n/16384%128+128 by omega];rfl
 rw[xw (by omega),w8,show n%128%256=n%128 by omega];unfold grp;by_cases h1:n<=127
 · rw[dF (by omega)]at s0;refine⟨0,pG s0,out,pG (t0 out),by omega,?_⟩;rw[if_pos h1,show n%128=n by omega]
 rw[dT (by omega)]at s0;by_cases h2:n<=16383
 · rw[dF (by omega)]at s1;refine⟨1,qb s0 (pG s1),_,qb (t1 out (by omega)) (pG (t0 _)),by simp;omega,?_⟩;rw[if_neg h1,if_pos h2,show n/128%128=n/128 by omega];simp
 rw[dT (by omega)]at s1;refine⟨2,qb s0 (qb s1 (pG s2)),_,qb (t2 out (by omega)) (qb (t1 _ (by simp;omega)) (pG (t0 _))),by simp;omega,?_⟩;rw[if_neg h1,if_neg h2,if_pos (by omega),show n/16384%128=n/16384 by omega];simp
theorem Ia {o:List Int} (hn:o.length<=M):∃v,ak o=some v/\(v=true->1<=o.length/\o.length<=10/\∀x∈o,0<=x/\x<=100000)/\cI o=some (cond v (qU o) []):=by
 have hn':o.length<=1048576:=hn;obtain⟨v,hv,hv2⟩:∃v,ak o=some v/\(v=true->1<=o.length/\o.length<=10/\∀x∈o,0<=x/\x<=100000):=by
  unfold ak;obtain⟨b,h1,h2⟩:=oR (β:=Unit⊕Bool) (step:=λz=>aI o z) (λk i=>i=(k:Int)/\∀x∈o.take k,0<=x/\x<=100000) o.length (λb=>(b=.inl ()/\∀x∈o,0<=x/\x<=100000)\/b=.inr false)
   (λk i hk ⟨e,hx⟩=>by
    subst e;have hs:aI o (k:Int)=cond (!(oE o[k] 0 100000)) (some (.inr (.inr false))) (some (.inl ((k+1:Nat):Int))):=by
     unfold aI;rw[pr (by omega),cT,oT hk,oy,s4,oy,oQ (by omega)]
    cases hp:oE o[k] 0 100000 with
    | false=>exact .inr ⟨_,by rw[hs,hp];rfl,.inr rfl⟩
    | true =>
     refine .inl ⟨_,by rw[hs,hp];rfl,rfl,λx hx'=>?_⟩;rw[take_add_one,List.getElem?_eq_getElem hk,mem_append]at hx';rcases hx' with hx'|hx'
     · exact hx x hx'
     · simp at hx';subst hx';exact r8 hp)
   (λi ⟨e,hx⟩=>by
    subst e;rw[take_length]at hx;refine⟨.inl (),?_,.inl ⟨rfl,hx⟩⟩;unfold aI;rw[pb (by omega),cF]) (x:=0) ⟨rfl,by simp⟩
  rw[h1,oy];rcases h2 with ⟨rfl,hx⟩|rfl
  · simp only[Sum.elim_inl,s4,oy];refine⟨_,rfl,λh=>?_⟩;have:=r8 h
    exact⟨by omega,by omega,hx⟩
  · exact⟨false,rfl,λh=>by cases h⟩
 refine⟨v,hv,hv2,?_⟩;unfold cI;rw[hv,oy];cases v with
 | false=>rfl
 | true =>
  obtain⟨h1,h10,hx⟩:=hv2 rfl;obtain⟨b,e1,rfl⟩:=oR (step:=λz:Int×List Int=>cH o z.1 z.2) (λk z=>z=((k:Int),qU (o.take k))) o.length (λb=>b=qU o)
   (λk z hk e=>by
    subst e;left;have hl:(qU (o.take k)).length<=30:=by
     have:=uU (o:=o.take k) λx hx'=>(hx x (mem_of_mem_take hx')).2;rw[length_take]at this;omega
    obtain⟨d,d1,e,e1,e2,e3⟩:=JS (hx _ (getElem_mem hk)) (out:=qU (o.take k)) (by omega);have ht:qU (o.take (k+1))=qU (o.take k)++grp o[k]:=by
     unfold qU;rw[take_add_one,List.getElem?_eq_getElem hk,flatMap_append];simp
    refine⟨_,?_,rfl⟩;show cH o (k:Int) (qU (o.take k))=_
    unfold cH;rw[pr (by omega),cT,oT hk,oy,d1,oy,e1,oy,oH (by simp;omega),oy,oQ (by omega),ht,←e3])
   (λz e=>by
    subst e;refine⟨qU o,?_,rfl⟩;show cH o (o.length:Int) (qU (o.take o.length))=_
    unfold cH;rw[pb (by omega),cF,take_length]) (x:=(0,[])) rfl
  rw[e1];rfl

def JT (o:List Int):Prop:=1<=o.length/\o.length<=10/\∀x∈o,0<=x/\x<=100000
theorem uV {o:List Int} (h:rW o=true):JT o:=by
 unfold rW at h;rw[aT,Bool.not_eq_true']at h;have h1:=r8 h.2
 refine⟨by omega,by omega,λx hx=>?_⟩;obtain⟨k,hk,rfl⟩:=getElem_of_mem hx;have:=any_eq_false.1 h.1 k (mem_range.2 hk)
 unfold AS at this;simp only[List.getElem?_eq_getElem hk]at this;cases hp:oE o[k] 0 100000 with
 | true=>exact r8 hp
 | false=>rw[hp]at this;exact absurd rfl this
theorem D4 {o:List Int} (hn:o.length<=M):cI o=some (cond (rW o) (qU o) []):=by
 obtain⟨v,h1,h2,h3⟩:=Ia hn;rw[zQ (by have:o.length<=1048576:=hn;omega)]at h1;cases h1;exact h3
def rq (v:rm):List Int:=cond (v.1==2) (qI v.2.1) (cond (v.1==4) (sU v.2.2.1) (cond (v.1==6) (qU v.2.2.2) []))
theorem D5 {o:List Int} (h:rW o=true):o.length<=10:=(uV h).2.1
theorem yJ.next {b:List Int} {i t:Int} {body:List Int} {next:Int} (h:yJ b i t body next):0<=next/\next<=(b.length:Int):=by
 obtain⟨pre,rest,e1,e2,e3⟩:=h.ex;have:=congrArg List.length e1
 rw[length_append,length_append]at this;omega
theorem rU (n:Int):(qI n).length<=4:=by unfold qI;split<;>(try split)<;>(try split)<;>simp
theorem qn (t:Int) {body:List Int}:(pE t body).length<=body.length+3:=by unfold pE;split<;>simp<;>omega
theorem xX {v:rm} (h:sT v=true):(rq v).length<=30/\oE v.1 0 255=true/\v.2.2.2.length<=10/\v.2.2.1.length<=20:=by
 obtain⟨k,n,s,o⟩:=v;have vp:∀{x:Int},0<=x->x<=255->oE x 0 255=true:=λh1 h2=>by unfold oE;rw[dT h1,dT h2];rfl
 unfold sT at h;simp only at h;unfold rq;simp only;by_cases h1:(k==5||(k==128||k==130))=true
 · rw[h1,cT]at h;simp only[aT,beq_iff_eq]at h;simp only[Bool.or_eq_true,beq_iff_eq]at h1;obtain⟨_,rfl,ho⟩:=h;rcases h1 with rfl|rfl|rfl<;>exact⟨by simp,by decide,by omega,by simp⟩
 · have h1':(k==5||(k==128||k==130))=false:=by simpa using h1
   rw[h1',cF]at h;by_cases h2:k=2
   · subst h2;simp only[show ((2:Int)==2)=true from rfl,cT,aT,beq_iff_eq]at h ⊢;obtain⟨_,rfl,ho⟩:=h;have:=rU n
     exact⟨by omega,by decide,by omega,by simp⟩
   rw[beq_eq_false_iff_ne.2 h2,cF]at h ⊢;by_cases h4:k=4
   · subst h4;simp only[show ((4:Int)==4)=true from rfl,cT,aT,beq_iff_eq,decide_eq_true_eq]at h ⊢;obtain⟨h5,_,ho⟩:=h;exact⟨by unfold sU;rw[length_map];omega,by decide,by omega,by omega⟩
   rw[beq_eq_false_iff_ne.2 h4,cF]at h ⊢;by_cases h6:k=6
   · subst h6;simp only[show ((6:Int)==6)=true from rfl,cT,aT,beq_iff_eq]at h ⊢;obtain⟨ho,_,rfl⟩:=h;obtain⟨o1,o2,o3⟩:=uV ho;have:=uU (o:=o) λx hx=>(o3 x hx).2
     exact⟨by omega,by decide,by omega,by simp⟩
   · rw[beq_eq_false_iff_ne.2 h6,cF]at h;cases h
theorem Ib {b:List Int} (hb:b.length<=1000) {v:rm} (h:sT v=true):f7 b v=some (b++pE v.1 (rq v)):=by
 obtain⟨l1,l2,l3,l4⟩:=xX h;have hM:M=1048576:=rfl
 have fin:∀body:List Int,rq v=body->aV b v.1 body=some (b++pE v.1 (rq v)):=λbody e=>by
  subst e;rw[Cm _ hb (by omega),if_pos ⟨l2,by omega⟩]
 unfold f7;rw[Gw (by omega),h,oy];simp only[Bool.not_true,cF];by_cases h2:v.1=2
 · have e:rq v=qI v.2.1:=by unfold rq;rw[beq_iff_eq.2 h2];rfl
   have hr:-2147483648<=v.2.1/\v.2.1<=2147483647:=by
    unfold sT at h;rw[h2]at h;simp only[show ((2:Int)==5)=false from rfl,show ((2:Int)==128)=false from rfl,show ((2:Int)==130)=false from rfl,Bool.or_self,cF,show ((2:Int)==2)=true from rfl,cT,aT]at h;exact r8 h.1
   rw[beq_iff_eq.2 h2,cT,EZ (by omega),oy,vP hr,fin _ e];rfl
 rw[beq_eq_false_iff_ne.2 h2,cF];by_cases h4:v.1=4
 · have e:rq v=sU v.2.2.1:=by unfold rq;rw[beq_eq_false_iff_ne.2 h2,beq_iff_eq.2 h4];rfl
   rw[beq_iff_eq.2 h4,cT,fin _ e];rfl
 rw[beq_eq_false_iff_ne.2 h4,cF];by_cases h6:v.1=6
 · have e:rq v=qU v.2.2.2:=by unfold rq;rw[beq_eq_false_iff_ne.2 h2,beq_eq_false_iff_ne.2 h4,beq_iff_eq.2 h6];rfl
   have ho:rW v.2.2.2=true:=by
    unfold sT at h;rw[h6]at h;simp only[show ((6:Int)==5)=false from rfl,show ((6:Int)==128)=false from rfl,show ((6:Int)==130)=false from rfl,Bool.or_self,cF,show ((6:Int)==2)=false from rfl,show ((6:Int)==4)=false from rfl,show ((6:Int)==6)=true from rfl,cT,aT]at h;exact h.1
   rw[beq_iff_eq.2 h6,cT,D4 (by omega),ho,cT,oy,fin _ e];rfl
 · have e:rq v=[]:=by unfold rq;rw[beq_eq_false_iff_ne.2 h2,beq_eq_false_iff_ne.2 h4,beq_eq_false_iff_ne.2 h6];rfl
   rw[beq_eq_false_iff_ne.2 h6,cF,fin _ e];rfl
def x7 (x:oC):List Int:=pE 6 (qU x.1)++pE x.2.1 (rq x.2)
def vb (x:oC):List Int:=pE 48 (x7 x)
def qO (l:List oC):List Int:=l.flatMap vb
def rG (p:p7):List Int:=pE 2 (qI p.2.1)++pE 2 (qI p.2.2.1)++pE 2 (qI p.2.2.2.1)++pE 48 (qO p.2.2.2.2)
theorem ru {p:p7} (h:r9 p=true):(∀x∈p.2.2.2.2,sK x=true)/\p.2.2.2.2.length<=10/\oE p.1 0 255=true/\(-2147483648<=p.2.1/\p.2.1<=2147483647)/\(0<=p.2.2.1/\p.2.2.1<=1000)/\(0<=p.2.2.2.1/\p.2.2.2.1<=1000):=by
 obtain⟨k,id,a,b,l⟩:=p;unfold r9 at h;simp only[aT,Bool.not_eq_true',decide_eq_true_eq]at h;obtain⟨⟨h1,h2⟩,h3,h4⟩:=h;refine⟨λx hx=>?_,by show l.length<=10;omega,?_⟩
 · obtain⟨j,hj,rfl⟩:=getElem_of_mem hx;have hj':j<l.length:=hj
   have:=any_eq_false.1 h1 j (mem_range.2 hj');unfold bX at this;simp only[List.getElem?_eq_getElem hj']at this;simpa using this
 · have h4:=r8 h4;by_cases c1:(k==162||k==165)=true
   · rw[c1,cT,aT]at h3;have q1:=r8 h3.1
     have q2:=r8 h3.2;simp only[Bool.or_eq_true,beq_iff_eq]at c1;refine⟨?_,h4,q1,q2⟩;rcases c1 with rfl|rfl<;>rfl
   · have c1':(k==162||k==165)=false:=by simpa using c1
     rw[c1',cF]at h3;by_cases c2:(k==160||(k==161||k==163))=true
     · rw[c2,cT,aT]at h3;simp only[beq_iff_eq]at h3;simp only[Bool.or_eq_true,beq_iff_eq]at c2;obtain⟨rfl,rfl⟩:=h3;refine⟨?_,h4,by show (0:Int)<=0/\(0:Int)<=1000;omega,by show (0:Int)<=0/\(0:Int)<=1000;omega⟩;rcases c2 with rfl|rfl|rfl<;>rfl
     · have c2':(k==160||(k==161||k==163))=false:=by simpa using c2
       rw[c2',cF]at h3;cases h3
theorem wN {x:oC} (h:sK x=true):(x7 x).length<=100/\(vb x).length<=110:=by
 unfold sK at h;rw[aT]at h;obtain⟨l1,_⟩:=xX h.2;obtain⟨o1,o2,o3⟩:=uV h.1;have h3:=uU (o:=x.1) λy hy=>(o3 y hy).2
 have h4:=qn 6 (body:=qU x.1);have h5:=qn x.2.1 (body:=rq x.2)
 have h6:(x7 x).length<=100:=by unfold x7;rw[length_append];omega
 have h7:=qn 48 (body:=x7 x);exact⟨h6,by unfold vb;omega⟩
theorem Cn {b:List Int} (hb:b.length<=900) {n:Int} (hn:-2147483648<=n/\n<=2147483647):cJ b 2 n=some (b++pE 2 (qI n)):=by
 unfold cJ;have h4:=rU n
 rw[EZ (by omega),oy,vP hn,Cm _ (by omega) (by show _<=1048576;omega),oy,if_pos ⟨by decide,by omega⟩]
theorem Id {p:p7} (hp:tH M p):f8 p=some (if r9 p=true/\(qO p.2.2.2.2).length<=250/\(rG p).length<=250 then pE p.1 (rG p)else []):=by
 unfold f8;rw[IR hp,oy];cases h:r9 p with
 | false=>rw[if_neg (by simp)];rfl
 | true =>
  obtain⟨h1,h2,h3,h4,h5,h6⟩:=ru h;have hl:∀k,(qO (p.2.2.2.2.take k)).length<=110*k:=by
   intro k
   induction k with
   | zero=>simp[qO]
   | succ k ih =>
    by_cases hk:k<p.2.2.2.2.length
    · have ht:qO (p.2.2.2.2.take (k+1))=qO (p.2.2.2.2.take k)++vb p.2.2.2.2[k]:=by
       unfold qO;rw[take_add_one,List.getElem?_eq_getElem hk,flatMap_append];simp
      have:=(wN (h1 _ (getElem_mem hk))).2;rw[ht,length_append];omega
    · rw[take_of_length_le (by omega)]at ih ⊢;omega
  obtain⟨b,e1,rfl⟩:=oR (step:=λz:Int×List Int=>cK p z.1 z.2) (λk z=>z=((k:Int),qO (p.2.2.2.2.take k))) p.2.2.2.2.length (λb=>b=.inl (qO p.2.2.2.2))
   (λk z hk e=>by
    subst e;left;have hx:=h1 _ (getElem_mem hk)
    have hx':=hx;unfold sK at hx';rw[aT]at hx';obtain⟨o1,o2,o3⟩:=uV hx'.1;have hob:=uU (o:=p.2.2.2.2[k].1) λy hy=>(o3 y hy).2
    have hlk:=hl k;obtain⟨b1,b2⟩:=wN hx;have ht:qO (p.2.2.2.2.take (k+1))=qO (p.2.2.2.2.take k)++vb p.2.2.2.2[k]:=by
     unfold qO;rw[take_add_one,List.getElem?_eq_getElem hk,flatMap_append];simp
    have ht6:=qn 6 (body:=qU p.2.2.2.2[k].1);refine⟨_,?_,rfl⟩;show cK p (k:Int) (qO (p.2.2.2.2.take k))=_
    unfold cK;rw[pr (by omega),cT,oT hk,oy,D4 (by show _<=1048576;omega),hx'.1,cT,oy,Cm _ (by simp) (by show _<=1048576;omega),if_pos ⟨by decide,by omega⟩,oy,nil_append,Ib (by omega) hx'.2,oy];have hone:pE 6 (qU p.2.2.2.2[k].1)++pE p.2.2.2.2[k].2.1 (rq p.2.2.2.2[k].2)=x7 p.2.2.2.2[k]:=rfl
    rw[hone,DX _ (by show _<=1048576;omega),if_pos ⟨by decide,by omega⟩,oy];simp only[Bool.not_true,cF];have hbb:pE 48 (x7 p.2.2.2.2[k])=vb p.2.2.2.2[k]:=rfl
    rw[hbb,oH (by omega),oy,oQ (by omega),ht])
   (λz e=>by
    subst e;refine⟨_,?_,rfl⟩;show cK p (p.2.2.2.2.length:Int) (qO (p.2.2.2.2.take p.2.2.2.2.length))=_
    unfold cK;rw[pb (by omega),cF,take_length]) (x:=(0,[])) rfl
  have hal:(qO p.2.2.2.2).length<=1100:=by
   have:=hl p.2.2.2.2.length;rw[take_length]at this;omega
  rw[Bool.not_true,cF,e1,oy,Sum.elim_inl,DX _ (by show _<=1048576;omega)];by_cases ha:(qO p.2.2.2.2).length<=250
  · rw[if_pos ⟨by decide,ha⟩,oy];simp only[Bool.not_true,cF];have t1:=qn 2 (body:=qI p.2.1)
    have t2:=qn 2 (body:=qI p.2.2.1);have t3:=qn 2 (body:=qI p.2.2.2.1)
    have t4:=qn 48 (body:=qO p.2.2.2.2);have i1:=rU p.2.1
    have i2:=rU p.2.2.1;have i3:=rU p.2.2.2.1
    rw[Cn (by simp) h4,oy,nil_append,Cn (by omega) ⟨by omega,by omega⟩,oy,Cn (by rw[length_append];omega) ⟨by omega,by omega⟩,oy,oH (by simp only[length_append];omega),oy];have hbody:pE 2 (qI p.2.1)++pE 2 (qI p.2.2.1)++pE 2 (qI p.2.2.2.1)++pE 48 (qO p.2.2.2.2)=rG p:=rfl
    rw[hbody,DX _ (by show _<=1048576;unfold rG;simp only[length_append];omega)];by_cases hb:(rG p).length<=250
    · rw[if_pos ⟨h3,hb⟩,if_pos ⟨by first|rfl|trivial,ha,hb⟩];rfl
    · rw[if_neg (λe=>hb e.2),if_neg (λe=>hb e.2.2)];rfl
  · rw[if_neg (λe=>ha e.2),if_neg (λe=>ha e.2.1)];rfl

theorem yJ.cons {b P s:List Int} {i t:Int} {x:List Int} {next:Int} (h:yJ b i t x next) (e:b=P++s) (hi:i=(P.length:Int)):∃s',b=(P++pE t x)++s'/\next=((P++pE t x).length:Int):=by
 obtain⟨pre,rest,e1,e2,e3⟩:=h.ex;have hl:pre.length=P.length:=by omega
 obtain⟨q1,q2⟩:=List.append_inj (e1.symm.trans e) hl;subst q1;exact⟨rest,by rw[e1,List.append_assoc],by rw[e3,length_append]⟩
theorem G4 (t:Int) (b:List Int):1<=(pE t b).length:=by unfold pE;simp
theorem sm {x:oC} (h:sK x=true):vq M x:=by
 unfold sK at h;rw[aT]at h;obtain⟨_,_,l3,l4⟩:=xX h.2;have:=D5 h.1
 have hM:M=1048576:=rfl;exact⟨by omega,by omega,by omega⟩
theorem tH.of {p:p7} (h:∀x∈p.2.2.2.2,sK x=true) (h2:p.2.2.2.2.length<=11):tH M p:=⟨by show _<=1048576;omega,λx hx=>sm (h x hx)⟩
def zI (p:p7):List Int:=if r9 p=true/\(qO p.2.2.2.2).length<=250/\(rG p).length<=250 then pE p.1 (rG p)else []
def pZ (p:p7):Bool:=oE ((zI p).length:Int) 1 120
theorem zc {p:p7} (hp:tH M p):aH p=some (pZ p):=by
 unfold aH;rw[Id hp,oy];show (ae ((zI p).length:Int) 1 120).bind _=_
 rw[s4,oy];rfl
theorem Hh {p:p7} (h:pZ p=true):r9 p=true:=by
 unfold pZ zI at h;split at h
 · rename_i hh;exact hh.1
 · obtain⟨h1,_⟩:=r8 h;simp at h1
theorem wk {α β:Type} {l:List α} {g:α->β} {step:Int×List β->Option ((Int×List β)⊕List β)} (hn:l.length<=M)
 (h1:∀k (hk:k<l.length) (out:List β),out.length=k->step ((k:Int),out)=some (.inl (((k+1:Nat):Int),out++[g l[k]]))) (h2:∀out,step ((l.length:Int),out)=some (.inr out)):loop step (0,[])=some (l.map g):=by
 obtain⟨b,e1,rfl⟩:=oR (step:=step) (λk z=>z=((k:Int),(l.take k).map g)) l.length (λb=>b=l.map g)
  (λk z hk e=>by
   subst e;refine .inl ⟨_,h1 k hk _ (by rw[length_map,length_take];omega),?_⟩;rw[take_add_one,List.getElem?_eq_getElem hk,map_append];rfl)
  (λz e=>by
   subst e;exact⟨_,h2 _,by rw[take_length]⟩) (x:=(0,[])) rfl
 exact e1
noncomputable def pO (b:oA) (o:List Int):oC:=(aY b o).getD ([],0,0,[],[])
noncomputable def wl (b:oA) (o:List Int):rm:=(bA b o).getD (0,0,[],[])
theorem zd {b:oA} (h:qe b) {o:List Int} (ho:o.length<=1000):aY b o=some (pO b o)/\((pO b o∈qJ b/\o<(pO b o).1)\/(pO b o=(o,130,0,[],[])/\∀x∈qJ b,¬o<x.1)):=by
 obtain⟨j,hj⟩:=Jx (Gq h) o;have e:=Jy h ho hj
 unfold pO;rw[e];refine⟨rfl,?_⟩;by_cases hl:j<(qJ b).length
 · rw[dif_pos hl];exact .inl ⟨getElem_mem hl,hj.yes j hl (Nat.le_refl _)⟩
 · rw[dif_neg hl];refine .inr ⟨rfl,λx hx=>?_⟩;obtain⟨i,hi,rfl⟩:=getElem_of_mem hx;exact hj.no i hi (by omega)
theorem G5 {b:oA} (h:qe b) {o:List Int} (ho:o.length<9223372036854775807):bA b o=some (wl b o)/\((∃x∈qJ b,x.1=o/\wl b o=x.2)\/((∀x∈qJ b,x.1≠o)/\wl b o=(128,0,[],[]))):=by
 obtain⟨v,e,hv⟩:=Kc h ho;unfold wl;rw[e];exact⟨rfl,hv⟩
theorem D6 {o:List Int} (h:Nm o):rW o=true:=by
 have h1:=h.ok;rw[zQ (by have:=h.n10;omega)]at h1;exact Option.some.inj h1
theorem D7 {v:rm} (h:Vl v):sT v=true:=by
 have h1:=h.ok;rw[Gw (by rw[h.o];show 0<=1048576;omega)]at h1;exact Option.some.inj h1
theorem so {o:List Int} (h:rW o=true):o.length<=10:=(uV h).2.1
theorem J4 {b:oA} (h:qe b) {x:oC} (hx:x∈qJ b):sK x=true:=by
 obtain⟨h1,h2⟩:=uY h x hx;unfold sK;rw[D6 h1,D7 h2];rfl
theorem xx {b:oA} (h:qe b) {o:List Int} (ho:rW o=true):sK (pO b o)=true:=by
 obtain⟨_,h1⟩:=zd h (o:=o) (by have:=so ho;omega);rcases h1 with ⟨h1,_⟩|⟨h1,_⟩
 · exact J4 h h1
 · rw[h1];unfold sK;rw[ho];rfl
theorem rb {x:oC} (h:sK x=true):rW x.1=true:=by
 unfold sK at h;rw[aT]at h;exact h.1
theorem GH {b:oA} (h:qe b) {o:List Int} (ho:o.length<9223372036854775807):sT (wl b o)=true:=by
 obtain⟨_,h1⟩:=G5 h ho;rcases h1 with ⟨x,hx,_,e⟩|⟨_,e⟩
 · rw[e];exact D7 (uY h x hx).2
 · rw[e];rfl
def tg (s:List oC×List (List Int)):Nat:=min s.2.length (10-s.1.length)
noncomputable def vp (b:oA) (s:List oC×List (List Int)):List oC×List (List Int):=(s.1++(s.2.take (tg s)).map (pO b),(s.2.take (tg s)).map (λo=>(pO b o).1)++s.2.drop (tg s))
noncomputable def uW (b:oA):Nat->List oC×List (List Int)->List oC×List (List Int)
 | 0,s=>s
 | k+1,s=>if 0<s.2.length/\s.1.length<10 then uW b k (vp b s)else s
structure yK (s:List oC×List (List Int)):Prop where
 o10:s.1.length<=10
 l10:s.2.length<=10
 oOk:∀x∈s.1,sK x=true
 lOk:∀o∈s.2,rW o=true
theorem F9 {b:oA} (h:qe b) {s:List oC×List (List Int)} (hs:yK s):yK (vp b s):=by
 obtain⟨h1,h2,h3,h4⟩:=hs;refine⟨?_,?_,λx hx=>?_,λo ho=>?_⟩
 · show (s.1++_).length<=10;rw[length_append,length_map,length_take];unfold tg;omega
 · show (_++s.2.drop (tg s)).length<=10;rw[length_append,length_map,length_take,length_drop];unfold tg;omega
 · rcases mem_append.1 hx with hx|hx
   · exact h3 x hx
   · obtain⟨o,ho,rfl⟩:=mem_map.1 hx;exact xx h (h4 o (mem_of_mem_take ho))
 · rcases mem_append.1 ho with ho|ho
   · obtain⟨q,hq,rfl⟩:=mem_map.1 ho;exact rb (xx h (h4 q (mem_of_mem_take hq)))
   · exact h4 o (List.mem_of_mem_drop ho)
theorem JU {b:oA} (h:qe b) {s:List oC×List (List Int)} (hs:yK s):loop (λz=>bZ b s.2 z.1 z.2.1 z.2.2) (0,s.1,s.2)=some (vp b s):=by
 obtain⟨out,l⟩:=s;obtain⟨h1,h2,h3,h4⟩:=hs;simp only at h1 h2 h3 h4;have hm:tg (out,l)=min l.length (10-out.length):=rfl
 obtain⟨v,e1,rfl⟩:=oR (step:=λz:Int×List oC×List (List Int)=>bZ b l z.1 z.2.1 z.2.2) (λk z=>z=((k:Int),out++(l.take k).map (pO b),(l.take k).map (λo=>(pO b o).1)++l.drop k)) (tg (out,l)) (λv=>v=vp b (out,l))
  (λk z hk e=>by
   subst e;left;have hkl:k<l.length:=by omega
   have hlen:((l.take k).map (λo=>(pO b o).1)++l.drop k).length=l.length:=by rw[length_append,length_map,length_take,length_drop];omega
   have hol:(out++(l.take k).map (pO b)).length=out.length+k:=by rw[length_append,length_map,length_take];omega
   have hA:((l.take k).map (λo=>(pO b o).1)).length=k:=by rw[length_map,length_take];omega
   have hget:((l.take k).map (λo=>(pO b o).1)++l.drop k)[k]?=some l[k]:=by
    rw[List.getElem?_append_right (by omega),hA,Nat.sub_self,List.getElem?_drop,Nat.add_zero,List.getElem?_eq_getElem hkl]
   have hn:=(zd h (o:=l[k]) (by have:=so (h4 _ (getElem_mem hkl));omega)).1;refine⟨_,?_,rfl⟩;show bZ b l (k:Int) _ _=_
   unfold bZ;rw[pr (by omega),cT,hol,dF (by omega),cF,hlen,tZ hkl];simp only[oy,hget,hn];rw[oH (by rw[hol];show out.length+k+1<=_;omega),oy,oQ (by omega)];have t1:(l.take (k+1))=l.take k++[l[k]]:=by rw[take_add_one,List.getElem?_eq_getElem hkl];rfl
   have t2:((l.take k).map (λo=>(pO b o).1)++l.drop k).set k (pO b l[k]).1=(l.take (k+1)).map (λo=>(pO b o).1)++l.drop (k+1):=by
    rw[List.set_append_right _ _ (by omega),hA,Nat.sub_self,List.drop_eq_getElem_cons hkl,List.set_cons_zero,t1,map_append,List.append_assoc];rfl
   rw[t2,t1];simp only[map_append,List.map_cons,List.map_nil,List.append_assoc])
  (λz e=>by
   subst e;refine⟨_,?_,rfl⟩;show bZ b l ((tg (out,l):Nat):Int) _ _=_
   have hol:(out++(l.take (tg (out,l))).map (pO b)).length=out.length+tg (out,l):=by rw[length_append,length_map,length_take];omega
   unfold bZ;rw[hol];by_cases hlt:((tg (out,l):Nat):Int)<(l.length:Int)
   · rw[pr hlt,cT,dT (by omega),cT];rfl
   · rw[pb hlt,cF];rfl) (x:=(0,out,l)) (by simp)
 exact e1
theorem D8 {b:oA} (h:qe b):∀(n:Nat) {s:List oC×List (List Int)},yK s->yK (uW b n s)
 | 0,s,hs=>hs
 | n+1,s,hs=>by
  unfold uW;split
  · exact D8 h n (F9 h hs)
  · exact hs
theorem GI {b:oA} (h:qe b) {p:p7} (hB:p.2.2.2.1<=1000):∀(n i:Nat) {s:List oC×List (List Int)},yK s->((i+n:Nat):Int)=p.2.2.2.1->loop (λz=>bf b p z.1 z.2.1 z.2.2) ((i:Int),s.1,s.2)=some (uW b n s)
 | 0,i,s,hs,e=>by
  refine pG ?_;show bf b p (i:Int) s.1 s.2=_
  unfold bf;rw[pb (by omega),cF,oy,cF,oy,cF];rfl
 | n+1,i,s,hs,e=>by
  by_cases hc:0<s.2.length/\s.1.length<10
  · refine qb (y:=(((i+1:Nat):Int),(vp b s).1,(vp b s).2)) ?_ ?_
    · show bf b p (i:Int) s.1 s.2=_;unfold bf;rw[pr (by omega),cT,dT (by omega),oy,cT,pr (by omega),oy,cT,JU h hs,oy,oQ (by omega)]
    · have:=GI h hB n (i+1) (F9 h hs) (by omega);rw[this,show uW b (n+1) s=uW b n (vp b s)from if_pos hc]
  · refine pG ?_;show bf b p (i:Int) s.1 s.2=_
    have e2:uW b (n+1) s=s:=if_neg hc;rw[e2];unfold bf;rw[pr (by omega),cT];by_cases h1:0<s.2.length
    · rw[dT (by omega),oy,cT,pb (by omega),oy,cF]
    · rw[dF (by omega),oy,cF,oy,cF]
def pH (p:p7):Nat:=min p.2.2.1.toNat p.2.2.2.2.length
noncomputable def DY (b:oA) (p:p7):List oC×List (List Int):=uW b p.2.2.2.1.toNat ((p.2.2.2.2.take (pH p)).map (λx=>pO b x.1),(p.2.2.2.2.drop (pH p)).map (λx=>x.1))
noncomputable def rH (b:oA) (p:p7):List oC:=(DY b p).1
theorem GJ {b:oA} (h:qe b) {p:p7} (hp:r9 p=true):yK ((p.2.2.2.2.take (pH p)).map (λx=>pO b x.1),(p.2.2.2.2.drop (pH p)).map (λx=>x.1)):=by
 obtain⟨h1,h2,_⟩:=ru hp;refine⟨?_,?_,λx hx=>?_,λo ho=>?_⟩
 · rw[length_map,length_take];omega
 · rw[length_map,length_drop];omega
 · obtain⟨y,hy,rfl⟩:=mem_map.1 hx;exact xx h (rb (h1 y (mem_of_mem_take hy)))
 · obtain⟨y,hy,rfl⟩:=mem_map.1 ho;exact rb (h1 y (List.mem_of_mem_drop hy))
theorem D9 {b:oA} (h:qe b) {p:p7} (hp:r9 p=true):yK (DY b p):=D8 h _ (GJ h hp)
theorem J5 {b:oA} (h:qe b) {p:p7} (hp:r9 p=true):fc b p=some (rH b p):=by
 obtain⟨h1,h2,_,_,h5,h6⟩:=ru hp;have hmin:min2 p.2.2.1 (p.2.2.2.2.length:Int)=((pH p:Nat):Int):=by
  unfold min2 pH;split<;>omega
 have hon:pH p<=p.2.2.2.2.length:=Nat.min_le_right _ _;unfold fc;show ((cut p.2.2.2.2 0 (min2 p.2.2.1 (p.2.2.2.2.length:Int))).bind _)=_
 rw[hmin];have c1:cut p.2.2.2.2 0 ((pH p:Nat):Int)=some (p.2.2.2.2.take (pH p)):=by
  have:=rV (l:=p.2.2.2.2) (a:=0) (b:=pH p) (by omega) hon;simpa using this
 have c2:cut p.2.2.2.2 ((pH p:Nat):Int) (p.2.2.2.2.length:Int)=some (p.2.2.2.2.drop (pH p)):=by
  have:=rV (l:=p.2.2.2.2) (a:=pH p) (b:=p.2.2.2.2.length) hon (Nat.le_refl _);rw[take_length]at this;exact this
 have l1:loop (λz:Int×List oC=>cS b (p.2.2.2.2.take (pH p)) z.1 z.2) (0,[])=some ((p.2.2.2.2.take (pH p)).map (λx=>pO b x.1)):=by
  refine wk (by show _<=1048576;rw[length_take];omega) (λk hk out ho=>?_) (λout=>?_)
  · have hx:=h1 _ (mem_of_mem_take (getElem_mem hk));have hk':=hk
    rw[length_take]at hk';show cS b _ (k:Int) out=_
    unfold cS;rw[pr (by omega),cT,oT hk,oy,(zd h (by have:=so (rb hx);omega)).1,oy,oH (by rw[ho];show k+1<=_;omega),oy,oQ (by omega)]
  · show cS b _ ((p.2.2.2.2.take (pH p)).length:Int) out=_;unfold cS;rw[pb (by omega),cF]
 have l2:loop (λz:Int×List (List Int)=>cU (p.2.2.2.2.drop (pH p)) z.1 z.2) (0,[])=some ((p.2.2.2.2.drop (pH p)).map (λx=>x.1)):=by
  refine wk (by show _<=1048576;rw[length_drop];omega) (λk hk out ho=>?_) (λout=>?_)
  · have hk':=hk;rw[length_drop]at hk';show cU _ (k:Int) out=_
    unfold cU;rw[pr (by omega),cT,oT hk,oy,oH (by rw[ho];show k+1<=_;omega),oy,oQ (by omega)]
  · show cU _ ((p.2.2.2.2.drop (pH p)).length:Int) out=_;unfold cU;rw[pb (by omega),cF]
 rw[c1,oy,l1,oy,c2,oy,l2,oy];have:=GI h (p:=p) (by omega) p.2.2.2.1.toNat 0 (GJ h hp) (by omega)
 have this:loop (λz=>bf b p z.1 z.2.1 z.2.2) (0,(p.2.2.2.2.take (pH p)).map (λx=>pO b x.1),(p.2.2.2.2.drop (pH p)).map (λx=>x.1))=_:=this;rw[this,oy];rfl
def shr (f:List oC->Bool):Nat->List oC->Option (List oC)
 | 0,_=>none
 | n+1,l=>if f (l.take n)=true then some (l.take n)else shr f n (l.take n)
theorem Co {f:List oC->Bool}:∀{n:Nat} {l t:List oC},shr f n l=some t->f t=true/\∃m,m<n/\t=l.take m
 | 0,l,t,h=>by cases h
 | n+1,l,t,h=>by
  unfold shr at h;split at h
  · rename_i hf;cases h;exact⟨hf,n,by omega,rfl⟩
  · obtain⟨h1,m,h2,h3⟩:=Co h;refine⟨h1,m,by omega,?_⟩;rw[h3,List.take_take,Nat.min_eq_left (by omega)]
theorem zJ {α β γ δ:Type} {step:α->Option (α⊕(β⊕δ))} {x:α} {F:β->Option γ} {G:δ->Option γ} {R:Option γ} (h:∃d,step x=some (.inr (.inl d))) (k:∀d,F d=R):(loop step x).bind (Sum.elim F G)=R:=by
 obtain⟨d,h⟩:=h;rw[pG h,oy,Sum.elim_inl,k]
abbrev Ko:=Int×List UInt8×Int×Int×Int×Int×Int×Int×Int×Int×Int×Int×List UInt8×Int×Int×Int×Int×Int×Int×Int×Int×Int×List oC×List Pt×List oG×List oO×List Int×List oC×List Pt×List oG×List oO×List Int
theorem Ie {p:p7} (h165:(p.1==165)=true) (b:oA) (j0:Int) (j1:List UInt8) (j2 j3 j4 j5 j6 j7 j8 j9 j10:Int) (k i a c:Int) (j11:List Pt) (j12:List oG) (j13:List oO) (j14:List Int) (j15:List oC):∀(n:Nat) (l:List oC),l.length=n->n<=10->(∀x∈l,vq M x) ->
 ∃w,loop (λz:Ko=>e9 p z.1 z.2.1 z.2.2.1 z.2.2.2.1 z.2.2.2.2.1 z.2.2.2.2.2.1 z.2.2.2.2.2.2.1 z.2.2.2.2.2.2.2.1 z.2.2.2.2.2.2.2.2.1 z.2.2.2.2.2.2.2.2.2.1 z.2.2.2.2.2.2.2.2.2.2.1 z.2.2.2.2.2.2.2.2.2.2.2.1 z.2.2.2.2.2.2.2.2.2.2.2.2.1 z.2.2.2.2.2.2.2.2.2.2.2.2.2.1 z.2.2.2.2.2.2.2.2.2.2.2.2.2.2.1 z.2.2.2.2.2.2.2.2.2.2.2.2.2.2.2.1 z.2.2.2.2.2.2.2.2.2.2.2.2.2.2.2.2.1 z.2.2.2.2.2.2.2.2.2.2.2.2.2.2.2.2.2.1 z.2.2.2.2.2.2.2.2.2.2.2.2.2.2.2.2.2.2.1 z.2.2.2.2.2.2.2.2.2.2.2.2.2.2.2.2.2.2.2.1 z.2.2.2.2.2.2.2.2.2.2.2.2.2.2.2.2.2.2.2.2.1 z.2.2.2.2.2.2.2.2.2.2.2.2.2.2.2.2.2.2.2.2.2.1 z.2.2.2.2.2.2.2.2.2.2.2.2.2.2.2.2.2.2.2.2.2.2.1 z.2.2.2.2.2.2.2.2.2.2.2.2.2.2.2.2.2.2.2.2.2.2.2.1 z.2.2.2.2.2.2.2.2.2.2.2.2.2.2.2.2.2.2.2.2.2.2.2.2.1 z.2.2.2.2.2.2.2.2.2.2.2.2.2.2.2.2.2.2.2.2.2.2.2.2.2.1 z.2.2.2.2.2.2.2.2.2.2.2.2.2.2.2.2.2.2.2.2.2.2.2.2.2.2.1 z.2.2.2.2.2.2.2.2.2.2.2.2.2.2.2.2.2.2.2.2.2.2.2.2.2.2.2.1 z.2.2.2.2.2.2.2.2.2.2.2.2.2.2.2.2.2.2.2.2.2.2.2.2.2.2.2.2.1 z.2.2.2.2.2.2.2.2.2.2.2.2.2.2.2.2.2.2.2.2.2.2.2.2.2.2.2.2.2.1 z.2.2.2.2.2.2.2.2.2.2.2.2.2.2.2.2.2.2.2.2.2.2.2.2.2.2.2.2.2.2.1 z.2.2.2.2.2.2.2.2.2.2.2.2.2.2.2.2.2.2.2.2.2.2.2.2.2.2.2.2.2.2.2) (j0,j1,j2,j3,j4,j5,j6,j7,j8,j9,j10,b.1,b.2.1,b.2.2.2.2.2.2.1,b.2.2.2.2.2.2.2.1,b.2.2.2.2.2.2.2.2.1,b.2.2.2.2.2.2.2.2.2.1,b.2.2.2.2.2.2.2.2.2.2,k,i,a,c,l,j11,j12,j13,j14,j15,b.2.2.1,b.2.2.2.1,b.2.2.2.2.1,b.2.2.2.2.2.1)=some w/\(match shr (λt=>pZ (k,i,a,c,t)) n l with|some t=>w=.inr (true,b.1,b.2.1,b.2.2.2.2.2.2.1,b.2.2.2.2.2.2.2.1,b.2.2.2.2.2.2.2.2.1,b.2.2.2.2.2.2.2.2.2.1,b.2.2.2.2.2.2.2.2.2.2,k,i,a,c,t,b.2.2.1,b.2.2.2.1,b.2.2.2.2.1,b.2.2.2.2.2.1)|none=>∃d,w=.inl d)
 | 0,l,hl,hn,hx=>by
  refine⟨_,pG (b:=Sum.inl (j0,j1,j2,j3,j4,j5,j6,j7,j8,j9,j10,b.1,b.2.1,b.2.2.2.2.2.2.1,b.2.2.2.2.2.2.2.1,b.2.2.2.2.2.2.2.2.1,b.2.2.2.2.2.2.2.2.2.1,b.2.2.2.2.2.2.2.2.2.2,k,i,a,c,l,j11,j12,j13,j14,j15,b.2.2.1,b.2.2.2.1,b.2.2.2.2.1,b.2.2.2.2.2.1)) ?_,⟨_,rfl⟩⟩;dsimp only;unfold e9;rw[h165,cT,dF (by omega),oy,cF]
 | n+1,l,hl,hn,hx=>by
  have hlt:(l.take n).length=n:=by rw[length_take];omega
  have hcut:cut l 0 (oB ((l.length:Int)-1))=some (l.take n):=by
   rw[pj (by omega) (by omega),show (l.length:Int)-1=(n:Int) by omega];have:=rV (l:=l) (a:=0) (b:=n) (by omega) (by omega)
   simpa using this
  have hp:tH M (k,i,a,c,l.take n):=⟨by show (l.take n).length<=1048576;omega,λx h=>hx x (mem_of_mem_take h)⟩;have hstep:∀q:Bool,pZ (k,i,a,c,l.take n)=q->e9 p j0 j1 j2 j3 j4 j5 j6 j7 j8 j9 j10 b.1 b.2.1 b.2.2.2.2.2.2.1 b.2.2.2.2.2.2.2.1 b.2.2.2.2.2.2.2.2.1 b.2.2.2.2.2.2.2.2.2.1 b.2.2.2.2.2.2.2.2.2.2 k i a c l j11 j12 j13 j14 j15 b.2.2.1 b.2.2.2.1 b.2.2.2.2.1 b.2.2.2.2.2.1=cond q (some (.inr (.inr (true,b.1,b.2.1,b.2.2.2.2.2.2.1,b.2.2.2.2.2.2.2.1,b.2.2.2.2.2.2.2.2.1,b.2.2.2.2.2.2.2.2.2.1,b.2.2.2.2.2.2.2.2.2.2,k,i,a,c,l.take n,b.2.2.1,b.2.2.2.1,b.2.2.2.2.1,b.2.2.2.2.2.1)))) (some (.inl (j0,j1,j2,j3,j4,j5,j6,j7,j8,j9,j10,b.1,b.2.1,b.2.2.2.2.2.2.1,b.2.2.2.2.2.2.2.1,b.2.2.2.2.2.2.2.2.1,b.2.2.2.2.2.2.2.2.2.1,b.2.2.2.2.2.2.2.2.2.2,k,i,a,c,l.take n,j11,j12,j13,j14,j15,b.2.2.1,b.2.2.2.1,b.2.2.2.2.1,b.2.2.2.2.2.1))):=by
   intro q hq;unfold e9;rw[h165,cT,dT (by omega),oy,cT,hcut,oy,zc hp,oy,hq]
  by_cases hf:pZ (k,i,a,c,l.take n)=true
  · have e:shr (λt=>pZ (k,i,a,c,t)) (n+1) l=some (l.take n):=if_pos hf;rw[e];exact⟨_,pG (hstep true hf),rfl⟩
  · have e:shr (λt=>pZ (k,i,a,c,t)) (n+1) l=shr (λt=>pZ (k,i,a,c,t)) n (l.take n):=if_neg hf;rw[e];obtain⟨w,h1,h2⟩:=Ie h165 b j0 j1 j2 j3 j4 j5 j6 j7 j8 j9 j10 k i a c j11 j12 j13 j14 j15 n (l.take n) hlt (by omega) (λx h=>hx x (mem_of_mem_take h));exact⟨w,qb (hstep false (by simpa using hf)) h1,h2⟩
noncomputable def x8 (b:oA) (l:List oC):oA×Int×Int:=(cW b l).getD (b,0,0)
noncomputable def uF (b:oA) (p:p7):oA×p7 :=
 cond (p.1==160) (b,162,p.2.1,0,0,p.2.2.2.2.map λx=>(x.1,wl b x.1))
  (cond (p.1==161) (b,162,p.2.1,0,0,p.2.2.2.2.map λx=>pO b x.1)
   (cond (p.1==165) (b,162,p.2.1,0,0,rH b p) ((x8 b p.2.2.2.2).1,162,p.2.1,(x8 b p.2.2.2.2).2.1,(x8 b p.2.2.2.2).2.2,p.2.2.2.2)))
noncomputable def wO (b:oA) (p:p7):oA×p7 :=
 match cond (p.1==165) (shr (λt=>pZ (162,p.2.1,0,0,t)) (rH b p).length (rH b p)) none with
 | some t=>(b,162,p.2.1,0,0,t)
 | none=>(b,162,p.2.1,7,0,[])
noncomputable def uG (b:oA) (p:p7):oA×p7:=cond (pZ (uF b p).2) (uF b p) (wO b p)
noncomputable def yL (b:oA) (p:p7):Bool:=pY b&&(r9 p&&(p.1 != 162))
noncomputable def sE (b:oA) (p:p7):oA×p7×Bool:=cond (yL b p) ((uG b p).1,(uG b p).2,true) (b,(0,0,0,0,[]),false)
theorem Ao {p:p7} (hp:r9 p=true):xa M p.2.2.2.2:=by
 obtain⟨h1,h2,_⟩:=ru hp;exact⟨by show _<=1048576;omega,λx hx=>sm (h1 x hx)⟩
theorem If {b:oA} (h:sG b) (hb:uI M b) {p:p7} (hp:tH M p):f0 b p=some (sE b p):=by
 unfold f0 sE yL;rw[vI hb,oy,AQ h,oy];cases hbr:pY b with
 | false=>rw[Bool.not_false,cT,oy,cT,oy,cT];rfl
 | true =>
 rw[Bool.not_true,cF,IR hp,oy,oy];cases hpp:r9 p with
 | false=>rw[Bool.not_false,cT,oy,cT];rfl
 | true =>
 rw[Bool.not_true,cF,oy];cases h162:(p.1==162)with
 | true =>
  have:(p.1 != 162)=false:=by rw[bne,h162];rfl
  rw[cT,this];rfl
 | false =>
 have hne:(p.1 != 162)=true:=by rw[bne,h162];rfl
 have hBO:=Bn h hbr;obtain⟨x1,x2,x3,x4,x5,x6⟩:=ru hpp;have hxs:=Ao hpp
 rw[cF,hne,Bool.true_and,Bool.true_and,cT];unfold uG uF wO;cases h160:(p.1==160)with
 | true =>
  have h165:(p.1==165)=false:=by simp only[beq_iff_eq]at h160;rw[h160];rfl
  have e:loop (λz:Int×Int×Int×Int×Int×List oC=>dY b p z.1 z.2.1 z.2.2.1 z.2.2.2.1 z.2.2.2.2.1 z.2.2.2.2.2) (0,162,p.2.1,0,0,[])=some (162,p.2.1,0,0,p.2.2.2.2.map λx=>(x.1,wl b x.1)):=by
   obtain⟨v,e1,rfl⟩:=oR (step:=λz:Int×Int×Int×Int×Int×List oC=>dY b p z.1 z.2.1 z.2.2.1 z.2.2.2.1 z.2.2.2.2.1 z.2.2.2.2.2) (λk z=>z=((k:Int),162,p.2.1,0,0,(p.2.2.2.2.take k).map λx=>(x.1,wl b x.1))) p.2.2.2.2.length (λv=>v=(162,p.2.1,0,0,p.2.2.2.2.map λx=>(x.1,wl b x.1)))
    (λk z hk e=>by
     subst e;refine .inl ⟨_,?_,rfl⟩;have hx:=so (rb (x1 _ (getElem_mem hk)))
     dsimp only;unfold dY;rw[pr (by omega),cT,oT hk,oy,y5 (by show _<=1048576;omega),oy,(G5 hBO (by omega)).1,oy,oH (by rw[length_map,length_take];show min k _+1<=_;omega),oy,oQ (by omega),
      take_add_one,List.getElem?_eq_getElem hk,map_append];rfl)
    (λz e=>by
     subst e;refine⟨_,?_,rfl⟩;dsimp only;unfold dY;rw[pb (by omega),cF,take_length]) (x:=(0,162,p.2.1,0,0,[])) rfl
   exact e1
  simp only[cT,cF];rw[e,oy,zc ⟨by show (p.2.2.2.2.map _).length<=1048576;rw[length_map];omega,λx hx=>by
   obtain⟨y,hy,rfl⟩:=mem_map.1 hx;exact sm (by unfold sK;rw[rb (x1 y hy),GH hBO (by have:=so (rb (x1 y hy));omega)];rfl)⟩,oy]
  cases pZ (162,p.2.1,0,0,p.2.2.2.2.map λx=>(x.1,wl b x.1))with
  | true=>rfl
  | false =>
   simp only[cF];refine zJ ?_ λd=>?_
   · dsimp only;unfold ku;rw[h165,cF,oy,cF];exact⟨_,rfl⟩
   · rw[oy];simp only[h165,cF]
 | false =>
 cases h161:(p.1==161)with
 | true =>
  have h165:(p.1==165)=false:=by simp only[beq_iff_eq]at h161;rw[h161];rfl
  have e:loop (λz:Int×Int×Int×Int×Int×List oC=>dZ b p z.1 z.2.1 z.2.2.1 z.2.2.2.1 z.2.2.2.2.1 z.2.2.2.2.2) (0,162,p.2.1,0,0,[])=some (162,p.2.1,0,0,p.2.2.2.2.map λx=>pO b x.1):=by
   obtain⟨v,e1,rfl⟩:=oR (step:=λz:Int×Int×Int×Int×Int×List oC=>dZ b p z.1 z.2.1 z.2.2.1 z.2.2.2.1 z.2.2.2.2.1 z.2.2.2.2.2) (λk z=>z=((k:Int),162,p.2.1,0,0,(p.2.2.2.2.take k).map λx=>pO b x.1)) p.2.2.2.2.length (λv=>v=(162,p.2.1,0,0,p.2.2.2.2.map λx=>pO b x.1))
    (λk z hk e=>by
     subst e;refine .inl ⟨_,?_,rfl⟩;have hx:=so (rb (x1 _ (getElem_mem hk)))
     dsimp only;unfold dZ;rw[pr (by omega),cT,oT hk,oy,(zd hBO (by omega)).1,oy,oH (by rw[length_map,length_take];show min k _+1<=_;omega),oy,oQ (by omega),
      take_add_one,List.getElem?_eq_getElem hk,map_append];rfl)
    (λz e=>by
     subst e;refine⟨_,?_,rfl⟩;dsimp only;unfold dZ;rw[pb (by omega),cF,take_length]) (x:=(0,162,p.2.1,0,0,[])) rfl
   exact e1
  simp only[cT,cF];rw[e,oy,zc ⟨by show (p.2.2.2.2.map _).length<=1048576;rw[length_map];omega,λx hx=>by
   obtain⟨y,hy,rfl⟩:=mem_map.1 hx;exact sm (xx hBO (rb (x1 y hy)))⟩,oy]
  cases pZ (162,p.2.1,0,0,p.2.2.2.2.map λx=>pO b x.1)with
  | true=>rfl
  | false =>
   simp only[cF];refine zJ ?_ λd=>?_
   · dsimp only;unfold kv;rw[h165,cF,oy,cF];exact⟨_,rfl⟩
   · rw[oy];simp only[h165,cF]
 | false =>
 cases h165:(p.1==165)with
 | true =>
  have hbk:=D9 hBO hpp;have hbx:∀x∈rH b p,vq M x:=λx hx=>sm (hbk.oOk x hx)
  have hbn:(rH b p).length<=10:=hbk.o10;simp only[cT,cF];rw[J5 hBO hpp,oy,zc ⟨by show (rH b p).length<=1048576;omega,hbx⟩,oy];cases pZ (162,p.2.1,0,0,rH b p)with
  | true=>rfl
  | false =>
   simp only[cF];obtain⟨w,e1,e2⟩:=Ie h165 b 0 [] 0 0 0 0 0 0 0 0 0 162 p.2.1 0 0 [] [] [] [] [] _ (rH b p) rfl hbn hbx;rw[e1,oy];cases hs:shr (λt=>pZ (162,p.2.1,0,0,t)) (rH b p).length (rH b p)with
   | some t=>rw[hs]at e2;rw[e2];rfl
   | none =>
    rw[hs]at e2;obtain⟨d,rfl⟩:=e2;rw[Sum.elim_inl,oy];try rfl
 | false =>
  obtain⟨r,r1,_,_,_⟩:=AP h hb hxs;have hr:x8 b p.2.2.2.2=r:=by unfold x8;rw[r1];rfl
  simp only[cF];rw[r1,oy,Fv hxs,oy,hr,zc (p:=(162,p.2.1,r.2.1,r.2.2,p.2.2.2.2)) ⟨hxs.1,hxs.2⟩,oy];cases pZ (162,p.2.1,r.2.1,r.2.2,p.2.2.2.2)with
  | true=>rfl
  | false =>
   simp only[cF];refine zJ ?_ λd=>?_
   · dsimp only;unfold kw;rw[h165,cF,oy,cF];exact⟨_,rfl⟩
   · rw[oy]

theorem Ig {b:oA} (h:sD b) (hl:uI M b):sG b:=by
 obtain⟨_,l2,l3,l4,l5⟩:=hl;have hM:M<9223372036854775807:=by decide
 exact⟨by omega,by omega,by omega,by omega,h.h⟩
theorem JV {b:oA} (h:qe b) {l:List oC} (hl:xa M l):cW b l=some (x8 b l)/\qe (x8 b l).1:=by
 obtain⟨r,r1,_,r3,r4,_⟩:=AP h.w h.le hl;unfold x8;rw[r1];obtain⟨k1,k2⟩:=r4 h.ok;exact⟨rfl,Bn (Ig k1 r3) k2⟩
theorem G6 {b:oA} (h:qe b) {p:p7} (hp:r9 p=true):qe (uF b p).1:=by
 unfold uF;cases (p.1==160)<;>cases (p.1==161)<;>cases (p.1==165)<;>first|exact h|exact (JV h (Ao hp)).2
theorem Hi (b:oA) (p:p7):(wO b p).1=b:=by
 unfold wO;split<;>rfl
theorem DZ {b:oA} (h:qe b) (p:p7):qe (sE b p).1:=by
 unfold sE;cases hq:yL b p with
 | false=>exact h
 | true =>
  unfold yL at hq;simp only[aT]at hq;rw[cT];unfold uG;cases pZ (uF b p).2 with
  | true=>exact G6 h hq.2.1
  | false=>rw[cF,Hi];exact h
theorem G7 {p:p7} (hp:r9 p=true):p.1=160\/p.1=161\/p.1=162\/p.1=163\/p.1=165:=by
 unfold r9 at hp;by_cases h0:p.1=160;· exact .inl h0
 by_cases h1:p.1=161;· exact .inr (.inl h1)
 by_cases h2:p.1=162;· exact .inr (.inr (.inl h2))
 by_cases h3:p.1=163;· exact .inr (.inr (.inr (.inl h3)))
 by_cases h5:p.1=165;· exact .inr (.inr (.inr (.inr h5)))
 simp[h0,h1,h2,h3,h5]at hp
def Cp (w:List UInt8):List Int:=pE 2 (qI 1)++pE 4 (sU w)
theorem Da {p:p7} (hx:∀x∈p.2.2.2.2,sK x=true) (hn:p.2.2.2.2.length<=10) (hi:oE p.2.1 (-2147483648) 2147483647=true)
 (hk:(cond (p.1==162||p.1==165) (oE p.2.2.1 0 1000&&oE p.2.2.2.1 0 1000) (cond (p.1==160||(p.1==161||p.1==163)) (p.2.2.1==0&&p.2.2.2.1==0) false))=true):r9 p=true:=by
 unfold r9;have h1:(List.range p.2.2.2.2.length).any (bX p.2.2.2.2)=false:=by
  rw[any_eq_false];intro k hk';have hk':=mem_range.1 hk'
  unfold bX;simp only[List.getElem?_eq_getElem hk',hx _ (getElem_mem hk')];simp
 rw[h1,dT (by omega),hk,hi];rfl

theorem Hj {i:Int} (hi:-2147483648<=i/\i<=2147483647):pZ (162,i,7,0,[])=true:=by
 have hp:r9 (162,i,7,0,[])=true:=Da (by intro x hx;cases hx) (Nat.zero_le _) (wn hi.1 hi.2) rfl;have t1:=qn 2 (body:=qI i)
 have t2:=qn 2 (body:=qI 7);have t3:=qn 2 (body:=qI 0)
 have t4:=qn 48 (body:=[]);have i1:=rU i
 have i2:=rU 7;have i3:=rU 0
 have hb:(rG (162,i,7,0,[])).length<=30:=by
  unfold rG;show (pE 2 (qI i)++pE 2 (qI 7)++pE 2 (qI 0)++pE 48 []).length<=30
  simp only[length_append];simp only[length_nil]at t4;omega
 have ht:=qn 162 (body:=rG (162,i,7,0,[]));have hpos:=G4 162 (rG (162,i,7,0,[]))
 unfold pZ zI;rw[if_pos ⟨hp,by show (0:Nat)<=250;omega,by omega⟩];exact wn (by show (1:Int)<=((pE 162 (rG (162,i,7,0,[]))).length:Int);omega) (by show ((pE 162 (rG (162,i,7,0,[]))).length:Int)<=120;omega)
theorem Fa {b:oA} {p:p7} (hp:r9 p=true):pZ (uG b p).2=true:=by
 have hi:=(ru hp).2.2.2.1;unfold uG;cases hf:pZ (uF b p).2 with
 | true=>exact hf
 | false =>
  rw[cF];unfold wO;split
  · rename_i t ht;cases h5:(p.1==165)with
    | false=>rw[h5]at ht;cases ht
    | true =>
     rw[h5]at ht;exact (Co ht).1
  · exact Hj hi
theorem E0 {l:List oC} (h:xa M l):eH l l=some true:=by
 have hM:M<9223372036854775807:=by decide
 have hn:l.length<=1048576:=h.1;unfold eH;rw[bne_self_eq_false,cF];have:loop (λz=>cl l l z) 0=some (.inl ()):=y6 (n:=l.length) (λk hk=>by
  obtain⟨h1,_,h3⟩:=h.2 _ (getElem_mem hk);show cl l l (k:Int)=_
  unfold cl;simp only[pr (show (k:Int)<(l.length:Int) by omega),cT,oT hk,oy];rw[uL (by omega),IK (by omega)];simp only[oy,beq_self_eq_true,Bool.not_true,cF];rw[oQ (by omega)]) (by
  show cl l l (l.length:Int)=_;unfold cl;rw[pb (by omega),cF])
 rw[this];rfl
theorem G8 {p:p7} (h:tH M p):eI p p=some true:=by
 unfold eI;simp only[beq_self_eq_true,cT,oy,E0 h]
structure yM (p:p7):Prop where
 k:p.1=160\/p.1=161\/p.1=163\/p.1=165
 i:0<=p.2.1/\p.2.1<100
 ab:(p.1=165/\(0<=p.2.2.1/\p.2.2.1<=1000)/\(0<=p.2.2.2.1/\p.2.2.2.1<=1000))\/(p.1≠165/\p.2.2.1=0/\p.2.2.2.1=0)
 n:p.2.2.2.2.length<=3
 s:∀x∈p.2.2.2.2,tU x
 o:p.1≠163->∀x∈p.2.2.2.2,sK x=true
theorem yM.le {p:p7} (h:yM p):tH M p:=⟨by have:=h.n;show _<=1048576;omega,λx hx=>(h.s x hx).le⟩
theorem yM.ok {p:p7} (h:yM p) (hk:p.1≠163):r9 p=true:=by
 have hi:=h.i;refine Da (h.o hk) (by have:=h.n;omega) (wn (by omega) (by omega)) ?_;rcases h.ab with ⟨e,⟨a1,a2⟩,b1,b2⟩|⟨e,a1,b1⟩
 · rw[e,wn a1 a2,wn b1 b2];rfl
 · rw[a1,b1];rcases h.k with k|k|k|k
   · rw[k];rfl
   · rw[k];rfl
   · exact absurd k hk
   · exact absurd k e
theorem J6 {c:oL} (h:CW c) {b:oA} (hb:sG b) (hn:∀c,CW c->Dr Nm (aq c b)):Dr yM (eO c b):=by
 unfold eO;refine Dr.bind (wM h (by decide)) λc x hc hx=>?_;refine Dr.bind (qj hc 100) λc i hc hi=>?_;have hi2:=hi.2 (by omega)
 have hx:x=160\/x=161\/x=163\/x=165:=by
  simp only[mem_cons,List.not_mem_nil,or_false]at hx;rcases hx with h|h|h|h|h
  · exact .inl h
  · exact .inr (.inl h)
  · exact .inr (.inr (.inl h))
  · exact .inr (.inr (.inl h))
  · exact .inr (.inr (.inr h))
 cases h3:(x==163)with
 | true =>
  have h3:x=163:=by simpa using h3
  subst h3;show Dr yM ((dD c b).bind λt18=>some (t18.1,((163:Int),i,0,0,t18.2)))
  refine Dr.bind (Hf hc hb hn) λc l hc hl=>?_;exact Dr.some hc ⟨.inr (.inr (.inl rfl)),⟨hi.1,hi2⟩,.inr ⟨by show (163:Int)≠165;omega,rfl,rfl⟩,hl.1,hl.2,λhk=>absurd rfl hk⟩
 | false =>
  have h3:x≠163:=by simpa using h3
  obtain⟨c1,k,e1,w1,hk⟩:=qr hc (n:=4) (by decide);have e1':aa c 4=some (c1,(k:Int)):=e1
  rw[cF];show Dr yM ((aa c 4).bind _)
  rw[e1',oy];obtain⟨d,d1,d2,d3,d4,d5⟩:=oR (step:=λz:Int×List Int×Int×Int×Int×Int×Int×Int×List oC=>bS b z.1 z.2.1 z.2.2.1 z.2.2.2.1 z.2.2.2.2.1 z.2.2.2.2.2.1 z.2.2.2.2.2.2.1 z.2.2.2.2.2.2.2.1 z.2.2.2.2.2.2.2.2)
   (λj z=>z.1=((k-j:Nat):Int)/\CW (z.2.1,z.2.2.1,z.2.2.2.1)/\(z.2.2.2.2.1=x/\z.2.2.2.2.2.1=i/\z.2.2.2.2.2.2.1=0/\z.2.2.2.2.2.2.2.1=0)/\z.2.2.2.2.2.2.2.2.length=j/\∀y∈z.2.2.2.2.2.2.2.2,tU y/\sK y=true) k
   (λd=>CW (d.1,d.2.1,d.2.2.1)/\(d.2.2.2.1=x/\d.2.2.2.2.1=i/\d.2.2.2.2.2.1=0/\d.2.2.2.2.2.2.1=0)/\d.2.2.2.2.2.2.2.length=k/\∀y∈d.2.2.2.2.2.2.2,tU y/\sK y=true)
   (λj z hj ⟨z1,z2,z3,z4,z5⟩=>by
    obtain⟨q,c0,c1,c2,r0,r1,r2,r3,out⟩:=z;simp only at z1 z2 z3 z4 z5;subst z1 z4;left;obtain⟨c',o,x1,x2,x3⟩:=hn _ z2;refine⟨_,by
     show bS b _ _ _ _ _ _ _ _ _=_;unfold bS;rw[dT (show ((k-out.length:Nat):Int)>0 by omega),cT,x1,oy,oH (by show _+1<=_;omega),oy],?_,x2,z3,by simp,?_⟩
    · show oB (((k-out.length:Nat):Int)-1)=_;rw[pj (by omega) (by omega)];omega
    · intro y hy;rcases mem_append.1 hy with hy|hy
      · exact z5 y hy
      · rw[mem_singleton]at hy;subst hy;have:=x3.n10
        refine⟨⟨by show o.length<=1000;omega,by show (0:Nat)<=100;omega,by show (0:Nat)<=1000;omega,G0 5⟩,?_⟩;unfold sK;rw[D6 x3];rfl)
   (λz ⟨z1,z2,z3,z4,z5⟩=>by
    obtain⟨q,c0,c1,c2,r0,r1,r2,r3,out⟩:=z;simp only at z1 z2 z3 z4 z5;rw[Nat.sub_self]at z1;subst z1;refine⟨(c0,c1,c2,r0,r1,r2,r3,out),?_,z2,z3,z4,z5⟩;show bS b _ _ _ _ _ _ _ _ _=_
    unfold bS;rw[dF (show ¬((0:Nat):Int)>0 by decide),cF]) (x:=((k:Int),c1.1,c1.2.1,c1.2.2,x,i,0,0,[])) ⟨rfl,w1,⟨rfl,rfl,rfl,rfl⟩,rfl,by simp⟩
  show Dr yM ((loop (λz:Int×List Int×Int×Int×Int×Int×Int×Int×List oC=>bS b z.1 z.2.1 z.2.2.1 z.2.2.2.1 z.2.2.2.2.1 z.2.2.2.2.2.1 z.2.2.2.2.2.2.1 z.2.2.2.2.2.2.2.1 z.2.2.2.2.2.2.2.2) ((k:Int),c1.1,c1.2.1,c1.2.2,x,i,0,0,[])).bind _);rw[d1,oy];obtain⟨q0,q1,q2,r0,r1,r2,r3,l⟩:=d;simp only at d2 d3 d4 d5 ⊢;obtain⟨rfl,rfl,rfl,rfl⟩:=d3;cases h5:(r0==165)with
  | true =>
   have h5:r0=165:=by simpa using h5
   rw[cT];refine Dr.bind (qj d2 3) λc s hc hs=>?_;refine Dr.bind (qj hc 5) λc t hc ht=>?_;have hs2:=hs.2 (by omega)
   have ht2:=ht.2 (by omega);exact Dr.some hc ⟨hx,⟨hi.1,hi2⟩,.inl ⟨h5,⟨hs.1,by show s<=1000;omega⟩,ht.1,by show t<=1000;omega⟩,by show l.length<=3;omega,λy hy=>(d5 y hy).1,λ_ y hy=>(d5 y hy).2⟩
  | false =>
   have h5:r0≠165:=by simpa using h5
   rw[cF];exact Dr.some d2 ⟨hx,⟨hi.1,hi2⟩,.inr ⟨h5,rfl,rfl⟩,by show l.length<=3;omega,λy hy=>(d5 y hy).1,λ_ y hy=>(d5 y hy).2⟩
theorem uH {α β:Type} {o:Option α} {a:α} {k:α->Option β} {r:Option β} (h:o=some a) (hk:k a=r):o.bind k=r:=by rw[h];exact hk
theorem um {b:List Int} (t:Int) {body:List Int} (hb:b.length<=1200) (hn:body.length<=M):ar b t body=some (b++if oE t 0 255=true/\body.length<=250 then pE t body else []):=by
 have hM:M=1048576:=rfl;unfold ar;rw[s7 (by omega),oy,uN,oy];cases hp:oE t 0 255 with
 | false=>rw[Bool.not_false,cT,oy,cT,if_neg (λh=>by cases h.1),append_nil]
 | true =>
  rw[Bool.not_true,cF,oy];by_cases h250:body.length<=250
  · have hw:IntKind.u8.wrap t=t:=by obtain⟨a,c⟩:=r8 hp;rw[w8];omega
    have hl:IntKind.u8.wrap ((body.length:Int))=(body.length:Int):=by rw[w8];omega
    rw[dF (by omega),cF,hw,hl,if_pos ⟨rfl,h250⟩,oH (by show b.length+1<=_;omega),oy];by_cases h127:(body.length:Int)>127
    · rw[dT h127,cT,oH (by rw[length_append];show b.length+1+1<=_;omega),oy,oH (by simp only[length_append,length_singleton];omega),oy,oH (by simp only[length_append,length_singleton];omega),oy];unfold pE;rw[if_pos (by omega)];simp
    · rw[dF h127,cF,oH (by simp only[length_append,length_singleton];omega),oy,oH (by simp only[length_append,length_singleton];omega),oy];unfold pE;rw[if_neg (by omega)];simp
  · rw[dT (by omega),cT,if_neg (λh=>h250 h.2),append_nil]
theorem Db {o:List Int} (h:rW o=true):cY o=some (qU o):=by
 obtain⟨o1,o2,o3⟩:=uV h;have hM:M=1048576:=rfl
 unfold cY;rw[Gu,zQ (by omega),oy,h,Bool.not_true,cF];obtain⟨v,e1,rfl⟩:=oR (step:=λz:Int×List Int=>bD o z.1 z.2) (λk z=>z=((k:Int),qU (o.take k))) o.length (λv=>v=qU o)
  (λk z hk e=>by
   subst e;have hx:=o3 _ (getElem_mem hk)
   have hl:(qU (o.take k)).length<=3*(o.take k).length:=uU λx hx=>(o3 x (mem_of_mem_take hx)).2;rw[length_take]at hl;have hg:=Hg o[k]
   refine .inl ⟨_,?_,rfl⟩;show bD o (k:Int) _=_
   unfold bD;rw[pr (by omega),cT,oT hk,oy,JR ⟨hx.1,by omega⟩,oy,oH (by show (qU (o.take k)).length+(grp o[k]).length<=_;omega),oy,oQ (by omega),take_add_one,List.getElem?_eq_getElem hk];unfold qU;rw[flatMap_append];simp)
  (λz e=>by
   subst e;refine⟨_,?_,rfl⟩;show bD o (o.length:Int) _=_
   unfold bD;rw[pb (by omega),cF,take_length]) (x:=(0,[])) rfl
 have e1:loop (λz=>bD o z.1 z.2) (0,([]:List Int))=some (qU o):=e1;rw[e1];rfl
theorem Hk {b:List Int} (hb:b.length<=1000) {v:rm} (h:sT v=true):ee b v=some (b++pE v.1 (rq v)):=by
 have hM:M=1048576:=rfl;obtain⟨l1,l2⟩:=xX h;have hk:oE v.1 0 255=true:=by
  unfold sT at h;by_cases c1:(v.1==5||(v.1==128||v.1==130))=true
  · simp only[Bool.or_eq_true,beq_iff_eq]at c1;rcases c1 with c|c|c<;>rw[c]<;>rfl
  · rw[show (v.1==5||(v.1==128||v.1==130))=false by simpa using c1,cF]at h;by_cases c2:v.1=2
    · rw[c2];rfl
    · rw[beq_eq_false_iff_ne.2 c2,cF]at h;by_cases c4:v.1=4
      · rw[c4];rfl
      · rw[beq_eq_false_iff_ne.2 c4,cF]at h;by_cases c6:v.1=6
        · rw[c6];rfl
        · rw[beq_eq_false_iff_ne.2 c6,cF]at h;cases h
 have fin:∀body,rq v=body->ar b v.1 body=some (b++pE v.1 (rq v)):=λbody e=>by
  subst e;rw[um _ (by omega) (by omega),if_pos ⟨hk,by omega⟩]
 have ho6:v.2.2.2.length<=M:=by
  unfold sT at h;by_cases c6:v.1=6
  · rw[c6]at h;simp only[show ((6:Int)==5)=false from rfl,show ((6:Int)==128)=false from rfl,show ((6:Int)==130)=false from rfl,Bool.or_self,cF,show ((6:Int)==2)=false from rfl,show ((6:Int)==4)=false from rfl,show ((6:Int)==6)=true from rfl,cT,aT]at h;have:=D5 h.1
    omega
  · have:v.2.2.2.length=0:=by
     revert h
     cases (v.1==5||(v.1==128||v.1==130))with
     | true=>intro h;simp only[cT,aT,beq_iff_eq]at h;omega
     | false =>
      rw[cF];cases (v.1==2)with
      | true=>intro h;simp only[cT,aT,beq_iff_eq]at h;omega
      | false =>
       rw[cF];cases (v.1==4)with
       | true=>intro h;simp only[cT,aT,beq_iff_eq]at h;omega
       | false=>intro h;rw[cF,beq_eq_false_iff_ne.2 c6]at h;cases h
    omega
 unfold ee;rw[IP ho6,oy,h,Bool.not_true,cF];by_cases h2:v.1=2
 · have e:rq v=qI v.2.1:=by unfold rq;rw[beq_iff_eq.2 h2];rfl
   have hr:-2147483648<=v.2.1/\v.2.1<=2147483647:=by
    unfold sT at h;rw[h2]at h;simp only[show ((2:Int)==5)=false from rfl,show ((2:Int)==128)=false from rfl,show ((2:Int)==130)=false from rfl,Bool.or_self,cF,show ((2:Int)==2)=true from rfl,cT,aT]at h;exact r8 h.1
   rw[beq_iff_eq.2 h2,cT,zb,oy,vP hr,fin _ e];rfl
 rw[beq_eq_false_iff_ne.2 h2,cF];by_cases h4:v.1=4
 · have e:rq v=sU v.2.2.1:=by unfold rq;rw[beq_eq_false_iff_ne.2 h2,beq_iff_eq.2 h4];rfl
   rw[beq_iff_eq.2 h4,cT,fin _ e];rfl
 rw[beq_eq_false_iff_ne.2 h4,cF];by_cases h6:v.1=6
 · have e:rq v=qU v.2.2.2:=by unfold rq;rw[beq_eq_false_iff_ne.2 h2,beq_eq_false_iff_ne.2 h4,beq_iff_eq.2 h6];rfl
   have ho:rW v.2.2.2=true:=by
    unfold sT at h;rw[h6]at h;simp only[show ((6:Int)==5)=false from rfl,show ((6:Int)==128)=false from rfl,show ((6:Int)==130)=false from rfl,Bool.or_self,cF,show ((6:Int)==2)=false from rfl,show ((6:Int)==4)=false from rfl,show ((6:Int)==6)=true from rfl,cT,aT]at h;exact h.1
   rw[beq_iff_eq.2 h6,cT,Db ho,oy,fin _ e];rfl
 · have e:rq v=[]:=by unfold rq;rw[beq_eq_false_iff_ne.2 h2,beq_eq_false_iff_ne.2 h4,beq_eq_false_iff_ne.2 h6];rfl
   rw[beq_eq_false_iff_ne.2 h6,cF,fin _ e];rfl
theorem Ih {l:List oC} (hx:∀x∈l,sK x=true) (hn:l.length<=10):ef l=some (qO l):=by
 have hM:M=1048576:=rfl;have hlen:∀k,(qO (l.take k)).length<=110*k:=λk=>by
  induction k with
  | zero=>simp[qO]
  | succ k ih =>
   rw[take_add_one];unfold qO at ih ⊢;rw[flatMap_append,length_append];cases hk:l[k]? with
   | none=>show (List.flatMap vb (l.take k)).length+0<=_;omega
   | some x =>
    have:=(wN (hx x (List.mem_of_getElem? hk))).2;show (List.flatMap vb (l.take k)).length+(vb x++[]).length<=_
    rw[append_nil];omega
 unfold ef;obtain⟨v,e1,rfl⟩:=oR (step:=λz:Int×List Int=>bE l z.1 z.2) (λk z=>z=((k:Int),qO (l.take k))) l.length (λv=>v=qO l)
  (λk z hk e=>by
   subst e;have hxk:=hx _ (getElem_mem hk)
   have hl:=hlen k;obtain⟨b1,b2⟩:=wN hxk;have hxk':=hxk
   unfold sK at hxk';rw[aT]at hxk';obtain⟨o1,o2,o3⟩:=uV hxk'.1;have ho:=uU (o:=l[k].1) λy hy=>(o3 y hy).2
   have ht:=qn 6 (body:=qU l[k].1);refine .inl ⟨_,?_,rfl⟩;show bE l (k:Int) _=_
   unfold bE;rw[pr (by omega),cT,oT hk,oy,Db hxk'.1,oy,um _ (by simp) (by omega),if_pos ⟨by decide,by omega⟩,oy,oy,nil_append,Hk (by omega) hxk'.2,oy,um _ (by show (qO (l.take k)).length<=1200;omega) (by show (x7 l[k]).length<=_;omega),if_pos ⟨by decide,by show (x7 l[k]).length<=250;omega⟩,oy,oQ (by omega),take_add_one,List.getElem?_eq_getElem hk];unfold qO;rw[flatMap_append];simp[vb,x7])
  (λz e=>by
   subst e;refine⟨_,?_,rfl⟩;show bE l (l.length:Int) _=_
   unfold bE;rw[pb (by omega),cF,take_length]) (x:=(0,[])) rfl
 have e1:loop (λz=>bE l z.1 z.2) (0,([]:List Int))=some (qO l):=e1;rw[e1];rfl
theorem Hl {p:p7} (hp:tH M p):eg p=some (zI p):=by
 have hM:M=1048576:=rfl;unfold eg zI;rw[IS hp,oy];cases hk:r9 p with
 | false=>rw[Bool.not_false,cT,if_neg (λh=>by cases h.1)]
 | true =>
  obtain⟨k1,k2,k3,k4,k5,k6⟩:=ru hk;have i1:=rU p.2.1
  have i2:=rU p.2.2.1;have i3:=rU p.2.2.2.1
  have t1:=qn 2 (body:=qI p.2.1);have t2:=qn 2 (body:=qI p.2.2.1)
  have t3:=qn 2 (body:=qI p.2.2.2.1);rw[Bool.not_true,cF];unfold fv;rw[Ih k1 k2,oy];by_cases ha:(qO p.2.2.2.2).length<=250
  · rw[dF (by omega),cF,zb,oy,vP k4,um _ (by simp) (by omega),if_pos ⟨by decide,by omega⟩,oy,zb,oy,vP (by omega),um _ (by simp only[nil_append];omega) (by omega),if_pos ⟨by decide,by omega⟩,oy,zb,oy,vP (by omega),um _ (by simp only[nil_append,length_append];omega) (by omega),if_pos ⟨by decide,by omega⟩,oy,um _ (by simp only[nil_append,length_append];omega) (by omega),if_pos ⟨by decide,ha⟩,oy];have eb:([]++pE 2 (qI p.2.1)++pE 2 (qI p.2.2.1)++pE 2 (qI p.2.2.2.1)++pE 48 (qO p.2.2.2.2))=rG p:=by unfold rG;simp
    rw[eb];have t4:=qn 48 (body:=qO p.2.2.2.2)
    have hbl:(rG p).length<=400:=by unfold rG;simp only[length_append];omega
    by_cases hb:(rG p).length<=250
    · simp only[oy,dT (show ((rG p).length:Int)<=250 by omega),Bool.not_true,cF];rw[um _ (by simp) (by omega),if_pos ⟨k3,hb⟩,if_pos ⟨trivial,ha,hb⟩,oy,nil_append]
    · simp only[oy,dF (show ¬((rG p).length:Int)<=250 by omega),Bool.not_false,cT];rw[if_neg (λh=>hb h.2.2)]
  · rw[dT (by omega),cT,oy,Bool.not_false,cT,if_neg (λh=>ha h.2.1)]
theorem G9 {c:oL} (h:CW c) {n:Nat} (hn:n<=1000) (k i a b:Int):Dr (λp:p7=>p.2.2.2.2.length=n/\∀x∈p.2.2.2.2,tU x) ((loop (λz:Int×List Int×Int×Int×Int×Int×Int×Int×List oC=>bT z.1 z.2.1 z.2.2.1 z.2.2.2.1 z.2.2.2.2.1 z.2.2.2.2.2.1 z.2.2.2.2.2.2.1 z.2.2.2.2.2.2.2.1 z.2.2.2.2.2.2.2.2) ((n:Int),c.1,c.2.1,c.2.2,k,i,a,b,[])).bind λd=>some ((d.1,d.2.1,d.2.2.1),d.2.2.2)):=by
 obtain⟨d,d1,d2,d3,d4⟩:=oR (step:=λz:Int×List Int×Int×Int×Int×Int×Int×Int×List oC=>bT z.1 z.2.1 z.2.2.1 z.2.2.2.1 z.2.2.2.2.1 z.2.2.2.2.2.1 z.2.2.2.2.2.2.1 z.2.2.2.2.2.2.2.1 z.2.2.2.2.2.2.2.2)
  (λj z=>z.1=((n-j:Nat):Int)/\CW (z.2.1,z.2.2.1,z.2.2.2.1)/\z.2.2.2.2.2.2.2.2.length=j/\∀y∈z.2.2.2.2.2.2.2.2,tU y) n
  (λd=>CW (d.1,d.2.1,d.2.2.1)/\d.2.2.2.2.2.2.2.length=n/\∀y∈d.2.2.2.2.2.2.2,tU y)
  (λj z hj ⟨z1,z2,z3,z4⟩=>by
   obtain⟨q,c0,c1,c2,r0,r1,r2,r3,out⟩:=z;simp only at z1 z2 z3 z4;subst z1 z3;obtain⟨c',o,x1,x2,x3⟩:=za z2;obtain⟨c'',v,y1,y2,y3⟩:=An x2;refine .inl ⟨_,by
    show bT _ _ _ _ _ _ _ _ _=_;unfold bT;rw[dT (show ((n-out.length:Nat):Int)>0 by omega),cT,x1,oy,y1,oy,oH (by show _+1<=_;omega),oy],?_,y2,by simp,?_⟩
   · show oB (((n-out.length:Nat):Int)-1)=_;rw[pj (by omega) (by omega)];omega
   · intro y hy;rcases mem_append.1 hy with hy|hy
     · exact z4 y hy
     · rw[mem_singleton]at hy;subst hy;have:=x3.n10
       exact⟨by show o.length<=1000;omega,y3⟩)
  (λz ⟨z1,z2,z3,z4⟩=>by
   obtain⟨q,c0,c1,c2,r0,r1,r2,r3,out⟩:=z;simp only at z1 z2 z3 z4;rw[Nat.sub_self]at z1;subst z1;refine⟨(c0,c1,c2,r0,r1,r2,r3,out),?_,z2,z3,z4⟩;show bT _ _ _ _ _ _ _ _ _=_
   unfold bT;rw[dF (show ¬((0:Nat):Int)>0 by decide),cF]) (x:=((n:Int),c.1,c.2.1,c.2.2,k,i,a,b,[])) ⟨rfl,h,rfl,by simp⟩
 refine⟨_,_,uH d1 rfl,d2,d3,d4⟩
theorem Ga {c:oL} (h:CW c) {n:Nat} (hn:n<=1000) (k i a b:Int):Dr (λp:p7=>p.2.2.2.2.length=n/\∀x∈p.2.2.2.2,tU x) ((loop (λz:Int×List Int×Int×Int×Int×Int×Int×Int×List oC=>bU z.1 z.2.1 z.2.2.1 z.2.2.2.1 z.2.2.2.2.1 z.2.2.2.2.2.1 z.2.2.2.2.2.2.1 z.2.2.2.2.2.2.2.1 z.2.2.2.2.2.2.2.2) ((n:Int),c.1,c.2.1,c.2.2,k,i,a,b,[])).bind λd=>some ((d.1,d.2.1,d.2.2.1),d.2.2.2)):=by
 obtain⟨d,d1,d2,d3,d4⟩:=oR (step:=λz:Int×List Int×Int×Int×Int×Int×Int×Int×List oC=>bU z.1 z.2.1 z.2.2.1 z.2.2.2.1 z.2.2.2.2.1 z.2.2.2.2.2.1 z.2.2.2.2.2.2.1 z.2.2.2.2.2.2.2.1 z.2.2.2.2.2.2.2.2)
  (λj z=>z.1=((n-j:Nat):Int)/\CW (z.2.1,z.2.2.1,z.2.2.2.1)/\z.2.2.2.2.2.2.2.2.length=j/\∀y∈z.2.2.2.2.2.2.2.2,tU y) n
  (λd=>CW (d.1,d.2.1,d.2.2.1)/\d.2.2.2.2.2.2.2.length=n/\∀y∈d.2.2.2.2.2.2.2,tU y)
  (λj z hj ⟨z1,z2,z3,z4⟩=>by
   obtain⟨q,c0,c1,c2,r0,r1,r2,r3,out⟩:=z;simp only at z1 z2 z3 z4;subst z1 z3;obtain⟨c',o,x1,x2,x3⟩:=za z2;obtain⟨c'',v,y1,y2,y3⟩:=An x2;refine .inl ⟨_,by
    show bU _ _ _ _ _ _ _ _ _=_;unfold bU;rw[dT (show ((n-out.length:Nat):Int)>0 by omega),cT,x1,oy,y1,oy,oH (by show _+1<=_;omega),oy],?_,y2,by simp,?_⟩
   · show oB (((n-out.length:Nat):Int)-1)=_;rw[pj (by omega) (by omega)];omega
   · intro y hy;rcases mem_append.1 hy with hy|hy
     · exact z4 y hy
     · rw[mem_singleton]at hy;subst hy;have:=x3.n10
       exact⟨by show o.length<=1000;omega,y3⟩)
  (λz ⟨z1,z2,z3,z4⟩=>by
   obtain⟨q,c0,c1,c2,r0,r1,r2,r3,out⟩:=z;simp only at z1 z2 z3 z4;rw[Nat.sub_self]at z1;subst z1;refine⟨(c0,c1,c2,r0,r1,r2,r3,out),?_,z2,z3,z4⟩;show bU _ _ _ _ _ _ _ _ _=_
   unfold bU;rw[dF (show ¬((0:Nat):Int)>0 by decide),cF]) (x:=((n:Int),c.1,c.2.1,c.2.2,k,i,a,b,[])) ⟨rfl,h,rfl,by simp⟩
 refine⟨_,_,uH d1 rfl,d2,d3,d4⟩
theorem GK {α β:Type} (l:List α) (i:Int) (f:α->Option β):((ix l.length i).bind λj=>(l[j]?).bind f)=(at? l i).bind f:=by
 unfold ix at?;by_cases h0:0<=i
 · rw[if_pos h0,if_pos h0];by_cases h1:i<(l.length:Int)
   · rw[if_pos h1,oy]
   · rw[if_neg h1,List.getElem?_eq_none (by omega)];rfl
 · rw[if_neg h0,if_neg h0];rfl
theorem Ii:fH=dR:=rfl
theorem Gb:bH=au:=rfl
theorem J7 {b:oA} (h:sG b) (o:List Int):eC b o=aY b o:=by
 unfold eC aY;rw[zL h];cases bd b with
 | none=>rfl
 | some l =>
  have hs:(λz:Int×Int×Int×List UInt8×List Int×List Int=>fJ o l z.1 z.2.1 z.2.2.1 z.2.2.2.1 z.2.2.2.2.1 z.2.2.2.2.2)=λz=>bB o l z.1 z.2.1 z.2.2.1 z.2.2.2.1 z.2.2.2.2.1 z.2.2.2.2.2:=by
   funext z
   unfold fJ bB;simp only[GK,Ii];cases at? l z.1<;>rfl
  rw[oy,oy,hs];unfold aP;simp only[Option.bind_assoc,oy]
theorem JW {b:oA} (h:sG b) (o:List Int):eE b o=bA b o:=by
 unfold eE bA;rw[zL h];cases bd b with
 | none=>rfl
 | some l =>
  have hs:(λz:Int×Int×Int×List UInt8×List Int=>fK o l z.1 z.2.1 z.2.2.1 z.2.2.2.1 z.2.2.2.2)=λz=>aX o l z.1 z.2.1 z.2.2.1 z.2.2.2.1 z.2.2.2.2:=by
   funext z
   unfold fK aX;simp only[GK,Gb];cases at? l z.1<;>rfl
  rw[oy,oy,hs]
def xY (b:oA) (x:oC):Prop:=rW x.1=true/\(x.2.1=130->pO b x.1=x)
theorem Fb {b:oA} (h:qe b) {o:List Int} (ho:rW o=true):xY b (pO b o):=by
 refine⟨rb (xx h ho),λhk=>?_⟩;obtain⟨_,h1⟩:=zd h (o:=o) (by have:=so ho;omega);rcases h1 with ⟨h1,_⟩|⟨h1,h2⟩
 · exfalso;have hv:∀v:rm,Vl v->v.1≠130:=λv hv=>by cases hv<;>simp
   exact hv _ (uY h _ h1).2 hk
 · rw[h1];exact h1
theorem Ap {b:oA} {o:List Int} (ho:rW o=true):xY b (o,5,0,[],[]):=⟨ho,λhk=>by have hk:(5:Int)=130:=hk;omega⟩
noncomputable def pD (b:oA) (l:List oC):List oC:=l.map λx=>pO b x.1
theorem Fc {b:oA} {x:oC} (h:xY b x):(cond (x.2.1==130) x (pO b x.1))=pO b x.1:=by
 cases hk:x.2.1==130 with
 | true=>rw[cT];exact (h.2 (by simpa using hk)).symm
 | false=>rfl
noncomputable def sv (b:oA):Nat->List oC×List oC->List oC×List oC
 | 0,s=>s
 | n+1,s=>if 0<s.2.length/\s.1.length<10 then sv b n (s.1++pD b s.2,pD b s.2)else s
theorem E1 {b:oA}:∀(n:Nat) {s:List oC×List oC},10<=s.1.length->sv b n s=s
 | 0,s,_=>rfl
 | n+1,s,h=>if_neg (by omega)
theorem Fe {b:oA}:∀(n:Nat) {s:List oC×List (List Int)},10<=s.1.length->uW b n s=s
 | 0,s,_=>rfl
 | n+1,s,h=>if_neg (by omega)
theorem Aq {b:oA}:∀(n:Nat) (out T:List oC),out.length<=10->(uW b n (out,T.map λx=>x.1)).1=(sv b n (out,T)).1.take 10
 | 0,out,T,h=>(take_of_length_le h).symm
 | n+1,out,T,h=>by
  by_cases hc:0<T.length/\out.length<10
  · have e1:uW b (n+1) (out,T.map λx=>x.1)=uW b n (vp b (out,T.map λx=>x.1)):=if_pos (by simpa using hc);have e2:sv b (n+1) (out,T)=sv b n (out++pD b T,pD b T):=if_pos hc
    rw[e1,e2];by_cases hle:out.length+T.length<=10
    · have hm:tg (out,T.map λx=>x.1)=T.length:=by unfold tg;simp only[length_map];omega
      have e3:vp b (out,T.map λx=>x.1)=(out++pD b T,(pD b T).map λx=>x.1):=by
       unfold vp pD;simp only[hm];rw[take_of_length_le (by simp),List.drop_of_length_le (by simp),append_nil,map_map,map_map,map_map];rfl
      rw[e3];exact Aq n _ _ (by rw[length_append];unfold pD;rw[length_map];omega)
    · have hm:tg (out,T.map λx=>x.1)=10-out.length:=by unfold tg;simp only[length_map];omega
      have hl1:(vp b (out,T.map λx=>x.1)).1.length=10:=by
       show (out++((T.map λx=>x.1).take (tg (out,T.map λx=>x.1))).map (pO b)).length=10;rw[hm,length_append,length_map,length_take,length_map];omega
      rw[Fe n (by omega),E1 n (by show 10<=(out++pD b T).length;rw[length_append];unfold pD;rw[length_map];omega)];show out++((T.map λx=>x.1).take (tg (out,T.map λx=>x.1))).map (pO b)=(out++pD b T).take 10
      rw[hm,List.take_append,take_of_length_le h];unfold pD;rw[←List.map_take,←List.map_take,map_map];rfl
  · have e1:uW b (n+1) (out,T.map λx=>x.1)=(out,T.map λx=>x.1):=if_neg (by simpa using hc);have e2:sv b (n+1) (out,T)=(out,T):=if_neg hc
    rw[e1,e2];exact (take_of_length_le h).symm

theorem BB {p:p7} (hp:tH M p):bG p=some (pZ p):=by
 unfold bG;rw[Hl hp,oy];show (af ((zI p).length:Int) 1 120).bind _=_
 rw[uN,oy];rfl
def named (l:List oC):List oC:=l.map λx=>(x.1,5,0,[],[])
theorem Ff {l:List oC} (hn:l.length<=M):bJ l=some (named l):=by
 have hM:M=1048576:=rfl;unfold bJ named;refine uH (wk (g:=λx:oC=>((x.1,5,0,[],[]):oC)) hn (λk hk out ho=>?_) (λout=>?_)) rfl
 · show dl l (k:Int) out=_;unfold dl;rw[pr (by omega),cT,oT hk,oy,oH (by rw[ho];show k+1<=_;omega),oy,oQ (by omega)]
 · show dl l (l.length:Int) out=_;unfold dl;rw[pb (by omega),cF]
theorem Cq {b:oA} (h:qe b) {l:List oC} (hn:l.length<=1000) (hT:∀x∈l,xY b x):aS b l=some (pD b l):=by
 unfold aS pD;refine uH (wk (g:=λx:oC=>pO b x.1) (by show _<=1048576;omega) (λk hk out ho=>?_) (λout=>?_)) rfl
 · have hx:=hT _ (getElem_mem hk);have e:=Fc hx
   show dk b l (k:Int) out=_;unfold dk;rw[pr (by omega),cT,oT hk,oy,oy,oy,J7 h.w,(zd h (by have:=so hx.1;omega)).1,oy,oQ (by omega)];cases hk':l[k].2.1==130 with
   | true =>
    rw[hk',cT]at e;rw[cT,oH (by rw[ho];show k+1<=_;omega),oy,←e]
   | false=>rw[cF,oH (by rw[ho];show k+1<=_;omega),oy]
 · show dk b l (l.length:Int) out=_;unfold dk;rw[pb (by omega),cF]
theorem E2 {b:oA} (h:qe b) {l:List oC} (hT:∀x∈l,xY b x):∀x∈pD b l,xY b x:=by
 intro x hx;obtain⟨y,hy,rfl⟩:=mem_map.1 hx;exact Fb h (hT y hy).1
theorem GL {b:oA} (h:qe b) {p:p7} (hB:p.2.2.2.1<=1000):∀(n i:Nat) (out T:List oC),T.length<=10->out.length<=10+10*i->(∀x∈T,xY b x)->((i+n:Nat):Int)=p.2.2.2.1->loop (λz=>aZ b p z.1 z.2.1 z.2.2) (T,(i:Int),out)=some (sv b n (out,T)).1
 | 0,i,out,T,h1,h2,hT,e=>by
  refine pG ?_;show aZ b p T (i:Int) out=_
  unfold aZ;rw[pb (by omega),cF,oy,cF,oy,cF];rfl
 | n+1,i,out,T,h1,h2,hT,e=>by
  by_cases hc:0<T.length/\out.length<10
  · have hnl:(pD b T).length=T.length:=by unfold pD;rw[length_map]
    refine qb (y:=(pD b T,((i+1:Nat):Int),out++pD b T)) ?_ ?_
    · show aZ b p T (i:Int) out=_;unfold aZ;rw[pr (by omega),cT,dT (by omega),oy,cT,pr (by omega),oy,cT,Cq h (by omega) hT,oy,oH (by rw[hnl];omega),oy,oQ (by omega)]
    · rw[GL h hB n (i+1) _ _ (by rw[hnl];exact h1) (by rw[length_append,hnl];omega) (E2 h hT) (by omega),show sv b (n+1) (out,T)=sv b n (out++pD b T,pD b T)from if_pos hc]
  · refine pG ?_;show aZ b p T (i:Int) out=_
    have e2:sv b (n+1) (out,T)=(out,T):=if_neg hc;rw[e2];unfold aZ;rw[pr (by omega),cT];by_cases h1:0<T.length
    · rw[dT (by omega),oy,cT,pb (by omega),oy,cF]
    · rw[dF (by omega),oy,cF,oy,cF]
theorem Bi {b:oA}:∀(n:Nat) (out T:List oC),T.length<=10->out.length<=20->(sv b n (out,T)).1.length<=20
 | 0,out,T,_,h=>h
 | n+1,out,T,hT,h=>by
  by_cases hc:0<T.length/\out.length<10
  · rw[show sv b (n+1) (out,T)=sv b n (out++pD b T,pD b T)from if_pos hc];have hnl:(pD b T).length=T.length:=by unfold pD;rw[length_map]
    exact Bi n _ _ (by omega) (by rw[length_append,hnl];omega)
  · rw[show sv b (n+1) (out,T)=(out,T)from if_neg hc];exact h
theorem Ij {b:oA} (h:qe b) {p:p7} (hp:r9 p=true):eD b p=some (rH b p):=by
 obtain⟨x1,x2,_,_,x5,x6⟩:=ru hp;have hM:M=1048576:=rfl
 have hnl:(named p.2.2.2.2).length=p.2.2.2.2.length:=by unfold named;rw[length_map]
 have hTold:∀x∈named p.2.2.2.2,xY b x:=by
  intro x hx;obtain⟨y,hy,rfl⟩:=mem_map.1 hx;exact Ap (rb (x1 y hy))
 have hon:pH p<=p.2.2.2.2.length:=Nat.min_le_right _ _;have hout:pD b ((named p.2.2.2.2).take (pH p))=(p.2.2.2.2.take (pH p)).map (λx=>pO b x.1):=by
  unfold pD named;rw[←List.map_take,map_map];rfl
 have hlast:((named p.2.2.2.2).drop (pH p)).map (λx=>x.1)=(p.2.2.2.2.drop (pH p)).map (λx=>x.1):=by
  unfold named;rw[←List.map_drop,map_map];rfl
 have hol:(pD b ((named p.2.2.2.2).take (pH p))).length<=10:=by rw[hout,length_map,length_take];omega
 have hTl:((named p.2.2.2.2).drop (pH p)).length<=10:=by rw[length_drop];omega
 have hrun:=GL h (p:=p) (by omega) p.2.2.2.1.toNat 0 (pD b ((named p.2.2.2.2).take (pH p))) ((named p.2.2.2.2).drop (pH p)) hTl (by omega) (λx hx=>hTold x (List.mem_of_mem_drop hx)) (by omega);have hv:rH b p=(sv b p.2.2.2.1.toNat (pD b ((named p.2.2.2.2).take (pH p)),(named p.2.2.2.2).drop (pH p))).1.take 10:=by
  unfold rH DY;rw[←hout,←hlast];exact Aq _ _ _ hol
 have hlen:=Bi (b:=b) p.2.2.2.1.toNat _ _ hTl (show (pD b ((named p.2.2.2.2).take (pH p))).length<=20 by omega);have fin:∀k:Int,k=((pH p:Nat):Int)->((bJ p.2.2.2.2).bind λt22 =>
  (rX t22.length 0 k).bind λq =>
  (aS b ((t22.take q.2).drop q.1)).bind λt27 =>
  (cut t22 k (t22.length:Int)).bind λt30 =>
  (loop (λz=>aZ b p z.1 z.2.1 z.2.2) (t30,0,t27)).bind λd =>
  cond (decide ((d.length:Int)>10))
   ((rX d.length 0 10).bind λp_1 =>
   some ((d.take p_1.2).drop p_1.1))
   (some d))=some (rH b p):=by
  rintro k rfl;rw[Ff (by omega),oy,show (0:Int)=((0:Nat):Int)from rfl,wj (by omega) (by rw[hnl];exact hon),oy];show (aS b (((named p.2.2.2.2).take (pH p)).drop 0)).bind _=_
  rw[List.drop_zero,Cq h (by rw[length_take];omega) (λx hx=>hTold x (mem_of_mem_take hx)),oy,rV (by rw[hnl];exact hon) (Nat.le_refl _),oy,take_length];refine uH hrun ?_;rw[hv];generalize (sv b p.2.2.2.1.toNat (pD b ((named p.2.2.2.2).take (pH p)),(named p.2.2.2.2).drop (pH p))).1=d at hlen;by_cases hd:(d.length:Int)>10
  · rw[dT hd,cT,show (10:Int)=((10:Nat):Int)from rfl,wj (by omega) (by omega),oy];rfl
  · rw[dF hd,cF,take_of_length_le (by omega)]
 unfold eD;by_cases hc:p.2.2.1>(p.2.2.2.2.length:Int)
 · rw[dT hc,cT];exact fin _ (by unfold pH;omega)
 · rw[dF hc,cF];exact fin _ (by unfold pH;omega)
theorem Fg (k i a c:Int) (bulk:Bool):∀(n:Nat) (l:List oC),l.length=n->n<=10->(∀x∈l,vq M x) ->
 ∃t,loop (λz:p7=>bm bulk z.1 z.2.1 z.2.2.1 z.2.2.2.1 z.2.2.2.2) (k,i,a,c,l)=some (k,i,a,c,t)/\tH M (k,i,a,c,t) /\
  ((pZ (k,i,a,c,l)=true/\t=l)\/(pZ (k,i,a,c,l)=false/\((bulk=true/\pZ (k,i,a,c,t)=true/\shr (λt=>pZ (k,i,a,c,t)) n l=some t)\/(pZ (k,i,a,c,t)=false/\(bulk=true->shr (λt=>pZ (k,i,a,c,t)) n l=none)))))
 | n,l,hl,hn,hx=>by
  have hp:tH M (k,i,a,c,l):=⟨by show l.length<=1048576;omega,hx⟩;have hstep:∀q:Bool,pZ (k,i,a,c,l)=q->bm bulk k i a c l=cond (bulk&&(!q&&decide ((l.length:Int)>0))) ((rX l.length 0 (oB ((l.length:Int)-1))).bind λp=>some (.inl (k,i,a,c,(l.take p.2).drop p.1))) (some (.inr (k,i,a,c,l))):=by
   intro q hq;unfold bm;rw[BB hp,hq];cases bulk<;>cases q<;>rfl
  cases hf:pZ (k,i,a,c,l)with
  | true =>
   refine⟨l,pG ?_,hp,.inl ⟨rfl,rfl⟩⟩;show bm bulk k i a c l=_
   rw[hstep true hf];cases bulk<;>rfl
  | false =>
   cases hb:bulk with
   | false =>
    subst hb;refine⟨l,pG ?_,hp,.inr ⟨rfl,.inr ⟨hf,(λh=>by cases h)⟩⟩⟩;show bm false k i a c l=_
    rw[hstep false hf];rfl
   | true =>
    subst hb
    match n,hl,hn with
    | 0,hl,hn =>
     refine⟨l,pG ?_,hp,.inr ⟨rfl,.inr ⟨hf,λ_=>rfl⟩⟩⟩;show bm true k i a c l=_
     rw[hstep false hf,dF (by omega)];rfl
    | n+1,hl,hn =>
     have hlt:(l.take n).length=n:=by rw[length_take];omega
     have hs:bm true k i a c l=some (.inl (k,i,a,c,l.take n)):=by
      rw[hstep false hf,dT (by omega)];show ((rX l.length 0 (oB ((l.length:Int)-1))).bind _)=_
      rw[pj (by omega) (by omega),show (l.length:Int)-1=((n:Nat):Int) by omega,show (0:Int)=((0:Nat):Int)from rfl,wj (by omega) (by omega),oy];rfl
     obtain⟨t,t1,t2,t3⟩:=Fg k i a c true n (l.take n) hlt (by omega) (λx h=>hx x (mem_of_mem_take h));refine⟨t,qb hs t1,t2,.inr ⟨rfl,?_⟩⟩;rcases t3 with ⟨u1,rfl⟩|⟨u1,⟨_,u2,u3⟩|⟨u2,u3⟩⟩
     · exact .inl ⟨rfl,u1,if_pos u1⟩
     · exact .inl ⟨rfl,u2,by rw[show shr (λt=>pZ (k,i,a,c,t)) (n+1) l=shr (λt=>pZ (k,i,a,c,t)) n (l.take n)from if_neg (show ¬pZ (k,i,a,c,l.take n)=true by rw[u1];simp)];exact u3⟩
     · exact .inr ⟨u2,λ_=>by rw[show shr (λt=>pZ (k,i,a,c,t)) (n+1) l=shr (λt=>pZ (k,i,a,c,t)) n (l.take n)from if_neg (show ¬pZ (k,i,a,c,l.take n)=true by rw[u1];simp)];exact u3 rfl⟩
noncomputable def yN (i a c:Int) (bulk:Bool) (l:List oC):p7 :=
 cond (pZ (162,i,a,c,l)) (162,i,a,c,l) (match cond bulk (shr (λt=>pZ (162,i,a,c,t)) l.length l) none with|some t=>(162,i,a,c,t)|none=>(162,i,7,0,[]))
theorem Fh (i a c:Int) (bulk:Bool) {l:List oC} (hn:l.length<=10) (hx:∀x∈l,vq M x):cg (162,i,a,c,l) bulk=some (yN i a c bulk l):=by
 obtain⟨t,t1,t2,t3⟩:=Fg 162 i a c bulk l.length l rfl hn hx;unfold cg yN;refine uH t1 ?_;rw[BB t2,oy];rcases t3 with ⟨u1,rfl⟩|⟨u1,⟨rfl,u2,u3⟩|⟨u2,u3⟩⟩
 · rw[u1,cT,cT]
 · rw[u1,u2,cT,cF,cT,u3]
 · rw[u1,u2,cF,cF];cases bulk with
   | true=>rw[cT,u3 rfl]
   | false=>rfl
theorem J8 {b:oA} (h:qe b) {p:p7} (hp:r9 p=true) (h163:(p.1==163)=false) (hk:(p.1 != 162)=true):∃l,eF b p=some l/\uF b p=(b,162,p.2.1,0,0,l)/\l.length<=10/\∀x∈l,vq M x:=by
 obtain⟨x1,x2,_⟩:=ru hp;have hM:M=1048576:=rfl
 unfold eF uF;cases h161:(p.1==161)with
 | true =>
  have h160:(p.1==160)=false:=by simp only[beq_iff_eq]at h161;rw[h161];rfl
  have hTold:∀x∈named p.2.2.2.2,xY b x:=by
   intro x hx;obtain⟨y,hy,rfl⟩:=mem_map.1 hx;exact Ap (rb (x1 y hy))
  have he:pD b (named p.2.2.2.2)=p.2.2.2.2.map λx=>pO b x.1:=by unfold pD named;rw[map_map];rfl
  simp only[cT,cF,h160];rw[Ff (by omega),oy,Cq h (by unfold named;rw[length_map];omega) hTold,oy,he];refine⟨_,rfl,rfl,by rw[length_map];exact x2,λx hx=>?_⟩;obtain⟨y,hy,rfl⟩:=mem_map.1 hx;exact sm (xx h (rb (x1 y hy)))
 | false =>
 cases h165:(p.1==165)with
 | true =>
  have h160:(p.1==160)=false:=by simp only[beq_iff_eq]at h165;rw[h165];rfl
  have hbk:=D9 h hp;simp only[cT,cF,h160];rw[Ij h hp,oy];exact⟨_,rfl,rfl,hbk.o10,λx hx=>sm (hbk.oOk x hx)⟩
 | false =>
  have h160:(p.1==160)=true:=by
   rcases G7 hp with e|e|e|e|e
   · rw[e];rfl
   · rw[e]at h161;cases h161
   · rw[e]at hk;cases hk
   · rw[e]at h163;cases h163
   · rw[e]at h165;cases h165
  simp only[cT,cF,h160];have e:loop (λz:Int×List oC=>ck b p z.1 z.2) (0,[])=some (p.2.2.2.2.map λx=>((x.1,wl b x.1):oC)):=by
   refine wk (by omega) (λk hk' out ho=>?_) (λout=>?_)
   · have hx:=so (rb (x1 _ (getElem_mem hk')));show ck b p (k:Int) out=_
     unfold ck;rw[pr (by omega),cT,oT hk',oy,oH (by show 0+_<=_;omega),oy,oy,JW h.w,(G5 h (by omega)).1,oy,oH (by rw[ho];show k+1<=_;omega),oy,oQ (by omega)];rfl
   · show ck b p (p.2.2.2.2.length:Int) out=_;unfold ck;rw[pb (by omega),cF]
  rw[e,oy];refine⟨_,rfl,rfl,by rw[length_map];exact x2,λx hx=>?_⟩;obtain⟨y,hy,rfl⟩:=mem_map.1 hx;exact sm (by unfold sK;rw[rb (x1 y hy),GH h (by have:=so (rb (x1 y hy));omega)];rfl)
theorem CJ {b:oA} {p:p7} {l:List oC} (ha:uF b p=(b,162,p.2.1,0,0,l)) (hl:(p.1==165)=true->l=rH b p):uG b p=(b,yN p.2.1 0 0 (p.1==165) l):=by
 unfold uG wO yN;rw[ha];simp only;cases pZ (162,p.2.1,0,0,l)with
 | true=>rfl
 | false =>
  rw[cF,cF];cases h165:(p.1==165)with
  | true=>rw[cT,cT,hl h165];cases shr (λt=>pZ (162,p.2.1,0,0,t)) (rH b p).length (rH b p)<;>rfl
  | false=>rfl
theorem JX {b:oA} (h:qe b) {p:p7} (hp:r9 p=true) (h163:(p.1==163)=true):eA b p=some (uG b p):=by
 have hxs:=Ao hp;have hM:M=1048576:=rfl
 have h10:=(ru hp).2.1;obtain⟨r,r1,r2,_,_,r5⟩:=AP h.w h.le hxs;have hr:x8 b p.2.2.2.2=r:=by unfold x8;rw[r1];rfl
 have h160:(p.1==160)=false:=by simp only[beq_iff_eq]at h163;rw[h163];rfl
 have h161:(p.1==161)=false:=by simp only[beq_iff_eq]at h163;rw[h163];rfl
 have h165:(p.1==165)=false:=by simp only[beq_iff_eq]at h163;rw[h163];rfl
 have ha:uF b p=(r.1,162,p.2.1,r.2.1,r.2.2,p.2.2.2.2):=by unfold uF;rw[h160,h161,h165,hr];rfl
 have hless:wO b p=(b,162,p.2.1,7,0,[]):=by unfold wO;rw[h165];rfl
 unfold eA uG;rw[AA hxs,oy,r2,oy,BB (p:=(162,p.2.1,r.2.1,r.2.2,p.2.2.2.2)) ⟨hxs.1,hxs.2⟩,oy,ha,hless];simp only;have hb:∀q:Bool,pZ (162,p.2.1,r.2.1,r.2.2,p.2.2.2.2)=q->((aE b).bind λt36=>(cg (162,p.2.1,r.2.1,r.2.2,p.2.2.2.2) false).bind λt38=>some (t36,t38))=some (b,cond q (162,p.2.1,r.2.1,r.2.2,p.2.2.2.2) (162,p.2.1,7,0,[])):=by
  intro q hq;rw[te h.le,oy,Fh _ _ _ _ h10 hxs.2,oy];unfold yN;rw[hq];rfl
 cases hf:pZ (162,p.2.1,r.2.1,r.2.2,p.2.2.2.2)with
 | false=>rw[Bool.not_false,cT,oy,cT,hb false hf];rfl
 | true =>
  rw[Bool.not_true,cF,oy];cases hc:(r.2.1 != 0)with
  | false=>rfl
  | true =>
   rw[cT,hb true hf];rcases r5 with ⟨r6,_⟩|⟨r6,_⟩
   · rw[r6]at hc;cases hc
   · rw[r6];rfl
theorem Ik {b:oA} (h:sG b) (hb:uI M b) {p:p7} (hp:tH M p):eG b p=some (sE b p):=by
 unfold eG fL sE yL;rw[AR h,oy,te hb];cases hbr:pY b with
 | false=>rfl
 | true =>
 rw[cT,IS hp,oy,oy];cases hpp:r9 p with
 | false=>rfl
 | true =>
 cases hk:(p.1 != 162)with
 | false=>rfl
 | true =>
 have hBO:=Bn h hbr;simp only[Bool.and_true,cT,oy,Bool.not_true,cF];cases h163:(p.1==163)with
 | true=>rw[cT,JX hBO hpp h163,oy]
 | false =>
  obtain⟨l,e1,e2,e3,e4⟩:=J8 hBO hpp h163 hk;have hl:(p.1==165)=true->l=rH b p:=by
   intro h165;have h160:(p.1==160)=false:=by simp only[beq_iff_eq]at h165;rw[h165];rfl
   have h161:(p.1==161)=false:=by simp only[beq_iff_eq]at h165;rw[h165];rfl
   have:uF b p=(b,162,p.2.1,0,0,rH b p):=by unfold uF;rw[h160,h161,h165];rfl
   rw[e2]at this;simpa using this
  rw[cF,e1,oy,AA ⟨by show l.length<=1048576;omega,e4⟩,oy,Fh _ _ _ _ e3 e4,oy,CJ e2 hl]

theorem Dr.mono {α:Type} {P Q:α->Prop} {o:Option (oL×α)} (h:Dr P o) (k:∀x,P x->Q x):Dr Q o:=by
 obtain⟨c,x,e,w,hx⟩:=h;exact⟨c,x,e,w,k x hx⟩
def Ar (n:Nat) (p:p7):Prop:=p.2.2.2.2.length<=n/\∀x∈p.2.2.2.2,vq M x
theorem Ar.le {n:Nat} {p:p7} (h:Ar n p) (hn:n<=1000):tH M p:=⟨by have:=h.1;show _<=1048576;omega,h.2⟩
theorem Ar.up {n m:Nat} {p:p7} (h:Ar n p) (hn:n<=m):Ar m p:=⟨Nat.le_trans h.1 hn,h.2⟩
theorem Il {c:oL} (h:CW c):Dr (Ar 3) (eW c):=by
 have up:∀{n:Nat} {o:Option (oL×p7)},n<=3->Dr (λp:p7=>p.2.2.2.2.length=n/\∀x∈p.2.2.2.2,tU x) o->Dr (Ar 3) o:=λhn h=>h.mono λp hp=>⟨by rw[hp.1];exact hn,λx hx=>(hp.2 x hx).le⟩;unfold eW;refine Dr.bind (wM h (by decide)) λc k hc _=>?_;refine Dr.bind (DW hc) λc x hc _=>?_;obtain⟨r,hr⟩:=GE x;rw[hr,oy];have hkk:∃t,(cond (k==162) (some true) (some (k==165)))=some t:=by cases k==162<;>exact⟨_,rfl⟩
 obtain⟨t,ht⟩:=hkk;simp only;rw[ht,oy];refine Dr.cond ?_ ?_
 · refine Dr.bind (qj hc 4) λc a hc _=>?_;refine Dr.bind (qj hc 5) λc b hc _=>?_;obtain⟨c1,n,e1,w1,hn⟩:=qr hc (n:=4) (by decide);have e1':aa c 4=some (c1,(n:Int)):=e1
   simp only;rw[e1',oy];exact up (by omega) (G9 w1 (by omega) k r a b)
 · obtain⟨c1,n,e1,w1,hn⟩:=qr hc (n:=4) (by decide);have e1':aa c 4=some (c1,(n:Int)):=e1
   rw[e1',oy];exact up (by omega) (Ga w1 (by omega) k r 0 0)
theorem Cr {c:oL} (h:CW c):Dr (λo:List Int=>o.length<=11) (dE c):=by
 unfold dE;refine Dr.bind (za h) λc o hc ho=>?_;have h1:=ho.n1
 have h10:=ho.n10;refine Dr.bind (qj hc 10) λc k hc _=>?_;refine Dr.cond ?_ (Dr.cond ?_ (Dr.cond ?_ ?_))
 · exact Dr.some hc (by simp)
 · refine Dr.bind (wM hc (by decide)) λc x hc _=>?_;have e0:ix o.length 0=some 0:=tZ (k:=0) (by omega)
   simp only;rw[e0,oy,List.getElem?_eq_getElem (show 0<o.length by omega),oy];exact Dr.some hc (by rw[length_set];omega)
 · obtain⟨d,d1,d2,d3⟩:=oR (step:=λz:List Int×Int×Int×List Int=>cC z.1 z.2.1 z.2.2.1 z.2.2.2) (λj z=>CW (z.1,z.2.1,z.2.2.1)/\z.2.2.2.length=o.length+j/\z.2.2.2.length<=11) (12-o.length) (λd=>CW (d.1,d.2.1,d.2.2.1)/\d.2.2.2.length<=11)
    (λj z hj ⟨z1,z2,z3⟩=>by
     obtain⟨c',t,e,w,t0,t1⟩:=qj z1 2;have t1:=t1 (by omega)
     have ew:oB (10+t)=10+t:=pj (by omega) (by omega);by_cases hlt:(z.2.2.2.length:Int)<10+t
     · refine .inl ⟨(c'.1,c'.2.1,c'.2.2,z.2.2.2++[1]),by
        show cC _ _ _ _=_;unfold cC;simp only[e,oy,ew,dT hlt,cT,oH (show z.2.2.2.length+[(1:Int)].length<=_ by show z.2.2.2.length+1<=_;omega)],w,?_,?_⟩
       · simp;omega
       · simp;omega
     · refine .inr ⟨(c'.1,c'.2.1,c'.2.2,z.2.2.2),by
        show cC _ _ _ _=_;unfold cC;simp only[e,oy,ew,dF hlt,cF],w,z3⟩)
    (λz ⟨z1,z2,z3⟩=>by omega) (x:=(c.1,c.2.1,c.2.2,o)) ⟨hc,by simp,by show o.length<=11;omega⟩
   exact⟨_,_,uH d1 rfl,d2,d3⟩
 · exact Dr.some hc (by show o.length<=11;omega)
theorem Gc {c:oL} (h:CW c):Dr (λv:rm=>v.2.2.1.length<=100/\v.2.2.2.length<=1000) (eX c):=by
 unfold eX;refine Dr.bind (An h) λc v hc hv=>?_;obtain⟨v1,v2,_⟩:=hv;refine Dr.bind (qj hc 12) λc k hc _=>?_;refine Dr.cond ?_ (Dr.cond ?_ (Dr.cond ?_ (Dr.cond ?_ ?_)))
 · exact Dr.bind (wM hc (by decide)) λc x hc _=>Dr.some hc ⟨v1,v2⟩
 · exact Dr.bind (DW hc) λc x hc _=>Dr.some hc ⟨v1,v2⟩
 · refine Dr.bind (qj hc 2) λc t hc ht=>?_;have ht2:=ht.2 (by omega)
   obtain⟨n,rfl⟩:∃n:Nat,t=(n:Int):=⟨t.toNat,by omega⟩;have ew:oB (20+(n:Int))=((20+n:Nat):Int):=by rw[pj (by omega) (by omega)];omega
   simp only;rw[ew,ES (by omega),oy];exact Dr.some hc ⟨by show (vK (List.replicate (20+n) 0)).length<=100;unfold vK;rw[length_map,List.length_replicate];omega,v2⟩
 · exact Dr.bind (Cr hc) λc o hc ho=>Dr.some hc ⟨v1,by show o.length<=1000;omega⟩
 · exact Dr.some hc ⟨v1,v2⟩
theorem Im {o:List Int} {v:rm} (ho:o.length<=1000) (hv:v.2.2.1.length<=100/\v.2.2.2.length<=1000):vq M (o,v.1,v.2.1,v.2.2.1,v.2.2.2):=by
 have hM:M=1048576:=rfl;exact⟨by show o.length<=_;omega,by show v.2.2.1.length<=_;omega,by show v.2.2.2.length<=_;omega⟩
theorem Bj {c:oL} (h:CW c):Dr (Ar 12) (dG c):=by
 unfold dG;refine Dr.bind (Il h) λc p hc hp=>?_;have hn:=hp.1
 refine Dr.bind (qj hc 12) λc k hc _=>?_;refine Dr.cond ?_ (Dr.cond ?_ (Dr.cond ?_ (Dr.cond ?_ ?_)))
 · exact Dr.bind (qj hc 256) λc x hc _=>Dr.some hc ⟨by show p.2.2.2.2.length<=12;omega,hp.2⟩
 · exact Dr.bind (wM hc (by decide)) λc x hc _=>Dr.some hc ⟨by show p.2.2.2.2.length<=12;omega,hp.2⟩
 · refine Dr.bind (Cr hc) λc o hc ho=>?_;refine Dr.bind (Gc hc) λc v hc hv=>?_;have hap:∀x:oC,oX p.2.2.2.2 [x]=some (p.2.2.2.2++[x]):=λx=>oH (by show p.2.2.2.2.length+1<=_;omega)
   simp only;rw[hap,oy];refine Dr.some hc ⟨?_,λx hx=>?_⟩
   · show (p.2.2.2.2++[_]).length<=12;rw[length_append];show p.2.2.2.2.length+1<=12;omega
   · rcases mem_append.1 (show x∈p.2.2.2.2++[_]from hx)with hx|hx
     · exact hp.2 x hx
     · rw[mem_singleton.1 hx];exact Im (by omega) hv
 · obtain⟨d,d1,d2,d3,d4⟩:=oR (step:=λz:List Int×Int×Int×Int×Int×Int×Int×List oC=>cD z.1 z.2.1 z.2.2.1 z.2.2.2.1 z.2.2.2.2.1 z.2.2.2.2.2.1 z.2.2.2.2.2.2.1 z.2.2.2.2.2.2.2) (λj z=>CW (z.1,z.2.1,z.2.2.1)/\z.2.2.2.2.2.2.2.length=p.2.2.2.2.length+j/\z.2.2.2.2.2.2.2.length<=11/\∀x∈z.2.2.2.2.2.2.2,vq M x) (12-p.2.2.2.2.length) (λd=>CW (d.1,d.2.1,d.2.2.1)/\d.2.2.2.2.2.2.2.length<=11/\∀x∈d.2.2.2.2.2.2.2,vq M x)
    (λj z hj ⟨z1,z2,z3,z4⟩=>by
     obtain⟨c',t,e,w,t0,t1⟩:=qj z1 2;have t1:=t1 (by omega)
     have ew:oB (10+t)=10+t:=pj (by omega) (by omega);by_cases hlt:(z.2.2.2.2.2.2.2.length:Int)<10+t
     · obtain⟨c2,o,e2,w2,ho⟩:=za w;have h10:=ho.n10
       have hap:∀x:oC,oX z.2.2.2.2.2.2.2 [x]=some (z.2.2.2.2.2.2.2++[x]):=λx=>oH (by show z.2.2.2.2.2.2.2.length+1<=_;omega);refine .inl ⟨(c2.1,c2.2.1,c2.2.2,z.2.2.2.1,z.2.2.2.2.1,z.2.2.2.2.2.1,z.2.2.2.2.2.2.1,z.2.2.2.2.2.2.2++[(o,4,0,[116,119,101,110,116,121,45,98,121,116,101,115,45,111,102,45,116,101,120,116],[])]),by
        show cD _ _ _ _ _ _ _ _=_;unfold cD;simp only[e,oy,ew,dT hlt,cT,e2,hap],w2,?_,?_,?_⟩
       · simp;omega
       · simp;omega
       · intro x hx;rcases mem_append.1 (show x∈z.2.2.2.2.2.2.2++[_]from hx)with hx|hx
         · exact z4 x hx
         · rw[mem_singleton.1 hx];exact Im (v:=(4,0,[116,119,101,110,116,121,45,98,121,116,101,115,45,111,102,45,116,101,120,116],[])) (by omega) ⟨by decide,by decide⟩
     · refine .inr ⟨(c'.1,c'.2.1,c'.2.2,z.2.2.2),by
        show cD _ _ _ _ _ _ _ _=_;unfold cD;simp only[e,oy,ew,dF hlt,cF],w,z3,z4⟩)
    (λz ⟨z1,z2,z3,z4⟩=>by omega) (x:=(c.1,c.2.1,c.2.2,p.1,p.2.1,p.2.2.1,p.2.2.2.1,p.2.2.2.2)) ⟨hc,by simp,by show p.2.2.2.2.length<=11;omega,hp.2⟩
   exact⟨_,_,uH d1 rfl,d2,by have:=d3;show d.2.2.2.2.2.2.2.length<=12;omega,d4⟩
 · exact Dr.some hc (hp.up (by omega))

end Go.V.W

