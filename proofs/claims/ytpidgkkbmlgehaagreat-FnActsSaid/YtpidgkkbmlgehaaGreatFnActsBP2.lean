/- The law FnActs: part of the proof that for every input it returns true. No condition. -/
import Derived.Test.YtpidgkkbmlgehaaGreatFnActsBP1
open List (any_eq_false append_assoc append_nil drop_eq_getElem_cons drop_zero flatMap_append getElem_cons_succ getElem_cons_zero getElem_mem getElem_of_mem length_append length_cons length_drop length_eq_zero_iff length_map length_nil length_set length_take map_cons mem_append mem_cons mem_cons_of_mem mem_map mem_of_mem_take mem_range nil_append pairwise_cons take_add_one take_length take_nil take_succ_cons take_zero)
set_option linter.unusedVariables false
set_option linter.unusedSimpArgs false
namespace Go.V.W
def IV (b:uz) (o:List Int):Bool:=xe o 2 5 [1]||(xe o 1 (xS b) [2,1]||(xe o 1 (xS b) [2,3]||(((o.length==7)&&(o.take 5==[1,3,1,4,1]))&&(match o[5]?,o[6]? with|some x,some y=>decide (Ct b.2.2.2.1 x y>=0)|_,_=>false))))
theorem SQ {b:uz} (hb:yz M b) {o:List Int} (ho:o.length<=M):iA b o=some (IV b o):=by
 have hr:b.2.2.2.1.length<9223372036854775807:=by have:b.2.2.2.1.length<=1048576:=hb.2.2.1;omega
 unfold iA IV;rw[EJ 2 5 ho (by decide),EJ 1 _ ho (by decide),EJ 1 _ ho (by decide)];simp only[an];cases xe o 2 5 [1]with
 | true=>rfl
 | false =>
 cases xe o 1 (xS b) [2,1]with
 | true=>rfl
 | false =>
 cases xe o 1 (xS b) [2,3]with
 | true=>rfl
 | false =>
 by_cases h7:o.length=7
 · have h5:5<o.length:=by omega
   have h6:6<o.length:=by omega
   have hc:cut o 0 5=some (o.take 5):=by
    rw[show (0:Int)=((0:Nat):Int)from rfl,show (5:Int)=((5:Nat):Int)from rfl,xR (Nat.zero_le _) (by omega),drop_zero]
   rw[show ((o.length:Int)==7)=true from beq_iff_eq.2 (by omega),show (o.length==7)=true from beq_iff_eq.2 h7];simp only[cF,cT,an,hc,Bu (show ([1,3,1,4,1]:List Int).length<9223372036854775807 by decide),Bool.false_or,Bool.true_and];cases (o.take 5==[1,3,1,4,1])with
   | false=>rfl
   | true =>
    rw[show (5:Int)=((5:Nat):Int)from rfl,show (6:Int)=((6:Nat):Int)from rfl];simp only[cT,uO h5,uO h6,an,Hz hr,List.getElem?_eq_getElem h5,List.getElem?_eq_getElem h6,Bool.true_and]
 · rw[show ((o.length:Int)==7)=false from beq_eq_false_iff_ne.2 (by omega),show (o.length==7)=false from beq_eq_false_iff_ne.2 h7];rfl

def BG (o:List Int):Bool:=decide (o.length>3)&&(o.take 3==[1,3,1])
theorem RB {o:List Int} (ho:o.length<=M):fr o=some (cond (BG o) (o.drop 3,true) ([],false)):=by
 have ho':o.length<=1048576:=ho;unfold fr ja BG;by_cases h:o.length>3
 · have hc:cut o 0 ((([1,3,1]:List Int).length:Nat):Int)=some (o.take 3):=by
    rw[show (0:Int)=((0:Nat):Int)from rfl,xR (Nat.zero_le _) (by show 3<=_;omega),drop_zero];rfl
   have hc2:cut o 3 (o.length:Int)=some (o.drop 3):=by
    rw[show (3:Int)=((3:Nat):Int)from rfl,xR (by omega) (Nat.le_refl _),take_length]
   have hs:cN (o.take 3) [1,3,1]=some (o.take 3==[1,3,1]):=Bu (a:=o.take 3) (b:=[1,3,1]) (by decide);rw[dT (show (o.length:Int)>(([1,3,1]:List Int).length:Int) by show (o.length:Int)>3;omega),cT,hc,an,hs,dT h];simp only[an,Bool.true_and];cases (o.take 3==[1,3,1])with
   | false=>rfl
   | true=>simp only[Bool.not_true,cF,cT,hc2,an]
 · rw[dF (show ¬(o.length:Int)>(([1,3,1]:List Int).length:Int) by show ¬(o.length:Int)>3;omega),dF h];rfl
def GK (b:uz) (o:List Int):Bool:=BG o&&(match o.drop 3 with
 | [a,c]=>a==1&&c==1
 | [a,c,p]=>(a==2&&((c==2||c==4)&&uE p 1 (xS b)))||(a==3&&((c==1&&uE p 1 99)||((c==2||c==3)&&decide (wP (yY b) p>=0))))
 | _=>false)
theorem TL {b:uz} (hb:yz M b) {o:List Int} (ho:o.length<=M):gE b o=some (GK b o):=by
 have hr:b.2.2.2.2.1.length<9223372036854775807:=by have:b.2.2.2.2.1.length<=1048576:=hb.2.2.2.1;omega
 unfold gE GK;rw[RB ho,an];cases BG o with
 | false=>rfl
 | true =>
  simp only[cT,Bool.not_true,cF,Bool.true_and]
  match o.drop 3 with
  | []=>rfl
  | [a]=>rfl
  | [a,c] =>
   rw[show (([a,c].length:Int)==2)=true from rfl,cT,show at? [a,c] 0=some a from rfl,show at? [a,c] 1=some c from rfl];simp only[an];cases a==1<;>rfl
  | [a,c,p] =>
   rw[show (([a,c,p].length:Int)==2)=false from rfl,cF,show (([a,c,p].length:Int) != 3)=false from rfl,cF,show at? [a,c,p] 0=some a from rfl,show at? [a,c,p] 1=some c from rfl,show at? [a,c,p] 2=some p from rfl];simp only[an,Al,Ql (v:=(b.2.2.2.2.1,b.2.2.2.2.2.1)) hr];by_cases h2:a=2
   · subst h2;cases c==2<;>cases c==4<;>simp
   · by_cases h3:a=3
     · subst h3;cases c==1<;>cases c==2<;>cases c==3<;>cases uE p 1 99<;>simp
     · rw[show (a==2)=false from beq_eq_false_iff_ne.2 h2,show (a==3)=false from beq_eq_false_iff_ne.2 h3];rfl
  | a::c::p::q::l =>
   simp only[length_cons];rw[show ((((l.length+1+1+1+1:Nat):Int))==2)=false from beq_eq_false_iff_ne.2 (by omega),show ((((l.length+1+1+1+1:Nat):Int)) != 3)=true from bne_iff_ne.2 (by omega)];rfl
def HA (b:uz) (o:List Int):Bool:=BG o&&(match o.drop 3 with
 | [a,c]=>a==1&&uE c 2 5
 | [a,c,p]=>a==2&&((c==1||c==3)&&uE p 1 (xS b))
 | [a,c,p,q]=>(a==4&&c==1)&&decide (Ct b.2.2.2.1 p q>=0)
 | _=>false)
theorem SR {b:uz} (hb:yz M b) {o:List Int} (ho:o.length<=M):gF b o=some (HA b o):=by
 have hr:b.2.2.2.1.length<9223372036854775807:=by have:b.2.2.2.1.length<=1048576:=hb.2.2.1;omega
 unfold gF HA;rw[RB ho,an];cases BG o with
 | false=>rfl
 | true =>
  simp only[cT,Bool.not_true,cF,Bool.true_and]
  match o.drop 3 with
  | []=>rfl
  | [a]=>rfl
  | [a,c] =>
   rw[show (([a,c].length:Int)==2)=true from rfl,cT,show at? [a,c] 0=some a from rfl,show at? [a,c] 1=some c from rfl];simp only[an,Al];cases a==1<;>rfl
  | [a,c,p] =>
   rw[show (([a,c,p].length:Int)==2)=false from rfl,cF,show (([a,c,p].length:Int)==3)=true from rfl,cT,show at? [a,c,p] 0=some a from rfl,show at? [a,c,p] 1=some c from rfl,show at? [a,c,p] 2=some p from rfl];simp only[an,Al];cases a==2<;>cases c==1<;>cases c==3<;>simp
  | [a,c,p,q] =>
   rw[show (([a,c,p,q].length:Int)==2)=false from rfl,cF,show (([a,c,p,q].length:Int)==3)=false from rfl,cF,show (([a,c,p,q].length:Int)==4)=true from rfl,cT,show at? [a,c,p,q] 0=some a from rfl,show at? [a,c,p,q] 1=some c from rfl,show at? [a,c,p,q] 2=some p from rfl,show at? [a,c,p,q] 3=some q from rfl];simp only[an,Qm hr];cases a==4<;>cases c==1<;>simp
  | a::c::p::q::r::l =>
   simp only[length_cons];rw[show ((((l.length+1+1+1+1+1:Nat):Int))==2)=false from beq_eq_false_iff_ne.2 (by omega),show ((((l.length+1+1+1+1+1:Nat):Int))==3)=false from beq_eq_false_iff_ne.2 (by omega),show ((((l.length+1+1+1+1+1:Nat):Int))==4)=false from beq_eq_false_iff_ne.2 (by omega)];rfl

structure yE (b:uz):Prop where
 id:uE b.1 1 99=true
 name:b.2.1.length<=10
 n1:1<=b.2.2.1.length
 n6:b.2.2.1.length<=6
 p:∀x∈b.2.2.1,zl x=true
 f:zZ b.2.2.2.1=true
 c:xa b=true
 q:b.2.2.2.2.2.1.length=b.2.2.1.length
 v:b.2.2.2.2.1.length<=6
 s:b.2.2.2.2.1.Pairwise λr s=>r.1<s.1
 i:∀r∈b.2.2.2.2.1,uE r.1 1 99=true
 h:∀r∈b.2.2.2.2.1,-9223372036854775808<=r.2.2/\r.2.2<=9223372036854775807
theorem yE.f12 {b:uz} (h:yE b):b.2.2.2.1.length<=12:=by
 have hf:=h.f;unfold zZ at hf;simp only[aT,decide_eq_true_eq]at hf;omega
theorem yE.le {b:uz} (h:yE b):yz M b:=by
 have h1:=h.name;have h2:=h.n6;have h3:=h.f12;have h4:=h.v;have h5:=h.q
 have hM:M=1048576:=rfl;exact⟨by omega,by omega,by omega,by omega,by omega⟩
theorem vB.sok {b:uz} (h:vB b):yE b:=by
 obtain⟨v1,v2,v3,v4⟩:=h.vt.len;refine⟨h.id,h.name,h.n1,h.n6,h.p,h.f,h.c,v3,v4,IC h,λr hr=>?_,h.w.r⟩;obtain⟨k,hk,rfl⟩:=getElem_of_mem hr;have hv:=h.v
 unfold xI at hv;simp only[aT,Bool.not_eq_true']at hv;have hx:=any_eq_false.1 hv.2.1 k (mem_range.2 hk)
 unfold B0 at hx;simp only[List.getElem?_eq_getElem hk]at hx;cases hq:uE b.2.2.2.2.1[k].1 1 99 with
 | true=>rfl
 | false=>rw[hq]at hx;simp at hx
theorem zQ {o:List Int} (h:o.length<=2):(∀lo hi head,xe o lo hi head=false)/\BG o=false:=by
 refine⟨λlo hi head=>?_,?_⟩
 · unfold xe;rw[beq_eq_false_iff_ne.2 (by omega),Bool.false_and]
 · unfold BG;rw[dF (by omega),Bool.false_and]
theorem Mk {x y z:Int} {t:List Int} (h:¬(x=1/\y=3/\z=1)):(∀lo hi head,xe (x::y::z::t) lo hi head=false)/\BG (x::y::z::t)=false:=by
 refine⟨λlo hi head=>?_,?_⟩
 · unfold xe;have:((x::y::z::t).take (head.length+3)==[1,3,1]++head)=false:=by
    rw[bF];intro e;rw[take_succ_cons,take_succ_cons,take_succ_cons]at e;simp at e;exact h ⟨e.1,e.2.1,e.2.2.1⟩
   rw[this,Bool.false_and,Bool.and_false]
 · unfold BG;have:((x::y::z::t).take 3==[1,3,1])=false:=by
    rw[bF];intro e;simp at e;exact h e
   rw[this,Bool.and_false]
theorem RC (t:List Int) (lo hi c:Int):xe (1::3::1::t) lo hi [c]=match t with | [a,x]=>a==c&&uE x lo hi|_=>false:=by
 match t with
 | []=>simp[xe]
 | [a]=>simp[xe]
 | [a,x]=>simp[xe]
 | a::x::y::t=>simp[xe]
theorem RD (t:List Int) (lo hi c d:Int):xe (1::3::1::t) lo hi [c,d]=match t with | [a,b,x]=>(a==c&&b==d)&&uE x lo hi|_=>false:=by
 match t with
 | []=>simp[xe]
 | [a]=>simp[xe]
 | [a,x]=>simp[xe]
 | [a,b,x]=>simp[xe]
 | a::b::x::y::t=>simp[xe]
theorem RE (t:List Int):BG (1::3::1::t)=decide (0<t.length):=by
 unfold BG;rw[show ((1::3::1::t).take 3==[1,3,1])=true from rfl,Bool.and_true];simp
theorem Tb (c:Int):uE c 1 1=(c==1):=by
 unfold uE;by_cases h:c=1
 · subst h;rfl
 · rw[beq_eq_false_iff_ne.2 h];simp only[Bool.and_eq_false_iff,decide_eq_false_iff_not];omega
theorem Qn {b:uz} (h:yE b) (o:List Int):Mj b o=GK b o:=by
 unfold Mj GK
 match o with
 | []=>simp only[(zQ (o:=[]) (by simp)).1,(zQ (o:=[]) (by simp)).2];rfl
 | [x]=>simp only[(zQ (o:=[x]) (by simp)).1,(zQ (o:=[x]) (by simp)).2];rfl
 | [x,y]=>simp only[(zQ (o:=[x,y]) (by simp)).1,(zQ (o:=[x,y]) (by simp)).2];rfl
 | x::y::z::t =>
  by_cases h3:x=1/\y=3/\z=1
  · obtain⟨rfl,rfl,rfl⟩:=h3;simp only[RC,RD,RE,Tb]
    match t with
    | []=>rfl
    | [a]=>simp
    | [a,c]=>simp
    | [a,c,p] =>
     have hp:decide (wP (yY b) p>=0)=true->uE p 1 99=true:=by
      intro e;obtain⟨k,hk,_,e2⟩:=Bw (of_decide_eq_true e);rw[←e2];exact h.i _ (getElem_mem hk)
     have e5:(1::3::1::[a,c,p])[5]?=some p:=rfl;rw[e5];rw[show decide (0<[a,c,p].length)=true from rfl,Bool.true_and];show (((false:Bool)||((((a==2)&&(c==2))&&uE p 1 (xS b))||((((a==2)&&(c==4))&&uE p 1 (xS b))||((((a==3)&&(c==1))&&uE p 1 99)||(((((a==3)&&(c==2))&&uE p 1 99)||(((a==3)&&(c==3))&&uE p 1 99))&&decide (wP (yY b) p>=0)))))))=((a==2)&&(((c==2)||(c==4))&&uE p 1 (xS b))||(a==3)&&((c==1)&&uE p 1 99||((c==2)||(c==3))&&decide (wP (yY b) p>=0)))
     revert hp
     generalize (a==2)=a2;generalize (a==3)=a3;generalize (c==1)=c1;generalize (c==2)=c2;generalize (c==3)=c3;generalize (c==4)=c4;generalize uE p 1 (xS b)=pn;generalize uE p 1 99=pg;generalize decide (wP (yY b) p>=0)=R;clear e5
     revert a2 a3 c1 c2 c3 c4 pn pg R
     decide
    | a::c::p::q::l=>simp
  · simp only[(Mk (t:=t) h3).1,(Mk (t:=t) h3).2];rfl
theorem NE {b:uz} (h:yE b) (o:List Int):IV b o=HA b o:=by
 unfold IV HA
 match o with
 | []=>simp only[(zQ (o:=[]) (by simp)).1,(zQ (o:=[]) (by simp)).2];rfl
 | [x]=>simp only[(zQ (o:=[x]) (by simp)).1,(zQ (o:=[x]) (by simp)).2];rfl
 | [x,y]=>simp only[(zQ (o:=[x,y]) (by simp)).1,(zQ (o:=[x,y]) (by simp)).2];rfl
 | x::y::z::t =>
  by_cases h3:x=1/\y=3/\z=1
  · obtain⟨rfl,rfl,rfl⟩:=h3;simp only[RC,RD,RE,Tb]
    match t with
    | []=>rfl
    | [a]=>simp
    | [a,c]=>simp
    | [a,c,p] =>
     have e7:((1::3::1::[a,c,p]).length==7)=false:=rfl;rw[e7,Bool.false_and,Bool.false_and,Bool.false_or];show ((a==2&&c==1)&&uE p 1 (xS b)||((a==2&&c==3)&&uE p 1 (xS b)||false))=(true&&(a==2&&((c==1||c==3)&&uE p 1 (xS b))))
     cases (a==2)<;>cases (c==1)<;>cases (c==3)<;>simp
    | [a,c,p,q]=>simp
    | a::c::p::q::r::l=>simp
  · simp only[(Mk (t:=t) h3).1,(Mk (t:=t) h3).2];rw[Bool.false_or,Bool.false_or,Bool.false_or,Bool.false_and];have:((x::y::z::t).take 5==[1,3,1,4,1])=false:=by
     rw[bF];intro e;simp at e;exact h3 ⟨e.1,e.2.1,e.2.2.1⟩
    rw[this,Bool.and_false,Bool.false_and]
def wz (r:uQ):Bool->List uQ->List uQ
 | false,[]=>[r]
 | true,[]=>[]
 | false,x::t=>if x.1>=r.1 then r::(if x.1 != r.1 then x::wz r true t else wz r true t)else x::wz r false t
 | true,x::t=>if x.1 != r.1 then x::wz r true t else wz r true t
theorem Dt {r:uQ}:∀{l:List uQ},(∀x∈l,x.1≠r.1)->wz r true l=l
 | [],_=>rfl
 | x::t,h=>by
  unfold wz;rw[if_pos (bne_iff_ne.2 (h x (by simp))),Dt λy hy=>h y (mem_cons_of_mem _ hy)]
theorem GL {r:uQ}:∀{l:List uQ} {k:Nat} (hk:k<l.length),l.Pairwise (λr s=>r.1<s.1)->l[k].1=r.1->wz r false l=l.set k r
 | x::t,0,_,hp,e=>by
  have e':x.1=r.1:=e;unfold wz;rw[if_pos (by omega),if_neg (by simp[e']),Dt λy hy=>by have:=(pairwise_cons.1 hp).1 y hy;omega];rfl
 | x::t,k+1,hk,hp,e=>by
  have e':(t[k]'(by simpa using hk)).1=r.1:=e;have:=(pairwise_cons.1 hp).1 _ (getElem_mem (by simpa using hk:k<t.length))
  unfold wz;rw[if_neg (by omega),GL (by simpa using hk) (pairwise_cons.1 hp).2 e'];rfl
theorem KW {r:uQ}:∀{l:List uQ} {d:Nat},l.Pairwise (λr s=>r.1<s.1)->(∀x∈l,x.1≠r.1)->(∀x∈l.take d,x.1<=r.1)->(∀x,l[d]?=some x->¬x.1<=r.1)->wz r false l=l.take d++r::l.drop d
 | [],d,_,_,_,_=>by simp[wz]
 | x::t,0,hp,hn,_,h2=>by
  have:=h2 x rfl;unfold wz;rw[if_pos (by omega),if_pos (bne_iff_ne.2 (hn x (by simp))),Dt λy hy=>hn y (mem_cons_of_mem _ hy)];rfl
 | x::t,d+1,hp,hn,h1,h2=>by
  have a1:=h1 x (by simp);have a2:=hn x (by simp)
  unfold wz;rw[if_neg (by omega),KW (d:=d) (pairwise_cons.1 hp).2 (λy hy=>hn y (mem_cons_of_mem _ hy)) (λy hy=>h1 y (by rw[take_succ_cons];exact mem_cons_of_mem _ hy)) (λy hy=>h2 y (by simpa using hy))];rfl
theorem RF {v:vv} (r:uQ) (h1:v.1.length<=1000) (h2:v.2.length<=1000):aG v r=some (wz r false v.1,v.2):=by
 unfold aG;rw[uG (by show 0+v.2.length<=_;omega),an];obtain⟨b,e1,e2⟩:=uS (β:=Bool×List uQ) (step:=λz:Bool×Int×List uQ=>az v r z.1 z.2.1 z.2.2)
  (λk z=>z.2.1=(k:Int)/\z.2.2++wz r z.1 (v.1.drop k)=wz r false v.1/\z.2.2.length<=2*k) v.1.length
  (λz=>z.2++wz r z.1 []=wz r false v.1/\z.2.length<=2000)
  (λk z hk ⟨z1,z2,z3⟩=>by
   obtain⟨dn,i,out⟩:=z;simp only at z1 z2 z3;subst z1;left;have hd:v.1.drop k=v.1[k]::v.1.drop (k+1):=drop_eq_getElem_cons hk
   have hw:uB ((k:Int)+1)=((k+1:Nat):Int):=uL (by omega);have ha:∀(x:uQ),uV out [x]=some (out++[x]):=λx=>uG (by show _+1<=_;omega)
   have hb:∀(x y:uQ),uV (out++[x]) [y]=some (out++[x]++[y]):=λx y=>uG (by simp only[length_append,length_cons,length_nil];omega);rw[hd]at z2;generalize hG:wz r false v.1=G at z2 ⊢;unfold az;simp only[vj (show (k:Int)<(v.1.length:Int) by omega),cT,uO hk,an,ha,hb,hw];cases dn with
   | true =>
    simp only[Bool.not_true,cF,an];unfold wz at z2;cases hq:(v.1[k].1 != r.1)with
    | true =>
     rw[hq]at z2;exact⟨_,rfl,rfl,by simpa using z2,by simp;omega⟩
    | false =>
     rw[hq]at z2;exact⟨_,rfl,rfl,by simpa using z2,by simp;omega⟩
   | false =>
    simp only[Bool.not_false,cT,an];unfold wz at z2;by_cases hg:v.1[k].1>=r.1
    · rw[if_pos hg]at z2;simp only[dT hg,cT];cases hq:(v.1[k].1 != r.1)with
      | true =>
       rw[hq]at z2;exact⟨_,rfl,rfl,by simpa using z2,by simp;omega⟩
      | false =>
       rw[hq]at z2;exact⟨_,rfl,rfl,by simpa using z2,by simp;omega⟩
    · rw[if_neg hg]at z2;simp only[dF hg,cF,bne_iff_ne.2 (show v.1[k].1≠r.1 by omega),cT];exact⟨_,rfl,rfl,by simpa using z2,by simp;omega⟩)
  (λz ⟨z1,z2,z3⟩=>by
   obtain⟨dn,i,out⟩:=z;simp only at z1 z2 z3;subst z1;rw[List.drop_length]at z2;refine⟨(dn,out),?_,z2,by show out.length<=2000;have:out.length<=2*v.1.length:=z3;omega⟩;unfold az;rw[vd (by omega),cF]) (x:=(false,0,[])) ⟨rfl,rfl,by simp⟩
 rw[e1,an];obtain⟨dn,out⟩:=b;simp only at e2 ⊢;cases dn with
 | true =>
  rw[Bool.not_true,cF,←e2.1];simp[wz]
 | false =>
  rw[Bool.not_false,cT,uG (by show _+1<=_;omega),an,←e2.1];rfl
theorem OL {v:vv} (r:uQ) (h1:v.1.length<=1000) (h2:v.2.length<=1000) (hp:v.1.Pairwise λr s=>r.1<s.1):gb v r=some (wz r false v.1,v.2):=by
 unfold gb;have hM:M=1048576:=rfl
 rw[GI ⟨by omega,by omega⟩,an,C2 (by omega),an];by_cases hr:wP v.1 r.1>=0
 · obtain⟨k,hk,e1,e2⟩:=Bw hr;have hx:ix v.1.length (k:Int)=some k:=by unfold ix;rw[if_pos (by omega),if_pos (by omega),Int.toNat_natCast]
   rw[dT hr,cT,e1,hx,an,List.getElem?_eq_getElem hk,an,GL hk hp e2]
 · rw[dF hr,cF];have hn:=Mi (by omega:wP v.1 r.1<0)
   obtain⟨d,e1,k,hk,rfl,e3,e4⟩:=uS (β:=Int) (step:=λz=>iy v r z)
    (λk z=>z=(k:Int)/\∀x∈v.1.take k,x.1<=r.1) v.1.length
    (λz=>∃k:Nat,k<=v.1.length/\z=(k:Int)/\(∀x∈v.1.take k,x.1<=r.1)/\(∀x,v.1[k]?=some x->¬x.1<=r.1))
    (λk z hk ⟨z1,z2⟩=>by
     subst z1;unfold iy;simp only[vj (show (k:Int)<(v.1.length:Int) by omega),cT,uO hk,an];by_cases hq:v.1[k].1<=r.1
     · refine .inl ⟨_,by rw[dT hq,cT],uL (by omega),λx hx=>?_⟩;rw[take_add_one,List.getElem?_eq_getElem hk,mem_append]at hx;rcases hx with hx|hx
       · exact z2 x hx
       · simp at hx;subst hx;exact hq
     · refine .inr ⟨_,by rw[dF hq,cF],k,by omega,rfl,z2,λx hx=>?_⟩;rw[List.getElem?_eq_getElem hk]at hx;cases hx;exact hq)
    (λz ⟨z1,z2⟩=>by
     subst z1;refine⟨(v.1.length:Int),?_,v.1.length,Nat.le_refl _,rfl,z2,λx hx=>?_⟩
     · unfold iy;rw[vd (by omega),cF];rfl
     · rw[List.getElem?_eq_none (Nat.le_refl _)]at hx;cases hx) (x:=0) ⟨rfl,by simp⟩
   rw[e1,an,show (0:Int)=((0:Nat):Int)from rfl,xR (Nat.zero_le _) hk,an,drop_zero];have hl:(v.1.take k).length<=1000:=by rw[length_take];omega
   rw[uG (by simp only[length_nil];omega),an,nil_append,uG (by simp only[length_cons,length_nil];omega),an,xR hk (Nat.le_refl _),an,take_length,uG (by simp only[length_append,length_cons,length_nil,length_drop];omega),an,KW hp hn e3 e4];simp

def RG (b:uz) (m s:Option (uz×Int)):Prop:=∃r,m=some r/\s=some r/\yE r.1/\(r.2≠0->r.1=b)
theorem BH {n a b:Nat} (h1:a<=b) (h2:b<=n):wO n (a:Int) (b:Int)=some (a,b):=by
 unfold wO;rw[if_pos (by omega),if_pos (by omega),if_pos (by omega)];simp
theorem OM {v:vv} (id:Int) (h1:v.1.length<=1000) (h2:v.2.length<=1000) {k:Nat} (hk:k<v.1.length) (e:wP v.1 id=(k:Int)):gd v id=some (v.1.eraseIdx k,v.2):=by
 unfold gd;have hM:M=1048576:=rfl
 have hw:uB ((k:Int)+1)=((k+1:Nat):Int):=uL (by omega);rw[GI ⟨by omega,by omega⟩,an,C2 (by omega),an,e,dT (by omega),cT,hw,show (0:Int)=((0:Nat):Int)from rfl,xR (Nat.zero_le _) (by omega),an,uG (by simp only[length_nil,length_drop,length_take];omega),an,xR (by omega) (Nat.le_refl _),an,uG (by simp only[length_append,length_nil,length_drop,length_take];omega),an,List.eraseIdx_eq_take_drop_succ];simp
theorem I0 {r:uQ} {l:List uQ} (hs:l.Pairwise λr s=>r.1<s.1) (hi:∀x∈l,uE x.1 1 99=true) (hh:∀x∈l,-9223372036854775808<=x.2.2/\x.2.2<=9223372036854775807)
 (ri:uE r.1 1 99=true) (rh:-9223372036854775808<=r.2.2/\r.2.2<=9223372036854775807) :
 (wz r false l).Pairwise (λr s=>r.1<s.1)/\(∀x∈wz r false l,uE x.1 1 99=true)/\(∀x∈wz r false l,-9223372036854775808<=x.2.2/\x.2.2<=9223372036854775807):=by
 have hm:∀{dn:Bool} {l:List uQ},∀x∈wz r dn l,x=r\/x∈l:=by
  intro dn l
  induction l generalizing dn with
  | nil=>intro x hx;cases dn<;>simp[wz]at hx;exact .inl hx
  | cons y t ih =>
   intro x hx;cases dn with
   | true =>
    unfold wz at hx;split at hx
    · rcases mem_cons.1 hx with rfl|hx
      · exact .inr (by simp)
      · rcases ih x hx with e|e
        · exact .inl e
        · exact .inr (mem_cons_of_mem _ e)
    · rcases ih x hx with e|e
      · exact .inl e
      · exact .inr (mem_cons_of_mem _ e)
   | false =>
    unfold wz at hx;split at hx
    · rcases mem_cons.1 hx with rfl|hx
      · exact .inl rfl
      · split at hx
        · rcases mem_cons.1 hx with rfl|hx
          · exact .inr (by simp)
          · rcases ih x hx with e|e
            · exact .inl e
            · exact .inr (mem_cons_of_mem _ e)
        · rcases ih x hx with e|e
          · exact .inl e
          · exact .inr (mem_cons_of_mem _ e)
    · rcases mem_cons.1 hx with rfl|hx
      · exact .inr (by simp)
      · rcases ih x hx with e|e
        · exact .inl e
        · exact .inr (mem_cons_of_mem _ e)
 have hp:∀{l:List uQ},l.Pairwise (λr s=>r.1<s.1)->(wz r false l).Pairwise (λr s=>r.1<s.1):=by
  intro l
  induction l with
  | nil=>intro _;simp[wz]
  | cons y t ih =>
   intro h;have h1:=(pairwise_cons.1 h).1
   have h2:=(pairwise_cons.1 h).2;unfold wz;split
   · next hy =>
     have ht:wz r true t=t:=Dt λz hz=>by have:=h1 z hz;omega
     rw[ht];split
     · next hq =>
       have hq:=bne_iff_ne.1 hq;refine pairwise_cons.2 ⟨λz hz=>?_,h⟩;rcases mem_cons.1 hz with rfl|hz
       · omega
       · have:=h1 z hz;omega
     · next hq =>
       have hq:y.1=r.1:=by simpa using hq
       refine pairwise_cons.2 ⟨λz hz=>?_,h2⟩;have:=h1 z hz;omega
   · next hy =>
     refine pairwise_cons.2 ⟨λz hz=>?_,ih h2⟩;rcases hm z hz with rfl|hz
     · omega
     · exact h1 z hz
 refine⟨hp hs,λx hx=>?_,λx hx=>?_⟩
 · rcases hm x hx with rfl|hx
   · exact ri
   · exact hi x hx
 · rcases hm x hx with rfl|hx
   · exact rh
   · exact hh x hx
theorem ON {r:uQ} {dn:Bool} {l:List uQ}:(wz r dn l).length<=l.length+1:=by
 induction l generalizing dn with
 | nil=>cases dn<;>simp[wz]
 | cons x t ih =>
  have h1:=ih (dn:=true);have h2:=ih (dn:=false)
  have h3:(wz r true t).length<=t.length:=by
   clear ih h1 h2
   induction t with
   | nil=>simp[wz]
   | cons y t ih=>unfold wz;split<;>simp<;>omega
  cases dn<;>unfold wz<;>split<;>(try split)<;>simp<;>omega
theorem yE.rows {b:uz} (h:yE b) {R:List uQ} (h1:R.length<=6) (h2:R.Pairwise λr s=>r.1<s.1) (h3:∀x∈R,uE x.1 1 99=true) (h4:∀x∈R,-9223372036854775808<=x.2.2/\x.2.2<=9223372036854775807) :
 yE (b.1,b.2.1,b.2.2.1,b.2.2.2.1,R,b.2.2.2.2.2.1,b.2.2.2.2.2.2.1,b.2.2.2.2.2.2.2.1,b.2.2.2.2.2.2.2.2.1,b.2.2.2.2.2.2.2.2.2.1,b.2.2.2.2.2.2.2.2.2.2) :=
 ⟨h.id,h.name,h.n1,h.n6,h.p,h.f,h.c,h.q,h1,h2,h3,h4⟩
theorem HB {b:uz} (h:yE b):uE (b.2.2.1.length:Int) 1 6=true:=by
 have h1:=h.n1;have h2:=h.n6
 unfold uE;rw[dT (by omega),dT (by omega)];rfl
theorem Qo {b:uz} (h:yE b) (c id n:Int) (hc:(c=1/\uE id 1 99=true)\/((c=2\/c=3)/\wP (yY b) id>=0)):RG b (iz b c id n) (gG b c id n):=by
 have hv:=h.v;have hq:b.2.2.2.2.2.1.length<=6:=by have:=h.q;have:=h.n6;omega
 have hr:∀(id:Int),aj (b.2.2.2.2.1,b.2.2.2.2.2.1) id=some (wP (yY b) id):=λid=>C2 (v:=(b.2.2.2.2.1,b.2.2.2.2.2.1)) (by show b.2.2.2.2.1.length<_;omega) id;have hrs:∀(id:Int),bp (b.2.2.2.2.1,b.2.2.2.2.2.1) id=some (wP (yY b) id):=hr
 have hw:∀(r:uQ),gb (b.2.2.2.2.1,b.2.2.2.2.2.1) r=some (wz r false b.2.2.2.2.1,b.2.2.2.2.2.1):=λr=>OL (v:=(b.2.2.2.2.1,b.2.2.2.2.2.1)) r (by show b.2.2.2.2.1.length<=_;omega) (by show b.2.2.2.2.2.1.length<=_;omega) h.s;have hws:∀(r:uQ),aG (b.2.2.2.2.1,b.2.2.2.2.2.1) r=some (wz r false b.2.2.2.2.1,b.2.2.2.2.2.1):=λr=>RF (v:=(b.2.2.2.2.1,b.2.2.2.2.2.1)) r (by show b.2.2.2.2.1.length<=_;omega) (by show b.2.2.2.2.2.1.length<=_;omega)
 unfold iz gG;rw[hr,an];by_cases h1:c=1
 · subst h1;have hid:uE id 1 99=true:=by rcases hc with hc|hc;exact hc.2;rcases hc.1 with e|e<;>cases e
   unfold jc;rw[hrs];simp only[show ((1:Int)==1)=true from rfl,cT,an,hw,hws];by_cases hp:wP (yY b) id>=0
   · have hp':¬wP (yY b) id<0:=by omega
     simp only[dT hp,dF hp'];have e4:cond (n==4) (some false) (some false)=some false:=by cases (n==4)<;>rfl
     rw[e4];simp only[an,cF];cases hn:(n==6)with
     | false =>
      simp only[cF,an];exact⟨_,rfl,rfl,h,λ_=>rfl⟩
     | true =>
      obtain⟨k,hk,e1,e2⟩:=Bw hp;simp only[cT,an];have hk':k<b.2.2.2.2.1.length:=hk
      have hw64:uB (wP (yY b) id+1)=((k+1:Nat):Int):=by rw[e1];exact uL (by omega)
      have hwo:gd (b.2.2.2.2.1,b.2.2.2.2.2.1) id=some (b.2.2.2.2.1.eraseIdx k,b.2.2.2.2.2.1):=OM (v:=(b.2.2.2.2.1,b.2.2.2.2.2.1)) id (by show b.2.2.2.2.1.length<=_;omega) (by show b.2.2.2.2.2.1.length<=_;omega) hk e1;have hso:(wO b.2.2.2.2.1.length 0 (wP (yY b) id)).bind (λp=>(uV ([]:List uQ) ((b.2.2.2.2.1.take p.2).drop p.1)).bind λzs47=>(wO b.2.2.2.2.1.length (uB (wP (yY b) id+1)) (b.2.2.2.2.1.length:Int)).bind λp_1=>(uV zs47 ((b.2.2.2.2.1.take p_1.2).drop p_1.1)).bind λzs54=>some ((b.1,b.2.1,b.2.2.1,b.2.2.2.1,zs54,b.2.2.2.2.2.1,b.2.2.2.2.2.2.1,b.2.2.2.2.2.2.2.1,b.2.2.2.2.2.2.2.2.1,b.2.2.2.2.2.2.2.2.2.1,b.2.2.2.2.2.2.2.2.2.2),(0:Int)))
       = some ((b.1,b.2.1,b.2.2.1,b.2.2.2.1,b.2.2.2.2.1.eraseIdx k,b.2.2.2.2.2.1,b.2.2.2.2.2.2.1,b.2.2.2.2.2.2.2.1,b.2.2.2.2.2.2.2.2.1,b.2.2.2.2.2.2.2.2.2.1,b.2.2.2.2.2.2.2.2.2.2),0):=by
       rw[hw64,e1,show (0:Int)=((0:Nat):Int)from rfl,BH (Nat.zero_le _) (by omega),an,uG (by simp only[length_nil,length_drop,length_take];omega),an,BH (by omega) (Nat.le_refl _),an,uG (by simp only[length_append,length_nil,length_drop,length_take];omega),an,List.eraseIdx_eq_take_drop_succ];simp
      rw[hwo];refine⟨_,rfl,by rw[hso];rfl,h.rows ?_ ?_ ?_ ?_,λe=>absurd rfl e⟩
      · rw[List.length_eraseIdx];split<;>omega
      · exact h.s.sublist (List.eraseIdx_sublist _ _)
      · exact λx hx=>h.i x (List.mem_of_mem_eraseIdx hx)
      · exact λx hx=>h.h x (List.mem_of_mem_eraseIdx hx)
   · have hp':wP (yY b) id<0:=by omega
     simp only[dF hp,dT hp'];have e6:cond (n==6) (some false) (some false)=some false:=by cases (n==6)<;>rfl
     rw[e6];cases hn:(n==4)with
     | false =>
      simp only[cF,an];exact⟨_,rfl,rfl,h,λ_=>rfl⟩
     | true =>
      simp only[cT,an];by_cases h6:(b.2.2.2.2.1.length:Int)<6
      · simp only[dT h6,cT];obtain⟨g1,g2,g3⟩:=I0 (r:=(id,0,0)) h.s h.i h.h hid ⟨by show (-9223372036854775808:Int)<=0;decide,by show (0:Int)<=9223372036854775807;decide⟩;have:=ON (r:=(id,0,0)) (dn:=false) (l:=b.2.2.2.2.1)
        exact⟨_,rfl,rfl,h.rows (by omega) g1 g2 g3,λe=>absurd rfl e⟩
      · simp only[dF h6,cF,an];exact⟨_,rfl,rfl,h,λ_=>rfl⟩
 · have h23:c=2\/c=3:=by rcases hc with hc|hc;exact absurd hc.1 h1;exact hc.1
   have hp:wP (yY b) id>=0:=by rcases hc with hc|hc;exact absurd hc.1 h1;exact hc.2
   obtain⟨k,hk,e1,e2⟩:=Bw hp;have hk':k<b.2.2.2.2.1.length:=hk
   obtain⟨t,q1,q2⟩:=M3 (HB h);rw[show (c==1)=false from beq_eq_false_iff_ne.2 h1];simp only[cF,Iz (HB h),q1,an,xU,Al,q2];cases hn:uE n 0 (wW (b.2.2.1.length:Int))with
   | false=>exact⟨_,rfl,rfl,h,λ_=>rfl⟩
   | true =>
    have ht:=(IT (HB h)).2;have hnr:-9223372036854775808<=n/\n<=9223372036854775807:=by
     unfold uE at hn;simp only[aT,decide_eq_true_eq]at hn;omega
    have hx:ix b.2.2.2.2.1.length (k:Int)=some k:=xh hk';rw[hrs];simp only[Bool.not_true,cF,an,e1,hx,List.getElem?_eq_getElem hk',hws];have hin:∀(r:uQ),r.1=b.2.2.2.2.1[k].1->wz r false b.2.2.2.2.1=b.2.2.2.2.1.set k r:=λr e=>GL hk' h.s e.symm
    have hki:=h.i _ (getElem_mem hk');have hkh:=h.h _ (getElem_mem hk')
    have hlen:∀(r:uQ),r.1=b.2.2.2.2.1[k].1->(wz r false b.2.2.2.2.1).length<=6:=λr e=>by rw[hin r e,length_set];exact hv
    rcases h23 with rfl|rfl
    · simp only[show ((2:Int)==2)=true from rfl,cT];obtain⟨g1,g2,g3⟩:=I0 (r:=(b.2.2.2.2.1[k].1,n,b.2.2.2.2.1[k].2.2)) h.s h.i h.h hki hkh;refine⟨_,rfl,?_,?_,λe=>absurd rfl e⟩
      · rw[hin (b.2.2.2.2.1[k].1,n,b.2.2.2.2.1[k].2.2) rfl]
      · rw[←hin (b.2.2.2.2.1[k].1,n,b.2.2.2.2.1[k].2.2) rfl];exact h.rows (hlen _ rfl) g1 g2 g3
    · simp only[show ((3:Int)==2)=false from rfl,cF];obtain⟨g1,g2,g3⟩:=I0 (r:=(b.2.2.2.2.1[k].1,b.2.2.2.2.1[k].2.1,n)) h.s h.i h.h hki hnr;refine⟨_,rfl,?_,?_,λe=>absurd rfl e⟩
      · rw[hin (b.2.2.2.2.1[k].1,b.2.2.2.2.1[k].2.1,n) rfl]
      · rw[←hin (b.2.2.2.2.1[k].1,b.2.2.2.2.1[k].2.1,n) rfl];exact h.rows (hlen _ rfl) g1 g2 g3
theorem NF {b:uz} {o:List Int} (h:GK b o=true):o=[1,3,1,1,1]\/(∃c p,o=[1,3,1,2,c,p]/\(c=2\/c=4)/\uE p 1 (xS b)=true)\/(∃c p,o=[1,3,1,3,c,p]/\((c=1/\uE p 1 99=true)\/((c=2\/c=3)/\wP (yY b) p>=0))):=by
 unfold GK at h;rw[aT]at h;obtain⟨h1,h2⟩:=h;unfold BG at h1;simp only[aT,decide_eq_true_eq,beq_iff_eq]at h1;have ho:o=[1,3,1]++o.drop 3:=by rw[←h1.2,List.take_append_drop]
 match hd:o.drop 3,h2 with
 | [a,c],h2 =>
  simp only[aT,beq_iff_eq]at h2;rw[hd]at ho;exact .inl (by rw[ho,h2.1,h2.2];rfl)
 | [a,c,p],h2 =>
  rw[hd]at ho;simp only[Bool.or_eq_true,aT,beq_iff_eq,decide_eq_true_eq]at h2;rcases h2 with ⟨rfl,h3,h4⟩|⟨rfl,h3⟩
  · exact .inr (.inl ⟨c,p,ho,h3,h4⟩)
  · exact .inr (.inr ⟨c,p,ho,h3⟩)
theorem RH {b:uz} {p:Int} (h:uE p 1 (xS b)=true) (hn:b.2.2.1.length<=6):∃k,k<b.2.2.1.length/\uB (p-1)=(k:Int):=by
 unfold uE xS at h;simp only[aT,decide_eq_true_eq]at h;exact⟨(p-1).toNat,by omega,by rw[uX (by omega) (by omega)];omega⟩
theorem Qp {p:Pt} {n:Int} (hn:uE n 1 1000=true) (h:zl p=true):zl (p.1,n,p.2.2.1,p.2.2.2.1,p.2.2.2.2.1,p.2.2.2.2.2.1,p.2.2.2.2.2.2.1,p.2.2.2.2.2.2.2)=true:=by
 unfold zl at h ⊢;rw[aT]at h ⊢;exact⟨hn,h.2⟩
theorem RI {b:uz} (h:yE b) {x:uC} (hx:x.1.length<=M):RG b (du b x) (ft b x):=by
 unfold du ft;rw[TK h.le hx,an,xp h.le,an,TL h.le hx,an,Qn h];cases hm:GK b x.1 with
 | false =>
  rw[cF,Bool.not_false,cT,SQ h.le hx,SR h.le hx,an,an,NE h];cases HA b x.1 with
  | true=>exact⟨_,rfl,rfl,h,λ_=>rfl⟩
  | false=>exact⟨_,rfl,rfl,h,λ_=>rfl⟩
 | true =>
  obtain⟨o,kd,n,w,vo⟩:=x;rw[cT,Bool.not_true,cF];simp only;unfold jo;rcases NF hm with ho|⟨c,p,ho,hc,hp⟩|⟨c,p,ho,hc⟩
  · simp only at ho;subst ho;rw[show at? [1,3,1,1,1] 3=some (1:Int)from rfl,show cut [1,3,1,1,1] 3 (([1,3,1,1,1]:List Int).length:Int)=some ([1,1]:List Int)from rfl];simp only[an,show at? [1,1] 0=some (1:Int)from rfl,show ((1:Int)==1)=true from rfl,cT,Bool.not_true,cF];cases (kd != 4)with
    | true=>exact⟨_,rfl,rfl,h,λ_=>rfl⟩
    | false =>
     simp only[cF,an];by_cases hw:(w.length:Int)>10
     · simp only[dT hw,cT];exact⟨_,rfl,rfl,h,λ_=>rfl⟩
     · simp only[dF hw,cF];exact⟨_,rfl,rfl,⟨h.id,by show w.length<=10;omega,h.n1,h.n6,h.p,h.f,h.c,h.q,h.v,h.s,h.i,h.h⟩,λe=>absurd rfl e⟩
  · simp only at ho;subst ho;rw[show at? [1,3,1,2,c,p] 3=some (2:Int)from rfl,show at? [1,3,1,2,c,p] 4=some c from rfl,show at? [1,3,1,2,c,p] 5=some p from rfl,show cut [1,3,1,2,c,p] 3 (([1,3,1,2,c,p]:List Int).length:Int)=some ([2,c,p]:List Int)from rfl];simp only[an,show at? [2,c,p] 0=some (2:Int)from rfl,show at? [2,c,p] 1=some c from rfl,show at? [2,c,p] 2=some p from rfl,show ((2:Int)==1)=false from rfl,show ((2:Int)==2)=true from rfl,show ((2:Int)==3)=false from rfl,cT,Bool.not_false,cF];cases (kd != 2)with
    | true=>exact⟨_,rfl,rfl,h,λ_=>rfl⟩
    | false =>
     obtain⟨k,hk,ek⟩:=RH hp h.n6;simp only[cF,an,ek];unfold jb;have hx1:ix b.2.2.1.length (k:Int)=some k:=xh hk
     have hx2:ix b.2.2.2.2.2.1.length (k:Int)=some k:=xh (by rw[h.q];exact hk);have hk2:k<b.2.2.2.2.2.1.length:=by rw[h.q];exact hk
     simp only[xU,Al,an,hx1,hx2,List.getElem?_eq_getElem hk,List.getElem?_eq_getElem hk2];rcases hc with rfl|rfl
     · simp only[show ((2:Int)==2)=true from rfl,cT];cases hn:uE n 1 1000 with
       | false=>exact⟨_,rfl,rfl,h,λ_=>rfl⟩
       | true =>
        exact⟨_,rfl,rfl,⟨h.id,h.name,by simp only[length_set];exact h.n1,by simp only[length_set];exact h.n6,λy hy=>by
         rcases List.mem_or_eq_of_mem_set hy with e|rfl
         · exact h.p y e
         · exact Qp hn (h.p _ (getElem_mem hk)),h.f,h.c,by simp only[length_set];exact h.q,h.v,h.s,h.i,h.h⟩,λe=>absurd rfl e⟩
     · simp only[show ((4:Int)==2)=false from rfl,cF];exact⟨_,rfl,rfl,⟨h.id,h.name,h.n1,h.n6,h.p,h.f,h.c,by simp only[length_set];exact h.q,h.v,h.s,h.i,h.h⟩,λe=>absurd rfl e⟩
  · simp only at ho;subst ho;rw[show at? [1,3,1,3,c,p] 3=some (3:Int)from rfl,show at? [1,3,1,3,c,p] 4=some c from rfl,show at? [1,3,1,3,c,p] 5=some p from rfl,show cut [1,3,1,3,c,p] 3 (([1,3,1,3,c,p]:List Int).length:Int)=some ([3,c,p]:List Int)from rfl];simp only[an,show at? [3,c,p] 0=some (3:Int)from rfl,show at? [3,c,p] 1=some c from rfl,show at? [3,c,p] 2=some p from rfl,show ((3:Int)==1)=false from rfl,show ((3:Int)==2)=false from rfl,show ((3:Int)==3)=true from rfl,cT,Bool.not_false,cF];cases (kd != 2)with
    | true=>exact⟨_,rfl,rfl,h,λ_=>rfl⟩
    | false =>
     simp only[cF,an];obtain⟨r,r1,r2,r3,r4⟩:=Qo h c p n hc;exact⟨r,by rw[r1];rfl,by rw[r2];rfl,r3,r4⟩

theorem GM {α β:Type} {step t:α->Option (α⊕β)} (vu:Nat->α->Prop) (m:Nat) (R:β->Prop)
 (h:∀k x,k<m->vu k x->(∃y,step x=some (.inl y)/\t x=some (.inl y)/\vu (k+1) y)\/∃b,step x=some (.inr b)/\t x=some (.inr b)/\R b)
 (he:∀x,vu m x->∃b,step x=some (.inr b)/\t x=some (.inr b)/\R b) {x:α} (h0:vu 0 x):∃b,loop step x=some b/\loop t x=some b/\R b:=by
 have key:∀n k x,k+n=m->vu k x->∃b,yn step (n+1) x=some b/\yn t (n+1) x=some b/\R b:=by
  intro n
  induction n with
  | zero =>
   intro k x hk hx;obtain rfl:k=m:=by omega
   obtain⟨b,h1,h3,h2⟩:=he x hx;exact⟨b,by rw[wT,h1];rfl,by rw[wT,h3];rfl,h2⟩
  | succ n ih =>
   intro k x hk hx;rcases h k x (by omega) hx with ⟨y,h1,h5,h2⟩|⟨b,h1,h5,h2⟩
   · obtain⟨b,h3,h6,h4⟩:=ih (k+1) y (by omega) h2;exact⟨b,by rw[wT,h1];exact h3,by rw[wT,h5];exact h6,h4⟩
   · exact⟨b,by rw[wT,h1];rfl,by rw[wT,h5];rfl,h2⟩
 obtain⟨b,h1,h3,h2⟩:=key m 0 x (by omega) h0;exact⟨b,zV h1,zV h3,h2⟩
theorem HC {l:List uF} (h:zZ l=true):FB l:=by
 unfold zZ at h;simp only[aT,Bool.not_eq_true',decide_eq_true_eq]at h;refine⟨λx hx=>?_,EG (R:=lt) (λ_ _ _=>lt_trans) λk hk=>?_,by omega⟩
 · obtain⟨k,hk,rfl⟩:=getElem_of_mem hx;have hx:=any_eq_false.1 h.1 k (mem_range.2 hk)
   unfold A3 at hx;simp only[List.getElem?_eq_getElem hk,Bool.or_eq_true,not_or,Bool.not_eq_true',Bool.not_eq_false]at hx;exact hx.1
 · have hx:=any_eq_false.1 h.1 (k+1) (mem_range.2 hk);unfold A3 at hx;simp only[List.getElem?_eq_getElem hk,Nat.add_sub_cancel,List.getElem?_eq_getElem (show k<l.length by omega),Bool.or_eq_true,aT,decide_eq_true_eq,not_or,not_and,Bool.not_eq_true',Bool.not_eq_false]at hx;have hp:=hx.2 (by omega)
   unfold xB at hp;simp only[Bool.or_eq_true,aT,decide_eq_true_eq,beq_iff_eq]at hp;unfold lt;omega
theorem FB.sub {l m:List uF} (h:FB l) (hs:m.Sublist l):FB m :=
 ⟨λx hx=>h.e x (hs.subset hx),h.o.sublist hs,Nat.le_trans hs.length_le h.n⟩
def AO (l:List uF) (p:Int):List uF:=l.filter λe=>e.2.2.2.2||e.2.2.1 != p
theorem HD {l:List uF} (p:Int) (hn:l.length<=1000) (step:Int×List uF->Option ((Int×List uF)⊕List uF))
 (hs:∀k (hk:k<l.length) out,step ((k:Int),out)=cond (l[k].2.2.2.2||l[k].2.2.1 != p) ((uV out [l[k]]).bind λzs=>some (.inl (((k+1:Nat):Int),zs))) (some (.inl (((k+1:Nat):Int),out))))
 (he:∀out,step ((l.length:Int),out)=some (.inr out)):loop step (0,[])=some (AO l p):=by
 obtain⟨b,h1,rfl⟩:=uS (step:=step) (λk z=>z.1=(k:Int)/\z.2=AO (l.take k) p) l.length (λb=>b=AO l p)
  (λk z hk ⟨z1,z2⟩=>by
   obtain⟨i,out⟩:=z;simp only at z1 z2;subst z1 z2;left;have hl:(AO (l.take k) p).length<=k:=by
    have:=(List.filter_sublist (p:=λe:uF=>e.2.2.2.2||e.2.2.1 != p) (l:=l.take k)).length_le;rw[length_take]at this;show (List.filter _ _).length<=k
    omega
   have ht:AO (l.take (k+1)) p=AO (l.take k) p++cond (l[k].2.2.2.2||l[k].2.2.1 != p) [l[k]] []:=by
    unfold AO;rw[take_add_one,List.getElem?_eq_getElem hk,List.filter_append];rw[Option.toList_some,List.filter_cons,List.filter_nil];cases (l[k].2.2.2.2||l[k].2.2.1 != p)<;>rfl
   rw[hs k hk];cases hc:(l[k].2.2.2.2||l[k].2.2.1 != p)with
   | true =>
    rw[hc]at ht;exact⟨_,by rw[cT,uG (by show _+1<=_;omega)];rfl,rfl,by rw[ht];rfl⟩
   | false =>
    rw[hc]at ht;exact⟨_,rfl,rfl,by rw[ht];simp⟩)
  (λz ⟨z1,z2⟩=>by
   obtain⟨i,out⟩:=z;simp only at z1 z2;subst z1 z2;exact⟨_,he _,by rw[take_length]⟩) (x:=(0,[])) ⟨rfl,rfl⟩
 exact h1
theorem RJ {l:List uF} (p:Int) (hn:l.length<=1000):iB l p=some (AO l p):=by
 unfold iB;rw[HD p hn (λz=>eH l p z.1 z.2) (λk hk out=>by
  show eH l p (k:Int) out=_;unfold eH;rw[vj (by omega),cT,uO hk,an,uL (by omega)];cases l[k].2.2.2.2<;>rfl) (λout=>by
  show eH l p (l.length:Int) out=_;unfold eH;rw[vd (by omega),cF])];rfl
theorem Qq {l:List uF} (p:Int) (hn:l.length<=1000):gJ l p=some (AO l p):=by
 unfold gJ;rw[HD p hn (λz=>dQ l p z.1 z.2) (λk hk out=>by
  show dQ l p (k:Int) out=_;unfold dQ;rw[vj (by omega),cT,uO hk,an,an,an,uL (by omega)];cases l[k].2.2.2.2<;>rfl) (λout=>by
  show dQ l p (l.length:Int) out=_;unfold dQ;rw[vd (by omega),cF])];rfl
theorem NG:∀k:Nat,k<6->uE (k:Int) 0 62=true/\uE (k:Int) 0 7=true:=by
 intro k hk;unfold uE;constructor<;>(rw[dT (by omega),dT (by omega)];rfl)
theorem TM (c:Int) {k:Nat} (hk:k<6):∃t,shr .i64 c (k:Int)=some t:=by
 unfold shr;rw[if_neg (by omega)];exact⟨_,rfl⟩
theorem JX (c:Int) {k:Nat} (hk:k<6):∃t,ba c (k:Int)=some t/\gI c (k:Int)=some t:=by
 obtain⟨t,h⟩:=TM c hk;unfold ba gI;rw[xU,Al,an,an,(NG k hk).1,(NG k hk).2,cT,cT,Hs (by omega),h];exact⟨_,rfl,rfl⟩
theorem IW {n:Int} (h:uE n 0 1000000=true):∃r,aD n=some r/\bm n=some r/\uE r 0 1000000=true:=by
 unfold uE at h;simp only[aT,decide_eq_true_eq]at h;unfold aD bm uE min2;rw[uX (by omega) (by omega)];by_cases hn:n>=1000000
 · rw[dT hn,cT];refine⟨n,?_,rfl,?_⟩
   · simp only;split<;>first|rfl | (congr 1;omega)
   · simp only[aT,decide_eq_true_eq];omega
 · rw[dF hn,cF];refine⟨n+1,?_,rfl,?_⟩
   · simp only;split<;>first|rfl | (congr 1;omega)
   · simp only[aT,decide_eq_true_eq];omega
theorem yE.ok {b:uz} (h:yE b) (hv:xI (b.2.2.2.2.1,b.2.2.2.2.2.1) (b.2.2.1.length:Int)=true):vk b=true:=by
 unfold vk;have h1:(List.range b.2.2.1.length).any (CZ b.2.2.1)=false:=by
  rw[any_eq_false];intro k hk;have hk:=mem_range.1 hk
  unfold CZ;simp[List.getElem?_eq_getElem hk,h.p _ (getElem_mem hk)]
 have h2:=h.name;rw[h1,h.id,h.f,hv,h.c,HB h,dF (show ¬(b.2.1.length:Int)>10 by omega)];rfl
theorem Pk {b:uz} (h:yE b):∃r,aM b=some r/\ca b=some r/\yE r/\r.2.2.1=b.2.2.1/\r.2.2.2.2.1=b.2.2.2.2.1/\r.2.2.2.2.2.1=b.2.2.2.2.2.1/\r.1=b.1/\r.2.1=b.2.1/\r.2.2.2.2.2.2.1=b.2.2.2.2.2.2.1/\r.2.2.2.2.2.2.2.1=b.2.2.2.2.2.2.2.1/\r.2.2.2.2.2.2.2.2.1=b.2.2.2.2.2.2.2.2.1/\r.2.2.2.2.2.2.2.2.2.1=b.2.2.2.2.2.2.2.2.2.1/\aD b.2.2.2.2.2.2.2.2.2.2=some r.2.2.2.2.2.2.2.2.2.2:=by
 have n6:=h.n6;have hc:=h.c
 unfold xa at hc;simp only[aT]at hc;obtain⟨v,v1,v2,v3⟩:=IW hc.2.2.2.2;obtain⟨c,_,c1,c2⟩:=Nu b.1 (l:=b.2.2.1) (by omega);unfold aM ca;rw[v1,v2,c1,c2];simp only[an];have hF:=HC h.f
 obtain⟨d,d1,d2,F,hf,rfl⟩:=GM (step:=λz:Int×Int×List UInt8×Int×Int×Int×Int×Int×List uF=>iC b (c:Int) z.1 z.2.1 z.2.2.1 z.2.2.2.1 z.2.2.2.2.1 z.2.2.2.2.2.1 z.2.2.2.2.2.2.1 z.2.2.2.2.2.2.2.1 z.2.2.2.2.2.2.2.2)
  (t:=λz:Int×Int×List UInt8×Int×Int×Int×Int×Int×List uF=>gK b (c:Int) z.1 z.2.1 z.2.2.1 z.2.2.2.1 z.2.2.2.2.1 z.2.2.2.2.2.1 z.2.2.2.2.2.2.1 z.2.2.2.2.2.2.2.1 z.2.2.2.2.2.2.2.2)
  (λk z=>∃F:List uF,F.Sublist b.2.2.2.1/\z=((k:Int),b.1,b.2.1,b.2.2.2.2.2.2.1,b.2.2.2.2.2.2.2.1,b.2.2.2.2.2.2.2.2.1,b.2.2.2.2.2.2.2.2.2.1,v,F)) b.2.2.1.length
  (λd=>∃F:List uF,F.Sublist b.2.2.2.1/\d=(b.1,b.2.1,b.2.2.2.2.2.2.1,b.2.2.2.2.2.2.2.1,b.2.2.2.2.2.2.2.2.1,b.2.2.2.2.2.2.2.2.2.1,v,F))
  (λk z hk ⟨F,hf,e⟩=>by
   subst e;left;obtain⟨t,t1,t2⟩:=JX (c:Int) (show k<6 by omega);have hl:F.length<=1000:=by have:=hf.length_le;have:=hF.n;omega
   simp only;unfold iC gK;rw[vj (show (k:Int)<(b.2.2.1.length:Int) by omega),cT,cT,t1,t2,an,an,RJ _ hl,Qq _ hl,uL (show k<9223372036854775807 by omega)];cases t with
   | true=>exact⟨_,rfl,rfl,F,hf,rfl⟩
   | false=>exact⟨_,rfl,rfl,AO F (k:Int),List.Sublist.trans List.filter_sublist hf,rfl⟩)
  (λz ⟨F,hf,e⟩=>by
   subst e;simp only;unfold iC gK;rw[vd (show ¬(b.2.2.1.length:Int)<(b.2.2.1.length:Int) by omega),cF,cF];exact⟨_,rfl,rfl,F,hf,rfl⟩) (x:=(0,b.1,b.2.1,b.2.2.2.2.2.2.1,b.2.2.2.2.2.2.2.1,b.2.2.2.2.2.2.2.2.1,b.2.2.2.2.2.2.2.2.2.1,v,b.2.2.2.1)) ⟨_,List.Sublist.refl _,rfl⟩
 rw[d1,d2];refine⟨_,rfl,rfl,⟨h.id,h.name,h.n1,h.n6,h.p,(hF.sub hf).ok,?_,h.q,h.v,h.s,h.i,h.h⟩,rfl,rfl,rfl,rfl,rfl,rfl,rfl,rfl,rfl,rfl⟩;unfold xa;simp only[aT];exact⟨hc.1,hc.2.1,hc.2.2.1,hc.2.2.2.1,v3⟩
theorem Pl {b:uz} (h:yE b):∃r,aM b=some r/\ca b=some r/\yE r/\r.2.2.1=b.2.2.1/\r.2.2.2.2.1=b.2.2.2.2.1/\r.2.2.2.2.2.1=b.2.2.2.2.2.1:=by
 obtain⟨r,h1,h2,h3,h4,h5,h6,_⟩:=Pk h;exact⟨r,h1,h2,h3,h4,h5,h6⟩
theorem OO {α:Type} [BEq α] [LawfulBEq α] (a b:α):(a==b)=(b==a):=by
 by_cases h:a=b
 · subst h;rfl
 · rw[beq_eq_false_iff_ne.2 h,beq_eq_false_iff_ne.2 (Ne.symm h)]

abbrev RK:=Int×Int×Int×List UInt8×Int×Int×Int×Int×Int×List Pt×List uF×List uQ×List Int
abbrev Td:=Int×List UInt8×Int×Int×Int×Int×Int
def RL (c k:Int) (b:uz):RK:=(c,k,b.1,b.2.1,b.2.2.2.2.2.2.1,b.2.2.2.2.2.2.2.1,b.2.2.2.2.2.2.2.2.1,b.2.2.2.2.2.2.2.2.2.1,b.2.2.2.2.2.2.2.2.2.2,b.2.2.1,b.2.2.2.1,b.2.2.2.2.1,b.2.2.2.2.2.1)
theorem RM {b:uz} (hb:yz M b) {l:List uC} (hl:Ca M l) {k:Nat} (hk:k<l.length) (s:Td) :
 ∃r:Td⊕RK,loop (λz=>gg b (k:Int) l[k] (l.take k) z.1 z.2.1 z.2.2.1 z.2.2.2.1 z.2.2.2.2.1 z.2.2.2.2.2.1 z.2.2.2.2.2.2.1 z.2.2.2.2.2.2.2) (0,s)=some r
  /\ loop (λz=>fv b l (k:Int) z.1 z.2.1 z.2.2.1 z.2.2.2.1 z.2.2.2.2.1 z.2.2.2.2.2.1 z.2.2.2.2.2.2.1 z.2.2.2.2.2.2.2) (0,s)=some r/\((r=.inl s/\∀j (hj:j<k),l[j].1≠l[k].1)\/(r=.inr (RL 5 ((k+1:Nat):Int) b)/\∃j,∃hj:j<k,l[j].1=l[k].1)):=by
 obtain⟨a0,a1,a6,a7,a8,a9,a10⟩:=s;have hn:l.length<=1048576:=hl.1
 refine GM (λj z=>z=((j:Int),a0,a1,a6,a7,a8,a9,a10)/\∀i (hi:i<k),i<j->l[i].1≠l[k].1) k _ (λj z hj ⟨e,hne⟩=>?_) (λz ⟨e,hne⟩=>?_) ⟨rfl,λi _ hi=>absurd hi (Nat.not_lt_zero _)⟩
 · subst e;have ht:j<(l.take k).length:=by rw[length_take];omega
   have hg:(l.take k)[j]=l[j]:=List.getElem_take;have hw:∀i,i<l.length->∀(hi:i<l.length),l[i].1.length<9223372036854775807:=λi h1 h2=>by have:l[i].1.length<=1048576:=(hl.2 _ (getElem_mem h2)).1;omega
   have s1:ay l[k].1 l[j].1=some (l[k].1==l[j].1):=Bu (hw j (by omega) (by omega));have s2:cN l[j].1 l[k].1=some (l[k].1==l[j].1):=by rw[OO];exact Bu (hw k hk hk)
   simp only;unfold gg fv;rw[vj (show (j:Int)<((l.take k).length:Int) by omega),vj (show (j:Int)<(k:Int) by omega),cT,cT,uO ht,hg,uO (show j<l.length by omega),uO hk];simp only[an,s1,s2];cases hb2:(l[k].1==l[j].1)with
   | true =>
    right;rw[wl hb,xp hb];exact⟨_,rfl,by rw[uL (show k<9223372036854775807 by omega)];rfl,.inr ⟨by rw[uL (show k<9223372036854775807 by omega)];rfl,j,hj,(beq_iff_eq.1 hb2).symm⟩⟩
   | false =>
    left;refine⟨_,rfl,rfl,by rw[uL (show j<9223372036854775807 by omega)],λi hi hij=>?_⟩;by_cases e:i=j
    · subst e;exact λe=>(beq_eq_false_iff_ne.1 hb2) e.symm
    · exact hne i hi (by omega)
 · subst e;have ht:(l.take k).length=k:=by rw[length_take];omega
   refine⟨.inl (a0,a1,a6,a7,a8,a9,a10),?_,?_,.inl ⟨rfl,λj hj=>hne j hj hj⟩⟩
   · show gg b _ _ _ _ _ _ _ _ _ _ _=_;unfold gg;rw[ht,vd (by omega),cF]
   · show fv b _ _ _ _ _ _ _ _ _ _=_;unfold fv;rw[vd (by omega),cF]
theorem ve {α β:Type} {step:α->Option (α⊕β)} {x:α} {b:β} (h:step x=some (.inr b)):loop step x=some b:=zV (k:=1) (by rw[wT,h];rfl)
inductive Du (b:uz):List uC->uz->Prop
 | nil:Du b [] b
 | snoc {l:List uC} {y y':uz} {x:uC}:Du b l y->yE y->du y x=some (y',0)->Du b (l++[x]) y'
def Pm (b:uz) (l:List uC) (c:Int):Prop:=(vk b=false/\c=3)\/(∃k y,∃hk:k<l.length,Du b (l.take k) y/\yE y/\(((∃j,∃hj:j<k,l[j].1=l[k].1)/\c=5)\/∃y',du y l[k]=some (y',c)))\/∃y,Du b l y/\c=5
theorem I1 {b:uz} (h:xt b) (hb:yz M b) {l:List uC} (hl:Ca M l):∃r,eI b l=some r/\gM b l=some r/\yz M r.1/\(vk b=true->yE r.1/\vk r.1=true)/\((r.2.1=0/\r.2.2=0/\((l=[]/\r.1=b)\/∃y,Du b l y/\yE y/\(∀i (hi:i<l.length),∀j (hj:j<i),l[j].1≠l[i].1)/\aM y=some r.1))\/(r.1=b/\r.2.1≠0/\1<=r.2.2/\r.2.2<=(l.length:Int)/\Pm b l r.2.1)):=by
 have hn:l.length<=1048576:=hl.1;unfold eI gM;rw[wl hb,xp hb,yQ h,AD h];simp only[an];by_cases h0:l=[]
 · subst h0;have e1:decide ((([]:List uC).length:Int)>0)=false:=rfl
   have e2:((([]:List uC).length:Int)==0)=true:=rfl;have e3:cond (!vk b) (some false) (some false)=some false:=by cases vk b<;>rfl
   rw[e1,e2,e3,cT];simp only[an,cF];refine⟨_,rfl,(congrArg (λo=>Option.bind o _) (ve (b:=.inl (0,[],0,0,0,0,0,b.1,b.2.1,b.2.2.2.2.2.2.1,b.2.2.2.2.2.2.2.1,b.2.2.2.2.2.2.2.2.1,b.2.2.2.2.2.2.2.2.2.1,b.2.2.2.2.2.2.2.2.2.2,[],[],[],[],b.2.2.1,b.2.2.2.1,b.2.2.2.2.1,b.2.2.2.2.2.1)) rfl)).trans rfl,hb,λhp=>⟨(By h hp).sok,hp⟩,.inl ⟨rfl,rfl,.inl ⟨by first|trivial|rfl,rfl⟩⟩⟩
 · have hpos:0<l.length:=List.length_pos_iff.2 h0;rw[show ((l.length:Int)==0)=false from beq_eq_false_iff_ne.2 (by omega),dT (show (l.length:Int)>0 by omega)];cases hp:vk b with
   | false=>exact⟨_,rfl,rfl,hb,λhp=>(by cases hp),.inr ⟨rfl,(by show (3:Int)≠0;decide),by show (1:Int)<=1;decide,by show (1:Int)<=_;omega,.inl ⟨hp,rfl⟩⟩⟩
   | true =>
    have hs0:=(By h hp).sok;simp only[Bool.not_true,cF,an];obtain⟨d,d1,d2,d3⟩:=GM (step:=λz:Int×Int×List UInt8×Int×Int×Int×Int×Int×Int×List UInt8×Int×Int×Int×Int×Int×List Pt×List uF×List uQ×List Int×List Pt×List uF×List uQ×List Int=>iD b l z.1 z.2.1 z.2.2.1 z.2.2.2.1 z.2.2.2.2.1 z.2.2.2.2.2.1 z.2.2.2.2.2.2.1 z.2.2.2.2.2.2.2.1 z.2.2.2.2.2.2.2.2.1 z.2.2.2.2.2.2.2.2.2.1 z.2.2.2.2.2.2.2.2.2.2.1 z.2.2.2.2.2.2.2.2.2.2.2.1 z.2.2.2.2.2.2.2.2.2.2.2.2.1 z.2.2.2.2.2.2.2.2.2.2.2.2.2.1 z.2.2.2.2.2.2.2.2.2.2.2.2.2.2.1 z.2.2.2.2.2.2.2.2.2.2.2.2.2.2.2.1 z.2.2.2.2.2.2.2.2.2.2.2.2.2.2.2.2.1 z.2.2.2.2.2.2.2.2.2.2.2.2.2.2.2.2.2.1 z.2.2.2.2.2.2.2.2.2.2.2.2.2.2.2.2.2.2.1 z.2.2.2.2.2.2.2.2.2.2.2.2.2.2.2.2.2.2.2.1 z.2.2.2.2.2.2.2.2.2.2.2.2.2.2.2.2.2.2.2.2.1 z.2.2.2.2.2.2.2.2.2.2.2.2.2.2.2.2.2.2.2.2.2.1 z.2.2.2.2.2.2.2.2.2.2.2.2.2.2.2.2.2.2.2.2.2.2)
     (t:=λz=>gL b l z.1 z.2.1 z.2.2.1 z.2.2.2.1 z.2.2.2.2.1 z.2.2.2.2.2.1 z.2.2.2.2.2.2.1 z.2.2.2.2.2.2.2.1 z.2.2.2.2.2.2.2.2.1 z.2.2.2.2.2.2.2.2.2.1 z.2.2.2.2.2.2.2.2.2.2.1 z.2.2.2.2.2.2.2.2.2.2.2.1 z.2.2.2.2.2.2.2.2.2.2.2.2.1 z.2.2.2.2.2.2.2.2.2.2.2.2.2.1 z.2.2.2.2.2.2.2.2.2.2.2.2.2.2.1 z.2.2.2.2.2.2.2.2.2.2.2.2.2.2.2.1 z.2.2.2.2.2.2.2.2.2.2.2.2.2.2.2.2.1 z.2.2.2.2.2.2.2.2.2.2.2.2.2.2.2.2.2.1 z.2.2.2.2.2.2.2.2.2.2.2.2.2.2.2.2.2.2.1 z.2.2.2.2.2.2.2.2.2.2.2.2.2.2.2.2.2.2.2.1 z.2.2.2.2.2.2.2.2.2.2.2.2.2.2.2.2.2.2.2.2.1 z.2.2.2.2.2.2.2.2.2.2.2.2.2.2.2.2.2.2.2.2.2.1 z.2.2.2.2.2.2.2.2.2.2.2.2.2.2.2.2.2.2.2.2.2.2)
     (λk z=>∃y:uz,(yE y/\Du b (l.take k) y/\∀i (hi:i<l.length),i<k->∀j (hj:j<i),l[j].1≠l[i].1)/\z=((k:Int),0,[],0,0,0,0,0,y.1,y.2.1,y.2.2.2.2.2.2.1,y.2.2.2.2.2.2.2.1,y.2.2.2.2.2.2.2.2.1,y.2.2.2.2.2.2.2.2.2.1,y.2.2.2.2.2.2.2.2.2.2,[],[],[],[],y.2.2.1,y.2.2.2.1,y.2.2.2.2.1,y.2.2.2.2.2.1)) l.length
     (λd=>(∃y:uz,(yE y/\Du b l y/\∀i (hi:i<l.length),∀j (hj:j<i),l[j].1≠l[i].1)/\d=.inl (0,[],0,0,0,0,0,y.1,y.2.1,y.2.2.2.2.2.2.1,y.2.2.2.2.2.2.2.1,y.2.2.2.2.2.2.2.2.1,y.2.2.2.2.2.2.2.2.2.1,y.2.2.2.2.2.2.2.2.2.2,[],[],[],[],y.2.2.1,y.2.2.2.1,y.2.2.2.2.1,y.2.2.2.2.2.1))\/∃c k:Int,c≠0/\1<=k/\k<=(l.length:Int)/\Pm b l c/\d=.inr (RL c k b))
     (λk z hk ⟨y,⟨hy,hst,hdi⟩,e⟩=>by
      subst e;obtain⟨r,r1,r2,r3⟩:=RM hb hl hk (0,[],0,0,0,0,0);have hc:cut l 0 (k:Int)=some (l.take k):=by rw[show (0:Int)=((0:Nat):Int)from rfl,xR (Nat.zero_le _) (by omega),drop_zero]
      simp only;unfold iD gL;rw[vj (show (k:Int)<(l.length:Int) by omega),cT,cT,uO hk,an,hc,an,r1,r2,an,an];rcases r3 with ⟨rfl,hnd⟩|⟨rfl,hdup⟩
      · obtain⟨q,q1,q2,q3,q4⟩:=RI hy (hl.2 _ (getElem_mem hk)).1;have q1':du (y.1,y.2.1,y.2.2.1,y.2.2.2.1,y.2.2.2.2.1,y.2.2.2.2.2.1,y.2.2.2.2.2.2.1,y.2.2.2.2.2.2.2.1,y.2.2.2.2.2.2.2.2.1,y.2.2.2.2.2.2.2.2.2.1,y.2.2.2.2.2.2.2.2.2.2) l[k]=some q:=q1
        have q2':ft (y.1,y.2.1,y.2.2.1,y.2.2.2.1,y.2.2.2.2.1,y.2.2.2.2.2.1,y.2.2.2.2.2.2.1,y.2.2.2.2.2.2.2.1,y.2.2.2.2.2.2.2.2.1,y.2.2.2.2.2.2.2.2.2.1,y.2.2.2.2.2.2.2.2.2.2) l[k]=some q:=q2;simp only[Sum.elim_inl,an,q1',q2',wl hb,xp hb,uL (show k<9223372036854775807 by omega)];cases hq:(q.2 != 0)with
        | true =>
         right;exact⟨_,rfl,rfl,.inr ⟨q.2,((k+1:Nat):Int),bne_iff_ne.1 hq,by omega,by omega,.inr (.inl ⟨k,y,hk,hst,hy,.inr ⟨q.1,q1⟩⟩),rfl⟩⟩
        | false =>
         left;have hq0:q.2=0:=by simpa using hq
         refine⟨_,rfl,rfl,q.1,⟨q3,?_,λi hi hik j hj=>?_⟩,rfl⟩
         · rw[take_add_one,List.getElem?_eq_getElem hk];exact .snoc hst hy (by rw[q1,←hq0])
         · by_cases e:i=k
           · subst e;exact hnd j hj
           · exact hdi i hi (by omega) j hj
      · right;exact⟨_,rfl,rfl,.inr ⟨5,((k+1:Nat):Int),by decide,by omega,by omega,.inr (.inl ⟨k,y,hk,hst,hy,.inl ⟨hdup,rfl⟩⟩),rfl⟩⟩)
     (λz ⟨y,⟨hy,hst,hdi⟩,e⟩=>by
      subst e;simp only;unfold iD gL;rw[vd (show ¬(l.length:Int)<(l.length:Int) by omega),cF,cF];rw[take_length]at hst;exact⟨_,rfl,rfl,.inl ⟨y,⟨hy,hst,λi hi=>hdi i hi hi⟩,rfl⟩⟩) (x:=(0,0,[],0,0,0,0,0,b.1,b.2.1,b.2.2.2.2.2.2.1,b.2.2.2.2.2.2.2.1,b.2.2.2.2.2.2.2.2.1,b.2.2.2.2.2.2.2.2.2.1,b.2.2.2.2.2.2.2.2.2.2,[],[],[],[],b.2.2.1,b.2.2.2.1,b.2.2.2.2.1,b.2.2.2.2.2.1)) ⟨b,⟨hs0,.nil,λi _ hi=>absurd hi (Nat.not_lt_zero _)⟩,rfl⟩
    rw[d1,d2,an,an];rcases d3 with ⟨y,⟨hy,hst,hdi⟩,rfl⟩|⟨c,k,c0,k1,k2,hfl,rfl⟩
    · have n6:=hy.n6;have v6:=hy.v;have hq:=hy.q
      have t1:em (y.2.2.2.2.1,y.2.2.2.2.2.1) (y.2.2.1.length:Int)=some (xI (y.2.2.2.2.1,y.2.2.2.2.2.1) (y.2.2.1.length:Int)):=Pc (v:=(y.2.2.2.2.1,y.2.2.2.2.2.1)) _ (by show y.2.2.2.2.1.length<_;omega) (by show y.2.2.2.2.2.1.length<_;omega);have t2:aP (y.2.2.2.2.1,y.2.2.2.2.2.1) (y.2.2.1.length:Int)=some (xI (y.2.2.2.2.1,y.2.2.2.2.2.1) (y.2.2.1.length:Int)):=M5 (v:=(y.2.2.2.2.1,y.2.2.2.2.2.1)) _ (by show y.2.2.2.2.1.length<_;omega) (by show y.2.2.2.2.2.1.length<_;omega) hy.h
      simp only[Sum.elim_inl,t1,t2,an];cases hv:xI (y.2.2.2.2.1,y.2.2.2.2.2.1) (y.2.2.1.length:Int)with
      | false=>exact⟨_,rfl,rfl,hb,λ_=>⟨hs0,hp⟩,.inr ⟨rfl,by show (5:Int)≠0;decide,by show (1:Int)<=(l.length:Int);omega,Int.le_refl _,.inr (.inr ⟨y,hst,rfl⟩)⟩⟩
      | true =>
       obtain⟨r,r1,r2,r3,r4,r5,r6⟩:=Pl hy;have r1':aM (y.1,y.2.1,y.2.2.1,y.2.2.2.1,y.2.2.2.2.1,y.2.2.2.2.2.1,y.2.2.2.2.2.2.1,y.2.2.2.2.2.2.2.1,y.2.2.2.2.2.2.2.2.1,y.2.2.2.2.2.2.2.2.2.1,y.2.2.2.2.2.2.2.2.2.2)=some r:=r1
       have r2':ca (y.1,y.2.1,y.2.2.1,y.2.2.2.1,y.2.2.2.2.1,y.2.2.2.2.2.1,y.2.2.2.2.2.2.1,y.2.2.2.2.2.2.2.1,y.2.2.2.2.2.2.2.2.1,y.2.2.2.2.2.2.2.2.2.1,y.2.2.2.2.2.2.2.2.2.2)=some r:=r2;simp only[Bool.not_true,cF,r1',r2',an];exact⟨_,rfl,rfl,r3.le,λ_=>⟨r3,r3.ok (by rw[r4,r5,r6];exact hv)⟩,.inl ⟨rfl,rfl,.inr ⟨y,hst,hy,hdi,r1⟩⟩⟩
    · simp only[Sum.elim_inr];exact⟨_,rfl,rfl,hb,λ_=>⟨hs0,hp⟩,.inr ⟨rfl,c0,k1,k2,hfl⟩⟩

theorem vB.le {b:uz} (h:vB b):yz M b:=by
 obtain⟨v1,v2,v3,v4⟩:=h.vt.len;have h1:=h.name;have h2:=h.n6;have h3:=h.f12
 have v3':b.2.2.2.2.2.1.length=b.2.2.1.length:=v3;have v4':b.2.2.2.2.1.length<=6:=v4
 have hM:M=1048576:=rfl;exact⟨by omega,by omega,by omega,by omega,by omega⟩
theorem Cn {b:uz} (h:yz M b):cY b b=some true:=by
 obtain⟨h0,h1,h2,h3,h4⟩:=h;have hM:M=1048576:=rfl
 have r1:ic b.2.2.2.2.1 b.2.2.2.2.1=some true:=by
  unfold ic;rw[show ((b.2.2.2.2.1.length:Int) != (b.2.2.2.2.1.length:Int))=false by simp,cF,An (n:=b.2.2.2.2.1.length) (λk hk=>by
   unfold ji;rw[vj (by omega),cT,uO hk,an,an,uL (by omega)];simp) (by unfold ji;rw[vd (by omega),cF])]
  rfl
 have r2:loop (λz=>ie b b z) 0=some (.inl ()):=An (n:=b.2.2.1.length) (λk hk=>by
  unfold ie;rw[vj (by omega),cT,uO hk,an,an,uL (by omega)];simp) (by unfold ie;rw[vd (by omega),cF])
 have r3:loop (λz=>ig b b z) 0=some (.inl ()):=An (n:=b.2.2.2.1.length) (λk hk=>by
  unfold ig;rw[vj (by omega),cT,uO hk,an,an,uL (by omega)];simp) (by unfold ig;rw[vd (by omega),cF])
 unfold cY;rw[r1,r2,r3,Bu (by omega)];simp
theorem RN {x:List UInt8} (h:x∈([[116,101,110,45,98,121,116,101,115,45],[101,108,101,118,101,110,45,98,121,116,101]]:List (List UInt8))):x.length<=11:=by
 simp only[mem_cons,List.not_mem_nil,or_false]at h;rcases h with rfl|rfl<;>decide
theorem RO {c:uM} (h:CW c):∃c' b,fo c=some (c',b)/\CW c'/\xt b/\yz M b:=by
 obtain⟨c1,b,e1,w1,hb,hbp⟩:=Qc h;obtain⟨n1,n2,n3,n4,n5⟩:=(By hb hbp).le;obtain⟨c2,r,e2,w2,_⟩:=x7 w1 16;unfold fo;rw[e1,an];show ∃c' b',((aa c1 16).bind _)=_/\_
 rw[e2,an];show ∃c' b',cond (r==0) _ (cond (r==1) _ (cond (r==2) _ (cond (r==3) _ (cond (r==4) _ (cond (r==5) _ _)))))=_/\_
 cases r==0 with
 | true =>
  obtain⟨c3,x,e3,w3,_⟩:=yJ w2 (l:=[0,99,100]) (by decide);rw[cT,e3,an];exact⟨_,_,rfl,w3,⟨hb.p,hb.f,hb.v,hb.q,hb.r⟩,n1,n2,n3,n4,n5⟩
 | false =>
 cases r==1 with
 | true =>
  obtain⟨c3,x,e3,w3,hx⟩:=Ox w2 (l:=[[116,101,110,45,98,121,116,101,115,45],[101,108,101,118,101,110,45,98,121,116,101]]) (by decide);rw[cF,cT,e3,an];exact⟨_,_,rfl,w3,⟨hb.p,hb.f,hb.v,hb.q,hb.r⟩,(by have:=RN hx;show x.length<=1048576;omega),n2,n3,n4,n5⟩
 | false =>
 cases r==2 with
 | true =>
  obtain⟨c3,x,e3,w3,hx⟩:=Rz w2;rw[cF,cF,cT,e3,an];exact⟨_,_,rfl,w3,⟨by show x.length<_;omega,hb.f,hb.v,hb.q,hb.r⟩,n1,(by show x.length<=1048576;omega),n3,n4,n5⟩
 | false =>
 cases r==3 with
 | true =>
  obtain⟨c3,x,e3,w3,hx⟩:=TG w2;rw[cF,cF,cF,cT,e3,an];exact⟨_,_,rfl,w3,⟨hb.p,by show x.length<_;omega,hb.v,hb.q,hb.r⟩,n1,n2,(by show x.length<=1048576;omega),n4,n5⟩
 | false =>
 cases r==4 with
 | true =>
  obtain⟨c3,x,n,e3,w3,hx⟩:=SL w2;have ha:=hx.a
  have hb':=hx.b;rw[cF,cF,cF,cF,cT,e3,an];exact⟨_,_,rfl,w3,⟨hb.p,hb.f,by show x.1.length<_;omega,by show x.2.length<_;omega,hx.r⟩,n1,n2,n3,(by show x.1.length<=1048576;omega),(by show x.2.length<=1048576;omega)⟩
 | false =>
 cases r==5 with
 | true =>
  obtain⟨c3,x,e3,w3,_⟩:=yJ w2 (l:=[(-1),1000000,1000001]) (by decide);rw[cF,cF,cF,cF,cF,cT,e3,an];exact⟨_,_,rfl,w3,⟨hb.p,hb.f,hb.v,hb.q,hb.r⟩,n1,n2,n3,n4,n5⟩
 | false=>exact⟨_,_,rfl,w2,hb,n1,n2,n3,n4,n5⟩

def Dr {α:Type} (P:α->Prop) (o:Option (uM×α)):Prop:=∃c x,o=some (c,x)/\CW c/\P x
theorem Dr.cond {α:Type} {P:α->Prop} {a b:Option (uM×α)} {t:Bool} (ha:Dr P a) (hb:Dr P b):Dr P (cond t a b):=by cases t<;>assumption
theorem Dr.bind {α β:Type} {Q:α->Prop} {P:β->Prop} {o:Option (uM×α)} {f:uM×α->Option (uM×β)} (h:Dr Q o) (k:∀c x,CW c->Q x->Dr P (f (c,x))):Dr P (o.bind f):=by
 obtain⟨c,x,rfl,hc,hx⟩:=h;exact k c x hc hx
theorem Dr.some {α:Type} {P:α->Prop} {c:uM} {x:α} (hc:CW c) (hx:P x):Dr P (some (c,x)):=⟨c,x,rfl,hc,hx⟩
theorem wq {c:uM} (h:CW c) (n:Int):Dr (λr:Int=>0<=r/\(1<=n->r<n)) (aa c n):=by
 obtain⟨c',r,e,w,h1,h2⟩:=x7 h n;exact⟨c',r,e,w,h1,h2⟩
theorem AE {c:uM} (h:CW c) {l:List Int} (hl:1<=l.length):Dr (λr:Int=>r∈l) (af c l):=by
 obtain⟨c',r,e,w,h1⟩:=yJ h hl;exact⟨c',r,e,w,h1⟩
theorem Pn {c:uM} (h:CW c) {l:List (List UInt8)} (hl:1<=l.length):Dr (λr:List UInt8=>r∈l) (bb c l):=by
 obtain⟨c',r,e,w,h1⟩:=Ox h hl;exact⟨c',r,e,w,h1⟩
theorem Ml {c:uM} (h:CW c):Dr (λo:List Int=>Nm o) (aH c):=by
 obtain⟨c',r,e,w,h1⟩:=OF h;exact⟨c',r,e,w,h1⟩
theorem Po {c:uM} (h:CW c):Dr (λ_:Int=>True) (cE c):=by
 unfold cE;refine Dr.bind (wq h 1000) λc x hc _=>?_;obtain⟨c',r,e,w,_⟩:=yJ hc (l:=[0,1,(-1),127,128,(-128),(-129),255,256,32767,32768,(-32769),8388608,2147483647,(-2147483648),2147483648,(-2147483649),9223372036854775807,(-9223372036854775808),x]) (by simp);simp only[e];exact⟨c',r,rfl,w,trivial⟩
def NH (v:yj):Prop:=(v.1=2->v.2.2.1=[]/\v.2.2.2=[])/\(v.1=4->v.2.1=0/\v.2.2.2=[])
theorem JY (n:Int):NH (2,n,[],[]):=⟨λ_=>⟨rfl,rfl⟩,λh=>absurd (show (2:Int)=4 from h) (by decide)⟩
theorem RP (s:List UInt8):NH (4,0,s,[]):=⟨λh=>absurd (show (4:Int)=2 from h) (by decide),λ_=>⟨rfl,rfl⟩⟩
theorem TN (o:List Int):NH (6,0,[],o):=⟨λh=>absurd (show (6:Int)=2 from h) (by decide),λh=>absurd (show (6:Int)=4 from h) (by decide)⟩
theorem OP (k:Int):NH (k,0,[],[]):=⟨λ_=>⟨rfl,rfl⟩,λ_=>⟨rfl,rfl⟩⟩
def KY (v:yj):Prop:=v.2.2.1.length<=100/\v.2.2.2.length<=1000/\NH v
theorem Pp (n:Int):∃r,aw n=some r:=by
 unfold aw;cases decide (n>2147483647)<;>cases decide (n<(-2147483648))<;>exact⟨_,rfl⟩
theorem NJ {x:List UInt8} {l:List (List UInt8)} {n:Nat} (h:x∈l) (hl:∀y∈l,y.length<=n):x.length<=n:=hl x h
theorem Mm {c:uM} (h:CW c):Dr KY (aA c):=by
 unfold aA;refine Dr.bind (wq h 6) λc x hc _=>?_;have hn:∀c,CW c->Dr KY ((cE c).bind λt12=>(aw t12.2).bind λt13=>(ai t13).bind λt14=>some (t12.1,t14)):=λc hc=>by
  refine Dr.bind (Po hc) λc x hc _=>?_;obtain⟨r,hr⟩:=Pp x;simp only[hr,an,ai];exact Dr.some hc ⟨by simp,by simp,JY _⟩
 have hs:∀c,CW c->Dr KY ((bb c ([[],[97],[121,97,114,100],[0]]:List (List UInt8))).bind λt19=>some (t19.1,(4,0,t19.2,[]))):=λc hc=>by
  refine Dr.bind (Pn hc (by decide)) λc x hc hx=>?_;exact Dr.some hc ⟨Nat.le_trans (NJ (n:=4) hx (by decide)) (by decide),by simp,RP _⟩
 have ho:∀c,CW c->Dr KY ((aH c).bind λt24=>some (t24.1,(6,0,[],t24.2))):=λc hc=>by
  refine Dr.bind (Ml hc) λc x hc hx=>?_;exact Dr.some hc ⟨by simp,by have:=hx.n10;show x.length<=1000;omega,TN _⟩
 have hi:∀c,CW c->Dr KY ((af c ([128,130]:List Int)).bind λt28=>some (t28.1,(t28.2,0,[],[]))):=λc hc=>by
  refine Dr.bind (AE hc (by decide)) λc x hc hx=>?_;exact Dr.some hc ⟨by simp,by simp,OP _⟩
 repeat' (first|apply Dr.cond|exact Dr.some hc ⟨by simp,by simp,OP _⟩|exact hn c hc|exact hs c hc|exact ho c hc|exact hi c hc)
def Ao (x:uC):Prop:=x.1.length<=1000/\KY x.2
theorem Ao.le {x:uC} (h:Ao x):FC M x:=by
 have hM:M=1048576:=rfl;obtain⟨h1,h2,h3,_⟩:=h;exact⟨by omega,by omega,by omega⟩
theorem RQ {c:uM} (h:CW c) {b:uz} (hb:xt b) (hn:∀c,CW c->Dr Nm (aq c b)):Dr Ao (gw c b):=by
 obtain⟨t18,hsh⟩:∃t,shl .i64 1 (IntKind.u64.wrap (b.2.2.1.length:Int))=some t:=by
  unfold shl;rw[if_neg (show ¬IntKind.u64.wrap (b.2.2.1.length:Int)<0 by show ¬((b.2.2.1.length:Int)%18446744073709551616)<0;omega)];exact⟨_,rfl⟩
 have hnm:∀(l:List Int),l.length<=100->ah l=some ([1,3,1]++l):=λl hl=>Bv l hl;have h22:∀c p,CW c->Dr Ao ((ah [2,2,uB (1+p)]).bind λt36=>(af c ([1,5,1000,0,1001]:List Int)).bind λt39=>(ai t39.2).bind λt40=>some (t39.1,(t36,t40.1,t40.2.1,t40.2.2.1,t40.2.2.2))):=λc p hc=>by
  rw[hnm _ (by simp),an];exact Dr.bind (AE hc (by decide)) λc x hc _=>Dr.some hc ⟨by simp,by simp,by simp,JY _⟩
 have h24:∀c p,CW c->Dr Ao ((ah [2,4,uB (1+p)]).bind λt46=>(aa c 4).bind λt48=>(ai (uB (1+t48.2))).bind λt50=>some (t48.1,(t46,t50.1,t50.2.1,t50.2.2.1,t50.2.2.2))):=λc p hc=>by
  rw[hnm _ (by simp),an];exact Dr.bind (wq hc 4) λc x hc _=>Dr.some hc ⟨by simp,by simp,by simp,JY _⟩
 have h31:∀c,CW c->Dr Ao ((aa c 4).bind λt56=>(ah [3,1,uB (1+t56.2)]).bind λt59=>(af t56.1 ([4,4,6,1]:List Int)).bind λt62=>(ai t62.2).bind λt63=>some (t62.1,(t59,t63.1,t63.2.1,t63.2.2.1,t63.2.2.2))):=λc hc=>by
  refine Dr.bind (wq hc 4) λc x hc _=>?_;rw[hnm _ (by simp),an];exact Dr.bind (AE hc (by decide)) λc x hc _=>Dr.some hc ⟨by simp,by simp,by simp,JY _⟩
 have h3x:∀c k m,CW c->Dr Ao ((aa c 4).bind λt69=>(ah [3,k,uB (1+t69.2)]).bind λt72=>(aa t69.1 m).bind λt76=>(ai t76.2).bind λt77=>some (t76.1,(t72,t77.1,t77.2.1,t77.2.2.1,t77.2.2.2))):=λc k m hc=>by
  refine Dr.bind (wq hc 4) λc x hc _=>?_;rw[hnm _ (by simp),an];exact Dr.bind (wq hc m) λc x hc _=>Dr.some hc ⟨by simp,by simp,by simp,JY _⟩
 have hoth:∀c,CW c->Dr Ao ((aq c b).bind λt94=>(aA t94.1).bind λt96=>some (t96.1,(t94.2,t96.2.1,t96.2.2.1,t96.2.2.2.1,t96.2.2.2.2))):=λc hc=>by
  refine Dr.bind (hn c hc) λc o hc ho=>?_;refine Dr.bind (Mm hc) λc v hc hv=>?_;exact Dr.some hc ⟨by have:=ho.n10;show o.length<=1000;omega,hv⟩
 have h11:∀c,CW c->Dr Ao ((ah ([1,1]:List Int)).bind λt25=>(bb c ([[110,101,119],[],[101,108,101,118,101,110,45,98,121,116,101]]:List (List UInt8))).bind λt28=>some (t28.1,(t25,4,0,t28.2,[]))):=λc hc=>by
  rw[hnm _ (by simp),an];exact Dr.bind (Pn hc (by decide)) λc x hc hx=>Dr.some hc ⟨by simp,Nat.le_trans (NJ (n:=11) hx (by decide)) (by decide),by simp,RP _⟩
 unfold gw;refine Dr.bind (wq h _) λc p hc _=>?_;rw[hsh,an];refine Dr.bind (wq hc 10) λc r hc _=>?_
 repeat' (first|apply Dr.cond|exact h22 c p hc|exact h24 c p hc|exact h31 c hc|exact h3x c _ _ hc|exact hoth c hc|exact h11 c hc)
theorem Qr {c:uM} (h:CW c) {b:uz} (hb:xt b) (hn:∀c,CW c->Dr Nm (aq c b)):Dr (λl:List uC=>l.length<=3/\∀x∈l,Ao x) (fm c b):=by
 unfold fm;obtain⟨c1,k,e1,w1,hk⟩:=wI h (n:=4) (by decide);have e1':aa c 4=some (c1,(k:Int)):=e1
 rw[e1',an];obtain⟨d,d1,d2,d3,d4⟩:=uS (step:=λz:Int×List Int×Int×Int×List uC=>cH b z.1 z.2.1 z.2.2.1 z.2.2.2.1 z.2.2.2.2)
  (λi z=>z.1=((k-i:Nat):Int)/\CW (z.2.1,z.2.2.1,z.2.2.2.1)/\z.2.2.2.2.length=i/\∀x∈z.2.2.2.2,Ao x) k
  (λd=>CW (d.1,d.2.1,d.2.2.1)/\d.2.2.2.length=k/\∀x∈d.2.2.2,Ao x)
  (λi z hi ⟨z1,z2,z3,z4⟩=>by
   obtain⟨j,c0,c1,c2,out⟩:=z;simp only at z1 z2 z3 z4;subst z1 z3;left;obtain⟨c',x,x1,x2,x3⟩:=RQ z2 hb hn;refine⟨_,by
    show cH b _ _ _ _ _=_;unfold cH;rw[dT (show ((k-out.length:Nat):Int)>0 by omega),cT,x1,an,uG (by show _+1<=_;omega),an],?_,x2,by simp,?_⟩
   · show uB (((k-out.length:Nat):Int)-1)=_;rw[uX (by omega) (by omega)];omega
   · intro y hy;rcases mem_append.1 hy with hy|hy
     · exact z4 y hy
     · simp at hy;subst hy;exact x3)
  (λz ⟨z1,z2,z3,z4⟩=>by
   obtain⟨j,c0,c1,c2,out⟩:=z;simp only at z1 z2 z3 z4;rw[Nat.sub_self]at z1;subst z1;refine⟨(c0,c1,c2,out),?_,z2,z3,z4⟩;show cH b _ _ _ _ _=_
   unfold cH;rw[dF (show ¬((0:Nat):Int)>0 by decide),cF]) (x:=((k:Int),c1.1,c1.2.1,c1.2.2,[])) ⟨rfl,w1,rfl,by simp⟩
 show Dr _ ((loop (λz:Int×List Int×Int×Int×List uC=>cH b z.1 z.2.1 z.2.2.1 z.2.2.2.1 z.2.2.2.2) ((k:Int),c1.1,c1.2.1,c1.2.2,[])).bind _);rw[d1,an];exact Dr.some d2 ⟨by omega,d4⟩

def BI (n:Int):Int:=if n>2147483647 then 2147483647 else if n < -2147483648 then -2147483648 else n
theorem KZ (n:Int):-2147483648<=BI n/\BI n<=2147483647:=by unfold BI;split<;>(try split)<;>omega
def vY (m:Int):List Int:=if uE m (-128) 127 then [m%256]else if uE m (-32768) 32767 then [m/256%256,m%256]else if uE m (-8388608) 8388607 then [m/65536%256,m/256%256,m%256]else [m/16777216%256,m/65536%256,m/256%256,m%256]
theorem w8 (x:Int):IntKind.u8.wrap x=x%256:=rfl
theorem fd (m:Int) {k:Int} (hk:0<=k):m.fdiv k=m/k:=Int.fdiv_eq_ediv_of_nonneg m hk
theorem v7 {α β:Type} {step:α->Option (α⊕β)} {x y:α} {b:β} (h:step x=some (.inl y)) (k:loop step y=some b):loop step x=some b:=by
 obtain⟨n,hn⟩:=Fp k;exact zV (k:=n+1) (by rw[wT,h];exact hn)
theorem JZ {n:Int} (hn:-9223372036854775808<=n/\n<=9223372036854775807):es n=some (vY (BI n)):=by
 unfold es;have hc:max2 (-2147483648) (min2 n 2147483647)=BI n:=by
  unfold max2 min2 BI;split<;>split<;>(try split)<;>(try split)<;>omega
 rw[hc];obtain⟨h1,h2⟩:=KZ n;generalize BI n=m at h1 h2;simp only;have a1:aV m 1=cond (!(uE m (-128) 127)) (some (.inl 2)) (some (.inr 1)):=by
  unfold aV;rw[show shl .i64 (-1) (uB ((uB (8*1))-1))=some (-128)from rfl,show shl .i64 1 (uB ((uB (8*1))-1))=some 128 from rfl];simp only[an,xU];rw[show uB (128-1)=127 from rfl];cases uE m (-128) 127<;>rfl
 have a2:aV m 2=cond (!(uE m (-32768) 32767)) (some (.inl 3)) (some (.inr 2)):=by
  unfold aV;rw[show shl .i64 (-1) (uB ((uB (8*2))-1))=some (-32768)from rfl,show shl .i64 1 (uB ((uB (8*2))-1))=some 32768 from rfl];simp only[an,xU];rw[show uB (32768-1)=32767 from rfl];cases uE m (-32768) 32767<;>rfl
 have a3:aV m 3=cond (!(uE m (-8388608) 8388607)) (some (.inl 4)) (some (.inr 3)):=by
  unfold aV;rw[show shl .i64 (-1) (uB ((uB (8*3))-1))=some (-8388608)from rfl,show shl .i64 1 (uB ((uB (8*3))-1))=some 8388608 from rfl];simp only[an,xU];rw[show uB (8388608-1)=8388607 from rfl];cases uE m (-8388608) 8388607<;>rfl
 have a4:aV m 4=some (.inr 4):=rfl;have b3:∀out:List Int,out.length<=10->aE m 3 out=some (.inl (2,out++[m/16777216%256])):=λout ho=>by
  unfold aE;rw[show shr .i64 m (uB (8*3))=some (m.fdiv (2^24))from rfl,an,uG (by simp;omega),an,w8,fd m (by decide)];rfl
 have b2:∀out:List Int,out.length<=10->aE m 2 out=some (.inl (1,out++[m/65536%256])):=λout ho=>by
  unfold aE;rw[show shr .i64 m (uB (8*2))=some (m.fdiv (2^16))from rfl,an,uG (by simp;omega),an,w8,fd m (by decide)];rfl
 have b1:∀out:List Int,out.length<=10->aE m 1 out=some (.inl (0,out++[m/256%256])):=λout ho=>by
  unfold aE;rw[show shr .i64 m (uB (8*1))=some (m.fdiv (2^8))from rfl,an,uG (by simp;omega),an,w8,fd m (by decide)];rfl
 have b0:∀out:List Int,out.length<=10->aE m 0 out=some (.inl (-1,out++[m%256])):=λout ho=>by
  unfold aE;rw[show shr .i64 m (uB (8*0))=some (m.fdiv (2^0))from rfl,an,uG (by simp;omega),an,w8,fd m (by decide)];simp;rfl
 have be:∀out:List Int,aE m (-1) out=some (.inr out):=λout=>rfl;have c0:∀out:List Int,out.length<=9->loop (λz:Int×List Int=>aE m z.1 z.2) (0,out)=some (out++[m%256]):=λout ho=>v7 (b0 out (by omega)) (ve (be _))
 have c1:∀out:List Int,out.length<=8->loop (λz:Int×List Int=>aE m z.1 z.2) (1,out)=some (out++[m/256%256]++[m%256]):=λout ho=>v7 (b1 out (by omega)) (c0 _ (by simp;omega));have c2:∀out:List Int,out.length<=7->loop (λz:Int×List Int=>aE m z.1 z.2) (2,out)=some (out++[m/65536%256]++[m/256%256]++[m%256]):=λout ho=>v7 (b2 out (by omega)) (c1 _ (by simp;omega))
 have c3:∀out:List Int,out.length<=6->loop (λz:Int×List Int=>aE m z.1 z.2) (3,out)=some (out++[m/16777216%256]++[m/65536%256]++[m/256%256]++[m%256]):=λout ho=>v7 (b3 out (by omega)) (c2 _ (by simp;omega));unfold vY;cases h8:uE m (-128) 127 with
 | true =>
  rw[h8]at a1;rw[ve (step:=λz=>aV m z) a1,an,show uB (1-1)=0 from rfl,c0 [] (by simp)];rfl
 | false =>
  rw[h8]at a1;cases h16:uE m (-32768) 32767 with
  | true =>
   rw[h16]at a2;rw[v7 (step:=λz=>aV m z) a1 (ve a2),an,show uB (2-1)=1 from rfl,c1 [] (by simp)];rfl
  | false =>
   rw[h16]at a2;cases h24:uE m (-8388608) 8388607 with
   | true =>
    rw[h24]at a3;rw[v7 (step:=λz=>aV m z) a1 (v7 a2 (ve a3)),an,show uB (3-1)=2 from rfl,c2 [] (by simp)];rfl
   | false =>
    rw[h24]at a3;rw[v7 (step:=λz=>aV m z) a1 (v7 a2 (v7 a3 (ve a4))),an,show uB (4-1)=3 from rfl,c3 [] (by simp)];rfl
theorem Dv {n a b:Int} (h:uE n a b=false):n<a\/n>b:=by
 unfold uE at h;simp only[Bool.and_eq_false_iff,decide_eq_false_iff_not]at h;omega
theorem vz {n a b:Int} (h:uE n a b=true):a<=n/\n<=b:=by
 unfold uE at h;simp only[aT,decide_eq_true_eq]at h;omega
theorem CA {n:Int}:bc n=some (vY (BI n)):=by
 unfold bc;have hc:aw n=some (BI n):=by
  unfold aw BI;by_cases h1:n>2147483647
  · rw[dT h1,cT,if_pos h1]
  · rw[dF h1,cF,if_neg h1];by_cases h2:n < -2147483648
    · rw[dT h2,cT,if_pos h2]
    · rw[dF h2,cF,if_neg h2]
 rw[hc,an];obtain⟨h1,h2⟩:=KZ n;generalize BI n=m at h1 h2;have st:∀(x:Int) (out:List Int),out.length<=10->bW x out=cond (uE x (-128) 127) (some (.inr out)) (some (.inl (x/256,x/256%256::out))):=λx out ho=>by
  unfold bW;have e:(cond (decide (x<(-128))) (some true) (some (decide (x>127))))=some (!(uE x (-128) 127)):=by
   unfold uE;by_cases h1:x < -128
   · rw[dT h1,cT,dF (show ¬x >= -128 by omega)];rfl
   · rw[dF h1,cF,dT (show x >= -128 by omega)];by_cases h2:x>127
     · rw[dT h2,dF (show ¬x<=127 by omega)];rfl
     · rw[dF h2,dT (show x<=127 by omega)];rfl
  rw[e,an,uG (by simp;omega),an,w8,fd x (by decide)];cases uE x (-128) 127<;>rfl
 rw[w8];have goes:∀(x:Int) (out:List Int),out.length<=9->uE x (-128) 127=true->loop (λz:Int×List Int=>bW z.1 z.2) (x,out)=some out:=λx out ho h=>ve (by show bW x out=_;rw[st x out (by omega),h];rfl)
 have more:∀(x:Int) (out r:List Int),out.length<=9->uE x (-128) 127=false->loop (λz:Int×List Int=>bW z.1 z.2) (x/256,x/256%256::out)=some r->loop (λz:Int×List Int=>bW z.1 z.2) (x,out)=some r:=λx out r ho h k=>v7 (by show bW x out=_;rw[st x out (by omega),h];rfl) k;have Cc:∀(x a b:Int),a<=x->x<=b->uE x a b=true:=λx a b h1 h2=>by unfold uE;rw[dT h1,dT h2];rfl
 have outn:∀(x a b:Int),(x<a\/x>b)->uE x a b=false:=λx a b h=>by
  unfold uE;simp only[Bool.and_eq_false_iff,decide_eq_false_iff_not];omega
 unfold vY;cases h8:uE m (-128) 127 with
 | true=>rw[goes m _ (by simp) h8];rfl
 | false =>
  have k8:=Dv h8;cases h16:uE m (-32768) 32767 with
  | true =>
   have k16:=vz h16;rw[more m _ _ (by simp) h8 (goes (m/256) _ (by simp) (Cc _ _ _ (by omega) (by omega)))];rfl
  | false =>
   have k16:=Dv h16;cases h24:uE m (-8388608) 8388607 with
   | true =>
    have k24:=vz h24;rw[more m _ _ (by simp) h8 (more (m/256) _ _ (by simp) (outn _ _ _ (by omega)) (goes (m/256/256) _ (by simp) (Cc _ _ _ (by omega) (by omega))))];rw[show m/256/256=m/65536 by omega];rfl
   | false =>
    have k24:=Dv h24;rw[more m _ _ (by simp) h8 (more (m/256) _ _ (by simp) (outn _ _ _ (by omega)) (more (m/256/256) _ _ (by simp) (outn _ _ _ (by omega)) (goes (m/256/256/256) _ (by simp) (Cc _ _ _ (by omega) (by omega)))))];rw[show m/256/256=m/65536 by omega,show m/65536/256=m/16777216 by omega];rfl

def wJ (b:List Int):Prop:=∀x∈b,0<=x/\x<=255
def vE (t:Int) (body:List Int):List Int:=t::((if body.length>=128 then [129,(body.length:Int)]else [(body.length:Int)])++body)
theorem Mn (t:Int) {body:List Int} (hn:body.length<=M):dh t body=some (if uE t 0 255=true/\body.length<=250 then (vE t body,true)else ([],false)):=by
 have hn':body.length<=1048576:=hn;unfold dh;rw[xU,an];cases ht:uE t 0 255 with
 | false=>rw[if_neg (by simp)];rfl
 | true =>
  obtain⟨t1,t2⟩:=vz ht;rw[Bool.not_true,cF,an];by_cases h:(body.length:Int)>250
  · rw[dT h,cT,if_neg (by omega)]
  · rw[dF h,cF,if_pos ⟨rfl,by omega⟩];unfold vE;have e1:IntKind.u8.wrap t=t:=by rw[w8];omega
    have e2:IntKind.u8.wrap (body.length:Int)=(body.length:Int):=by rw[w8];omega
    by_cases h8:(body.length:Int)>=128
    · rw[dT h8,cT,uG (by simp),an,uG (by simp),an,uG (by simp;omega),an,if_pos (by omega),e1,e2];rfl
    · rw[dF h8,cF,uG (by simp),an,uG (by simp;omega),an,if_neg (by omega),e1,e2];rfl
theorem K0 {b:List Int} (t:Int) {body:List Int} (hb:b.length<=1000) (hn:body.length<=M):bx b t body=some (b++if uE t 0 255=true/\body.length<=250 then vE t body else []):=by
 unfold bx;have hM:M=1048576:=rfl
 rw[Mn t hn,an,Am (by omega),an];split
 · next h =>
   have:(vE t body).length<=300:=by unfold vE;split<;>simp<;>omega
   rw[uG (by show b.length+(vE t body).length<=_;omega)];rfl
 · rw[uG (by show b.length+0<=_;omega)];rfl
theorem E9 {α:Type} (pre l:List α) (j:Nat):at? (pre++l) ((pre.length+j:Nat):Int)=at? l (j:Int):=by
 unfold at?;rw[if_pos (by omega),if_pos (by omega),Int.toNat_natCast,Int.toNat_natCast,List.getElem?_append_right (by omega),Nat.add_sub_cancel_left]
theorem L7 {α:Type} (pre l:List α) (i j:Nat) (h:i<=j) (hj:j<=l.length):cut (pre++l) ((pre.length+i:Nat):Int) ((pre.length+j:Nat):Int)=some ((l.take j).drop i):=by
 rw[xR (by omega) (by rw[length_append];omega),List.take_append,List.take_of_length_le (by omega),List.drop_append,List.drop_of_length_le (by omega),Nat.add_sub_cancel_left,Nat.add_sub_cancel_left,nil_append]
structure Ap (b:List Int) (at':Int) (t:Int) (body:List Int) (next:Int):Prop where
 ex:∃pre rest,b=pre++(vE t body++rest)/\at'=(pre.length:Int)/\next=((pre.length+(vE t body).length:Nat):Int)
 n:body.length<=250
 t:uE t 0 255=true
 b:wJ body
theorem HE {b:List Int} (hb:wJ b) (hn:b.length<=M) {i:Int} (hi:-9223372036854775808<=i/\i<=9223372036854775807):∃r,de b i=some r/\cP b i=some r/\(r=(0,[],0,false)\/∃t body next,r=(t,body,next,true)/\Ap b i t body next):=by
 have hn':b.length<=1048576:=hn;unfold de cP;rw[uX (show -9223372036854775808<=(b.length:Int)-2 by omega) (by omega)];by_cases h0:i<0
 · rw[dT h0];exact⟨_,rfl,rfl,.inl rfl⟩
 rw[dF h0];by_cases h1:i>(b.length:Int)-2
 · rw[dT h1];by_cases h2:i>=(b.length:Int)
   · rw[dT h2];exact⟨_,rfl,rfl,.inl rfl⟩
   · rw[dF h2,uX (by omega) (by omega),dT (show i+1>=(b.length:Int) by omega)];exact⟨_,rfl,rfl,.inl rfl⟩
 rw[dF h1,dF (show ¬i>=(b.length:Int) by omega),uX (show -9223372036854775808<=i+1 by omega) (by omega),dF (show ¬i+1>=(b.length:Int) by omega),uX (show -9223372036854775808<=i+2 by omega) (by omega)];simp only[cF,an];obtain⟨k,rfl⟩:∃k:Nat,i=(k:Int):=⟨i.toNat,by omega⟩;have hk:k+1<b.length:=by omega
 obtain⟨pre,t,n0,rest,rfl,hp⟩:∃pre t n0 rest,b=pre++(t::n0::rest)/\pre.length=k:=by
  refine⟨b.take k,b[k],b[k+1],b.drop (k+2),?_,by rw[length_take];omega⟩;have h1:=List.take_append_drop k b
  rw[drop_eq_getElem_cons (by omega),drop_eq_getElem_cons (by omega)]at h1;exact h1.symm
 subst hp;have ht:0<=t/\t<=255:=hb t (by simp)
 have hn0:0<=n0/\n0<=255:=hb n0 (by simp);have hr:wJ rest:=λx hx=>hb x (by simp[hx])
 have hlen:(pre++(t::n0::rest)).length=pre.length+(rest.length+2):=by simp
 have e0:at? (pre++(t::n0::rest)) (pre.length:Int)=some t:=by have:=E9 pre (t::n0::rest) 0;rw[Nat.add_zero]at this;rw[this];rfl
 have e1:at? (pre++(t::n0::rest)) ((pre.length:Int)+1)=some n0:=by have:=E9 pre (t::n0::rest) 1;rw[show ((pre.length:Int)+1)=((pre.length+1:Nat):Int) by omega,this];rfl
 have e2:at? (pre++(t::n0::rest)) ((pre.length:Int)+2)=at? rest 0:=by
  have:=E9 pre (t::n0::rest) 2;rw[show ((pre.length:Int)+2)=((pre.length+2:Nat):Int) by omega,this];unfold at?;simp
 have wt:uB t=t:=uX (by omega) (by omega);have wn:uB n0=n0:=uX (by omega) (by omega)
 have pt:uE t 0 255=true:=by unfold uE;rw[dT ht.1,dT ht.2];rfl
 rw[hlen]at hn';rw[hlen,e0,e1,e2];simp only[an,wt,wn];by_cases h8:n0>=128
 · rw[dT h8,dT (show n0>127 by omega)];simp only[cT];by_cases h9:n0=129
   · subst h9;simp only[show ((129:Int) != 129)=false from rfl,cF,an];cases rest with
     | nil =>
      rw[dT (show (pre.length:Int)+2>=((pre.length+(([]:List Int).length+2):Nat):Int) by simp)];exact⟨_,rfl,rfl,.inl rfl⟩
     | cons n1 r =>
      have hn1:0<=n1/\n1<=255:=hr n1 (by simp);have wn1:uB n1=n1:=uX (by omega) (by omega)
      rw[length_cons]at hn' ⊢;rw[dF (show ¬(pre.length:Int)+2>=((pre.length+(r.length+1+2):Nat):Int) by omega)];simp only[cF,an,show at? (n1::r) 0=some n1 from rfl,wn1];by_cases h10:n1<128
      · rw[dT h10];exact⟨_,rfl,rfl,.inl rfl⟩
      rw[dF h10,uX (show -9223372036854775808<=(pre.length:Int)+2+1 by omega) (by omega),uX (show -9223372036854775808<=((pre.length+(r.length+1+2):Nat):Int)-((pre.length:Int)+2+1) by omega) (by omega)];simp only[cF];by_cases h11:n1>250
      · rw[dT h11];exact⟨_,rfl,rfl,.inl rfl⟩
      rw[dF h11];simp only[cF,an];by_cases h12:n1>((pre.length+(r.length+1+2):Nat):Int)-((pre.length:Int)+2+1)
      · rw[dT h12];exact⟨_,rfl,rfl,.inl rfl⟩
      rw[dF h12];simp only[cF];obtain⟨m,rfl⟩:∃m:Nat,n1=(m:Int):=⟨n1.toNat,by omega⟩;have hcut:cut (pre++(t::129::(m:Int)::r)) ((pre.length:Int)+2+1) (uB ((pre.length:Int)+2+1+(m:Int)))=some (r.take m):=by
       rw[uX (by omega) (by omega),show (pre.length:Int)+2+1+(m:Int)=((pre.length+(3+m):Nat):Int) by omega,show (pre.length:Int)+2+1=((pre.length+3:Nat):Int) by omega,L7 _ _ _ _ (by omega) (by simp;omega)];simp[Nat.add_comm 3 m]
      have hl:(r.take m).length=m:=by rw[length_take];omega
      rw[hcut,an,an,Am (by show _<=1048576;omega),yb (by show _<=1048576;omega),an];refine⟨_,rfl,rfl,.inr ⟨t,r.take m,uB ((pre.length:Int)+2+1+(m:Int)),rfl,⟨pre,r.drop m,?_,rfl,?_⟩,by omega,pt,λx hx=>hr x (mem_cons_of_mem _ (mem_of_mem_take hx))⟩⟩
      · unfold vE;rw[hl,if_pos (by omega)];simp
      · unfold vE;rw[hl,if_pos (by omega),uX (by omega) (by omega)];simp only[length_cons,length_append,length_nil,hl];omega
   · rw[bne_iff_ne.2 h9];exact⟨_,rfl,rfl,.inl rfl⟩
 · rw[dF h8,dF (show ¬n0>127 by omega)];simp only[cF];rw[dF (show ¬n0>250 by omega),uX (show -9223372036854775808<=((pre.length+(rest.length+2):Nat):Int)-((pre.length:Int)+2) by omega) (by omega)];simp only[cF,an];by_cases h12:n0>((pre.length+(rest.length+2):Nat):Int)-((pre.length:Int)+2)
   · rw[dT h12];exact⟨_,rfl,rfl,.inl rfl⟩
   rw[dF h12];simp only[cF];obtain⟨m,rfl⟩:∃m:Nat,n0=(m:Int):=⟨n0.toNat,by omega⟩;have hcut:cut (pre++(t::(m:Int)::rest)) ((pre.length:Int)+2) (uB ((pre.length:Int)+2+(m:Int)))=some (rest.take m):=by
    rw[uX (by omega) (by omega),show (pre.length:Int)+2+(m:Int)=((pre.length+(2+m):Nat):Int) by omega,show (pre.length:Int)+2=((pre.length+2:Nat):Int) by omega,L7 _ _ _ _ (by omega) (by simp;omega)];simp[Nat.add_comm 2 m]
   have hl:(rest.take m).length=m:=by rw[length_take];omega
   rw[hcut,an,an,Am (by show _<=1048576;omega),yb (by show _<=1048576;omega),an];refine⟨_,rfl,rfl,.inr ⟨t,rest.take m,uB ((pre.length:Int)+2+(m:Int)),rfl,⟨pre,rest.drop m,?_,rfl,?_⟩,by omega,pt,λx hx=>hr x (mem_of_mem_take hx)⟩⟩
   · unfold vE;rw[hl,if_neg (by omega)];simp
   · unfold vE;rw[hl,if_neg (by omega),uX (by omega) (by omega)];simp only[length_cons,length_append,length_nil,hl];omega

theorem TO {m x:Int} (hm:-1099511627776<=m/\m<=1099511627776) (hx:0<=x/\x<=255):BU .i64 (uB (m*2^8)) (uB x)=m*256+x:=by
 rw[show m*2^8=m*256 from rfl,uX (show -9223372036854775808<=m*256 by omega) (by omega),uX (show -9223372036854775808<=x by omega) (by omega)];show IntKind.i64.wrap (((BitVec.ofInt 64 (m*256)|||BitVec.ofInt 64 x).toNat:Nat):Int)=_
 rw[BitVec.toNat_or,BitVec.toNat_ofInt,BitVec.toNat_ofInt];have h1:((m*256)%((2^64:Nat):Int)).toNat=2^8*(m%72057594037927936).toNat:=by
  have:((2^64:Nat):Int)=18446744073709551616:=by decide
  rw[this];omega
 have h2:(x%((2^64:Nat):Int)).toNat=x.toNat:=by
  have:((2^64:Nat):Int)=18446744073709551616:=by decide
  rw[this];omega
 rw[h1,h2,←Nat.two_pow_add_eq_or_of_lt (by show x.toNat<2^8;omega)];show (let z:=((2^8*(m%72057594037927936).toNat+x.toNat:Nat):Int)%18446744073709551616;if (true&&decide (z>=9223372036854775808))=true then z-18446744073709551616 else z)=_
 simp only[Bool.true_and,decide_eq_true_eq];split<;>omega
def xN (x:Int):Int:=if x>127 then x-256 else x
def wx (n:Int) (l:List Int):Int:=l.foldl (λn x=>n*256+x) n
theorem OQ {n:Int} {l:List Int} (hn:-256<=n/\n<=256) (hl:wJ l) (h3:l.length<=3):∀k,k<=l.length -> -1099511627776<=wx n (l.take k)/\wx n (l.take k)<=1099511627776:=by
 match l,h3 with
 | [],_=>intro k hk;simp only[take_nil,wx,List.foldl];omega
 | [a],_ =>
  have ha:=hl a (by simp);intro k hk
  match k with
  | 0=>simp only[take_zero,wx,List.foldl];omega
  | k+1=>simp only[take_succ_cons,take_nil,wx,List.foldl];omega
 | [a,b],_ =>
  have ha:=hl a (by simp);have hb:=hl b (by simp)
  intro k hk
  match k with
  | 0=>simp only[take_zero,wx,List.foldl];omega
  | 1=>simp only[take_succ_cons,take_zero,wx,List.foldl];omega
  | k+2=>simp only[take_succ_cons,take_nil,wx,List.foldl];omega
 | [a,b,c],_ =>
  have ha:=hl a (by simp);have hb:=hl b (by simp)
  have hc:=hl c (by simp);intro k hk
  match k with
  | 0=>simp only[take_zero,wx,List.foldl];omega
  | 1=>simp only[take_succ_cons,take_zero,wx,List.foldl];omega
  | 2=>simp only[take_succ_cons,take_zero,wx,List.foldl];omega
  | k+3=>simp only[take_succ_cons,take_nil,wx,List.foldl];omega
theorem GN {n:Int} {l:List Int} (hn:-256<=n/\n<=256) (hl:wJ l) (h3:l.length<=3) {off:Nat} (step:Int×Int->Option ((Int×Int)⊕Int)) (ho:off<=1000)
 (hs:∀k (hk:k<l.length) m,step (m,((off+k:Nat):Int))=some (.inl (BU .i64 (uB (m*2^8)) (uB l[k]),((off+(k+1):Nat):Int))))
 (he:∀m,step (m,((off+l.length:Nat):Int))=some (.inr m)):loop step (n,(off:Int))=some (wx n l):=by
 obtain⟨b,h1,rfl⟩:=uS (step:=step) (λk z=>z=(wx n (l.take k),((off+k:Nat):Int))) l.length (λb=>b=wx n l)
  (λk z hk e=>by
   subst e;left;refine⟨_,hs k hk _,?_⟩;have ht:l.take (k+1)=l.take k++[l[k]]:=by rw[take_add_one,List.getElem?_eq_getElem hk];rfl
   rw[TO (OQ hn hl h3 k (by omega)) (hl _ (getElem_mem hk)),ht];unfold wx;rw[List.foldl_append];rfl)
  (λz e=>by
   subst e;exact⟨_,he _,by rw[take_length]⟩) (x:=(n,(off:Int))) rfl
 exact h1
theorem NK {x0:Int} {l:List Int} (hb:wJ (x0::l)) (h3:l.length<=3):-2147483648<=wx (xN x0) l/\wx (xN x0) l<=2147483647/\((vY (wx (xN x0) l)).length=(x0::l).length->x0::l=vY (wx (xN x0) l)):=by
 have h0:=hb x0 (by simp);have hs:(xN x0=x0/\x0<=127)\/(xN x0=x0-256/\128<=x0):=by unfold xN;split<;>omega
 generalize xN x0=s at hs
 match l,h3 with
 | [],_ =>
  simp only[wx,List.foldl];refine⟨by omega,by omega,λ_=>?_⟩;have:uE s (-128) 127=true:=by unfold uE;rw[dT (by omega),dT (by omega)];rfl
  unfold vY;rw[if_pos this,show s%256=x0 by omega]
 | [a],_ =>
  have ha:=hb a (by simp);simp only[wx,List.foldl];refine⟨by omega,by omega,λh=>?_⟩;unfold vY at h ⊢;split at h
  · simp at h
  · split at h
    · next h1 h2=>rw[if_neg h1,if_pos h2,show (s*256+a)/256%256=x0 by omega,show (s*256+a)%256=a by omega]
    · split at h<;>simp at h
 | [a,b],_ =>
  have ha:=hb a (by simp);have hb':=hb b (by simp)
  simp only[wx,List.foldl];refine⟨by omega,by omega,λh=>?_⟩;unfold vY at h ⊢;split at h
  · simp at h
  · split at h
    · simp at h
    · split at h
      · next h1 h2 h3=>rw[if_neg h1,if_neg h2,if_pos h3,show ((s*256+a)*256+b)/65536%256=x0 by omega,show ((s*256+a)*256+b)/256%256=a by omega,show ((s*256+a)*256+b)%256=b by omega]
      · simp at h
 | [a,b,c],_ =>
  have ha:=hb a (by simp);have hb':=hb b (by simp)
  have hc:=hb c (by simp);simp only[wx,List.foldl];refine⟨by omega,by omega,λh=>?_⟩;unfold vY at h ⊢;split at h
  · simp at h
  · split at h
    · simp at h
    · split at h
      · simp at h
      · next h1 h2 h3=>rw[if_neg h1,if_neg h2,if_neg h3,show (((s*256+a)*256+b)*256+c)/16777216%256=x0 by omega,show (((s*256+a)*256+b)*256+c)/65536%256=a by omega,show (((s*256+a)*256+b)*256+c)/256%256=b by omega,show (((s*256+a)*256+b)*256+c)%256=c by omega]
theorem Bb {n:Int} (h:-2147483648<=n/\n<=2147483647):BI n=n:=by unfold BI;split<;>(try split)<;>omega
theorem i8 {x:Int} (hx:0<=x/\x<=255):uB (IntKind.i8.wrap x)=xN x:=by
 have:IntKind.i8.wrap x=xN x:=by
  show (let m:=x%256;if (true&&decide (m>=128))=true then m-256 else m)=_;unfold xN;simp only[Bool.true_and,decide_eq_true_eq];split<;>split<;>omega
 rw[this];unfold xN;split<;>exact uX (by omega) (by omega)
theorem NL {b:List Int} (hb:wJ b) (hn:b.length<=M):∃r,fT b=some r/\fA b=some r/\(r=(0,false)\/∃n,r=(n,true)/\b=vY n /\ -2147483648<=n/\n<=2147483647):=by
 have hn':b.length<=1048576:=hn;unfold fT fA;rw[xU,Al,an,an];cases h14:uE (b.length:Int) 1 4 with
 | false=>exact⟨_,rfl,rfl,.inl rfl⟩
 | true =>
  obtain⟨k1,k4⟩:=vz h14
  match b,k1,k4,hb,hn' with
  | x0::l,k1,k4,hb,hn' =>
   have h3:l.length<=3:=by rw[length_cons]at k4;omega
   have h0:=hb x0 (by simp);have hl:wJ l:=λx hx=>hb x (mem_cons_of_mem _ hx)
   obtain⟨d1,d2,d3⟩:=NK hb h3;have hsg:-256<=xN x0/\xN x0<=256:=by unfold xN;split<;>omega
   have w0:uB x0=x0:=uX (by omega) (by omega);have hcut:cut (x0::l) 1 ((x0::l).length:Int)=some l:=by
    rw[show (1:Int)=((1:Nat):Int)from rfl,xR (by simp) (Nat.le_refl _),take_length];rfl
   have hfin:∀d:Int×Bool,True:=λ_=>trivial;have li:loop (λz:Int×Int=>eu l z.1 z.2) (xN x0,0)=some (wx (xN x0) l):=GN hsg hl h3 (off:=0) _ (by omega) (λk hk m=>by
    show eu l m ((0+k:Nat):Int)=_;rw[Nat.zero_add];unfold eu;rw[vj (by omega),cT,uO hk,an,uL (by omega),Nat.zero_add]) (λm=>by
    show eu l m ((0+l.length:Nat):Int)=_;rw[Nat.zero_add];unfold eu;rw[vd (by omega),cF])
   have hat:∀k (hk:k<l.length),at? (x0::l) ((1+k:Nat):Int)=some l[k]:=λk hk=>by
    rw[uO (by simp;omega)]
    congr 1
    rw[List.getElem_cons,dif_neg (by omega)]
    congr 1;omega
   have ls:loop (λz:Int×Int=>dU (x0::l) z.1 z.2) (xN x0,1)=some (wx (xN x0) l):=GN hsg hl h3 (off:=1) _ (by omega) (λk hk m=>by
    show dU (x0::l) m ((1+k:Nat):Int)=_;unfold dU;rw[vj (show ((1+k:Nat):Int)<((x0::l).length:Int) by rw[length_cons];omega),cT,hat k hk,an,uL (by omega)];rfl) (λm=>by
    show dU (x0::l) m ((1+l.length:Nat):Int)=_;unfold dU;rw[vd (show ¬((1+l.length:Nat):Int)<((x0::l).length:Int) by rw[length_cons];omega),cF])
   have ls1:loop (λz:Int×Int=>dV (x0::l) z.1 z.2) (xN x0,1)=some (wx (xN x0) l):=GN hsg hl h3 (off:=1) _ (by omega) (λk hk m=>by
    show dV (x0::l) m ((1+k:Nat):Int)=_;unfold dV;rw[vj (show ((1+k:Nat):Int)<((x0::l).length:Int) by rw[length_cons];omega),cT,hat k hk,an,uL (by omega)];rfl) (λm=>by
    show dV (x0::l) m ((1+l.length:Nat):Int)=_;unfold dV;rw[vd (show ¬((1+l.length:Nat):Int)<((x0::l).length:Int) by rw[length_cons];omega),cF])
   have fin1:∀(g:Option (List Int)),g=some (vY (wx (xN x0) l))->∃r,(g.bind λt30=>cond ((t30.length:Int) != ((x0::l).length:Int)) (some ((0:Int),false)) (some (wx (xN x0) l,true)))=some r/\(r=(0,false)\/∃n,r=(n,true)/\x0::l=vY n /\ -2147483648<=n/\n<=2147483647):=λg hg=>by
    rw[hg,an];cases he:(((vY (wx (xN x0) l)).length:Int) != ((x0::l).length:Int))with
    | true=>exact⟨_,rfl,.inl rfl⟩
    | false =>
     have he':((vY (wx (xN x0) l)).length:Int)=((x0::l).length:Int):=by simpa using he
     exact⟨_,rfl,.inr ⟨_,rfl,d3 (by omega),d1,d2⟩⟩
   have p1:=JZ (n:=wx (xN x0) l) ⟨by omega,by omega⟩;have p2:=CA (n:=wx (xN x0) l)
   rw[Bb ⟨d1,d2⟩]at p1 p2;obtain⟨r,f1,f2⟩:=fin1 _ p1;have f3:((bc (wx (xN x0) l)).bind λt30=>cond ((t30.length:Int) != ((x0::l).length:Int)) (some ((0:Int),false)) (some (wx (xN x0) l,true)))=some r:=by rw[p2,←p1];exact f1
   refine⟨r,?_,?_,f2⟩
   · rw[Bool.not_true,cF,show at? (x0::l) 0=some x0 from rfl,an];simp only;rw[hcut,an,i8 h0,li,an];exact f1
   · rw[Bool.not_true,cF,show at? (x0::l) 0=some x0 from rfl,an,w0];by_cases h7:x0>127
     · have hsx:uB (x0-256)=xN x0:=by unfold xN;rw[if_pos h7];exact uX (by omega) (by omega)
       rw[dT h7,cT,hsx,ls,an];exact f3
     · have hsx:xN x0=x0:=by unfold xN;rw[if_neg h7]
       rw[hsx]at ls1 f3;rw[dF h7,cF,ls1,an];exact f3

theorem Mo:((2^64:Nat):Int)=18446744073709551616:=by decide
theorem Ea {x:Int} (hx:0<=x/\x<9223372036854775808):xO .i64 x 127=x%128:=by
 show IntKind.i64.wrap (((BitVec.ofInt 64 x&&&BitVec.ofInt 64 127).toNat:Nat):Int)=_;rw[BitVec.toNat_and,BitVec.toNat_ofInt,BitVec.toNat_ofInt,Mo];have h2:((127:Int)%18446744073709551616).toNat=2^7-1:=by decide
 have h1:(x%18446744073709551616).toNat=x.toNat:=by omega
 rw[h1,h2,Nat.and_two_pow_sub_one_eq_mod];show (let z:=((x.toNat%2^7:Nat):Int)%18446744073709551616;if (true&&decide (z>=9223372036854775808))=true then z-18446744073709551616 else z)=_
 simp only[Bool.true_and,decide_eq_true_eq];split<;>omega
theorem EK {x:Int} (hx:0<=x/\x<=255):xO .u8 x 127=x%128:=by
 show IntKind.u8.wrap (((BitVec.ofInt 8 x&&&BitVec.ofInt 8 127).toNat:Nat):Int)=_;rw[BitVec.toNat_and,BitVec.toNat_ofInt,BitVec.toNat_ofInt,show ((2^8:Nat):Int)=256 by decide];have h2:((127:Int)%256).toNat=2^7-1:=by decide
 have h1:(x%256).toNat=x.toNat:=by omega
 rw[h1,h2,Nat.and_two_pow_sub_one_eq_mod];show (((x.toNat%2^7:Nat):Int)%256)=_
 omega
theorem RR {x:Int} (hx:0<=x/\x<128):BU .i64 x 128=x+128:=by
 show IntKind.i64.wrap (((BitVec.ofInt 64 x|||BitVec.ofInt 64 128).toNat:Nat):Int)=_;rw[BitVec.toNat_or,BitVec.toNat_ofInt,BitVec.toNat_ofInt,Mo];have h2:((128:Int)%18446744073709551616).toNat=2^7*1:=by decide
 have h1:(x%18446744073709551616).toNat=x.toNat:=by omega
 rw[h1,h2,Nat.or_comm,←Nat.two_pow_add_eq_or_of_lt (by show x.toNat<2^7;omega)];show (let z:=((2^7*1+x.toNat:Nat):Int)%18446744073709551616;if (true&&decide (z>=9223372036854775808))=true then z-18446744073709551616 else z)=_
 simp only[Bool.true_and,decide_eq_true_eq];split<;>omega
theorem Mp {m x:Int} (hm:0<=m/\m<=1099511627776) (hx:0<=x/\x<128):BU .i64 (uB (m*2^7)) (uB x)=m*128+x:=by
 rw[show m*2^7=m*128 from rfl,uX (show -9223372036854775808<=m*128 by omega) (by omega),uX (show -9223372036854775808<=x by omega) (by omega)];show IntKind.i64.wrap (((BitVec.ofInt 64 (m*128)|||BitVec.ofInt 64 x).toNat:Nat):Int)=_
 rw[BitVec.toNat_or,BitVec.toNat_ofInt,BitVec.toNat_ofInt,Mo];have h1:((m*128)%18446744073709551616).toNat=2^7*m.toNat:=by omega
 have h2:(x%18446744073709551616).toNat=x.toNat:=by omega
 rw[h1,h2,←Nat.two_pow_add_eq_or_of_lt (by show x.toNat<2^7;omega)];show (let z:=((2^7*m.toNat+x.toNat:Nat):Int)%18446744073709551616;if (true&&decide (z>=9223372036854775808))=true then z-18446744073709551616 else z)=_
 simp only[Bool.true_and,decide_eq_true_eq];split<;>omega
def grp (n:Int):List Int:=if n<=127 then [n]else if n<=16383 then [n/128+128,n%128]else if n<=2097151 then [n/16384+128,n/128%128+128,n%128]else [n/2097152+128,n/16384%128+128,n/128%128+128,n%128]
def vp (o:List Int):List Int:=o.flatMap grp
theorem OR {n:Int} (hn:0<=n/\n<268435456):dO n=some (grp n):=by
 unfold dO;have st:∀(x:Int) (out:List Int),0<=x/\x<268435456->out.length<=10->bY x out=cond (decide (x>127)) (some (.inl (x/128,(x/128%128+128)::out))) (some (.inr out)):=λx out hx ho=>by
  unfold bY;rw[fd x (by decide),show (2:Int)^7=128 from rfl,Ea (by omega),RR (by omega),w8,uG (by simp;omega),an,show (x/128%128+128)%256=x/128%128+128 by omega];rfl
 have goes:∀(x:Int) (out:List Int),0<=x/\x<268435456->out.length<=9->x<=127->loop (λz:Int×List Int=>bY z.1 z.2) (x,out)=some out:=λx out hx ho h=>ve (by show bY x out=_;rw[st x out hx (by omega),dF (by omega)];rfl);have more:∀(x:Int) (out r:List Int),0<=x/\x<268435456->out.length<=9->127<x->loop (λz:Int×List Int=>bY z.1 z.2) (x/128,(x/128%128+128)::out)=some r->loop (λz:Int×List Int=>bY z.1 z.2) (x,out)=some r:=λx out r hx ho h k=>v7 (by show bY x out=_;rw[st x out hx (by omega),dT (by omega)];rfl) k
 rw[Ea (by omega),w8,show n%128%256=n%128 by omega];unfold grp;by_cases h1:n<=127
 · rw[if_pos h1,goes n _ hn (by simp) h1,show n%128=n by omega];rfl
 rw[if_neg h1];by_cases h2:n<=16383
 · rw[if_pos h2,more n _ _ hn (by simp) (by omega) (goes (n/128) _ (by omega) (by simp) (by omega)),show n/128%128=n/128 by omega];rfl
 rw[if_neg h2];by_cases h3:n<=2097151
 · rw[if_pos h3,more n _ _ hn (by simp) (by omega) (more (n/128) _ _ (by omega) (by simp) (by omega) (goes (n/128/128) _ (by omega) (by simp) (by omega))),show n/128/128=n/16384 by omega,show n/16384%128=n/16384 by omega];rfl
 rw[if_neg h3,more n _ _ hn (by simp) (by omega) (more (n/128) _ _ (by omega) (by simp) (by omega) (more (n/128/128) _ _ (by omega) (by simp) (by omega) (goes (n/128/128/128) _ (by omega) (by simp) (by omega)))),show n/128/128=n/16384 by omega,show n/16384/128=n/2097152 by omega,show n/2097152%128=n/2097152 by omega];rfl
theorem I2 (n:Int):(grp n).length<=4:=by unfold grp;split<;>(try split)<;>(try split)<;>simp
theorem L8 (n:Int):1<=(grp n).length:=by unfold grp;split<;>(try split)<;>(try split)<;>simp
theorem OS {n:Int} (h:n<=100000):(grp n).length<=3:=by unfold grp;split<;>(try split)<;>(try split)<;>simp<;>omega
theorem Aq {o:List Int} (h:∀x∈o,x<=100000):(vp o).length<=3*o.length:=by
 induction o with
 | nil=>simp[vp]
 | cons x t ih =>
  have h1:=ih λy hy=>h y (mem_cons_of_mem _ hy);have h2:=OS (h x (by simp))
  unfold vp at h1 ⊢;rw[List.flatMap_cons,length_append,length_cons];omega
theorem TP {n:Int} (hn:0<=n/\n<=100000) {out:List Int} (ho:out.length<=100):∃d,loop (λz=>cj n z) 0=some d/\∃e,loop (λz:Int×List Int=>dj n z.1 z.2) (d,out)=some e/\e.length<=104/\e++[IntKind.u8.wrap (xO .i64 n 127)]=out++grp n:=by
 have s0:cj n 0=cond (decide (n>127)) (some (.inl 1)) (some (.inr 0)):=by
  unfold cj;rw[show shr .i64 n (uB (7*0))=some (n.fdiv (2^0))from rfl,an,fd n (by decide),show n/2^0=n by simp];rfl
 have s1:cj n 1=cond (decide (n/128>127)) (some (.inl 2)) (some (.inr 1)):=by
  unfold cj;rw[show shr .i64 n (uB (7*1))=some (n.fdiv (2^7))from rfl,an,fd n (by decide),show (2:Int)^7=128 from rfl];rfl
 have s2:cj n 2=some (.inr 2):=by
  unfold cj;rw[show shr .i64 n (uB (7*2))=some (n.fdiv (2^14))from rfl,an,fd n (by decide),show (2:Int)^14=16384 from rfl,dF (by omega)];rfl
 have t0:∀o:List Int,dj n 0 o=some (.inr o):=λo=>rfl;have t1:∀o:List Int,o.length<=110->dj n 1 o=some (.inl (0,o++[n/128%128+128])):=λo ho=>by
  unfold dj;rw[show shr .i64 n (uB (7*1))=some (n.fdiv (2^7))from rfl,an,fd n (by decide),show (2:Int)^7=128 from rfl,Ea (by omega),uX (by omega) (by omega),w8,uG (by simp;omega),an,show (n/128%128+128)%256=n/128%128+128 by omega];rfl
 have t2:∀o:List Int,o.length<=110->dj n 2 o=some (.inl (1,o++[n/16384%128+128])):=λo ho=>by
  unfold dj;rw[show shr .i64 n (uB (7*2))=some (n.fdiv (2^14))from rfl,an,fd n (by decide),show (2:Int)^14=16384 from rfl,Ea (by omega),uX (by omega) (by omega),w8,uG (by simp;omega),an,show (n/16384%128+128)%256=n/16384%128+128 by omega];rfl
 rw[Ea (by omega),w8,show n%128%256=n%128 by omega];unfold grp;by_cases h1:n<=127
 · rw[dF (by omega)]at s0;refine⟨0,ve s0,out,ve (t0 out),by omega,?_⟩;rw[if_pos h1,show n%128=n by omega]
 rw[dT (by omega)]at s0;by_cases h2:n<=16383
 · rw[dF (by omega)]at s1;refine⟨1,v7 s0 (ve s1),_,v7 (t1 out (by omega)) (ve (t0 _)),by simp;omega,?_⟩;rw[if_neg h1,if_pos h2,show n/128%128=n/128 by omega];simp
 rw[dT (by omega)]at s1;refine⟨2,v7 s0 (v7 s1 (ve s2)),_,v7 (t2 out (by omega)) (v7 (t1 _ (by simp;omega)) (ve (t0 _))),by simp;omega,?_⟩;rw[if_neg h1,if_neg h2,if_pos (by omega),show n/16384%128=n/16384 by omega];simp
theorem RS {o:List Int} (hn:o.length<=M):∃v,am o=some v/\(v=true->1<=o.length/\o.length<=10/\∀x∈o,0<=x/\x<=100000)/\dk o=some (cond v (vp o) []):=by
 have hn':o.length<=1048576:=hn;obtain⟨v,hv,hv2⟩:∃v,am o=some v/\(v=true->1<=o.length/\o.length<=10/\∀x∈o,0<=x/\x<=100000):=by
  unfold am;obtain⟨b,h1,h2⟩:=uS (β:=Unit⊕Bool) (step:=λz=>aU o z) (λk i=>i=(k:Int)/\∀x∈o.take k,0<=x/\x<=100000) o.length (λb=>(b=.inl ()/\∀x∈o,0<=x/\x<=100000)\/b=.inr false)
   (λk i hk ⟨e,hx⟩=>by
    subst e;have hs:aU o (k:Int)=cond (!(uE o[k] 0 100000)) (some (.inr (.inr false))) (some (.inl ((k+1:Nat):Int))):=by
     unfold aU;rw[vj (by omega),cT,uO hk,an,xU,an,uL (by omega)]
    cases hp:uE o[k] 0 100000 with
    | false=>exact .inr ⟨_,by rw[hs,hp];rfl,.inr rfl⟩
    | true =>
     refine .inl ⟨_,by rw[hs,hp];rfl,rfl,λx hx'=>?_⟩;rw[take_add_one,List.getElem?_eq_getElem hk,mem_append]at hx';rcases hx' with hx'|hx'
     · exact hx x hx'
     · simp at hx';subst hx';exact vz hp)
   (λi ⟨e,hx⟩=>by
    subst e;rw[take_length]at hx;refine⟨.inl (),?_,.inl ⟨rfl,hx⟩⟩;unfold aU;rw[vd (by omega),cF]) (x:=0) ⟨rfl,by simp⟩
  rw[h1,an];rcases h2 with ⟨rfl,hx⟩|rfl
  · simp only[Sum.elim_inl,xU,an];refine⟨_,rfl,λh=>?_⟩;have:=vz h
    exact⟨by omega,by omega,hx⟩
  · exact⟨false,rfl,λh=>by cases h⟩
 refine⟨v,hv,hv2,?_⟩;unfold dk;rw[hv,an];cases v with
 | false=>rfl
 | true =>
  obtain⟨h1,h10,hx⟩:=hv2 rfl;obtain⟨b,e1,rfl⟩:=uS (step:=λz:Int×List Int=>ev o z.1 z.2) (λk z=>z=((k:Int),vp (o.take k))) o.length (λb=>b=vp o)
   (λk z hk e=>by
    subst e;left;have hl:(vp (o.take k)).length<=30:=by
     have:=Aq (o:=o.take k) λx hx'=>(hx x (mem_of_mem_take hx')).2;rw[length_take]at this;omega
    obtain⟨d,d1,e,e1,e2,e3⟩:=TP (hx _ (getElem_mem hk)) (out:=vp (o.take k)) (by omega);have ht:vp (o.take (k+1))=vp (o.take k)++grp o[k]:=by
     unfold vp;rw[take_add_one,List.getElem?_eq_getElem hk,flatMap_append];simp
    refine⟨_,?_,rfl⟩;show ev o (k:Int) (vp (o.take k))=_
    unfold ev;rw[vj (by omega),cT,uO hk,an,d1,an,e1,an,uG (by simp;omega),an,uL (by omega),ht,←e3])
   (λz e=>by
    subst e;refine⟨vp o,?_,rfl⟩;show ev o (o.length:Int) (vp (o.take o.length))=_
    unfold ev;rw[vd (by omega),cF,take_length]) (x:=(0,[])) rfl
  rw[e1];rfl

theorem I4 {n:Int} (h:0<=n/\n<268435456):wJ (grp n):=by
 unfold grp;intro x hx;split at hx
 · simp at hx;omega
 · split at hx
   · simp at hx;omega
   · split at hx
     · simp at hx;omega
     · simp at hx;omega
theorem SS {pre rest out:List Int} {n:Int} (hn:0<=n/\n<=100000) (hp:pre.length<=30) (ho:out.length<=100) {r:List Int⊕(Bool×List Int)}
 (k:loop (λz:Int×Int×List Int=>ax (pre++(grp n++rest)) z.1 z.2.1 z.2.2) (0,((pre.length+(grp n).length:Nat):Int),out++[n])=some r) :
 loop (λz:Int×Int×List Int=>ax (pre++(grp n++rest)) z.1 z.2.1 z.2.2) (0,(pre.length:Int),out)=some r:=by
 have hg:=I4 (n:=n) (by omega);have st:∀(m:Int) (j:Nat) (o:List Int) (hj:j<(grp n).length),0<=m/\m<=1048576->o.length<=100->ax (pre++(grp n++rest)) m ((pre.length+j:Nat):Int) o=cond (decide ((grp n)[j]<128)) (some (.inl (0,((pre.length+(j+1):Nat):Int),o++[m*128+(grp n)[j]%128]))) (some (.inl (m*128+(grp n)[j]%128,((pre.length+(j+1):Nat):Int),o))):=λm j o hj hm ho=>by
  have h4:=I2 n;have hx:=hg _ (getElem_mem hj)
  have hat:at? (pre++(grp n++rest)) ((pre.length+j:Nat):Int)=some (grp n)[j]:=by
   rw[E9,uO (by rw[length_append];omega),List.getElem_append_left hj]
  unfold ax;rw[vj (show ((pre.length+j:Nat):Int)<((pre++(grp n++rest)).length:Int) by rw[length_append,length_append];omega),cT,hat,an,dF (show ¬((pre.length+j:Nat):Int)>=40 by omega),cF,EK hx,uL (by omega)];have hmin:min2 m 1048576=m:=by unfold min2;split<;>omega
  rw[hmin,Mp (by omega) (by omega)];simp only;rw[uG (by simp;omega),an];rfl
 have h4:=I2 n;have hz:(0:Int)*128=0:=rfl
 unfold grp at k st ⊢;by_cases h1:n<=127
 · rw[if_pos h1]at k st ⊢;have s0:=st 0 0 out (by simp) (by omega) ho
   simp only[getElem_cons_zero,Nat.add_zero]at s0;rw[dT (by omega),cT,show (0:Int)*128+n%128=n by omega]at s0;exact v7 s0 k
 rw[if_neg h1]at k st ⊢;by_cases h2:n<=16383
 · rw[if_pos h2]at k st ⊢;have s0:=st 0 0 out (by simp) (by omega) ho
   have s1:=st (n/128) 1 out (by simp) (by omega) ho;simp only[getElem_cons_zero,getElem_cons_succ,Nat.add_zero,Nat.zero_add,Nat.reduceAdd]at s0 s1;rw[dF (by omega),cF,show (0:Int)*128+(n/128+128)%128=n/128 by omega]at s0;rw[dT (by omega),cT,show n/128*128+n%128%128=n by omega]at s1;exact v7 s0 (v7 s1 k)
 rw[if_neg h2]at k st ⊢;rw[if_pos (show n<=2097151 by omega)]at k st ⊢;have s0:=st 0 0 out (by simp) (by omega) ho
 have s1:=st (n/16384) 1 out (by simp) (by omega) ho;have s2:=st (n/128) 2 out (by simp) (by omega) ho
 simp only[getElem_cons_zero,getElem_cons_succ,Nat.add_zero,Nat.zero_add,Nat.reduceAdd]at s0 s1 s2;rw[dF (by omega),cF,show (0:Int)*128+(n/16384+128)%128=n/16384 by omega]at s0;rw[dF (by omega),cF,show n/16384*128+(n/128%128+128)%128=n/128 by omega]at s1;rw[dT (by omega),cT,show n/128*128+n%128%128=n by omega]at s2;exact v7 s0 (v7 s1 (v7 s2 k))
theorem K1 {b:List Int}:∀(o pre out:List Int),b=pre++vp o->(∀x∈o,0<=x/\x<=100000)->b.length<=30->out.length+o.length<=20->loop (λz:Int×Int×List Int=>ax b z.1 z.2.1 z.2.2) (0,(pre.length:Int),out)=some (.inl (out++o))
 | [],pre,out,e,_,hb,_=>by
  have:b.length=pre.length:=by rw[e];simp[vp]
  refine ve ?_;show ax b 0 (pre.length:Int) out=_
  unfold ax;rw[vd (by omega),cF,append_nil]
 | n::o,pre,out,e,hx,hb,hl=>by
  have e1:b=pre++(grp n++vp o):=by rw[e];rfl
  have e2:b=(pre++grp n)++vp o:=by rw[e1,append_assoc]
  have ih:=K1 o (pre++grp n) (out++[n]) e2 (λx h=>hx x (mem_cons_of_mem _ h)) hb (by simp at hl ⊢;omega);rw[length_append,append_assoc]at ih;have hpl:pre.length<=30:=by rw[e1,length_append]at hb;omega
  rw[length_cons]at hl;rw[e1]at ih ⊢;exact SS (hx n (by simp)) hpl (by omega) ih
theorem ST {b pre s:List Int} (e:b=pre++s) (hb:wJ b) (hn:b.length<=M):∃d:Int×Int×Int×Bool,loop (λz:Int×Int×Int×Bool=>aI b z.1 z.2.1 z.2.2.1 z.2.2.2) ((pre.length:Int),0,0,true)=some d /\
 (d.2.2.2=true\/∃l rest:List Int,s=l++rest/\1<=l.length/\d=(((pre.length+l.length:Nat):Int),d.2.1,(l.length:Int),false)/\0<=d.2.1/\d.2.1<268435456/\((grp d.2.1).length=l.length->l=grp d.2.1))/\0<=d.2.1/\d.2.1<268435456/\0<=d.1/\d.1<=(b.length:Int):=by
 have hn':b.length<=1048576:=hn;have hlen:b.length=pre.length+s.length:=by rw[e,length_append]
 have st:∀(m:Int) (j:Nat) (hj:j<s.length),j<4->0<=m/\m<=2097152->aI b ((pre.length+j:Nat):Int) m (j:Int) true=some (.inl (((pre.length+(j+1):Nat):Int),m*128+s[j]%128,((j+1:Nat):Int),decide (s[j]>127))):=λm j hj h4 hm=>by
  have hx:0<=s[j]/\s[j]<=255:=hb _ (by rw[e];exact List.mem_append_right _ (getElem_mem hj));have hat:at? b ((pre.length+j:Nat):Int)=some s[j]:=by rw[e,E9,uO hj]
  unfold aI;rw[vj (show ((pre.length+j:Nat):Int)<(b.length:Int) by omega),cT,an,cT,vj (show (j:Int)<4 by omega),an,cT,hat,an,an,EK hx,Mp (by omega) (by omega),uL (by omega),uL (by omega)];rfl
 have stop:∀(m:Int) (j:Nat),aI b ((pre.length+j:Nat):Int) m (j:Int) false=some (.inr (((pre.length+j:Nat):Int),m,(j:Int),false)):=λm j=>by
  unfold aI;rfl
 have endd:∀(m:Int) (j:Nat),(s.length<=j\/4<=j)->aI b ((pre.length+j:Nat):Int) m (j:Int) true=some (.inr (((pre.length+j:Nat):Int),m,(j:Int),true)):=λm j h=>by
  unfold aI;rw[cT,an];by_cases h1:((pre.length+j:Nat):Int)<(b.length:Int)
  · rw[vj h1,cT,vd (show ¬(j:Int)<4 by omega)];rfl
  · rw[vd h1,cF];rfl
 have hsx:∀j (hj:j<s.length),0<=s[j]/\s[j]<=255:=λj hj=>hb _ (by rw[e];exact List.mem_append_right _ (getElem_mem hj));by_cases l0:s.length<=0
 · exact⟨_,ve (endd 0 0 (.inl l0)),.inl rfl,by show (0:Int)<=0/\(0:Int)<_/\_;omega⟩
 have a0:=st 0 0 (by omega) (by omega) (by omega);have x0:=hsx 0 (by omega)
 generalize g0:s[0]=y0 at a0 x0;by_cases m0:y0>127
 · rw[dT m0]at a0;by_cases l1:s.length<=1
   · exact⟨_,v7 a0 (ve (endd _ 1 (.inl l1))),.inl rfl,by show 0<=(0:Int)*128+y0%128/\(0:Int)*128+y0%128<_/\(0:Int)<=((pre.length+1:Nat):Int)/\((pre.length+1:Nat):Int)<=_;omega⟩
   have a1:=st (0*128+y0%128) 1 (by omega) (by omega) (by omega);have x1:=hsx 1 (by omega)
   generalize g1:s[1]=y1 at a1 x1;by_cases m1:y1>127
   · rw[dT m1]at a1;by_cases l2:s.length<=2
     · exact⟨_,v7 a0 (v7 a1 (ve (endd _ 2 (.inl l2)))),.inl rfl,by show 0<=((0:Int)*128+y0%128)*128+y1%128/\((0:Int)*128+y0%128)*128+y1%128<_/\(0:Int)<=((pre.length+2:Nat):Int)/\((pre.length+2:Nat):Int)<=_;omega⟩
     have a2:=st ((0*128+y0%128)*128+y1%128) 2 (by omega) (by omega) (by omega);have x2:=hsx 2 (by omega)
     generalize g2:s[2]=y2 at a2 x2;by_cases m2:y2>127
     · rw[dT m2]at a2;by_cases l3:s.length<=3
       · exact⟨_,v7 a0 (v7 a1 (v7 a2 (ve (endd _ 3 (.inl l3))))),.inl rfl,by show 0<=(((0:Int)*128+y0%128)*128+y1%128)*128+y2%128/\(((0:Int)*128+y0%128)*128+y1%128)*128+y2%128<_/\(0:Int)<=((pre.length+3:Nat):Int)/\((pre.length+3:Nat):Int)<=_;omega⟩
       have a3:=st (((0*128+y0%128)*128+y1%128)*128+y2%128) 3 (by omega) (by omega) (by omega);have x3:=hsx 3 (by omega)
       generalize g3:s[3]=y3 at a3 x3;by_cases m3:y3>127
       · rw[dT m3]at a3;exact⟨_,v7 a0 (v7 a1 (v7 a2 (v7 a3 (ve (endd _ 4 (.inr (by omega))))))),.inl rfl,by show 0<=((((0:Int)*128+y0%128)*128+y1%128)*128+y2%128)*128+y3%128/\((((0:Int)*128+y0%128)*128+y1%128)*128+y2%128)*128+y3%128<_/\(0:Int)<=((pre.length+4:Nat):Int)/\((pre.length+4:Nat):Int)<=_;omega⟩
       · rw[dF m3]at a3;have d0:s.drop 0=s[0]::s.drop 1:=drop_eq_getElem_cons (by omega)
         have d1:s.drop 1=s[1]::s.drop 2:=drop_eq_getElem_cons (by omega);have d2:s.drop 2=s[2]::s.drop 3:=drop_eq_getElem_cons (by omega)
         have d3:s.drop 3=s[3]::s.drop 4:=drop_eq_getElem_cons (by omega);have hs:s=y0::y1::y2::y3::s.drop 4:=by
          rw[drop_zero]at d0;exact d0.trans (by rw[g0,d1,g1,d2,g2,d3,g3])
         refine⟨_,v7 a0 (v7 a1 (v7 a2 (v7 a3 (ve (stop _ 4))))),.inr ⟨[y0,y1,y2,y3],s.drop 4,hs,by simp,rfl,?_,?_,?_⟩,?_⟩
         · show 0<=((((0:Int)*128+y0%128)*128+y1%128)*128+y2%128)*128+y3%128;omega
         · show ((((0:Int)*128+y0%128)*128+y1%128)*128+y2%128)*128+y3%128<_;omega
         · show (grp (((((0:Int)*128+y0%128)*128+y1%128)*128+y2%128)*128+y3%128)).length=_->_=grp (((((0:Int)*128+y0%128)*128+y1%128)*128+y2%128)*128+y3%128);intro h;generalize hv:((((0:Int)*128+y0%128)*128+y1%128)*128+y2%128)*128+y3%128=v at h ⊢;unfold grp at h ⊢;split at h
           · simp at h
           · split at h
             · simp at h
             · split at h
               · simp at h
               · next q1 q2 q3=>rw[if_neg q1,if_neg q2,if_neg q3,show v/2097152+128=y0 by omega,show v/16384%128+128=y1 by omega,show v/128%128+128=y2 by omega,show v%128=y3 by omega]
         · show 0<=((((0:Int)*128+y0%128)*128+y1%128)*128+y2%128)*128+y3%128/\((((0:Int)*128+y0%128)*128+y1%128)*128+y2%128)*128+y3%128<_/\(0:Int)<=((pre.length+4:Nat):Int)/\((pre.length+4:Nat):Int)<=_;omega
     · rw[dF m2]at a2;have d0:s.drop 0=s[0]::s.drop 1:=drop_eq_getElem_cons (by omega)
       have d1:s.drop 1=s[1]::s.drop 2:=drop_eq_getElem_cons (by omega);have d2:s.drop 2=s[2]::s.drop 3:=drop_eq_getElem_cons (by omega)
       have hs:s=y0::y1::y2::s.drop 3:=by
        rw[drop_zero]at d0;exact d0.trans (by rw[g0,d1,g1,d2,g2])
       refine⟨_,v7 a0 (v7 a1 (v7 a2 (ve (stop _ 3)))),.inr ⟨[y0,y1,y2],s.drop 3,hs,by simp,rfl,?_,?_,?_⟩,?_⟩
       · show 0<=(((0:Int)*128+y0%128)*128+y1%128)*128+y2%128;omega
       · show (((0:Int)*128+y0%128)*128+y1%128)*128+y2%128<_;omega
       · show (grp ((((0:Int)*128+y0%128)*128+y1%128)*128+y2%128)).length=_->_=grp ((((0:Int)*128+y0%128)*128+y1%128)*128+y2%128);intro h;generalize hv:(((0:Int)*128+y0%128)*128+y1%128)*128+y2%128=v at h ⊢;unfold grp at h ⊢;split at h
         · simp at h
         · split at h
           · simp at h
           · split at h
             · next q1 q2 q3=>rw[if_neg q1,if_neg q2,if_pos q3,show v/16384+128=y0 by omega,show v/128%128+128=y1 by omega,show v%128=y2 by omega]
             · simp at h
       · show 0<=(((0:Int)*128+y0%128)*128+y1%128)*128+y2%128/\(((0:Int)*128+y0%128)*128+y1%128)*128+y2%128<_/\(0:Int)<=((pre.length+3:Nat):Int)/\((pre.length+3:Nat):Int)<=_;omega
   · rw[dF m1]at a1;have d0:s.drop 0=s[0]::s.drop 1:=drop_eq_getElem_cons (by omega)
     have d1:s.drop 1=s[1]::s.drop 2:=drop_eq_getElem_cons (by omega);have hs:s=y0::y1::s.drop 2:=by
      rw[drop_zero]at d0;exact d0.trans (by rw[g0,d1,g1])
     refine⟨_,v7 a0 (v7 a1 (ve (stop _ 2))),.inr ⟨[y0,y1],s.drop 2,hs,by simp,rfl,?_,?_,?_⟩,?_⟩
     · show 0<=((0:Int)*128+y0%128)*128+y1%128;omega
     · show ((0:Int)*128+y0%128)*128+y1%128<_;omega
     · show (grp (((0:Int)*128+y0%128)*128+y1%128)).length=_->_=grp (((0:Int)*128+y0%128)*128+y1%128);intro h;generalize hv:((0:Int)*128+y0%128)*128+y1%128=v at h ⊢;unfold grp at h ⊢;split at h
       · simp at h
       · split at h
         · next q1 q2=>rw[if_neg q1,if_pos q2,show v/128+128=y0 by omega,show v%128=y1 by omega]
         · split at h<;>simp at h
     · show 0<=((0:Int)*128+y0%128)*128+y1%128/\((0:Int)*128+y0%128)*128+y1%128<_/\(0:Int)<=((pre.length+2:Nat):Int)/\((pre.length+2:Nat):Int)<=_;omega
 · rw[dF m0]at a0;have d0:s.drop 0=s[0]::s.drop 1:=drop_eq_getElem_cons (by omega)
   have hs:s=y0::s.drop 1:=by
    rw[drop_zero]at d0;exact d0.trans (by rw[g0])
   refine⟨_,v7 a0 (ve (stop _ 1)),.inr ⟨[y0],s.drop 1,hs,by simp,rfl,?_,?_,?_⟩,?_⟩
   · show 0<=(0:Int)*128+y0%128;omega
   · show (0:Int)*128+y0%128<_;omega
   · show (grp ((0:Int)*128+y0%128)).length=_->_=grp ((0:Int)*128+y0%128);intro h;generalize hv:(0:Int)*128+y0%128=v at h ⊢;unfold grp at h ⊢;split at h
     · next q1=>rw[if_pos q1,show v=y0 by omega]
     · split at h
       · simp at h
       · split at h<;>simp at h
   · show 0<=(0:Int)*128+y0%128/\(0:Int)*128+y0%128<_/\(0:Int)<=((pre.length+1:Nat):Int)/\((pre.length+1:Nat):Int)<=_;omega

def TQ (o:List Int):Prop:=1<=o.length/\o.length<=10/\∀x∈o,0<=x/\x<=100000
theorem SU {pre rest:List Int} {n:Int} (hn:0<=n/\n<=100000) (hp:pre.length<=1000):loop (λz:Int×Int×Int×Bool=>aI (pre++(grp n++rest)) z.1 z.2.1 z.2.2.1 z.2.2.2) ((pre.length:Int),0,0,true)=some (((pre.length+(grp n).length:Nat):Int),n,((grp n).length:Int),false):=by
 have hg:=I4 (n:=n) (by omega);have st:∀(m:Int) (j:Nat) (hj:j<(grp n).length),j<4->0<=m/\m<=2097152->aI (pre++(grp n++rest)) ((pre.length+j:Nat):Int) m (j:Int) true=some (.inl (((pre.length+(j+1):Nat):Int),m*128+(grp n)[j]%128,((j+1:Nat):Int),decide ((grp n)[j]>127))):=λm j hj h4 hm=>by
  have hx:=hg _ (getElem_mem hj);have hat:at? (pre++(grp n++rest)) ((pre.length+j:Nat):Int)=some (grp n)[j]:=by rw[E9,uO (by rw[length_append];omega),List.getElem_append_left hj]
  unfold aI;rw[vj (show ((pre.length+j:Nat):Int)<((pre++(grp n++rest)).length:Int) by rw[length_append,length_append];omega),cT,an,cT,vj (show (j:Int)<4 by omega),an,cT,hat,an,an,EK hx,Mp (by omega) (by omega),uL (by omega),uL (by omega)];rfl
 have stop:∀(m:Int) (j:Nat),aI (pre++(grp n++rest)) ((pre.length+j:Nat):Int) m (j:Int) false=some (.inr (((pre.length+j:Nat):Int),m,(j:Int),false)):=λm j=>by
  unfold aI;rfl
 unfold grp at st stop ⊢;by_cases h1:n<=127
 · rw[if_pos h1]at st stop ⊢;have s0:=st 0 0 (by simp) (by omega) (by omega)
   simp only[getElem_cons_zero]at s0;rw[dF (by omega),show (0:Int)*128+n%128=n by omega]at s0;exact v7 s0 (ve (stop n 1))
 rw[if_neg h1]at st stop ⊢;by_cases h2:n<=16383
 · rw[if_pos h2]at st stop ⊢;have s0:=st 0 0 (by simp) (by omega) (by omega)
   have s1:=st (n/128) 1 (by simp) (by omega) (by omega);simp only[getElem_cons_zero,getElem_cons_succ]at s0 s1;rw[dT (by omega),show (0:Int)*128+(n/128+128)%128=n/128 by omega]at s0;rw[dF (by omega),show n/128*128+n%128%128=n by omega]at s1;exact v7 s0 (v7 s1 (ve (stop n 2)))
 rw[if_neg h2]at st stop ⊢;rw[if_pos (show n<=2097151 by omega)]at st stop ⊢;have s0:=st 0 0 (by simp) (by omega) (by omega)
 have s1:=st (n/16384) 1 (by simp) (by omega) (by omega);have s2:=st (n/128) 2 (by simp) (by omega) (by omega)
 simp only[getElem_cons_zero,getElem_cons_succ]at s0 s1 s2;rw[dT (by omega),show (0:Int)*128+(n/16384+128)%128=n/16384 by omega]at s0;rw[dT (by omega),show n/16384*128+(n/128%128+128)%128=n/128 by omega]at s1;rw[dF (by omega),show n/128*128+n%128%128=n by omega]at s2;exact v7 s0 (v7 s1 (v7 s2 (ve (stop n 3))))
theorem K2 {b:List Int}:∀(o pre out:List Int),b=pre++vp o->(∀x∈o,0<=x/\x<=100000)->b.length<=30->out.length+o.length<=10->loop (λz:Int×List Int=>au b z.1 z.2) ((pre.length:Int),out)=some (.inl ((b.length:Int),out++o))
 | [],pre,out,e,_,hb,_=>by
  have hbl:b.length=pre.length:=by rw[e];simp[vp]
  refine ve ?_;show au b (pre.length:Int) out=_
  unfold au;rw[vd (by omega),cF,an,cF,append_nil,hbl]
 | n::o,pre,out,e,hx,hb,hl=>by
  have e1:b=pre++(grp n++vp o):=by rw[e];rfl
  have e2:b=(pre++grp n)++vp o:=by rw[e1,append_assoc]
  rw[length_cons]at hl;have ih:=K2 o (pre++grp n) (out++[n]) e2 (λx h=>hx x (mem_cons_of_mem _ h)) hb (by simp;omega)
  rw[length_append,append_assoc]at ih;have hpl:pre.length<=30:=by rw[e1,length_append]at hb;omega
  have hg1:=L8 n;have hbl:b.length=pre.length+(grp n).length+(vp o).length:=by rw[e2,length_append,length_append]
  have hr:=SU (pre:=pre) (rest:=vp o) (hx n (by simp)) (by omega);rw[←e1]at hr;refine v7 ?_ ih;show au b (pre.length:Int) out=_
  unfold au;rw[vj (show (pre.length:Int)<(b.length:Int) by omega),cT,dT (show (out.length:Int)<=10 by omega),an,cT,hr,an];have hx':=hx n (by simp)
  simp only[cF];rw[OR (by omega),an,an];simp only[bne_self_eq_false,cF];rw[uG (by simp;omega),an]
theorem K3 (a:List Int) (n:Int):vp (a++[n])=vp a++grp n:=by unfold vp;rw[flatMap_append];simp
theorem RT {b:List Int} (hb:wJ b) (hn:b.length<=M):∃v,loop (λz:Int×List Int=>au b z.1 z.2) (0,[])=some v/\(v=.inr (false,[])\/∃out s,v=.inl (((vp out).length:Int),out)/\b=vp out++s/\out.length<=11):=by
 have hn':b.length<=1048576:=hn;exact uS (step:=λz:Int×List Int=>au b z.1 z.2) (λk z=>z.2.length=k/\z.1=((vp z.2).length:Int)/\∃s,b=vp z.2++s) 11 (λv=>v=.inr (false,[])\/∃out s,v=.inl (((vp out).length:Int),out)/\b=vp out++s/\out.length<=11)
  (λk z hk ⟨z1,z2,s,z3⟩=>by
   obtain⟨i,out⟩:=z;simp only at z1 z2 z3;subst z2;have hbl:b.length=(vp out).length+s.length:=by rw[←length_append,←z3]
   by_cases hlt:((vp out).length:Int)<(b.length:Int)
   · obtain⟨d,d1,d2,d3,d4,d5,d6⟩:=ST z3 hb hn;have hs:au b ((vp out).length:Int) out=(cond d.2.2.2 (some true) ((dO d.2.1).bind λt51=>some ((t51.length:Int) != d.2.2.1))).bind λt55=>cond t55 (some (.inr (.inr (false,([]:List Int))))) ((uV out [d.2.1]).bind λzs60=>some (.inl (d.1,zs60))):=by
      unfold au;rw[vj hlt,cT,dT (show (out.length:Int)<=10 by omega),an,cT,d1,an]
     show (∃y,au b ((vp out).length:Int) out=some (.inl y)/\_)\/∃v,au b ((vp out).length:Int) out=some (.inr v)/\_;rw[hs];rcases d2 with d2|⟨l,rest,q1,q2,q3,q4,q5,q6⟩
     · rw[d2];exact .inr ⟨_,rfl,.inl rfl⟩
     · have qb:d.2.2.2=false:=by rw[q3]
       have ql:d.2.2.1=(l.length:Int):=by rw[q3]
       have qa:d.1=(((vp out).length+l.length:Nat):Int):=by rw[q3]
       rw[qb,cF,OR ⟨q4,q5⟩,an,an,ql];cases hne:(((grp d.2.1).length:Int) != (l.length:Int))with
       | true=>exact .inr ⟨_,rfl,.inl rfl⟩
       | false =>
        have he:((grp d.2.1).length:Int)=(l.length:Int):=by simpa using hne
        have hl:=q6 (by omega);refine .inl ⟨_,by rw[cF,uG (by simp;omega),an],by simp;omega,?_,rest,?_⟩
        · show d.1=((vp (out++[d.2.1])).length:Int);rw[K3,length_append,qa,←hl]
        · show b=vp (out++[d.2.1])++rest;rw[K3,←hl,append_assoc,←q1];exact z3
   · refine .inr ⟨.inl (((vp out).length:Int),out),?_,.inr ⟨out,s,rfl,z3,by omega⟩⟩;show au b ((vp out).length:Int) out=_
     unfold au;rw[vd hlt];rfl)
  (λz ⟨z1,z2,s,z3⟩=>by
   obtain⟨i,out⟩:=z;simp only at z1 z2 z3;subst z2;refine⟨.inl (((vp out).length:Int),out),?_,.inr ⟨out,s,rfl,z3,by omega⟩⟩;show au b ((vp out).length:Int) out=_
   unfold au;by_cases hlt:((vp out).length:Int)<(b.length:Int)
   · rw[vj hlt,cT,dF (by omega)];rfl
   · rw[vd hlt];rfl) (x:=(0,[])) ⟨rfl,rfl,b,rfl⟩
theorem ID:∀{a b:List Int},wJ a->wJ b->vW a=vW b->a=b
 | [],[],_,_,_=>rfl
 | [],_::_,_,_,h=>by simp[vW]at h
 | _::_,[],_,_,h=>by simp[vW]at h
 | x::a,y::b,ha,hb,h=>by
  unfold vW at h;rw[map_cons,map_cons,List.cons.injEq]at h;have hx:=ha x (by simp)
  have hy:=hb y (by simp);have h1:=congrArg UInt8.toNat h.1
  rw[UInt8.toNat_ofNat_of_lt' (by show x.toNat<256;omega),UInt8.toNat_ofNat_of_lt' (by show y.toNat<256;omega)]at h1;rw[ID (λz hz=>ha z (mem_cons_of_mem _ hz)) (λz hz=>hb z (mem_cons_of_mem _ hz)) h.2,show x=y by omega]
theorem GO {o:List Int} (h:∀x∈o,0<=x/\x<=100000):wJ (vp o):=by
 intro x hx;obtain⟨n,hn,hx⟩:=List.mem_flatMap.1 hx;have:=h n hn
 exact I4 (by omega) x hx
theorem K4 {o:List Int} (h:1<=o.length):1<=(vp o).length:=by
 cases o with
 | nil=>simp at h
 | cons n o =>
  have:=L8 n;unfold vp;rw[List.flatMap_cons,length_append];omega
theorem RU {b:List Int} (hb:wJ b) (hn:b.length<=M):∃v,loop (λz:Int×Int×List Int=>ax b z.1 z.2.1 z.2.2) (0,0,[])=some v/\(v=.inr (false,[])\/∃out,v=.inl out/\out.length<=M):=by
 have hn':b.length<=1048576:=hn;exact uS (step:=λz:Int×Int×List Int=>ax b z.1 z.2.1 z.2.2) (λk z=>z.2.1=(k:Int)/\0<=z.1/\z.2.2.length<=k) b.length (λv=>v=.inr (false,[])\/∃out,v=.inl out/\out.length<=M)
  (λk z hk ⟨z1,z2,z3⟩=>by
   obtain⟨n,i,out⟩:=z;simp only at z1 z2 z3;subst z1;have hx:=hb _ (getElem_mem hk)
   have hm:0<=min2 n 1048576/\min2 n 1048576<=1048576:=by unfold min2;split<;>omega
   show (∃y,ax b n (k:Int) out=some (.inl y)/\_)\/∃v,ax b n (k:Int) out=some (.inr v)/\_;unfold ax;rw[vj (by omega),cT,uO hk,an];by_cases h40:(k:Int)>=40
   · rw[dT h40];exact .inr ⟨_,rfl,.inl rfl⟩
   rw[dF h40,cF,EK hx,Mp (by omega) (by omega),uL (by omega)];simp only;by_cases h:b[k]<128
   · rw[dT h,cT,uG (by simp;omega),an];exact .inl ⟨_,rfl,rfl,by show (0:Int)<=0;omega,by simp;omega⟩
   · rw[dF h,cF];exact .inl ⟨_,rfl,rfl,by show 0<=min2 n 1048576*128+b[k]%128;omega,by show out.length<=k+1;omega⟩)
  (λz ⟨z1,z2,z3⟩=>by
   obtain⟨n,i,out⟩:=z;simp only at z1 z2 z3;subst z1;refine⟨.inl out,?_,.inr ⟨out,rfl,by show _<=1048576;omega⟩⟩;show ax b n (b.length:Int) out=_
   unfold ax;rw[vd (by omega),cF]) (x:=(0,0,[])) ⟨rfl,by show (0:Int)<=0;omega,by simp⟩

theorem zC {o:List Int} (h:y8 o=true):TQ o:=by
 unfold y8 at h;rw[aT,Bool.not_eq_true']at h;have h1:=vz h.2
 refine⟨by omega,by omega,λx hx=>?_⟩;obtain⟨k,hk,rfl⟩:=getElem_of_mem hx;have:=any_eq_false.1 h.1 k (mem_range.2 hk)
 unfold HY at this;simp only[List.getElem?_eq_getElem hk]at this;cases hp:uE o[k] 0 100000 with
 | true=>exact vz hp
 | false=>rw[hp]at this;exact absurd rfl this
theorem FZ {o:List Int} (hn:o.length<=M):dk o=some (cond (y8 o) (vp o) []):=by
 obtain⟨v,h1,h2,h3⟩:=RS hn;rw[EI (by have:o.length<=1048576:=hn;omega)]at h1;cases h1;exact h3
theorem NM {b:List Int} (hb:wJ b) (hn:b.length<=M):∃r,ck b=some r/\cc b=some r/\(r=([],false)\/∃o,r=(o,true)/\b=vp o/\y8 o=true):=by
 have hn':b.length<=1048576:=hn;have both:∀o,y8 o=true->b=vp o->ck b=some (o,true)/\cc b=some (o,true):=by
  intro o ho e;obtain⟨o1,o2,o3⟩:=zC ho;have hbl:b.length<=30:=by rw[e];have:=Aq (o:=o) λx hx=>(o3 x hx).2;omega
  have hpos:=K4 o1;constructor
  · unfold ck;have:=K1 (b:=b) o [] [] (by rw[e];rfl) o3 hbl (by simp;omega)
    simp only[length_nil,Int.natCast_zero,nil_append]at this;have this':loop (λz:Int×Int×List Int=>ax b z.1 z.2.1 z.2.2) (0,0,[])=some (.inl o):=this
    rw[this',an,Sum.elim_inl,FZ (by show _<=1048576;omega),an,ho,cT,←e,beq_eq_false_iff_ne.2 (show ((b.length:Int))≠0 by rw[e];omega),cF,beq_self_eq_true];rfl
  · unfold cc;have:=K2 (b:=b) o [] [] (by rw[e];rfl) o3 hbl (by simp;omega)
    simp only[length_nil,nil_append]at this;have this':loop (λz:Int×List Int=>au b z.1 z.2) (0,[])=some (.inl ((b.length:Int),o)):=this
    rw[this',an,Sum.elim_inl];simp only[bne_self_eq_false,cF];rw[JV,EI (by omega),an,ho];rfl
 obtain⟨v,v1,v2⟩:=RT hb hn;have sp:cc b=some ([],false)\/∃o,y8 o=true/\b=vp o:=by
  unfold cc;rw[v1,an];rcases v2 with rfl|⟨out,s,rfl,q1,q2⟩
  · exact .inl rfl
  · simp only[Sum.elim_inl];cases hne:(((vp out).length:Int) != (b.length:Int))with
    | true=>exact .inl rfl
    | false =>
     rw[cF,JV,EI (by omega),an];cases ho:y8 out with
     | false=>exact .inl rfl
     | true =>
      have he:((vp out).length:Int)=(b.length:Int):=by simpa using hne
      have:s=[]:=by
       have:=congrArg List.length q1;rw[length_append]at this;exact length_eq_zero_iff.1 (by omega)
      subst this;exact .inr ⟨out,ho,by rw[q1,append_nil]⟩
 rcases sp with sp|⟨o,ho,e⟩
 · obtain⟨u,u1,u2⟩:=RU hb hn;have im:ck b=some ([],false)\/∃o,y8 o=true/\b=vp o:=by
    unfold ck;rw[u1,an];rcases u2 with rfl|⟨out,rfl,hl⟩
    · exact .inl rfl
    · rw[Sum.elim_inl,FZ hl,an];cases ho:y8 out with
      | false=>exact .inl rfl
      | true =>
       obtain⟨o1,o2,o3⟩:=zC ho;have hpos:=K4 o1
       rw[cT,beq_eq_false_iff_ne.2 (show (((vp out).length:Int))≠0 by omega),cF];cases hq:(vW (vp out)==vW b)with
       | false=>exact .inl rfl
       | true=>exact .inr ⟨out,ho,(ID (GO o3) hb (eq_of_beq hq)).symm⟩
   rcases im with im|⟨o,ho,e⟩
   · exact⟨_,im,sp,.inl rfl⟩
   · obtain⟨b1,b2⟩:=both o ho e;exact⟨_,b1,b2,.inr ⟨o,rfl,e,ho⟩⟩
 · obtain⟨b1,b2⟩:=both o ho e;exact⟨_,b1,b2,.inr ⟨o,rfl,e,ho⟩⟩

theorem HF:∀{b:List Int},wJ b->xr (vW b)=b
 | [],_=>rfl
 | x::b,h=>by
  have hx:=h x (by simp);have ih:=HF (b:=b) λy hy=>h y (mem_cons_of_mem _ hy)
  unfold xr vW at ih ⊢;rw[map_cons,map_cons,ih]
  congr 1
  show ((UInt8.ofNat x.toNat).toNat:Int)=x;rw[UInt8.toNat_ofNat_of_lt' (by show x.toNat<256;omega)];omega
def xf (v:yj):List Int:=cond (v.1==2) (vY v.2.1) (cond (v.1==4) (xr v.2.2.1) (cond (v.1==6) (vp v.2.2.2) []))
theorem I5 {o:List Int} (h:y8 o=true):o.length<=10:=(zC h).2.1
theorem RV {b:List Int} (hb:wJ b) (hn:b.length<=M) {i:Int} (hi:-9223372036854775808<=i/\i<=9223372036854775807):∃r,iq b i=some r/\gS b i=some r/\(r=((0,0,[],[]),0,false)\/∃v next,r=(v,next,true)/\yo v=true/\Ap b i v.1 (xf v) next):=by
 have hM:M=1048576:=rfl;obtain⟨r,r1,r2,r3⟩:=HE hb hn hi;unfold iq gS;rw[r1,r2,an,an];have hrl:r.2.1.length<=250/\wJ r.2.1:=by
  rcases r3 with rfl|⟨t,body,next,rfl,h⟩
  · exact⟨by simp,λx hx=>by simp at hx⟩
  · exact⟨h.n,h.b⟩
 have hlM:r.2.1.length<=M:=by omega
 rcases r3 with rfl|⟨t,body,next,rfl,h⟩
 · exact⟨_,rfl,rfl,.inl rfl⟩
 simp only at hrl hlM;simp only[Bool.not_true,cF];by_cases t2:t=2
 · subst t2;obtain⟨g,g1,g2,g3⟩:=NL hrl.2 hlM;simp only[show ((2:Int)==2)=true from rfl,cT,g1,g2,an];rcases g3 with rfl|⟨n,rfl,q1,q2,q3⟩
   · exact⟨_,rfl,rfl,.inl rfl⟩
   · simp only[Bool.not_true,cF,an,GJ (v:=(2,n,[],[])) (by simp),HZ (v:=(2,n,[],[])) (by simp)];cases hv:yo (2,n,[],[])with
     | false=>exact⟨_,rfl,rfl,.inl rfl⟩
     | true=>exact⟨_,rfl,rfl,.inr ⟨_,_,rfl,hv,by have:xf (2,n,[],[])=body:=q1.symm;rw[this];exact h⟩⟩
 rw[beq_eq_false_iff_ne.2 t2];simp only[cF];by_cases t4:t=4
 · subst t4;simp only[show ((4:Int)==4)=true from rfl,cT,Bool.not_true,an,cF,GJ (v:=(4,0,vW body,[])) (by simp),HZ (v:=(4,0,vW body,[])) (by simp)];cases hv:yo (4,0,vW body,[])with
   | false=>exact⟨_,rfl,rfl,.inl rfl⟩
   | true=>exact⟨_,rfl,rfl,.inr ⟨_,_,rfl,hv,by have:xf (4,0,vW body,[])=body:=HF h.b;rw[this];exact h⟩⟩
 rw[beq_eq_false_iff_ne.2 t4];simp only[cF];by_cases t6:t=6
 · subst t6;obtain⟨g,g1,g2,g3⟩:=NM hrl.2 hlM;simp only[show ((6:Int)==6)=true from rfl,cT,g1,g2,an];rcases g3 with rfl|⟨o,rfl,q1,q2⟩
   · exact⟨_,rfl,rfl,.inl rfl⟩
   · have ol:=I5 q2;simp only[Bool.not_true,cF,an,GJ (v:=(6,0,[],o)) (by show o.length<=M;omega),HZ (v:=(6,0,[],o)) (by show o.length<=M;omega)];cases hv:yo (6,0,[],o)with
     | false=>exact⟨_,rfl,rfl,.inl rfl⟩
     | true=>exact⟨_,rfl,rfl,.inr ⟨_,_,rfl,hv,by have:xf (6,0,[],o)=body:=q1.symm;rw[this];exact h⟩⟩
 rw[beq_eq_false_iff_ne.2 t6];simp only[cF];cases hz:((body.length:Int)==0)with
 | false=>exact⟨_,rfl,rfl,.inl rfl⟩
 | true =>
  have hb0:body=[]:=length_eq_zero_iff.1 (by have:(body.length:Int)=0:=eq_of_beq hz;omega);simp only[Bool.not_true,cF,an,GJ (v:=(t,0,[],[])) (by simp),HZ (v:=(t,0,[],[])) (by simp)];cases hv:yo (t,0,[],[])with
  | false=>exact⟨_,rfl,rfl,.inl rfl⟩
  | true =>
   refine⟨_,rfl,rfl,.inr ⟨_,_,rfl,hv,?_⟩⟩;have:xf (t,0,[],[])=body:=by
    unfold xf;simp only[beq_eq_false_iff_ne.2 t2,beq_eq_false_iff_ne.2 t4,beq_eq_false_iff_ne.2 t6,cF];exact hb0.symm
   rw[this];exact h
theorem SV {r:Ak} (hb:wJ r.1) (hn:r.1.length<=M) (hi:-9223372036854775808<=r.2.1/\r.2.1<=9223372036854775807) (tag:Int):∃d,bL r tag=some d/\bI r tag=some d/\d.1.1=r.1/\(d.1.2.2=true->d.2=[])/\(r.2.2=true->d.1.2.2=true)/\(d.1.2.2=false->r.2.2=false/\Ap r.1 r.2.1 tag d.2 d.1.2.1)/\(d.1.2.2=true->d.1.2.1=r.2.1):=by
 obtain⟨g,g1,g2,g3⟩:=HE hb hn hi;unfold bL bI;rw[g1,g2,an];rcases g3 with rfl|⟨t,body,next,rfl,h⟩
 · cases hr:r.2.2 with
   | true=>exact⟨_,rfl,rfl,rfl,λ_=>rfl,λ_=>rfl,λe=>(by cases e),λ_=>rfl⟩
   | false=>exact⟨_,rfl,rfl,rfl,λ_=>rfl,λ_=>rfl,λe=>(by cases e),λ_=>rfl⟩
 · cases hr:r.2.2 with
   | true=>exact⟨_,rfl,rfl,rfl,λ_=>rfl,λ_=>rfl,λe=>(by cases e),λ_=>rfl⟩
   | false =>
    simp only[cF,Bool.not_true,an];cases ht:(t != tag)with
    | true=>exact⟨_,rfl,rfl,rfl,λ_=>rfl,λ_=>rfl,λe=>(by cases e),λ_=>rfl⟩
    | false =>
     have:t=tag:=by simpa using ht
     subst this;exact⟨_,rfl,rfl,rfl,λe=>(by cases e),λe=>(by cases e),λ_=>⟨by first|rfl|trivial,h⟩,λe=>(by cases e)⟩

structure D2 (r:Ak):Prop where
 b:wJ r.1
 n:r.1.length<=M
 lo:0<=r.2.1
 hi:r.2.1<=(r.1.length:Int)
theorem Ap.next {b:List Int} {i t:Int} {body:List Int} {next:Int} (h:Ap b i t body next):0<=next/\next<=(b.length:Int):=by
 obtain⟨pre,rest,e1,e2,e3⟩:=h.ex;have:=congrArg List.length e1
 rw[length_append,length_append]at this;omega
theorem D2.rg {r:Ak} (h:D2 r):-9223372036854775808<=r.2.1/\r.2.1<=9223372036854775807:=by
 have h1:=h.lo;have h2:=h.hi
 have h3:r.1.length<=1048576:=h.n;omega
theorem AF:wJ []:=λx hx=>by simp at hx
theorem G0 {r:Ak} (h:D2 r) (tag:Int):∃d,bL r tag=some d/\bI r tag=some d/\D2 d.1/\d.1.1=r.1/\wJ d.2/\d.2.length<=250/\(d.1.2.2=true->d.2=[])/\(r.2.2=true->d.1.2.2=true)/\(d.1.2.2=false->r.2.2=false/\Ap r.1 r.2.1 tag d.2 d.1.2.1):=by
 obtain⟨d,d1,d2,d3,d4,d5,d6,d7⟩:=SV h.b h.n h.rg tag;refine⟨d,d1,d2,?_,d3,?_,?_,d4,d5,d6⟩
 · cases hb:d.1.2.2 with
   | true=>exact⟨by rw[d3];exact h.b,by rw[d3];exact h.n,by rw[d7 hb];exact h.lo,by rw[d7 hb,d3];exact h.hi⟩
   | false =>
    have:=(d6 hb).2.next
    exact⟨by rw[d3];exact h.b,by rw[d3];exact h.n,this.1,by rw[d3];exact this.2⟩
 · cases hb:d.1.2.2 with
   | true=>rw[d4 hb];exact AF
   | false=>exact (d6 hb).2.b
 · cases hb:d.1.2.2 with
   | true=>rw[d4 hb];simp
   | false=>exact (d6 hb).2.n
theorem Mq {r:Ak} (h:D2 r):∃d,dg r 2=some d/\cQ r=some d/\D2 d.1/\d.1.1=r.1/\(r.2.2=true->d.1.2.2=true)/\(d.1.2.2=false->r.2.2=false/\Ap r.1 r.2.1 2 (vY d.2) d.1.2.1 /\ -2147483648<=d.2/\d.2<=2147483647):=by
 obtain⟨d,d1,d2,d3,d4,d5,d6,d7,d8,d9⟩:=G0 h 2;have hM:M=1048576:=rfl
 obtain⟨g,g1,g2,g3⟩:=NL d5 (by omega);unfold dg cQ;rw[d1,d2,an,an,g1,g2,an];cases hb:d.1.2.2 with
 | true =>
  refine⟨_,rfl,rfl,⟨d3.b,d3.n,d3.lo,d3.hi⟩,d4,λ_=>rfl,λe=>(by cases e)⟩
 | false =>
  obtain⟨q1,q2⟩:=d9 hb;rcases g3 with rfl|⟨n,rfl,e,n1,n2⟩
  · exact⟨_,rfl,rfl,⟨d3.b,d3.n,d3.lo,d3.hi⟩,d4,λ_=>rfl,λe=>(by cases e)⟩
  · refine⟨_,rfl,rfl,⟨d3.b,d3.n,d3.lo,d3.hi⟩,d4,λe=>?_,λ_=>⟨q1,?_,n1,n2⟩⟩
    · rw[q1]at e;cases e
    · rw[←e];exact q2
theorem Pq {b:List Int} (hb:wJ b) (hn:b.length<=M):∃r,ir b=some r/\gT b=some r/\(r=(([],0,0,[],[]),false)\/∃x,r=(x,true)/\yD x=true/\b=vE 6 (vp x.1)++vE x.2.1 (xf x.2)):=by
 have hM:M=1048576:=rfl;have h0:D2 (b,0,false):=⟨hb,hn,by show (0:Int)<=0;omega,by show (0:Int)<=(b.length:Int);omega⟩
 obtain⟨d,d1,d2,d3,d4,d5,d6,d7,d8,d9⟩:=G0 h0 6;obtain⟨g,g1,g2,g3⟩:=NM d5 (by omega);obtain⟨v,v1,v2,v3⟩:=RV hb hn d3.rg;unfold ir gT;simp only[d1,d2,g1,g2,v1,v2,an];cases hbad:d.1.2.2 with
 | true=>exact⟨_,rfl,rfl,.inl rfl⟩
 | false =>
  simp only[cF,an];obtain⟨_,hp⟩:=d9 hbad;rcases g3 with rfl|⟨o,rfl,go,ho⟩
  · exact⟨_,rfl,rfl,.inl rfl⟩
  simp only[Bool.not_true,cF,an];rcases v3 with rfl|⟨w,next,rfl,hw,hp2⟩
  · exact⟨_,rfl,rfl,.inl rfl⟩
  simp only[Bool.not_true,cF,an];cases hne:(next != (b.length:Int))with
  | true=>exact⟨_,rfl,rfl,.inl rfl⟩
  | false =>
   have hnx:next=(b.length:Int):=by simpa using hne
   refine⟨_,rfl,rfl,.inr ⟨(o,w),rfl,by unfold yD;rw[ho,hw];rfl,?_⟩⟩;obtain⟨p1,r1,e1,e2,e3⟩:=hp.ex;obtain⟨p2,r2,f1,f2,f3⟩:=hp2.ex;have hp1:p1=[]:=by
    have e2':(0:Int)=(p1.length:Int):=e2;exact length_eq_zero_iff.1 (by omega)
   subst hp1;have e1':b=vE 6 d.2++r1:=by simpa using e1
   have hl:p2.length=(vE 6 d.2).length:=by
    rw[e3]at f2;simp at f2;omega
   obtain⟨q1,q2⟩:=List.append_inj (f1.symm.trans e1') hl;have hr2:r2=[]:=by
    have:=congrArg List.length f1;rw[length_append,length_append]at this;exact length_eq_zero_iff.1 (by omega)
   show b=vE 6 (vp o)++vE w.1 (xf w);rw[f1,q1,go,hr2,append_nil]

theorem xv (n:Int):(vY n).length<=4:=by unfold vY;split<;>(try split)<;>(try split)<;>simp
theorem wA (t:Int) {body:List Int}:(vE t body).length<=body.length+3:=by unfold vE;split<;>simp<;>omega
theorem D3 {v:yj} (h:yo v=true):(xf v).length<=30/\uE v.1 0 255=true/\v.2.2.2.length<=10/\v.2.2.1.length<=20:=by
 obtain⟨k,n,s,o⟩:=v;have Cc:∀{x:Int},0<=x->x<=255->uE x 0 255=true:=λh1 h2=>by unfold uE;rw[dT h1,dT h2];rfl
 unfold yo at h;simp only at h;unfold xf;simp only;by_cases h1:(k==5||(k==128||k==130))=true
 · rw[h1,cT]at h;simp only[aT,beq_iff_eq]at h;simp only[Bool.or_eq_true,beq_iff_eq]at h1;obtain⟨_,rfl,ho⟩:=h;rcases h1 with rfl|rfl|rfl<;>exact⟨by simp,by decide,by omega,by simp⟩
 · have h1':(k==5||(k==128||k==130))=false:=by simpa using h1
   rw[h1',cF]at h;by_cases h2:k=2
   · subst h2;simp only[show ((2:Int)==2)=true from rfl,cT,aT,beq_iff_eq]at h ⊢;obtain⟨_,rfl,ho⟩:=h;have:=xv n
     exact⟨by omega,by decide,by omega,by simp⟩
   rw[beq_eq_false_iff_ne.2 h2,cF]at h ⊢;by_cases h4:k=4
   · subst h4;simp only[show ((4:Int)==4)=true from rfl,cT,aT,beq_iff_eq,decide_eq_true_eq]at h ⊢;obtain⟨h5,_,ho⟩:=h;exact⟨by unfold xr;rw[length_map];omega,by decide,by omega,by omega⟩
   rw[beq_eq_false_iff_ne.2 h4,cF]at h ⊢;by_cases h6:k=6
   · subst h6;simp only[show ((6:Int)==6)=true from rfl,cT,aT,beq_iff_eq]at h ⊢;obtain⟨ho,_,rfl⟩:=h;obtain⟨o1,o2,o3⟩:=zC ho;have:=Aq (o:=o) λx hx=>(o3 x hx).2
     exact⟨by omega,by decide,by omega,by simp⟩
   · rw[beq_eq_false_iff_ne.2 h6,cF]at h;cases h
theorem RW {b:List Int} (hb:b.length<=1000) {v:yj} (h:yo v=true):ip b v=some (b++vE v.1 (xf v)):=by
 obtain⟨l1,l2,l3,l4⟩:=D3 h;have hM:M=1048576:=rfl
 have fin:∀body:List Int,xf v=body->bx b v.1 body=some (b++vE v.1 (xf v)):=λbody e=>by
  subst e;rw[K0 _ hb (by omega),if_pos ⟨l2,by omega⟩]
 unfold ip;rw[GJ (by omega),h,an];simp only[Bool.not_true,cF];by_cases h2:v.1=2
 · have e:xf v=vY v.2.1:=by unfold xf;rw[beq_iff_eq.2 h2];rfl
   have hr:-2147483648<=v.2.1/\v.2.1<=2147483647:=by
    unfold yo at h;rw[h2]at h;simp only[show ((2:Int)==5)=false from rfl,show ((2:Int)==128)=false from rfl,show ((2:Int)==130)=false from rfl,Bool.or_self,cF,show ((2:Int)==2)=true from rfl,cT,aT]at h;exact vz h.1
   rw[beq_iff_eq.2 h2,cT,JZ (by omega),an,Bb hr,fin _ e];rfl
 rw[beq_eq_false_iff_ne.2 h2,cF];by_cases h4:v.1=4
 · have e:xf v=xr v.2.2.1:=by unfold xf;rw[beq_eq_false_iff_ne.2 h2,beq_iff_eq.2 h4];rfl
   rw[beq_iff_eq.2 h4,cT,fin _ e];rfl
 rw[beq_eq_false_iff_ne.2 h4,cF];by_cases h6:v.1=6
 · have e:xf v=vp v.2.2.2:=by unfold xf;rw[beq_eq_false_iff_ne.2 h2,beq_eq_false_iff_ne.2 h4,beq_iff_eq.2 h6];rfl
   have ho:y8 v.2.2.2=true:=by
    unfold yo at h;rw[h6]at h;simp only[show ((6:Int)==5)=false from rfl,show ((6:Int)==128)=false from rfl,show ((6:Int)==130)=false from rfl,Bool.or_self,cF,show ((6:Int)==2)=false from rfl,show ((6:Int)==4)=false from rfl,show ((6:Int)==6)=true from rfl,cT,aT]at h;exact h.1
   rw[beq_iff_eq.2 h6,cT,FZ (by omega),ho,cT,an,fin _ e];rfl
 · have e:xf v=[]:=by unfold xf;rw[beq_eq_false_iff_ne.2 h2,beq_eq_false_iff_ne.2 h4,beq_eq_false_iff_ne.2 h6];rfl
   rw[beq_eq_false_iff_ne.2 h6,cF,fin _ e];rfl
def Cb (x:uC):List Int:=vE 6 (vp x.1)++vE x.2.1 (xf x.2)
def A5 (x:uC):List Int:=vE 48 (Cb x)
def vC (l:List uC):List Int:=l.flatMap A5
def y9 (p:v9):List Int:=vE 2 (vY p.2.1)++vE 2 (vY p.2.2.1)++vE 2 (vY p.2.2.2.1)++vE 48 (vC p.2.2.2.2)
theorem xK {p:v9} (h:wG p=true):(∀x∈p.2.2.2.2,yD x=true)/\p.2.2.2.2.length<=10/\uE p.1 0 255=true/\(-2147483648<=p.2.1/\p.2.1<=2147483647)/\(0<=p.2.2.1/\p.2.2.1<=1000)/\(0<=p.2.2.2.1/\p.2.2.2.1<=1000):=by
 obtain⟨k,id,a,b,l⟩:=p;unfold wG at h;simp only[aT,Bool.not_eq_true',decide_eq_true_eq]at h;obtain⟨⟨h1,h2⟩,h3,h4⟩:=h;refine⟨λx hx=>?_,by show l.length<=10;omega,?_⟩
 · obtain⟨j,hj,rfl⟩:=getElem_of_mem hx;have hj':j<l.length:=hj
   have:=any_eq_false.1 h1 j (mem_range.2 hj');unfold bX at this;simp only[List.getElem?_eq_getElem hj']at this;simpa using this
 · have h4:=vz h4;by_cases c1:(k==162||k==165)=true
   · rw[c1,cT,aT]at h3;have q1:=vz h3.1
     have q2:=vz h3.2;simp only[Bool.or_eq_true,beq_iff_eq]at c1;refine⟨?_,h4,q1,q2⟩;rcases c1 with rfl|rfl<;>rfl
   · have c1':(k==162||k==165)=false:=by simpa using c1
     rw[c1',cF]at h3;by_cases c2:(k==160||(k==161||k==163))=true
     · rw[c2,cT,aT]at h3;simp only[beq_iff_eq]at h3;simp only[Bool.or_eq_true,beq_iff_eq]at c2;obtain⟨rfl,rfl⟩:=h3;refine⟨?_,h4,by show (0:Int)<=0/\(0:Int)<=1000;omega,by show (0:Int)<=0/\(0:Int)<=1000;omega⟩;rcases c2 with rfl|rfl|rfl<;>rfl
     · have c2':(k==160||(k==161||k==163))=false:=by simpa using c2
       rw[c2',cF]at h3;cases h3
theorem C3 {x:uC} (h:yD x=true):(Cb x).length<=100/\(A5 x).length<=110:=by
 unfold yD at h;rw[aT]at h;obtain⟨l1,_⟩:=D3 h.2;obtain⟨o1,o2,o3⟩:=zC h.1;have h3:=Aq (o:=x.1) λy hy=>(o3 y hy).2
 have h4:=wA 6 (body:=vp x.1);have h5:=wA x.2.1 (body:=xf x.2)
 have h6:(Cb x).length<=100:=by unfold Cb;rw[length_append];omega
 have h7:=wA 48 (body:=Cb x);exact⟨h6,by unfold A5;omega⟩
theorem K5 {b:List Int} (hb:b.length<=900) {n:Int} (hn:-2147483648<=n/\n<=2147483647):ez b 2 n=some (b++vE 2 (vY n)):=by
 unfold ez;have h4:=xv n
 rw[JZ (by omega),an,Bb hn,K0 _ (by omega) (by show _<=1048576;omega),an,if_pos ⟨by decide,by omega⟩]
theorem NN {p:v9} (hp:xi M p):fU p=some (if wG p=true/\(vC p.2.2.2.2).length<=250/\(y9 p).length<=250 then vE p.1 (y9 p)else []):=by
 unfold fU;rw[OJ hp,an];cases h:wG p with
 | false=>rw[if_neg (by simp)];rfl
 | true =>
  obtain⟨h1,h2,h3,h4,h5,h6⟩:=xK h;have hl:∀k,(vC (p.2.2.2.2.take k)).length<=110*k:=by
   intro k
   induction k with
   | zero=>simp[vC]
   | succ k ih =>
    by_cases hk:k<p.2.2.2.2.length
    · have ht:vC (p.2.2.2.2.take (k+1))=vC (p.2.2.2.2.take k)++A5 p.2.2.2.2[k]:=by
       unfold vC;rw[take_add_one,List.getElem?_eq_getElem hk,flatMap_append];simp
      have:=(C3 (h1 _ (getElem_mem hk))).2;rw[ht,length_append];omega
    · rw[List.take_of_length_le (by omega)]at ih ⊢;omega
  obtain⟨b,e1,rfl⟩:=uS (step:=λz:Int×List Int=>eA p z.1 z.2) (λk z=>z=((k:Int),vC (p.2.2.2.2.take k))) p.2.2.2.2.length (λb=>b=.inl (vC p.2.2.2.2))
   (λk z hk e=>by
    subst e;left;have hx:=h1 _ (getElem_mem hk)
    have hx':=hx;unfold yD at hx';rw[aT]at hx';obtain⟨o1,o2,o3⟩:=zC hx'.1;have hob:=Aq (o:=p.2.2.2.2[k].1) λy hy=>(o3 y hy).2
    have hlk:=hl k;obtain⟨b1,b2⟩:=C3 hx;have ht:vC (p.2.2.2.2.take (k+1))=vC (p.2.2.2.2.take k)++A5 p.2.2.2.2[k]:=by
     unfold vC;rw[take_add_one,List.getElem?_eq_getElem hk,flatMap_append];simp
    have ht6:=wA 6 (body:=vp p.2.2.2.2[k].1);refine⟨_,?_,rfl⟩;show eA p (k:Int) (vC (p.2.2.2.2.take k))=_
    unfold eA;rw[vj (by omega),cT,uO hk,an,FZ (by show _<=1048576;omega),hx'.1,cT,an,K0 _ (by simp) (by show _<=1048576;omega),if_pos ⟨by decide,by omega⟩,an,nil_append,RW (by omega) hx'.2,an];have hone:vE 6 (vp p.2.2.2.2[k].1)++vE p.2.2.2.2[k].2.1 (xf p.2.2.2.2[k].2)=Cb p.2.2.2.2[k]:=rfl
    rw[hone,Mn _ (by show _<=1048576;omega),if_pos ⟨by decide,by omega⟩,an];simp only[Bool.not_true,cF];have hbb:vE 48 (Cb p.2.2.2.2[k])=A5 p.2.2.2.2[k]:=rfl
    rw[hbb,uG (by omega),an,uL (by omega),ht])
   (λz e=>by
    subst e;refine⟨_,?_,rfl⟩;show eA p (p.2.2.2.2.length:Int) (vC (p.2.2.2.2.take p.2.2.2.2.length))=_
    unfold eA;rw[vd (by omega),cF,take_length]) (x:=(0,[])) rfl
  have hal:(vC p.2.2.2.2).length<=1100:=by
   have:=hl p.2.2.2.2.length;rw[take_length]at this;omega
  rw[Bool.not_true,cF,e1,an,Sum.elim_inl,Mn _ (by show _<=1048576;omega)];by_cases ha:(vC p.2.2.2.2).length<=250
  · rw[if_pos ⟨by decide,ha⟩,an];simp only[Bool.not_true,cF];have t1:=wA 2 (body:=vY p.2.1)
    have t2:=wA 2 (body:=vY p.2.2.1);have t3:=wA 2 (body:=vY p.2.2.2.1)
    have t4:=wA 48 (body:=vC p.2.2.2.2);have i1:=xv p.2.1
    have i2:=xv p.2.2.1;have i3:=xv p.2.2.2.1
    rw[K5 (by simp) h4,an,nil_append,K5 (by omega) ⟨by omega,by omega⟩,an,K5 (by rw[length_append];omega) ⟨by omega,by omega⟩,an,uG (by simp only[length_append];omega),an];have hbody:vE 2 (vY p.2.1)++vE 2 (vY p.2.2.1)++vE 2 (vY p.2.2.2.1)++vE 48 (vC p.2.2.2.2)=y9 p:=rfl
    rw[hbody,Mn _ (by show _<=1048576;unfold y9;simp only[length_append];omega)];by_cases hb:(y9 p).length<=250
    · rw[if_pos ⟨h3,hb⟩,if_pos ⟨by first|rfl|trivial,ha,hb⟩];rfl
    · rw[if_neg (λe=>hb e.2),if_neg (λe=>hb e.2.2)];rfl
  · rw[if_neg (λe=>ha e.2),if_neg (λe=>ha e.2.1)];rfl

theorem Ap.cons {b P s:List Int} {i t:Int} {x:List Int} {next:Int} (h:Ap b i t x next) (e:b=P++s) (hi:i=(P.length:Int)):∃s',b=(P++vE t x)++s'/\next=((P++vE t x).length:Int):=by
 obtain⟨pre,rest,e1,e2,e3⟩:=h.ex;have hl:pre.length=P.length:=by omega
 obtain⟨q1,q2⟩:=List.append_inj (e1.symm.trans e) hl;subst q1;exact⟨rest,by rw[e1,append_assoc],by rw[e3,length_append]⟩
theorem GP (t:Int) (b:List Int):1<=(vE t b).length:=by unfold vE;simp
theorem xL {x:uC} (h:yD x=true):FC M x:=by
 unfold yD at h;rw[aT]at h;obtain⟨_,_,l3,l4⟩:=D3 h.2;have:=I5 h.1
 have hM:M=1048576:=rfl;exact⟨by omega,by omega,by omega⟩
theorem OT (l:List uC) (x:uC):vC (l++[x])=vC l++A5 x:=by unfold vC;rw[flatMap_append];simp
noncomputable abbrev Pr (K I A B:Int) (c:List Int) (i:Int) (l:List uC):=loop (λz:Int×Int×Int×Int×Int×Int×Int×Int×List Int×Int×Bool×List uC×List uC=>aF z.1 z.2.1 z.2.2.1 z.2.2.2.1 z.2.2.2.2.1 z.2.2.2.2.2.1 z.2.2.2.2.2.2.1 z.2.2.2.2.2.2.2.1 z.2.2.2.2.2.2.2.2.1 z.2.2.2.2.2.2.2.2.2.1 z.2.2.2.2.2.2.2.2.2.2.1 z.2.2.2.2.2.2.2.2.2.2.2.1 z.2.2.2.2.2.2.2.2.2.2.2.2) (0,0,0,0,K,I,A,B,c,i,false,[],l)
noncomputable abbrev IX (r:Ak) (K I A B:Int) (c:List Int) (i:Int) (l:List uC):=loop (λz:List Int×Int×Bool×Int×Int×Int×Int×List Int×Int×Bool×List uC=>av z.1 z.2.1 z.2.2.1 z.2.2.2.1 z.2.2.2.2.1 z.2.2.2.2.2.1 z.2.2.2.2.2.2.1 z.2.2.2.2.2.2.2.1 z.2.2.2.2.2.2.2.2.1 z.2.2.2.2.2.2.2.2.2.1 z.2.2.2.2.2.2.2.2.2.2) (r.1,r.2.1,r.2.2,K,I,A,B,c,i,false,l)
theorem RX (r:Ak) (hr:r.2.2=false) (K I A B:Int) {c:List Int} (hc:wJ c) (hn:c.length<=M):∀(n:Nat) (l:List uC) (s:List Int),n+l.length=10->c=vC l++s->(∀x∈l,yD x=true) ->
 (Pr K I A B c ((vC l).length:Int) l=some (.inr (false,0,0,0,0,[]))/\∃d,IX r K I A B c ((vC l).length:Int) l=some d/\(d.2.2.1=true\/d.2.2.2.2.2.2.2.2.2.2.length=11)/\d.2.1=r.2.1/\Ca M d.2.2.2.2.2.2.2.2.2.2) \/
 (∃l',c=vC l'/\(∀x∈l',yD x=true)/\l'.length<=10/\Pr K I A B c ((vC l).length:Int) l=some (.inl (0,0,0,0,K,I,A,B,c,(c.length:Int),false,[],l'))/\IX r K I A B c ((vC l).length:Int) l=some (r.1,r.2.1,false,K,I,A,B,c,(c.length:Int),false,l')):=by
 have hM:M=1048576:=rfl;intro n
 induction n with
 | zero =>
  intro l s hl e hx;have hcl:c.length=(vC l).length+s.length:=by rw[e,length_append]
  by_cases hlt:((vC l).length:Int)<(c.length:Int)
  · have h0:D2 (c,((vC l).length:Int),false):=⟨hc,hn,by show (0:Int)<=((vC l).length:Int);omega,by show ((vC l).length:Int)<=(c.length:Int);omega⟩;obtain⟨d,d1,d2,d3,d4,d5,d6,d7,d8,d9⟩:=G0 h0 48;obtain⟨g,g1,g2,g3⟩:=Pq d5 (by omega);have hs:av r.1 r.2.1 r.2.2 K I A B c ((vC l).length:Int) false l=some (.inl (r.1,r.2.1,cond d.1.2.2 true (!g.2),K,I,A,B,d.1.1,d.1.2.1,d.1.2.2,l++[g.1])):=by
     unfold av;rw[hr];simp only[Bool.not_false,cT,vj hlt,an,dT (show (l.length:Int)<=10 by omega),d1,d2,g2];rw[show (cond d.1.2.2 (some true) (some (!g.2)))=some (cond d.1.2.2 true (!g.2)) by cases d.1.2.2<;>rfl,an,uG (by show l.length+1<=_;omega),an]
    have hs2:∀(bd:Bool) (c':List Int) (i':Int) (qb:Bool) (l':List uC),(bd=true\/l'.length=11)->av r.1 r.2.1 bd K I A B c' i' qb l'=some (.inr (r.1,r.2.1,bd,K,I,A,B,c',i',qb,l')):=by
     intro bd c' i' qb l' h;unfold av;rcases h with rfl|h
     · rfl
     · rw[dF (show ¬(l'.length:Int)<=10 by omega)];cases bd with
       | true=>rfl
       | false=>cases h1:decide (i'<(c'.length:Int))<;>simp
    left;refine⟨ve ?_,_,v7 hs (ve (hs2 _ _ _ _ _ (.inr (by rw[length_append];show l.length+1=11;omega)))),.inr (by show (l++[g.1]).length=11;rw[length_append];show l.length+1=11;omega),rfl,?_⟩
    · show aF 0 0 0 0 K I A B c ((vC l).length:Int) false [] l=_;unfold aF;simp only[vj hlt,cT,d1,g1,an,dT (show (l.length:Int)>=10 by omega)];cases g.2<;>rfl
    · refine⟨by show (l++[g.1]).length<=1048576;rw[length_append];show l.length+1<=_;omega,λx hx'=>?_⟩;rcases mem_append.1 hx' with h|h
      · exact xL (hx x h)
      · rw[List.mem_singleton]at h;subst h;rcases g3 with rfl|⟨x,rfl,q,_⟩
        · exact⟨by show 0<=1048576;decide,by show 0<=1048576;decide,by show 0<=1048576;decide⟩
        · exact xL q
  · have hs0:s=[]:=length_eq_zero_iff.1 (by omega);subst hs0;rw[append_nil]at e;right;refine⟨l,e,hx,by omega,ve ?_,ve ?_⟩
    · show aF 0 0 0 0 K I A B c ((vC l).length:Int) false [] l=_;unfold aF;rw[vd hlt,cF,e]
    · show av r.1 r.2.1 r.2.2 K I A B c ((vC l).length:Int) false l=_;unfold av;rw[hr,vd hlt,e];rfl
 | succ n ih =>
  intro l s hl e hx;have hcl:c.length=(vC l).length+s.length:=by rw[e,length_append]
  by_cases hlt:((vC l).length:Int)<(c.length:Int)
  · have h0:D2 (c,((vC l).length:Int),false):=⟨hc,hn,by show (0:Int)<=((vC l).length:Int);omega,by show ((vC l).length:Int)<=(c.length:Int);omega⟩;obtain⟨d,d1,d2,d3,d4,d5,d6,d7,d8,d9⟩:=G0 h0 48;obtain⟨g,g1,g2,g3⟩:=Pq d5 (by omega);have hs:av r.1 r.2.1 r.2.2 K I A B c ((vC l).length:Int) false l=some (.inl (r.1,r.2.1,cond d.1.2.2 true (!g.2),K,I,A,B,d.1.1,d.1.2.1,d.1.2.2,l++[g.1])):=by
     unfold av;rw[hr];simp only[Bool.not_false,cT,vj hlt,an,dT (show (l.length:Int)<=10 by omega),d1,d2,g2];rw[show (cond d.1.2.2 (some true) (some (!g.2)))=some (cond d.1.2.2 true (!g.2)) by cases d.1.2.2<;>rfl,an,uG (by show l.length+1<=_;omega),an]
    rcases g3 with rfl|⟨x,rfl,hxo,hxe⟩
    · left;have hbd:(cond d.1.2.2 true (!false))=true:=by cases d.1.2.2<;>rfl
      refine⟨ve ?_,_,v7 hs (ve (b:=(r.1,r.2.1,true,K,I,A,B,d.1.1,d.1.2.1,d.1.2.2,l++[([],0,0,[],[])])) ?_),.inl rfl,rfl,?_⟩
      · show aF 0 0 0 0 K I A B c ((vC l).length:Int) false [] l=_;unfold aF;simp only[vj hlt,cT,d1,g1,an];rfl
      · show av r.1 r.2.1 (cond d.1.2.2 true (!false)) K I A B d.1.1 d.1.2.1 d.1.2.2 (l++[([],0,0,[],[])])=_;rw[hbd];rfl
      · refine⟨by show (l++[_]).length<=1048576;rw[length_append];show l.length+1<=_;omega,λy hy=>?_⟩;rcases mem_append.1 hy with h|h
        · exact xL (hx y h)
        · rw[List.mem_singleton]at h;subst h;exact⟨by show 0<=1048576;decide,by show 0<=1048576;decide,by show 0<=1048576;decide⟩
    · have hbad:d.1.2.2=false:=by
       cases hb:d.1.2.2 with
       | false=>rfl
       | true =>
        rw[d7 hb]at hxe;have:=congrArg List.length hxe
        have h1:=GP 6 (vp x.1);rw[length_append]at this;simp at this;omega
      obtain⟨_,hp⟩:=d9 hbad;obtain⟨s',e1,e2⟩:=hp.cons (P:=vC l) (s:=s) e rfl;have hb:vE 48 d.2=A5 x:=by unfold A5 Cb;rw[←hxe]
      rw[hb,←OT]at e1 e2;have hdc:d.1.1=c:=d4
      have:=ih (l++[x]) s' (by rw[length_append];show n+(l.length+1)=10;omega) e1 (λy hy=>by
       rcases mem_append.1 hy with h|h
       · exact hx y h
       · rw[List.mem_singleton]at h;subst h;exact hxo)
      have hi:aF 0 0 0 0 K I A B c ((vC l).length:Int) false [] l=some (.inl (0,0,0,0,K,I,A,B,c,((vC (l++[x])).length:Int),false,[],l++[x])):=by
       unfold aF;simp only[vj hlt,cT,d1,g1,an,dF (show ¬(l.length:Int)>=10 by omega),Bool.not_true,cF];rw[uG (by show l.length+1<=_;omega),an,hdc,hbad,e2]
      have hs':av r.1 r.2.1 r.2.2 K I A B c ((vC l).length:Int) false l=some (.inl (r.1,r.2.1,r.2.2,K,I,A,B,c,((vC (l++[x])).length:Int),false,l++[x])):=by
       rw[hs,hdc,hbad,e2,hr];rfl
      rcases this with ⟨i1,dd,i2,i3⟩|⟨l',q1,q2,q3,i1,i2⟩
      · exact .inl ⟨v7 hi i1,dd,v7 hs' i2,i3⟩
      · exact .inr ⟨l',q1,q2,q3,v7 hi i1,v7 hs' i2⟩
  · have hs0:s=[]:=length_eq_zero_iff.1 (by omega);subst hs0;rw[append_nil]at e;right;refine⟨l,e,hx,by omega,ve ?_,ve ?_⟩
    · show aF 0 0 0 0 K I A B c ((vC l).length:Int) false [] l=_;unfold aF;rw[vd hlt,cF,e]
    · show av r.1 r.2.1 r.2.2 K I A B c ((vC l).length:Int) false l=_;unfold av;rw[hr,vd hlt,e];rfl

theorem TR (r:Ak) (hr:r.2.2=true) (K I A B:Int) (c:List Int):IX r K I A B c 0 []=some (r.1,r.2.1,true,K,I,A,B,c,0,false,[]):=by
 refine ve ?_;show av r.1 r.2.1 r.2.2 K I A B c 0 false []=_
 unfold av;rw[hr];rfl
theorem xi.of {p:v9} (h:∀x∈p.2.2.2.2,yD x=true) (h2:p.2.2.2.2.length<=11):xi M p:=⟨by show _<=1048576;omega,λx hx=>xL (h x hx)⟩
theorem RY {b:List Int} (hb:wJ b) (hn:b.length<=M):∃r,iu b=some r/\gU b=some r/\(r=((0,0,0,0,[]),false)\/∃p,r=(p,true)/\wG p=true/\xi M p):=by
 have hM:M=1048576:=rfl;obtain⟨t,t1,t2,t3⟩:=HE hb hn (i:=0) (by omega);have htb:t.2.1.length<=250/\wJ t.2.1:=by
  rcases t3 with rfl|⟨k,body,next,rfl,h⟩
  · exact⟨by simp,AF⟩
  · exact⟨h.n,h.b⟩
 have h0:D2 (t.2.1,0,false):=⟨htb.2,by show t.2.1.length<=M;omega,by show (0:Int)<=0;omega,by show (0:Int)<=(t.2.1.length:Int);omega⟩;obtain⟨d1,a1,b1,c1,e1,f1,g1⟩:=Mq h0;obtain⟨d2,a2,b2,c2,e2,f2,g2⟩:=Mq c1;obtain⟨d3,a3,b3,c3,e3,f3,g3⟩:=Mq c2;obtain⟨d4,a4,b4,c4,e4,m4,n4,k4,f4,g4⟩:=G0 c3 48;unfold iu gU;simp only[t1,t2,a1,b1,a2,b2,a3,b3,a4,b4,an];have sp:∃d,IX d4.1 t.1 d1.2 d2.2 d3.2 d4.2 0 []=some d/\d.2.1=d4.1.2.1/\(d4.1.2.2=true->d.2.2.1=true)/\Ca M d.2.2.2.2.2.2.2.2.2.2:=by
  cases hbad:d4.1.2.2 with
  | true=>exact⟨_,TR d4.1 hbad _ _ _ _ _,rfl,λ_=>rfl,⟨by show 0<=1048576;decide,λx hx=>by simp at hx⟩⟩
  | false =>
   rcases RX d4.1 hbad t.1 d1.2 d2.2 d3.2 m4 (by omega) 10 [] d4.2 rfl rfl (by simp)with ⟨_,d,q1,_,q3,q4⟩|⟨l',q1,q2,q3,_,q4⟩
   · exact⟨d,q1,q3,λe=>(by cases e),q4⟩
   · exact⟨_,q4,rfl,λe=>(by cases e),⟨by show l'.length<=1048576;omega,λx hx=>xL (q2 x hx)⟩⟩
 obtain⟨d,s1,s2,s3,s4⟩:=sp;have s1':loop (λz:List Int×Int×Bool×Int×Int×Int×Int×List Int×Int×Bool×List uC=>av z.1 z.2.1 z.2.2.1 z.2.2.2.1 z.2.2.2.2.1 z.2.2.2.2.2.1 z.2.2.2.2.2.2.1 z.2.2.2.2.2.2.2.1 z.2.2.2.2.2.2.2.2.1 z.2.2.2.2.2.2.2.2.2.1 z.2.2.2.2.2.2.2.2.2.2) (d4.1.1,d4.1.2.1,d4.1.2.2,t.1,d1.2,d2.2,d3.2,d4.2,0,false,[])=some d:=s1
 rw[s1',an];have pd:bD (d.2.2.2.1,d.2.2.2.2.1,d.2.2.2.2.2.1,d.2.2.2.2.2.2.1,d.2.2.2.2.2.2.2.2.2.2)=some (wG (d.2.2.2.1,d.2.2.2.2.1,d.2.2.2.2.2.1,d.2.2.2.2.2.2.1,d.2.2.2.2.2.2.2.2.2.2)):=Mg (p:=(d.2.2.2.1,d.2.2.2.2.1,d.2.2.2.2.2.1,d.2.2.2.2.2.2.1,d.2.2.2.2.2.2.2.2.2.2)) s4
 simp only[pd,an];cases hok:t.2.2.2 with
 | false=>exact⟨_,rfl,rfl,.inl rfl⟩
 | true =>
 simp only[Bool.not_true,cF,an];cases hnx:(t.2.2.1 != (b.length:Int))with
 | true=>exact⟨_,rfl,rfl,.inl rfl⟩
 | false =>
 simp only[cF,an];unfold jn;cases hbad:d4.1.2.2 with
 | true =>
  rw[s3 hbad];exact⟨_,rfl,rfl,.inl rfl⟩
 | false =>
 simp only[Bool.not_false,cT,an];have hlen:d4.1.1=t.2.1:=by rw[e4,e3,e2,e1]
 rw[s2,hlen];cases hat:(d4.1.2.1==(t.2.1.length:Int))with
 | false =>
  have:(d4.1.2.1 != (t.2.1.length:Int))=true:=by rw[bne,hat];rfl
  rw[this];refine⟨((0,0,0,0,[]),false),rfl,?_,.inl rfl⟩;cases d.2.2.1<;>rfl
 | true =>
 have hat':(d4.1.2.1 != (t.2.1.length:Int))=false:=by rw[bne,hat];rfl
 rw[hat'];simp only[Bool.not_true,cF];obtain⟨x3,p4⟩:=g4 hbad;obtain⟨x2,p3,i3⟩:=g3 x3;obtain⟨x1,p2,i2⟩:=g2 x2;obtain⟨_,p1,i1⟩:=g1 x1;rcases t3 with rfl|⟨k,body,next,rfl,hp⟩
 · cases hok
 simp only at p1 hat hnx hlen;have p1':Ap body 0 2 (vY d1.2) d1.1.2.1:=p1
 have p2':Ap body d1.1.2.1 2 (vY d2.2) d2.1.2.1:=by rw[e1]at p2;exact p2
 have p3':Ap body d2.1.2.1 2 (vY d3.2) d3.1.2.1:=by rw[e2,e1]at p3;exact p3
 have p4':Ap body d3.1.2.1 48 d4.2 d4.1.2.1:=by rw[e3,e2,e1]at p4;exact p4
 obtain⟨s1x,y1,z1⟩:=p1'.cons (P:=[]) (s:=body) rfl rfl;obtain⟨s2x,y2,z2⟩:=p2'.cons y1 z1;obtain⟨s3x,y3,z3⟩:=p3'.cons y2 z2;obtain⟨s4x,y4,z4⟩:=p4'.cons y3 z3;have hs4:s4x=[]:=by
  have h1:=congrArg List.length y4;rw[length_append]at h1;have h2:d4.1.2.1=(body.length:Int):=eq_of_beq hat
  exact length_eq_zero_iff.1 (by omega)
 subst hs4;rw[append_nil,nil_append]at y4;obtain⟨u1,u2,u3⟩:∃rest,b=vE k body++rest/\rest=[]:=by
  obtain⟨s',w1,w2⟩:=hp.cons (P:=[]) (s:=b) rfl rfl;refine⟨s',by simpa using w1,?_⟩;have h1:=congrArg List.length w1
  rw[length_append]at h1;have h2:next=(b.length:Int):=by simpa using hnx
  exact length_eq_zero_iff.1 (by omega)
 subst u3;rw[append_nil]at u2;rcases RX d4.1 hbad k d1.2 d2.2 d3.2 m4 (by omega) 10 [] d4.2 rfl rfl (by simp)with ⟨j1,dd,j2,j3,_,_⟩|⟨l',w1,w2,w3,j1,j2⟩
 · have hdd:dd=d:=by
    have:some dd=some d:=j2.symm.trans s1;exact Option.some.inj this
   subst hdd;have j1':loop (λz:Int×Int×Int×Int×Int×Int×Int×Int×List Int×Int×Bool×List uC×List uC=>aF z.1 z.2.1 z.2.2.1 z.2.2.2.1 z.2.2.2.2.1 z.2.2.2.2.2.1 z.2.2.2.2.2.2.1 z.2.2.2.2.2.2.2.1 z.2.2.2.2.2.2.2.2.1 z.2.2.2.2.2.2.2.2.2.1 z.2.2.2.2.2.2.2.2.2.2.1 z.2.2.2.2.2.2.2.2.2.2.2.1 z.2.2.2.2.2.2.2.2.2.2.2.2) (0,0,0,0,k,d1.2,d2.2,d3.2,d4.2,0,false,[],[])=some (.inr (false,0,0,0,0,[])):=j1
   rw[j1',an,Sum.elim_inr];refine⟨((0,0,0,0,[]),false),rfl,?_,.inl rfl⟩;cases hd:dd.2.2.1 with
   | true=>rfl
   | false =>
    have h11:dd.2.2.2.2.2.2.2.2.2.2.length=11:=by
     rcases j3 with h|h
     · rw[hd]at h;cases h
     · exact h
    have hpf:wG (dd.2.2.2.1,dd.2.2.2.2.1,dd.2.2.2.2.2.1,dd.2.2.2.2.2.2.1,dd.2.2.2.2.2.2.2.2.2.2)=false:=by
     unfold wG;rw[dF (show ¬((dd.2.2.2.2.2.2.2.2.2.2.length:Nat):Int)<=10 by omega),Bool.and_false,Bool.false_and]
    rw[hpf];simp only[cF,an];cases (dd.2.2.2.2.2.2.2.2.1 != (dd.2.2.2.2.2.2.2.1.length:Int))<;>rfl
 · have hdd:d=(d4.1.1,d4.1.2.1,false,k,d1.2,d2.2,d3.2,d4.2,(d4.2.length:Int),false,l'):=by
    have:some d=some (d4.1.1,d4.1.2.1,false,k,d1.2,d2.2,d3.2,d4.2,(d4.2.length:Int),false,l'):=s1.symm.trans j2;exact Option.some.inj this
   subst hdd;have j1':loop (λz:Int×Int×Int×Int×Int×Int×Int×Int×List Int×Int×Bool×List uC×List uC=>aF z.1 z.2.1 z.2.2.1 z.2.2.2.1 z.2.2.2.2.1 z.2.2.2.2.2.1 z.2.2.2.2.2.2.1 z.2.2.2.2.2.2.2.1 z.2.2.2.2.2.2.2.2.1 z.2.2.2.2.2.2.2.2.2.1 z.2.2.2.2.2.2.2.2.2.2.1 z.2.2.2.2.2.2.2.2.2.2.2.1 z.2.2.2.2.2.2.2.2.2.2.2.2) (0,0,0,0,k,d1.2,d2.2,d3.2,d4.2,0,false,[],[])=some (.inl (0,0,0,0,k,d1.2,d2.2,d3.2,d4.2,(d4.2.length:Int),false,[],l')):=j1
   rw[j1',an,Sum.elim_inl];have hpl:xi M (k,d1.2,d2.2,d3.2,l'):=xi.of (p:=(k,d1.2,d2.2,d3.2,l')) w2 (by show l'.length<=11;omega)
   have hbody:body=y9 (k,d1.2,d2.2,d3.2,l'):=by
    rw[y4,w1];rfl
   simp only[NN hpl,an,bne_self_eq_false,cF];cases hpp:wG (k,d1.2,d2.2,d3.2,l')with
   | false =>
    rw[if_neg (by simp)];exact⟨_,rfl,rfl,.inl rfl⟩
   | true =>
    have hal:(vC l').length<=250:=by rw[←w1];exact n4
    rw[if_pos ⟨rfl,hal,by rw[←hbody];exact hp.n⟩,←hbody,←u2];have hb1:((b.length:Int)==0)=false:=beq_eq_false_iff_ne.2 (by
     have:=GP k body;rw[←u2]at this;omega)
    rw[hb1,beq_self_eq_true];exact⟨_,rfl,rfl,.inr ⟨_,rfl,hpp,hpl⟩⟩

theorem RZ (w:List UInt8) {b:List Int} (hb:wJ b) (hn:b.length<=M):∃r,eB w b=some r/\fB w b=some r/\xi M r.1/\(r.2=0->wG r.1=true):=by
 have hM:M=1048576:=rfl;have nil:xi M ((0,0,0,0,[]):v9):=⟨by show 0<=1048576;decide,λx hx=>by simp at hx⟩
 obtain⟨t,t1,t2,t3⟩:=HE hb hn (i:=0) (by omega);have htb:t.2.1.length<=250/\wJ t.2.1:=by
  rcases t3 with rfl|⟨k,body,next,rfl,h⟩
  · exact⟨by simp,AF⟩
  · exact⟨h.n,h.b⟩
 have h0:D2 (t.2.1,0,false):=⟨htb.2,by show t.2.1.length<=M;omega,by show (0:Int)<=0;omega,by show (0:Int)<=(t.2.1.length:Int);omega⟩;obtain⟨d1,a1,b1,c1,e1,f1,g1⟩:=Mq h0;obtain⟨d2,a2,b2,c2,e2,m2,n2,k2,f2,g2⟩:=G0 c1 4;have hlen:d2.1.1=t.2.1:=by rw[e2,e1]
 have hlo:=c2.lo;have hhi:=c2.hi
 rw[hlen]at hhi;obtain⟨j,hj⟩:∃j:Nat,d2.1.2.1=(j:Int):=⟨d2.1.2.1.toNat,by omega⟩;have hcut:cut t.2.1 d2.1.2.1 (t.2.1.length:Int)=some (t.2.1.drop j):=by
  rw[hj,xR (by omega) (Nat.le_refl _),take_length]
 obtain⟨g,p1,p2,p3⟩:=RY (b:=t.2.1.drop j) (λx hx=>htb.2 x (List.mem_of_mem_drop hx)) (by rw[length_drop];omega);unfold eB fB;simp only[t1,t2,a1,b1,a2,b2,an,hcut,p1,p2];cases (!t.2.2.2)with
 | true=>exact⟨_,rfl,rfl,nil,λe=>(by cases e)⟩
 | false =>
 simp only[cF,an];cases (t.1 != 48)with
 | true=>exact⟨_,rfl,rfl,nil,λe=>(by cases e)⟩
 | false =>
 simp only[cF,an];cases (t.2.2.1 != (b.length:Int))with
 | true=>exact⟨_,rfl,rfl,nil,λe=>(by cases e)⟩
 | false =>
 simp only[cF,an];cases d2.1.2.2 with
 | true=>exact⟨_,rfl,rfl,nil,λe=>(by cases e)⟩
 | false =>
 simp only[cF,an];cases (d1.2 != 1)with
 | true=>exact⟨_,rfl,rfl,nil,λe=>(by cases e)⟩
 | false =>
 simp only[cF,an];cases (vW d2.2==w)with
 | false=>exact⟨_,rfl,rfl,nil,λe=>(by cases e)⟩
 | true =>
 simp only[Bool.not_true,cF];rcases p3 with rfl|⟨p,rfl,q1,q2⟩
 · exact⟨_,rfl,rfl,nil,λe=>(by cases e)⟩
 · exact⟨_,rfl,rfl,q2,λ_=>q1⟩

def zD (p:v9):List Int:=if wG p=true/\(vC p.2.2.2.2).length<=250/\(y9 p).length<=250 then vE p.1 (y9 p)else []
def wg (p:v9):Bool:=uE ((zD p).length:Int) 1 120
theorem G3 {p:v9} (hp:xi M p):aX p=some (wg p):=by
 unfold aX;rw[NN hp,an];show (ac ((zD p).length:Int) 1 120).bind _=_
 rw[xU,an];rfl
theorem Qs {p:v9} (h:wg p=true):wG p=true:=by
 unfold wg zD at h;split at h
 · rename_i hh;exact hh.1
 · obtain⟨h1,_⟩:=vz h;simp at h1
theorem D4 {α β:Type} {l:List α} {g:α->β} {step:Int×List β->Option ((Int×List β)⊕List β)} (hn:l.length<=M)
 (h1:∀k (hk:k<l.length) (out:List β),out.length=k->step ((k:Int),out)=some (.inl (((k+1:Nat):Int),out++[g l[k]]))) (h2:∀out,step ((l.length:Int),out)=some (.inr out)):loop step (0,[])=some (l.map g):=by
 obtain⟨b,e1,rfl⟩:=uS (step:=step) (λk z=>z=((k:Int),(l.take k).map g)) l.length (λb=>b=l.map g)
  (λk z hk e=>by
   subst e;refine .inl ⟨_,h1 k hk _ (by rw[length_map,length_take];omega),?_⟩;rw[take_add_one,List.getElem?_eq_getElem hk,List.map_append];rfl)
  (λz e=>by
   subst e;exact⟨_,h2 _,by rw[take_length]⟩) (x:=(0,[])) rfl
 exact e1
noncomputable def wm (b:uz) (o:List Int):uC:=(bB b o).getD ([],0,0,[],[])
noncomputable def D5 (b:uz) (o:List Int):yj:=(cq b o).getD (0,0,[],[])
theorem G4 {b:uz} (h:vB b) {o:List Int} (ho:o.length<=1000):bB b o=some (wm b o)/\((wm b o∈xG b/\o<(wm b o).1)\/(wm b o=(o,130,0,[],[])/\∀x∈xG b,¬o<x.1)):=by
 obtain⟨j,hj⟩:=SN (OD h) o;have e:=SO h ho hj
 unfold wm;rw[e];refine⟨rfl,?_⟩;by_cases hl:j<(xG b).length
 · rw[dif_pos hl];exact .inl ⟨getElem_mem hl,hj.yes j hl (Nat.le_refl _)⟩
 · rw[dif_neg hl];refine .inr ⟨rfl,λx hx=>?_⟩;obtain⟨i,hi,rfl⟩:=getElem_of_mem hx;exact hj.no i hi (by omega)
theorem OU {b:uz} (h:vB b) {o:List Int} (ho:o.length<9223372036854775807):cq b o=some (D5 b o)/\((∃x∈xG b,x.1=o/\D5 b o=x.2)\/((∀x∈xG b,x.1≠o)/\D5 b o=(128,0,[],[]))):=by
 obtain⟨v,e,hv⟩:=TC h ho;unfold D5;rw[e];exact⟨rfl,hv⟩
theorem L9 {o:List Int} (h:Nm o):y8 o=true:=by
 have h1:=h.ok;rw[EI (by have:=h.n10;omega)]at h1;exact Option.some.inj h1
theorem La {v:yj} (h:Vl v):yo v=true:=by
 have h1:=h.ok;rw[GJ (by rw[h.o];show 0<=1048576;omega)]at h1;exact Option.some.inj h1
theorem zk {o:List Int} (h:y8 o=true):o.length<=10:=(zC h).2.1
theorem SW {b:uz} (h:vB b) {x:uC} (hx:x∈xG b):yD x=true:=by
 obtain⟨h1,h2⟩:=BF h x hx;unfold yD;rw[L9 h1,La h2];rfl
theorem Eb {b:uz} (h:vB b) {o:List Int} (ho:y8 o=true):yD (wm b o)=true:=by
 obtain⟨_,h1⟩:=G4 h (o:=o) (by have:=zk ho;omega);rcases h1 with ⟨h1,_⟩|⟨h1,_⟩
 · exact SW h h1
 · rw[h1];unfold yD;rw[ho];rfl
theorem yd {x:uC} (h:yD x=true):y8 x.1=true:=by
 unfold yD at h;rw[aT]at h;exact h.1
theorem Ps {b:uz} (h:vB b) {o:List Int} (ho:o.length<9223372036854775807):yo (D5 b o)=true:=by
 obtain⟨_,h1⟩:=OU h ho;rcases h1 with ⟨x,hx,_,e⟩|⟨_,e⟩
 · rw[e];exact La (BF h x hx).2
 · rw[e];rfl
def A0 (s:List uC×List (List Int)):Nat:=min s.2.length (10-s.1.length)
noncomputable def Cc (b:uz) (s:List uC×List (List Int)):List uC×List (List Int):=(s.1++(s.2.take (A0 s)).map (wm b),(s.2.take (A0 s)).map (λo=>(wm b o).1)++s.2.drop (A0 s))
noncomputable def BJ (b:uz):Nat->List uC×List (List Int)->List uC×List (List Int)
 | 0,s=>s
 | k+1,s=>if 0<s.2.length/\s.1.length<10 then BJ b k (Cc b s)else s
structure FJ (s:List uC×List (List Int)):Prop where
 o10:s.1.length<=10
 l10:s.2.length<=10
 oOk:∀x∈s.1,yD x=true
 lOk:∀o∈s.2,y8 o=true
theorem NO {b:uz} (h:vB b) {s:List uC×List (List Int)} (hs:FJ s):FJ (Cc b s):=by
 obtain⟨h1,h2,h3,h4⟩:=hs;refine⟨?_,?_,λx hx=>?_,λo ho=>?_⟩
 · show (s.1++_).length<=10;rw[length_append,length_map,length_take];unfold A0;omega
 · show (_++s.2.drop (A0 s)).length<=10;rw[length_append,length_map,length_take,length_drop];unfold A0;omega
 · rcases mem_append.1 hx with hx|hx
   · exact h3 x hx
   · obtain⟨o,ho,rfl⟩:=mem_map.1 hx;exact Eb h (h4 o (mem_of_mem_take ho))
 · rcases mem_append.1 ho with ho|ho
   · obtain⟨q,hq,rfl⟩:=mem_map.1 ho;exact yd (Eb h (h4 q (mem_of_mem_take hq)))
   · exact h4 o (List.mem_of_mem_drop ho)
theorem TS {b:uz} (h:vB b) {s:List uC×List (List Int)} (hs:FJ s):loop (λz=>dl b s.2 z.1 z.2.1 z.2.2) (0,s.1,s.2)=some (Cc b s):=by
 obtain⟨out,l⟩:=s;obtain⟨h1,h2,h3,h4⟩:=hs;simp only at h1 h2 h3 h4;have hm:A0 (out,l)=min l.length (10-out.length):=rfl
 obtain⟨v,e1,rfl⟩:=uS (step:=λz:Int×List uC×List (List Int)=>dl b l z.1 z.2.1 z.2.2) (λk z=>z=((k:Int),out++(l.take k).map (wm b),(l.take k).map (λo=>(wm b o).1)++l.drop k)) (A0 (out,l)) (λv=>v=Cc b (out,l))
  (λk z hk e=>by
   subst e;left;have hkl:k<l.length:=by omega
   have hlen:((l.take k).map (λo=>(wm b o).1)++l.drop k).length=l.length:=by rw[length_append,length_map,length_take,length_drop];omega
   have hol:(out++(l.take k).map (wm b)).length=out.length+k:=by rw[length_append,length_map,length_take];omega
   have hA:((l.take k).map (λo=>(wm b o).1)).length=k:=by rw[length_map,length_take];omega
   have hget:((l.take k).map (λo=>(wm b o).1)++l.drop k)[k]?=some l[k]:=by
    rw[List.getElem?_append_right (by omega),hA,Nat.sub_self,List.getElem?_drop,Nat.add_zero,List.getElem?_eq_getElem hkl]
   have hn:=(G4 h (o:=l[k]) (by have:=zk (h4 _ (getElem_mem hkl));omega)).1;refine⟨_,?_,rfl⟩;show dl b l (k:Int) _ _=_
   unfold dl;rw[vj (by omega),cT,hol,dF (by omega),cF,hlen,xh hkl];simp only[an,hget,hn];rw[uG (by rw[hol];show out.length+k+1<=_;omega),an,uL (by omega)];have t1:(l.take (k+1))=l.take k++[l[k]]:=by rw[take_add_one,List.getElem?_eq_getElem hkl];rfl
   have t2:((l.take k).map (λo=>(wm b o).1)++l.drop k).set k (wm b l[k]).1=(l.take (k+1)).map (λo=>(wm b o).1)++l.drop (k+1):=by
    rw[List.set_append_right _ _ (by omega),hA,Nat.sub_self,drop_eq_getElem_cons hkl,List.set_cons_zero,t1,List.map_append,append_assoc];rfl
   rw[t2,t1];simp only[List.map_append,map_cons,List.map_nil,append_assoc])
  (λz e=>by
   subst e;refine⟨_,?_,rfl⟩;show dl b l ((A0 (out,l):Nat):Int) _ _=_
   have hol:(out++(l.take (A0 (out,l))).map (wm b)).length=out.length+A0 (out,l):=by rw[length_append,length_map,length_take];omega
   unfold dl;rw[hol];by_cases hlt:((A0 (out,l):Nat):Int)<(l.length:Int)
   · rw[vj hlt,cT,dT (by omega),cT];rfl
   · rw[vd hlt,cF];rfl) (x:=(0,out,l)) (by simp)
 exact e1
theorem Lb {b:uz} (h:vB b):∀(n:Nat) {s:List uC×List (List Int)},FJ s->FJ (BJ b n s)
 | 0,s,hs=>hs
 | n+1,s,hs=>by
  unfold BJ;split
  · exact Lb h n (NO h hs)
  · exact hs
theorem Pu {b:uz} (h:vB b) {p:v9} (hB:p.2.2.2.1<=1000):∀(n i:Nat) {s:List uC×List (List Int)},FJ s->((i+n:Nat):Int)=p.2.2.2.1->loop (λz=>bQ b p z.1 z.2.1 z.2.2) ((i:Int),s.1,s.2)=some (BJ b n s)
 | 0,i,s,hs,e=>by
  refine ve ?_;show bQ b p (i:Int) s.1 s.2=_
  unfold bQ;rw[vd (by omega),cF,an,cF,an,cF];rfl
 | n+1,i,s,hs,e=>by
  by_cases hc:0<s.2.length/\s.1.length<10
  · refine v7 (y:=(((i+1:Nat):Int),(Cc b s).1,(Cc b s).2)) ?_ ?_
    · show bQ b p (i:Int) s.1 s.2=_;unfold bQ;rw[vj (by omega),cT,dT (by omega),an,cT,vj (by omega),an,cT,TS h hs,an,uL (by omega)]
    · have:=Pu h hB n (i+1) (NO h hs) (by omega);rw[this,show BJ b (n+1) s=BJ b n (Cc b s)from if_pos hc]
  · refine ve ?_;show bQ b p (i:Int) s.1 s.2=_
    have e2:BJ b (n+1) s=s:=if_neg hc;rw[e2];unfold bQ;rw[vj (by omega),cT];by_cases h1:0<s.2.length
    · rw[dT (by omega),an,cT,vd (by omega),an,cF]
    · rw[dF (by omega),an,cF,an,cF]
def wb (p:v9):Nat:=min p.2.2.1.toNat p.2.2.2.2.length
noncomputable def Mr (b:uz) (p:v9):List uC×List (List Int):=BJ b p.2.2.2.1.toNat ((p.2.2.2.2.take (wb p)).map (λx=>wm b x.1),(p.2.2.2.2.drop (wb p)).map (λx=>x.1))
noncomputable def yA (b:uz) (p:v9):List uC:=(Mr b p).1
theorem Pv {b:uz} (h:vB b) {p:v9} (hp:wG p=true):FJ ((p.2.2.2.2.take (wb p)).map (λx=>wm b x.1),(p.2.2.2.2.drop (wb p)).map (λx=>x.1)):=by
 obtain⟨h1,h2,_⟩:=xK hp;refine⟨?_,?_,λx hx=>?_,λo ho=>?_⟩
 · rw[length_map,length_take];omega
 · rw[length_map,length_drop];omega
 · obtain⟨y,hy,rfl⟩:=mem_map.1 hx;exact Eb h (yd (h1 y (mem_of_mem_take hy)))
 · obtain⟨y,hy,rfl⟩:=mem_map.1 ho;exact yd (h1 y (List.mem_of_mem_drop hy))
theorem Lc {b:uz} (h:vB b) {p:v9} (hp:wG p=true):FJ (Mr b p):=Lb h _ (Pv h hp)
theorem SX {b:uz} (h:vB b) {p:v9} (hp:wG p=true):iv b p=some (yA b p):=by
 obtain⟨h1,h2,_,_,h5,h6⟩:=xK hp;have hmin:min2 p.2.2.1 (p.2.2.2.2.length:Int)=((wb p:Nat):Int):=by
  unfold min2 wb;split<;>omega
 have hon:wb p<=p.2.2.2.2.length:=Nat.min_le_right _ _;unfold iv;show ((cut p.2.2.2.2 0 (min2 p.2.2.1 (p.2.2.2.2.length:Int))).bind _)=_
 rw[hmin];have c1:cut p.2.2.2.2 0 ((wb p:Nat):Int)=some (p.2.2.2.2.take (wb p)):=by
  have:=xR (l:=p.2.2.2.2) (a:=0) (b:=wb p) (by omega) hon;simpa using this
 have c2:cut p.2.2.2.2 ((wb p:Nat):Int) (p.2.2.2.2.length:Int)=some (p.2.2.2.2.drop (wb p)):=by
  have:=xR (l:=p.2.2.2.2) (a:=wb p) (b:=p.2.2.2.2.length) hon (Nat.le_refl _);rw[take_length]at this;exact this
 have l1:loop (λz:Int×List uC=>eF b (p.2.2.2.2.take (wb p)) z.1 z.2) (0,[])=some ((p.2.2.2.2.take (wb p)).map (λx=>wm b x.1)):=by
  refine D4 (by show _<=1048576;rw[length_take];omega) (λk hk out ho=>?_) (λout=>?_)
  · have hx:=h1 _ (mem_of_mem_take (getElem_mem hk));have hk':=hk
    rw[length_take]at hk';show eF b _ (k:Int) out=_
    unfold eF;rw[vj (by omega),cT,uO hk,an,(G4 h (by have:=zk (yd hx);omega)).1,an,uG (by rw[ho];show k+1<=_;omega),an,uL (by omega)]
  · show eF b _ ((p.2.2.2.2.take (wb p)).length:Int) out=_;unfold eF;rw[vd (by omega),cF]
 have l2:loop (λz:Int×List (List Int)=>eG (p.2.2.2.2.drop (wb p)) z.1 z.2) (0,[])=some ((p.2.2.2.2.drop (wb p)).map (λx=>x.1)):=by
  refine D4 (by show _<=1048576;rw[length_drop];omega) (λk hk out ho=>?_) (λout=>?_)
  · have hk':=hk;rw[length_drop]at hk';show eG _ (k:Int) out=_
    unfold eG;rw[vj (by omega),cT,uO hk,an,uG (by rw[ho];show k+1<=_;omega),an,uL (by omega)]
  · show eG _ ((p.2.2.2.2.drop (wb p)).length:Int) out=_;unfold eG;rw[vd (by omega),cF]
 rw[c1,an,l1,an,c2,an,l2,an];have:=Pu h (p:=p) (by omega) p.2.2.2.1.toNat 0 (Pv h hp) (by omega)
 have this:loop (λz=>bQ b p z.1 z.2.1 z.2.2) (0,(p.2.2.2.2.take (wb p)).map (λx=>wm b x.1),(p.2.2.2.2.drop (wb p)).map (λx=>x.1))=_:=this;rw[this,an];rfl
end Go.V.W
