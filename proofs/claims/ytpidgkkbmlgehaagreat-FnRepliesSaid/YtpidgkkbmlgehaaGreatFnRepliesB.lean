/- The law FnReplies: part of the proof that for every input it returns true. No condition. -/
import Derived.Test.YtpidgkkbmlgehaaGreatFnRepliesBP1
open List (any_eq_false append_nil flatMap_append getElem_mem getElem_of_mem length_append length_cons length_drop length_map length_nil length_set length_singleton length_take map_append map_map mem_append mem_cons mem_cons_of_mem mem_map mem_of_mem_take mem_range nil_append not_mem_nil pairwise_cons take_add_one take_length take_of_length_le take_succ_cons)
set_option linter.unusedVariables false
set_option linter.unusedSimpArgs false
namespace Go.V.W
theorem D9 {x y z:Int} {t:List Int} (h:¬(x=1/\y=3/\z=1)):(∀lo hi head,pA (x::y::z::t) lo hi head=false)/\ud (x::y::z::t)=false:=by
 refine⟨λlo hi head=>?_,?_⟩
 · unfold pA;have:((x::y::z::t).take (head.length+3)==[1,3,1]++head)=false:=by
    rw[bF];intro e;rw[take_succ_cons,take_succ_cons,take_succ_cons]at e;simp at e;exact h ⟨e.1,e.2.1,e.2.2.1⟩
   rw[this,Bool.false_and,Bool.and_false]
 · unfold ud;have:((x::y::z::t).take 3==[1,3,1])=false:=by
    rw[bF];intro e;simp at e;exact h e
   rw[this,Bool.and_false]
theorem H0 (t:List Int) (lo hi c:Int):pA (1::3::1::t) lo hi [c]=match t with | [a,x]=>a==c&&nN x lo hi|_=>false:=by
 match t with
 | []=>simp[pA]
 | [a]=>simp[pA]
 | [a,x]=>simp[pA]
 | a::x::y::t=>simp[pA]
theorem H1 (t:List Int) (lo hi c d:Int):pA (1::3::1::t) lo hi [c,d]=match t with | [a,b,x]=>(a==c&&b==d)&&nN x lo hi|_=>false:=by
 match t with
 | []=>simp[pA]
 | [a]=>simp[pA]
 | [a,x]=>simp[pA]
 | [a,b,x]=>simp[pA]
 | a::b::x::y::t=>simp[pA]
theorem H2 (t:List Int):ud (1::3::1::t)=decide (0<t.length):=by
 unfold ud;rw[show ((1::3::1::t).take 3==[1,3,1])=true from rfl,Bool.and_true];simp
theorem IK (c:Int):nN c 1 1=(c==1):=by
 unfold nN;by_cases h:c=1
 · subst h;rfl
 · rw[beq_eq_false_iff_ne.2 h];simp only[Bool.and_eq_false_iff,decide_eq_false_iff_not];omega
theorem Ge {b:nI} (h:rO b) (o:List Int):Dy b o=yZ b o:=by
 unfold Dy yZ
 match o with
 | []=>simp only[(s5 (o:=[]) (by simp)).1,(s5 (o:=[]) (by simp)).2];rfl
 | [x]=>simp only[(s5 (o:=[x]) (by simp)).1,(s5 (o:=[x]) (by simp)).2];rfl
 | [x,y]=>simp only[(s5 (o:=[x,y]) (by simp)).1,(s5 (o:=[x,y]) (by simp)).2];rfl
 | x::y::z::t =>
  by_cases h3:x=1/\y=3/\z=1
  · obtain⟨rfl,rfl,rfl⟩:=h3;simp only[H0,H1,H2,IK]
    match t with
    | []=>rfl
    | [a]=>simp
    | [a,c]=>simp
    | [a,c,p] =>
     have hp:decide (pD (r9 b) p>=0)=true->nN p 1 99=true:=by
      intro e;obtain⟨k,hk,_,e2⟩:=uK (of_decide_eq_true e);rw[←e2];exact h.i _ (getElem_mem hk)
     have e5:(1::3::1::[a,c,p])[5]?=some p:=rfl;rw[e5];rw[show decide (0<[a,c,p].length)=true from rfl,Bool.true_and];show (((false:Bool)||((((a==2)&&(c==2))&&nN p 1 (q9 b))||((((a==2)&&(c==4))&&nN p 1 (q9 b))||((((a==3)&&(c==1))&&nN p 1 99)||(((((a==3)&&(c==2))&&nN p 1 99)||(((a==3)&&(c==3))&&nN p 1 99))&&decide (pD (r9 b) p>=0)))))))=((a==2)&&(((c==2)||(c==4))&&nN p 1 (q9 b))||(a==3)&&((c==1)&&nN p 1 99||((c==2)||(c==3))&&decide (pD (r9 b) p>=0)))
     revert hp
     generalize (a==2)=a2;generalize (a==3)=a3;generalize (c==1)=c1;generalize (c==2)=c2;generalize (c==3)=c3;generalize (c==4)=c4;generalize nN p 1 (q9 b)=pn;generalize nN p 1 99=pg;generalize decide (pD (r9 b) p>=0)=R;clear e5
     revert a2 a3 c1 c2 c3 c4 pn pg R
     decide
    | a::c::p::q::l=>simp
  · simp only[(D9 (t:=t) h3).1,(D9 (t:=t) h3).2];rfl
theorem E8 {b:nI} (h:rO b) (o:List Int):AR b o=zL b o:=by
 unfold AR zL
 match o with
 | []=>simp only[(s5 (o:=[]) (by simp)).1,(s5 (o:=[]) (by simp)).2];rfl
 | [x]=>simp only[(s5 (o:=[x]) (by simp)).1,(s5 (o:=[x]) (by simp)).2];rfl
 | [x,y]=>simp only[(s5 (o:=[x,y]) (by simp)).1,(s5 (o:=[x,y]) (by simp)).2];rfl
 | x::y::z::t =>
  by_cases h3:x=1/\y=3/\z=1
  · obtain⟨rfl,rfl,rfl⟩:=h3;simp only[H0,H1,H2,IK]
    match t with
    | []=>rfl
    | [a]=>simp
    | [a,c]=>simp
    | [a,c,p] =>
     have e7:((1::3::1::[a,c,p]).length==7)=false:=rfl;rw[e7,Bool.false_and,Bool.false_and,Bool.false_or];show ((a==2&&c==1)&&nN p 1 (q9 b)||((a==2&&c==3)&&nN p 1 (q9 b)||false))=(true&&(a==2&&((c==1||c==3)&&nN p 1 (q9 b))))
     cases (a==2)<;>cases (c==1)<;>cases (c==3)<;>simp
    | [a,c,p,q]=>simp
    | a::c::p::q::r::l=>simp
  · simp only[(D9 (t:=t) h3).1,(D9 (t:=t) h3).2];rw[Bool.false_or,Bool.false_or,Bool.false_or,Bool.false_and];have:((x::y::z::t).take 5==[1,3,1,4,1])=false:=by
     rw[bF];intro e;simp at e;exact h3 ⟨e.1,e.2.1,e.2.2.1⟩
    rw[this,Bool.and_false,Bool.false_and]
def p3 (r:nW):Bool->List nW->List nW
 | false,[]=>[r]
 | true,[]=>[]
 | false,x::t=>if x.1>=r.1 then r::(if x.1 != r.1 then x::p3 r true t else p3 r true t)else x::p3 r false t
 | true,x::t=>if x.1 != r.1 then x::p3 r true t else p3 r true t
theorem vK {r:nW}:∀{l:List nW},(∀x∈l,x.1≠r.1)->p3 r true l=l
 | [],_=>rfl
 | x::t,h=>by
  unfold p3;rw[if_pos (bne_iff_ne.2 (h x (by simp))),vK λy hy=>h y (mem_cons_of_mem _ hy)]
theorem yO {r:nW}:∀{l:List nW} {k:Nat} (hk:k<l.length),l.Pairwise (λr s=>r.1<s.1)->l[k].1=r.1->p3 r false l=l.set k r
 | x::t,0,_,hp,e=>by
  have e':x.1=r.1:=e;unfold p3;rw[if_pos (by omega),if_neg (by simp[e']),vK λy hy=>by have:=(pairwise_cons.1 hp).1 y hy;omega];rfl
 | x::t,k+1,hk,hp,e=>by
  have e':(t[k]'(by simpa using hk)).1=r.1:=e;have:=(pairwise_cons.1 hp).1 _ (getElem_mem (by simpa using hk:k<t.length))
  unfold p3;rw[if_neg (by omega),yO (by simpa using hk) (pairwise_cons.1 hp).2 e'];rfl
theorem Ce {r:nW}:∀{l:List nW} {d:Nat},l.Pairwise (λr s=>r.1<s.1)->(∀x∈l,x.1≠r.1)->(∀x∈l.take d,x.1<=r.1)->(∀x,l[d]?=some x->¬x.1<=r.1)->p3 r false l=l.take d++r::l.drop d
 | [],d,_,_,_,_=>by simp[p3]
 | x::t,0,hp,hn,_,h2=>by
  have:=h2 x rfl;unfold p3;rw[if_pos (by omega),if_pos (bne_iff_ne.2 (hn x (by simp))),vK λy hy=>hn y (mem_cons_of_mem _ hy)];rfl
 | x::t,d+1,hp,hn,h1,h2=>by
  have a1:=h1 x (by simp);have a2:=hn x (by simp)
  unfold p3;rw[if_neg (by omega),Ce (d:=d) (pairwise_cons.1 hp).2 (λy hy=>hn y (mem_cons_of_mem _ hy)) (λy hy=>h1 y (by rw[take_succ_cons];exact mem_cons_of_mem _ hy)) (λy hy=>h2 y (by simpa using hy))];rfl
theorem H3 {v:oy} (r:nW) (h1:v.1.length<=1000) (h2:v.2.length<=1000):aQ v r=some (p3 r false v.1,v.2):=by
 unfold aQ;rw[nP (by show 0+v.2.length<=_;omega),nH];obtain⟨b,e1,e2⟩:=o9 (β:=Bool×List nW) (step:=λz:Bool×Int×List nW=>ba v r z.1 z.2.1 z.2.2)
  (λk z=>z.2.1=(k:Int)/\z.2.2++p3 r z.1 (v.1.drop k)=p3 r false v.1/\z.2.2.length<=2*k) v.1.length
  (λz=>z.2++p3 r z.1 []=p3 r false v.1/\z.2.length<=2000)
  (λk z hk ⟨z1,z2,z3⟩=>by
   obtain⟨dn,i,out⟩:=z;simp only at z1 z2 z3;subst z1;left;have hd:v.1.drop k=v.1[k]::v.1.drop (k+1):=List.drop_eq_getElem_cons hk
   have hw:nK ((k:Int)+1)=((k+1:Nat):Int):=nZ (by omega);have ha:∀(x:nW),od out [x]=some (out++[x]):=λx=>nP (by show _+1<=_;omega)
   have hb:∀(x y:nW),od (out++[x]) [y]=some (out++[x]++[y]):=λx y=>nP (by simp only[length_append,length_cons,length_nil];omega);rw[hd]at z2;generalize hG:p3 r false v.1=G at z2 ⊢;unfold ba;simp only[oE (show (k:Int)<(v.1.length:Int) by omega),cT,nX hk,nH,ha,hb,hw];cases dn with
   | true =>
    simp only[Bool.not_true,cF,nH];unfold p3 at z2;cases hq:(v.1[k].1 != r.1)with
    | true =>
     rw[hq]at z2;exact⟨_,rfl,rfl,by simpa using z2,by simp;omega⟩
    | false =>
     rw[hq]at z2;exact⟨_,rfl,rfl,by simpa using z2,by simp;omega⟩
   | false =>
    simp only[Bool.not_false,cT,nH];unfold p3 at z2;by_cases hg:v.1[k].1>=r.1
    · rw[if_pos hg]at z2;simp only[dT hg,cT];cases hq:(v.1[k].1 != r.1)with
      | true =>
       rw[hq]at z2;exact⟨_,rfl,rfl,by simpa using z2,by simp;omega⟩
      | false =>
       rw[hq]at z2;exact⟨_,rfl,rfl,by simpa using z2,by simp;omega⟩
    · rw[if_neg hg]at z2;simp only[dF hg,cF,bne_iff_ne.2 (show v.1[k].1≠r.1 by omega),cT];exact⟨_,rfl,rfl,by simpa using z2,by simp;omega⟩)
  (λz ⟨z1,z2,z3⟩=>by
   obtain⟨dn,i,out⟩:=z;simp only at z1 z2 z3;subst z1;rw[List.drop_length]at z2;refine⟨(dn,out),?_,z2,by show out.length<=2000;have:out.length<=2*v.1.length:=z3;omega⟩;unfold ba;rw[oq (by omega),cF]) (x:=(false,0,[])) ⟨rfl,rfl,by simp⟩
 rw[e1,nH];obtain⟨dn,out⟩:=b;simp only at e2 ⊢;cases dn with
 | true =>
  rw[Bool.not_true,cF,←e2.1];simp[p3]
 | false =>
  rw[Bool.not_false,cT,nP (by show _+1<=_;omega),nH,←e2.1];rfl
theorem EV {v:oy} (r:nW) (h1:v.1.length<=1000) (h2:v.2.length<=1000) (hp:v.1.Pairwise λr s=>r.1<s.1):du v r=some (p3 r false v.1,v.2):=by
 unfold du;have hM:M=1048576:=rfl
 rw[yX ⟨by omega,by omega⟩,nH,y5 (by omega),nH];by_cases hr:pD v.1 r.1>=0
 · obtain⟨k,hk,e1,e2⟩:=uK hr;have hx:ix v.1.length (k:Int)=some k:=by unfold ix;rw[if_pos (by omega),if_pos (by omega),Int.toNat_natCast]
   rw[dT hr,cT,e1,hx,nH,List.getElem?_eq_getElem hk,nH,yO hk hp e2]
 · rw[dF hr,cF];have hn:=Dx (by omega:pD v.1 r.1<0)
   obtain⟨d,e1,k,hk,rfl,e3,e4⟩:=o9 (β:=Int) (step:=λz=>eo v r z)
    (λk z=>z=(k:Int)/\∀x∈v.1.take k,x.1<=r.1) v.1.length
    (λz=>∃k:Nat,k<=v.1.length/\z=(k:Int)/\(∀x∈v.1.take k,x.1<=r.1)/\(∀x,v.1[k]?=some x->¬x.1<=r.1))
    (λk z hk ⟨z1,z2⟩=>by
     subst z1;unfold eo;simp only[oE (show (k:Int)<(v.1.length:Int) by omega),cT,nX hk,nH];by_cases hq:v.1[k].1<=r.1
     · refine .inl ⟨_,by rw[dT hq,cT],nZ (by omega),λx hx=>?_⟩;rw[take_add_one,List.getElem?_eq_getElem hk,mem_append]at hx;rcases hx with hx|hx
       · exact z2 x hx
       · simp at hx;subst hx;exact hq
     · refine .inr ⟨_,by rw[dF hq,cF],k,by omega,rfl,z2,λx hx=>?_⟩;rw[List.getElem?_eq_getElem hk]at hx;cases hx;exact hq)
    (λz ⟨z1,z2⟩=>by
     subst z1;refine⟨(v.1.length:Int),?_,v.1.length,Nat.le_refl _,rfl,z2,λx hx=>?_⟩
     · unfold eo;rw[oq (by omega),cF];rfl
     · rw[List.getElem?_eq_none (Nat.le_refl _)]at hx;cases hx) (x:=0) ⟨rfl,by simp⟩
   rw[e1,nH,show (0:Int)=((0:Nat):Int)from rfl,qY (Nat.zero_le _) hk,nH,List.drop_zero];have hl:(v.1.take k).length<=1000:=by rw[length_take];omega
   rw[nP (by simp only[length_nil];omega),nH,nil_append,nP (by simp only[length_cons,length_nil];omega),nH,qY hk (Nat.le_refl _),nH,take_length,nP (by simp only[length_append,length_cons,length_nil,length_drop];omega),nH,Ce hp hn e3 e4];simp

def H4 (b:nI) (m s:Option (nI×Int)):Prop:=∃r,m=some r/\s=some r/\rO r.1/\(r.2≠0->r.1=b)
theorem vg {n a b:Nat} (h1:a<=b) (h2:b<=n):qZ n (a:Int) (b:Int)=some (a,b):=by
 unfold qZ;rw[if_pos (by omega),if_pos (by omega),if_pos (by omega)];simp
theorem EW {v:oy} (id:Int) (h1:v.1.length<=1000) (h2:v.2.length<=1000) {k:Nat} (hk:k<v.1.length) (e:pD v.1 id=(k:Int)):dv v id=some (v.1.eraseIdx k,v.2):=by
 unfold dv;have hM:M=1048576:=rfl
 have hw:nK ((k:Int)+1)=((k+1:Nat):Int):=nZ (by omega);rw[yX ⟨by omega,by omega⟩,nH,y5 (by omega),nH,e,dT (by omega),cT,hw,show (0:Int)=((0:Nat):Int)from rfl,qY (Nat.zero_le _) (by omega),nH,nP (by simp only[length_nil,length_drop,length_take];omega),nH,qY (by omega) (Nat.le_refl _),nH,nP (by simp only[length_append,length_nil,length_drop,length_take];omega),nH,List.eraseIdx_eq_take_drop_succ];simp
theorem A0 {r:nW} {l:List nW} (hs:l.Pairwise λr s=>r.1<s.1) (hi:∀x∈l,nN x.1 1 99=true) (hh:∀x∈l,-9223372036854775808<=x.2.2/\x.2.2<=9223372036854775807)
 (ri:nN r.1 1 99=true) (rh:-9223372036854775808<=r.2.2/\r.2.2<=9223372036854775807) :
 (p3 r false l).Pairwise (λr s=>r.1<s.1)/\(∀x∈p3 r false l,nN x.1 1 99=true)/\(∀x∈p3 r false l,-9223372036854775808<=x.2.2/\x.2.2<=9223372036854775807):=by
 have hm:∀{dn:Bool} {l:List nW},∀x∈p3 r dn l,x=r\/x∈l:=by
  intro dn l
  induction l generalizing dn with
  | nil=>intro x hx;cases dn<;>simp[p3]at hx;exact .inl hx
  | cons y t ih =>
   intro x hx;cases dn with
   | true =>
    unfold p3 at hx;split at hx
    · rcases mem_cons.1 hx with rfl|hx
      · exact .inr (by simp)
      · rcases ih x hx with e|e
        · exact .inl e
        · exact .inr (mem_cons_of_mem _ e)
    · rcases ih x hx with e|e
      · exact .inl e
      · exact .inr (mem_cons_of_mem _ e)
   | false =>
    unfold p3 at hx;split at hx
    · rcases mem_cons.1 hx with rfl|hx
      · exact .inl rfl
      · split at hx
        · rcases mem_cons.1 hx with rfl|hx
          · exact .inr (by simp)
          · rcases ih x hx with e|e
            · exact .inl e
            · exact .inr (mem_cons_of_mem _ e)
        · rcases ih x hx with e|e
          · exact .inl e
          · exact .inr (mem_cons_of_mem _ e)
    · rcases mem_cons.1 hx with rfl|hx
      · exact .inr (by simp)
      · rcases ih x hx with e|e
        · exact .inl e
        · exact .inr (mem_cons_of_mem _ e)
 have hp:∀{l:List nW},l.Pairwise (λr s=>r.1<s.1)->(p3 r false l).Pairwise (λr s=>r.1<s.1):=by
  intro l
  induction l with
  | nil=>intro _;simp[p3]
  | cons y t ih =>
   intro h;have h1:=(pairwise_cons.1 h).1
   have h2:=(pairwise_cons.1 h).2;unfold p3;split
   · next hy =>
     have ht:p3 r true t=t:=vK λz hz=>by have:=h1 z hz;omega
     rw[ht];split
     · next hq =>
       have hq:=bne_iff_ne.1 hq;refine pairwise_cons.2 ⟨λz hz=>?_,h⟩;rcases mem_cons.1 hz with rfl|hz
       · omega
       · have:=h1 z hz;omega
     · next hq =>
       have hq:y.1=r.1:=by simpa using hq
       refine pairwise_cons.2 ⟨λz hz=>?_,h2⟩;have:=h1 z hz;omega
   · next hy =>
     refine pairwise_cons.2 ⟨λz hz=>?_,ih h2⟩;rcases hm z hz with rfl|hz
     · omega
     · exact h1 z hz
 refine⟨hp hs,λx hx=>?_,λx hx=>?_⟩
 · rcases hm x hx with rfl|hx
   · exact ri
   · exact hi x hx
 · rcases hm x hx with rfl|hx
   · exact rh
   · exact hh x hx
theorem EX {r:nW} {dn:Bool} {l:List nW}:(p3 r dn l).length<=l.length+1:=by
 induction l generalizing dn with
 | nil=>cases dn<;>simp[p3]
 | cons x t ih =>
  have h1:=ih (dn:=true);have h2:=ih (dn:=false)
  have h3:(p3 r true t).length<=t.length:=by
   clear ih h1 h2
   induction t with
   | nil=>simp[p3]
   | cons y t ih=>unfold p3;split<;>simp<;>omega
  cases dn<;>unfold p3<;>split<;>(try split)<;>simp<;>omega
theorem rO.rows {b:nI} (h:rO b) {R:List nW} (h1:R.length<=6) (h2:R.Pairwise λr s=>r.1<s.1) (h3:∀x∈R,nN x.1 1 99=true) (h4:∀x∈R,-9223372036854775808<=x.2.2/\x.2.2<=9223372036854775807) :
 rO (b.1,b.2.1,b.2.2.1,b.2.2.2.1,R,b.2.2.2.2.2.1,b.2.2.2.2.2.2.1,b.2.2.2.2.2.2.2.1,b.2.2.2.2.2.2.2.2.1,b.2.2.2.2.2.2.2.2.2.1,b.2.2.2.2.2.2.2.2.2.2) :=
 ⟨h.id,h.name,h.n1,h.n6,h.p,h.f,h.c,h.q,h1,h2,h3,h4⟩
theorem zy {b:nI} (h:rO b):nN (b.2.2.1.length:Int) 1 6=true:=by
 have h1:=h.n1;have h2:=h.n6
 unfold nN;rw[dT (by omega),dT (by omega)];rfl
theorem Gf {b:nI} (h:rO b) (c id n:Int) (hc:(c=1/\nN id 1 99=true)\/((c=2\/c=3)/\pD (r9 b) id>=0)):H4 b (ep b c id n) (eK b c id n):=by
 have hv:=h.v;have hq:b.2.2.2.2.2.1.length<=6:=by have:=h.q;have:=h.n6;omega
 have hr:∀(id:Int),al (b.2.2.2.2.1,b.2.2.2.2.2.1) id=some (pD (r9 b) id):=λid=>y5 (v:=(b.2.2.2.2.1,b.2.2.2.2.2.1)) (by show b.2.2.2.2.1.length<_;omega) id;have hrs:∀(id:Int),aP (b.2.2.2.2.1,b.2.2.2.2.2.1) id=some (pD (r9 b) id):=hr
 have hw:∀(r:nW),du (b.2.2.2.2.1,b.2.2.2.2.2.1) r=some (p3 r false b.2.2.2.2.1,b.2.2.2.2.2.1):=λr=>EV (v:=(b.2.2.2.2.1,b.2.2.2.2.2.1)) r (by show b.2.2.2.2.1.length<=_;omega) (by show b.2.2.2.2.2.1.length<=_;omega) h.s;have hws:∀(r:nW),aQ (b.2.2.2.2.1,b.2.2.2.2.2.1) r=some (p3 r false b.2.2.2.2.1,b.2.2.2.2.2.1):=λr=>H3 (v:=(b.2.2.2.2.1,b.2.2.2.2.2.1)) r (by show b.2.2.2.2.1.length<=_;omega) (by show b.2.2.2.2.2.1.length<=_;omega)
 unfold ep eK;rw[hr,nH];by_cases h1:c=1
 · subst h1;have hid:nN id 1 99=true:=by rcases hc with hc|hc;exact hc.2;rcases hc.1 with e|e<;>cases e
   unfold fv;rw[hrs];simp only[show ((1:Int)==1)=true from rfl,cT,nH,hw,hws];by_cases hp:pD (r9 b) id>=0
   · have hp':¬pD (r9 b) id<0:=by omega
     simp only[dT hp,dF hp'];have e4:cond (n==4) (some false) (some false)=some false:=by cases (n==4)<;>rfl
     rw[e4];simp only[nH,cF];cases hn:(n==6)with
     | false =>
      simp only[cF,nH];exact⟨_,rfl,rfl,h,λ_=>rfl⟩
     | true =>
      obtain⟨k,hk,e1,e2⟩:=uK hp;simp only[cT,nH];have hk':k<b.2.2.2.2.1.length:=hk
      have hw64:nK (pD (r9 b) id+1)=((k+1:Nat):Int):=by rw[e1];exact nZ (by omega)
      have hwo:dv (b.2.2.2.2.1,b.2.2.2.2.2.1) id=some (b.2.2.2.2.1.eraseIdx k,b.2.2.2.2.2.1):=EW (v:=(b.2.2.2.2.1,b.2.2.2.2.2.1)) id (by show b.2.2.2.2.1.length<=_;omega) (by show b.2.2.2.2.2.1.length<=_;omega) hk e1;have hso:(qZ b.2.2.2.2.1.length 0 (pD (r9 b) id)).bind (λp=>(od ([]:List nW) ((b.2.2.2.2.1.take p.2).drop p.1)).bind λzs47=>(qZ b.2.2.2.2.1.length (nK (pD (r9 b) id+1)) (b.2.2.2.2.1.length:Int)).bind λp_1=>(od zs47 ((b.2.2.2.2.1.take p_1.2).drop p_1.1)).bind λzs54=>some ((b.1,b.2.1,b.2.2.1,b.2.2.2.1,zs54,b.2.2.2.2.2.1,b.2.2.2.2.2.2.1,b.2.2.2.2.2.2.2.1,b.2.2.2.2.2.2.2.2.1,b.2.2.2.2.2.2.2.2.2.1,b.2.2.2.2.2.2.2.2.2.2),(0:Int)))
       = some ((b.1,b.2.1,b.2.2.1,b.2.2.2.1,b.2.2.2.2.1.eraseIdx k,b.2.2.2.2.2.1,b.2.2.2.2.2.2.1,b.2.2.2.2.2.2.2.1,b.2.2.2.2.2.2.2.2.1,b.2.2.2.2.2.2.2.2.2.1,b.2.2.2.2.2.2.2.2.2.2),0):=by
       rw[hw64,e1,show (0:Int)=((0:Nat):Int)from rfl,vg (Nat.zero_le _) (by omega),nH,nP (by simp only[length_nil,length_drop,length_take];omega),nH,vg (by omega) (Nat.le_refl _),nH,nP (by simp only[length_append,length_nil,length_drop,length_take];omega),nH,List.eraseIdx_eq_take_drop_succ];simp
      rw[hwo];refine⟨_,rfl,by rw[hso];rfl,h.rows ?_ ?_ ?_ ?_,λe=>absurd rfl e⟩
      · rw[List.length_eraseIdx];split<;>omega
      · exact h.s.sublist (List.eraseIdx_sublist _ _)
      · exact λx hx=>h.i x (List.mem_of_mem_eraseIdx hx)
      · exact λx hx=>h.h x (List.mem_of_mem_eraseIdx hx)
   · have hp':pD (r9 b) id<0:=by omega
     simp only[dF hp,dT hp'];have e6:cond (n==6) (some false) (some false)=some false:=by cases (n==6)<;>rfl
     rw[e6];cases hn:(n==4)with
     | false =>
      simp only[cF,nH];exact⟨_,rfl,rfl,h,λ_=>rfl⟩
     | true =>
      simp only[cT,nH];by_cases h6:(b.2.2.2.2.1.length:Int)<6
      · simp only[dT h6,cT];obtain⟨g1,g2,g3⟩:=A0 (r:=(id,0,0)) h.s h.i h.h hid ⟨by show (-9223372036854775808:Int)<=0;decide,by show (0:Int)<=9223372036854775807;decide⟩;have:=EX (r:=(id,0,0)) (dn:=false) (l:=b.2.2.2.2.1)
        exact⟨_,rfl,rfl,h.rows (by omega) g1 g2 g3,λe=>absurd rfl e⟩
      · simp only[dF h6,cF,nH];exact⟨_,rfl,rfl,h,λ_=>rfl⟩
 · have h23:c=2\/c=3:=by rcases hc with hc|hc;exact absurd hc.1 h1;exact hc.1
   have hp:pD (r9 b) id>=0:=by rcases hc with hc|hc;exact absurd hc.1 h1;exact hc.2
   obtain⟨k,hk,e1,e2⟩:=uK hp;have hk':k<b.2.2.2.2.1.length:=hk
   obtain⟨t,q1,q2⟩:=Dk (zy h);rw[show (c==1)=false from beq_eq_false_iff_ne.2 h1];simp only[cF,Aw (zy h),q1,nH,ra,tV,q2];cases hn:nN n 0 (po (b.2.2.1.length:Int))with
   | false=>exact⟨_,rfl,rfl,h,λ_=>rfl⟩
   | true =>
    have ht:=(AN (zy h)).2;have hnr:-9223372036854775808<=n/\n<=9223372036854775807:=by
     unfold nN at hn;simp only[aT,decide_eq_true_eq]at hn;omega
    have hx:ix b.2.2.2.2.1.length (k:Int)=some k:=ve hk';rw[hrs];simp only[Bool.not_true,cF,nH,e1,hx,List.getElem?_eq_getElem hk',hws];have hin:∀(r:nW),r.1=b.2.2.2.2.1[k].1->p3 r false b.2.2.2.2.1=b.2.2.2.2.1.set k r:=λr e=>yO hk' h.s e.symm
    have hki:=h.i _ (getElem_mem hk');have hkh:=h.h _ (getElem_mem hk')
    have hlen:∀(r:nW),r.1=b.2.2.2.2.1[k].1->(p3 r false b.2.2.2.2.1).length<=6:=λr e=>by rw[hin r e,length_set];exact hv
    rcases h23 with rfl|rfl
    · simp only[show ((2:Int)==2)=true from rfl,cT];obtain⟨g1,g2,g3⟩:=A0 (r:=(b.2.2.2.2.1[k].1,n,b.2.2.2.2.1[k].2.2)) h.s h.i h.h hki hkh;refine⟨_,rfl,?_,?_,λe=>absurd rfl e⟩
      · rw[hin (b.2.2.2.2.1[k].1,n,b.2.2.2.2.1[k].2.2) rfl]
      · rw[←hin (b.2.2.2.2.1[k].1,n,b.2.2.2.2.1[k].2.2) rfl];exact h.rows (hlen _ rfl) g1 g2 g3
    · simp only[show ((3:Int)==2)=false from rfl,cF];obtain⟨g1,g2,g3⟩:=A0 (r:=(b.2.2.2.2.1[k].1,b.2.2.2.2.1[k].2.1,n)) h.s h.i h.h hki hnr;refine⟨_,rfl,?_,?_,λe=>absurd rfl e⟩
      · rw[hin (b.2.2.2.2.1[k].1,b.2.2.2.2.1[k].2.1,n) rfl]
      · rw[←hin (b.2.2.2.2.1[k].1,b.2.2.2.2.1[k].2.1,n) rfl];exact h.rows (hlen _ rfl) g1 g2 g3
theorem E9 {b:nI} {o:List Int} (h:yZ b o=true):o=[1,3,1,1,1]\/(∃c p,o=[1,3,1,2,c,p]/\(c=2\/c=4)/\nN p 1 (q9 b)=true)\/(∃c p,o=[1,3,1,3,c,p]/\((c=1/\nN p 1 99=true)\/((c=2\/c=3)/\pD (r9 b) p>=0))):=by
 unfold yZ at h;rw[aT]at h;obtain⟨h1,h2⟩:=h;unfold ud at h1;simp only[aT,decide_eq_true_eq,beq_iff_eq]at h1;have ho:o=[1,3,1]++o.drop 3:=by rw[←h1.2,List.take_append_drop]
 match hd:o.drop 3,h2 with
 | [a,c],h2 =>
  simp only[aT,beq_iff_eq]at h2;rw[hd]at ho;exact .inl (by rw[ho,h2.1,h2.2];rfl)
 | [a,c,p],h2 =>
  rw[hd]at ho;simp only[Bool.or_eq_true,aT,beq_iff_eq,decide_eq_true_eq]at h2;rcases h2 with ⟨rfl,h3,h4⟩|⟨rfl,h3⟩
  · exact .inr (.inl ⟨c,p,ho,h3,h4⟩)
  · exact .inr (.inr ⟨c,p,ho,h3⟩)
theorem H5 {b:nI} {p:Int} (h:nN p 1 (q9 b)=true) (hn:b.2.2.1.length<=6):∃k,k<b.2.2.1.length/\nK (p-1)=(k:Int):=by
 unfold nN q9 at h;simp only[aT,decide_eq_true_eq]at h;exact⟨(p-1).toNat,by omega,by rw[oC (by omega) (by omega)];omega⟩
theorem Gg {p:Pt} {n:Int} (hn:nN n 1 1000=true) (h:tz p=true):tz (p.1,n,p.2.2.1,p.2.2.2.1,p.2.2.2.2.1,p.2.2.2.2.2.1,p.2.2.2.2.2.2.1,p.2.2.2.2.2.2.2)=true:=by
 unfold tz at h ⊢;rw[aT]at h ⊢;exact⟨hn,h.2⟩
theorem H6 {b:nI} (h:rO b) {x:nJ} (hx:x.1.length<=M):H4 b (bQ b x) (dH b x):=by
 unfold bQ dH;rw[Jn h.le hx,nH,sc h.le,nH,Jo h.le hx,nH,Ge h];cases hm:yZ b x.1 with
 | false =>
  rw[cF,Bool.not_false,cT,ID h.le hx,IE h.le hx,nH,nH,E8 h];cases zL b x.1 with
  | true=>exact⟨_,rfl,rfl,h,λ_=>rfl⟩
  | false=>exact⟨_,rfl,rfl,h,λ_=>rfl⟩
 | true =>
  obtain⟨o,kd,n,w,vo⟩:=x;rw[cT,Bool.not_true,cF];simp only;unfold fo;rcases E9 hm with ho|⟨c,p,ho,hc,hp⟩|⟨c,p,ho,hc⟩
  · simp only at ho;subst ho;rw[show at? [1,3,1,1,1] 3=some (1:Int)from rfl,show cut [1,3,1,1,1] 3 (([1,3,1,1,1]:List Int).length:Int)=some ([1,1]:List Int)from rfl];simp only[nH,show at? [1,1] 0=some (1:Int)from rfl,show ((1:Int)==1)=true from rfl,cT,Bool.not_true,cF];cases (kd != 4)with
    | true=>exact⟨_,rfl,rfl,h,λ_=>rfl⟩
    | false =>
     simp only[cF,nH];by_cases hw:(w.length:Int)>10
     · simp only[dT hw,cT];exact⟨_,rfl,rfl,h,λ_=>rfl⟩
     · simp only[dF hw,cF];exact⟨_,rfl,rfl,⟨h.id,by show w.length<=10;omega,h.n1,h.n6,h.p,h.f,h.c,h.q,h.v,h.s,h.i,h.h⟩,λe=>absurd rfl e⟩
  · simp only at ho;subst ho;rw[show at? [1,3,1,2,c,p] 3=some (2:Int)from rfl,show at? [1,3,1,2,c,p] 4=some c from rfl,show at? [1,3,1,2,c,p] 5=some p from rfl,show cut [1,3,1,2,c,p] 3 (([1,3,1,2,c,p]:List Int).length:Int)=some ([2,c,p]:List Int)from rfl];simp only[nH,show at? [2,c,p] 0=some (2:Int)from rfl,show at? [2,c,p] 1=some c from rfl,show at? [2,c,p] 2=some p from rfl,show ((2:Int)==1)=false from rfl,show ((2:Int)==2)=true from rfl,show ((2:Int)==3)=false from rfl,cT,Bool.not_false,cF];cases (kd != 2)with
    | true=>exact⟨_,rfl,rfl,h,λ_=>rfl⟩
    | false =>
     obtain⟨k,hk,ek⟩:=H5 hp h.n6;simp only[cF,nH,ek];unfold fu;have hx1:ix b.2.2.1.length (k:Int)=some k:=ve hk
     have hx2:ix b.2.2.2.2.2.1.length (k:Int)=some k:=ve (by rw[h.q];exact hk);have hk2:k<b.2.2.2.2.2.1.length:=by rw[h.q];exact hk
     simp only[ra,tV,nH,hx1,hx2,List.getElem?_eq_getElem hk,List.getElem?_eq_getElem hk2];rcases hc with rfl|rfl
     · simp only[show ((2:Int)==2)=true from rfl,cT];cases hn:nN n 1 1000 with
       | false=>exact⟨_,rfl,rfl,h,λ_=>rfl⟩
       | true =>
        exact⟨_,rfl,rfl,⟨h.id,h.name,by simp only[length_set];exact h.n1,by simp only[length_set];exact h.n6,λy hy=>by
         rcases List.mem_or_eq_of_mem_set hy with e|rfl
         · exact h.p y e
         · exact Gg hn (h.p _ (getElem_mem hk)),h.f,h.c,by simp only[length_set];exact h.q,h.v,h.s,h.i,h.h⟩,λe=>absurd rfl e⟩
     · simp only[show ((4:Int)==2)=false from rfl,cF];exact⟨_,rfl,rfl,⟨h.id,h.name,h.n1,h.n6,h.p,h.f,h.c,by simp only[length_set];exact h.q,h.v,h.s,h.i,h.h⟩,λe=>absurd rfl e⟩
  · simp only at ho;subst ho;rw[show at? [1,3,1,3,c,p] 3=some (3:Int)from rfl,show at? [1,3,1,3,c,p] 4=some c from rfl,show at? [1,3,1,3,c,p] 5=some p from rfl,show cut [1,3,1,3,c,p] 3 (([1,3,1,3,c,p]:List Int).length:Int)=some ([3,c,p]:List Int)from rfl];simp only[nH,show at? [3,c,p] 0=some (3:Int)from rfl,show at? [3,c,p] 1=some c from rfl,show at? [3,c,p] 2=some p from rfl,show ((3:Int)==1)=false from rfl,show ((3:Int)==2)=false from rfl,show ((3:Int)==3)=true from rfl,cT,Bool.not_false,cF];cases (kd != 2)with
    | true=>exact⟨_,rfl,rfl,h,λ_=>rfl⟩
    | false =>
     simp only[cF,nH];obtain⟨r,r1,r2,r3,r4⟩:=Gf h c p n hc;exact⟨r,by rw[r1];rfl,by rw[r2];rfl,r3,r4⟩

theorem yP {α β:Type} {step t:α->Option (α⊕β)} (om:Nat->α->Prop) (m:Nat) (R:β->Prop)
 (h:∀k x,k<m->om k x->(∃y,step x=some (.inl y)/\t x=some (.inl y)/\om (k+1) y)\/∃b,step x=some (.inr b)/\t x=some (.inr b)/\R b)
 (he:∀x,om m x->∃b,step x=some (.inr b)/\t x=some (.inr b)/\R b) {x:α} (h0:om 0 x):∃b,loop step x=some b/\loop t x=some b/\R b:=by
 have key:∀n k x,k+n=m->om k x->∃b,qz step (n+1) x=some b/\qz t (n+1) x=some b/\R b:=by
  intro n
  induction n with
  | zero =>
   intro k x hk hx;obtain rfl:k=m:=by omega
   obtain⟨b,h1,h3,h2⟩:=he x hx;exact⟨b,by rw[ph,h1];rfl,by rw[ph,h3];rfl,h2⟩
  | succ n ih =>
   intro k x hk hx;rcases h k x (by omega) hx with ⟨y,h1,h5,h2⟩|⟨b,h1,h5,h2⟩
   · obtain⟨b,h3,h6,h4⟩:=ih (k+1) y (by omega) h2;exact⟨b,by rw[ph,h1];exact h3,by rw[ph,h5];exact h6,h4⟩
   · exact⟨b,by rw[ph,h1];rfl,by rw[ph,h5];rfl,h2⟩
 obtain⟨b,h1,h3,h2⟩:=key m 0 x (by omega) h0;exact⟨b,sa h1,sa h3,h2⟩
theorem I0 {l:List nO} (h:si l=true):FB l:=by
 unfold si at h;simp only[aT,Bool.not_eq_true',decide_eq_true_eq]at h;refine⟨λx hx=>?_,yV (R:=lt) (λ_ _ _=>lt_trans) λk hk=>?_,by omega⟩
 · obtain⟨k,hk,rfl⟩:=getElem_of_mem hx;have hx:=any_eq_false.1 h.1 k (mem_range.2 hk)
   unfold sk at hx;simp only[List.getElem?_eq_getElem hk,Bool.or_eq_true,not_or,Bool.not_eq_true',Bool.not_eq_false]at hx;exact hx.1
 · have hx:=any_eq_false.1 h.1 (k+1) (mem_range.2 hk);unfold sk at hx;simp only[List.getElem?_eq_getElem hk,Nat.add_sub_cancel,List.getElem?_eq_getElem (show k<l.length by omega),Bool.or_eq_true,aT,decide_eq_true_eq,not_or,not_and,Bool.not_eq_true',Bool.not_eq_false]at hx;have hp:=hx.2 (by omega)
   unfold tA at hp;simp only[Bool.or_eq_true,aT,decide_eq_true_eq,beq_iff_eq]at hp;unfold lt;omega
theorem FB.sub {l m:List nO} (h:FB l) (hs:m.Sublist l):FB m :=
 ⟨λx hx=>h.e x (hs.subset hx),h.o.sublist hs,Nat.le_trans hs.length_le h.n⟩
def sU (l:List nO) (p:Int):List nO:=l.filter λe=>e.2.2.2.2||e.2.2.1 != p
theorem zz {l:List nO} (p:Int) (hn:l.length<=1000) (step:Int×List nO->Option ((Int×List nO)⊕List nO))
 (hs:∀k (hk:k<l.length) out,step ((k:Int),out)=cond (l[k].2.2.2.2||l[k].2.2.1 != p) ((od out [l[k]]).bind λzs=>some (.inl (((k+1:Nat):Int),zs))) (some (.inl (((k+1:Nat):Int),out))))
 (he:∀out,step ((l.length:Int),out)=some (.inr out)):loop step (0,[])=some (sU l p):=by
 obtain⟨b,h1,rfl⟩:=o9 (step:=step) (λk z=>z.1=(k:Int)/\z.2=sU (l.take k) p) l.length (λb=>b=sU l p)
  (λk z hk ⟨z1,z2⟩=>by
   obtain⟨i,out⟩:=z;simp only at z1 z2;subst z1 z2;left;have hl:(sU (l.take k) p).length<=k:=by
    have:=(List.filter_sublist (p:=λe:nO=>e.2.2.2.2||e.2.2.1 != p) (l:=l.take k)).length_le;rw[length_take]at this;show (List.filter _ _).length<=k
    omega
   have ht:sU (l.take (k+1)) p=sU (l.take k) p++cond (l[k].2.2.2.2||l[k].2.2.1 != p) [l[k]] []:=by
    unfold sU;rw[take_add_one,List.getElem?_eq_getElem hk,List.filter_append];rw[Option.toList_some,List.filter_cons,List.filter_nil];cases (l[k].2.2.2.2||l[k].2.2.1 != p)<;>rfl
   rw[hs k hk];cases hc:(l[k].2.2.2.2||l[k].2.2.1 != p)with
   | true =>
    rw[hc]at ht;exact⟨_,by rw[cT,nP (by show _+1<=_;omega)];rfl,rfl,by rw[ht];rfl⟩
   | false =>
    rw[hc]at ht;exact⟨_,rfl,rfl,by rw[ht];simp⟩)
  (λz ⟨z1,z2⟩=>by
   obtain⟨i,out⟩:=z;simp only at z1 z2;subst z1 z2;exact⟨_,he _,by rw[take_length]⟩) (x:=(0,[])) ⟨rfl,rfl⟩
 exact h1
theorem H7 {l:List nO} (p:Int) (hn:l.length<=1000):ev l p=some (sU l p):=by
 unfold ev;rw[zz p hn (λz=>cD l p z.1 z.2) (λk hk out=>by
  show cD l p (k:Int) out=_;unfold cD;rw[oE (by omega),cT,nX hk,nH,nZ (by omega)];cases l[k].2.2.2.2<;>rfl) (λout=>by
  show cD l p (l.length:Int) out=_;unfold cD;rw[oq (by omega),cF])];rfl
theorem Gk {l:List nO} (p:Int) (hn:l.length<=1000):eO l p=some (sU l p):=by
 unfold eO;rw[zz p hn (λz=>cK l p z.1 z.2) (λk hk out=>by
  show cK l p (k:Int) out=_;unfold cK;rw[oE (by omega),cT,nX hk,nH,nH,nH,nZ (by omega)];cases l[k].2.2.2.2<;>rfl) (λout=>by
  show cK l p (l.length:Int) out=_;unfold cK;rw[oq (by omega),cF])];rfl
theorem Ea:∀k:Nat,k<6->nN (k:Int) 0 62=true/\nN (k:Int) 0 7=true:=by
 intro k hk;unfold nN;constructor<;>(rw[dT (by omega),dT (by omega)];rfl)
theorem IW (c:Int) {k:Nat} (hk:k<6):∃t,shr .i64 c (k:Int)=some t:=by
 unfold shr;rw[if_neg (by omega)];exact⟨_,rfl⟩
theorem IX (c:Int) {k:Nat} (hk:k<6):∃t,eu c (k:Int)=some t/\eN c (k:Int)=some t:=by
 obtain⟨t,h⟩:=IW c hk;unfold eu eN;rw[ra,tV,nH,nH,(Ea k hk).1,(Ea k hk).2,cT,cT,zH (by omega),h];exact⟨_,rfl,rfl⟩
theorem I1 {n:Int} (h:nN n 0 1000000=true):∃r,dw n=some r/\eL n=some r/\nN r 0 1000000=true:=by
 unfold nN at h;simp only[aT,decide_eq_true_eq]at h;unfold dw eL nN min2;rw[oC (by omega) (by omega)];by_cases hn:n>=1000000
 · rw[dT hn,cT];refine⟨n,?_,rfl,?_⟩
   · simp only;split<;>first|rfl | (congr 1;omega)
   · simp only[aT,decide_eq_true_eq];omega
 · rw[dF hn,cF];refine⟨n+1,?_,rfl,?_⟩
   · simp only;split<;>first|rfl | (congr 1;omega)
   · simp only[aT,decide_eq_true_eq];omega
theorem rO.ok {b:nI} (h:rO b) (hv:qn (b.2.2.2.2.1,b.2.2.2.2.2.1) (b.2.2.1.length:Int)=true):pd b=true:=by
 unfold pd;have h1:(List.range b.2.2.1.length).any (vk b.2.2.1)=false:=by
  rw[any_eq_false];intro k hk;have hk:=mem_range.1 hk
  unfold vk;simp[List.getElem?_eq_getElem hk,h.p _ (getElem_mem hk)]
 have h2:=h.name;rw[h1,h.id,h.f,hv,h.c,zy h,dF (show ¬(b.2.1.length:Int)>10 by omega)];rfl
theorem I2 {b:nI} (h:rO b):∃r,bR b=some r/\cL b=some r/\rO r/\r.2.2.1=b.2.2.1/\r.2.2.2.2.1=b.2.2.2.2.1/\r.2.2.2.2.2.1=b.2.2.2.2.2.1/\r.1=b.1/\r.2.1=b.2.1/\r.2.2.2.2.2.2.1=b.2.2.2.2.2.2.1/\r.2.2.2.2.2.2.2.1=b.2.2.2.2.2.2.2.1/\r.2.2.2.2.2.2.2.2.1=b.2.2.2.2.2.2.2.2.1/\r.2.2.2.2.2.2.2.2.2.1=b.2.2.2.2.2.2.2.2.2.1/\dw b.2.2.2.2.2.2.2.2.2.2=some r.2.2.2.2.2.2.2.2.2.2:=by
 have n6:=h.n6;have hc:=h.c
 unfold rM at hc;simp only[aT]at hc;obtain⟨v,v1,v2,v3⟩:=I1 hc.2.2.2.2;obtain⟨c,_,c1,c2⟩:=HB b.1 (l:=b.2.2.1) (by omega);unfold bR cL;rw[v1,v2,c1,c2];simp only[nH];have hF:=I0 h.f
 obtain⟨d,d1,d2,F,hf,rfl⟩:=yP (step:=λz:Int×Int×List UInt8×Int×Int×Int×Int×Int×List nO=>ew b (c:Int) z.1 z.2.1 z.2.2.1 z.2.2.2.1 z.2.2.2.2.1 z.2.2.2.2.2.1 z.2.2.2.2.2.2.1 z.2.2.2.2.2.2.2.1 z.2.2.2.2.2.2.2.2)
  (t:=λz:Int×Int×List UInt8×Int×Int×Int×Int×Int×List nO=>eP b (c:Int) z.1 z.2.1 z.2.2.1 z.2.2.2.1 z.2.2.2.2.1 z.2.2.2.2.2.1 z.2.2.2.2.2.2.1 z.2.2.2.2.2.2.2.1 z.2.2.2.2.2.2.2.2)
  (λk z=>∃F:List nO,F.Sublist b.2.2.2.1/\z=((k:Int),b.1,b.2.1,b.2.2.2.2.2.2.1,b.2.2.2.2.2.2.2.1,b.2.2.2.2.2.2.2.2.1,b.2.2.2.2.2.2.2.2.2.1,v,F)) b.2.2.1.length
  (λd=>∃F:List nO,F.Sublist b.2.2.2.1/\d=(b.1,b.2.1,b.2.2.2.2.2.2.1,b.2.2.2.2.2.2.2.1,b.2.2.2.2.2.2.2.2.1,b.2.2.2.2.2.2.2.2.2.1,v,F))
  (λk z hk ⟨F,hf,e⟩=>by
   subst e;left;obtain⟨t,t1,t2⟩:=IX (c:Int) (show k<6 by omega);have hl:F.length<=1000:=by have:=hf.length_le;have:=hF.n;omega
   simp only;unfold ew eP;rw[oE (show (k:Int)<(b.2.2.1.length:Int) by omega),cT,cT,t1,t2,nH,nH,H7 _ hl,Gk _ hl,nZ (show k<9223372036854775807 by omega)];cases t with
   | true=>exact⟨_,rfl,rfl,F,hf,rfl⟩
   | false=>exact⟨_,rfl,rfl,sU F (k:Int),List.Sublist.trans List.filter_sublist hf,rfl⟩)
  (λz ⟨F,hf,e⟩=>by
   subst e;simp only;unfold ew eP;rw[oq (show ¬(b.2.2.1.length:Int)<(b.2.2.1.length:Int) by omega),cF,cF];exact⟨_,rfl,rfl,F,hf,rfl⟩) (x:=(0,b.1,b.2.1,b.2.2.2.2.2.2.1,b.2.2.2.2.2.2.2.1,b.2.2.2.2.2.2.2.2.1,b.2.2.2.2.2.2.2.2.2.1,v,b.2.2.2.1)) ⟨_,List.Sublist.refl _,rfl⟩
 rw[d1,d2];refine⟨_,rfl,rfl,⟨h.id,h.name,h.n1,h.n6,h.p,(hF.sub hf).ok,?_,h.q,h.v,h.s,h.i,h.h⟩,rfl,rfl,rfl,rfl,rfl,rfl,rfl,rfl,rfl,rfl⟩;unfold rM;simp only[aT];exact⟨hc.1,hc.2.1,hc.2.2.1,hc.2.2.2.1,v3⟩
theorem I4 {b:nI} (h:rO b):∃r,bR b=some r/\cL b=some r/\rO r/\r.2.2.1=b.2.2.1/\r.2.2.2.2.1=b.2.2.2.2.1/\r.2.2.2.2.2.1=b.2.2.2.2.2.1:=by
 obtain⟨r,h1,h2,h3,h4,h5,h6,_⟩:=I2 h;exact⟨r,h1,h2,h3,h4,h5,h6⟩
theorem EY {α:Type} [BEq α] [LawfulBEq α] (a b:α):(a==b)=(b==a):=by
 by_cases h:a=b
 · subst h;rfl
 · rw[beq_eq_false_iff_ne.2 h,beq_eq_false_iff_ne.2 (Ne.symm h)]

abbrev H8:=Int×Int×Int×List UInt8×Int×Int×Int×Int×Int×List Pt×List nO×List nW×List Int
abbrev IL:=Int×List UInt8×Int×Int×Int×Int×Int
def H9 (c k:Int) (b:nI):H8:=(c,k,b.1,b.2.1,b.2.2.2.2.2.2.1,b.2.2.2.2.2.2.2.1,b.2.2.2.2.2.2.2.2.1,b.2.2.2.2.2.2.2.2.2.1,b.2.2.2.2.2.2.2.2.2.2,b.2.2.1,b.2.2.2.1,b.2.2.2.2.1,b.2.2.2.2.2.1)
theorem Ha {b:nI} (hb:vj M b) {l:List nJ} (hl:wa M l) {k:Nat} (hk:k<l.length) (s:IL) :
 ∃r:IL⊕H8,loop (λz=>dx b (k:Int) l[k] (l.take k) z.1 z.2.1 z.2.2.1 z.2.2.2.1 z.2.2.2.2.1 z.2.2.2.2.2.1 z.2.2.2.2.2.2.1 z.2.2.2.2.2.2.2) (0,s)=some r
  /\ loop (λz=>dK b l (k:Int) z.1 z.2.1 z.2.2.1 z.2.2.2.1 z.2.2.2.2.1 z.2.2.2.2.2.1 z.2.2.2.2.2.2.1 z.2.2.2.2.2.2.2) (0,s)=some r/\((r=.inl s/\∀j (hj:j<k),l[j].1≠l[k].1)\/(r=.inr (H9 5 ((k+1:Nat):Int) b)/\∃j,∃hj:j<k,l[j].1=l[k].1)):=by
 obtain⟨a0,a1,a6,a7,a8,a9,a10⟩:=s;have hn:l.length<=1048576:=hl.1
 refine yP (λj z=>z=((j:Int),a0,a1,a6,a7,a8,a9,a10)/\∀i (hi:i<k),i<j->l[i].1≠l[k].1) k _ (λj z hj ⟨e,hne⟩=>?_) (λz ⟨e,hne⟩=>?_) ⟨rfl,λi _ hi=>absurd hi (Nat.not_lt_zero _)⟩
 · subst e;have ht:j<(l.take k).length:=by rw[length_take];omega
   have hg:(l.take k)[j]=l[j]:=List.getElem_take;have hw:∀i,i<l.length->∀(hi:i<l.length),l[i].1.length<9223372036854775807:=λi h1 h2=>by have:l[i].1.length<=1048576:=(hl.2 _ (getElem_mem h2)).1;omega
   have s1:am l[k].1 l[j].1=some (l[k].1==l[j].1):=sO (hw j (by omega) (by omega));have s2:bV l[j].1 l[k].1=some (l[k].1==l[j].1):=by rw[EY];exact sO (hw k hk hk)
   simp only;unfold dx dK;rw[oE (show (j:Int)<((l.take k).length:Int) by omega),oE (show (j:Int)<(k:Int) by omega),cT,cT,nX ht,hg,nX (show j<l.length by omega),nX hk];simp only[nH,s1,s2];cases hb2:(l[k].1==l[j].1)with
   | true =>
    right;rw[tT hb,sc hb];exact⟨_,rfl,by rw[nZ (show k<9223372036854775807 by omega)];rfl,.inr ⟨by rw[nZ (show k<9223372036854775807 by omega)];rfl,j,hj,(beq_iff_eq.1 hb2).symm⟩⟩
   | false =>
    left;refine⟨_,rfl,rfl,by rw[nZ (show j<9223372036854775807 by omega)],λi hi hij=>?_⟩;by_cases e:i=j
    · subst e;exact λe=>(beq_eq_false_iff_ne.1 hb2) e.symm
    · exact hne i hi (by omega)
 · subst e;have ht:(l.take k).length=k:=by rw[length_take];omega
   refine⟨.inl (a0,a1,a6,a7,a8,a9,a10),?_,?_,.inl ⟨rfl,λj hj=>hne j hj hj⟩⟩
   · show dx b _ _ _ _ _ _ _ _ _ _ _=_;unfold dx;rw[ht,oq (by omega),cF]
   · show dK b _ _ _ _ _ _ _ _ _ _=_;unfold dK;rw[oq (by omega),cF]
theorem oI {α β:Type} {step:α->Option (α⊕β)} {x:α} {b:β} (h:step x=some (.inr b)):loop step x=some b:=sa (k:=1) (by rw[ph,h];rfl)
inductive vL (b:nI):List nJ->nI->Prop
 | nil:vL b [] b
 | snoc {l:List nJ} {y y':nI} {x:nJ}:vL b l y->rO y->bQ y x=some (y',0)->vL b (l++[x]) y'
def FE (b:nI) (l:List nJ) (c:Int):Prop:=(pd b=false/\c=3)\/(∃k y,∃hk:k<l.length,vL b (l.take k) y/\rO y/\(((∃j,∃hj:j<k,l[j].1=l[k].1)/\c=5)\/∃y',bQ y l[k]=some (y',c)))\/∃y,vL b l y/\c=5
theorem A1 {b:nI} (h:tB b) (hb:vj M b) {l:List nJ} (hl:wa M l):∃r,bw b l=some r/\eR b l=some r/\vj M r.1/\(pd b=true->rO r.1/\pd r.1=true)/\((r.2.1=0/\r.2.2=0/\((l=[]/\r.1=b)\/∃y,vL b l y/\rO y/\(∀i (hi:i<l.length),∀j (hj:j<i),l[j].1≠l[i].1)/\bR y=some r.1))\/(r.1=b/\r.2.1≠0/\1<=r.2.2/\r.2.2<=(l.length:Int)/\FE b l r.2.1)):=by
 have hn:l.length<=1048576:=hl.1;unfold bw eR;rw[tT hb,sc hb,A3 h,A4 h];simp only[nH];by_cases h0:l=[]
 · subst h0;have e1:decide ((([]:List nJ).length:Int)>0)=false:=rfl
   have e2:((([]:List nJ).length:Int)==0)=true:=rfl;have e3:cond (!pd b) (some false) (some false)=some false:=by cases pd b<;>rfl
   rw[e1,e2,e3,cT];simp only[nH,cF];refine⟨_,rfl,(congrArg (λo=>Option.bind o _) (oI (b:=.inl (0,[],0,0,0,0,0,b.1,b.2.1,b.2.2.2.2.2.2.1,b.2.2.2.2.2.2.2.1,b.2.2.2.2.2.2.2.2.1,b.2.2.2.2.2.2.2.2.2.1,b.2.2.2.2.2.2.2.2.2.2,[],[],[],[],b.2.2.1,b.2.2.2.1,b.2.2.2.2.1,b.2.2.2.2.2.1)) rfl)).trans rfl,hb,λhp=>⟨(Cu h hp).sok,hp⟩,.inl ⟨rfl,rfl,.inl ⟨by first|trivial|rfl,rfl⟩⟩⟩
 · have hpos:0<l.length:=List.length_pos_iff.2 h0;rw[show ((l.length:Int)==0)=false from beq_eq_false_iff_ne.2 (by omega),dT (show (l.length:Int)>0 by omega)];cases hp:pd b with
   | false=>exact⟨_,rfl,rfl,hb,λhp=>(by cases hp),.inr ⟨rfl,(by show (3:Int)≠0;decide),by show (1:Int)<=1;decide,by show (1:Int)<=_;omega,.inl ⟨hp,rfl⟩⟩⟩
   | true =>
    have hs0:=(Cu h hp).sok;simp only[Bool.not_true,cF,nH];obtain⟨d,d1,d2,d3⟩:=yP (step:=λz:Int×Int×List UInt8×Int×Int×Int×Int×Int×Int×List UInt8×Int×Int×Int×Int×Int×List Pt×List nO×List nW×List Int×List Pt×List nO×List nW×List Int=>ez b l z.1 z.2.1 z.2.2.1 z.2.2.2.1 z.2.2.2.2.1 z.2.2.2.2.2.1 z.2.2.2.2.2.2.1 z.2.2.2.2.2.2.2.1 z.2.2.2.2.2.2.2.2.1 z.2.2.2.2.2.2.2.2.2.1 z.2.2.2.2.2.2.2.2.2.2.1 z.2.2.2.2.2.2.2.2.2.2.2.1 z.2.2.2.2.2.2.2.2.2.2.2.2.1 z.2.2.2.2.2.2.2.2.2.2.2.2.2.1 z.2.2.2.2.2.2.2.2.2.2.2.2.2.2.1 z.2.2.2.2.2.2.2.2.2.2.2.2.2.2.2.1 z.2.2.2.2.2.2.2.2.2.2.2.2.2.2.2.2.1 z.2.2.2.2.2.2.2.2.2.2.2.2.2.2.2.2.2.1 z.2.2.2.2.2.2.2.2.2.2.2.2.2.2.2.2.2.2.1 z.2.2.2.2.2.2.2.2.2.2.2.2.2.2.2.2.2.2.2.1 z.2.2.2.2.2.2.2.2.2.2.2.2.2.2.2.2.2.2.2.2.1 z.2.2.2.2.2.2.2.2.2.2.2.2.2.2.2.2.2.2.2.2.2.1 z.2.2.2.2.2.2.2.2.2.2.2.2.2.2.2.2.2.2.2.2.2.2)
     (t:=λz=>eQ b l z.1 z.2.1 z.2.2.1 z.2.2.2.1 z.2.2.2.2.1 z.2.2.2.2.2.1 z.2.2.2.2.2.2.1 z.2.2.2.2.2.2.2.1 z.2.2.2.2.2.2.2.2.1 z.2.2.2.2.2.2.2.2.2.1 z.2.2.2.2.2.2.2.2.2.2.1 z.2.2.2.2.2.2.2.2.2.2.2.1 z.2.2.2.2.2.2.2.2.2.2.2.2.1 z.2.2.2.2.2.2.2.2.2.2.2.2.2.1 z.2.2.2.2.2.2.2.2.2.2.2.2.2.2.1 z.2.2.2.2.2.2.2.2.2.2.2.2.2.2.2.1 z.2.2.2.2.2.2.2.2.2.2.2.2.2.2.2.2.1 z.2.2.2.2.2.2.2.2.2.2.2.2.2.2.2.2.2.1 z.2.2.2.2.2.2.2.2.2.2.2.2.2.2.2.2.2.2.1 z.2.2.2.2.2.2.2.2.2.2.2.2.2.2.2.2.2.2.2.1 z.2.2.2.2.2.2.2.2.2.2.2.2.2.2.2.2.2.2.2.2.1 z.2.2.2.2.2.2.2.2.2.2.2.2.2.2.2.2.2.2.2.2.2.1 z.2.2.2.2.2.2.2.2.2.2.2.2.2.2.2.2.2.2.2.2.2.2)
     (λk z=>∃y:nI,(rO y/\vL b (l.take k) y/\∀i (hi:i<l.length),i<k->∀j (hj:j<i),l[j].1≠l[i].1)/\z=((k:Int),0,[],0,0,0,0,0,y.1,y.2.1,y.2.2.2.2.2.2.1,y.2.2.2.2.2.2.2.1,y.2.2.2.2.2.2.2.2.1,y.2.2.2.2.2.2.2.2.2.1,y.2.2.2.2.2.2.2.2.2.2,[],[],[],[],y.2.2.1,y.2.2.2.1,y.2.2.2.2.1,y.2.2.2.2.2.1)) l.length
     (λd=>(∃y:nI,(rO y/\vL b l y/\∀i (hi:i<l.length),∀j (hj:j<i),l[j].1≠l[i].1)/\d=.inl (0,[],0,0,0,0,0,y.1,y.2.1,y.2.2.2.2.2.2.1,y.2.2.2.2.2.2.2.1,y.2.2.2.2.2.2.2.2.1,y.2.2.2.2.2.2.2.2.2.1,y.2.2.2.2.2.2.2.2.2.2,[],[],[],[],y.2.2.1,y.2.2.2.1,y.2.2.2.2.1,y.2.2.2.2.2.1))\/∃c k:Int,c≠0/\1<=k/\k<=(l.length:Int)/\FE b l c/\d=.inr (H9 c k b))
     (λk z hk ⟨y,⟨hy,hst,hdi⟩,e⟩=>by
      subst e;obtain⟨r,r1,r2,r3⟩:=Ha hb hl hk (0,[],0,0,0,0,0);have hc:cut l 0 (k:Int)=some (l.take k):=by rw[show (0:Int)=((0:Nat):Int)from rfl,qY (Nat.zero_le _) (by omega),List.drop_zero]
      simp only;unfold ez eQ;rw[oE (show (k:Int)<(l.length:Int) by omega),cT,cT,nX hk,nH,hc,nH,r1,r2,nH,nH];rcases r3 with ⟨rfl,hnd⟩|⟨rfl,hdup⟩
      · obtain⟨q,q1,q2,q3,q4⟩:=H6 hy (hl.2 _ (getElem_mem hk)).1;have q1':bQ (y.1,y.2.1,y.2.2.1,y.2.2.2.1,y.2.2.2.2.1,y.2.2.2.2.2.1,y.2.2.2.2.2.2.1,y.2.2.2.2.2.2.2.1,y.2.2.2.2.2.2.2.2.1,y.2.2.2.2.2.2.2.2.2.1,y.2.2.2.2.2.2.2.2.2.2) l[k]=some q:=q1
        have q2':dH (y.1,y.2.1,y.2.2.1,y.2.2.2.1,y.2.2.2.2.1,y.2.2.2.2.2.1,y.2.2.2.2.2.2.1,y.2.2.2.2.2.2.2.1,y.2.2.2.2.2.2.2.2.1,y.2.2.2.2.2.2.2.2.2.1,y.2.2.2.2.2.2.2.2.2.2) l[k]=some q:=q2;simp only[Sum.elim_inl,nH,q1',q2',tT hb,sc hb,nZ (show k<9223372036854775807 by omega)];cases hq:(q.2 != 0)with
        | true =>
         right;exact⟨_,rfl,rfl,.inr ⟨q.2,((k+1:Nat):Int),bne_iff_ne.1 hq,by omega,by omega,.inr (.inl ⟨k,y,hk,hst,hy,.inr ⟨q.1,q1⟩⟩),rfl⟩⟩
        | false =>
         left;have hq0:q.2=0:=by simpa using hq
         refine⟨_,rfl,rfl,q.1,⟨q3,?_,λi hi hik j hj=>?_⟩,rfl⟩
         · rw[take_add_one,List.getElem?_eq_getElem hk];exact .snoc hst hy (by rw[q1,←hq0])
         · by_cases e:i=k
           · subst e;exact hnd j hj
           · exact hdi i hi (by omega) j hj
      · right;exact⟨_,rfl,rfl,.inr ⟨5,((k+1:Nat):Int),by decide,by omega,by omega,.inr (.inl ⟨k,y,hk,hst,hy,.inl ⟨hdup,rfl⟩⟩),rfl⟩⟩)
     (λz ⟨y,⟨hy,hst,hdi⟩,e⟩=>by
      subst e;simp only;unfold ez eQ;rw[oq (show ¬(l.length:Int)<(l.length:Int) by omega),cF,cF];rw[take_length]at hst;exact⟨_,rfl,rfl,.inl ⟨y,⟨hy,hst,λi hi=>hdi i hi hi⟩,rfl⟩⟩) (x:=(0,0,[],0,0,0,0,0,b.1,b.2.1,b.2.2.2.2.2.2.1,b.2.2.2.2.2.2.2.1,b.2.2.2.2.2.2.2.2.1,b.2.2.2.2.2.2.2.2.2.1,b.2.2.2.2.2.2.2.2.2.2,[],[],[],[],b.2.2.1,b.2.2.2.1,b.2.2.2.2.1,b.2.2.2.2.2.1)) ⟨b,⟨hs0,.nil,λi _ hi=>absurd hi (Nat.not_lt_zero _)⟩,rfl⟩
    rw[d1,d2,nH,nH];rcases d3 with ⟨y,⟨hy,hst,hdi⟩,rfl⟩|⟨c,k,c0,k1,k2,hfl,rfl⟩
    · have n6:=hy.n6;have v6:=hy.v;have hq:=hy.q
      have t1:cr (y.2.2.2.2.1,y.2.2.2.2.2.1) (y.2.2.1.length:Int)=some (qn (y.2.2.2.2.1,y.2.2.2.2.2.1) (y.2.2.1.length:Int)):=FP (v:=(y.2.2.2.2.1,y.2.2.2.2.2.1)) _ (by show y.2.2.2.2.1.length<_;omega) (by show y.2.2.2.2.2.1.length<_;omega);have t2:az (y.2.2.2.2.1,y.2.2.2.2.2.1) (y.2.2.1.length:Int)=some (qn (y.2.2.2.2.1,y.2.2.2.2.2.1) (y.2.2.1.length:Int)):=Dm (v:=(y.2.2.2.2.1,y.2.2.2.2.2.1)) _ (by show y.2.2.2.2.1.length<_;omega) (by show y.2.2.2.2.2.1.length<_;omega) hy.h
      simp only[Sum.elim_inl,t1,t2,nH];cases hv:qn (y.2.2.2.2.1,y.2.2.2.2.2.1) (y.2.2.1.length:Int)with
      | false=>exact⟨_,rfl,rfl,hb,λ_=>⟨hs0,hp⟩,.inr ⟨rfl,by show (5:Int)≠0;decide,by show (1:Int)<=(l.length:Int);omega,Int.le_refl _,.inr (.inr ⟨y,hst,rfl⟩)⟩⟩
      | true =>
       obtain⟨r,r1,r2,r3,r4,r5,r6⟩:=I4 hy;have r1':bR (y.1,y.2.1,y.2.2.1,y.2.2.2.1,y.2.2.2.2.1,y.2.2.2.2.2.1,y.2.2.2.2.2.2.1,y.2.2.2.2.2.2.2.1,y.2.2.2.2.2.2.2.2.1,y.2.2.2.2.2.2.2.2.2.1,y.2.2.2.2.2.2.2.2.2.2)=some r:=r1
       have r2':cL (y.1,y.2.1,y.2.2.1,y.2.2.2.1,y.2.2.2.2.1,y.2.2.2.2.2.1,y.2.2.2.2.2.2.1,y.2.2.2.2.2.2.2.1,y.2.2.2.2.2.2.2.2.1,y.2.2.2.2.2.2.2.2.2.1,y.2.2.2.2.2.2.2.2.2.2)=some r:=r2;simp only[Bool.not_true,cF,r1',r2',nH];exact⟨_,rfl,rfl,r3.le,λ_=>⟨r3,r3.ok (by rw[r4,r5,r6];exact hv)⟩,.inl ⟨rfl,rfl,.inr ⟨y,hst,hy,hdi,r1⟩⟩⟩
    · simp only[Sum.elim_inr];exact⟨_,rfl,rfl,hb,λ_=>⟨hs0,hp⟩,.inr ⟨rfl,c0,k1,k2,hfl⟩⟩

theorem oY.le {b:nI} (h:oY b):vj M b:=by
 obtain⟨v1,v2,v3,v4⟩:=h.vt.len;have h1:=h.name;have h2:=h.n6;have h3:=h.f12
 have v3':b.2.2.2.2.2.1.length=b.2.2.1.length:=v3;have v4':b.2.2.2.2.1.length<=6:=v4
 have hM:M=1048576:=rfl;exact⟨by omega,by omega,by omega,by omega,by omega⟩
theorem vI {b:nI} (h:vj M b):bY b b=some true:=by
 obtain⟨h0,h1,h2,h3,h4⟩:=h;have hM:M=1048576:=rfl
 have r1:f0 b.2.2.2.2.1 b.2.2.2.2.1=some true:=by
  unfold f0;rw[show ((b.2.2.2.2.1.length:Int) != (b.2.2.2.2.1.length:Int))=false by simp,cF,uc (n:=b.2.2.2.2.1.length) (λk hk=>by
   unfold fA;rw[oE (by omega),cT,nX hk,nH,nH,nZ (by omega)];simp) (by unfold fA;rw[oq (by omega),cF])]
  rfl
 have r2:loop (λz=>f5 b b z) 0=some (.inl ()):=uc (n:=b.2.2.1.length) (λk hk=>by
  unfold f5;rw[oE (by omega),cT,nX hk,nH,nH,nZ (by omega)];simp) (by unfold f5;rw[oq (by omega),cF])
 have r3:loop (λz=>f6 b b z) 0=some (.inl ()):=uc (n:=b.2.2.2.1.length) (λk hk=>by
  unfold f6;rw[oE (by omega),cT,nX hk,nH,nH,nZ (by omega)];simp) (by unfold f6;rw[oq (by omega),cF])
 unfold bY;rw[r1,r2,r3,sO (by omega)];simp
def Dr {α:Type} (P:α->Prop) (o:Option (ob×α)):Prop:=∃c x,o=some (c,x)/\CW c/\P x
theorem Dr.cond {α:Type} {P:α->Prop} {a b:Option (ob×α)} {t:Bool} (ha:Dr P a) (hb:Dr P b):Dr P (cond t a b):=by cases t<;>assumption
theorem Dr.bind {α β:Type} {Q:α->Prop} {P:β->Prop} {o:Option (ob×α)} {f:ob×α->Option (ob×β)} (h:Dr Q o) (k:∀c x,CW c->Q x->Dr P (f (c,x))):Dr P (o.bind f):=by
 obtain⟨c,x,rfl,hc,hx⟩:=h;exact k c x hc hx
theorem Dr.some {α:Type} {P:α->Prop} {c:ob} {x:α} (hc:CW c) (hx:P x):Dr P (some (c,x)):=⟨c,x,rfl,hc,hx⟩
theorem rL {c:ob} (h:CW c) (n:Int):Dr (λr:Int=>0<=r/\(1<=n->r<n)) (aa c n):=by
 obtain⟨c',r,e,w,h1,h2⟩:=rN h n;exact⟨c',r,e,w,h1,h2⟩
theorem AM {c:ob} (h:CW c) {l:List Int} (hl:1<=l.length):Dr (λr:Int=>r∈l) (ai c l):=by
 obtain⟨c',r,e,w,h1⟩:=xb h hl;exact⟨c',r,e,w,h1⟩
theorem FF {c:ob} (h:CW c) {l:List (List UInt8)} (hl:1<=l.length):Dr (λr:List UInt8=>r∈l) (aO c l):=by
 obtain⟨c',r,e,w,h1⟩:=HC h hl;exact⟨c',r,e,w,h1⟩
theorem I5 {c:ob} (h:CW c):Dr (λo:List Int=>Nm o) (aR c):=by
 obtain⟨c',r,e,w,h1⟩:=HP h;exact⟨c',r,e,w,h1⟩
theorem I6 {c:ob} (h:CW c):Dr (λ_:Int=>True) (ci c):=by
 unfold ci;refine Dr.bind (rL h 1000) λc x hc _=>?_;obtain⟨c',r,e,w,_⟩:=xb hc (l:=[0,1,(-1),127,128,(-128),(-129),255,256,32767,32768,(-32769),8388608,2147483647,(-2147483648),2147483648,(-2147483649),9223372036854775807,(-9223372036854775808),x]) (by simp);simp only[e];exact⟨c',r,rfl,w,trivial⟩
def Eb (v:qB):Prop:=(v.1=2->v.2.2.1=[]/\v.2.2.2=[])/\(v.1=4->v.2.1=0/\v.2.2.2=[])
theorem Hb (n:Int):Eb (2,n,[],[]):=⟨λ_=>⟨rfl,rfl⟩,λh=>absurd (show (2:Int)=4 from h) (by decide)⟩
theorem Hc (s:List UInt8):Eb (4,0,s,[]):=⟨λh=>absurd (show (4:Int)=2 from h) (by decide),λ_=>⟨rfl,rfl⟩⟩
theorem IY (o:List Int):Eb (6,0,[],o):=⟨λh=>absurd (show (6:Int)=2 from h) (by decide),λh=>absurd (show (6:Int)=4 from h) (by decide)⟩
theorem EZ (k:Int):Eb (k,0,[],[]):=⟨λ_=>⟨rfl,rfl⟩,λ_=>⟨rfl,rfl⟩⟩
def BA (v:qB):Prop:=v.2.2.1.length<=100/\v.2.2.2.length<=1000/\Eb v
theorem BB {x:List UInt8} {l:List (List UInt8)} {n:Nat} (h:x∈l) (hl:∀y∈l,y.length<=n):x.length<=n:=hl x h
def Cf (x:nJ):Prop:=x.1.length<=1000/\BA x.2
theorem Cf.le {x:nJ} (h:Cf x):xW M x:=by
 have hM:M=1048576:=rfl;obtain⟨h1,h2,h3,_⟩:=h;exact⟨by omega,by omega,by omega⟩
def u5 (n:Int):Int:=if n>2147483647 then 2147483647 else if n < -2147483648 then -2147483648 else n
theorem Cg (n:Int):-2147483648<=u5 n/\u5 n<=2147483647:=by unfold u5;split<;>(try split)<;>omega
def pU (m:Int):List Int:=if nN m (-128) 127 then [m%256]else if nN m (-32768) 32767 then [m/256%256,m%256]else if nN m (-8388608) 8388607 then [m/65536%256,m/256%256,m%256]else [m/16777216%256,m/65536%256,m/256%256,m%256]
theorem w8 (x:Int):IntKind.u8.wrap x=x%256:=rfl
theorem fd (m:Int) {k:Int} (hk:0<=k):m.fdiv k=m/k:=Int.fdiv_eq_ediv_of_nonneg m hk
theorem pk {α β:Type} {step:α->Option (α⊕β)} {x y:α} {b:β} (h:step x=some (.inl y)) (k:loop step y=some b):loop step x=some b:=by
 obtain⟨n,hn⟩:=xI k;exact sa (k:=n+1) (by rw[ph,h];exact hn)
theorem Ec {n:Int} (hn:-9223372036854775808<=n/\n<=9223372036854775807):de n=some (pU (u5 n)):=by
 unfold de;have hc:max2 (-2147483648) (min2 n 2147483647)=u5 n:=by
  unfold max2 min2 u5;split<;>split<;>(try split)<;>(try split)<;>omega
 rw[hc];obtain⟨h1,h2⟩:=Cg n;generalize u5 n=m at h1 h2;simp only;have a1:aE m 1=cond (!(nN m (-128) 127)) (some (.inl 2)) (some (.inr 1)):=by
  unfold aE;rw[show shl .i64 (-1) (nK ((nK (8*1))-1))=some (-128)from rfl,show shl .i64 1 (nK ((nK (8*1))-1))=some 128 from rfl];simp only[nH,ra];rw[show nK (128-1)=127 from rfl];cases nN m (-128) 127<;>rfl
 have a2:aE m 2=cond (!(nN m (-32768) 32767)) (some (.inl 3)) (some (.inr 2)):=by
  unfold aE;rw[show shl .i64 (-1) (nK ((nK (8*2))-1))=some (-32768)from rfl,show shl .i64 1 (nK ((nK (8*2))-1))=some 32768 from rfl];simp only[nH,ra];rw[show nK (32768-1)=32767 from rfl];cases nN m (-32768) 32767<;>rfl
 have a3:aE m 3=cond (!(nN m (-8388608) 8388607)) (some (.inl 4)) (some (.inr 3)):=by
  unfold aE;rw[show shl .i64 (-1) (nK ((nK (8*3))-1))=some (-8388608)from rfl,show shl .i64 1 (nK ((nK (8*3))-1))=some 8388608 from rfl];simp only[nH,ra];rw[show nK (8388608-1)=8388607 from rfl];cases nN m (-8388608) 8388607<;>rfl
 have a4:aE m 4=some (.inr 4):=rfl;have b3:∀out:List Int,out.length<=10->aw m 3 out=some (.inl (2,out++[m/16777216%256])):=λout ho=>by
  unfold aw;rw[show shr .i64 m (nK (8*3))=some (m.fdiv (2^24))from rfl,nH,nP (by simp;omega),nH,w8,fd m (by decide)];rfl
 have b2:∀out:List Int,out.length<=10->aw m 2 out=some (.inl (1,out++[m/65536%256])):=λout ho=>by
  unfold aw;rw[show shr .i64 m (nK (8*2))=some (m.fdiv (2^16))from rfl,nH,nP (by simp;omega),nH,w8,fd m (by decide)];rfl
 have b1:∀out:List Int,out.length<=10->aw m 1 out=some (.inl (0,out++[m/256%256])):=λout ho=>by
  unfold aw;rw[show shr .i64 m (nK (8*1))=some (m.fdiv (2^8))from rfl,nH,nP (by simp;omega),nH,w8,fd m (by decide)];rfl
 have b0:∀out:List Int,out.length<=10->aw m 0 out=some (.inl (-1,out++[m%256])):=λout ho=>by
  unfold aw;rw[show shr .i64 m (nK (8*0))=some (m.fdiv (2^0))from rfl,nH,nP (by simp;omega),nH,w8,fd m (by decide)];simp;rfl
 have be:∀out:List Int,aw m (-1) out=some (.inr out):=λout=>rfl;have c0:∀out:List Int,out.length<=9->loop (λz:Int×List Int=>aw m z.1 z.2) (0,out)=some (out++[m%256]):=λout ho=>pk (b0 out (by omega)) (oI (be _))
 have c1:∀out:List Int,out.length<=8->loop (λz:Int×List Int=>aw m z.1 z.2) (1,out)=some (out++[m/256%256]++[m%256]):=λout ho=>pk (b1 out (by omega)) (c0 _ (by simp;omega));have c2:∀out:List Int,out.length<=7->loop (λz:Int×List Int=>aw m z.1 z.2) (2,out)=some (out++[m/65536%256]++[m/256%256]++[m%256]):=λout ho=>pk (b2 out (by omega)) (c1 _ (by simp;omega))
 have c3:∀out:List Int,out.length<=6->loop (λz:Int×List Int=>aw m z.1 z.2) (3,out)=some (out++[m/16777216%256]++[m/65536%256]++[m/256%256]++[m%256]):=λout ho=>pk (b3 out (by omega)) (c2 _ (by simp;omega));unfold pU;cases h8:nN m (-128) 127 with
 | true =>
  rw[h8]at a1;rw[oI (step:=λz=>aE m z) a1,nH,show nK (1-1)=0 from rfl,c0 [] (by simp)];rfl
 | false =>
  rw[h8]at a1;cases h16:nN m (-32768) 32767 with
  | true =>
   rw[h16]at a2;rw[pk (step:=λz=>aE m z) a1 (oI a2),nH,show nK (2-1)=1 from rfl,c1 [] (by simp)];rfl
  | false =>
   rw[h16]at a2;cases h24:nN m (-8388608) 8388607 with
   | true =>
    rw[h24]at a3;rw[pk (step:=λz=>aE m z) a1 (pk a2 (oI a3)),nH,show nK (3-1)=2 from rfl,c2 [] (by simp)];rfl
   | false =>
    rw[h24]at a3;rw[pk (step:=λz=>aE m z) a1 (pk a2 (pk a3 (oI a4))),nH,show nK (4-1)=3 from rfl,c3 [] (by simp)];rfl
theorem xR {n a b:Int} (h:nN n a b=false):n<a\/n>b:=by
 unfold nN at h;simp only[Bool.and_eq_false_iff,decide_eq_false_iff_not]at h;omega
theorem qi {n a b:Int} (h:nN n a b=true):a<=n/\n<=b:=by
 unfold nN at h;simp only[aT,decide_eq_true_eq]at h;omega
theorem yh {n:Int}:bS n=some (pU (u5 n)):=by
 unfold bS;have hc:aq n=some (u5 n):=by
  unfold aq u5;by_cases h1:n>2147483647
  · rw[dT h1,cT,if_pos h1]
  · rw[dF h1,cF,if_neg h1];by_cases h2:n < -2147483648
    · rw[dT h2,cT,if_pos h2]
    · rw[dF h2,cF,if_neg h2]
 rw[hc,nH];obtain⟨h1,h2⟩:=Cg n;generalize u5 n=m at h1 h2;have st:∀(x:Int) (out:List Int),out.length<=10->bz x out=cond (nN x (-128) 127) (some (.inr out)) (some (.inl (x/256,x/256%256::out))):=λx out ho=>by
  unfold bz;have e:(cond (decide (x<(-128))) (some true) (some (decide (x>127))))=some (!(nN x (-128) 127)):=by
   unfold nN;by_cases h1:x < -128
   · rw[dT h1,cT,dF (show ¬x >= -128 by omega)];rfl
   · rw[dF h1,cF,dT (show x >= -128 by omega)];by_cases h2:x>127
     · rw[dT h2,dF (show ¬x<=127 by omega)];rfl
     · rw[dF h2,dT (show x<=127 by omega)];rfl
  rw[e,nH,nP (by simp;omega),nH,w8,fd x (by decide)];cases nN x (-128) 127<;>rfl
 rw[w8];have goes:∀(x:Int) (out:List Int),out.length<=9->nN x (-128) 127=true->loop (λz:Int×List Int=>bz z.1 z.2) (x,out)=some out:=λx out ho h=>oI (by show bz x out=_;rw[st x out (by omega),h];rfl)
 have more:∀(x:Int) (out r:List Int),out.length<=9->nN x (-128) 127=false->loop (λz:Int×List Int=>bz z.1 z.2) (x/256,x/256%256::out)=some r->loop (λz:Int×List Int=>bz z.1 z.2) (x,out)=some r:=λx out r ho h k=>pk (by show bz x out=_;rw[st x out (by omega),h];rfl) k;have ux:∀(x a b:Int),a<=x->x<=b->nN x a b=true:=λx a b h1 h2=>by unfold nN;rw[dT h1,dT h2];rfl
 have outn:∀(x a b:Int),(x<a\/x>b)->nN x a b=false:=λx a b h=>by
  unfold nN;simp only[Bool.and_eq_false_iff,decide_eq_false_iff_not];omega
 unfold pU;cases h8:nN m (-128) 127 with
 | true=>rw[goes m _ (by simp) h8];rfl
 | false =>
  have k8:=xR h8;cases h16:nN m (-32768) 32767 with
  | true =>
   have k16:=qi h16;rw[more m _ _ (by simp) h8 (goes (m/256) _ (by simp) (ux _ _ _ (by omega) (by omega)))];rfl
  | false =>
   have k16:=xR h16;cases h24:nN m (-8388608) 8388607 with
   | true =>
    have k24:=qi h24;rw[more m _ _ (by simp) h8 (more (m/256) _ _ (by simp) (outn _ _ _ (by omega)) (goes (m/256/256) _ (by simp) (ux _ _ _ (by omega) (by omega))))];rw[show m/256/256=m/65536 by omega];rfl
   | false =>
    have k24:=xR h24;rw[more m _ _ (by simp) h8 (more (m/256) _ _ (by simp) (outn _ _ _ (by omega)) (more (m/256/256) _ _ (by simp) (outn _ _ _ (by omega)) (goes (m/256/256/256) _ (by simp) (ux _ _ _ (by omega) (by omega)))))];rw[show m/256/256=m/65536 by omega,show m/65536/256=m/16777216 by omega];rfl

def Ju (b:List Int):Prop:=∀x∈b,0<=x/\x<=255
def oO (t:Int) (body:List Int):List Int:=t::((if body.length>=128 then [129,(body.length:Int)]else [(body.length:Int)])++body)
theorem Da (t:Int) {body:List Int} (hn:body.length<=M):bL t body=some (if nN t 0 255=true/\body.length<=250 then (oO t body,true)else ([],false)):=by
 have hn':body.length<=1048576:=hn;unfold bL;rw[ra,nH];cases ht:nN t 0 255 with
 | false=>rw[if_neg (by simp)];rfl
 | true =>
  obtain⟨t1,t2⟩:=qi ht;rw[Bool.not_true,cF,nH];by_cases h:(body.length:Int)>250
  · rw[dT h,cT,if_neg (by omega)]
  · rw[dF h,cF,if_pos ⟨rfl,by omega⟩];unfold oO;have e1:IntKind.u8.wrap t=t:=by rw[w8];omega
    have e2:IntKind.u8.wrap (body.length:Int)=(body.length:Int):=by rw[w8];omega
    by_cases h8:(body.length:Int)>=128
    · rw[dT h8,cT,nP (by simp),nH,nP (by simp),nH,nP (by simp;omega),nH,if_pos (by omega),e1,e2];rfl
    · rw[dF h8,cF,nP (by simp),nH,nP (by simp;omega),nH,if_neg (by omega),e1,e2];rfl
theorem BC {b:List Int} (t:Int) {body:List Int} (hb:b.length<=1000) (hn:body.length<=M):aS b t body=some (b++if nN t 0 255=true/\body.length<=250 then oO t body else []):=by
 unfold aS;have hM:M=1048576:=rfl
 rw[Da t hn,nH,Et (by omega),nH];split
 · next h =>
   have:(oO t body).length<=300:=by unfold oO;split<;>simp<;>omega
   rw[nP (by show b.length+(oO t body).length<=_;omega)];rfl
 · rw[nP (by show b.length+0<=_;omega)];rfl
structure xS (b:List Int) (at':Int) (t:Int) (body:List Int) (next:Int):Prop where
 ex:∃pre rest,b=pre++(oO t body++rest)/\at'=(pre.length:Int)/\next=((pre.length+(oO t body).length:Nat):Int)
 n:body.length<=250
 t:nN t 0 255=true
 b:Ju body
def FG (x:Int):Int:=if x>127 then x-256 else x
theorem uP {n:Int} (h:-2147483648<=n/\n<=2147483647):u5 n=n:=by unfold u5;split<;>(try split)<;>omega
theorem i8 {x:Int} (hx:0<=x/\x<=255):nK (IntKind.i8.wrap x)=FG x:=by
 have:IntKind.i8.wrap x=FG x:=by
  show (let m:=x%256;if (true&&decide (m>=128))=true then m-256 else m)=_;unfold FG;simp only[Bool.true_and,decide_eq_true_eq];split<;>split<;>omega
 rw[this];unfold FG;split<;>exact oC (by omega) (by omega)
theorem FH:((2^64:Nat):Int)=18446744073709551616:=by decide
theorem wB {x:Int} (hx:0<=x/\x<9223372036854775808):qL .i64 x 127=x%128:=by
 show IntKind.i64.wrap (((BitVec.ofInt 64 x&&&BitVec.ofInt 64 127).toNat:Nat):Int)=_;rw[BitVec.toNat_and,BitVec.toNat_ofInt,BitVec.toNat_ofInt,FH];have h2:((127:Int)%18446744073709551616).toNat=2^7-1:=by decide
 have h1:(x%18446744073709551616).toNat=x.toNat:=by omega
 rw[h1,h2,Nat.and_two_pow_sub_one_eq_mod];show (let z:=((x.toNat%2^7:Nat):Int)%18446744073709551616;if (true&&decide (z>=9223372036854775808))=true then z-18446744073709551616 else z)=_
 simp only[Bool.true_and,decide_eq_true_eq];split<;>omega
theorem Hd {x:Int} (hx:0<=x/\x<128):z0 .i64 x 128=x+128:=by
 show IntKind.i64.wrap (((BitVec.ofInt 64 x|||BitVec.ofInt 64 128).toNat:Nat):Int)=_;rw[BitVec.toNat_or,BitVec.toNat_ofInt,BitVec.toNat_ofInt,FH];have h2:((128:Int)%18446744073709551616).toNat=2^7*1:=by decide
 have h1:(x%18446744073709551616).toNat=x.toNat:=by omega
 rw[h1,h2,Nat.or_comm,←Nat.two_pow_add_eq_or_of_lt (by show x.toNat<2^7;omega)];show (let z:=((2^7*1+x.toNat:Nat):Int)%18446744073709551616;if (true&&decide (z>=9223372036854775808))=true then z-18446744073709551616 else z)=_
 simp only[Bool.true_and,decide_eq_true_eq];split<;>omega
def grp (n:Int):List Int:=if n<=127 then [n]else if n<=16383 then [n/128+128,n%128]else if n<=2097151 then [n/16384+128,n/128%128+128,n%128]else [n/2097152+128,n/16384%128+128,n/128%128+128,n%128]
def qb (o:List Int):List Int:=o.flatMap grp
theorem IZ {n:Int} (hn:0<=n/\n<268435456):eE n=some (grp n):=by
 unfold eE;have st:∀(x:Int) (out:List Int),0<=x/\x<268435456->out.length<=10->bA x out=cond (decide (x>127)) (some (.inl (x/128,(x/128%128+128)::out))) (some (.inr out)):=λx out hx ho=>by
  unfold bA;rw[fd x (by decide),show (2:Int)^7=128 from rfl,wB (by omega),Hd (by omega),w8,nP (by simp;omega),nH,show (x/128%128+128)%256=x/128%128+128 by omega];rfl
 have goes:∀(x:Int) (out:List Int),0<=x/\x<268435456->out.length<=9->x<=127->loop (λz:Int×List Int=>bA z.1 z.2) (x,out)=some out:=λx out hx ho h=>oI (by show bA x out=_;rw[st x out hx (by omega),dF (by omega)];rfl);have more:∀(x:Int) (out r:List Int),0<=x/\x<268435456->out.length<=9->127<x->loop (λz:Int×List Int=>bA z.1 z.2) (x/128,(x/128%128+128)::out)=some r->loop (λz:Int×List Int=>bA z.1 z.2) (x,out)=some r:=λx out r hx ho h k=>pk (by show bA x out=_;rw[st x out hx (by omega),dT (by omega)];rfl) k
 rw[wB (by omega),w8,show n%128%256=n%128 by omega];unfold grp;by_cases h1:n<=127
 · rw[if_pos h1,goes n _ hn (by simp) h1,show n%128=n by omega];rfl
 rw[if_neg h1];by_cases h2:n<=16383
 · rw[if_pos h2,more n _ _ hn (by simp) (by omega) (goes (n/128) _ (by omega) (by simp) (by omega)),show n/128%128=n/128 by omega];rfl
 rw[if_neg h2];by_cases h3:n<=2097151
 · rw[if_pos h3,more n _ _ hn (by simp) (by omega) (more (n/128) _ _ (by omega) (by simp) (by omega) (goes (n/128/128) _ (by omega) (by simp) (by omega))),show n/128/128=n/16384 by omega,show n/16384%128=n/16384 by omega];rfl
 rw[if_neg h3,more n _ _ hn (by simp) (by omega) (more (n/128) _ _ (by omega) (by simp) (by omega) (more (n/128/128) _ _ (by omega) (by simp) (by omega) (goes (n/128/128/128) _ (by omega) (by simp) (by omega)))),show n/128/128=n/16384 by omega,show n/16384/128=n/2097152 by omega,show n/2097152%128=n/2097152 by omega];rfl
theorem Gl (n:Int):(grp n).length<=4:=by unfold grp;split<;>(try split)<;>(try split)<;>simp
theorem F9 {n:Int} (h:n<=100000):(grp n).length<=3:=by unfold grp;split<;>(try split)<;>(try split)<;>simp<;>omega
theorem u6 {o:List Int} (h:∀x∈o,x<=100000):(qb o).length<=3*o.length:=by
 induction o with
 | nil=>simp[qb]
 | cons x t ih =>
  have h1:=ih λy hy=>h y (mem_cons_of_mem _ hy);have h2:=F9 (h x (by simp))
  unfold qb at h1 ⊢;rw[List.flatMap_cons,length_append,length_cons];omega
theorem J0 {n:Int} (hn:0<=n/\n<=100000) {out:List Int} (ho:out.length<=100):∃d,loop (λz=>bp n z) 0=some d/\∃e,loop (λz:Int×List Int=>bM n z.1 z.2) (d,out)=some e/\e.length<=104/\e++[IntKind.u8.wrap (qL .i64 n 127)]=out++grp n:=by
 have s0:bp n 0=cond (decide (n>127)) (some (.inl 1)) (some (.inr 0)):=by
  unfold bp;rw[show shr .i64 n (nK (7*0))=some (n.fdiv (2^0))from rfl,nH,fd n (by decide),show n/2^0=n by simp];rfl
 have s1:bp n 1=cond (decide (n/128>127)) (some (.inl 2)) (some (.inr 1)):=by
  unfold bp;rw[show shr .i64 n (nK (7*1))=some (n.fdiv (2^7))from rfl,nH,fd n (by decide),show (2:Int)^7=128 from rfl];rfl
 have s2:bp n 2=some (.inr 2):=by
  unfold bp;rw[show shr .i64 n (nK (7*2))=some (n.fdiv (2^14))from rfl,nH,fd n (by decide),show (2:Int)^14=16384 from rfl,dF (by omega)];rfl
 have t0:∀o:List Int,bM n 0 o=some (.inr o):=λo=>rfl;have t1:∀o:List Int,o.length<=110->bM n 1 o=some (.inl (0,o++[n/128%128+128])):=λo ho=>by
  unfold bM;rw[show shr .i64 n (nK (7*1))=some (n.fdiv (2^7))from rfl,nH,fd n (by decide),show (2:Int)^7=128 from rfl,wB (by omega),oC (by omega) (by omega),w8,nP (by simp;omega),nH,show (n/128%128+128)%256=n/128%128+128 by omega];rfl
 have t2:∀o:List Int,o.length<=110->bM n 2 o=some (.inl (1,o++[n/16384%128+128])):=λo ho=>by
  unfold bM;rw[show shr .i64 n (nK (7*2))=some (n.fdiv (2^14))from rfl,nH,fd n (by decide),show (2:Int)^14=16384 from rfl,wB (by omega),oC (by omega) (by omega),w8,nP (by simp;omega),nH,show (n/16384%128+128)%256=n/16384%128+128 by omega];rfl
 rw[wB (by omega),w8,show n%128%256=n%128 by omega];unfold grp;by_cases h1:n<=127
 · rw[dF (by omega)]at s0;refine⟨0,oI s0,out,oI (t0 out),by omega,?_⟩;rw[if_pos h1,show n%128=n by omega]
 rw[dT (by omega)]at s0;by_cases h2:n<=16383
 · rw[dF (by omega)]at s1;refine⟨1,pk s0 (oI s1),_,pk (t1 out (by omega)) (oI (t0 _)),by simp;omega,?_⟩;rw[if_neg h1,if_pos h2,show n/128%128=n/128 by omega];simp
 rw[dT (by omega)]at s1;refine⟨2,pk s0 (pk s1 (oI s2)),_,pk (t2 out (by omega)) (pk (t1 _ (by simp;omega)) (oI (t0 _))),by simp;omega,?_⟩;rw[if_neg h1,if_neg h2,if_pos (by omega),show n/16384%128=n/16384 by omega];simp
theorem He {o:List Int} (hn:o.length<=M):∃v,ak o=some v/\(v=true->1<=o.length/\o.length<=10/\∀x∈o,0<=x/\x<=100000)/\cn o=some (cond v (qb o) []):=by
 have hn':o.length<=1048576:=hn;obtain⟨v,hv,hv2⟩:∃v,ak o=some v/\(v=true->1<=o.length/\o.length<=10/\∀x∈o,0<=x/\x<=100000):=by
  unfold ak;obtain⟨b,h1,h2⟩:=o9 (β:=Unit⊕Bool) (step:=λz=>aD o z) (λk i=>i=(k:Int)/\∀x∈o.take k,0<=x/\x<=100000) o.length (λb=>(b=.inl ()/\∀x∈o,0<=x/\x<=100000)\/b=.inr false)
   (λk i hk ⟨e,hx⟩=>by
    subst e;have hs:aD o (k:Int)=cond (!(nN o[k] 0 100000)) (some (.inr (.inr false))) (some (.inl ((k+1:Nat):Int))):=by
     unfold aD;rw[oE (by omega),cT,nX hk,nH,ra,nH,nZ (by omega)]
    cases hp:nN o[k] 0 100000 with
    | false=>exact .inr ⟨_,by rw[hs,hp];rfl,.inr rfl⟩
    | true =>
     refine .inl ⟨_,by rw[hs,hp];rfl,rfl,λx hx'=>?_⟩;rw[take_add_one,List.getElem?_eq_getElem hk,mem_append]at hx';rcases hx' with hx'|hx'
     · exact hx x hx'
     · simp at hx';subst hx';exact qi hp)
   (λi ⟨e,hx⟩=>by
    subst e;rw[take_length]at hx;refine⟨.inl (),?_,.inl ⟨rfl,hx⟩⟩;unfold aD;rw[oq (by omega),cF]) (x:=0) ⟨rfl,by simp⟩
  rw[h1,nH];rcases h2 with ⟨rfl,hx⟩|rfl
  · simp only[Sum.elim_inl,ra,nH];refine⟨_,rfl,λh=>?_⟩;have:=qi h
    exact⟨by omega,by omega,hx⟩
  · exact⟨false,rfl,λh=>by cases h⟩
 refine⟨v,hv,hv2,?_⟩;unfold cn;rw[hv,nH];cases v with
 | false=>rfl
 | true =>
  obtain⟨h1,h10,hx⟩:=hv2 rfl;obtain⟨b,e1,rfl⟩:=o9 (step:=λz:Int×List Int=>cm o z.1 z.2) (λk z=>z=((k:Int),qb (o.take k))) o.length (λb=>b=qb o)
   (λk z hk e=>by
    subst e;left;have hl:(qb (o.take k)).length<=30:=by
     have:=u6 (o:=o.take k) λx hx'=>(hx x (mem_of_mem_take hx')).2;rw[length_take]at this;omega
    obtain⟨d,d1,e,e1,e2,e3⟩:=J0 (hx _ (getElem_mem hk)) (out:=qb (o.take k)) (by omega);have ht:qb (o.take (k+1))=qb (o.take k)++grp o[k]:=by
     unfold qb;rw[take_add_one,List.getElem?_eq_getElem hk,flatMap_append];simp
    refine⟨_,?_,rfl⟩;show cm o (k:Int) (qb (o.take k))=_
    unfold cm;rw[oE (by omega),cT,nX hk,nH,d1,nH,e1,nH,nP (by simp;omega),nH,nZ (by omega),ht,←e3])
   (λz e=>by
    subst e;refine⟨qb o,?_,rfl⟩;show cm o (o.length:Int) (qb (o.take o.length))=_
    unfold cm;rw[oq (by omega),cF,take_length]) (x:=(0,[])) rfl
  rw[e1];rfl

def J1 (o:List Int):Prop:=1<=o.length/\o.length<=10/\∀x∈o,0<=x/\x<=100000
theorem u7 {o:List Int} (h:qC o=true):J1 o:=by
 unfold qC at h;rw[aT,Bool.not_eq_true']at h;have h1:=qi h.2
 refine⟨by omega,by omega,λx hx=>?_⟩;obtain⟨k,hk,rfl⟩:=getElem_of_mem hx;have:=any_eq_false.1 h.1 k (mem_range.2 hk)
 unfold A5 at this;simp only[List.getElem?_eq_getElem hk]at this;cases hp:nN o[k] 0 100000 with
 | true=>exact qi hp
 | false=>rw[hp]at this;exact absurd rfl this
theorem Ch {o:List Int} (hn:o.length<=M):cn o=some (cond (qC o) (qb o) []):=by
 obtain⟨v,h1,h2,h3⟩:=He hn;rw[yY (by have:o.length<=1048576:=hn;omega)]at h1;cases h1;exact h3
def qv (v:qB):List Int:=cond (v.1==2) (pU v.2.1) (cond (v.1==4) (rY v.2.2.1) (cond (v.1==6) (qb v.2.2.2) []))
theorem Ci {o:List Int} (h:qC o=true):o.length<=10:=(u7 h).2.1
theorem xS.next {b:List Int} {i t:Int} {body:List Int} {next:Int} (h:xS b i t body next):0<=next/\next<=(b.length:Int):=by
 obtain⟨pre,rest,e1,e2,e3⟩:=h.ex;have:=congrArg List.length e1
 rw[length_append,length_append]at this;omega
theorem qW (n:Int):(pU n).length<=4:=by unfold pU;split<;>(try split)<;>(try split)<;>simp
theorem pz (t:Int) {body:List Int}:(oO t body).length<=body.length+3:=by unfold oO;split<;>simp<;>omega
theorem wZ {v:qB} (h:qj v=true):(qv v).length<=30/\nN v.1 0 255=true/\v.2.2.2.length<=10/\v.2.2.1.length<=20:=by
 obtain⟨k,n,s,o⟩:=v;have ux:∀{x:Int},0<=x->x<=255->nN x 0 255=true:=λh1 h2=>by unfold nN;rw[dT h1,dT h2];rfl
 unfold qj at h;simp only at h;unfold qv;simp only;by_cases h1:(k==5||(k==128||k==130))=true
 · rw[h1,cT]at h;simp only[aT,beq_iff_eq]at h;simp only[Bool.or_eq_true,beq_iff_eq]at h1;obtain⟨_,rfl,ho⟩:=h;rcases h1 with rfl|rfl|rfl<;>exact⟨by simp,by decide,by omega,by simp⟩
 · have h1':(k==5||(k==128||k==130))=false:=by simpa using h1
   rw[h1',cF]at h;by_cases h2:k=2
   · subst h2;simp only[show ((2:Int)==2)=true from rfl,cT,aT,beq_iff_eq]at h ⊢;obtain⟨_,rfl,ho⟩:=h;have:=qW n
     exact⟨by omega,by decide,by omega,by simp⟩
   rw[beq_eq_false_iff_ne.2 h2,cF]at h ⊢;by_cases h4:k=4
   · subst h4;simp only[show ((4:Int)==4)=true from rfl,cT,aT,beq_iff_eq,decide_eq_true_eq]at h ⊢;obtain⟨h5,_,ho⟩:=h;exact⟨by unfold rY;rw[length_map];omega,by decide,by omega,by omega⟩
   rw[beq_eq_false_iff_ne.2 h4,cF]at h ⊢;by_cases h6:k=6
   · subst h6;simp only[show ((6:Int)==6)=true from rfl,cT,aT,beq_iff_eq]at h ⊢;obtain⟨ho,_,rfl⟩:=h;obtain⟨o1,o2,o3⟩:=u7 ho;have:=u6 (o:=o) λx hx=>(o3 x hx).2
     exact⟨by omega,by decide,by omega,by simp⟩
   · rw[beq_eq_false_iff_ne.2 h6,cF]at h;cases h
theorem Hf {b:List Int} (hb:b.length<=1000) {v:qB} (h:qj v=true):ee b v=some (b++oO v.1 (qv v)):=by
 obtain⟨l1,l2,l3,l4⟩:=wZ h;have hM:M=1048576:=rfl
 have fin:∀body:List Int,qv v=body->aS b v.1 body=some (b++oO v.1 (qv v)):=λbody e=>by
  subst e;rw[BC _ hb (by omega),if_pos ⟨l2,by omega⟩]
 unfold ee;rw[Fx (by omega),h,nH];simp only[Bool.not_true,cF];by_cases h2:v.1=2
 · have e:qv v=pU v.2.1:=by unfold qv;rw[beq_iff_eq.2 h2];rfl
   have hr:-2147483648<=v.2.1/\v.2.1<=2147483647:=by
    unfold qj at h;rw[h2]at h;simp only[show ((2:Int)==5)=false from rfl,show ((2:Int)==128)=false from rfl,show ((2:Int)==130)=false from rfl,Bool.or_self,cF,show ((2:Int)==2)=true from rfl,cT,aT]at h;exact qi h.1
   rw[beq_iff_eq.2 h2,cT,Ec (by omega),nH,uP hr,fin _ e];rfl
 rw[beq_eq_false_iff_ne.2 h2,cF];by_cases h4:v.1=4
 · have e:qv v=rY v.2.2.1:=by unfold qv;rw[beq_eq_false_iff_ne.2 h2,beq_iff_eq.2 h4];rfl
   rw[beq_iff_eq.2 h4,cT,fin _ e];rfl
 rw[beq_eq_false_iff_ne.2 h4,cF];by_cases h6:v.1=6
 · have e:qv v=qb v.2.2.2:=by unfold qv;rw[beq_eq_false_iff_ne.2 h2,beq_eq_false_iff_ne.2 h4,beq_iff_eq.2 h6];rfl
   have ho:qC v.2.2.2=true:=by
    unfold qj at h;rw[h6]at h;simp only[show ((6:Int)==5)=false from rfl,show ((6:Int)==128)=false from rfl,show ((6:Int)==130)=false from rfl,Bool.or_self,cF,show ((6:Int)==2)=false from rfl,show ((6:Int)==4)=false from rfl,show ((6:Int)==6)=true from rfl,cT,aT]at h;exact h.1
   rw[beq_iff_eq.2 h6,cT,Ch (by omega),ho,cT,nH,fin _ e];rfl
 · have e:qv v=[]:=by unfold qv;rw[beq_eq_false_iff_ne.2 h2,beq_eq_false_iff_ne.2 h4,beq_eq_false_iff_ne.2 h6];rfl
   rw[beq_eq_false_iff_ne.2 h6,cF,fin _ e];rfl
def vZ (x:nJ):List Int:=oO 6 (qb x.1)++oO x.2.1 (qv x.2)
def uj (x:nJ):List Int:=oO 48 (vZ x)
def q6 (l:List nJ):List Int:=l.flatMap uj
def qH (p:oe):List Int:=oO 2 (pU p.2.1)++oO 2 (pU p.2.2.1)++oO 2 (pU p.2.2.2.1)++oO 48 (q6 p.2.2.2.2)
theorem pX {p:oe} (h:pK p=true):(∀x∈p.2.2.2.2,qK x=true)/\p.2.2.2.2.length<=10/\nN p.1 0 255=true/\(-2147483648<=p.2.1/\p.2.1<=2147483647)/\(0<=p.2.2.1/\p.2.2.1<=1000)/\(0<=p.2.2.2.1/\p.2.2.2.1<=1000):=by
 obtain⟨k,id,a,b,l⟩:=p;unfold pK at h;simp only[aT,Bool.not_eq_true',decide_eq_true_eq]at h;obtain⟨⟨h1,h2⟩,h3,h4⟩:=h;refine⟨λx hx=>?_,by show l.length<=10;omega,?_⟩
 · obtain⟨j,hj,rfl⟩:=getElem_of_mem hx;have hj':j<l.length:=hj
   have:=any_eq_false.1 h1 j (mem_range.2 hj');unfold bX at this;simp only[List.getElem?_eq_getElem hj']at this;simpa using this
 · have h4:=qi h4;by_cases c1:(k==162||k==165)=true
   · rw[c1,cT,aT]at h3;have q1:=qi h3.1
     have q2:=qi h3.2;simp only[Bool.or_eq_true,beq_iff_eq]at c1;refine⟨?_,h4,q1,q2⟩;rcases c1 with rfl|rfl<;>rfl
   · have c1':(k==162||k==165)=false:=by simpa using c1
     rw[c1',cF]at h3;by_cases c2:(k==160||(k==161||k==163))=true
     · rw[c2,cT,aT]at h3;simp only[beq_iff_eq]at h3;simp only[Bool.or_eq_true,beq_iff_eq]at c2;obtain⟨rfl,rfl⟩:=h3;refine⟨?_,h4,by show (0:Int)<=0/\(0:Int)<=1000;omega,by show (0:Int)<=0/\(0:Int)<=1000;omega⟩;rcases c2 with rfl|rfl|rfl<;>rfl
     · have c2':(k==160||(k==161||k==163))=false:=by simpa using c2
       rw[c2',cF]at h3;cases h3
theorem vM {x:nJ} (h:qK x=true):(vZ x).length<=100/\(uj x).length<=110:=by
 unfold qK at h;rw[aT]at h;obtain⟨l1,_⟩:=wZ h.2;obtain⟨o1,o2,o3⟩:=u7 h.1;have h3:=u6 (o:=x.1) λy hy=>(o3 y hy).2
 have h4:=pz 6 (body:=qb x.1);have h5:=pz x.2.1 (body:=qv x.2)
 have h6:(vZ x).length<=100:=by unfold vZ;rw[length_append];omega
 have h7:=pz 48 (body:=vZ x);exact⟨h6,by unfold uj;omega⟩
theorem BD {b:List Int} (hb:b.length<=900) {n:Int} (hn:-2147483648<=n/\n<=2147483647):co b 2 n=some (b++oO 2 (pU n)):=by
 unfold co;have h4:=qW n
 rw[Ec (by omega),nH,uP hn,BC _ (by omega) (by show _<=1048576;omega),nH,if_pos ⟨by decide,by omega⟩]
theorem Hg {p:oe} (hp:tQ M p):ef p=some (if pK p=true/\(q6 p.2.2.2.2).length<=250/\(qH p).length<=250 then oO p.1 (qH p)else []):=by
 unfold ef;rw[Fz hp,nH];cases h:pK p with
 | false=>rw[if_neg (by simp)];rfl
 | true =>
  obtain⟨h1,h2,h3,h4,h5,h6⟩:=pX h;have hl:∀k,(q6 (p.2.2.2.2.take k)).length<=110*k:=by
   intro k
   induction k with
   | zero=>simp[q6]
   | succ k ih =>
    by_cases hk:k<p.2.2.2.2.length
    · have ht:q6 (p.2.2.2.2.take (k+1))=q6 (p.2.2.2.2.take k)++uj p.2.2.2.2[k]:=by
       unfold q6;rw[take_add_one,List.getElem?_eq_getElem hk,flatMap_append];simp
      have:=(vM (h1 _ (getElem_mem hk))).2;rw[ht,length_append];omega
    · rw[take_of_length_le (by omega)]at ih ⊢;omega
  obtain⟨b,e1,rfl⟩:=o9 (step:=λz:Int×List Int=>cp p z.1 z.2) (λk z=>z=((k:Int),q6 (p.2.2.2.2.take k))) p.2.2.2.2.length (λb=>b=.inl (q6 p.2.2.2.2))
   (λk z hk e=>by
    subst e;left;have hx:=h1 _ (getElem_mem hk)
    have hx':=hx;unfold qK at hx';rw[aT]at hx';obtain⟨o1,o2,o3⟩:=u7 hx'.1;have hob:=u6 (o:=p.2.2.2.2[k].1) λy hy=>(o3 y hy).2
    have hlk:=hl k;obtain⟨b1,b2⟩:=vM hx;have ht:q6 (p.2.2.2.2.take (k+1))=q6 (p.2.2.2.2.take k)++uj p.2.2.2.2[k]:=by
     unfold q6;rw[take_add_one,List.getElem?_eq_getElem hk,flatMap_append];simp
    have ht6:=pz 6 (body:=qb p.2.2.2.2[k].1);refine⟨_,?_,rfl⟩;show cp p (k:Int) (q6 (p.2.2.2.2.take k))=_
    unfold cp;rw[oE (by omega),cT,nX hk,nH,Ch (by show _<=1048576;omega),hx'.1,cT,nH,BC _ (by simp) (by show _<=1048576;omega),if_pos ⟨by decide,by omega⟩,nH,nil_append,Hf (by omega) hx'.2,nH];have hone:oO 6 (qb p.2.2.2.2[k].1)++oO p.2.2.2.2[k].2.1 (qv p.2.2.2.2[k].2)=vZ p.2.2.2.2[k]:=rfl
    rw[hone,Da _ (by show _<=1048576;omega),if_pos ⟨by decide,by omega⟩,nH];simp only[Bool.not_true,cF];have hbb:oO 48 (vZ p.2.2.2.2[k])=uj p.2.2.2.2[k]:=rfl
    rw[hbb,nP (by omega),nH,nZ (by omega),ht])
   (λz e=>by
    subst e;refine⟨_,?_,rfl⟩;show cp p (p.2.2.2.2.length:Int) (q6 (p.2.2.2.2.take p.2.2.2.2.length))=_
    unfold cp;rw[oq (by omega),cF,take_length]) (x:=(0,[])) rfl
  have hal:(q6 p.2.2.2.2).length<=1100:=by
   have:=hl p.2.2.2.2.length;rw[take_length]at this;omega
  rw[Bool.not_true,cF,e1,nH,Sum.elim_inl,Da _ (by show _<=1048576;omega)];by_cases ha:(q6 p.2.2.2.2).length<=250
  · rw[if_pos ⟨by decide,ha⟩,nH];simp only[Bool.not_true,cF];have t1:=pz 2 (body:=pU p.2.1)
    have t2:=pz 2 (body:=pU p.2.2.1);have t3:=pz 2 (body:=pU p.2.2.2.1)
    have t4:=pz 48 (body:=q6 p.2.2.2.2);have i1:=qW p.2.1
    have i2:=qW p.2.2.1;have i3:=qW p.2.2.2.1
    rw[BD (by simp) h4,nH,nil_append,BD (by omega) ⟨by omega,by omega⟩,nH,BD (by rw[length_append];omega) ⟨by omega,by omega⟩,nH,nP (by simp only[length_append];omega),nH];have hbody:oO 2 (pU p.2.1)++oO 2 (pU p.2.2.1)++oO 2 (pU p.2.2.2.1)++oO 48 (q6 p.2.2.2.2)=qH p:=rfl
    rw[hbody,Da _ (by show _<=1048576;unfold qH;simp only[length_append];omega)];by_cases hb:(qH p).length<=250
    · rw[if_pos ⟨h3,hb⟩,if_pos ⟨by first|rfl|trivial,ha,hb⟩];rfl
    · rw[if_neg (λe=>hb e.2),if_neg (λe=>hb e.2.2)];rfl
  · rw[if_neg (λe=>ha e.2),if_neg (λe=>ha e.2.1)];rfl

theorem xS.cons {b P s:List Int} {i t:Int} {x:List Int} {next:Int} (h:xS b i t x next) (e:b=P++s) (hi:i=(P.length:Int)):∃s',b=(P++oO t x)++s'/\next=((P++oO t x).length:Int):=by
 obtain⟨pre,rest,e1,e2,e3⟩:=h.ex;have hl:pre.length=P.length:=by omega
 obtain⟨q1,q2⟩:=List.append_inj (e1.symm.trans e) hl;subst q1;exact⟨rest,by rw[e1,List.append_assoc],by rw[e3,length_append]⟩
theorem Fa (t:Int) (b:List Int):1<=(oO t b).length:=by unfold oO;simp
theorem qx {x:nJ} (h:qK x=true):xW M x:=by
 unfold qK at h;rw[aT]at h;obtain⟨_,_,l3,l4⟩:=wZ h.2;have:=Ci h.1
 have hM:M=1048576:=rfl;exact⟨by omega,by omega,by omega⟩
theorem tQ.of {p:oe} (h:∀x∈p.2.2.2.2,qK x=true) (h2:p.2.2.2.2.length<=11):tQ M p:=⟨by show _<=1048576;omega,λx hx=>qx (h x hx)⟩
def yQ (p:oe):List Int:=if pK p=true/\(q6 p.2.2.2.2).length<=250/\(qH p).length<=250 then oO p.1 (qH p)else []
def p8 (p:oe):Bool:=nN ((yQ p).length:Int) 1 120
theorem yi {p:oe} (hp:tQ M p):aF p=some (p8 p):=by
 unfold aF;rw[Hg hp,nH];show (ae ((yQ p).length:Int) 1 120).bind _=_
 rw[ra,nH];rfl
theorem Gm {p:oe} (h:p8 p=true):pK p=true:=by
 unfold p8 yQ at h;split at h
 · rename_i hh;exact hh.1
 · obtain⟨h1,_⟩:=qi h;simp at h1
theorem vh {α β:Type} {l:List α} {g:α->β} {step:Int×List β->Option ((Int×List β)⊕List β)} (hn:l.length<=M)
 (h1:∀k (hk:k<l.length) (out:List β),out.length=k->step ((k:Int),out)=some (.inl (((k+1:Nat):Int),out++[g l[k]]))) (h2:∀out,step ((l.length:Int),out)=some (.inr out)):loop step (0,[])=some (l.map g):=by
 obtain⟨b,e1,rfl⟩:=o9 (step:=step) (λk z=>z=((k:Int),(l.take k).map g)) l.length (λb=>b=l.map g)
  (λk z hk e=>by
   subst e;refine .inl ⟨_,h1 k hk _ (by rw[length_map,length_take];omega),?_⟩;rw[take_add_one,List.getElem?_eq_getElem hk,map_append];rfl)
  (λz e=>by
   subst e;exact⟨_,h2 _,by rw[take_length]⟩) (x:=(0,[])) rfl
 exact e1
noncomputable def oN (b:nI) (o:List Int):nJ:=(aM b o).getD ([],0,0,[],[])
noncomputable def sC (b:nI) (o:List Int):qB:=(bg b o).getD (0,0,[],[])
theorem x7 {b:nI} (h:oY b) {o:List Int} (ho:o.length<=1000):aM b o=some (oN b o)/\((oN b o∈pV b/\o<(oN b o).1)\/(oN b o=(o,130,0,[],[])/\∀x∈pV b,¬o<x.1)):=by
 obtain⟨j,hj⟩:=IB (Fr h) o;have e:=IC h ho hj
 unfold oN;rw[e];refine⟨rfl,?_⟩;by_cases hl:j<(pV b).length
 · rw[dif_pos hl];exact .inl ⟨getElem_mem hl,hj.yes j hl (Nat.le_refl _)⟩
 · rw[dif_neg hl];refine .inr ⟨rfl,λx hx=>?_⟩;obtain⟨i,hi,rfl⟩:=getElem_of_mem hx;exact hj.no i hi (by omega)
theorem Db {b:nI} (h:oY b) {o:List Int} (ho:o.length<9223372036854775807):bg b o=some (sC b o)/\((∃x∈pV b,x.1=o/\sC b o=x.2)\/((∀x∈pV b,x.1≠o)/\sC b o=(128,0,[],[]))):=by
 obtain⟨v,e,hv⟩:=Jm h ho;unfold sC;rw[e];exact⟨rfl,hv⟩
theorem yj {o:List Int} (h:Nm o):qC o=true:=by
 have h1:=h.ok;rw[yY (by have:=h.n10;omega)]at h1;exact Option.some.inj h1
theorem Cj {v:qB} (h:Vl v):qj v=true:=by
 have h1:=h.ok;rw[Fx (by rw[h.o];show 0<=1048576;omega)]at h1;exact Option.some.inj h1
theorem qw {o:List Int} (h:qC o=true):o.length<=10:=(u7 h).2.1
theorem I7 {b:nI} (h:oY b) {x:nJ} (hx:x∈pV b):qK x=true:=by
 obtain⟨h1,h2⟩:=ub h x hx;unfold qK;rw[yj h1,Cj h2];rfl
theorem vi {b:nI} (h:oY b) {o:List Int} (ho:qC o=true):qK (oN b o)=true:=by
 obtain⟨_,h1⟩:=x7 h (o:=o) (by have:=qw ho;omega);rcases h1 with ⟨h1,_⟩|⟨h1,_⟩
 · exact I7 h h1
 · rw[h1];unfold qK;rw[ho];rfl
theorem pt {x:nJ} (h:qK x=true):qC x.1=true:=by
 unfold qK at h;rw[aT]at h;exact h.1
theorem Dc {b:nI} (h:oY b) {o:List Int} (ho:o.length<9223372036854775807):qj (sC b o)=true:=by
 obtain⟨_,h1⟩:=Db h ho;rcases h1 with ⟨x,hx,_,e⟩|⟨_,e⟩
 · rw[e];exact Cj (ub h x hx).2
 · rw[e];rfl
def sg (s:List nJ×List (List Int)):Nat:=min s.2.length (10-s.1.length)
noncomputable def ux (b:nI) (s:List nJ×List (List Int)):List nJ×List (List Int):=(s.1++(s.2.take (sg s)).map (oN b),(s.2.take (sg s)).map (λo=>(oN b o).1)++s.2.drop (sg s))
noncomputable def u9 (b:nI):Nat->List nJ×List (List Int)->List nJ×List (List Int)
 | 0,s=>s
 | k+1,s=>if 0<s.2.length/\s.1.length<10 then u9 b k (ux b s)else s
structure xT (s:List nJ×List (List Int)):Prop where
 o10:s.1.length<=10
 l10:s.2.length<=10
 oOk:∀x∈s.1,qK x=true
 lOk:∀o∈s.2,qC o=true
theorem Ed {b:nI} (h:oY b) {s:List nJ×List (List Int)} (hs:xT s):xT (ux b s):=by
 obtain⟨h1,h2,h3,h4⟩:=hs;refine⟨?_,?_,λx hx=>?_,λo ho=>?_⟩
 · show (s.1++_).length<=10;rw[length_append,length_map,length_take];unfold sg;omega
 · show (_++s.2.drop (sg s)).length<=10;rw[length_append,length_map,length_take,length_drop];unfold sg;omega
 · rcases mem_append.1 hx with hx|hx
   · exact h3 x hx
   · obtain⟨o,ho,rfl⟩:=mem_map.1 hx;exact vi h (h4 o (mem_of_mem_take ho))
 · rcases mem_append.1 ho with ho|ho
   · obtain⟨q,hq,rfl⟩:=mem_map.1 ho;exact pt (vi h (h4 q (mem_of_mem_take hq)))
   · exact h4 o (List.mem_of_mem_drop ho)
theorem J2 {b:nI} (h:oY b) {s:List nJ×List (List Int)} (hs:xT s):loop (λz=>bO b s.2 z.1 z.2.1 z.2.2) (0,s.1,s.2)=some (ux b s):=by
 obtain⟨out,l⟩:=s;obtain⟨h1,h2,h3,h4⟩:=hs;simp only at h1 h2 h3 h4;have hm:sg (out,l)=min l.length (10-out.length):=rfl
 obtain⟨v,e1,rfl⟩:=o9 (step:=λz:Int×List nJ×List (List Int)=>bO b l z.1 z.2.1 z.2.2) (λk z=>z=((k:Int),out++(l.take k).map (oN b),(l.take k).map (λo=>(oN b o).1)++l.drop k)) (sg (out,l)) (λv=>v=ux b (out,l))
  (λk z hk e=>by
   subst e;left;have hkl:k<l.length:=by omega
   have hlen:((l.take k).map (λo=>(oN b o).1)++l.drop k).length=l.length:=by rw[length_append,length_map,length_take,length_drop];omega
   have hol:(out++(l.take k).map (oN b)).length=out.length+k:=by rw[length_append,length_map,length_take];omega
   have hA:((l.take k).map (λo=>(oN b o).1)).length=k:=by rw[length_map,length_take];omega
   have hget:((l.take k).map (λo=>(oN b o).1)++l.drop k)[k]?=some l[k]:=by
    rw[List.getElem?_append_right (by omega),hA,Nat.sub_self,List.getElem?_drop,Nat.add_zero,List.getElem?_eq_getElem hkl]
   have hn:=(x7 h (o:=l[k]) (by have:=qw (h4 _ (getElem_mem hkl));omega)).1;refine⟨_,?_,rfl⟩;show bO b l (k:Int) _ _=_
   unfold bO;rw[oE (by omega),cT,hol,dF (by omega),cF,hlen,ve hkl];simp only[nH,hget,hn];rw[nP (by rw[hol];show out.length+k+1<=_;omega),nH,nZ (by omega)];have t1:(l.take (k+1))=l.take k++[l[k]]:=by rw[take_add_one,List.getElem?_eq_getElem hkl];rfl
   have t2:((l.take k).map (λo=>(oN b o).1)++l.drop k).set k (oN b l[k]).1=(l.take (k+1)).map (λo=>(oN b o).1)++l.drop (k+1):=by
    rw[List.set_append_right _ _ (by omega),hA,Nat.sub_self,List.drop_eq_getElem_cons hkl,List.set_cons_zero,t1,map_append,List.append_assoc];rfl
   rw[t2,t1];simp only[map_append,List.map_cons,List.map_nil,List.append_assoc])
  (λz e=>by
   subst e;refine⟨_,?_,rfl⟩;show bO b l ((sg (out,l):Nat):Int) _ _=_
   have hol:(out++(l.take (sg (out,l))).map (oN b)).length=out.length+sg (out,l):=by rw[length_append,length_map,length_take];omega
   unfold bO;rw[hol];by_cases hlt:((sg (out,l):Nat):Int)<(l.length:Int)
   · rw[oE hlt,cT,dT (by omega),cT];rfl
   · rw[oq hlt,cF];rfl) (x:=(0,out,l)) (by simp)
 exact e1
theorem Ck {b:nI} (h:oY b):∀(n:Nat) {s:List nJ×List (List Int)},xT s->xT (u9 b n s)
 | 0,s,hs=>hs
 | n+1,s,hs=>by
  unfold u9;split
  · exact Ck h n (Ed h hs)
  · exact hs
theorem FI {b:nI} (h:oY b) {p:oe} (hB:p.2.2.2.1<=1000):∀(n i:Nat) {s:List nJ×List (List Int)},xT s->((i+n:Nat):Int)=p.2.2.2.1->loop (λz=>bh b p z.1 z.2.1 z.2.2) ((i:Int),s.1,s.2)=some (u9 b n s)
 | 0,i,s,hs,e=>by
  refine oI ?_;show bh b p (i:Int) s.1 s.2=_
  unfold bh;rw[oq (by omega),cF,nH,cF,nH,cF];rfl
 | n+1,i,s,hs,e=>by
  by_cases hc:0<s.2.length/\s.1.length<10
  · refine pk (y:=(((i+1:Nat):Int),(ux b s).1,(ux b s).2)) ?_ ?_
    · show bh b p (i:Int) s.1 s.2=_;unfold bh;rw[oE (by omega),cT,dT (by omega),nH,cT,oE (by omega),nH,cT,J2 h hs,nH,nZ (by omega)]
    · have:=FI h hB n (i+1) (Ed h hs) (by omega);rw[this,show u9 b (n+1) s=u9 b n (ux b s)from if_pos hc]
  · refine oI ?_;show bh b p (i:Int) s.1 s.2=_
    have e2:u9 b (n+1) s=s:=if_neg hc;rw[e2];unfold bh;rw[oE (by omega),cT];by_cases h1:0<s.2.length
    · rw[dT (by omega),nH,cT,oq (by omega),nH,cF]
    · rw[dF (by omega),nH,cF,nH,cF]
def oQ (p:oe):Nat:=min p.2.2.1.toNat p.2.2.2.2.length
noncomputable def Dd (b:nI) (p:oe):List nJ×List (List Int):=u9 b p.2.2.2.1.toNat ((p.2.2.2.2.take (oQ p)).map (λx=>oN b x.1),(p.2.2.2.2.drop (oQ p)).map (λx=>x.1))
noncomputable def qI (b:nI) (p:oe):List nJ:=(Dd b p).1
theorem FJ {b:nI} (h:oY b) {p:oe} (hp:pK p=true):xT ((p.2.2.2.2.take (oQ p)).map (λx=>oN b x.1),(p.2.2.2.2.drop (oQ p)).map (λx=>x.1)):=by
 obtain⟨h1,h2,_⟩:=pX hp;refine⟨?_,?_,λx hx=>?_,λo ho=>?_⟩
 · rw[length_map,length_take];omega
 · rw[length_map,length_drop];omega
 · obtain⟨y,hy,rfl⟩:=mem_map.1 hx;exact vi h (pt (h1 y (mem_of_mem_take hy)))
 · obtain⟨y,hy,rfl⟩:=mem_map.1 ho;exact pt (h1 y (List.mem_of_mem_drop hy))
theorem Cl {b:nI} (h:oY b) {p:oe} (hp:pK p=true):xT (Dd b p):=Ck h _ (FJ h hp)
theorem I8 {b:nI} (h:oY b) {p:oe} (hp:pK p=true):ej b p=some (qI b p):=by
 obtain⟨h1,h2,_,_,h5,h6⟩:=pX hp;have hmin:min2 p.2.2.1 (p.2.2.2.2.length:Int)=((oQ p:Nat):Int):=by
  unfold min2 oQ;split<;>omega
 have hon:oQ p<=p.2.2.2.2.length:=Nat.min_le_right _ _;unfold ej;show ((cut p.2.2.2.2 0 (min2 p.2.2.1 (p.2.2.2.2.length:Int))).bind _)=_
 rw[hmin];have c1:cut p.2.2.2.2 0 ((oQ p:Nat):Int)=some (p.2.2.2.2.take (oQ p)):=by
  have:=qY (l:=p.2.2.2.2) (a:=0) (b:=oQ p) (by omega) hon;simpa using this
 have c2:cut p.2.2.2.2 ((oQ p:Nat):Int) (p.2.2.2.2.length:Int)=some (p.2.2.2.2.drop (oQ p)):=by
  have:=qY (l:=p.2.2.2.2) (a:=oQ p) (b:=p.2.2.2.2.length) hon (Nat.le_refl _);rw[take_length]at this;exact this
 have l1:loop (λz:Int×List nJ=>cB b (p.2.2.2.2.take (oQ p)) z.1 z.2) (0,[])=some ((p.2.2.2.2.take (oQ p)).map (λx=>oN b x.1)):=by
  refine vh (by show _<=1048576;rw[length_take];omega) (λk hk out ho=>?_) (λout=>?_)
  · have hx:=h1 _ (mem_of_mem_take (getElem_mem hk));have hk':=hk
    rw[length_take]at hk';show cB b _ (k:Int) out=_
    unfold cB;rw[oE (by omega),cT,nX hk,nH,(x7 h (by have:=qw (pt hx);omega)).1,nH,nP (by rw[ho];show k+1<=_;omega),nH,nZ (by omega)]
  · show cB b _ ((p.2.2.2.2.take (oQ p)).length:Int) out=_;unfold cB;rw[oq (by omega),cF]
 have l2:loop (λz:Int×List (List Int)=>cC (p.2.2.2.2.drop (oQ p)) z.1 z.2) (0,[])=some ((p.2.2.2.2.drop (oQ p)).map (λx=>x.1)):=by
  refine vh (by show _<=1048576;rw[length_drop];omega) (λk hk out ho=>?_) (λout=>?_)
  · have hk':=hk;rw[length_drop]at hk';show cC _ (k:Int) out=_
    unfold cC;rw[oE (by omega),cT,nX hk,nH,nP (by rw[ho];show k+1<=_;omega),nH,nZ (by omega)]
  · show cC _ ((p.2.2.2.2.drop (oQ p)).length:Int) out=_;unfold cC;rw[oq (by omega),cF]
 rw[c1,nH,l1,nH,c2,nH,l2,nH];have:=FI h (p:=p) (by omega) p.2.2.2.1.toNat 0 (FJ h hp) (by omega)
 have this:loop (λz=>bh b p z.1 z.2.1 z.2.2) (0,(p.2.2.2.2.take (oQ p)).map (λx=>oN b x.1),(p.2.2.2.2.drop (oQ p)).map (λx=>x.1))=_:=this;rw[this,nH];rfl
def shr (f:List nJ->Bool):Nat->List nJ->Option (List nJ)
 | 0,_=>none
 | n+1,l=>if f (l.take n)=true then some (l.take n)else shr f n (l.take n)
theorem BE {f:List nJ->Bool}:∀{n:Nat} {l t:List nJ},shr f n l=some t->f t=true/\∃m,m<n/\t=l.take m
 | 0,l,t,h=>by cases h
 | n+1,l,t,h=>by
  unfold shr at h;split at h
  · rename_i hf;cases h;exact⟨hf,n,by omega,rfl⟩
  · obtain⟨h1,m,h2,h3⟩:=BE h;refine⟨h1,m,by omega,?_⟩;rw[h3,List.take_take,Nat.min_eq_left (by omega)]
theorem yR {α β γ δ:Type} {step:α->Option (α⊕(β⊕δ))} {x:α} {F:β->Option γ} {G:δ->Option γ} {R:Option γ} (h:∃d,step x=some (.inr (.inl d))) (k:∀d,F d=R):(loop step x).bind (Sum.elim F G)=R:=by
 obtain⟨d,h⟩:=h;rw[oI h,nH,Sum.elim_inl,k]
abbrev Jv:=Int×List UInt8×Int×Int×Int×Int×Int×Int×Int×Int×Int×Int×List UInt8×Int×Int×Int×Int×Int×Int×Int×Int×Int×List nJ×List Pt×List nO×List nW×List Int×List nJ×List Pt×List nO×List nW×List Int
theorem Hh {p:oe} (h165:(p.1==165)=true) (b:nI) (j0:Int) (j1:List UInt8) (j2 j3 j4 j5 j6 j7 j8 j9 j10:Int) (k i a c:Int) (j11:List Pt) (j12:List nO) (j13:List nW) (j14:List Int) (j15:List nJ):∀(n:Nat) (l:List nJ),l.length=n->n<=10->(∀x∈l,xW M x) ->
 ∃w,loop (λz:Jv=>dA p z.1 z.2.1 z.2.2.1 z.2.2.2.1 z.2.2.2.2.1 z.2.2.2.2.2.1 z.2.2.2.2.2.2.1 z.2.2.2.2.2.2.2.1 z.2.2.2.2.2.2.2.2.1 z.2.2.2.2.2.2.2.2.2.1 z.2.2.2.2.2.2.2.2.2.2.1 z.2.2.2.2.2.2.2.2.2.2.2.1 z.2.2.2.2.2.2.2.2.2.2.2.2.1 z.2.2.2.2.2.2.2.2.2.2.2.2.2.1 z.2.2.2.2.2.2.2.2.2.2.2.2.2.2.1 z.2.2.2.2.2.2.2.2.2.2.2.2.2.2.2.1 z.2.2.2.2.2.2.2.2.2.2.2.2.2.2.2.2.1 z.2.2.2.2.2.2.2.2.2.2.2.2.2.2.2.2.2.1 z.2.2.2.2.2.2.2.2.2.2.2.2.2.2.2.2.2.2.1 z.2.2.2.2.2.2.2.2.2.2.2.2.2.2.2.2.2.2.2.1 z.2.2.2.2.2.2.2.2.2.2.2.2.2.2.2.2.2.2.2.2.1 z.2.2.2.2.2.2.2.2.2.2.2.2.2.2.2.2.2.2.2.2.2.1 z.2.2.2.2.2.2.2.2.2.2.2.2.2.2.2.2.2.2.2.2.2.2.1 z.2.2.2.2.2.2.2.2.2.2.2.2.2.2.2.2.2.2.2.2.2.2.2.1 z.2.2.2.2.2.2.2.2.2.2.2.2.2.2.2.2.2.2.2.2.2.2.2.2.1 z.2.2.2.2.2.2.2.2.2.2.2.2.2.2.2.2.2.2.2.2.2.2.2.2.2.1 z.2.2.2.2.2.2.2.2.2.2.2.2.2.2.2.2.2.2.2.2.2.2.2.2.2.2.1 z.2.2.2.2.2.2.2.2.2.2.2.2.2.2.2.2.2.2.2.2.2.2.2.2.2.2.2.1 z.2.2.2.2.2.2.2.2.2.2.2.2.2.2.2.2.2.2.2.2.2.2.2.2.2.2.2.2.1 z.2.2.2.2.2.2.2.2.2.2.2.2.2.2.2.2.2.2.2.2.2.2.2.2.2.2.2.2.2.1 z.2.2.2.2.2.2.2.2.2.2.2.2.2.2.2.2.2.2.2.2.2.2.2.2.2.2.2.2.2.2.1 z.2.2.2.2.2.2.2.2.2.2.2.2.2.2.2.2.2.2.2.2.2.2.2.2.2.2.2.2.2.2.2) (j0,j1,j2,j3,j4,j5,j6,j7,j8,j9,j10,b.1,b.2.1,b.2.2.2.2.2.2.1,b.2.2.2.2.2.2.2.1,b.2.2.2.2.2.2.2.2.1,b.2.2.2.2.2.2.2.2.2.1,b.2.2.2.2.2.2.2.2.2.2,k,i,a,c,l,j11,j12,j13,j14,j15,b.2.2.1,b.2.2.2.1,b.2.2.2.2.1,b.2.2.2.2.2.1)=some w/\(match shr (λt=>p8 (k,i,a,c,t)) n l with|some t=>w=.inr (true,b.1,b.2.1,b.2.2.2.2.2.2.1,b.2.2.2.2.2.2.2.1,b.2.2.2.2.2.2.2.2.1,b.2.2.2.2.2.2.2.2.2.1,b.2.2.2.2.2.2.2.2.2.2,k,i,a,c,t,b.2.2.1,b.2.2.2.1,b.2.2.2.2.1,b.2.2.2.2.2.1)|none=>∃d,w=.inl d)
 | 0,l,hl,hn,hx=>by
  refine⟨_,oI (b:=Sum.inl (j0,j1,j2,j3,j4,j5,j6,j7,j8,j9,j10,b.1,b.2.1,b.2.2.2.2.2.2.1,b.2.2.2.2.2.2.2.1,b.2.2.2.2.2.2.2.2.1,b.2.2.2.2.2.2.2.2.2.1,b.2.2.2.2.2.2.2.2.2.2,k,i,a,c,l,j11,j12,j13,j14,j15,b.2.2.1,b.2.2.2.1,b.2.2.2.2.1,b.2.2.2.2.2.1)) ?_,⟨_,rfl⟩⟩;dsimp only;unfold dA;rw[h165,cT,dF (by omega),nH,cF]
 | n+1,l,hl,hn,hx=>by
  have hlt:(l.take n).length=n:=by rw[length_take];omega
  have hcut:cut l 0 (nK ((l.length:Int)-1))=some (l.take n):=by
   rw[oC (by omega) (by omega),show (l.length:Int)-1=(n:Int) by omega];have:=qY (l:=l) (a:=0) (b:=n) (by omega) (by omega)
   simpa using this
  have hp:tQ M (k,i,a,c,l.take n):=⟨by show (l.take n).length<=1048576;omega,λx h=>hx x (mem_of_mem_take h)⟩;have hstep:∀q:Bool,p8 (k,i,a,c,l.take n)=q->dA p j0 j1 j2 j3 j4 j5 j6 j7 j8 j9 j10 b.1 b.2.1 b.2.2.2.2.2.2.1 b.2.2.2.2.2.2.2.1 b.2.2.2.2.2.2.2.2.1 b.2.2.2.2.2.2.2.2.2.1 b.2.2.2.2.2.2.2.2.2.2 k i a c l j11 j12 j13 j14 j15 b.2.2.1 b.2.2.2.1 b.2.2.2.2.1 b.2.2.2.2.2.1=cond q (some (.inr (.inr (true,b.1,b.2.1,b.2.2.2.2.2.2.1,b.2.2.2.2.2.2.2.1,b.2.2.2.2.2.2.2.2.1,b.2.2.2.2.2.2.2.2.2.1,b.2.2.2.2.2.2.2.2.2.2,k,i,a,c,l.take n,b.2.2.1,b.2.2.2.1,b.2.2.2.2.1,b.2.2.2.2.2.1)))) (some (.inl (j0,j1,j2,j3,j4,j5,j6,j7,j8,j9,j10,b.1,b.2.1,b.2.2.2.2.2.2.1,b.2.2.2.2.2.2.2.1,b.2.2.2.2.2.2.2.2.1,b.2.2.2.2.2.2.2.2.2.1,b.2.2.2.2.2.2.2.2.2.2,k,i,a,c,l.take n,j11,j12,j13,j14,j15,b.2.2.1,b.2.2.2.1,b.2.2.2.2.1,b.2.2.2.2.2.1))):=by
   intro q hq;unfold dA;rw[h165,cT,dT (by omega),nH,cT,hcut,nH,yi hp,nH,hq]
  by_cases hf:p8 (k,i,a,c,l.take n)=true
  · have e:shr (λt=>p8 (k,i,a,c,t)) (n+1) l=some (l.take n):=if_pos hf;rw[e];exact⟨_,oI (hstep true hf),rfl⟩
  · have e:shr (λt=>p8 (k,i,a,c,t)) (n+1) l=shr (λt=>p8 (k,i,a,c,t)) n (l.take n):=if_neg hf;rw[e];obtain⟨w,h1,h2⟩:=Hh h165 b j0 j1 j2 j3 j4 j5 j6 j7 j8 j9 j10 k i a c j11 j12 j13 j14 j15 n (l.take n) hlt (by omega) (λx h=>hx x (mem_of_mem_take h));exact⟨w,pk (hstep false (by simpa using hf)) h1,h2⟩
noncomputable def uw (b:nI) (l:List nJ):nI×Int×Int:=(bw b l).getD (b,0,0)
noncomputable def qO (b:nI) (p:oe):nI×oe :=
 cond (p.1==160) (b,162,p.2.1,0,0,p.2.2.2.2.map λx=>(x.1,sC b x.1))
  (cond (p.1==161) (b,162,p.2.1,0,0,p.2.2.2.2.map λx=>oN b x.1)
   (cond (p.1==165) (b,162,p.2.1,0,0,qI b p) ((uw b p.2.2.2.2).1,162,p.2.1,(uw b p.2.2.2.2).2.1,(uw b p.2.2.2.2).2.2,p.2.2.2.2)))
noncomputable def sZ (b:nI) (p:oe):nI×oe :=
 match cond (p.1==165) (shr (λt=>p8 (162,p.2.1,0,0,t)) (qI b p).length (qI b p)) none with
 | some t=>(b,162,p.2.1,0,0,t)
 | none=>(b,162,p.2.1,7,0,[])
noncomputable def ov (b:nI) (p:oe):nI×oe:=cond (p8 (qO b p).2) (qO b p) (sZ b p)
noncomputable def xU (b:nI) (p:oe):Bool:=pd b&&(pK p&&(p.1 != 162))
noncomputable def s3 (b:nI) (p:oe):nI×oe×Bool:=cond (xU b p) ((ov b p).1,(ov b p).2,true) (b,(0,0,0,0,[]),false)
theorem zA {p:oe} (hp:pK p=true):wa M p.2.2.2.2:=by
 obtain⟨h1,h2,_⟩:=pX hp;exact⟨by show _<=1048576;omega,λx hx=>qx (h1 x hx)⟩
theorem Hi {b:nI} (h:tB b) (hb:vj M b) {p:oe} (hp:tQ M p):eC b p=some (s3 b p):=by
 unfold eC s3 xU;rw[tT hb,nH,A3 h,nH];cases hbr:pd b with
 | false=>rw[Bool.not_false,cT,nH,cT,nH,cT];rfl
 | true =>
 rw[Bool.not_true,cF,Fz hp,nH,nH];cases hpp:pK p with
 | false=>rw[Bool.not_false,cT,nH,cT];rfl
 | true =>
 rw[Bool.not_true,cF,nH];cases h162:(p.1==162)with
 | true =>
  have:(p.1 != 162)=false:=by rw[bne,h162];rfl
  rw[cT,this];rfl
 | false =>
 have hne:(p.1 != 162)=true:=by rw[bne,h162];rfl
 have hBO:=Cu h hbr;obtain⟨x1,x2,x3,x4,x5,x6⟩:=pX hpp;have hxs:=zA hpp
 rw[cF,hne,Bool.true_and,Bool.true_and,cT];unfold ov qO sZ;cases h160:(p.1==160)with
 | true =>
  have h165:(p.1==165)=false:=by simp only[beq_iff_eq]at h160;rw[h160];rfl
  have e:loop (λz:Int×Int×Int×Int×Int×List nJ=>dy b p z.1 z.2.1 z.2.2.1 z.2.2.2.1 z.2.2.2.2.1 z.2.2.2.2.2) (0,162,p.2.1,0,0,[])=some (162,p.2.1,0,0,p.2.2.2.2.map λx=>(x.1,sC b x.1)):=by
   obtain⟨v,e1,rfl⟩:=o9 (step:=λz:Int×Int×Int×Int×Int×List nJ=>dy b p z.1 z.2.1 z.2.2.1 z.2.2.2.1 z.2.2.2.2.1 z.2.2.2.2.2) (λk z=>z=((k:Int),162,p.2.1,0,0,(p.2.2.2.2.take k).map λx=>(x.1,sC b x.1))) p.2.2.2.2.length (λv=>v=(162,p.2.1,0,0,p.2.2.2.2.map λx=>(x.1,sC b x.1)))
    (λk z hk e=>by
     subst e;refine .inl ⟨_,?_,rfl⟩;have hx:=qw (pt (x1 _ (getElem_mem hk)))
     dsimp only;unfold dy;rw[oE (by omega),cT,nX hk,nH,xe (by show _<=1048576;omega),nH,(Db hBO (by omega)).1,nH,nP (by rw[length_map,length_take];show min k _+1<=_;omega),nH,nZ (by omega),
      take_add_one,List.getElem?_eq_getElem hk,map_append];rfl)
    (λz e=>by
     subst e;refine⟨_,?_,rfl⟩;dsimp only;unfold dy;rw[oq (by omega),cF,take_length]) (x:=(0,162,p.2.1,0,0,[])) rfl
   exact e1
  simp only[cT,cF];rw[e,nH,yi ⟨by show (p.2.2.2.2.map _).length<=1048576;rw[length_map];omega,λx hx=>by
   obtain⟨y,hy,rfl⟩:=mem_map.1 hx;exact qx (by unfold qK;rw[pt (x1 y hy),Dc hBO (by have:=qw (pt (x1 y hy));omega)];rfl)⟩,nH]
  cases p8 (162,p.2.1,0,0,p.2.2.2.2.map λx=>(x.1,sC b x.1))with
  | true=>rfl
  | false =>
   simp only[cF];refine yR ?_ λd=>?_
   · dsimp only;unfold ji;rw[h165,cF,nH,cF];exact⟨_,rfl⟩
   · rw[nH];simp only[h165,cF]
 | false =>
 cases h161:(p.1==161)with
 | true =>
  have h165:(p.1==165)=false:=by simp only[beq_iff_eq]at h161;rw[h161];rfl
  have e:loop (λz:Int×Int×Int×Int×Int×List nJ=>dz b p z.1 z.2.1 z.2.2.1 z.2.2.2.1 z.2.2.2.2.1 z.2.2.2.2.2) (0,162,p.2.1,0,0,[])=some (162,p.2.1,0,0,p.2.2.2.2.map λx=>oN b x.1):=by
   obtain⟨v,e1,rfl⟩:=o9 (step:=λz:Int×Int×Int×Int×Int×List nJ=>dz b p z.1 z.2.1 z.2.2.1 z.2.2.2.1 z.2.2.2.2.1 z.2.2.2.2.2) (λk z=>z=((k:Int),162,p.2.1,0,0,(p.2.2.2.2.take k).map λx=>oN b x.1)) p.2.2.2.2.length (λv=>v=(162,p.2.1,0,0,p.2.2.2.2.map λx=>oN b x.1))
    (λk z hk e=>by
     subst e;refine .inl ⟨_,?_,rfl⟩;have hx:=qw (pt (x1 _ (getElem_mem hk)))
     dsimp only;unfold dz;rw[oE (by omega),cT,nX hk,nH,(x7 hBO (by omega)).1,nH,nP (by rw[length_map,length_take];show min k _+1<=_;omega),nH,nZ (by omega),
      take_add_one,List.getElem?_eq_getElem hk,map_append];rfl)
    (λz e=>by
     subst e;refine⟨_,?_,rfl⟩;dsimp only;unfold dz;rw[oq (by omega),cF,take_length]) (x:=(0,162,p.2.1,0,0,[])) rfl
   exact e1
  simp only[cT,cF];rw[e,nH,yi ⟨by show (p.2.2.2.2.map _).length<=1048576;rw[length_map];omega,λx hx=>by
   obtain⟨y,hy,rfl⟩:=mem_map.1 hx;exact qx (vi hBO (pt (x1 y hy)))⟩,nH]
  cases p8 (162,p.2.1,0,0,p.2.2.2.2.map λx=>oN b x.1)with
  | true=>rfl
  | false =>
   simp only[cF];refine yR ?_ λd=>?_
   · dsimp only;unfold jj;rw[h165,cF,nH,cF];exact⟨_,rfl⟩
   · rw[nH];simp only[h165,cF]
 | false =>
 cases h165:(p.1==165)with
 | true =>
  have hbk:=Cl hBO hpp;have hbx:∀x∈qI b p,xW M x:=λx hx=>qx (hbk.oOk x hx)
  have hbn:(qI b p).length<=10:=hbk.o10;simp only[cT,cF];rw[I8 hBO hpp,nH,yi ⟨by show (qI b p).length<=1048576;omega,hbx⟩,nH];cases p8 (162,p.2.1,0,0,qI b p)with
  | true=>rfl
  | false =>
   simp only[cF];obtain⟨w,e1,e2⟩:=Hh h165 b 0 [] 0 0 0 0 0 0 0 0 0 162 p.2.1 0 0 [] [] [] [] [] _ (qI b p) rfl hbn hbx;rw[e1,nH];cases hs:shr (λt=>p8 (162,p.2.1,0,0,t)) (qI b p).length (qI b p)with
   | some t=>rw[hs]at e2;rw[e2];rfl
   | none =>
    rw[hs]at e2;obtain⟨d,rfl⟩:=e2;rw[Sum.elim_inl,nH];try rfl
 | false =>
  obtain⟨r,r1,_,_,_⟩:=A1 h hb hxs;have hr:uw b p.2.2.2.2=r:=by unfold uw;rw[r1];rfl
  simp only[cF];rw[r1,nH,Ex hxs,nH,hr,yi (p:=(162,p.2.1,r.2.1,r.2.2,p.2.2.2.2)) ⟨hxs.1,hxs.2⟩,nH];cases p8 (162,p.2.1,r.2.1,r.2.2,p.2.2.2.2)with
  | true=>rfl
  | false =>
   simp only[cF];refine yR ?_ λd=>?_
   · dsimp only;unfold jk;rw[h165,cF,nH,cF];exact⟨_,rfl⟩
   · rw[nH]

theorem Hj {b:nI} (h:rO b) (hl:vj M b):tB b:=by
 obtain⟨_,l2,l3,l4,l5⟩:=hl;have hM:M<9223372036854775807:=by decide
 exact⟨by omega,by omega,by omega,by omega,h.h⟩
theorem J3 {b:nI} (h:oY b) {l:List nJ} (hl:wa M l):bw b l=some (uw b l)/\oY (uw b l).1:=by
 obtain⟨r,r1,_,r3,r4,_⟩:=A1 h.w h.le hl;unfold uw;rw[r1];obtain⟨k1,k2⟩:=r4 h.ok;exact⟨rfl,Cu (Hj k1 r3) k2⟩
theorem Fb {b:nI} (h:oY b) {p:oe} (hp:pK p=true):oY (qO b p).1:=by
 unfold qO;cases (p.1==160)<;>cases (p.1==161)<;>cases (p.1==165)<;>first|exact h|exact (J3 h (zA hp)).2
theorem Cm (b:nI) (p:oe):(sZ b p).1=b:=by
 unfold sZ;split<;>rfl
theorem De {b:nI} (h:oY b) (p:oe):oY (s3 b p).1:=by
 unfold s3;cases hq:xU b p with
 | false=>exact h
 | true =>
  unfold xU at hq;simp only[aT]at hq;rw[cT];unfold ov;cases p8 (qO b p).2 with
  | true=>exact Fb h hq.2.1
  | false=>rw[cF,Cm];exact h
theorem Fc {p:oe} (hp:pK p=true):p.1=160\/p.1=161\/p.1=162\/p.1=163\/p.1=165:=by
 unfold pK at hp;by_cases h0:p.1=160;· exact .inl h0
 by_cases h1:p.1=161;· exact .inr (.inl h1)
 by_cases h2:p.1=162;· exact .inr (.inr (.inl h2))
 by_cases h3:p.1=163;· exact .inr (.inr (.inr (.inl h3)))
 by_cases h5:p.1=165;· exact .inr (.inr (.inr (.inr h5)))
 simp[h0,h1,h2,h3,h5]at hp
theorem Ee {b:nI} (h:oY b) {p:oe} (hp:pK p=true) (hk:(p.1 != 162)=true):xU b p=true/\(s3 b p).2.1=(ov b p).2/\(s3 b p).1=(ov b p).1/\(ov b p).2.1=162/\(ov b p).2.2.1=p.2.1:=by
 have e:xU b p=true:=by unfold xU;rw[h.ok,hp,hk];rfl
 have e1:(qO b p).2.1=162/\(qO b p).2.2.1=p.2.1:=by
  unfold qO;cases (p.1==160)<;>cases (p.1==161)<;>cases (p.1==165)<;>exact⟨rfl,rfl⟩
 have e2:(sZ b p).2.1=162/\(sZ b p).2.2.1=p.2.1:=by
  unfold sZ;split<;>exact⟨rfl,rfl⟩
 refine⟨e,?_,?_,?_⟩
 · unfold s3;rw[e,cT]
 · unfold s3;rw[e,cT]
 · unfold ov;cases p8 (qO b p).2 with
   | true=>exact e1
   | false=>exact e2
def BF (w:List UInt8):List Int:=oO 2 (pU 1)++oO 4 (rY w)
theorem A2 {p:oe} (hx:∀x∈p.2.2.2.2,qK x=true) (hn:p.2.2.2.2.length<=10) (hi:nN p.2.1 (-2147483648) 2147483647=true)
 (hk:(cond (p.1==162||p.1==165) (nN p.2.2.1 0 1000&&nN p.2.2.2.1 0 1000) (cond (p.1==160||(p.1==161||p.1==163)) (p.2.2.1==0&&p.2.2.2.1==0) false))=true):pK p=true:=by
 unfold pK;have h1:(List.range p.2.2.2.2.length).any (bX p.2.2.2.2)=false:=by
  rw[any_eq_false];intro k hk';have hk':=mem_range.1 hk'
  unfold bX;simp only[List.getElem?_eq_getElem hk',hx _ (getElem_mem hk')];simp
 rw[h1,dT (by omega),hk,hi];rfl

theorem Gn {i:Int} (hi:-2147483648<=i/\i<=2147483647):p8 (162,i,7,0,[])=true:=by
 have hp:pK (162,i,7,0,[])=true:=A2 (by intro x hx;cases hx) (Nat.zero_le _) (tS hi.1 hi.2) rfl;have t1:=pz 2 (body:=pU i)
 have t2:=pz 2 (body:=pU 7);have t3:=pz 2 (body:=pU 0)
 have t4:=pz 48 (body:=[]);have i1:=qW i
 have i2:=qW 7;have i3:=qW 0
 have hb:(qH (162,i,7,0,[])).length<=30:=by
  unfold qH;show (oO 2 (pU i)++oO 2 (pU 7)++oO 2 (pU 0)++oO 48 []).length<=30
  simp only[length_append];simp only[length_nil]at t4;omega
 have ht:=pz 162 (body:=qH (162,i,7,0,[]));have hpos:=Fa 162 (qH (162,i,7,0,[]))
 unfold p8 yQ;rw[if_pos ⟨hp,by show (0:Nat)<=250;omega,by omega⟩];exact tS (by show (1:Int)<=((oO 162 (qH (162,i,7,0,[]))).length:Int);omega) (by show ((oO 162 (qH (162,i,7,0,[]))).length:Int)<=120;omega)
theorem Ef {b:nI} {p:oe} (hp:pK p=true):p8 (ov b p).2=true:=by
 have hi:=(pX hp).2.2.2.1;unfold ov;cases hf:p8 (qO b p).2 with
 | true=>exact hf
 | false =>
  rw[cF];unfold sZ;split
  · rename_i t ht;cases h5:(p.1==165)with
    | false=>rw[h5]at ht;cases ht
    | true =>
     rw[h5]at ht;exact (BE ht).1
  · exact Gn hi
theorem Df {l:List nJ} (h:wa M l):eY l l=some true:=by
 have hM:M<9223372036854775807:=by decide
 have hn:l.length<=1048576:=h.1;unfold eY;rw[bne_self_eq_false,cF];have:loop (λz=>cN l l z) 0=some (.inl ()):=uc (n:=l.length) (λk hk=>by
  obtain⟨h1,_,h3⟩:=h.2 _ (getElem_mem hk);show cN l l (k:Int)=_
  unfold cN;simp only[oE (show (k:Int)<(l.length:Int) by omega),cT,nX hk,nH];rw[sO (by omega),BI (by omega)];simp only[nH,beq_self_eq_true,Bool.not_true,cF];rw[nZ (by omega)]) (by
  show cN l l (l.length:Int)=_;unfold cN;rw[oq (by omega),cF])
 rw[this];rfl
theorem Fe {p:oe} (h:tQ M p):eZ p p=some true:=by
 unfold eZ;simp only[beq_self_eq_true,cT,nH,Df h]
structure w9 (p:oe):Prop where
 k:p.1=160\/p.1=161\/p.1=163\/p.1=165
 i:0<=p.2.1/\p.2.1<100
 ab:(p.1=165/\(0<=p.2.2.1/\p.2.2.1<=1000)/\(0<=p.2.2.2.1/\p.2.2.2.1<=1000))\/(p.1≠165/\p.2.2.1=0/\p.2.2.2.1=0)
 n:p.2.2.2.2.length<=3
 s:∀x∈p.2.2.2.2,Cf x
 o:p.1≠163->∀x∈p.2.2.2.2,qK x=true
theorem w9.le {p:oe} (h:w9 p):tQ M p:=⟨by have:=h.n;show _<=1048576;omega,λx hx=>(h.s x hx).le⟩
theorem w9.ok {p:oe} (h:w9 p) (hk:p.1≠163):pK p=true:=by
 have hi:=h.i;refine A2 (h.o hk) (by have:=h.n;omega) (tS (by omega) (by omega)) ?_;rcases h.ab with ⟨e,⟨a1,a2⟩,b1,b2⟩|⟨e,a1,b1⟩
 · rw[e,tS a1 a2,tS b1 b2];rfl
 · rw[a1,b1];rcases h.k with k|k|k|k
   · rw[k];rfl
   · rw[k];rfl
   · exact absurd k hk
   · exact absurd k e
theorem zB {α β:Type} {o:Option α} {a:α} {k:α->Option β} {r:Option β} (h:o=some a) (hk:k a=r):o.bind k=r:=by rw[h];exact hk
theorem tv {b:List Int} (t:Int) {body:List Int} (hb:b.length<=1200) (hn:body.length<=M):au b t body=some (b++if nN t 0 255=true/\body.length<=250 then oO t body else []):=by
 have hM:M=1048576:=rfl;unfold au;rw[rf (by omega),nH,tV,nH];cases hp:nN t 0 255 with
 | false=>rw[Bool.not_false,cT,nH,cT,if_neg (λh=>by cases h.1),append_nil]
 | true =>
  rw[Bool.not_true,cF,nH];by_cases h250:body.length<=250
  · have hw:IntKind.u8.wrap t=t:=by obtain⟨a,c⟩:=qi hp;rw[w8];omega
    have hl:IntKind.u8.wrap ((body.length:Int))=(body.length:Int):=by rw[w8];omega
    rw[dF (by omega),cF,hw,hl,if_pos ⟨rfl,h250⟩,nP (by show b.length+1<=_;omega),nH];by_cases h127:(body.length:Int)>127
    · rw[dT h127,cT,nP (by rw[length_append];show b.length+1+1<=_;omega),nH,nP (by simp only[length_append,length_singleton];omega),nH,nP (by simp only[length_append,length_singleton];omega),nH];unfold oO;rw[if_pos (by omega)];simp
    · rw[dF h127,cF,nP (by simp only[length_append,length_singleton];omega),nH,nP (by simp only[length_append,length_singleton];omega),nH];unfold oO;rw[if_neg (by omega)];simp
  · rw[dT (by omega),cT,if_neg (λh=>h250 h.2),append_nil]
theorem Cn {o:List Int} (h:qC o=true):dD o=some (qb o):=by
 obtain⟨o1,o2,o3⟩:=u7 h;have hM:M=1048576:=rfl
 unfold dD;rw[Fv,yY (by omega),nH,h,Bool.not_true,cF];obtain⟨v,e1,rfl⟩:=o9 (step:=λz:Int×List Int=>bT o z.1 z.2) (λk z=>z=((k:Int),qb (o.take k))) o.length (λv=>v=qb o)
  (λk z hk e=>by
   subst e;have hx:=o3 _ (getElem_mem hk)
   have hl:(qb (o.take k)).length<=3*(o.take k).length:=u6 λx hx=>(o3 x (mem_of_mem_take hx)).2;rw[length_take]at hl;have hg:=Gl o[k]
   refine .inl ⟨_,?_,rfl⟩;show bT o (k:Int) _=_
   unfold bT;rw[oE (by omega),cT,nX hk,nH,IZ ⟨hx.1,by omega⟩,nH,nP (by show (qb (o.take k)).length+(grp o[k]).length<=_;omega),nH,nZ (by omega),take_add_one,List.getElem?_eq_getElem hk];unfold qb;rw[flatMap_append];simp)
  (λz e=>by
   subst e;refine⟨_,?_,rfl⟩;show bT o (o.length:Int) _=_
   unfold bT;rw[oq (by omega),cF,take_length]) (x:=(0,[])) rfl
 have e1:loop (λz=>bT o z.1 z.2) (0,([]:List Int))=some (qb o):=e1;rw[e1];rfl
theorem Gp {b:List Int} (hb:b.length<=1000) {v:qB} (h:qj v=true):eF b v=some (b++oO v.1 (qv v)):=by
 have hM:M=1048576:=rfl;obtain⟨l1,l2⟩:=wZ h;have hk:nN v.1 0 255=true:=by
  unfold qj at h;by_cases c1:(v.1==5||(v.1==128||v.1==130))=true
  · simp only[Bool.or_eq_true,beq_iff_eq]at c1;rcases c1 with c|c|c<;>rw[c]<;>rfl
  · rw[show (v.1==5||(v.1==128||v.1==130))=false by simpa using c1,cF]at h;by_cases c2:v.1=2
    · rw[c2];rfl
    · rw[beq_eq_false_iff_ne.2 c2,cF]at h;by_cases c4:v.1=4
      · rw[c4];rfl
      · rw[beq_eq_false_iff_ne.2 c4,cF]at h;by_cases c6:v.1=6
        · rw[c6];rfl
        · rw[beq_eq_false_iff_ne.2 c6,cF]at h;cases h
 have fin:∀body,qv v=body->au b v.1 body=some (b++oO v.1 (qv v)):=λbody e=>by
  subst e;rw[tv _ (by omega) (by omega),if_pos ⟨hk,by omega⟩]
 have ho6:v.2.2.2.length<=M:=by
  unfold qj at h;by_cases c6:v.1=6
  · rw[c6]at h;simp only[show ((6:Int)==5)=false from rfl,show ((6:Int)==128)=false from rfl,show ((6:Int)==130)=false from rfl,Bool.or_self,cF,show ((6:Int)==2)=false from rfl,show ((6:Int)==4)=false from rfl,show ((6:Int)==6)=true from rfl,cT,aT]at h;have:=Ci h.1
    omega
  · have:v.2.2.2.length=0:=by
     revert h
     cases (v.1==5||(v.1==128||v.1==130))with
     | true=>intro h;simp only[cT,aT,beq_iff_eq]at h;omega
     | false =>
      rw[cF];cases (v.1==2)with
      | true=>intro h;simp only[cT,aT,beq_iff_eq]at h;omega
      | false =>
       rw[cF];cases (v.1==4)with
       | true=>intro h;simp only[cT,aT,beq_iff_eq]at h;omega
       | false=>intro h;rw[cF,beq_eq_false_iff_ne.2 c6]at h;cases h
    omega
 unfold eF;rw[HQ ho6,nH,h,Bool.not_true,cF];by_cases h2:v.1=2
 · have e:qv v=pU v.2.1:=by unfold qv;rw[beq_iff_eq.2 h2];rfl
   have hr:-2147483648<=v.2.1/\v.2.1<=2147483647:=by
    unfold qj at h;rw[h2]at h;simp only[show ((2:Int)==5)=false from rfl,show ((2:Int)==128)=false from rfl,show ((2:Int)==130)=false from rfl,Bool.or_self,cF,show ((2:Int)==2)=true from rfl,cT,aT]at h;exact qi h.1
   rw[beq_iff_eq.2 h2,cT,yh,nH,uP hr,fin _ e];rfl
 rw[beq_eq_false_iff_ne.2 h2,cF];by_cases h4:v.1=4
 · have e:qv v=rY v.2.2.1:=by unfold qv;rw[beq_eq_false_iff_ne.2 h2,beq_iff_eq.2 h4];rfl
   rw[beq_iff_eq.2 h4,cT,fin _ e];rfl
 rw[beq_eq_false_iff_ne.2 h4,cF];by_cases h6:v.1=6
 · have e:qv v=qb v.2.2.2:=by unfold qv;rw[beq_eq_false_iff_ne.2 h2,beq_eq_false_iff_ne.2 h4,beq_iff_eq.2 h6];rfl
   have ho:qC v.2.2.2=true:=by
    unfold qj at h;rw[h6]at h;simp only[show ((6:Int)==5)=false from rfl,show ((6:Int)==128)=false from rfl,show ((6:Int)==130)=false from rfl,Bool.or_self,cF,show ((6:Int)==2)=false from rfl,show ((6:Int)==4)=false from rfl,show ((6:Int)==6)=true from rfl,cT,aT]at h;exact h.1
   rw[beq_iff_eq.2 h6,cT,Cn ho,nH,fin _ e];rfl
 · have e:qv v=[]:=by unfold qv;rw[beq_eq_false_iff_ne.2 h2,beq_eq_false_iff_ne.2 h4,beq_eq_false_iff_ne.2 h6];rfl
   rw[beq_eq_false_iff_ne.2 h6,cF,fin _ e];rfl
theorem Hk {l:List nJ} (hx:∀x∈l,qK x=true) (hn:l.length<=10):eG l=some (q6 l):=by
 have hM:M=1048576:=rfl;have hlen:∀k,(q6 (l.take k)).length<=110*k:=λk=>by
  induction k with
  | zero=>simp[q6]
  | succ k ih =>
   rw[take_add_one];unfold q6 at ih ⊢;rw[flatMap_append,length_append];cases hk:l[k]? with
   | none=>show (List.flatMap uj (l.take k)).length+0<=_;omega
   | some x =>
    have:=(vM (hx x (List.mem_of_getElem? hk))).2;show (List.flatMap uj (l.take k)).length+(uj x++[]).length<=_
    rw[append_nil];omega
 unfold eG;obtain⟨v,e1,rfl⟩:=o9 (step:=λz:Int×List Int=>bU l z.1 z.2) (λk z=>z=((k:Int),q6 (l.take k))) l.length (λv=>v=q6 l)
  (λk z hk e=>by
   subst e;have hxk:=hx _ (getElem_mem hk)
   have hl:=hlen k;obtain⟨b1,b2⟩:=vM hxk;have hxk':=hxk
   unfold qK at hxk';rw[aT]at hxk';obtain⟨o1,o2,o3⟩:=u7 hxk'.1;have ho:=u6 (o:=l[k].1) λy hy=>(o3 y hy).2
   have ht:=pz 6 (body:=qb l[k].1);refine .inl ⟨_,?_,rfl⟩;show bU l (k:Int) _=_
   unfold bU;rw[oE (by omega),cT,nX hk,nH,Cn hxk'.1,nH,tv _ (by simp) (by omega),if_pos ⟨by decide,by omega⟩,nH,nH,nil_append,Gp (by omega) hxk'.2,nH,tv _ (by show (q6 (l.take k)).length<=1200;omega) (by show (vZ l[k]).length<=_;omega),if_pos ⟨by decide,by show (vZ l[k]).length<=250;omega⟩,nH,nZ (by omega),take_add_one,List.getElem?_eq_getElem hk];unfold q6;rw[flatMap_append];simp[uj,vZ])
  (λz e=>by
   subst e;refine⟨_,?_,rfl⟩;show bU l (l.length:Int) _=_
   unfold bU;rw[oq (by omega),cF,take_length]) (x:=(0,[])) rfl
 have e1:loop (λz=>bU l z.1 z.2) (0,([]:List Int))=some (q6 l):=e1;rw[e1];rfl
theorem Gq {p:oe} (hp:tQ M p):eH p=some (yQ p):=by
 have hM:M=1048576:=rfl;unfold eH yQ;rw[HS hp,nH];cases hk:pK p with
 | false=>rw[Bool.not_false,cT,if_neg (λh=>by cases h.1)]
 | true =>
  obtain⟨k1,k2,k3,k4,k5,k6⟩:=pX hk;have i1:=qW p.2.1
  have i2:=qW p.2.2.1;have i3:=qW p.2.2.2.1
  have t1:=pz 2 (body:=pU p.2.1);have t2:=pz 2 (body:=pU p.2.2.1)
  have t3:=pz 2 (body:=pU p.2.2.2.1);rw[Bool.not_true,cF];unfold fr;rw[Hk k1 k2,nH];by_cases ha:(q6 p.2.2.2.2).length<=250
  · rw[dF (by omega),cF,yh,nH,uP k4,tv _ (by simp) (by omega),if_pos ⟨by decide,by omega⟩,nH,yh,nH,uP (by omega),tv _ (by simp only[nil_append];omega) (by omega),if_pos ⟨by decide,by omega⟩,nH,yh,nH,uP (by omega),tv _ (by simp only[nil_append,length_append];omega) (by omega),if_pos ⟨by decide,by omega⟩,nH,tv _ (by simp only[nil_append,length_append];omega) (by omega),if_pos ⟨by decide,ha⟩,nH];have eb:([]++oO 2 (pU p.2.1)++oO 2 (pU p.2.2.1)++oO 2 (pU p.2.2.2.1)++oO 48 (q6 p.2.2.2.2))=qH p:=by unfold qH;simp
    rw[eb];have t4:=pz 48 (body:=q6 p.2.2.2.2)
    have hbl:(qH p).length<=400:=by unfold qH;simp only[length_append];omega
    by_cases hb:(qH p).length<=250
    · simp only[nH,dT (show ((qH p).length:Int)<=250 by omega),Bool.not_true,cF];rw[tv _ (by simp) (by omega),if_pos ⟨k3,hb⟩,if_pos ⟨trivial,ha,hb⟩,nH,nil_append]
    · simp only[nH,dF (show ¬((qH p).length:Int)<=250 by omega),Bool.not_false,cT];rw[if_neg (λh=>hb h.2.2)]
  · rw[dT (by omega),cT,nH,Bool.not_false,cT,if_neg (λh=>ha h.2.1)]
theorem FK {α β:Type} (l:List α) (i:Int) (f:α->Option β):((ix l.length i).bind λj=>(l[j]?).bind f)=(at? l i).bind f:=by
 unfold ix at?;by_cases h0:0<=i
 · rw[if_pos h0,if_pos h0];by_cases h1:i<(l.length:Int)
   · rw[if_pos h1,nH]
   · rw[if_neg h1,List.getElem?_eq_none (by omega)];rfl
 · rw[if_neg h0,if_neg h0];rfl
theorem Hl:fw=dt:=rfl
theorem Ff:bV=am:=rfl
theorem I9 {b:nI} (h:tB b) (o:List Int):eT b o=aM b o:=by
 unfold eT aM;rw[yT h];cases bf b with
 | none=>rfl
 | some l =>
  have hs:(λz:Int×Int×Int×List UInt8×List Int×List Int=>fx o l z.1 z.2.1 z.2.2.1 z.2.2.2.1 z.2.2.2.2.1 z.2.2.2.2.2)=λz=>bv o l z.1 z.2.1 z.2.2.1 z.2.2.2.1 z.2.2.2.2.1 z.2.2.2.2.2:=by
   funext z
   unfold fx bv;simp only[FK,Hl];cases at? l z.1<;>rfl
  rw[nH,nH,hs];unfold aL;simp only[Option.bind_assoc,nH]
theorem J4 {b:nI} (h:tB b) (o:List Int):eV b o=bg b o:=by
 unfold eV bg;rw[yT h];cases bf b with
 | none=>rfl
 | some l =>
  have hs:(λz:Int×Int×Int×List UInt8×List Int=>fy o l z.1 z.2.1 z.2.2.1 z.2.2.2.1 z.2.2.2.2)=λz=>aV o l z.1 z.2.1 z.2.2.1 z.2.2.2.1 z.2.2.2.2:=by
   funext z
   unfold fy aV;simp only[FK,Ff];cases at? l z.1<;>rfl
  rw[nH,nH,hs]
def x8 (b:nI) (x:nJ):Prop:=qC x.1=true/\(x.2.1=130->oN b x.1=x)
theorem Eg {b:nI} (h:oY b) {o:List Int} (ho:qC o=true):x8 b (oN b o):=by
 refine⟨pt (vi h ho),λhk=>?_⟩;obtain⟨_,h1⟩:=x7 h (o:=o) (by have:=qw ho;omega);rcases h1 with ⟨h1,_⟩|⟨h1,h2⟩
 · exfalso;have hv:∀v:qB,Vl v->v.1≠130:=λv hv=>by cases hv<;>simp
   exact hv _ (ub h _ h1).2 hk
 · rw[h1];exact h1
theorem zC {b:nI} {o:List Int} (ho:qC o=true):x8 b (o,5,0,[],[]):=⟨ho,λhk=>by have hk:(5:Int)=130:=hk;omega⟩
noncomputable def oM (b:nI) (l:List nJ):List nJ:=l.map λx=>oN b x.1
theorem Eh {b:nI} {x:nJ} (h:x8 b x):(cond (x.2.1==130) x (oN b x.1))=oN b x.1:=by
 cases hk:x.2.1==130 with
 | true=>rw[cT];exact (h.2 (by simpa using hk)).symm
 | false=>rfl
noncomputable def rE (b:nI):Nat->List nJ×List nJ->List nJ×List nJ
 | 0,s=>s
 | n+1,s=>if 0<s.2.length/\s.1.length<10 then rE b n (s.1++oM b s.2,oM b s.2)else s
theorem Dg {b:nI}:∀(n:Nat) {s:List nJ×List nJ},10<=s.1.length->rE b n s=s
 | 0,s,_=>rfl
 | n+1,s,h=>if_neg (by omega)
theorem Ei {b:nI}:∀(n:Nat) {s:List nJ×List (List Int)},10<=s.1.length->u9 b n s=s
 | 0,s,_=>rfl
 | n+1,s,h=>if_neg (by omega)
theorem zD {b:nI}:∀(n:Nat) (out T:List nJ),out.length<=10->(u9 b n (out,T.map λx=>x.1)).1=(rE b n (out,T)).1.take 10
 | 0,out,T,h=>(take_of_length_le h).symm
 | n+1,out,T,h=>by
  by_cases hc:0<T.length/\out.length<10
  · have e1:u9 b (n+1) (out,T.map λx=>x.1)=u9 b n (ux b (out,T.map λx=>x.1)):=if_pos (by simpa using hc);have e2:rE b (n+1) (out,T)=rE b n (out++oM b T,oM b T):=if_pos hc
    rw[e1,e2];by_cases hle:out.length+T.length<=10
    · have hm:sg (out,T.map λx=>x.1)=T.length:=by unfold sg;simp only[length_map];omega
      have e3:ux b (out,T.map λx=>x.1)=(out++oM b T,(oM b T).map λx=>x.1):=by
       unfold ux oM;simp only[hm];rw[take_of_length_le (by simp),List.drop_of_length_le (by simp),append_nil,map_map,map_map,map_map];rfl
      rw[e3];exact zD n _ _ (by rw[length_append];unfold oM;rw[length_map];omega)
    · have hm:sg (out,T.map λx=>x.1)=10-out.length:=by unfold sg;simp only[length_map];omega
      have hl1:(ux b (out,T.map λx=>x.1)).1.length=10:=by
       show (out++((T.map λx=>x.1).take (sg (out,T.map λx=>x.1))).map (oN b)).length=10;rw[hm,length_append,length_map,length_take,length_map];omega
      rw[Ei n (by omega),Dg n (by show 10<=(out++oM b T).length;rw[length_append];unfold oM;rw[length_map];omega)];show out++((T.map λx=>x.1).take (sg (out,T.map λx=>x.1))).map (oN b)=(out++oM b T).take 10
      rw[hm,List.take_append,take_of_length_le h];unfold oM;rw[←List.map_take,←List.map_take,map_map];rfl
  · have e1:u9 b (n+1) (out,T.map λx=>x.1)=(out,T.map λx=>x.1):=if_neg (by simpa using hc);have e2:rE b (n+1) (out,T)=(out,T):=if_neg hc
    rw[e1,e2];exact (take_of_length_le h).symm

theorem Dh {p:oe} (hp:tQ M p):cH p=some (p8 p):=by
 unfold cH;rw[Gq hp,nH];show (af ((yQ p).length:Int) 1 120).bind _=_
 rw[tV,nH];rfl
def named (l:List nJ):List nJ:=l.map λx=>(x.1,5,0,[],[])
theorem Ej {l:List nJ} (hn:l.length<=M):bW l=some (named l):=by
 have hM:M=1048576:=rfl;unfold bW named;refine zB (vh (g:=λx:nJ=>((x.1,5,0,[],[]):nJ)) hn (λk hk out ho=>?_) (λout=>?_)) rfl
 · show dM l (k:Int) out=_;unfold dM;rw[oE (by omega),cT,nX hk,nH,nP (by rw[ho];show k+1<=_;omega),nH,nZ (by omega)]
 · show dM l (l.length:Int) out=_;unfold dM;rw[oq (by omega),cF]
theorem BG {b:nI} (h:oY b) {l:List nJ} (hn:l.length<=1000) (hT:∀x∈l,x8 b x):aW b l=some (oM b l):=by
 unfold aW oM;refine zB (vh (g:=λx:nJ=>oN b x.1) (by show _<=1048576;omega) (λk hk out ho=>?_) (λout=>?_)) rfl
 · have hx:=hT _ (getElem_mem hk);have e:=Eh hx
   show dL b l (k:Int) out=_;unfold dL;rw[oE (by omega),cT,nX hk,nH,nH,nH,I9 h.w,(x7 h (by have:=qw hx.1;omega)).1,nH,nZ (by omega)];cases hk':l[k].2.1==130 with
   | true =>
    rw[hk',cT]at e;rw[cT,nP (by rw[ho];show k+1<=_;omega),nH,←e]
   | false=>rw[cF,nP (by rw[ho];show k+1<=_;omega),nH]
 · show dL b l (l.length:Int) out=_;unfold dL;rw[oq (by omega),cF]
theorem Di {b:nI} (h:oY b) {l:List nJ} (hT:∀x∈l,x8 b x):∀x∈oM b l,x8 b x:=by
 intro x hx;obtain⟨y,hy,rfl⟩:=mem_map.1 hx;exact Eg h (hT y hy).1
theorem FM {b:nI} (h:oY b) {p:oe} (hB:p.2.2.2.1<=1000):∀(n i:Nat) (out T:List nJ),T.length<=10->out.length<=10+10*i->(∀x∈T,x8 b x)->((i+n:Nat):Int)=p.2.2.2.1->loop (λz=>bj b p z.1 z.2.1 z.2.2) (T,(i:Int),out)=some (rE b n (out,T)).1
 | 0,i,out,T,h1,h2,hT,e=>by
  refine oI ?_;show bj b p T (i:Int) out=_
  unfold bj;rw[oq (by omega),cF,nH,cF,nH,cF];rfl
 | n+1,i,out,T,h1,h2,hT,e=>by
  by_cases hc:0<T.length/\out.length<10
  · have hnl:(oM b T).length=T.length:=by unfold oM;rw[length_map]
    refine pk (y:=(oM b T,((i+1:Nat):Int),out++oM b T)) ?_ ?_
    · show bj b p T (i:Int) out=_;unfold bj;rw[oE (by omega),cT,dT (by omega),nH,cT,oE (by omega),nH,cT,BG h (by omega) hT,nH,nP (by rw[hnl];omega),nH,nZ (by omega)]
    · rw[FM h hB n (i+1) _ _ (by rw[hnl];exact h1) (by rw[length_append,hnl];omega) (Di h hT) (by omega),show rE b (n+1) (out,T)=rE b n (out++oM b T,oM b T)from if_pos hc]
  · refine oI ?_;show bj b p T (i:Int) out=_
    have e2:rE b (n+1) (out,T)=(out,T):=if_neg hc;rw[e2];unfold bj;rw[oE (by omega),cT];by_cases h1:0<T.length
    · rw[dT (by omega),nH,cT,oq (by omega),nH,cF]
    · rw[dF (by omega),nH,cF,nH,cF]
theorem Av {b:nI}:∀(n:Nat) (out T:List nJ),T.length<=10->out.length<=20->(rE b n (out,T)).1.length<=20
 | 0,out,T,_,h=>h
 | n+1,out,T,hT,h=>by
  by_cases hc:0<T.length/\out.length<10
  · rw[show rE b (n+1) (out,T)=rE b n (out++oM b T,oM b T)from if_pos hc];have hnl:(oM b T).length=T.length:=by unfold oM;rw[length_map]
    exact Av n _ _ (by omega) (by rw[length_append,hnl];omega)
  · rw[show rE b (n+1) (out,T)=(out,T)from if_neg hc];exact h
theorem Hm {b:nI} (h:oY b) {p:oe} (hp:pK p=true):eU b p=some (qI b p):=by
 obtain⟨x1,x2,_,_,x5,x6⟩:=pX hp;have hM:M=1048576:=rfl
 have hnl:(named p.2.2.2.2).length=p.2.2.2.2.length:=by unfold named;rw[length_map]
 have hTold:∀x∈named p.2.2.2.2,x8 b x:=by
  intro x hx;obtain⟨y,hy,rfl⟩:=mem_map.1 hx;exact zC (pt (x1 y hy))
 have hon:oQ p<=p.2.2.2.2.length:=Nat.min_le_right _ _;have hout:oM b ((named p.2.2.2.2).take (oQ p))=(p.2.2.2.2.take (oQ p)).map (λx=>oN b x.1):=by
  unfold oM named;rw[←List.map_take,map_map];rfl
 have hlast:((named p.2.2.2.2).drop (oQ p)).map (λx=>x.1)=(p.2.2.2.2.drop (oQ p)).map (λx=>x.1):=by
  unfold named;rw[←List.map_drop,map_map];rfl
 have hol:(oM b ((named p.2.2.2.2).take (oQ p))).length<=10:=by rw[hout,length_map,length_take];omega
 have hTl:((named p.2.2.2.2).drop (oQ p)).length<=10:=by rw[length_drop];omega
 have hrun:=FM h (p:=p) (by omega) p.2.2.2.1.toNat 0 (oM b ((named p.2.2.2.2).take (oQ p))) ((named p.2.2.2.2).drop (oQ p)) hTl (by omega) (λx hx=>hTold x (List.mem_of_mem_drop hx)) (by omega);have hv:qI b p=(rE b p.2.2.2.1.toNat (oM b ((named p.2.2.2.2).take (oQ p)),(named p.2.2.2.2).drop (oQ p))).1.take 10:=by
  unfold qI Dd;rw[←hout,←hlast];exact zD _ _ _ hol
 have hlen:=Av (b:=b) p.2.2.2.1.toNat _ _ hTl (show (oM b ((named p.2.2.2.2).take (oQ p))).length<=20 by omega);have fin:∀k:Int,k=((oQ p:Nat):Int)->((bW p.2.2.2.2).bind λt22 =>
  (qZ t22.length 0 k).bind λq =>
  (aW b ((t22.take q.2).drop q.1)).bind λt27 =>
  (cut t22 k (t22.length:Int)).bind λt30 =>
  (loop (λz=>bj b p z.1 z.2.1 z.2.2) (t30,0,t27)).bind λd =>
  cond (decide ((d.length:Int)>10))
   ((qZ d.length 0 10).bind λp_1 =>
   some ((d.take p_1.2).drop p_1.1))
   (some d))=some (qI b p):=by
  rintro k rfl;rw[Ej (by omega),nH,show (0:Int)=((0:Nat):Int)from rfl,vg (by omega) (by rw[hnl];exact hon),nH];show (aW b (((named p.2.2.2.2).take (oQ p)).drop 0)).bind _=_
  rw[List.drop_zero,BG h (by rw[length_take];omega) (λx hx=>hTold x (mem_of_mem_take hx)),nH,qY (by rw[hnl];exact hon) (Nat.le_refl _),nH,take_length];refine zB hrun ?_;rw[hv];generalize (rE b p.2.2.2.1.toNat (oM b ((named p.2.2.2.2).take (oQ p)),(named p.2.2.2.2).drop (oQ p))).1=d at hlen;by_cases hd:(d.length:Int)>10
  · rw[dT hd,cT,show (10:Int)=((10:Nat):Int)from rfl,vg (by omega) (by omega),nH];rfl
  · rw[dF hd,cF,take_of_length_le (by omega)]
 unfold eU;by_cases hc:p.2.2.1>(p.2.2.2.2.length:Int)
 · rw[dT hc,cT];exact fin _ (by unfold oQ;omega)
 · rw[dF hc,cF];exact fin _ (by unfold oQ;omega)
theorem Ek (k i a c:Int) (bulk:Bool):∀(n:Nat) (l:List nJ),l.length=n->n<=10->(∀x∈l,xW M x) ->
 ∃t,loop (λz:oe=>bB bulk z.1 z.2.1 z.2.2.1 z.2.2.2.1 z.2.2.2.2) (k,i,a,c,l)=some (k,i,a,c,t)/\tQ M (k,i,a,c,t) /\
  ((p8 (k,i,a,c,l)=true/\t=l)\/(p8 (k,i,a,c,l)=false/\((bulk=true/\p8 (k,i,a,c,t)=true/\shr (λt=>p8 (k,i,a,c,t)) n l=some t)\/(p8 (k,i,a,c,t)=false/\(bulk=true->shr (λt=>p8 (k,i,a,c,t)) n l=none)))))
 | n,l,hl,hn,hx=>by
  have hp:tQ M (k,i,a,c,l):=⟨by show l.length<=1048576;omega,hx⟩;have hstep:∀q:Bool,p8 (k,i,a,c,l)=q->bB bulk k i a c l=cond (bulk&&(!q&&decide ((l.length:Int)>0))) ((qZ l.length 0 (nK ((l.length:Int)-1))).bind λp=>some (.inl (k,i,a,c,(l.take p.2).drop p.1))) (some (.inr (k,i,a,c,l))):=by
   intro q hq;unfold bB;rw[Dh hp,hq];cases bulk<;>cases q<;>rfl
  cases hf:p8 (k,i,a,c,l)with
  | true =>
   refine⟨l,oI ?_,hp,.inl ⟨rfl,rfl⟩⟩;show bB bulk k i a c l=_
   rw[hstep true hf];cases bulk<;>rfl
  | false =>
   cases hb:bulk with
   | false =>
    subst hb;refine⟨l,oI ?_,hp,.inr ⟨rfl,.inr ⟨hf,(λh=>by cases h)⟩⟩⟩;show bB false k i a c l=_
    rw[hstep false hf];rfl
   | true =>
    subst hb
    match n,hl,hn with
    | 0,hl,hn =>
     refine⟨l,oI ?_,hp,.inr ⟨rfl,.inr ⟨hf,λ_=>rfl⟩⟩⟩;show bB true k i a c l=_
     rw[hstep false hf,dF (by omega)];rfl
    | n+1,hl,hn =>
     have hlt:(l.take n).length=n:=by rw[length_take];omega
     have hs:bB true k i a c l=some (.inl (k,i,a,c,l.take n)):=by
      rw[hstep false hf,dT (by omega)];show ((qZ l.length 0 (nK ((l.length:Int)-1))).bind _)=_
      rw[oC (by omega) (by omega),show (l.length:Int)-1=((n:Nat):Int) by omega,show (0:Int)=((0:Nat):Int)from rfl,vg (by omega) (by omega),nH];rfl
     obtain⟨t,t1,t2,t3⟩:=Ek k i a c true n (l.take n) hlt (by omega) (λx h=>hx x (mem_of_mem_take h));refine⟨t,pk hs t1,t2,.inr ⟨rfl,?_⟩⟩;rcases t3 with ⟨u1,rfl⟩|⟨u1,⟨_,u2,u3⟩|⟨u2,u3⟩⟩
     · exact .inl ⟨rfl,u1,if_pos u1⟩
     · exact .inl ⟨rfl,u2,by rw[show shr (λt=>p8 (k,i,a,c,t)) (n+1) l=shr (λt=>p8 (k,i,a,c,t)) n (l.take n)from if_neg (show ¬p8 (k,i,a,c,l.take n)=true by rw[u1];simp)];exact u3⟩
     · exact .inr ⟨u2,λ_=>by rw[show shr (λt=>p8 (k,i,a,c,t)) (n+1) l=shr (λt=>p8 (k,i,a,c,t)) n (l.take n)from if_neg (show ¬p8 (k,i,a,c,l.take n)=true by rw[u1];simp)];exact u3 rfl⟩
noncomputable def xV (i a c:Int) (bulk:Bool) (l:List nJ):oe :=
 cond (p8 (162,i,a,c,l)) (162,i,a,c,l) (match cond bulk (shr (λt=>p8 (162,i,a,c,t)) l.length l) none with|some t=>(162,i,a,c,t)|none=>(162,i,7,0,[]))
theorem El (i a c:Int) (bulk:Bool) {l:List nJ} (hn:l.length<=10) (hx:∀x∈l,xW M x):cJ (162,i,a,c,l) bulk=some (xV i a c bulk l):=by
 obtain⟨t,t1,t2,t3⟩:=Ek 162 i a c bulk l.length l rfl hn hx;unfold cJ xV;refine zB t1 ?_;rw[Dh t2,nH];rcases t3 with ⟨u1,rfl⟩|⟨u1,⟨rfl,u2,u3⟩|⟨u2,u3⟩⟩
 · rw[u1,cT,cT]
 · rw[u1,u2,cT,cF,cT,u3]
 · rw[u1,u2,cF,cF];cases bulk with
   | true=>rw[cT,u3 rfl]
   | false=>rfl
theorem Ia {b:nI} (h:oY b) {p:oe} (hp:pK p=true) (h163:(p.1==163)=false) (hk:(p.1 != 162)=true):∃l,eW b p=some l/\qO b p=(b,162,p.2.1,0,0,l)/\l.length<=10/\∀x∈l,xW M x:=by
 obtain⟨x1,x2,_⟩:=pX hp;have hM:M=1048576:=rfl
 unfold eW qO;cases h161:(p.1==161)with
 | true =>
  have h160:(p.1==160)=false:=by simp only[beq_iff_eq]at h161;rw[h161];rfl
  have hTold:∀x∈named p.2.2.2.2,x8 b x:=by
   intro x hx;obtain⟨y,hy,rfl⟩:=mem_map.1 hx;exact zC (pt (x1 y hy))
  have he:oM b (named p.2.2.2.2)=p.2.2.2.2.map λx=>oN b x.1:=by unfold oM named;rw[map_map];rfl
  simp only[cT,cF,h160];rw[Ej (by omega),nH,BG h (by unfold named;rw[length_map];omega) hTold,nH,he];refine⟨_,rfl,rfl,by rw[length_map];exact x2,λx hx=>?_⟩;obtain⟨y,hy,rfl⟩:=mem_map.1 hx;exact qx (vi h (pt (x1 y hy)))
 | false =>
 cases h165:(p.1==165)with
 | true =>
  have h160:(p.1==160)=false:=by simp only[beq_iff_eq]at h165;rw[h165];rfl
  have hbk:=Cl h hp;simp only[cT,cF,h160];rw[Hm h hp,nH];exact⟨_,rfl,rfl,hbk.o10,λx hx=>qx (hbk.oOk x hx)⟩
 | false =>
  have h160:(p.1==160)=true:=by
   rcases Fc hp with e|e|e|e|e
   · rw[e];rfl
   · rw[e]at h161;cases h161
   · rw[e]at hk;cases hk
   · rw[e]at h163;cases h163
   · rw[e]at h165;cases h165
  simp only[cT,cF,h160];have e:loop (λz:Int×List nJ=>cM b p z.1 z.2) (0,[])=some (p.2.2.2.2.map λx=>((x.1,sC b x.1):nJ)):=by
   refine vh (by omega) (λk hk' out ho=>?_) (λout=>?_)
   · have hx:=qw (pt (x1 _ (getElem_mem hk')));show cM b p (k:Int) out=_
     unfold cM;rw[oE (by omega),cT,nX hk',nH,nP (by show 0+_<=_;omega),nH,nH,J4 h.w,(Db h (by omega)).1,nH,nP (by rw[ho];show k+1<=_;omega),nH,nZ (by omega)];rfl
   · show cM b p (p.2.2.2.2.length:Int) out=_;unfold cM;rw[oq (by omega),cF]
  rw[e,nH];refine⟨_,rfl,rfl,by rw[length_map];exact x2,λx hx=>?_⟩;obtain⟨y,hy,rfl⟩:=mem_map.1 hx;exact qx (by unfold qK;rw[pt (x1 y hy),Dc h (by have:=qw (pt (x1 y hy));omega)];rfl)
theorem BZ {b:nI} {p:oe} {l:List nJ} (ha:qO b p=(b,162,p.2.1,0,0,l)) (hl:(p.1==165)=true->l=qI b p):ov b p=(b,xV p.2.1 0 0 (p.1==165) l):=by
 unfold ov sZ xV;rw[ha];simp only;cases p8 (162,p.2.1,0,0,l)with
 | true=>rfl
 | false =>
  rw[cF,cF];cases h165:(p.1==165)with
  | true=>rw[cT,cT,hl h165];cases shr (λt=>p8 (162,p.2.1,0,0,t)) (qI b p).length (qI b p)<;>rfl
  | false=>rfl
theorem J5 {b:nI} (h:oY b) {p:oe} (hp:pK p=true) (h163:(p.1==163)=true):eS b p=some (ov b p):=by
 have hxs:=zA hp;have hM:M=1048576:=rfl
 have h10:=(pX hp).2.1;obtain⟨r,r1,r2,_,_,r5⟩:=A1 h.w h.le hxs;have hr:uw b p.2.2.2.2=r:=by unfold uw;rw[r1];rfl
 have h160:(p.1==160)=false:=by simp only[beq_iff_eq]at h163;rw[h163];rfl
 have h161:(p.1==161)=false:=by simp only[beq_iff_eq]at h163;rw[h163];rfl
 have h165:(p.1==165)=false:=by simp only[beq_iff_eq]at h163;rw[h163];rfl
 have ha:qO b p=(r.1,162,p.2.1,r.2.1,r.2.2,p.2.2.2.2):=by unfold qO;rw[h160,h161,h165,hr];rfl
 have hless:sZ b p=(b,162,p.2.1,7,0,[]):=by unfold sZ;rw[h165];rfl
 unfold eS ov;rw[zK hxs,nH,r2,nH,Dh (p:=(162,p.2.1,r.2.1,r.2.2,p.2.2.2.2)) ⟨hxs.1,hxs.2⟩,nH,ha,hless];simp only;have hb:∀q:Bool,p8 (162,p.2.1,r.2.1,r.2.2,p.2.2.2.2)=q->((aJ b).bind λt36=>(cJ (162,p.2.1,r.2.1,r.2.2,p.2.2.2.2) false).bind λt38=>some (t36,t38))=some (b,cond q (162,p.2.1,r.2.1,r.2.2,p.2.2.2.2) (162,p.2.1,7,0,[])):=by
  intro q hq;rw[sc h.le,nH,El _ _ _ _ h10 hxs.2,nH];unfold xV;rw[hq];rfl
 cases hf:p8 (162,p.2.1,r.2.1,r.2.2,p.2.2.2.2)with
 | false=>rw[Bool.not_false,cT,nH,cT,hb false hf];rfl
 | true =>
  rw[Bool.not_true,cF,nH];cases hc:(r.2.1 != 0)with
  | false=>rfl
  | true =>
   rw[cT,hb true hf];rcases r5 with ⟨r6,_⟩|⟨r6,_⟩
   · rw[r6]at hc;cases hc
   · rw[r6];rfl
theorem Hn {b:nI} (h:tB b) (hb:vj M b) {p:oe} (hp:tQ M p):eX b p=some (s3 b p):=by
 unfold eX fq s3 xU;rw[A4 h,nH,sc hb];cases hbr:pd b with
 | false=>rfl
 | true =>
 rw[cT,HS hp,nH,nH];cases hpp:pK p with
 | false=>rfl
 | true =>
 cases hk:(p.1 != 162)with
 | false=>rfl
 | true =>
 have hBO:=Cu h hbr;simp only[Bool.and_true,cT,nH,Bool.not_true,cF];cases h163:(p.1==163)with
 | true=>rw[cT,J5 hBO hpp h163,nH]
 | false =>
  obtain⟨l,e1,e2,e3,e4⟩:=Ia hBO hpp h163 hk;have hl:(p.1==165)=true->l=qI b p:=by
   intro h165;have h160:(p.1==160)=false:=by simp only[beq_iff_eq]at h165;rw[h165];rfl
   have h161:(p.1==161)=false:=by simp only[beq_iff_eq]at h165;rw[h165];rfl
   have:qO b p=(b,162,p.2.1,0,0,qI b p):=by unfold qO;rw[h160,h161,h165];rfl
   rw[e2]at this;simpa using this
  rw[cF,e1,nH,zK ⟨by show l.length<=1048576;omega,e4⟩,nH,El _ _ _ _ e3 e4,nH,BZ e2 hl]

theorem Dr.mono {α:Type} {P Q:α->Prop} {o:Option (ob×α)} (h:Dr P o) (k:∀x,P x->Q x):Dr Q o:=by
 obtain⟨c,x,e,w,hx⟩:=h;exact⟨c,x,e,w,k x hx⟩
def Em (n:Nat) (p:oe):Prop:=p.2.2.2.2.length<=n/\∀x∈p.2.2.2.2,xW M x
theorem Em.le {n:Nat} {p:oe} (h:Em n p) (hn:n<=1000):tQ M p:=⟨by have:=h.1;show _<=1048576;omega,h.2⟩
theorem Em.up {n m:Nat} {p:oe} (h:Em n p) (hn:n<=m):Em m p:=⟨Nat.le_trans h.1 hn,h.2⟩
def XO (x:nJ):Prop:=Cf x/\qK x=true
theorem xO {o:List Int} {v:qB} (ho:Nm o) (h1:BA v) (h2:qj v=true):XO (o,v.1,v.2.1,v.2.2.1,v.2.2.2):=⟨⟨by have:=ho.n10;show o.length<=1000;omega,h1⟩,by show (qC o&&qj v)=true;rw[yj ho,h2];rfl⟩
theorem IM {n:Int} (h:-2147483648<=n/\n<=2147483647):qj (2,n,[],[])=true:=by
 show (nN n (-2147483648) 2147483647&&true)=true;rw[tS h.1 h.2];rfl
theorem IN {s:List UInt8} (h:s.length<=20):qj (4,0,s,[])=true:=by
 show (decide ((s.length:Int)<=20)&&true)=true;rw[dT (show (s.length:Int)<=20 by omega)];rfl
theorem Ib (n:Int):∃r,aq n=some r /\ -2147483648<=r/\r<=2147483647:=by
 unfold aq;by_cases h1:n>2147483647
 · rw[dT h1];exact⟨_,rfl,by omega,by omega⟩
 · rw[dF h1];by_cases h2:n < -2147483648
   · rw[dT h2];exact⟨_,rfl,by omega,by omega⟩
   · rw[dF h2];exact⟨_,rfl,by omega,by omega⟩
theorem Ho {c:ob} (h:CW c):Dr (λv=>BA v/\qj v=true) (aC c):=by
 unfold aC;refine Dr.bind (rL h 6) λc x hc _=>?_;have hn:∀c,CW c->Dr (λv=>BA v/\qj v=true) ((ci c).bind λt12=>(aq t12.2).bind λt13=>(ah t13).bind λt14=>some (t12.1,t14)):=λc hc=>by
  refine Dr.bind (I6 hc) λc x hc _=>?_;obtain⟨r,hr,hr2⟩:=Ib x;simp only[hr,nH,ah];exact Dr.some hc ⟨⟨by simp,by simp,Hb _⟩,IM hr2⟩
 have hs:∀c,CW c->Dr (λv=>BA v/\qj v=true) ((aO c ([[],[97],[121,97,114,100],[0]]:List (List UInt8))).bind λt19=>some (t19.1,(4,0,t19.2,[]))):=λc hc=>by
  refine Dr.bind (FF hc (by decide)) λc x hc hx=>?_;exact Dr.some hc ⟨⟨Nat.le_trans (BB (n:=4) hx (by decide)) (by decide),by simp,Hc _⟩,IN (Nat.le_trans (BB (n:=4) hx (by decide)) (by decide))⟩
 have ho:∀c,CW c->Dr (λv=>BA v/\qj v=true) ((aR c).bind λt24=>some (t24.1,(6,0,[],t24.2))):=λc hc=>by
  refine Dr.bind (I5 hc) λc x hc hx=>?_;exact Dr.some hc ⟨⟨by simp,by have:=hx.n10;show x.length<=1000;omega,IY _⟩,by show (qC x&&true)=true;rw[yj hx];rfl⟩
 have hi:∀c,CW c->Dr (λv=>BA v/\qj v=true) ((ai c ([128,130]:List Int)).bind λt28=>some (t28.1,(t28.2,0,[],[]))):=λc hc=>by
  refine Dr.bind (AM hc (by decide)) λc x hc hx=>?_;simp only[mem_cons,not_mem_nil,or_false]at hx;rcases hx with rfl|rfl<;>exact Dr.some hc ⟨⟨by simp,by simp,EZ _⟩,rfl⟩
 repeat' (first|apply Dr.cond|exact Dr.some hc ⟨⟨by simp,by simp,EZ _⟩,rfl⟩|exact hn c hc|exact hs c hc|exact ho c hc|exact hi c hc)
theorem Gr {c:ob} (h:CW c) {b:nI} (hb:oY b) (hn:∀c,CW c->Dr Nm (ap c b)):Dr XO (dY c b):=by
 have hp6:=hb.n6;have hp1:=hb.n1
 obtain⟨s,hsh,hs1,hs2⟩:∃t,shl .i64 1 (IntKind.u64.wrap (b.2.2.1.length:Int))=some t/\1<=t/\t<=64:=by
  generalize hlen:b.2.2.1.length=n at hp6 hp1;have:n=1\/n=2\/n=3\/n=4\/n=5\/n=6:=by omega
  rcases this with rfl|rfl|rfl|rfl|rfl|rfl<;>exact⟨_,rfl,by decide,by decide⟩
 have hnm:∀(l:List Int),l.length<=100->ac l=some ([1,3,1]++l):=λl hl=>ym l hl;have num:∀{c:ob} {o:List Int} {n:Int},CW c->Nm o -> -2147483648<=n/\n<=2147483647->Dr XO ((ah n).bind λt40=>some (c,(o,t40.1,t40.2.1,t40.2.2.1,t40.2.2.2))):=λhc ho hn=>Dr.some hc (xO (v:=(2,_,[],[])) ho ⟨by simp,by simp,Hb _⟩ (IM hn))
 have w1:∀{p:Int},0<=p->p<100->nK (1+p)=1+p:=λh1 h2=>oC (by omega) (by omega);have h22:∀c p,CW c->(0<=p/\p<100)->Dr XO ((ac [2,2,nK (1+p)]).bind λt36=>(ai c ([1,5,1000,0,1001]:List Int)).bind λt39=>(ah t39.2).bind λt40=>some (t39.1,(t36,t40.1,t40.2.1,t40.2.2.1,t40.2.2.2))):=λc p hc hp=>by
  rw[hnm _ (by simp),nH,w1 hp.1 hp.2];refine Dr.bind (AM hc (by decide)) λc x hc hx=>num hc (AA (by decide) (by decide) (by omega)) ?_;simp only[mem_cons,not_mem_nil,or_false]at hx;omega
 have h24:∀c p,CW c->(0<=p/\p<100)->Dr XO ((ac [2,4,nK (1+p)]).bind λt46=>(aa c 4).bind λt48=>(ah (nK (1+t48.2))).bind λt50=>some (t48.1,(t46,t50.1,t50.2.1,t50.2.2.1,t50.2.2.2))):=λc p hc hp=>by
  rw[hnm _ (by simp),nH,w1 hp.1 hp.2];refine Dr.bind (rL hc 4) λc x hc hx=>?_;have hx2:=hx.2 (by omega)
  simp only;rw[w1 hx.1 (by omega)];exact num hc (AA (by decide) (by decide) (by omega)) (by omega)
 have h31:∀c,CW c->Dr XO ((aa c 4).bind λt56=>(ac [3,1,nK (1+t56.2)]).bind λt59=>(ai t56.1 ([4,4,6,1]:List Int)).bind λt62=>(ah t62.2).bind λt63=>some (t62.1,(t59,t63.1,t63.2.1,t63.2.2.1,t63.2.2.2))):=λc hc=>by
  refine Dr.bind (rL hc 4) λc x hc hx=>?_;have hx2:=hx.2 (by omega)
  simp only;rw[hnm _ (by simp),nH,w1 hx.1 (by omega)];refine Dr.bind (AM hc (by decide)) λc y hc hy=>num hc (AA (by decide) (by decide) (by omega)) ?_;simp only[mem_cons,not_mem_nil,or_false]at hy;omega
 have h3x:∀c k m,CW c->(k=2\/k=3)->(1<=m/\m<=1000)->Dr XO ((aa c 4).bind λt69=>(ac [3,k,nK (1+t69.2)]).bind λt72=>(aa t69.1 m).bind λt76=>(ah t76.2).bind λt77=>some (t76.1,(t72,t77.1,t77.2.1,t77.2.2.1,t77.2.2.2))):=λc k m hc hk hm=>by
  refine Dr.bind (rL hc 4) λc x hc hx=>?_;have hx2:=hx.2 (by omega)
  simp only;rw[hnm _ (by simp),nH,w1 hx.1 (by omega)];refine Dr.bind (rL hc m) λc y hc hy=>num hc (AA (by decide) (by omega) (by omega)) ?_;have:=hy.2 hm.1
  omega
 have hoth:∀c,CW c->Dr XO ((ap c b).bind λt94=>(aC t94.1).bind λt96=>some (t96.1,(t94.2,t96.2.1,t96.2.2.1,t96.2.2.2.1,t96.2.2.2.2))):=λc hc=>by
  refine Dr.bind (hn c hc) λc o hc ho=>?_;refine Dr.bind (Ho hc) λc v hc hv=>?_;exact Dr.some hc (xO ho hv.1 hv.2)
 have h11:∀c,CW c->Dr XO ((ac ([1,1]:List Int)).bind λt25=>(aO c ([[110,101,119],[],[101,108,101,118,101,110,45,98,121,116,101]]:List (List UInt8))).bind λt28=>some (t28.1,(t25,4,0,t28.2,[]))):=λc hc=>by
  rw[hnm _ (by simp),nH];refine Dr.bind (FF hc (by decide)) λc x hc hx=>?_;have hl:x.length<=11:=BB (n:=11) hx (by decide)
  exact Dr.some hc (xO (v:=(4,0,x,[])) (BJ (a:=1) (b:=1) (by decide) (by decide)) ⟨by show x.length<=100;omega,by simp,Hc _⟩ (IN (by omega)))
 have wp:nK ((b.2.2.1.length:Int)+1)=(b.2.2.1.length:Int)+1:=oC (by omega) (by omega);have ws:nK ((nK (s-1))+2)=s+1/\nK ((nK (s-1))+1)=s:=by
  rw[oC (n:=s-1) (by omega) (by omega),oC (by omega) (by omega),oC (by omega) (by omega)];omega
 unfold dY;rw[wp];refine Dr.bind (rL h _) λc p hc hp=>?_;have hp2:=hp.2 (by omega)
 have hp':0<=p/\p<100:=⟨hp.1,by omega⟩;rw[hsh,nH,ws.1,ws.2];refine Dr.bind (rL hc 10) λc r hc _=>?_
 repeat' (first|apply Dr.cond|exact h22 c p hc hp'|exact h24 c p hc hp'|exact h31 c hc|exact h3x c _ _ hc (.inl rfl) (by omega)|exact h3x c _ _ hc (.inr rfl) (by omega)|exact hoth c hc|exact h11 c hc)
theorem Fg {c:ob} (h:CW c) {b:nI} (hb:oY b) (hn:∀c,CW c->Dr Nm (ap c b)):Dr (λl:List nJ=>l.length<=3/\∀x∈l,XO x) (d9 c b):=by
 unfold d9;obtain⟨c1,k,e1,w1,hk⟩:=qX h (n:=4) (by decide);have e1':aa c 4=some (c1,(k:Int)):=e1
 rw[e1',nH];obtain⟨d,d1,d2,d3,d4⟩:=o9 (step:=λz:Int×List Int×Int×Int×List nJ=>bJ b z.1 z.2.1 z.2.2.1 z.2.2.2.1 z.2.2.2.2)
  (λi z=>z.1=((k-i:Nat):Int)/\CW (z.2.1,z.2.2.1,z.2.2.2.1)/\z.2.2.2.2.length=i/\∀x∈z.2.2.2.2,XO x) k
  (λd=>CW (d.1,d.2.1,d.2.2.1)/\d.2.2.2.length=k/\∀x∈d.2.2.2,XO x)
  (λi z hi ⟨z1,z2,z3,z4⟩=>by
   obtain⟨j,c0,c1,c2,out⟩:=z;simp only at z1 z2 z3 z4;subst z1 z3;left;obtain⟨c',x,x1,x2,x3⟩:=Gr z2 hb hn;refine⟨_,by
    show bJ b _ _ _ _ _=_;unfold bJ;rw[dT (show ((k-out.length:Nat):Int)>0 by omega),cT,x1,nH,nP (by show _+1<=_;omega),nH],?_,x2,by simp,?_⟩
   · show nK (((k-out.length:Nat):Int)-1)=_;rw[oC (by omega) (by omega)];omega
   · intro y hy;rcases mem_append.1 hy with hy|hy
     · exact z4 y hy
     · simp at hy;subst hy;exact x3)
  (λz ⟨z1,z2,z3,z4⟩=>by
   obtain⟨j,c0,c1,c2,out⟩:=z;simp only at z1 z2 z3 z4;rw[Nat.sub_self]at z1;subst z1;refine⟨(c0,c1,c2,out),?_,z2,z3,z4⟩;show bJ b _ _ _ _ _=_
   unfold bJ;rw[dF (show ¬((0:Nat):Int)>0 by decide),cF]) (x:=((k:Int),c1.1,c1.2.1,c1.2.2,[])) ⟨rfl,w1,rfl,by simp⟩
 show Dr _ ((loop (λz:Int×List Int×Int×Int×List nJ=>bJ b z.1 z.2.1 z.2.2.1 z.2.2.2.1 z.2.2.2.2) ((k:Int),c1.1,c1.2.1,c1.2.2,[])).bind _);rw[d1,nH];exact Dr.some d2 ⟨by omega,d4⟩
theorem Hp {c:ob} (h:CW c) {b:nI} (hb:oY b) (hn:∀c,CW c->Dr Nm (ap c b)):Dr (λp=>w9 p/\∀x∈p.2.2.2.2,qK x=true) (dZ c b):=by
 unfold dZ;refine Dr.bind (AM h (by decide)) λc x hc hx=>?_;refine Dr.bind (rL hc 100) λc i hc hi=>?_;have hi2:=hi.2 (by omega)
 have hx:x=160\/x=161\/x=163\/x=165:=by
  simp only[mem_cons,not_mem_nil,or_false]at hx;rcases hx with h|h|h|h|h
  · exact .inl h
  · exact .inr (.inl h)
  · exact .inr (.inr (.inl h))
  · exact .inr (.inr (.inl h))
  · exact .inr (.inr (.inr h))
 cases h3:(x==163)with
 | true =>
  have h3:x=163:=by simpa using h3
  subst h3;show Dr (λp=>w9 p/\∀x∈p.2.2.2.2,qK x=true) ((d9 c b).bind λt18=>some (t18.1,((163:Int),i,0,0,t18.2)))
  refine Dr.bind (Fg hc hb hn) λc l hc hl=>?_;exact Dr.some hc ⟨⟨.inr (.inr (.inl rfl)),⟨hi.1,hi2⟩,.inr ⟨by show (163:Int)≠165;omega,rfl,rfl⟩,hl.1,λx hx=>(hl.2 x hx).1,λhk=>absurd rfl hk⟩,λx hx=>(hl.2 x hx).2⟩
 | false =>
  have h3:x≠163:=by simpa using h3
  obtain⟨c1,k,e1,w1,hk⟩:=qX hc (n:=4) (by decide);have e1':aa c 4=some (c1,(k:Int)):=e1
  rw[cF];show Dr (λp=>w9 p/\∀x∈p.2.2.2.2,qK x=true) ((aa c 4).bind _)
  rw[e1',nH];obtain⟨d,d1,d2,d3,d4,d5⟩:=o9 (step:=λz:Int×List Int×Int×Int×Int×Int×Int×Int×List nJ=>bK b z.1 z.2.1 z.2.2.1 z.2.2.2.1 z.2.2.2.2.1 z.2.2.2.2.2.1 z.2.2.2.2.2.2.1 z.2.2.2.2.2.2.2.1 z.2.2.2.2.2.2.2.2)
   (λj z=>z.1=((k-j:Nat):Int)/\CW (z.2.1,z.2.2.1,z.2.2.2.1)/\(z.2.2.2.2.1=x/\z.2.2.2.2.2.1=i/\z.2.2.2.2.2.2.1=0/\z.2.2.2.2.2.2.2.1=0)/\z.2.2.2.2.2.2.2.2.length=j/\∀y∈z.2.2.2.2.2.2.2.2,Cf y/\qK y=true) k
   (λd=>CW (d.1,d.2.1,d.2.2.1)/\(d.2.2.2.1=x/\d.2.2.2.2.1=i/\d.2.2.2.2.2.1=0/\d.2.2.2.2.2.2.1=0)/\d.2.2.2.2.2.2.2.length=k/\∀y∈d.2.2.2.2.2.2.2,Cf y/\qK y=true)
   (λj z hj ⟨z1,z2,z3,z4,z5⟩=>by
    obtain⟨q,c0,c1,c2,r0,r1,r2,r3,out⟩:=z;simp only at z1 z2 z3 z4 z5;subst z1 z4;left;obtain⟨c',o,x1,x2,x3⟩:=hn _ z2;refine⟨_,by
     show bK b _ _ _ _ _ _ _ _ _=_;unfold bK;rw[dT (show ((k-out.length:Nat):Int)>0 by omega),cT,x1,nH,nP (by show _+1<=_;omega),nH],?_,x2,z3,by simp,?_⟩
    · show nK (((k-out.length:Nat):Int)-1)=_;rw[oC (by omega) (by omega)];omega
    · intro y hy;rcases mem_append.1 hy with hy|hy
      · exact z5 y hy
      · rw[List.mem_singleton]at hy;subst hy;have:=x3.n10
        refine⟨⟨by show o.length<=1000;omega,by show (0:Nat)<=100;omega,by show (0:Nat)<=1000;omega,EZ 5⟩,?_⟩;unfold qK;rw[yj x3];rfl)
   (λz ⟨z1,z2,z3,z4,z5⟩=>by
    obtain⟨q,c0,c1,c2,r0,r1,r2,r3,out⟩:=z;simp only at z1 z2 z3 z4 z5;rw[Nat.sub_self]at z1;subst z1;refine⟨(c0,c1,c2,r0,r1,r2,r3,out),?_,z2,z3,z4,z5⟩;show bK b _ _ _ _ _ _ _ _ _=_
    unfold bK;rw[dF (show ¬((0:Nat):Int)>0 by decide),cF]) (x:=((k:Int),c1.1,c1.2.1,c1.2.2,x,i,0,0,[])) ⟨rfl,w1,⟨rfl,rfl,rfl,rfl⟩,rfl,by simp⟩
  show Dr (λp=>w9 p/\∀x∈p.2.2.2.2,qK x=true) ((loop (λz:Int×List Int×Int×Int×Int×Int×Int×Int×List nJ=>bK b z.1 z.2.1 z.2.2.1 z.2.2.2.1 z.2.2.2.2.1 z.2.2.2.2.2.1 z.2.2.2.2.2.2.1 z.2.2.2.2.2.2.2.1 z.2.2.2.2.2.2.2.2) ((k:Int),c1.1,c1.2.1,c1.2.2,x,i,0,0,[])).bind _);rw[d1,nH];obtain⟨q0,q1,q2,r0,r1,r2,r3,l⟩:=d;simp only at d2 d3 d4 d5 ⊢;obtain⟨rfl,rfl,rfl,rfl⟩:=d3;cases h5:(r0==165)with
  | true =>
   have h5:r0=165:=by simpa using h5
   rw[cT];refine Dr.bind (rL d2 3) λc s hc hs=>?_;refine Dr.bind (rL hc 5) λc t hc ht=>?_;have hs2:=hs.2 (by omega)
   have ht2:=ht.2 (by omega);exact Dr.some hc ⟨⟨hx,⟨hi.1,hi2⟩,.inl ⟨h5,⟨hs.1,by show s<=1000;omega⟩,ht.1,by show t<=1000;omega⟩,by show l.length<=3;omega,λy hy=>(d5 y hy).1,λ_ y hy=>(d5 y hy).2⟩,λy hy=>(d5 y hy).2⟩
  | false =>
   have h5:r0≠165:=by simpa using h5
   rw[cF];exact Dr.some d2 ⟨⟨hx,⟨hi.1,hi2⟩,.inr ⟨h5,rfl,rfl⟩,by show l.length<=3;omega,λy hy=>(d5 y hy).1,λ_ y hy=>(d5 y hy).2⟩,λy hy=>(d5 y hy).2⟩
theorem Fh {p:oe} (h:w9 p) (ho:∀x∈p.2.2.2.2,qK x=true):pK p=true:=by
 have hi:=h.i;refine A2 ho (by have:=h.n;omega) (tS (by omega) (by omega)) ?_;rcases h.ab with ⟨e,⟨a1,a2⟩,b1,b2⟩|⟨e,a1,b1⟩
 · rw[e,tS a1 a2,tS b1 b2];rfl
 · rw[a1,b1];rcases h.k with k|k|k|k
   · rw[k];rfl
   · rw[k];rfl
   · rw[k];rfl
   · exact absurd k e
theorem Hq {code:List Int} (h:code.length<=1048576):∃b p,e9 code=some (b,p)/\oY b/\Fm b/\w9 p/\pK p=true:=by
 obtain⟨c0,e0,w0⟩:=Jf (code:=code) h;obtain⟨c1,b,e1,w1,hb,hp,hz⟩:=Gz w0;have hB:=Cu hb hp
 obtain⟨c2,p,e2,w2,hq⟩:=Hp w1 hB (λc hc=>by obtain⟨c',o,e,w,h⟩:=IA hc hB;exact⟨c',o,e,w,h⟩);refine⟨b,p,?_,hB,hz,hq.1,Fh hq.1 hq.2⟩;unfold e9;rw[e0,nH,e1,nH];simp only;rw[e2,nH]

end Go.V.W

