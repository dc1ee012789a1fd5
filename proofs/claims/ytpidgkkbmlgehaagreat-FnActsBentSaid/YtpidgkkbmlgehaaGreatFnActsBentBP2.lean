/- The law FnActsBent: part of the proof that for every input it returns true. No condition. -/
import Derived.Test.YtpidgkkbmlgehaaGreatFnActsBentBP1
open List (any_eq_false append_assoc append_nil drop_eq_getElem_cons drop_zero flatMap_append getElem_cons_succ getElem_cons_zero getElem_mem getElem_of_mem length_append length_cons length_drop length_eq_zero_iff length_map length_nil length_set length_take map_append map_cons mem_append mem_cons mem_cons_of_mem mem_map mem_of_mem_take mem_range nil_append pairwise_cons take_add_one take_length take_nil take_succ_cons take_zero)
set_option linter.unusedVariables false
set_option linter.unusedSimpArgs false
namespace Go.V.W
theorem SW (t:List Int) (lo hi c:Int):yg (1::3::1::t) lo hi [c]=match t with | [a,x]=>a==c&&vE x lo hi|_=>false:=by
 match t with
 | []=>simp[yg]
 | [a]=>simp[yg]
 | [a,x]=>simp[yg]
 | a::x::y::t=>simp[yg]
theorem SX (t:List Int) (lo hi c d:Int):yg (1::3::1::t) lo hi [c,d]=match t with | [a,b,x]=>(a==c&&b==d)&&vE x lo hi|_=>false:=by
 match t with
 | []=>simp[yg]
 | [a]=>simp[yg]
 | [a,x]=>simp[yg]
 | [a,b,x]=>simp[yg]
 | a::b::x::y::t=>simp[yg]
theorem SY (t:List Int):CB (1::3::1::t)=decide (0<t.length):=by
 unfold CB;rw[show ((1::3::1::t).take 3==[1,3,1])=true from rfl,Bool.and_true];simp
theorem Uz (c:Int):vE c 1 1=(c==1):=by
 unfold vE;by_cases h:c=1
 · subst h;rfl
 · rw[beq_eq_false_iff_ne.2 h];simp only[Bool.and_eq_false_iff,decide_eq_false_iff_not];omega
theorem RJ {b:vw} (h:zF b) (o:List Int):NH b o=HS b o:=by
 unfold NH HS
 match o with
 | []=>simp only[(AP (o:=[]) (by simp)).1,(AP (o:=[]) (by simp)).2];rfl
 | [x]=>simp only[(AP (o:=[x]) (by simp)).1,(AP (o:=[x]) (by simp)).2];rfl
 | [x,y]=>simp only[(AP (o:=[x,y]) (by simp)).1,(AP (o:=[x,y]) (by simp)).2];rfl
 | x::y::z::t =>
  by_cases h3:x=1/\y=3/\z=1
  · obtain⟨rfl,rfl,rfl⟩:=h3;simp only[SW,SX,SY,Uz]
    match t with
    | []=>rfl
    | [a]=>simp
    | [a,c]=>simp
    | [a,c,p] =>
     have hp:decide (xT (zW b) p>=0)=true->vE p 1 99=true:=by
      intro e;obtain⟨k,hk,_,e2⟩:=Cp (of_decide_eq_true e);rw[←e2];exact h.i _ (getElem_mem hk)
     have e5:(1::3::1::[a,c,p])[5]?=some p:=rfl;rw[e5];rw[show decide (0<[a,c,p].length)=true from rfl,Bool.true_and];show (((false:Bool)||((((a==2)&&(c==2))&&vE p 1 (yT b))||((((a==2)&&(c==4))&&vE p 1 (yT b))||((((a==3)&&(c==1))&&vE p 1 99)||(((((a==3)&&(c==2))&&vE p 1 99)||(((a==3)&&(c==3))&&vE p 1 99))&&decide (xT (zW b) p>=0)))))))=((a==2)&&(((c==2)||(c==4))&&vE p 1 (yT b))||(a==3)&&((c==1)&&vE p 1 99||((c==2)||(c==3))&&decide (xT (zW b) p>=0)))
     revert hp
     generalize (a==2)=a2;generalize (a==3)=a3;generalize (c==1)=c1;generalize (c==2)=c2;generalize (c==3)=c3;generalize (c==4)=c4;generalize vE p 1 (yT b)=pn;generalize vE p 1 99=pg;generalize decide (xT (zW b) p>=0)=R;clear e5
     revert a2 a3 c1 c2 c3 c4 pn pg R
     decide
    | a::c::p::q::l=>simp
  · simp only[(NJ (t:=t) h3).1,(NJ (t:=t) h3).2];rfl
theorem P7 {b:vw} (h:zF b) (o:List Int):K3 b o=IN b o:=by
 unfold K3 IN
 match o with
 | []=>simp only[(AP (o:=[]) (by simp)).1,(AP (o:=[]) (by simp)).2];rfl
 | [x]=>simp only[(AP (o:=[x]) (by simp)).1,(AP (o:=[x]) (by simp)).2];rfl
 | [x,y]=>simp only[(AP (o:=[x,y]) (by simp)).1,(AP (o:=[x,y]) (by simp)).2];rfl
 | x::y::z::t =>
  by_cases h3:x=1/\y=3/\z=1
  · obtain⟨rfl,rfl,rfl⟩:=h3;simp only[SW,SX,SY,Uz]
    match t with
    | []=>rfl
    | [a]=>simp
    | [a,c]=>simp
    | [a,c,p] =>
     have e7:((1::3::1::[a,c,p]).length==7)=false:=rfl;rw[e7,Bool.false_and,Bool.false_and,Bool.false_or];show ((a==2&&c==1)&&vE p 1 (yT b)||((a==2&&c==3)&&vE p 1 (yT b)||false))=(true&&(a==2&&((c==1||c==3)&&vE p 1 (yT b))))
     cases (a==2)<;>cases (c==1)<;>cases (c==3)<;>simp
    | [a,c,p,q]=>simp
    | a::c::p::q::r::l=>simp
  · simp only[(NJ (t:=t) h3).1,(NJ (t:=t) h3).2];rw[Bool.false_or,Bool.false_or,Bool.false_or,Bool.false_and];have:((x::y::z::t).take 5==[1,3,1,4,1])=false:=by
     rw[bF];intro e;simp at e;exact h3 ⟨e.1,e.2.1,e.2.2.1⟩
    rw[this,Bool.and_false,Bool.false_and]
def xA (r:vP):Bool->List vP->List vP
 | false,[]=>[r]
 | true,[]=>[]
 | false,x::t=>if x.1>=r.1 then r::(if x.1 != r.1 then x::xA r true t else xA r true t)else x::xA r false t
 | true,x::t=>if x.1 != r.1 then x::xA r true t else xA r true t
theorem Es {r:vP}:∀{l:List vP},(∀x∈l,x.1≠r.1)->xA r true l=l
 | [],_=>rfl
 | x::t,h=>by
  unfold xA;rw[if_pos (bne_iff_ne.2 (h x (by simp))),Es λy hy=>h y (mem_cons_of_mem _ hy)]
theorem HT {r:vP}:∀{l:List vP} {k:Nat} (hk:k<l.length),l.Pairwise (λr s=>r.1<s.1)->l[k].1=r.1->xA r false l=l.set k r
 | x::t,0,_,hp,e=>by
  have e':x.1=r.1:=e;unfold xA;rw[if_pos (by omega),if_neg (by simp[e']),Es λy hy=>by have:=(pairwise_cons.1 hp).1 y hy;omega];rfl
 | x::t,k+1,hk,hp,e=>by
  have e':(t[k]'(by simpa using hk)).1=r.1:=e;have:=(pairwise_cons.1 hp).1 _ (getElem_mem (by simpa using hk:k<t.length))
  unfold xA;rw[if_neg (by omega),HT (by simpa using hk) (pairwise_cons.1 hp).2 e'];rfl
theorem Mo {r:vP}:∀{l:List vP} {d:Nat},l.Pairwise (λr s=>r.1<s.1)->(∀x∈l,x.1≠r.1)->(∀x∈l.take d,x.1<=r.1)->(∀x,l[d]?=some x->¬x.1<=r.1)->xA r false l=l.take d++r::l.drop d
 | [],d,_,_,_,_=>by simp[xA]
 | x::t,0,hp,hn,_,h2=>by
  have:=h2 x rfl;unfold xA;rw[if_pos (by omega),if_pos (bne_iff_ne.2 (hn x (by simp))),Es λy hy=>hn y (mem_cons_of_mem _ hy)];rfl
 | x::t,d+1,hp,hn,h1,h2=>by
  have a1:=h1 x (by simp);have a2:=hn x (by simp)
  unfold xA;rw[if_neg (by omega),Mo (d:=d) (pairwise_cons.1 hp).2 (λy hy=>hn y (mem_cons_of_mem _ hy)) (λy hy=>h1 y (by rw[take_succ_cons];exact mem_cons_of_mem _ hy)) (λy hy=>h2 y (by simpa using hy))];rfl
theorem SZ {v:wz} (r:vP) (h1:v.1.length<=1000) (h2:v.2.length<=1000):aL v r=some (xA r false v.1,v.2):=by
 unfold aL;rw[vF (by show 0+v.2.length<=_;omega),an];obtain⟨b,e1,e2⟩:=vR (β:=Bool×List vP) (step:=λz:Bool×Int×List vP=>aD v r z.1 z.2.1 z.2.2)
  (λk z=>z.2.1=(k:Int)/\z.2.2++xA r z.1 (v.1.drop k)=xA r false v.1/\z.2.2.length<=2*k) v.1.length
  (λz=>z.2++xA r z.1 []=xA r false v.1/\z.2.length<=2000)
  (λk z hk ⟨z1,z2,z3⟩=>by
   obtain⟨dn,i,out⟩:=z;simp only at z1 z2 z3;subst z1;left;have hd:v.1.drop k=v.1[k]::v.1.drop (k+1):=drop_eq_getElem_cons hk
   have hw:vA ((k:Int)+1)=((k+1:Nat):Int):=vK (by omega);have ha:∀(x:vP),vS out [x]=some (out++[x]):=λx=>vF (by show _+1<=_;omega)
   have hb:∀(x y:vP),vS (out++[x]) [y]=some (out++[x]++[y]):=λx y=>vF (by simp only[length_append,length_cons,length_nil];omega);rw[hd]at z2;generalize hG:xA r false v.1=G at z2 ⊢;unfold aD;simp only[wm (show (k:Int)<(v.1.length:Int) by omega),cT,vL hk,an,ha,hb,hw];cases dn with
   | true =>
    simp only[Bool.not_true,cF,an];unfold xA at z2;cases hq:(v.1[k].1 != r.1)with
    | true =>
     rw[hq]at z2;exact⟨_,rfl,rfl,by simpa using z2,by simp;omega⟩
    | false =>
     rw[hq]at z2;exact⟨_,rfl,rfl,by simpa using z2,by simp;omega⟩
   | false =>
    simp only[Bool.not_false,cT,an];unfold xA at z2;by_cases hg:v.1[k].1>=r.1
    · rw[if_pos hg]at z2;simp only[dT hg,cT];cases hq:(v.1[k].1 != r.1)with
      | true =>
       rw[hq]at z2;exact⟨_,rfl,rfl,by simpa using z2,by simp;omega⟩
      | false =>
       rw[hq]at z2;exact⟨_,rfl,rfl,by simpa using z2,by simp;omega⟩
    · rw[if_neg hg]at z2;simp only[dF hg,cF,bne_iff_ne.2 (show v.1[k].1≠r.1 by omega),cT];exact⟨_,rfl,rfl,by simpa using z2,by simp;omega⟩)
  (λz ⟨z1,z2,z3⟩=>by
   obtain⟨dn,i,out⟩:=z;simp only at z1 z2 z3;subst z1;rw[List.drop_length]at z2;refine⟨(dn,out),?_,z2,by show out.length<=2000;have:out.length<=2*v.1.length:=z3;omega⟩;unfold aD;rw[wg (by omega),cF]) (x:=(false,0,[])) ⟨rfl,rfl,by simp⟩
 rw[e1,an];obtain⟨dn,out⟩:=b;simp only at e2 ⊢;cases dn with
 | true =>
  rw[Bool.not_true,cF,←e2.1];simp[xA]
 | false =>
  rw[Bool.not_false,cT,vF (by show _+1<=_;omega),an,←e2.1];rfl
theorem Qf {v:wz} (r:vP) (h1:v.1.length<=1000) (h2:v.2.length<=1000) (hp:v.1.Pairwise λr s=>r.1<s.1):gl v r=some (xA r false v.1,v.2):=by
 unfold gl;have hM:M=1048576:=rfl
 rw[HQ ⟨by omega,by omega⟩,an,CZ (by omega),an];by_cases hr:xT v.1 r.1>=0
 · obtain⟨k,hk,e1,e2⟩:=Cp hr;have hx:ix v.1.length (k:Int)=some k:=by unfold ix;rw[if_pos (by omega),if_pos (by omega),Int.toNat_natCast]
   rw[dT hr,cT,e1,hx,an,List.getElem?_eq_getElem hk,an,HT hk hp e2]
 · rw[dF hr,cF];have hn:=NG (by omega:xT v.1 r.1<0)
   obtain⟨d,e1,k,hk,rfl,e3,e4⟩:=vR (β:=Int) (step:=λz=>iW v r z)
    (λk z=>z=(k:Int)/\∀x∈v.1.take k,x.1<=r.1) v.1.length
    (λz=>∃k:Nat,k<=v.1.length/\z=(k:Int)/\(∀x∈v.1.take k,x.1<=r.1)/\(∀x,v.1[k]?=some x->¬x.1<=r.1))
    (λk z hk ⟨z1,z2⟩=>by
     subst z1;unfold iW;simp only[wm (show (k:Int)<(v.1.length:Int) by omega),cT,vL hk,an];by_cases hq:v.1[k].1<=r.1
     · refine .inl ⟨_,by rw[dT hq,cT],vK (by omega),λx hx=>?_⟩;rw[take_add_one,List.getElem?_eq_getElem hk,mem_append]at hx;rcases hx with hx|hx
       · exact z2 x hx
       · simp at hx;subst hx;exact hq
     · refine .inr ⟨_,by rw[dF hq,cF],k,by omega,rfl,z2,λx hx=>?_⟩;rw[List.getElem?_eq_getElem hk]at hx;cases hx;exact hq)
    (λz ⟨z1,z2⟩=>by
     subst z1;refine⟨(v.1.length:Int),?_,v.1.length,Nat.le_refl _,rfl,z2,λx hx=>?_⟩
     · unfold iW;rw[wg (by omega),cF];rfl
     · rw[List.getElem?_eq_none (Nat.le_refl _)]at hx;cases hx) (x:=0) ⟨rfl,by simp⟩
   rw[e1,an,show (0:Int)=((0:Nat):Int)from rfl,yw (Nat.zero_le _) hk,an,drop_zero];have hl:(v.1.take k).length<=1000:=by rw[length_take];omega
   rw[vF (by simp only[length_nil];omega),an,nil_append,vF (by simp only[length_cons,length_nil];omega),an,yw hk (Nat.le_refl _),an,take_length,vF (by simp only[length_append,length_cons,length_nil,length_drop];omega),an,Mo hp hn e3 e4];simp

def T0 (b:vw) (m s:Option (vw×Int)):Prop:=∃r,m=some r/\s=some r/\zF r.1/\(r.2≠0->r.1=b)
theorem CC {n a b:Nat} (h1:a<=b) (h2:b<=n):xR n (a:Int) (b:Int)=some (a,b):=by
 unfold xR;rw[if_pos (by omega),if_pos (by omega),if_pos (by omega)];simp
theorem Qg {v:wz} (id:Int) (h1:v.1.length<=1000) (h2:v.2.length<=1000) {k:Nat} (hk:k<v.1.length) (e:xT v.1 id=(k:Int)):gm v id=some (v.1.eraseIdx k,v.2):=by
 unfold gm;have hM:M=1048576:=rfl
 have hw:vA ((k:Int)+1)=((k+1:Nat):Int):=vK (by omega);rw[HQ ⟨by omega,by omega⟩,an,CZ (by omega),an,e,dT (by omega),cT,hw,show (0:Int)=((0:Nat):Int)from rfl,yw (Nat.zero_le _) (by omega),an,vF (by simp only[length_nil,length_drop,length_take];omega),an,yw (by omega) (Nat.le_refl _),an,vF (by simp only[length_append,length_nil,length_drop,length_take];omega),an,List.eraseIdx_eq_take_drop_succ];simp
theorem Jb {r:vP} {l:List vP} (hs:l.Pairwise λr s=>r.1<s.1) (hi:∀x∈l,vE x.1 1 99=true) (hh:∀x∈l,-9223372036854775808<=x.2.2/\x.2.2<=9223372036854775807)
 (ri:vE r.1 1 99=true) (rh:-9223372036854775808<=r.2.2/\r.2.2<=9223372036854775807) :
 (xA r false l).Pairwise (λr s=>r.1<s.1)/\(∀x∈xA r false l,vE x.1 1 99=true)/\(∀x∈xA r false l,-9223372036854775808<=x.2.2/\x.2.2<=9223372036854775807):=by
 have hm:∀{dn:Bool} {l:List vP},∀x∈xA r dn l,x=r\/x∈l:=by
  intro dn l
  induction l generalizing dn with
  | nil=>intro x hx;cases dn<;>simp[xA]at hx;exact .inl hx
  | cons y t ih =>
   intro x hx;cases dn with
   | true =>
    unfold xA at hx;split at hx
    · rcases mem_cons.1 hx with rfl|hx
      · exact .inr (by simp)
      · rcases ih x hx with e|e
        · exact .inl e
        · exact .inr (mem_cons_of_mem _ e)
    · rcases ih x hx with e|e
      · exact .inl e
      · exact .inr (mem_cons_of_mem _ e)
   | false =>
    unfold xA at hx;split at hx
    · rcases mem_cons.1 hx with rfl|hx
      · exact .inl rfl
      · split at hx
        · rcases mem_cons.1 hx with rfl|hx
          · exact .inr (by simp)
          · rcases ih x hx with e|e
            · exact .inl e
            · exact .inr (mem_cons_of_mem _ e)
        · rcases ih x hx with e|e
          · exact .inl e
          · exact .inr (mem_cons_of_mem _ e)
    · rcases mem_cons.1 hx with rfl|hx
      · exact .inr (by simp)
      · rcases ih x hx with e|e
        · exact .inl e
        · exact .inr (mem_cons_of_mem _ e)
 have hp:∀{l:List vP},l.Pairwise (λr s=>r.1<s.1)->(xA r false l).Pairwise (λr s=>r.1<s.1):=by
  intro l
  induction l with
  | nil=>intro _;simp[xA]
  | cons y t ih =>
   intro h;have h1:=(pairwise_cons.1 h).1
   have h2:=(pairwise_cons.1 h).2;unfold xA;split
   · next hy =>
     have ht:xA r true t=t:=Es λz hz=>by have:=h1 z hz;omega
     rw[ht];split
     · next hq =>
       have hq:=bne_iff_ne.1 hq;refine pairwise_cons.2 ⟨λz hz=>?_,h⟩;rcases mem_cons.1 hz with rfl|hz
       · omega
       · have:=h1 z hz;omega
     · next hq =>
       have hq:y.1=r.1:=by simpa using hq
       refine pairwise_cons.2 ⟨λz hz=>?_,h2⟩;have:=h1 z hz;omega
   · next hy =>
     refine pairwise_cons.2 ⟨λz hz=>?_,ih h2⟩;rcases hm z hz with rfl|hz
     · omega
     · exact h1 z hz
 refine⟨hp hs,λx hx=>?_,λx hx=>?_⟩
 · rcases hm x hx with rfl|hx
   · exact ri
   · exact hi x hx
 · rcases hm x hx with rfl|hx
   · exact rh
   · exact hh x hx
theorem Qh {r:vP} {dn:Bool} {l:List vP}:(xA r dn l).length<=l.length+1:=by
 induction l generalizing dn with
 | nil=>cases dn<;>simp[xA]
 | cons x t ih =>
  have h1:=ih (dn:=true);have h2:=ih (dn:=false)
  have h3:(xA r true t).length<=t.length:=by
   clear ih h1 h2
   induction t with
   | nil=>simp[xA]
   | cons y t ih=>unfold xA;split<;>simp<;>omega
  cases dn<;>unfold xA<;>split<;>(try split)<;>simp<;>omega
theorem zF.rows {b:vw} (h:zF b) {R:List vP} (h1:R.length<=6) (h2:R.Pairwise λr s=>r.1<s.1) (h3:∀x∈R,vE x.1 1 99=true) (h4:∀x∈R,-9223372036854775808<=x.2.2/\x.2.2<=9223372036854775807) :
 zF (b.1,b.2.1,b.2.2.1,b.2.2.2.1,R,b.2.2.2.2.2.1,b.2.2.2.2.2.2.1,b.2.2.2.2.2.2.2.1,b.2.2.2.2.2.2.2.2.1,b.2.2.2.2.2.2.2.2.2.1,b.2.2.2.2.2.2.2.2.2.2) :=
 ⟨h.id,h.name,h.n1,h.n6,h.p,h.f,h.c,h.q,h1,h2,h3,h4⟩
theorem IO {b:vw} (h:zF b):vE (b.2.2.1.length:Int) 1 6=true:=by
 have h1:=h.n1;have h2:=h.n6
 unfold vE;rw[dT (by omega),dT (by omega)];rfl
theorem RK {b:vw} (h:zF b) (c id n:Int) (hc:(c=1/\vE id 1 99=true)\/((c=2\/c=3)/\xT (zW b) id>=0)):T0 b (iX b c id n) (gR b c id n):=by
 have hv:=h.v;have hq:b.2.2.2.2.2.1.length<=6:=by have:=h.q;have:=h.n6;omega
 have hr:∀(id:Int),aj (b.2.2.2.2.1,b.2.2.2.2.2.1) id=some (xT (zW b) id):=λid=>CZ (v:=(b.2.2.2.2.1,b.2.2.2.2.2.1)) (by show b.2.2.2.2.1.length<_;omega) id;have hrs:∀(id:Int),aC (b.2.2.2.2.1,b.2.2.2.2.2.1) id=some (xT (zW b) id):=hr
 have hw:∀(r:vP),gl (b.2.2.2.2.1,b.2.2.2.2.2.1) r=some (xA r false b.2.2.2.2.1,b.2.2.2.2.2.1):=λr=>Qf (v:=(b.2.2.2.2.1,b.2.2.2.2.2.1)) r (by show b.2.2.2.2.1.length<=_;omega) (by show b.2.2.2.2.2.1.length<=_;omega) h.s;have hws:∀(r:vP),aL (b.2.2.2.2.1,b.2.2.2.2.2.1) r=some (xA r false b.2.2.2.2.1,b.2.2.2.2.2.1):=λr=>SZ (v:=(b.2.2.2.2.1,b.2.2.2.2.2.1)) r (by show b.2.2.2.2.1.length<=_;omega) (by show b.2.2.2.2.2.1.length<=_;omega)
 unfold iX gR;rw[hr,an];by_cases h1:c=1
 · subst h1;have hid:vE id 1 99=true:=by rcases hc with hc|hc;exact hc.2;rcases hc.1 with e|e<;>cases e
   unfold jo;rw[hrs];simp only[show ((1:Int)==1)=true from rfl,cT,an,hw,hws];by_cases hp:xT (zW b) id>=0
   · have hp':¬xT (zW b) id<0:=by omega
     simp only[dT hp,dF hp'];have e4:cond (n==4) (some false) (some false)=some false:=by cases (n==4)<;>rfl
     rw[e4];simp only[an,cF];cases hn:(n==6)with
     | false =>
      simp only[cF,an];exact⟨_,rfl,rfl,h,λ_=>rfl⟩
     | true =>
      obtain⟨k,hk,e1,e2⟩:=Cp hp;simp only[cT,an];have hk':k<b.2.2.2.2.1.length:=hk
      have hw64:vA (xT (zW b) id+1)=((k+1:Nat):Int):=by rw[e1];exact vK (by omega)
      have hwo:gm (b.2.2.2.2.1,b.2.2.2.2.2.1) id=some (b.2.2.2.2.1.eraseIdx k,b.2.2.2.2.2.1):=Qg (v:=(b.2.2.2.2.1,b.2.2.2.2.2.1)) id (by show b.2.2.2.2.1.length<=_;omega) (by show b.2.2.2.2.2.1.length<=_;omega) hk e1;have hso:(xR b.2.2.2.2.1.length 0 (xT (zW b) id)).bind (λp=>(vS ([]:List vP) ((b.2.2.2.2.1.take p.2).drop p.1)).bind λzs47=>(xR b.2.2.2.2.1.length (vA (xT (zW b) id+1)) (b.2.2.2.2.1.length:Int)).bind λp_1=>(vS zs47 ((b.2.2.2.2.1.take p_1.2).drop p_1.1)).bind λzs54=>some ((b.1,b.2.1,b.2.2.1,b.2.2.2.1,zs54,b.2.2.2.2.2.1,b.2.2.2.2.2.2.1,b.2.2.2.2.2.2.2.1,b.2.2.2.2.2.2.2.2.1,b.2.2.2.2.2.2.2.2.2.1,b.2.2.2.2.2.2.2.2.2.2),(0:Int)))
       = some ((b.1,b.2.1,b.2.2.1,b.2.2.2.1,b.2.2.2.2.1.eraseIdx k,b.2.2.2.2.2.1,b.2.2.2.2.2.2.1,b.2.2.2.2.2.2.2.1,b.2.2.2.2.2.2.2.2.1,b.2.2.2.2.2.2.2.2.2.1,b.2.2.2.2.2.2.2.2.2.2),0):=by
       rw[hw64,e1,show (0:Int)=((0:Nat):Int)from rfl,CC (Nat.zero_le _) (by omega),an,vF (by simp only[length_nil,length_drop,length_take];omega),an,CC (by omega) (Nat.le_refl _),an,vF (by simp only[length_append,length_nil,length_drop,length_take];omega),an,List.eraseIdx_eq_take_drop_succ];simp
      rw[hwo];refine⟨_,rfl,by rw[hso];rfl,h.rows ?_ ?_ ?_ ?_,λe=>absurd rfl e⟩
      · rw[List.length_eraseIdx];split<;>omega
      · exact h.s.sublist (List.eraseIdx_sublist _ _)
      · exact λx hx=>h.i x (List.mem_of_mem_eraseIdx hx)
      · exact λx hx=>h.h x (List.mem_of_mem_eraseIdx hx)
   · have hp':xT (zW b) id<0:=by omega
     simp only[dF hp,dT hp'];have e6:cond (n==6) (some false) (some false)=some false:=by cases (n==6)<;>rfl
     rw[e6];cases hn:(n==4)with
     | false =>
      simp only[cF,an];exact⟨_,rfl,rfl,h,λ_=>rfl⟩
     | true =>
      simp only[cT,an];by_cases h6:(b.2.2.2.2.1.length:Int)<6
      · simp only[dT h6,cT];obtain⟨g1,g2,g3⟩:=Jb (r:=(id,0,0)) h.s h.i h.h hid ⟨by show (-9223372036854775808:Int)<=0;decide,by show (0:Int)<=9223372036854775807;decide⟩;have:=Qh (r:=(id,0,0)) (dn:=false) (l:=b.2.2.2.2.1)
        exact⟨_,rfl,rfl,h.rows (by omega) g1 g2 g3,λe=>absurd rfl e⟩
      · simp only[dF h6,cF,an];exact⟨_,rfl,rfl,h,λ_=>rfl⟩
 · have h23:c=2\/c=3:=by rcases hc with hc|hc;exact absurd hc.1 h1;exact hc.1
   have hp:xT (zW b) id>=0:=by rcases hc with hc|hc;exact absurd hc.1 h1;exact hc.2
   obtain⟨k,hk,e1,e2⟩:=Cp hp;have hk':k<b.2.2.2.2.1.length:=hk
   obtain⟨t,q1,q2⟩:=Nr (IO h);rw[show (c==1)=false from beq_eq_false_iff_ne.2 h1];simp only[cF,JJ (IO h),q1,an,yB,AG,q2];cases hn:vE n 0 (xZ (b.2.2.1.length:Int))with
   | false=>exact⟨_,rfl,rfl,h,λ_=>rfl⟩
   | true =>
    have ht:=(K0 (IO h)).2;have hnr:-9223372036854775808<=n/\n<=9223372036854775807:=by
     unfold vE at hn;simp only[aT,decide_eq_true_eq]at hn;omega
    have hx:ix b.2.2.2.2.1.length (k:Int)=some k:=xJ hk';rw[hrs];simp only[Bool.not_true,cF,an,e1,hx,List.getElem?_eq_getElem hk',hws];have hin:∀(r:vP),r.1=b.2.2.2.2.1[k].1->xA r false b.2.2.2.2.1=b.2.2.2.2.1.set k r:=λr e=>HT hk' h.s e.symm
    have hki:=h.i _ (getElem_mem hk');have hkh:=h.h _ (getElem_mem hk')
    have hlen:∀(r:vP),r.1=b.2.2.2.2.1[k].1->(xA r false b.2.2.2.2.1).length<=6:=λr e=>by rw[hin r e,length_set];exact hv
    rcases h23 with rfl|rfl
    · simp only[show ((2:Int)==2)=true from rfl,cT];obtain⟨g1,g2,g3⟩:=Jb (r:=(b.2.2.2.2.1[k].1,n,b.2.2.2.2.1[k].2.2)) h.s h.i h.h hki hkh;refine⟨_,rfl,?_,?_,λe=>absurd rfl e⟩
      · rw[hin (b.2.2.2.2.1[k].1,n,b.2.2.2.2.1[k].2.2) rfl]
      · rw[←hin (b.2.2.2.2.1[k].1,n,b.2.2.2.2.1[k].2.2) rfl];exact h.rows (hlen _ rfl) g1 g2 g3
    · simp only[show ((3:Int)==2)=false from rfl,cF];obtain⟨g1,g2,g3⟩:=Jb (r:=(b.2.2.2.2.1[k].1,b.2.2.2.2.1[k].2.1,n)) h.s h.i h.h hki hnr;refine⟨_,rfl,?_,?_,λe=>absurd rfl e⟩
      · rw[hin (b.2.2.2.2.1[k].1,b.2.2.2.2.1[k].2.1,n) rfl]
      · rw[←hin (b.2.2.2.2.1[k].1,b.2.2.2.2.1[k].2.1,n) rfl];exact h.rows (hlen _ rfl) g1 g2 g3
theorem P8 {b:vw} {o:List Int} (h:HS b o=true):o=[1,3,1,1,1]\/(∃c p,o=[1,3,1,2,c,p]/\(c=2\/c=4)/\vE p 1 (yT b)=true)\/(∃c p,o=[1,3,1,3,c,p]/\((c=1/\vE p 1 99=true)\/((c=2\/c=3)/\xT (zW b) p>=0))):=by
 unfold HS at h;rw[aT]at h;obtain⟨h1,h2⟩:=h;unfold CB at h1;simp only[aT,decide_eq_true_eq,beq_iff_eq]at h1;have ho:o=[1,3,1]++o.drop 3:=by rw[←h1.2,List.take_append_drop]
 match hd:o.drop 3,h2 with
 | [a,c],h2 =>
  simp only[aT,beq_iff_eq]at h2;rw[hd]at ho;exact .inl (by rw[ho,h2.1,h2.2];rfl)
 | [a,c,p],h2 =>
  rw[hd]at ho;simp only[Bool.or_eq_true,aT,beq_iff_eq,decide_eq_true_eq]at h2;rcases h2 with ⟨rfl,h3,h4⟩|⟨rfl,h3⟩
  · exact .inr (.inl ⟨c,p,ho,h3,h4⟩)
  · exact .inr (.inr ⟨c,p,ho,h3⟩)
theorem T1 {b:vw} {p:Int} (h:vE p 1 (yT b)=true) (hn:b.2.2.1.length<=6):∃k,k<b.2.2.1.length/\vA (p-1)=(k:Int):=by
 unfold vE yT at h;simp only[aT,decide_eq_true_eq]at h;exact⟨(p-1).toNat,by omega,by rw[vW (by omega) (by omega)];omega⟩
theorem RL {p:Pt} {n:Int} (hn:vE n 1 1000=true) (h:zQ p=true):zQ (p.1,n,p.2.2.1,p.2.2.2.1,p.2.2.2.2.1,p.2.2.2.2.2.1,p.2.2.2.2.2.2.1,p.2.2.2.2.2.2.2)=true:=by
 unfold zQ at h ⊢;rw[aT]at h ⊢;exact⟨hn,h.2⟩
theorem T2 {b:vw} (h:zF b) {x:vB} (hx:x.1.length<=M):T0 b (dO b x) (fG b x):=by
 unfold dO fG;rw[V8 h.le hx,an,xe h.le,an,V9 h.le hx,an,RJ h];cases hm:HS b x.1 with
 | false =>
  rw[cF,Bool.not_false,cT,Ue h.le hx,Uf h.le hx,an,an,P7 h];cases IN b x.1 with
  | true=>exact⟨_,rfl,rfl,h,λ_=>rfl⟩
  | false=>exact⟨_,rfl,rfl,h,λ_=>rfl⟩
 | true =>
  obtain⟨o,kd,n,w,vo⟩:=x;rw[cT,Bool.not_true,cF];simp only;unfold jJ;rcases P8 hm with ho|⟨c,p,ho,hc,hp⟩|⟨c,p,ho,hc⟩
  · simp only at ho;subst ho;rw[show at? [1,3,1,1,1] 3=some (1:Int)from rfl,show cut [1,3,1,1,1] 3 (([1,3,1,1,1]:List Int).length:Int)=some ([1,1]:List Int)from rfl];simp only[an,show at? [1,1] 0=some (1:Int)from rfl,show ((1:Int)==1)=true from rfl,cT,Bool.not_true,cF];cases (kd != 4)with
    | true=>exact⟨_,rfl,rfl,h,λ_=>rfl⟩
    | false =>
     simp only[cF,an];by_cases hw:(w.length:Int)>10
     · simp only[dT hw,cT];exact⟨_,rfl,rfl,h,λ_=>rfl⟩
     · simp only[dF hw,cF];exact⟨_,rfl,rfl,⟨h.id,by show w.length<=10;omega,h.n1,h.n6,h.p,h.f,h.c,h.q,h.v,h.s,h.i,h.h⟩,λe=>absurd rfl e⟩
  · simp only at ho;subst ho;rw[show at? [1,3,1,2,c,p] 3=some (2:Int)from rfl,show at? [1,3,1,2,c,p] 4=some c from rfl,show at? [1,3,1,2,c,p] 5=some p from rfl,show cut [1,3,1,2,c,p] 3 (([1,3,1,2,c,p]:List Int).length:Int)=some ([2,c,p]:List Int)from rfl];simp only[an,show at? [2,c,p] 0=some (2:Int)from rfl,show at? [2,c,p] 1=some c from rfl,show at? [2,c,p] 2=some p from rfl,show ((2:Int)==1)=false from rfl,show ((2:Int)==2)=true from rfl,show ((2:Int)==3)=false from rfl,cT,Bool.not_false,cF];cases (kd != 2)with
    | true=>exact⟨_,rfl,rfl,h,λ_=>rfl⟩
    | false =>
     obtain⟨k,hk,ek⟩:=T1 hp h.n6;simp only[cF,an,ek];unfold jn;have hx1:ix b.2.2.1.length (k:Int)=some k:=xJ hk
     have hx2:ix b.2.2.2.2.2.1.length (k:Int)=some k:=xJ (by rw[h.q];exact hk);have hk2:k<b.2.2.2.2.2.1.length:=by rw[h.q];exact hk
     simp only[yB,AG,an,hx1,hx2,List.getElem?_eq_getElem hk,List.getElem?_eq_getElem hk2];rcases hc with rfl|rfl
     · simp only[show ((2:Int)==2)=true from rfl,cT];cases hn:vE n 1 1000 with
       | false=>exact⟨_,rfl,rfl,h,λ_=>rfl⟩
       | true =>
        exact⟨_,rfl,rfl,⟨h.id,h.name,by simp only[length_set];exact h.n1,by simp only[length_set];exact h.n6,λy hy=>by
         rcases List.mem_or_eq_of_mem_set hy with e|rfl
         · exact h.p y e
         · exact RL hn (h.p _ (getElem_mem hk)),h.f,h.c,by simp only[length_set];exact h.q,h.v,h.s,h.i,h.h⟩,λe=>absurd rfl e⟩
     · simp only[show ((4:Int)==2)=false from rfl,cF];exact⟨_,rfl,rfl,⟨h.id,h.name,h.n1,h.n6,h.p,h.f,h.c,by simp only[length_set];exact h.q,h.v,h.s,h.i,h.h⟩,λe=>absurd rfl e⟩
  · simp only at ho;subst ho;rw[show at? [1,3,1,3,c,p] 3=some (3:Int)from rfl,show at? [1,3,1,3,c,p] 4=some c from rfl,show at? [1,3,1,3,c,p] 5=some p from rfl,show cut [1,3,1,3,c,p] 3 (([1,3,1,3,c,p]:List Int).length:Int)=some ([3,c,p]:List Int)from rfl];simp only[an,show at? [3,c,p] 0=some (3:Int)from rfl,show at? [3,c,p] 1=some c from rfl,show at? [3,c,p] 2=some p from rfl,show ((3:Int)==1)=false from rfl,show ((3:Int)==2)=false from rfl,show ((3:Int)==3)=true from rfl,cT,Bool.not_false,cF];cases (kd != 2)with
    | true=>exact⟨_,rfl,rfl,h,λ_=>rfl⟩
    | false =>
     simp only[cF,an];obtain⟨r,r1,r2,r3,r4⟩:=RK h c p n hc;exact⟨r,by rw[r1];rfl,by rw[r2];rfl,r3,r4⟩

theorem HU {α β:Type} {step t:α->Option (α⊕β)} (wB:Nat->α->Prop) (m:Nat) (R:β->Prop)
 (h:∀k x,k<m->wB k x->(∃y,step x=some (.inl y)/\t x=some (.inl y)/\wB (k+1) y)\/∃b,step x=some (.inr b)/\t x=some (.inr b)/\R b)
 (he:∀x,wB m x->∃b,step x=some (.inr b)/\t x=some (.inr b)/\R b) {x:α} (h0:wB 0 x):∃b,loop step x=some b/\loop t x=some b/\R b:=by
 have key:∀n k x,k+n=m->wB k x->∃b,ze step (n+1) x=some b/\ze t (n+1) x=some b/\R b:=by
  intro n
  induction n with
  | zero =>
   intro k x hk hx;obtain rfl:k=m:=by omega
   obtain⟨b,h1,h3,h2⟩:=he x hx;exact⟨b,by rw[xj,h1];rfl,by rw[xj,h3];rfl,h2⟩
  | succ n ih =>
   intro k x hk hx;rcases h k x (by omega) hx with ⟨y,h1,h5,h2⟩|⟨b,h1,h5,h2⟩
   · obtain⟨b,h3,h6,h4⟩:=ih (k+1) y (by omega) h2;exact⟨b,by rw[xj,h1];exact h3,by rw[xj,h5];exact h6,h4⟩
   · exact⟨b,by rw[xj,h1];rfl,by rw[xj,h5];rfl,h2⟩
 obtain⟨b,h1,h3,h2⟩:=key m 0 x (by omega) h0;exact⟨b,A2 h1,A2 h3,h2⟩
theorem Hc {l:List vD} (h:AX l=true):FB l:=by
 unfold AX at h;simp only[aT,Bool.not_eq_true',decide_eq_true_eq]at h;refine⟨λx hx=>?_,FS (R:=lt) (λ_ _ _=>lt_trans) λk hk=>?_,by omega⟩
 · obtain⟨k,hk,rfl⟩:=getElem_of_mem hx;have hx:=any_eq_false.1 h.1 k (mem_range.2 hk)
   unfold B2 at hx;simp only[List.getElem?_eq_getElem hk,Bool.or_eq_true,not_or,Bool.not_eq_true',Bool.not_eq_false]at hx;exact hx.1
 · have hx:=any_eq_false.1 h.1 (k+1) (mem_range.2 hk);unfold B2 at hx;simp only[List.getElem?_eq_getElem hk,Nat.add_sub_cancel,List.getElem?_eq_getElem (show k<l.length by omega),Bool.or_eq_true,aT,decide_eq_true_eq,not_or,not_and,Bool.not_eq_true',Bool.not_eq_false]at hx;have hp:=hx.2 (by omega)
   unfold xQ at hp;simp only[Bool.or_eq_true,aT,decide_eq_true_eq,beq_iff_eq]at hp;unfold lt;omega
theorem FB.sub {l m:List vD} (h:FB l) (hs:m.Sublist l):FB m :=
 ⟨λx hx=>h.e x (hs.subset hx),h.o.sublist hs,Nat.le_trans hs.length_le h.n⟩
def BL (l:List vD) (p:Int):List vD:=l.filter λe=>e.2.2.2.2||e.2.2.1 != p
theorem IP {l:List vD} (p:Int) (hn:l.length<=1000) (step:Int×List vD->Option ((Int×List vD)⊕List vD))
 (hs:∀k (hk:k<l.length) out,step ((k:Int),out)=cond (l[k].2.2.2.2||l[k].2.2.1 != p) ((vS out [l[k]]).bind λzs=>some (.inl (((k+1:Nat):Int),zs))) (some (.inl (((k+1:Nat):Int),out))))
 (he:∀out,step ((l.length:Int),out)=some (.inr out)):loop step (0,[])=some (BL l p):=by
 obtain⟨b,h1,rfl⟩:=vR (step:=step) (λk z=>z.1=(k:Int)/\z.2=BL (l.take k) p) l.length (λb=>b=BL l p)
  (λk z hk ⟨z1,z2⟩=>by
   obtain⟨i,out⟩:=z;simp only at z1 z2;subst z1 z2;left;have hl:(BL (l.take k) p).length<=k:=by
    have:=(List.filter_sublist (p:=λe:vD=>e.2.2.2.2||e.2.2.1 != p) (l:=l.take k)).length_le;rw[length_take]at this;show (List.filter _ _).length<=k
    omega
   have ht:BL (l.take (k+1)) p=BL (l.take k) p++cond (l[k].2.2.2.2||l[k].2.2.1 != p) [l[k]] []:=by
    unfold BL;rw[take_add_one,List.getElem?_eq_getElem hk,List.filter_append];rw[Option.toList_some,List.filter_cons,List.filter_nil];cases (l[k].2.2.2.2||l[k].2.2.1 != p)<;>rfl
   rw[hs k hk];cases hc:(l[k].2.2.2.2||l[k].2.2.1 != p)with
   | true =>
    rw[hc]at ht;exact⟨_,by rw[cT,vF (by show _+1<=_;omega)];rfl,rfl,by rw[ht];rfl⟩
   | false =>
    rw[hc]at ht;exact⟨_,rfl,rfl,by rw[ht];simp⟩)
  (λz ⟨z1,z2⟩=>by
   obtain⟨i,out⟩:=z;simp only at z1 z2;subst z1 z2;exact⟨_,he _,by rw[take_length]⟩) (x:=(0,[])) ⟨rfl,rfl⟩
 exact h1
theorem T3 {l:List vD} (p:Int) (hn:l.length<=1000):iZ l p=some (BL l p):=by
 unfold iZ;rw[IP p hn (λz=>fi l p z.1 z.2) (λk hk out=>by
  show fi l p (k:Int) out=_;unfold fi;rw[wm (by omega),cT,vL hk,an,vK (by omega)];cases l[k].2.2.2.2<;>rfl) (λout=>by
  show fi l p (l.length:Int) out=_;unfold fi;rw[wg (by omega),cF])];rfl
theorem RM {l:List vD} (p:Int) (hn:l.length<=1000):iI l p=some (BL l p):=by
 unfold iI;rw[IP p hn (λz=>eS l p z.1 z.2) (λk hk out=>by
  show eS l p (k:Int) out=_;unfold eS;rw[wm (by omega),cT,vL hk,an,an,an,vK (by omega)];cases l[k].2.2.2.2<;>rfl) (λout=>by
  show eS l p (l.length:Int) out=_;unfold eS;rw[wg (by omega),cF])];rfl
theorem P9:∀k:Nat,k<6->vE (k:Int) 0 62=true/\vE (k:Int) 0 7=true:=by
 intro k hk;unfold vE;constructor<;>(rw[dT (by omega),dT (by omega)];rfl)
theorem Va (c:Int) {k:Nat} (hk:k<6):∃t,shr .i64 c (k:Int)=some t:=by
 unfold shr;rw[if_neg (by omega)];exact⟨_,rfl⟩
theorem HV (c:Int) {k:Nat} (hk:k<6):∃t,ay c (k:Int)=some t/\aX c (k:Int)=some t:=by
 obtain⟨t,h⟩:=Va c hk;unfold ay aX;rw[yB,AG,an,an,(P9 k hk).1,(P9 k hk).2,cT,cT,FQ (by omega),h];exact⟨_,rfl,rfl⟩
theorem K4 {n:Int} (h:vE n 0 1000000=true):∃r,az n=some r/\aK n=some r/\vE r 0 1000000=true:=by
 unfold vE at h;simp only[aT,decide_eq_true_eq]at h;unfold az aK vE min2;rw[vW (by omega) (by omega)];by_cases hn:n>=1000000
 · rw[dT hn,cT];refine⟨n,?_,rfl,?_⟩
   · simp only;split<;>first|rfl | (congr 1;omega)
   · simp only[aT,decide_eq_true_eq];omega
 · rw[dF hn,cF];refine⟨n+1,?_,rfl,?_⟩
   · simp only;split<;>first|rfl | (congr 1;omega)
   · simp only[aT,decide_eq_true_eq];omega
theorem zF.ok {b:vw} (h:zF b) (hv:yK (b.2.2.2.2.1,b.2.2.2.2.2.1) (b.2.2.1.length:Int)=true):wq b=true:=by
 unfold wq;have h1:(List.range b.2.2.1.length).any (DY b.2.2.1)=false:=by
  rw[any_eq_false];intro k hk;have hk:=mem_range.1 hk
  unfold DY;simp[List.getElem?_eq_getElem hk,h.p _ (getElem_mem hk)]
 have h2:=h.name;rw[h1,h.id,h.f,hv,h.c,IO h,dF (show ¬(b.2.1.length:Int)>10 by omega)];rfl
theorem QJ {b:vw} (h:zF b):∃r,aI b=some r/\bC b=some r/\zF r/\r.2.2.1=b.2.2.1/\r.2.2.2.2.1=b.2.2.2.2.1/\r.2.2.2.2.2.1=b.2.2.2.2.2.1/\r.1=b.1/\r.2.1=b.2.1/\r.2.2.2.2.2.2.1=b.2.2.2.2.2.2.1/\r.2.2.2.2.2.2.2.1=b.2.2.2.2.2.2.2.1/\r.2.2.2.2.2.2.2.2.1=b.2.2.2.2.2.2.2.2.1/\r.2.2.2.2.2.2.2.2.2.1=b.2.2.2.2.2.2.2.2.2.1/\az b.2.2.2.2.2.2.2.2.2.2=some r.2.2.2.2.2.2.2.2.2.2:=by
 have n6:=h.n6;have hc:=h.c
 unfold ya at hc;simp only[aT]at hc;obtain⟨v,v1,v2,v3⟩:=K4 hc.2.2.2.2;obtain⟨c,_,c1,c2⟩:=Lh b.1 (l:=b.2.2.1) (by omega);unfold aI bC;rw[v1,v2,c1,c2];simp only[an];have hF:=Hc h.f
 obtain⟨d,d1,d2,F,hf,rfl⟩:=HU (step:=λz:Int×Int×List UInt8×Int×Int×Int×Int×Int×List vD=>ja b (c:Int) z.1 z.2.1 z.2.2.1 z.2.2.2.1 z.2.2.2.2.1 z.2.2.2.2.2.1 z.2.2.2.2.2.2.1 z.2.2.2.2.2.2.2.1 z.2.2.2.2.2.2.2.2)
  (t:=λz:Int×Int×List UInt8×Int×Int×Int×Int×Int×List vD=>iJ b (c:Int) z.1 z.2.1 z.2.2.1 z.2.2.2.1 z.2.2.2.2.1 z.2.2.2.2.2.1 z.2.2.2.2.2.2.1 z.2.2.2.2.2.2.2.1 z.2.2.2.2.2.2.2.2)
  (λk z=>∃F:List vD,F.Sublist b.2.2.2.1/\z=((k:Int),b.1,b.2.1,b.2.2.2.2.2.2.1,b.2.2.2.2.2.2.2.1,b.2.2.2.2.2.2.2.2.1,b.2.2.2.2.2.2.2.2.2.1,v,F)) b.2.2.1.length
  (λd=>∃F:List vD,F.Sublist b.2.2.2.1/\d=(b.1,b.2.1,b.2.2.2.2.2.2.1,b.2.2.2.2.2.2.2.1,b.2.2.2.2.2.2.2.2.1,b.2.2.2.2.2.2.2.2.2.1,v,F))
  (λk z hk ⟨F,hf,e⟩=>by
   subst e;left;obtain⟨t,t1,t2⟩:=HV (c:Int) (show k<6 by omega);have hl:F.length<=1000:=by have:=hf.length_le;have:=hF.n;omega
   simp only;unfold ja iJ;rw[wm (show (k:Int)<(b.2.2.1.length:Int) by omega),cT,cT,t1,t2,an,an,T3 _ hl,RM _ hl,vK (show k<9223372036854775807 by omega)];cases t with
   | true=>exact⟨_,rfl,rfl,F,hf,rfl⟩
   | false=>exact⟨_,rfl,rfl,BL F (k:Int),List.Sublist.trans List.filter_sublist hf,rfl⟩)
  (λz ⟨F,hf,e⟩=>by
   subst e;simp only;unfold ja iJ;rw[wg (show ¬(b.2.2.1.length:Int)<(b.2.2.1.length:Int) by omega),cF,cF];exact⟨_,rfl,rfl,F,hf,rfl⟩) (x:=(0,b.1,b.2.1,b.2.2.2.2.2.2.1,b.2.2.2.2.2.2.2.1,b.2.2.2.2.2.2.2.2.1,b.2.2.2.2.2.2.2.2.2.1,v,b.2.2.2.1)) ⟨_,List.Sublist.refl _,rfl⟩
 rw[d1,d2];refine⟨_,rfl,rfl,⟨h.id,h.name,h.n1,h.n6,h.p,(hF.sub hf).ok,?_,h.q,h.v,h.s,h.i,h.h⟩,rfl,rfl,rfl,rfl,rfl,rfl,rfl,rfl,rfl,rfl⟩;unfold ya;simp only[aT];exact⟨hc.1,hc.2.1,hc.2.2.1,hc.2.2.2.1,v3⟩
theorem K5 {b:vw} (h:zF b):∃r,aI b=some r/\bC b=some r/\zF r/\r.2.2.1=b.2.2.1/\r.2.2.2.2.1=b.2.2.2.2.1/\r.2.2.2.2.2.1=b.2.2.2.2.2.1:=by
 obtain⟨r,h1,h2,h3,h4,h5,h6,_⟩:=QJ h;exact⟨r,h1,h2,h3,h4,h5,h6⟩
theorem Qi {α:Type} [BEq α] [LawfulBEq α] (a b:α):(a==b)=(b==a):=by
 by_cases h:a=b
 · subst h;rfl
 · rw[beq_eq_false_iff_ne.2 h,beq_eq_false_iff_ne.2 (Ne.symm h)]

abbrev T4:=Int×Int×Int×List UInt8×Int×Int×Int×Int×Int×List Pt×List vD×List vP×List Int
abbrev UA:=Int×List UInt8×Int×Int×Int×Int×Int
def T5 (c k:Int) (b:vw):T4:=(c,k,b.1,b.2.1,b.2.2.2.2.2.2.1,b.2.2.2.2.2.2.2.1,b.2.2.2.2.2.2.2.2.1,b.2.2.2.2.2.2.2.2.2.1,b.2.2.2.2.2.2.2.2.2.2,b.2.2.1,b.2.2.2.1,b.2.2.2.2.1,b.2.2.2.2.2.1)
theorem T6 {b:vw} (hb:z7 M b) {l:List vB} (hl:D9 M l) {k:Nat} (hk:k<l.length) (s:UA) :
 ∃r:UA⊕T4,loop (λz=>gp b (k:Int) l[k] (l.take k) z.1 z.2.1 z.2.2.1 z.2.2.2.1 z.2.2.2.2.1 z.2.2.2.2.2.1 z.2.2.2.2.2.2.1 z.2.2.2.2.2.2.2) (0,s)=some r
  /\ loop (λz=>fH b l (k:Int) z.1 z.2.1 z.2.2.1 z.2.2.2.1 z.2.2.2.2.1 z.2.2.2.2.2.1 z.2.2.2.2.2.2.1 z.2.2.2.2.2.2.2) (0,s)=some r/\((r=.inl s/\∀j (hj:j<k),l[j].1≠l[k].1)\/(r=.inr (T5 5 ((k+1:Nat):Int) b)/\∃j,∃hj:j<k,l[j].1=l[k].1)):=by
 obtain⟨a0,a1,a6,a7,a8,a9,a10⟩:=s;have hn:l.length<=1048576:=hl.1
 refine HU (λj z=>z=((j:Int),a0,a1,a6,a7,a8,a9,a10)/\∀i (hi:i<k),i<j->l[i].1≠l[k].1) k _ (λj z hj ⟨e,hne⟩=>?_) (λz ⟨e,hne⟩=>?_) ⟨rfl,λi _ hi=>absurd hi (Nat.not_lt_zero _)⟩
 · subst e;have ht:j<(l.take k).length:=by rw[length_take];omega
   have hg:(l.take k)[j]=l[j]:=List.getElem_take;have hw:∀i,i<l.length->∀(hi:i<l.length),l[i].1.length<9223372036854775807:=λi h1 h2=>by have:l[i].1.length<=1048576:=(hl.2 _ (getElem_mem h2)).1;omega
   have s1:aA l[k].1 l[j].1=some (l[k].1==l[j].1):=Cn (hw j (by omega) (by omega));have s2:dk l[j].1 l[k].1=some (l[k].1==l[j].1):=by rw[Qi];exact Cn (hw k hk hk)
   simp only;unfold gp fH;rw[wm (show (j:Int)<((l.take k).length:Int) by omega),wm (show (j:Int)<(k:Int) by omega),cT,cT,vL ht,hg,vL (show j<l.length by omega),vL hk];simp only[an,s1,s2];cases hb2:(l[k].1==l[j].1)with
   | true =>
    right;rw[x7 hb,xe hb];exact⟨_,rfl,by rw[vK (show k<9223372036854775807 by omega)];rfl,.inr ⟨by rw[vK (show k<9223372036854775807 by omega)];rfl,j,hj,(beq_iff_eq.1 hb2).symm⟩⟩
   | false =>
    left;refine⟨_,rfl,rfl,by rw[vK (show j<9223372036854775807 by omega)],λi hi hij=>?_⟩;by_cases e:i=j
    · subst e;exact λe=>(beq_eq_false_iff_ne.1 hb2) e.symm
    · exact hne i hi (by omega)
 · subst e;have ht:(l.take k).length=k:=by rw[length_take];omega
   refine⟨.inl (a0,a1,a6,a7,a8,a9,a10),?_,?_,.inl ⟨rfl,λj hj=>hne j hj hj⟩⟩
   · show gp b _ _ _ _ _ _ _ _ _ _ _=_;unfold gp;rw[ht,wg (by omega),cF]
   · show fH b _ _ _ _ _ _ _ _ _ _=_;unfold fH;rw[wg (by omega),cF]
theorem wj {α β:Type} {step:α->Option (α⊕β)} {x:α} {b:β} (h:step x=some (.inr b)):loop step x=some b:=A2 (k:=1) (by rw[xj,h];rfl)
inductive Et (b:vw):List vB->vw->Prop
 | nil:Et b [] b
 | snoc {l:List vB} {y y':vw} {x:vB}:Et b l y->zF y->dO y x=some (y',0)->Et b (l++[x]) y'
def QK (b:vw) (l:List vB) (c:Int):Prop:=(wq b=false/\c=3)\/(∃k y,∃hk:k<l.length,Et b (l.take k) y/\zF y/\(((∃j,∃hj:j<k,l[j].1=l[k].1)/\c=5)\/∃y',dO y l[k]=some (y',c)))\/∃y,Et b l y/\c=5
theorem Jc {b:vw} (h:yb b) (hb:z7 M b) {l:List vB} (hl:D9 M l):∃r,fj b l=some r/\gT b l=some r/\z7 M r.1/\(wq b=true->zF r.1/\wq r.1=true)/\((r.2.1=0/\r.2.2=0/\((l=[]/\r.1=b)\/∃y,Et b l y/\zF y/\(∀i (hi:i<l.length),∀j (hj:j<i),l[j].1≠l[i].1)/\aI y=some r.1))\/(r.1=b/\r.2.1≠0/\1<=r.2.2/\r.2.2<=(l.length:Int)/\QK b l r.2.1)):=by
 have hn:l.length<=1048576:=hl.1;unfold fj gT;rw[x7 hb,xe hb,Az h,Bx h];simp only[an];by_cases h0:l=[]
 · subst h0;have e1:decide ((([]:List vB).length:Int)>0)=false:=rfl
   have e2:((([]:List vB).length:Int)==0)=true:=rfl;have e3:cond (!wq b) (some false) (some false)=some false:=by cases wq b<;>rfl
   rw[e1,e2,e3,cT];simp only[an,cF];refine⟨_,rfl,(congrArg (λo=>Option.bind o _) (wj (b:=.inl (0,[],0,0,0,0,0,b.1,b.2.1,b.2.2.2.2.2.2.1,b.2.2.2.2.2.2.2.1,b.2.2.2.2.2.2.2.2.1,b.2.2.2.2.2.2.2.2.2.1,b.2.2.2.2.2.2.2.2.2.2,[],[],[],[],b.2.2.1,b.2.2.2.1,b.2.2.2.2.1,b.2.2.2.2.2.1)) rfl)).trans rfl,hb,λhp=>⟨(BK h hp).sok,hp⟩,.inl ⟨rfl,rfl,.inl ⟨by first|trivial|rfl,rfl⟩⟩⟩
 · have hpos:0<l.length:=List.length_pos_iff.2 h0;rw[show ((l.length:Int)==0)=false from beq_eq_false_iff_ne.2 (by omega),dT (show (l.length:Int)>0 by omega)];cases hp:wq b with
   | false=>exact⟨_,rfl,rfl,hb,λhp=>(by cases hp),.inr ⟨rfl,(by show (3:Int)≠0;decide),by show (1:Int)<=1;decide,by show (1:Int)<=_;omega,.inl ⟨hp,rfl⟩⟩⟩
   | true =>
    have hs0:=(BK h hp).sok;simp only[Bool.not_true,cF,an];obtain⟨d,d1,d2,d3⟩:=HU (step:=λz:Int×Int×List UInt8×Int×Int×Int×Int×Int×Int×List UInt8×Int×Int×Int×Int×Int×List Pt×List vD×List vP×List Int×List Pt×List vD×List vP×List Int=>jb b l z.1 z.2.1 z.2.2.1 z.2.2.2.1 z.2.2.2.2.1 z.2.2.2.2.2.1 z.2.2.2.2.2.2.1 z.2.2.2.2.2.2.2.1 z.2.2.2.2.2.2.2.2.1 z.2.2.2.2.2.2.2.2.2.1 z.2.2.2.2.2.2.2.2.2.2.1 z.2.2.2.2.2.2.2.2.2.2.2.1 z.2.2.2.2.2.2.2.2.2.2.2.2.1 z.2.2.2.2.2.2.2.2.2.2.2.2.2.1 z.2.2.2.2.2.2.2.2.2.2.2.2.2.2.1 z.2.2.2.2.2.2.2.2.2.2.2.2.2.2.2.1 z.2.2.2.2.2.2.2.2.2.2.2.2.2.2.2.2.1 z.2.2.2.2.2.2.2.2.2.2.2.2.2.2.2.2.2.1 z.2.2.2.2.2.2.2.2.2.2.2.2.2.2.2.2.2.2.1 z.2.2.2.2.2.2.2.2.2.2.2.2.2.2.2.2.2.2.2.1 z.2.2.2.2.2.2.2.2.2.2.2.2.2.2.2.2.2.2.2.2.1 z.2.2.2.2.2.2.2.2.2.2.2.2.2.2.2.2.2.2.2.2.2.1 z.2.2.2.2.2.2.2.2.2.2.2.2.2.2.2.2.2.2.2.2.2.2)
     (t:=λz=>gS b l z.1 z.2.1 z.2.2.1 z.2.2.2.1 z.2.2.2.2.1 z.2.2.2.2.2.1 z.2.2.2.2.2.2.1 z.2.2.2.2.2.2.2.1 z.2.2.2.2.2.2.2.2.1 z.2.2.2.2.2.2.2.2.2.1 z.2.2.2.2.2.2.2.2.2.2.1 z.2.2.2.2.2.2.2.2.2.2.2.1 z.2.2.2.2.2.2.2.2.2.2.2.2.1 z.2.2.2.2.2.2.2.2.2.2.2.2.2.1 z.2.2.2.2.2.2.2.2.2.2.2.2.2.2.1 z.2.2.2.2.2.2.2.2.2.2.2.2.2.2.2.1 z.2.2.2.2.2.2.2.2.2.2.2.2.2.2.2.2.1 z.2.2.2.2.2.2.2.2.2.2.2.2.2.2.2.2.2.1 z.2.2.2.2.2.2.2.2.2.2.2.2.2.2.2.2.2.2.1 z.2.2.2.2.2.2.2.2.2.2.2.2.2.2.2.2.2.2.2.1 z.2.2.2.2.2.2.2.2.2.2.2.2.2.2.2.2.2.2.2.2.1 z.2.2.2.2.2.2.2.2.2.2.2.2.2.2.2.2.2.2.2.2.2.1 z.2.2.2.2.2.2.2.2.2.2.2.2.2.2.2.2.2.2.2.2.2.2)
     (λk z=>∃y:vw,(zF y/\Et b (l.take k) y/\∀i (hi:i<l.length),i<k->∀j (hj:j<i),l[j].1≠l[i].1)/\z=((k:Int),0,[],0,0,0,0,0,y.1,y.2.1,y.2.2.2.2.2.2.1,y.2.2.2.2.2.2.2.1,y.2.2.2.2.2.2.2.2.1,y.2.2.2.2.2.2.2.2.2.1,y.2.2.2.2.2.2.2.2.2.2,[],[],[],[],y.2.2.1,y.2.2.2.1,y.2.2.2.2.1,y.2.2.2.2.2.1)) l.length
     (λd=>(∃y:vw,(zF y/\Et b l y/\∀i (hi:i<l.length),∀j (hj:j<i),l[j].1≠l[i].1)/\d=.inl (0,[],0,0,0,0,0,y.1,y.2.1,y.2.2.2.2.2.2.1,y.2.2.2.2.2.2.2.1,y.2.2.2.2.2.2.2.2.1,y.2.2.2.2.2.2.2.2.2.1,y.2.2.2.2.2.2.2.2.2.2,[],[],[],[],y.2.2.1,y.2.2.2.1,y.2.2.2.2.1,y.2.2.2.2.2.1))\/∃c k:Int,c≠0/\1<=k/\k<=(l.length:Int)/\QK b l c/\d=.inr (T5 c k b))
     (λk z hk ⟨y,⟨hy,hst,hdi⟩,e⟩=>by
      subst e;obtain⟨r,r1,r2,r3⟩:=T6 hb hl hk (0,[],0,0,0,0,0);have hc:cut l 0 (k:Int)=some (l.take k):=by rw[show (0:Int)=((0:Nat):Int)from rfl,yw (Nat.zero_le _) (by omega),drop_zero]
      simp only;unfold jb gS;rw[wm (show (k:Int)<(l.length:Int) by omega),cT,cT,vL hk,an,hc,an,r1,r2,an,an];rcases r3 with ⟨rfl,hnd⟩|⟨rfl,hdup⟩
      · obtain⟨q,q1,q2,q3,q4⟩:=T2 hy (hl.2 _ (getElem_mem hk)).1;have q1':dO (y.1,y.2.1,y.2.2.1,y.2.2.2.1,y.2.2.2.2.1,y.2.2.2.2.2.1,y.2.2.2.2.2.2.1,y.2.2.2.2.2.2.2.1,y.2.2.2.2.2.2.2.2.1,y.2.2.2.2.2.2.2.2.2.1,y.2.2.2.2.2.2.2.2.2.2) l[k]=some q:=q1
        have q2':fG (y.1,y.2.1,y.2.2.1,y.2.2.2.1,y.2.2.2.2.1,y.2.2.2.2.2.1,y.2.2.2.2.2.2.1,y.2.2.2.2.2.2.2.1,y.2.2.2.2.2.2.2.2.1,y.2.2.2.2.2.2.2.2.2.1,y.2.2.2.2.2.2.2.2.2.2) l[k]=some q:=q2;simp only[Sum.elim_inl,an,q1',q2',x7 hb,xe hb,vK (show k<9223372036854775807 by omega)];cases hq:(q.2 != 0)with
        | true =>
         right;exact⟨_,rfl,rfl,.inr ⟨q.2,((k+1:Nat):Int),bne_iff_ne.1 hq,by omega,by omega,.inr (.inl ⟨k,y,hk,hst,hy,.inr ⟨q.1,q1⟩⟩),rfl⟩⟩
        | false =>
         left;have hq0:q.2=0:=by simpa using hq
         refine⟨_,rfl,rfl,q.1,⟨q3,?_,λi hi hik j hj=>?_⟩,rfl⟩
         · rw[take_add_one,List.getElem?_eq_getElem hk];exact .snoc hst hy (by rw[q1,←hq0])
         · by_cases e:i=k
           · subst e;exact hnd j hj
           · exact hdi i hi (by omega) j hj
      · right;exact⟨_,rfl,rfl,.inr ⟨5,((k+1:Nat):Int),by decide,by omega,by omega,.inr (.inl ⟨k,y,hk,hst,hy,.inl ⟨hdup,rfl⟩⟩),rfl⟩⟩)
     (λz ⟨y,⟨hy,hst,hdi⟩,e⟩=>by
      subst e;simp only;unfold jb gS;rw[wg (show ¬(l.length:Int)<(l.length:Int) by omega),cF,cF];rw[take_length]at hst;exact⟨_,rfl,rfl,.inl ⟨y,⟨hy,hst,λi hi=>hdi i hi hi⟩,rfl⟩⟩) (x:=(0,0,[],0,0,0,0,0,b.1,b.2.1,b.2.2.2.2.2.2.1,b.2.2.2.2.2.2.2.1,b.2.2.2.2.2.2.2.2.1,b.2.2.2.2.2.2.2.2.2.1,b.2.2.2.2.2.2.2.2.2.2,[],[],[],[],b.2.2.1,b.2.2.2.1,b.2.2.2.2.1,b.2.2.2.2.2.1)) ⟨b,⟨hs0,.nil,λi _ hi=>absurd hi (Nat.not_lt_zero _)⟩,rfl⟩
    rw[d1,d2,an,an];rcases d3 with ⟨y,⟨hy,hst,hdi⟩,rfl⟩|⟨c,k,c0,k1,k2,hfl,rfl⟩
    · have n6:=hy.n6;have v6:=hy.v;have hq:=hy.q
      have t1:eV (y.2.2.2.2.1,y.2.2.2.2.2.1) (y.2.2.1.length:Int)=some (yK (y.2.2.2.2.1,y.2.2.2.2.2.1) (y.2.2.1.length:Int)):=QB (v:=(y.2.2.2.2.1,y.2.2.2.2.2.1)) _ (by show y.2.2.2.2.1.length<_;omega) (by show y.2.2.2.2.2.1.length<_;omega);have t2:aS (y.2.2.2.2.1,y.2.2.2.2.2.1) (y.2.2.1.length:Int)=some (yK (y.2.2.2.2.1,y.2.2.2.2.2.1) (y.2.2.1.length:Int)):=Nt (v:=(y.2.2.2.2.1,y.2.2.2.2.2.1)) _ (by show y.2.2.2.2.1.length<_;omega) (by show y.2.2.2.2.2.1.length<_;omega) hy.h
      simp only[Sum.elim_inl,t1,t2,an];cases hv:yK (y.2.2.2.2.1,y.2.2.2.2.2.1) (y.2.2.1.length:Int)with
      | false=>exact⟨_,rfl,rfl,hb,λ_=>⟨hs0,hp⟩,.inr ⟨rfl,by show (5:Int)≠0;decide,by show (1:Int)<=(l.length:Int);omega,Int.le_refl _,.inr (.inr ⟨y,hst,rfl⟩)⟩⟩
      | true =>
       obtain⟨r,r1,r2,r3,r4,r5,r6⟩:=K5 hy;have r1':aI (y.1,y.2.1,y.2.2.1,y.2.2.2.1,y.2.2.2.2.1,y.2.2.2.2.2.1,y.2.2.2.2.2.2.1,y.2.2.2.2.2.2.2.1,y.2.2.2.2.2.2.2.2.1,y.2.2.2.2.2.2.2.2.2.1,y.2.2.2.2.2.2.2.2.2.2)=some r:=r1
       have r2':bC (y.1,y.2.1,y.2.2.1,y.2.2.2.1,y.2.2.2.2.1,y.2.2.2.2.2.1,y.2.2.2.2.2.2.1,y.2.2.2.2.2.2.2.1,y.2.2.2.2.2.2.2.2.1,y.2.2.2.2.2.2.2.2.2.1,y.2.2.2.2.2.2.2.2.2.2)=some r:=r2;simp only[Bool.not_true,cF,r1',r2',an];exact⟨_,rfl,rfl,r3.le,λ_=>⟨r3,r3.ok (by rw[r4,r5,r6];exact hv)⟩,.inl ⟨rfl,rfl,.inr ⟨y,hst,hy,hdi,r1⟩⟩⟩
    · simp only[Sum.elim_inr];exact⟨_,rfl,rfl,hb,λ_=>⟨hs0,hp⟩,.inr ⟨rfl,c0,k1,k2,hfl⟩⟩

theorem wH.le {b:vw} (h:wH b):z7 M b:=by
 obtain⟨v1,v2,v3,v4⟩:=h.vt.len;have h1:=h.name;have h2:=h.n6;have h3:=h.f12
 have v3':b.2.2.2.2.2.1.length=b.2.2.1.length:=v3;have v4':b.2.2.2.2.1.length<=6:=v4
 have hM:M=1048576:=rfl;exact⟨by omega,by omega,by omega,by omega,by omega⟩
theorem En {b:vw} (h:z7 M b):cL b b=some true:=by
 obtain⟨h0,h1,h2,h3,h4⟩:=h;have hM:M=1048576:=rfl
 have r1:iy b.2.2.2.2.1 b.2.2.2.2.1=some true:=by
  unfold iy;rw[show ((b.2.2.2.2.1.length:Int) != (b.2.2.2.2.1.length:Int))=false by simp,cF,Bi (n:=b.2.2.2.2.1.length) (λk hk=>by
   unfold ju;rw[wm (by omega),cT,vL hk,an,an,vK (by omega)];simp) (by unfold ju;rw[wg (by omega),cF])]
  rfl
 have r2:loop (λz=>iz b b z) 0=some (.inl ()):=Bi (n:=b.2.2.1.length) (λk hk=>by
  unfold iz;rw[wm (by omega),cT,vL hk,an,an,vK (by omega)];simp) (by unfold iz;rw[wg (by omega),cF])
 have r3:loop (λz=>iA b b z) 0=some (.inl ()):=Bi (n:=b.2.2.2.1.length) (λk hk=>by
  unfold iA;rw[wm (by omega),cT,vL hk,an,an,vK (by omega)];simp) (by unfold iA;rw[wg (by omega),cF])
 unfold cL;rw[r1,r2,r3,Cn (by omega)];simp
theorem T7 {x:List UInt8} (h:x∈([[116,101,110,45,98,121,116,101,115,45],[101,108,101,118,101,110,45,98,121,116,101]]:List (List UInt8))):x.length<=11:=by
 simp only[mem_cons,List.not_mem_nil,or_false]at h;rcases h with rfl|rfl<;>decide
theorem T8 {c:vM} (h:CW c):∃c' b,fC c=some (c',b)/\CW c'/\yb b/\z7 M b:=by
 obtain⟨c1,b,e1,w1,hb,hbp⟩:=Rz h;obtain⟨n1,n2,n3,n4,n5⟩:=(BK hb hbp).le;obtain⟨c2,r,e2,w2,_⟩:=y8 w1 16;unfold fC;rw[e1,an];show ∃c' b',((aa c1 16).bind _)=_/\_
 rw[e2,an];show ∃c' b',cond (r==0) _ (cond (r==1) _ (cond (r==2) _ (cond (r==3) _ (cond (r==4) _ (cond (r==5) _ _)))))=_/\_
 cases r==0 with
 | true =>
  obtain⟨c3,x,e3,w3,_⟩:=zK w2 (l:=[0,99,100]) (by decide);rw[cT,e3,an];exact⟨_,_,rfl,w3,⟨hb.p,hb.f,hb.v,hb.q,hb.r⟩,n1,n2,n3,n4,n5⟩
 | false =>
 cases r==1 with
 | true =>
  obtain⟨c3,x,e3,w3,hx⟩:=Q1 w2 (l:=[[116,101,110,45,98,121,116,101,115,45],[101,108,101,118,101,110,45,98,121,116,101]]) (by decide);rw[cF,cT,e3,an];exact⟨_,_,rfl,w3,⟨hb.p,hb.f,hb.v,hb.q,hb.r⟩,(by have:=T7 hx;show x.length<=1048576;omega),n2,n3,n4,n5⟩
 | false =>
 cases r==2 with
 | true =>
  obtain⟨c3,x,e3,w3,hx⟩:=ST w2;rw[cF,cF,cT,e3,an];exact⟨_,_,rfl,w3,⟨by show x.length<_;omega,hb.f,hb.v,hb.q,hb.r⟩,n1,(by show x.length<=1048576;omega),n3,n4,n5⟩
 | false =>
 cases r==3 with
 | true =>
  obtain⟨c3,x,e3,w3,hx⟩:=V4 w2;rw[cF,cF,cF,cT,e3,an];exact⟨_,_,rfl,w3,⟨hb.p,by show x.length<_;omega,hb.v,hb.q,hb.r⟩,n1,n2,(by show x.length<=1048576;omega),n4,n5⟩
 | false =>
 cases r==4 with
 | true =>
  obtain⟨c3,x,n,e3,w3,hx⟩:=U9 w2;have ha:=hx.a
  have hb':=hx.b;rw[cF,cF,cF,cF,cT,e3,an];exact⟨_,_,rfl,w3,⟨hb.p,hb.f,by show x.1.length<_;omega,by show x.2.length<_;omega,hx.r⟩,n1,n2,n3,(by show x.1.length<=1048576;omega),(by show x.2.length<=1048576;omega)⟩
 | false =>
 cases r==5 with
 | true =>
  obtain⟨c3,x,e3,w3,_⟩:=zK w2 (l:=[(-1),1000000,1000001]) (by decide);rw[cF,cF,cF,cF,cF,cT,e3,an];exact⟨_,_,rfl,w3,⟨hb.p,hb.f,hb.v,hb.q,hb.r⟩,n1,n2,n3,n4,n5⟩
 | false=>exact⟨_,_,rfl,w2,hb,n1,n2,n3,n4,n5⟩

def Dr {α:Type} (P:α->Prop) (o:Option (vM×α)):Prop:=∃c x,o=some (c,x)/\CW c/\P x
theorem Dr.cond {α:Type} {P:α->Prop} {a b:Option (vM×α)} {t:Bool} (ha:Dr P a) (hb:Dr P b):Dr P (cond t a b):=by cases t<;>assumption
theorem Dr.bind {α β:Type} {Q:α->Prop} {P:β->Prop} {o:Option (vM×α)} {f:vM×α->Option (vM×β)} (h:Dr Q o) (k:∀c x,CW c->Q x->Dr P (f (c,x))):Dr P (o.bind f):=by
 obtain⟨c,x,rfl,hc,hx⟩:=h;exact k c x hc hx
theorem Dr.some {α:Type} {P:α->Prop} {c:vM} {x:α} (hc:CW c) (hx:P x):Dr P (some (c,x)):=⟨c,x,rfl,hc,hx⟩
theorem xl {c:vM} (h:CW c) (n:Int):Dr (λr:Int=>0<=r/\(1<=n->r<n)) (aa c n):=by
 obtain⟨c',r,e,w,h1,h2⟩:=y8 h n;exact⟨c',r,e,w,h1,h2⟩
theorem Bz {c:vM} (h:CW c) {l:List Int} (hl:1<=l.length):Dr (λr:Int=>r∈l) (af c l):=by
 obtain⟨c',r,e,w,h1⟩:=zK h hl;exact⟨c',r,e,w,h1⟩
theorem QL {c:vM} (h:CW c) {l:List (List UInt8)} (hl:1<=l.length):Dr (λr:List UInt8=>r∈l) (bo c l):=by
 obtain⟨c',r,e,w,h1⟩:=Q1 h hl;exact⟨c',r,e,w,h1⟩
theorem NK {c:vM} (h:CW c):Dr (λo:List Int=>Nm o) (aM c):=by
 obtain⟨c',r,e,w,h1⟩:=Q9 h;exact⟨c',r,e,w,h1⟩
theorem QM {c:vM} (h:CW c):Dr (λ_:Int=>True) (cX c):=by
 unfold cX;refine Dr.bind (xl h 1000) λc x hc _=>?_;obtain⟨c',r,e,w,_⟩:=zK hc (l:=[0,1,(-1),127,128,(-128),(-129),255,256,32767,32768,(-32769),8388608,2147483647,(-2147483648),2147483648,(-2147483649),9223372036854775807,(-9223372036854775808),x]) (by simp);simp only[e];exact⟨c',r,rfl,w,trivial⟩
def Pa (v:zj):Prop:=(v.1=2->v.2.2.1=[]/\v.2.2.2=[])/\(v.1=4->v.2.1=0/\v.2.2.2=[])
theorem Lo (n:Int):Pa (2,n,[],[]):=⟨λ_=>⟨rfl,rfl⟩,λh=>absurd (show (2:Int)=4 from h) (by decide)⟩
theorem T9 (s:List UInt8):Pa (4,0,s,[]):=⟨λh=>absurd (show (4:Int)=2 from h) (by decide),λ_=>⟨rfl,rfl⟩⟩
theorem Vb (o:List Int):Pa (6,0,[],o):=⟨λh=>absurd (show (6:Int)=2 from h) (by decide),λh=>absurd (show (6:Int)=4 from h) (by decide)⟩
theorem Qj (k:Int):Pa (k,0,[],[]):=⟨λ_=>⟨rfl,rfl⟩,λ_=>⟨rfl,rfl⟩⟩
def Mp (v:zj):Prop:=v.2.2.1.length<=100/\v.2.2.2.length<=1000/\Pa v
theorem QN (n:Int):∃r,aw n=some r:=by
 unfold aw;cases decide (n>2147483647)<;>cases decide (n<(-2147483648))<;>exact⟨_,rfl⟩
theorem Pb {x:List UInt8} {l:List (List UInt8)} {n:Nat} (h:x∈l) (hl:∀y∈l,y.length<=n):x.length<=n:=hl x h
theorem NL {c:vM} (h:CW c):Dr Mp (aE c):=by
 unfold aE;refine Dr.bind (xl h 6) λc x hc _=>?_;have hn:∀c,CW c->Dr Mp ((cX c).bind λt12=>(aw t12.2).bind λt13=>(ai t13).bind λt14=>some (t12.1,t14)):=λc hc=>by
  refine Dr.bind (QM hc) λc x hc _=>?_;obtain⟨r,hr⟩:=QN x;simp only[hr,an,ai];exact Dr.some hc ⟨by simp,by simp,Lo _⟩
 have hs:∀c,CW c->Dr Mp ((bo c ([[],[97],[121,97,114,100],[0]]:List (List UInt8))).bind λt19=>some (t19.1,(4,0,t19.2,[]))):=λc hc=>by
  refine Dr.bind (QL hc (by decide)) λc x hc hx=>?_;exact Dr.some hc ⟨Nat.le_trans (Pb (n:=4) hx (by decide)) (by decide),by simp,T9 _⟩
 have ho:∀c,CW c->Dr Mp ((aM c).bind λt24=>some (t24.1,(6,0,[],t24.2))):=λc hc=>by
  refine Dr.bind (NK hc) λc x hc hx=>?_;exact Dr.some hc ⟨by simp,by have:=hx.n10;show x.length<=1000;omega,Vb _⟩
 have hi:∀c,CW c->Dr Mp ((af c ([128,130]:List Int)).bind λt28=>some (t28.1,(t28.2,0,[],[]))):=λc hc=>by
  refine Dr.bind (Bz hc (by decide)) λc x hc hx=>?_;exact Dr.some hc ⟨by simp,by simp,Qj _⟩
 repeat' (first|apply Dr.cond|exact Dr.some hc ⟨by simp,by simp,Qj _⟩|exact hn c hc|exact hs c hc|exact ho c hc|exact hi c hc)
def Bj (x:vB):Prop:=x.1.length<=1000/\Mp x.2
theorem Bj.le {x:vB} (h:Bj x):GL M x:=by
 have hM:M=1048576:=rfl;obtain⟨h1,h2,h3,_⟩:=h;exact⟨by omega,by omega,by omega⟩
theorem Ta {c:vM} (h:CW c) {b:vw} (hb:yb b) (hn:∀c,CW c->Dr Nm (aq c b)):Dr Bj (gH c b):=by
 obtain⟨t18,hsh⟩:∃t,shl .i64 1 (IntKind.u64.wrap (b.2.2.1.length:Int))=some t:=by
  unfold shl;rw[if_neg (show ¬IntKind.u64.wrap (b.2.2.1.length:Int)<0 by show ¬((b.2.2.1.length:Int)%18446744073709551616)<0;omega)];exact⟨_,rfl⟩
 have hnm:∀(l:List Int),l.length<=100->ah l=some ([1,3,1]++l):=λl hl=>Co l hl;have h22:∀c p,CW c->Dr Bj ((ah [2,2,vA (1+p)]).bind λt36=>(af c ([1,5,1000,0,1001]:List Int)).bind λt39=>(ai t39.2).bind λt40=>some (t39.1,(t36,t40.1,t40.2.1,t40.2.2.1,t40.2.2.2))):=λc p hc=>by
  rw[hnm _ (by simp),an];exact Dr.bind (Bz hc (by decide)) λc x hc _=>Dr.some hc ⟨by simp,by simp,by simp,Lo _⟩
 have h24:∀c p,CW c->Dr Bj ((ah [2,4,vA (1+p)]).bind λt46=>(aa c 4).bind λt48=>(ai (vA (1+t48.2))).bind λt50=>some (t48.1,(t46,t50.1,t50.2.1,t50.2.2.1,t50.2.2.2))):=λc p hc=>by
  rw[hnm _ (by simp),an];exact Dr.bind (xl hc 4) λc x hc _=>Dr.some hc ⟨by simp,by simp,by simp,Lo _⟩
 have h31:∀c,CW c->Dr Bj ((aa c 4).bind λt56=>(ah [3,1,vA (1+t56.2)]).bind λt59=>(af t56.1 ([4,4,6,1]:List Int)).bind λt62=>(ai t62.2).bind λt63=>some (t62.1,(t59,t63.1,t63.2.1,t63.2.2.1,t63.2.2.2))):=λc hc=>by
  refine Dr.bind (xl hc 4) λc x hc _=>?_;rw[hnm _ (by simp),an];exact Dr.bind (Bz hc (by decide)) λc x hc _=>Dr.some hc ⟨by simp,by simp,by simp,Lo _⟩
 have h3x:∀c k m,CW c->Dr Bj ((aa c 4).bind λt69=>(ah [3,k,vA (1+t69.2)]).bind λt72=>(aa t69.1 m).bind λt76=>(ai t76.2).bind λt77=>some (t76.1,(t72,t77.1,t77.2.1,t77.2.2.1,t77.2.2.2))):=λc k m hc=>by
  refine Dr.bind (xl hc 4) λc x hc _=>?_;rw[hnm _ (by simp),an];exact Dr.bind (xl hc m) λc x hc _=>Dr.some hc ⟨by simp,by simp,by simp,Lo _⟩
 have hoth:∀c,CW c->Dr Bj ((aq c b).bind λt94=>(aE t94.1).bind λt96=>some (t96.1,(t94.2,t96.2.1,t96.2.2.1,t96.2.2.2.1,t96.2.2.2.2))):=λc hc=>by
  refine Dr.bind (hn c hc) λc o hc ho=>?_;refine Dr.bind (NL hc) λc v hc hv=>?_;exact Dr.some hc ⟨by have:=ho.n10;show o.length<=1000;omega,hv⟩
 have h11:∀c,CW c->Dr Bj ((ah ([1,1]:List Int)).bind λt25=>(bo c ([[110,101,119],[],[101,108,101,118,101,110,45,98,121,116,101]]:List (List UInt8))).bind λt28=>some (t28.1,(t25,4,0,t28.2,[]))):=λc hc=>by
  rw[hnm _ (by simp),an];exact Dr.bind (QL hc (by decide)) λc x hc hx=>Dr.some hc ⟨by simp,Nat.le_trans (Pb (n:=11) hx (by decide)) (by decide),by simp,T9 _⟩
 unfold gH;refine Dr.bind (xl h _) λc p hc _=>?_;rw[hsh,an];refine Dr.bind (xl hc 10) λc r hc _=>?_
 repeat' (first|apply Dr.cond|exact h22 c p hc|exact h24 c p hc|exact h31 c hc|exact h3x c _ _ hc|exact hoth c hc|exact h11 c hc)
theorem RN {c:vM} (h:CW c) {b:vw} (hb:yb b) (hn:∀c,CW c->Dr Nm (aq c b)):Dr (λl:List vB=>l.length<=3/\∀x∈l,Bj x) (fB c b):=by
 unfold fB;obtain⟨c1,k,e1,w1,hk⟩:=xK h (n:=4) (by decide);have e1':aa c 4=some (c1,(k:Int)):=e1
 rw[e1',an];obtain⟨d,d1,d2,d3,d4⟩:=vR (step:=λz:Int×List Int×Int×Int×List vB=>cZ b z.1 z.2.1 z.2.2.1 z.2.2.2.1 z.2.2.2.2)
  (λi z=>z.1=((k-i:Nat):Int)/\CW (z.2.1,z.2.2.1,z.2.2.2.1)/\z.2.2.2.2.length=i/\∀x∈z.2.2.2.2,Bj x) k
  (λd=>CW (d.1,d.2.1,d.2.2.1)/\d.2.2.2.length=k/\∀x∈d.2.2.2,Bj x)
  (λi z hi ⟨z1,z2,z3,z4⟩=>by
   obtain⟨j,c0,c1,c2,out⟩:=z;simp only at z1 z2 z3 z4;subst z1 z3;left;obtain⟨c',x,x1,x2,x3⟩:=Ta z2 hb hn;refine⟨_,by
    show cZ b _ _ _ _ _=_;unfold cZ;rw[dT (show ((k-out.length:Nat):Int)>0 by omega),cT,x1,an,vF (by show _+1<=_;omega),an],?_,x2,by simp,?_⟩
   · show vA (((k-out.length:Nat):Int)-1)=_;rw[vW (by omega) (by omega)];omega
   · intro y hy;rcases mem_append.1 hy with hy|hy
     · exact z4 y hy
     · simp at hy;subst hy;exact x3)
  (λz ⟨z1,z2,z3,z4⟩=>by
   obtain⟨j,c0,c1,c2,out⟩:=z;simp only at z1 z2 z3 z4;rw[Nat.sub_self]at z1;subst z1;refine⟨(c0,c1,c2,out),?_,z2,z3,z4⟩;show cZ b _ _ _ _ _=_
   unfold cZ;rw[dF (show ¬((0:Nat):Int)>0 by decide),cF]) (x:=((k:Int),c1.1,c1.2.1,c1.2.2,[])) ⟨rfl,w1,rfl,by simp⟩
 show Dr _ ((loop (λz:Int×List Int×Int×Int×List vB=>cZ b z.1 z.2.1 z.2.2.1 z.2.2.2.1 z.2.2.2.2) ((k:Int),c1.1,c1.2.1,c1.2.2,[])).bind _);rw[d1,an];exact Dr.some d2 ⟨by omega,d4⟩

def CD (n:Int):Int:=if n>2147483647 then 2147483647 else if n < -2147483648 then -2147483648 else n
theorem Mq (n:Int):-2147483648<=CD n/\CD n<=2147483647:=by unfold CD;split<;>(try split)<;>omega
def xf (m:Int):List Int:=if vE m (-128) 127 then [m%256]else if vE m (-32768) 32767 then [m/256%256,m%256]else if vE m (-8388608) 8388607 then [m/65536%256,m/256%256,m%256]else [m/16777216%256,m/65536%256,m/256%256,m%256]
theorem w8 (x:Int):IntKind.u8.wrap x=x%256:=rfl
theorem fd (m:Int) {k:Int} (hk:0<=k):m.fdiv k=m/k:=Int.fdiv_eq_ediv_of_nonneg m hk
theorem w9 {α β:Type} {step:α->Option (α⊕β)} {x y:α} {b:β} (h:step x=some (.inl y)) (k:loop step y=some b):loop step x=some b:=by
 obtain⟨n,hn⟩:=Gv k;exact A2 (k:=n+1) (by rw[xj,h];exact hn)
theorem Lp {n:Int} (hn:-9223372036854775808<=n/\n<=9223372036854775807):eZ n=some (xf (CD n)):=by
 unfold eZ;have hc:max2 (-2147483648) (min2 n 2147483647)=CD n:=by
  unfold max2 min2 CD;split<;>split<;>(try split)<;>(try split)<;>omega
 rw[hc];obtain⟨h1,h2⟩:=Mq n;generalize CD n=m at h1 h2;simp only;have a1:ba m 1=cond (!(vE m (-128) 127)) (some (.inl 2)) (some (.inr 1)):=by
  unfold ba;rw[show shl .i64 (-1) (vA ((vA (8*1))-1))=some (-128)from rfl,show shl .i64 1 (vA ((vA (8*1))-1))=some 128 from rfl];simp only[an,yB];rw[show vA (128-1)=127 from rfl];cases vE m (-128) 127<;>rfl
 have a2:ba m 2=cond (!(vE m (-32768) 32767)) (some (.inl 3)) (some (.inr 2)):=by
  unfold ba;rw[show shl .i64 (-1) (vA ((vA (8*2))-1))=some (-32768)from rfl,show shl .i64 1 (vA ((vA (8*2))-1))=some 32768 from rfl];simp only[an,yB];rw[show vA (32768-1)=32767 from rfl];cases vE m (-32768) 32767<;>rfl
 have a3:ba m 3=cond (!(vE m (-8388608) 8388607)) (some (.inl 4)) (some (.inr 3)):=by
  unfold ba;rw[show shl .i64 (-1) (vA ((vA (8*3))-1))=some (-8388608)from rfl,show shl .i64 1 (vA ((vA (8*3))-1))=some 8388608 from rfl];simp only[an,yB];rw[show vA (8388608-1)=8388607 from rfl];cases vE m (-8388608) 8388607<;>rfl
 have a4:ba m 4=some (.inr 4):=rfl;have b3:∀out:List Int,out.length<=10->aG m 3 out=some (.inl (2,out++[m/16777216%256])):=λout ho=>by
  unfold aG;rw[show shr .i64 m (vA (8*3))=some (m.fdiv (2^24))from rfl,an,vF (by simp;omega),an,w8,fd m (by decide)];rfl
 have b2:∀out:List Int,out.length<=10->aG m 2 out=some (.inl (1,out++[m/65536%256])):=λout ho=>by
  unfold aG;rw[show shr .i64 m (vA (8*2))=some (m.fdiv (2^16))from rfl,an,vF (by simp;omega),an,w8,fd m (by decide)];rfl
 have b1:∀out:List Int,out.length<=10->aG m 1 out=some (.inl (0,out++[m/256%256])):=λout ho=>by
  unfold aG;rw[show shr .i64 m (vA (8*1))=some (m.fdiv (2^8))from rfl,an,vF (by simp;omega),an,w8,fd m (by decide)];rfl
 have b0:∀out:List Int,out.length<=10->aG m 0 out=some (.inl (-1,out++[m%256])):=λout ho=>by
  unfold aG;rw[show shr .i64 m (vA (8*0))=some (m.fdiv (2^0))from rfl,an,vF (by simp;omega),an,w8,fd m (by decide)];simp;rfl
 have be:∀out:List Int,aG m (-1) out=some (.inr out):=λout=>rfl;have c0:∀out:List Int,out.length<=9->loop (λz:Int×List Int=>aG m z.1 z.2) (0,out)=some (out++[m%256]):=λout ho=>w9 (b0 out (by omega)) (wj (be _))
 have c1:∀out:List Int,out.length<=8->loop (λz:Int×List Int=>aG m z.1 z.2) (1,out)=some (out++[m/256%256]++[m%256]):=λout ho=>w9 (b1 out (by omega)) (c0 _ (by simp;omega));have c2:∀out:List Int,out.length<=7->loop (λz:Int×List Int=>aG m z.1 z.2) (2,out)=some (out++[m/65536%256]++[m/256%256]++[m%256]):=λout ho=>w9 (b2 out (by omega)) (c1 _ (by simp;omega))
 have c3:∀out:List Int,out.length<=6->loop (λz:Int×List Int=>aG m z.1 z.2) (3,out)=some (out++[m/16777216%256]++[m/65536%256]++[m/256%256]++[m%256]):=λout ho=>w9 (b3 out (by omega)) (c2 _ (by simp;omega));unfold xf;cases h8:vE m (-128) 127 with
 | true =>
  rw[h8]at a1;rw[wj (step:=λz=>ba m z) a1,an,show vA (1-1)=0 from rfl,c0 [] (by simp)];rfl
 | false =>
  rw[h8]at a1;cases h16:vE m (-32768) 32767 with
  | true =>
   rw[h16]at a2;rw[w9 (step:=λz=>ba m z) a1 (wj a2),an,show vA (2-1)=1 from rfl,c1 [] (by simp)];rfl
  | false =>
   rw[h16]at a2;cases h24:vE m (-8388608) 8388607 with
   | true =>
    rw[h24]at a3;rw[w9 (step:=λz=>ba m z) a1 (w9 a2 (wj a3)),an,show vA (3-1)=2 from rfl,c2 [] (by simp)];rfl
   | false =>
    rw[h24]at a3;rw[w9 (step:=λz=>ba m z) a1 (w9 a2 (w9 a3 (wj a4))),an,show vA (4-1)=3 from rfl,c3 [] (by simp)];rfl
theorem Eu {n a b:Int} (h:vE n a b=false):n<a\/n>b:=by
 unfold vE at h;simp only[Bool.and_eq_false_iff,decide_eq_false_iff_not]at h;omega
theorem wu {n a b:Int} (h:vE n a b=true):a<=n/\n<=b:=by
 unfold vE at h;simp only[aT,decide_eq_true_eq]at h;omega
theorem DC {n:Int}:bp n=some (xf (CD n)):=by
 unfold bp;have hc:aw n=some (CD n):=by
  unfold aw CD;by_cases h1:n>2147483647
  · rw[dT h1,cT,if_pos h1]
  · rw[dF h1,cF,if_neg h1];by_cases h2:n < -2147483648
    · rw[dT h2,cT,if_pos h2]
    · rw[dF h2,cF,if_neg h2]
 rw[hc,an];obtain⟨h1,h2⟩:=Mq n;generalize CD n=m at h1 h2;have st:∀(x:Int) (out:List Int),out.length<=10->cr x out=cond (vE x (-128) 127) (some (.inr out)) (some (.inl (x/256,x/256%256::out))):=λx out ho=>by
  unfold cr;have e:(cond (decide (x<(-128))) (some true) (some (decide (x>127))))=some (!(vE x (-128) 127)):=by
   unfold vE;by_cases h1:x < -128
   · rw[dT h1,cT,dF (show ¬x >= -128 by omega)];rfl
   · rw[dF h1,cF,dT (show x >= -128 by omega)];by_cases h2:x>127
     · rw[dT h2,dF (show ¬x<=127 by omega)];rfl
     · rw[dF h2,dT (show x<=127 by omega)];rfl
  rw[e,an,vF (by simp;omega),an,w8,fd x (by decide)];cases vE x (-128) 127<;>rfl
 rw[w8];have goes:∀(x:Int) (out:List Int),out.length<=9->vE x (-128) 127=true->loop (λz:Int×List Int=>cr z.1 z.2) (x,out)=some out:=λx out ho h=>wj (by show cr x out=_;rw[st x out (by omega),h];rfl)
 have more:∀(x:Int) (out r:List Int),out.length<=9->vE x (-128) 127=false->loop (λz:Int×List Int=>cr z.1 z.2) (x/256,x/256%256::out)=some r->loop (λz:Int×List Int=>cr z.1 z.2) (x,out)=some r:=λx out r ho h k=>w9 (by show cr x out=_;rw[st x out (by omega),h];rfl) k;have Dd:∀(x a b:Int),a<=x->x<=b->vE x a b=true:=λx a b h1 h2=>by unfold vE;rw[dT h1,dT h2];rfl
 have outn:∀(x a b:Int),(x<a\/x>b)->vE x a b=false:=λx a b h=>by
  unfold vE;simp only[Bool.and_eq_false_iff,decide_eq_false_iff_not];omega
 unfold xf;cases h8:vE m (-128) 127 with
 | true=>rw[goes m _ (by simp) h8];rfl
 | false =>
  have k8:=Eu h8;cases h16:vE m (-32768) 32767 with
  | true =>
   have k16:=wu h16;rw[more m _ _ (by simp) h8 (goes (m/256) _ (by simp) (Dd _ _ _ (by omega) (by omega)))];rfl
  | false =>
   have k16:=Eu h16;cases h24:vE m (-8388608) 8388607 with
   | true =>
    have k24:=wu h24;rw[more m _ _ (by simp) h8 (more (m/256) _ _ (by simp) (outn _ _ _ (by omega)) (goes (m/256/256) _ (by simp) (Dd _ _ _ (by omega) (by omega))))];rw[show m/256/256=m/65536 by omega];rfl
   | false =>
    have k24:=Eu h24;rw[more m _ _ (by simp) h8 (more (m/256) _ _ (by simp) (outn _ _ _ (by omega)) (more (m/256/256) _ _ (by simp) (outn _ _ _ (by omega)) (goes (m/256/256/256) _ (by simp) (Dd _ _ _ (by omega) (by omega)))))];rw[show m/256/256=m/65536 by omega,show m/65536/256=m/16777216 by omega];rfl

def xL (b:List Int):Prop:=∀x∈b,0<=x/\x<=255
def wK (t:Int) (body:List Int):List Int:=t::((if body.length>=128 then [129,(body.length:Int)]else [(body.length:Int)])++body)
theorem NM (t:Int) {body:List Int} (hn:body.length<=M):dH t body=some (if vE t 0 255=true/\body.length<=250 then (wK t body,true)else ([],false)):=by
 have hn':body.length<=1048576:=hn;unfold dH;rw[yB,an];cases ht:vE t 0 255 with
 | false=>rw[if_neg (by simp)];rfl
 | true =>
  obtain⟨t1,t2⟩:=wu ht;rw[Bool.not_true,cF,an];by_cases h:(body.length:Int)>250
  · rw[dT h,cT,if_neg (by omega)]
  · rw[dF h,cF,if_pos ⟨rfl,by omega⟩];unfold wK;have e1:IntKind.u8.wrap t=t:=by rw[w8];omega
    have e2:IntKind.u8.wrap (body.length:Int)=(body.length:Int):=by rw[w8];omega
    by_cases h8:(body.length:Int)>=128
    · rw[dT h8,cT,vF (by simp),an,vF (by simp),an,vF (by simp;omega),an,if_pos (by omega),e1,e2];rfl
    · rw[dF h8,cF,vF (by simp),an,vF (by simp;omega),an,if_neg (by omega),e1,e2];rfl
theorem Lr {b:List Int} (t:Int) {body:List Int} (hb:b.length<=1000) (hn:body.length<=M):bI b t body=some (b++if vE t 0 255=true/\body.length<=250 then wK t body else []):=by
 unfold bI;have hM:M=1048576:=rfl
 rw[NM t hn,an,Bh (by omega),an];split
 · next h =>
   have:(wK t body).length<=300:=by unfold wK;split<;>simp<;>omega
   rw[vF (by show b.length+(wK t body).length<=_;omega)];rfl
 · rw[vF (by show b.length+0<=_;omega)];rfl
theorem Fh {α:Type} (pre l:List α) (j:Nat):at? (pre++l) ((pre.length+j:Nat):Int)=at? l (j:Int):=by
 unfold at?;rw[if_pos (by omega),if_pos (by omega),Int.toNat_natCast,Int.toNat_natCast,List.getElem?_append_right (by omega),Nat.add_sub_cancel_left]
theorem Mr {α:Type} (pre l:List α) (i j:Nat) (h:i<=j) (hj:j<=l.length):cut (pre++l) ((pre.length+i:Nat):Int) ((pre.length+j:Nat):Int)=some ((l.take j).drop i):=by
 rw[yw (by omega) (by rw[length_append];omega),List.take_append,List.take_of_length_le (by omega),List.drop_append,List.drop_of_length_le (by omega),Nat.add_sub_cancel_left,Nat.add_sub_cancel_left,nil_append]
structure Bk (b:List Int) (at':Int) (t:Int) (body:List Int) (next:Int):Prop where
 ex:∃pre rest,b=pre++(wK t body++rest)/\at'=(pre.length:Int)/\next=((pre.length+(wK t body).length:Nat):Int)
 n:body.length<=250
 t:vE t 0 255=true
 b:xL body
theorem IQ {b:List Int} (hb:xL b) (hn:b.length<=M) {i:Int} (hi:-9223372036854775808<=i/\i<=9223372036854775807):∃r,dE b i=some r/\dq b i=some r/\(r=(0,[],0,false)\/∃t body next,r=(t,body,next,true)/\Bk b i t body next):=by
 have hn':b.length<=1048576:=hn;unfold dE dq;rw[vW (show -9223372036854775808<=(b.length:Int)-2 by omega) (by omega)];by_cases h0:i<0
 · rw[dT h0];exact⟨_,rfl,rfl,.inl rfl⟩
 rw[dF h0];by_cases h1:i>(b.length:Int)-2
 · rw[dT h1];by_cases h2:i>=(b.length:Int)
   · rw[dT h2];exact⟨_,rfl,rfl,.inl rfl⟩
   · rw[dF h2,vW (by omega) (by omega),dT (show i+1>=(b.length:Int) by omega)];exact⟨_,rfl,rfl,.inl rfl⟩
 rw[dF h1,dF (show ¬i>=(b.length:Int) by omega),vW (show -9223372036854775808<=i+1 by omega) (by omega),dF (show ¬i+1>=(b.length:Int) by omega),vW (show -9223372036854775808<=i+2 by omega) (by omega)];simp only[cF,an];obtain⟨k,rfl⟩:∃k:Nat,i=(k:Int):=⟨i.toNat,by omega⟩;have hk:k+1<b.length:=by omega
 obtain⟨pre,t,n0,rest,rfl,hp⟩:∃pre t n0 rest,b=pre++(t::n0::rest)/\pre.length=k:=by
  refine⟨b.take k,b[k],b[k+1],b.drop (k+2),?_,by rw[length_take];omega⟩;have h1:=List.take_append_drop k b
  rw[drop_eq_getElem_cons (by omega),drop_eq_getElem_cons (by omega)]at h1;exact h1.symm
 subst hp;have ht:0<=t/\t<=255:=hb t (by simp)
 have hn0:0<=n0/\n0<=255:=hb n0 (by simp);have hr:xL rest:=λx hx=>hb x (by simp[hx])
 have hlen:(pre++(t::n0::rest)).length=pre.length+(rest.length+2):=by simp
 have e0:at? (pre++(t::n0::rest)) (pre.length:Int)=some t:=by have:=Fh pre (t::n0::rest) 0;rw[Nat.add_zero]at this;rw[this];rfl
 have e1:at? (pre++(t::n0::rest)) ((pre.length:Int)+1)=some n0:=by have:=Fh pre (t::n0::rest) 1;rw[show ((pre.length:Int)+1)=((pre.length+1:Nat):Int) by omega,this];rfl
 have e2:at? (pre++(t::n0::rest)) ((pre.length:Int)+2)=at? rest 0:=by
  have:=Fh pre (t::n0::rest) 2;rw[show ((pre.length:Int)+2)=((pre.length+2:Nat):Int) by omega,this];unfold at?;simp
 have wt:vA t=t:=vW (by omega) (by omega);have wn:vA n0=n0:=vW (by omega) (by omega)
 have pt:vE t 0 255=true:=by unfold vE;rw[dT ht.1,dT ht.2];rfl
 rw[hlen]at hn';rw[hlen,e0,e1,e2];simp only[an,wt,wn];by_cases h8:n0>=128
 · rw[dT h8,dT (show n0>127 by omega)];simp only[cT];by_cases h9:n0=129
   · subst h9;simp only[show ((129:Int) != 129)=false from rfl,cF,an];cases rest with
     | nil =>
      rw[dT (show (pre.length:Int)+2>=((pre.length+(([]:List Int).length+2):Nat):Int) by simp)];exact⟨_,rfl,rfl,.inl rfl⟩
     | cons n1 r =>
      have hn1:0<=n1/\n1<=255:=hr n1 (by simp);have wn1:vA n1=n1:=vW (by omega) (by omega)
      rw[length_cons]at hn' ⊢;rw[dF (show ¬(pre.length:Int)+2>=((pre.length+(r.length+1+2):Nat):Int) by omega)];simp only[cF,an,show at? (n1::r) 0=some n1 from rfl,wn1];by_cases h10:n1<128
      · rw[dT h10];exact⟨_,rfl,rfl,.inl rfl⟩
      rw[dF h10,vW (show -9223372036854775808<=(pre.length:Int)+2+1 by omega) (by omega),vW (show -9223372036854775808<=((pre.length+(r.length+1+2):Nat):Int)-((pre.length:Int)+2+1) by omega) (by omega)];simp only[cF];by_cases h11:n1>250
      · rw[dT h11];exact⟨_,rfl,rfl,.inl rfl⟩
      rw[dF h11];simp only[cF,an];by_cases h12:n1>((pre.length+(r.length+1+2):Nat):Int)-((pre.length:Int)+2+1)
      · rw[dT h12];exact⟨_,rfl,rfl,.inl rfl⟩
      rw[dF h12];simp only[cF];obtain⟨m,rfl⟩:∃m:Nat,n1=(m:Int):=⟨n1.toNat,by omega⟩;have hcut:cut (pre++(t::129::(m:Int)::r)) ((pre.length:Int)+2+1) (vA ((pre.length:Int)+2+1+(m:Int)))=some (r.take m):=by
       rw[vW (by omega) (by omega),show (pre.length:Int)+2+1+(m:Int)=((pre.length+(3+m):Nat):Int) by omega,show (pre.length:Int)+2+1=((pre.length+3:Nat):Int) by omega,Mr _ _ _ _ (by omega) (by simp;omega)];simp[Nat.add_comm 3 m]
      have hl:(r.take m).length=m:=by rw[length_take];omega
      rw[hcut,an,an,Bh (by show _<=1048576;omega),yS (by show _<=1048576;omega),an];refine⟨_,rfl,rfl,.inr ⟨t,r.take m,vA ((pre.length:Int)+2+1+(m:Int)),rfl,⟨pre,r.drop m,?_,rfl,?_⟩,by omega,pt,λx hx=>hr x (mem_cons_of_mem _ (mem_of_mem_take hx))⟩⟩
      · unfold wK;rw[hl,if_pos (by omega)];simp
      · unfold wK;rw[hl,if_pos (by omega),vW (by omega) (by omega)];simp only[length_cons,length_append,length_nil,hl];omega
   · rw[bne_iff_ne.2 h9];exact⟨_,rfl,rfl,.inl rfl⟩
 · rw[dF h8,dF (show ¬n0>127 by omega)];simp only[cF];rw[dF (show ¬n0>250 by omega),vW (show -9223372036854775808<=((pre.length+(rest.length+2):Nat):Int)-((pre.length:Int)+2) by omega) (by omega)];simp only[cF,an];by_cases h12:n0>((pre.length+(rest.length+2):Nat):Int)-((pre.length:Int)+2)
   · rw[dT h12];exact⟨_,rfl,rfl,.inl rfl⟩
   rw[dF h12];simp only[cF];obtain⟨m,rfl⟩:∃m:Nat,n0=(m:Int):=⟨n0.toNat,by omega⟩;have hcut:cut (pre++(t::(m:Int)::rest)) ((pre.length:Int)+2) (vA ((pre.length:Int)+2+(m:Int)))=some (rest.take m):=by
    rw[vW (by omega) (by omega),show (pre.length:Int)+2+(m:Int)=((pre.length+(2+m):Nat):Int) by omega,show (pre.length:Int)+2=((pre.length+2:Nat):Int) by omega,Mr _ _ _ _ (by omega) (by simp;omega)];simp[Nat.add_comm 2 m]
   have hl:(rest.take m).length=m:=by rw[length_take];omega
   rw[hcut,an,an,Bh (by show _<=1048576;omega),yS (by show _<=1048576;omega),an];refine⟨_,rfl,rfl,.inr ⟨t,rest.take m,vA ((pre.length:Int)+2+(m:Int)),rfl,⟨pre,rest.drop m,?_,rfl,?_⟩,by omega,pt,λx hx=>hr x (mem_of_mem_take hx)⟩⟩
   · unfold wK;rw[hl,if_neg (by omega)];simp
   · unfold wK;rw[hl,if_neg (by omega),vW (by omega) (by omega)];simp only[length_cons,length_append,length_nil,hl];omega

theorem Vc {m x:Int} (hm:-1099511627776<=m/\m<=1099511627776) (hx:0<=x/\x<=255):CP .i64 (vA (m*2^8)) (vA x)=m*256+x:=by
 rw[show m*2^8=m*256 from rfl,vW (show -9223372036854775808<=m*256 by omega) (by omega),vW (show -9223372036854775808<=x by omega) (by omega)];show IntKind.i64.wrap (((BitVec.ofInt 64 (m*256)|||BitVec.ofInt 64 x).toNat:Nat):Int)=_
 rw[BitVec.toNat_or,BitVec.toNat_ofInt,BitVec.toNat_ofInt];have h1:((m*256)%((2^64:Nat):Int)).toNat=2^8*(m%72057594037927936).toNat:=by
  have:((2^64:Nat):Int)=18446744073709551616:=by decide
  rw[this];omega
 have h2:(x%((2^64:Nat):Int)).toNat=x.toNat:=by
  have:((2^64:Nat):Int)=18446744073709551616:=by decide
  rw[this];omega
 rw[h1,h2,←Nat.two_pow_add_eq_or_of_lt (by show x.toNat<2^8;omega)];show (let z:=((2^8*(m%72057594037927936).toNat+x.toNat:Nat):Int)%18446744073709551616;if (true&&decide (z>=9223372036854775808))=true then z-18446744073709551616 else z)=_
 simp only[Bool.true_and,decide_eq_true_eq];split<;>omega
def yP (x:Int):Int:=if x>127 then x-256 else x
def xx (n:Int) (l:List Int):Int:=l.foldl (λn x=>n*256+x) n
theorem Qk {n:Int} {l:List Int} (hn:-256<=n/\n<=256) (hl:xL l) (h3:l.length<=3):∀k,k<=l.length -> -1099511627776<=xx n (l.take k)/\xx n (l.take k)<=1099511627776:=by
 match l,h3 with
 | [],_=>intro k hk;simp only[take_nil,xx,List.foldl];omega
 | [a],_ =>
  have ha:=hl a (by simp);intro k hk
  match k with
  | 0=>simp only[take_zero,xx,List.foldl];omega
  | k+1=>simp only[take_succ_cons,take_nil,xx,List.foldl];omega
 | [a,b],_ =>
  have ha:=hl a (by simp);have hb:=hl b (by simp)
  intro k hk
  match k with
  | 0=>simp only[take_zero,xx,List.foldl];omega
  | 1=>simp only[take_succ_cons,take_zero,xx,List.foldl];omega
  | k+2=>simp only[take_succ_cons,take_nil,xx,List.foldl];omega
 | [a,b,c],_ =>
  have ha:=hl a (by simp);have hb:=hl b (by simp)
  have hc:=hl c (by simp);intro k hk
  match k with
  | 0=>simp only[take_zero,xx,List.foldl];omega
  | 1=>simp only[take_succ_cons,take_zero,xx,List.foldl];omega
  | 2=>simp only[take_succ_cons,take_zero,xx,List.foldl];omega
  | k+3=>simp only[take_succ_cons,take_nil,xx,List.foldl];omega
theorem HW {n:Int} {l:List Int} (hn:-256<=n/\n<=256) (hl:xL l) (h3:l.length<=3) {off:Nat} (step:Int×Int->Option ((Int×Int)⊕Int)) (ho:off<=1000)
 (hs:∀k (hk:k<l.length) m,step (m,((off+k:Nat):Int))=some (.inl (CP .i64 (vA (m*2^8)) (vA l[k]),((off+(k+1):Nat):Int))))
 (he:∀m,step (m,((off+l.length:Nat):Int))=some (.inr m)):loop step (n,(off:Int))=some (xx n l):=by
 obtain⟨b,h1,rfl⟩:=vR (step:=step) (λk z=>z=(xx n (l.take k),((off+k:Nat):Int))) l.length (λb=>b=xx n l)
  (λk z hk e=>by
   subst e;left;refine⟨_,hs k hk _,?_⟩;have ht:l.take (k+1)=l.take k++[l[k]]:=by rw[take_add_one,List.getElem?_eq_getElem hk];rfl
   rw[Vc (Qk hn hl h3 k (by omega)) (hl _ (getElem_mem hk)),ht];unfold xx;rw[List.foldl_append];rfl)
  (λz e=>by
   subst e;exact⟨_,he _,by rw[take_length]⟩) (x:=(n,(off:Int))) rfl
 exact h1
theorem Pc {x0:Int} {l:List Int} (hb:xL (x0::l)) (h3:l.length<=3):-2147483648<=xx (yP x0) l/\xx (yP x0) l<=2147483647/\((xf (xx (yP x0) l)).length=(x0::l).length->x0::l=xf (xx (yP x0) l)):=by
 have h0:=hb x0 (by simp);have hs:(yP x0=x0/\x0<=127)\/(yP x0=x0-256/\128<=x0):=by unfold yP;split<;>omega
 generalize yP x0=s at hs
 match l,h3 with
 | [],_ =>
  simp only[xx,List.foldl];refine⟨by omega,by omega,λ_=>?_⟩;have:vE s (-128) 127=true:=by unfold vE;rw[dT (by omega),dT (by omega)];rfl
  unfold xf;rw[if_pos this,show s%256=x0 by omega]
 | [a],_ =>
  have ha:=hb a (by simp);simp only[xx,List.foldl];refine⟨by omega,by omega,λh=>?_⟩;unfold xf at h ⊢;split at h
  · simp at h
  · split at h
    · next h1 h2=>rw[if_neg h1,if_pos h2,show (s*256+a)/256%256=x0 by omega,show (s*256+a)%256=a by omega]
    · split at h<;>simp at h
 | [a,b],_ =>
  have ha:=hb a (by simp);have hb':=hb b (by simp)
  simp only[xx,List.foldl];refine⟨by omega,by omega,λh=>?_⟩;unfold xf at h ⊢;split at h
  · simp at h
  · split at h
    · simp at h
    · split at h
      · next h1 h2 h3=>rw[if_neg h1,if_neg h2,if_pos h3,show ((s*256+a)*256+b)/65536%256=x0 by omega,show ((s*256+a)*256+b)/256%256=a by omega,show ((s*256+a)*256+b)%256=b by omega]
      · simp at h
 | [a,b,c],_ =>
  have ha:=hb a (by simp);have hb':=hb b (by simp)
  have hc:=hb c (by simp);simp only[xx,List.foldl];refine⟨by omega,by omega,λh=>?_⟩;unfold xf at h ⊢;split at h
  · simp at h
  · split at h
    · simp at h
    · split at h
      · simp at h
      · next h1 h2 h3=>rw[if_neg h1,if_neg h2,if_neg h3,show (((s*256+a)*256+b)*256+c)/16777216%256=x0 by omega,show (((s*256+a)*256+b)*256+c)/65536%256=a by omega,show (((s*256+a)*256+b)*256+c)/256%256=b by omega,show (((s*256+a)*256+b)*256+c)%256=c by omega]
theorem C5 {n:Int} (h:-2147483648<=n/\n<=2147483647):CD n=n:=by unfold CD;split<;>(try split)<;>omega
theorem i8 {x:Int} (hx:0<=x/\x<=255):vA (IntKind.i8.wrap x)=yP x:=by
 have:IntKind.i8.wrap x=yP x:=by
  show (let m:=x%256;if (true&&decide (m>=128))=true then m-256 else m)=_;unfold yP;simp only[Bool.true_and,decide_eq_true_eq];split<;>split<;>omega
 rw[this];unfold yP;split<;>exact vW (by omega) (by omega)
theorem Pd {b:List Int} (hb:xL b) (hn:b.length<=M):∃r,gb b=some r/\fM b=some r/\(r=(0,false)\/∃n,r=(n,true)/\b=xf n /\ -2147483648<=n/\n<=2147483647):=by
 have hn':b.length<=1048576:=hn;unfold gb fM;rw[yB,AG,an,an];cases h14:vE (b.length:Int) 1 4 with
 | false=>exact⟨_,rfl,rfl,.inl rfl⟩
 | true =>
  obtain⟨k1,k4⟩:=wu h14
  match b,k1,k4,hb,hn' with
  | x0::l,k1,k4,hb,hn' =>
   have h3:l.length<=3:=by rw[length_cons]at k4;omega
   have h0:=hb x0 (by simp);have hl:xL l:=λx hx=>hb x (mem_cons_of_mem _ hx)
   obtain⟨d1,d2,d3⟩:=Pc hb h3;have hsg:-256<=yP x0/\yP x0<=256:=by unfold yP;split<;>omega
   have w0:vA x0=x0:=vW (by omega) (by omega);have hcut:cut (x0::l) 1 ((x0::l).length:Int)=some l:=by
    rw[show (1:Int)=((1:Nat):Int)from rfl,yw (by simp) (Nat.le_refl _),take_length];rfl
   have hfin:∀d:Int×Bool,True:=λ_=>trivial;have li:loop (λz:Int×Int=>f6 l z.1 z.2) (yP x0,0)=some (xx (yP x0) l):=HW hsg hl h3 (off:=0) _ (by omega) (λk hk m=>by
    show f6 l m ((0+k:Nat):Int)=_;rw[Nat.zero_add];unfold f6;rw[wm (by omega),cT,vL hk,an,vK (by omega),Nat.zero_add]) (λm=>by
    show f6 l m ((0+l.length:Nat):Int)=_;rw[Nat.zero_add];unfold f6;rw[wg (by omega),cF])
   have hat:∀k (hk:k<l.length),at? (x0::l) ((1+k:Nat):Int)=some l[k]:=λk hk=>by
    rw[vL (by simp;omega)]
    congr 1
    rw[List.getElem_cons,dif_neg (by omega)]
    congr 1;omega
   have ls:loop (λz:Int×Int=>eB (x0::l) z.1 z.2) (yP x0,1)=some (xx (yP x0) l):=HW hsg hl h3 (off:=1) _ (by omega) (λk hk m=>by
    show eB (x0::l) m ((1+k:Nat):Int)=_;unfold eB;rw[wm (show ((1+k:Nat):Int)<((x0::l).length:Int) by rw[length_cons];omega),cT,hat k hk,an,vK (by omega)];rfl) (λm=>by
    show eB (x0::l) m ((1+l.length:Nat):Int)=_;unfold eB;rw[wg (show ¬((1+l.length:Nat):Int)<((x0::l).length:Int) by rw[length_cons];omega),cF])
   have ls1:loop (λz:Int×Int=>eC (x0::l) z.1 z.2) (yP x0,1)=some (xx (yP x0) l):=HW hsg hl h3 (off:=1) _ (by omega) (λk hk m=>by
    show eC (x0::l) m ((1+k:Nat):Int)=_;unfold eC;rw[wm (show ((1+k:Nat):Int)<((x0::l).length:Int) by rw[length_cons];omega),cT,hat k hk,an,vK (by omega)];rfl) (λm=>by
    show eC (x0::l) m ((1+l.length:Nat):Int)=_;unfold eC;rw[wg (show ¬((1+l.length:Nat):Int)<((x0::l).length:Int) by rw[length_cons];omega),cF])
   have fin1:∀(g:Option (List Int)),g=some (xf (xx (yP x0) l))->∃r,(g.bind λt30=>cond ((t30.length:Int) != ((x0::l).length:Int)) (some ((0:Int),false)) (some (xx (yP x0) l,true)))=some r/\(r=(0,false)\/∃n,r=(n,true)/\x0::l=xf n /\ -2147483648<=n/\n<=2147483647):=λg hg=>by
    rw[hg,an];cases he:(((xf (xx (yP x0) l)).length:Int) != ((x0::l).length:Int))with
    | true=>exact⟨_,rfl,.inl rfl⟩
    | false =>
     have he':((xf (xx (yP x0) l)).length:Int)=((x0::l).length:Int):=by simpa using he
     exact⟨_,rfl,.inr ⟨_,rfl,d3 (by omega),d1,d2⟩⟩
   have p1:=Lp (n:=xx (yP x0) l) ⟨by omega,by omega⟩;have p2:=DC (n:=xx (yP x0) l)
   rw[C5 ⟨d1,d2⟩]at p1 p2;obtain⟨r,f1,f2⟩:=fin1 _ p1;have f3:((bp (xx (yP x0) l)).bind λt30=>cond ((t30.length:Int) != ((x0::l).length:Int)) (some ((0:Int),false)) (some (xx (yP x0) l,true)))=some r:=by rw[p2,←p1];exact f1
   refine⟨r,?_,?_,f2⟩
   · rw[Bool.not_true,cF,show at? (x0::l) 0=some x0 from rfl,an];simp only;rw[hcut,an,i8 h0,li,an];exact f1
   · rw[Bool.not_true,cF,show at? (x0::l) 0=some x0 from rfl,an,w0];by_cases h7:x0>127
     · have hsx:vA (x0-256)=yP x0:=by unfold yP;rw[if_pos h7];exact vW (by omega) (by omega)
       rw[dT h7,cT,hsx,ls,an];exact f3
     · have hsx:yP x0=x0:=by unfold yP;rw[if_neg h7]
       rw[hsx]at ls1 f3;rw[dF h7,cF,ls1,an];exact f3

theorem NN:((2^64:Nat):Int)=18446744073709551616:=by decide
theorem Fi {x:Int} (hx:0<=x/\x<9223372036854775808):xM .i64 x 127=x%128:=by
 show IntKind.i64.wrap (((BitVec.ofInt 64 x&&&BitVec.ofInt 64 127).toNat:Nat):Int)=_;rw[BitVec.toNat_and,BitVec.toNat_ofInt,BitVec.toNat_ofInt,NN];have h2:((127:Int)%18446744073709551616).toNat=2^7-1:=by decide
 have h1:(x%18446744073709551616).toNat=x.toNat:=by omega
 rw[h1,h2,Nat.and_two_pow_sub_one_eq_mod];show (let z:=((x.toNat%2^7:Nat):Int)%18446744073709551616;if (true&&decide (z>=9223372036854775808))=true then z-18446744073709551616 else z)=_
 simp only[Bool.true_and,decide_eq_true_eq];split<;>omega
theorem FW {x:Int} (hx:0<=x/\x<=255):xM .u8 x 127=x%128:=by
 show IntKind.u8.wrap (((BitVec.ofInt 8 x&&&BitVec.ofInt 8 127).toNat:Nat):Int)=_;rw[BitVec.toNat_and,BitVec.toNat_ofInt,BitVec.toNat_ofInt,show ((2^8:Nat):Int)=256 by decide];have h2:((127:Int)%256).toNat=2^7-1:=by decide
 have h1:(x%256).toNat=x.toNat:=by omega
 rw[h1,h2,Nat.and_two_pow_sub_one_eq_mod];show (((x.toNat%2^7:Nat):Int)%256)=_
 omega
theorem Tb {x:Int} (hx:0<=x/\x<128):CP .i64 x 128=x+128:=by
 show IntKind.i64.wrap (((BitVec.ofInt 64 x|||BitVec.ofInt 64 128).toNat:Nat):Int)=_;rw[BitVec.toNat_or,BitVec.toNat_ofInt,BitVec.toNat_ofInt,NN];have h2:((128:Int)%18446744073709551616).toNat=2^7*1:=by decide
 have h1:(x%18446744073709551616).toNat=x.toNat:=by omega
 rw[h1,h2,Nat.or_comm,←Nat.two_pow_add_eq_or_of_lt (by show x.toNat<2^7;omega)];show (let z:=((2^7*1+x.toNat:Nat):Int)%18446744073709551616;if (true&&decide (z>=9223372036854775808))=true then z-18446744073709551616 else z)=_
 simp only[Bool.true_and,decide_eq_true_eq];split<;>omega
theorem NO {m x:Int} (hm:0<=m/\m<=1099511627776) (hx:0<=x/\x<128):CP .i64 (vA (m*2^7)) (vA x)=m*128+x:=by
 rw[show m*2^7=m*128 from rfl,vW (show -9223372036854775808<=m*128 by omega) (by omega),vW (show -9223372036854775808<=x by omega) (by omega)];show IntKind.i64.wrap (((BitVec.ofInt 64 (m*128)|||BitVec.ofInt 64 x).toNat:Nat):Int)=_
 rw[BitVec.toNat_or,BitVec.toNat_ofInt,BitVec.toNat_ofInt,NN];have h1:((m*128)%18446744073709551616).toNat=2^7*m.toNat:=by omega
 have h2:(x%18446744073709551616).toNat=x.toNat:=by omega
 rw[h1,h2,←Nat.two_pow_add_eq_or_of_lt (by show x.toNat<2^7;omega)];show (let z:=((2^7*m.toNat+x.toNat:Nat):Int)%18446744073709551616;if (true&&decide (z>=9223372036854775808))=true then z-18446744073709551616 else z)=_
 simp only[Bool.true_and,decide_eq_true_eq];split<;>omega
def grp (n:Int):List Int:=if n<=127 then [n]else if n<=16383 then [n/128+128,n%128]else if n<=2097151 then [n/16384+128,n/128%128+128,n%128]else [n/2097152+128,n/16384%128+128,n/128%128+128,n%128]
def wA (o:List Int):List Int:=o.flatMap grp
theorem Ql {n:Int} (hn:0<=n/\n<268435456):ev n=some (grp n):=by
 unfold ev;have st:∀(x:Int) (out:List Int),0<=x/\x<268435456->out.length<=10->ct x out=cond (decide (x>127)) (some (.inl (x/128,(x/128%128+128)::out))) (some (.inr out)):=λx out hx ho=>by
  unfold ct;rw[fd x (by decide),show (2:Int)^7=128 from rfl,Fi (by omega),Tb (by omega),w8,vF (by simp;omega),an,show (x/128%128+128)%256=x/128%128+128 by omega];rfl
 have goes:∀(x:Int) (out:List Int),0<=x/\x<268435456->out.length<=9->x<=127->loop (λz:Int×List Int=>ct z.1 z.2) (x,out)=some out:=λx out hx ho h=>wj (by show ct x out=_;rw[st x out hx (by omega),dF (by omega)];rfl);have more:∀(x:Int) (out r:List Int),0<=x/\x<268435456->out.length<=9->127<x->loop (λz:Int×List Int=>ct z.1 z.2) (x/128,(x/128%128+128)::out)=some r->loop (λz:Int×List Int=>ct z.1 z.2) (x,out)=some r:=λx out r hx ho h k=>w9 (by show ct x out=_;rw[st x out hx (by omega),dT (by omega)];rfl) k
 rw[Fi (by omega),w8,show n%128%256=n%128 by omega];unfold grp;by_cases h1:n<=127
 · rw[if_pos h1,goes n _ hn (by simp) h1,show n%128=n by omega];rfl
 rw[if_neg h1];by_cases h2:n<=16383
 · rw[if_pos h2,more n _ _ hn (by simp) (by omega) (goes (n/128) _ (by omega) (by simp) (by omega)),show n/128%128=n/128 by omega];rfl
 rw[if_neg h2];by_cases h3:n<=2097151
 · rw[if_pos h3,more n _ _ hn (by simp) (by omega) (more (n/128) _ _ (by omega) (by simp) (by omega) (goes (n/128/128) _ (by omega) (by simp) (by omega))),show n/128/128=n/16384 by omega,show n/16384%128=n/16384 by omega];rfl
 rw[if_neg h3,more n _ _ hn (by simp) (by omega) (more (n/128) _ _ (by omega) (by simp) (by omega) (more (n/128/128) _ _ (by omega) (by simp) (by omega) (goes (n/128/128/128) _ (by omega) (by simp) (by omega)))),show n/128/128=n/16384 by omega,show n/16384/128=n/2097152 by omega,show n/2097152%128=n/2097152 by omega];rfl
theorem Jd (n:Int):(grp n).length<=4:=by unfold grp;split<;>(try split)<;>(try split)<;>simp
theorem Ms (n:Int):1<=(grp n).length:=by unfold grp;split<;>(try split)<;>(try split)<;>simp
theorem Qm {n:Int} (h:n<=100000):(grp n).length<=3:=by unfold grp;split<;>(try split)<;>(try split)<;>simp<;>omega
theorem Bl {o:List Int} (h:∀x∈o,x<=100000):(wA o).length<=3*o.length:=by
 induction o with
 | nil=>simp[wA]
 | cons x t ih =>
  have h1:=ih λy hy=>h y (mem_cons_of_mem _ hy);have h2:=Qm (h x (by simp))
  unfold wA at h1 ⊢;rw[List.flatMap_cons,length_append,length_cons];omega
theorem Vd {n:Int} (hn:0<=n/\n<=100000) {out:List Int} (ho:out.length<=100):∃d,loop (λz=>cB n z) 0=some d/\∃e,loop (λz:Int×List Int=>dJ n z.1 z.2) (d,out)=some e/\e.length<=104/\e++[IntKind.u8.wrap (xM .i64 n 127)]=out++grp n:=by
 have s0:cB n 0=cond (decide (n>127)) (some (.inl 1)) (some (.inr 0)):=by
  unfold cB;rw[show shr .i64 n (vA (7*0))=some (n.fdiv (2^0))from rfl,an,fd n (by decide),show n/2^0=n by simp];rfl
 have s1:cB n 1=cond (decide (n/128>127)) (some (.inl 2)) (some (.inr 1)):=by
  unfold cB;rw[show shr .i64 n (vA (7*1))=some (n.fdiv (2^7))from rfl,an,fd n (by decide),show (2:Int)^7=128 from rfl];rfl
 have s2:cB n 2=some (.inr 2):=by
  unfold cB;rw[show shr .i64 n (vA (7*2))=some (n.fdiv (2^14))from rfl,an,fd n (by decide),show (2:Int)^14=16384 from rfl,dF (by omega)];rfl
 have t0:∀o:List Int,dJ n 0 o=some (.inr o):=λo=>rfl;have t1:∀o:List Int,o.length<=110->dJ n 1 o=some (.inl (0,o++[n/128%128+128])):=λo ho=>by
  unfold dJ;rw[show shr .i64 n (vA (7*1))=some (n.fdiv (2^7))from rfl,an,fd n (by decide),show (2:Int)^7=128 from rfl,Fi (by omega),vW (by omega) (by omega),w8,vF (by simp;omega),an,show (n/128%128+128)%256=n/128%128+128 by omega];rfl
 have t2:∀o:List Int,o.length<=110->dJ n 2 o=some (.inl (1,o++[n/16384%128+128])):=λo ho=>by
  unfold dJ;rw[show shr .i64 n (vA (7*2))=some (n.fdiv (2^14))from rfl,an,fd n (by decide),show (2:Int)^14=16384 from rfl,Fi (by omega),vW (by omega) (by omega),w8,vF (by simp;omega),an,show (n/16384%128+128)%256=n/16384%128+128 by omega];rfl
 rw[Fi (by omega),w8,show n%128%256=n%128 by omega];unfold grp;by_cases h1:n<=127
 · rw[dF (by omega)]at s0;refine⟨0,wj s0,out,wj (t0 out),by omega,?_⟩;rw[if_pos h1,show n%128=n by omega]
 rw[dT (by omega)]at s0;by_cases h2:n<=16383
 · rw[dF (by omega)]at s1;refine⟨1,w9 s0 (wj s1),_,w9 (t1 out (by omega)) (wj (t0 _)),by simp;omega,?_⟩;rw[if_neg h1,if_pos h2,show n/128%128=n/128 by omega];simp
 rw[dT (by omega)]at s1;refine⟨2,w9 s0 (w9 s1 (wj s2)),_,w9 (t2 out (by omega)) (w9 (t1 _ (by simp;omega)) (wj (t0 _))),by simp;omega,?_⟩;rw[if_neg h1,if_neg h2,if_pos (by omega),show n/16384%128=n/16384 by omega];simp
theorem Td {o:List Int} (hn:o.length<=M):∃v,ao o=some v/\(v=true->1<=o.length/\o.length<=10/\∀x∈o,0<=x/\x<=100000)/\dK o=some (cond v (wA o) []):=by
 have hn':o.length<=1048576:=hn;obtain⟨v,hv,hv2⟩:∃v,ao o=some v/\(v=true->1<=o.length/\o.length<=10/\∀x∈o,0<=x/\x<=100000):=by
  unfold ao;obtain⟨b,h1,h2⟩:=vR (β:=Unit⊕Bool) (step:=λz=>aZ o z) (λk i=>i=(k:Int)/\∀x∈o.take k,0<=x/\x<=100000) o.length (λb=>(b=.inl ()/\∀x∈o,0<=x/\x<=100000)\/b=.inr false)
   (λk i hk ⟨e,hx⟩=>by
    subst e;have hs:aZ o (k:Int)=cond (!(vE o[k] 0 100000)) (some (.inr (.inr false))) (some (.inl ((k+1:Nat):Int))):=by
     unfold aZ;rw[wm (by omega),cT,vL hk,an,yB,an,vK (by omega)]
    cases hp:vE o[k] 0 100000 with
    | false=>exact .inr ⟨_,by rw[hs,hp];rfl,.inr rfl⟩
    | true =>
     refine .inl ⟨_,by rw[hs,hp];rfl,rfl,λx hx'=>?_⟩;rw[take_add_one,List.getElem?_eq_getElem hk,mem_append]at hx';rcases hx' with hx'|hx'
     · exact hx x hx'
     · simp at hx';subst hx';exact wu hp)
   (λi ⟨e,hx⟩=>by
    subst e;rw[take_length]at hx;refine⟨.inl (),?_,.inl ⟨rfl,hx⟩⟩;unfold aZ;rw[wg (by omega),cF]) (x:=0) ⟨rfl,by simp⟩
  rw[h1,an];rcases h2 with ⟨rfl,hx⟩|rfl
  · simp only[Sum.elim_inl,yB,an];refine⟨_,rfl,λh=>?_⟩;have:=wu h
    exact⟨by omega,by omega,hx⟩
  · exact⟨false,rfl,λh=>by cases h⟩
 refine⟨v,hv,hv2,?_⟩;unfold dK;rw[hv,an];cases v with
 | false=>rfl
 | true =>
  obtain⟨h1,h10,hx⟩:=hv2 rfl;obtain⟨b,e1,rfl⟩:=vR (step:=λz:Int×List Int=>f7 o z.1 z.2) (λk z=>z=((k:Int),wA (o.take k))) o.length (λb=>b=wA o)
   (λk z hk e=>by
    subst e;left;have hl:(wA (o.take k)).length<=30:=by
     have:=Bl (o:=o.take k) λx hx'=>(hx x (mem_of_mem_take hx')).2;rw[length_take]at this;omega
    obtain⟨d,d1,e,e1,e2,e3⟩:=Vd (hx _ (getElem_mem hk)) (out:=wA (o.take k)) (by omega);have ht:wA (o.take (k+1))=wA (o.take k)++grp o[k]:=by
     unfold wA;rw[take_add_one,List.getElem?_eq_getElem hk,flatMap_append];simp
    refine⟨_,?_,rfl⟩;show f7 o (k:Int) (wA (o.take k))=_
    unfold f7;rw[wm (by omega),cT,vL hk,an,d1,an,e1,an,vF (by simp;omega),an,vK (by omega),ht,←e3])
   (λz e=>by
    subst e;refine⟨wA o,?_,rfl⟩;show f7 o (o.length:Int) (wA (o.take o.length))=_
    unfold f7;rw[wg (by omega),cF,take_length]) (x:=(0,[])) rfl
  rw[e1];rfl

theorem Je {n:Int} (h:0<=n/\n<268435456):xL (grp n):=by
 unfold grp;intro x hx;split at hx
 · simp at hx;omega
 · split at hx
   · simp at hx;omega
   · split at hx
     · simp at hx;omega
     · simp at hx;omega
theorem Ug {pre rest out:List Int} {n:Int} (hn:0<=n/\n<=100000) (hp:pre.length<=30) (ho:out.length<=100) {r:List Int⊕(Bool×List Int)}
 (k:loop (λz:Int×Int×List Int=>ax (pre++(grp n++rest)) z.1 z.2.1 z.2.2) (0,((pre.length+(grp n).length:Nat):Int),out++[n])=some r) :
 loop (λz:Int×Int×List Int=>ax (pre++(grp n++rest)) z.1 z.2.1 z.2.2) (0,(pre.length:Int),out)=some r:=by
 have hg:=Je (n:=n) (by omega);have st:∀(m:Int) (j:Nat) (o:List Int) (hj:j<(grp n).length),0<=m/\m<=1048576->o.length<=100->ax (pre++(grp n++rest)) m ((pre.length+j:Nat):Int) o=cond (decide ((grp n)[j]<128)) (some (.inl (0,((pre.length+(j+1):Nat):Int),o++[m*128+(grp n)[j]%128]))) (some (.inl (m*128+(grp n)[j]%128,((pre.length+(j+1):Nat):Int),o))):=λm j o hj hm ho=>by
  have h4:=Jd n;have hx:=hg _ (getElem_mem hj)
  have hat:at? (pre++(grp n++rest)) ((pre.length+j:Nat):Int)=some (grp n)[j]:=by
   rw[Fh,vL (by rw[length_append];omega),List.getElem_append_left hj]
  unfold ax;rw[wm (show ((pre.length+j:Nat):Int)<((pre++(grp n++rest)).length:Int) by rw[length_append,length_append];omega),cT,hat,an,dF (show ¬((pre.length+j:Nat):Int)>=40 by omega),cF,FW hx,vK (by omega)];have hmin:min2 m 1048576=m:=by unfold min2;split<;>omega
  rw[hmin,NO (by omega) (by omega)];simp only;rw[vF (by simp;omega),an];rfl
 have h4:=Jd n;have hz:(0:Int)*128=0:=rfl
 unfold grp at k st ⊢;by_cases h1:n<=127
 · rw[if_pos h1]at k st ⊢;have s0:=st 0 0 out (by simp) (by omega) ho
   simp only[getElem_cons_zero,Nat.add_zero]at s0;rw[dT (by omega),cT,show (0:Int)*128+n%128=n by omega]at s0;exact w9 s0 k
 rw[if_neg h1]at k st ⊢;by_cases h2:n<=16383
 · rw[if_pos h2]at k st ⊢;have s0:=st 0 0 out (by simp) (by omega) ho
   have s1:=st (n/128) 1 out (by simp) (by omega) ho;simp only[getElem_cons_zero,getElem_cons_succ,Nat.add_zero,Nat.zero_add,Nat.reduceAdd]at s0 s1;rw[dF (by omega),cF,show (0:Int)*128+(n/128+128)%128=n/128 by omega]at s0;rw[dT (by omega),cT,show n/128*128+n%128%128=n by omega]at s1;exact w9 s0 (w9 s1 k)
 rw[if_neg h2]at k st ⊢;rw[if_pos (show n<=2097151 by omega)]at k st ⊢;have s0:=st 0 0 out (by simp) (by omega) ho
 have s1:=st (n/16384) 1 out (by simp) (by omega) ho;have s2:=st (n/128) 2 out (by simp) (by omega) ho
 simp only[getElem_cons_zero,getElem_cons_succ,Nat.add_zero,Nat.zero_add,Nat.reduceAdd]at s0 s1 s2;rw[dF (by omega),cF,show (0:Int)*128+(n/16384+128)%128=n/16384 by omega]at s0;rw[dF (by omega),cF,show n/16384*128+(n/128%128+128)%128=n/128 by omega]at s1;rw[dT (by omega),cT,show n/128*128+n%128%128=n by omega]at s2;exact w9 s0 (w9 s1 (w9 s2 k))
theorem Ls {b:List Int}:∀(o pre out:List Int),b=pre++wA o->(∀x∈o,0<=x/\x<=100000)->b.length<=30->out.length+o.length<=20->loop (λz:Int×Int×List Int=>ax b z.1 z.2.1 z.2.2) (0,(pre.length:Int),out)=some (.inl (out++o))
 | [],pre,out,e,_,hb,_=>by
  have:b.length=pre.length:=by rw[e];simp[wA]
  refine wj ?_;show ax b 0 (pre.length:Int) out=_
  unfold ax;rw[wg (by omega),cF,append_nil]
 | n::o,pre,out,e,hx,hb,hl=>by
  have e1:b=pre++(grp n++wA o):=by rw[e];rfl
  have e2:b=(pre++grp n)++wA o:=by rw[e1,append_assoc]
  have ih:=Ls o (pre++grp n) (out++[n]) e2 (λx h=>hx x (mem_cons_of_mem _ h)) hb (by simp at hl ⊢;omega);rw[length_append,append_assoc]at ih;have hpl:pre.length<=30:=by rw[e1,length_append]at hb;omega
  rw[length_cons]at hl;rw[e1]at ih ⊢;exact Ug (hx n (by simp)) hpl (by omega) ih
theorem Uh {b pre s:List Int} (e:b=pre++s) (hb:xL b) (hn:b.length<=M):∃d:Int×Int×Int×Bool,loop (λz:Int×Int×Int×Bool=>aN b z.1 z.2.1 z.2.2.1 z.2.2.2) ((pre.length:Int),0,0,true)=some d /\
 (d.2.2.2=true\/∃l rest:List Int,s=l++rest/\1<=l.length/\d=(((pre.length+l.length:Nat):Int),d.2.1,(l.length:Int),false)/\0<=d.2.1/\d.2.1<268435456/\((grp d.2.1).length=l.length->l=grp d.2.1))/\0<=d.2.1/\d.2.1<268435456/\0<=d.1/\d.1<=(b.length:Int):=by
 have hn':b.length<=1048576:=hn;have hlen:b.length=pre.length+s.length:=by rw[e,length_append]
 have st:∀(m:Int) (j:Nat) (hj:j<s.length),j<4->0<=m/\m<=2097152->aN b ((pre.length+j:Nat):Int) m (j:Int) true=some (.inl (((pre.length+(j+1):Nat):Int),m*128+s[j]%128,((j+1:Nat):Int),decide (s[j]>127))):=λm j hj h4 hm=>by
  have hx:0<=s[j]/\s[j]<=255:=hb _ (by rw[e];exact List.mem_append_right _ (getElem_mem hj));have hat:at? b ((pre.length+j:Nat):Int)=some s[j]:=by rw[e,Fh,vL hj]
  unfold aN;rw[wm (show ((pre.length+j:Nat):Int)<(b.length:Int) by omega),cT,an,cT,wm (show (j:Int)<4 by omega),an,cT,hat,an,an,FW hx,NO (by omega) (by omega),vK (by omega),vK (by omega)];rfl
 have stop:∀(m:Int) (j:Nat),aN b ((pre.length+j:Nat):Int) m (j:Int) false=some (.inr (((pre.length+j:Nat):Int),m,(j:Int),false)):=λm j=>by
  unfold aN;rfl
 have endd:∀(m:Int) (j:Nat),(s.length<=j\/4<=j)->aN b ((pre.length+j:Nat):Int) m (j:Int) true=some (.inr (((pre.length+j:Nat):Int),m,(j:Int),true)):=λm j h=>by
  unfold aN;rw[cT,an];by_cases h1:((pre.length+j:Nat):Int)<(b.length:Int)
  · rw[wm h1,cT,wg (show ¬(j:Int)<4 by omega)];rfl
  · rw[wg h1,cF];rfl
 have hsx:∀j (hj:j<s.length),0<=s[j]/\s[j]<=255:=λj hj=>hb _ (by rw[e];exact List.mem_append_right _ (getElem_mem hj));by_cases l0:s.length<=0
 · exact⟨_,wj (endd 0 0 (.inl l0)),.inl rfl,by show (0:Int)<=0/\(0:Int)<_/\_;omega⟩
 have a0:=st 0 0 (by omega) (by omega) (by omega);have x0:=hsx 0 (by omega)
 generalize g0:s[0]=y0 at a0 x0;by_cases m0:y0>127
 · rw[dT m0]at a0;by_cases l1:s.length<=1
   · exact⟨_,w9 a0 (wj (endd _ 1 (.inl l1))),.inl rfl,by show 0<=(0:Int)*128+y0%128/\(0:Int)*128+y0%128<_/\(0:Int)<=((pre.length+1:Nat):Int)/\((pre.length+1:Nat):Int)<=_;omega⟩
   have a1:=st (0*128+y0%128) 1 (by omega) (by omega) (by omega);have x1:=hsx 1 (by omega)
   generalize g1:s[1]=y1 at a1 x1;by_cases m1:y1>127
   · rw[dT m1]at a1;by_cases l2:s.length<=2
     · exact⟨_,w9 a0 (w9 a1 (wj (endd _ 2 (.inl l2)))),.inl rfl,by show 0<=((0:Int)*128+y0%128)*128+y1%128/\((0:Int)*128+y0%128)*128+y1%128<_/\(0:Int)<=((pre.length+2:Nat):Int)/\((pre.length+2:Nat):Int)<=_;omega⟩
     have a2:=st ((0*128+y0%128)*128+y1%128) 2 (by omega) (by omega) (by omega);have x2:=hsx 2 (by omega)
     generalize g2:s[2]=y2 at a2 x2;by_cases m2:y2>127
     · rw[dT m2]at a2;by_cases l3:s.length<=3
       · exact⟨_,w9 a0 (w9 a1 (w9 a2 (wj (endd _ 3 (.inl l3))))),.inl rfl,by show 0<=(((0:Int)*128+y0%128)*128+y1%128)*128+y2%128/\(((0:Int)*128+y0%128)*128+y1%128)*128+y2%128<_/\(0:Int)<=((pre.length+3:Nat):Int)/\((pre.length+3:Nat):Int)<=_;omega⟩
       have a3:=st (((0*128+y0%128)*128+y1%128)*128+y2%128) 3 (by omega) (by omega) (by omega);have x3:=hsx 3 (by omega)
       generalize g3:s[3]=y3 at a3 x3;by_cases m3:y3>127
       · rw[dT m3]at a3;exact⟨_,w9 a0 (w9 a1 (w9 a2 (w9 a3 (wj (endd _ 4 (.inr (by omega))))))),.inl rfl,by show 0<=((((0:Int)*128+y0%128)*128+y1%128)*128+y2%128)*128+y3%128/\((((0:Int)*128+y0%128)*128+y1%128)*128+y2%128)*128+y3%128<_/\(0:Int)<=((pre.length+4:Nat):Int)/\((pre.length+4:Nat):Int)<=_;omega⟩
       · rw[dF m3]at a3;have d0:s.drop 0=s[0]::s.drop 1:=drop_eq_getElem_cons (by omega)
         have d1:s.drop 1=s[1]::s.drop 2:=drop_eq_getElem_cons (by omega);have d2:s.drop 2=s[2]::s.drop 3:=drop_eq_getElem_cons (by omega)
         have d3:s.drop 3=s[3]::s.drop 4:=drop_eq_getElem_cons (by omega);have hs:s=y0::y1::y2::y3::s.drop 4:=by
          rw[drop_zero]at d0;exact d0.trans (by rw[g0,d1,g1,d2,g2,d3,g3])
         refine⟨_,w9 a0 (w9 a1 (w9 a2 (w9 a3 (wj (stop _ 4))))),.inr ⟨[y0,y1,y2,y3],s.drop 4,hs,by simp,rfl,?_,?_,?_⟩,?_⟩
         · show 0<=((((0:Int)*128+y0%128)*128+y1%128)*128+y2%128)*128+y3%128;omega
         · show ((((0:Int)*128+y0%128)*128+y1%128)*128+y2%128)*128+y3%128<_;omega
         · show (grp (((((0:Int)*128+y0%128)*128+y1%128)*128+y2%128)*128+y3%128)).length=_->_=grp (((((0:Int)*128+y0%128)*128+y1%128)*128+y2%128)*128+y3%128);intro h;generalize hv:((((0:Int)*128+y0%128)*128+y1%128)*128+y2%128)*128+y3%128=v at h ⊢;unfold grp at h ⊢;split at h
           · simp at h
           · split at h
             · simp at h
             · split at h
               · simp at h
               · next q1 q2 q3=>rw[if_neg q1,if_neg q2,if_neg q3,show v/2097152+128=y0 by omega,show v/16384%128+128=y1 by omega,show v/128%128+128=y2 by omega,show v%128=y3 by omega]
         · show 0<=((((0:Int)*128+y0%128)*128+y1%128)*128+y2%128)*128+y3%128/\((((0:Int)*128+y0%128)*128+y1%128)*128+y2%128)*128+y3%128<_/\(0:Int)<=((pre.length+4:Nat):Int)/\((pre.length+4:Nat):Int)<=_;omega
     · rw[dF m2]at a2;have d0:s.drop 0=s[0]::s.drop 1:=drop_eq_getElem_cons (by omega)
       have d1:s.drop 1=s[1]::s.drop 2:=drop_eq_getElem_cons (by omega);have d2:s.drop 2=s[2]::s.drop 3:=drop_eq_getElem_cons (by omega)
       have hs:s=y0::y1::y2::s.drop 3:=by
        rw[drop_zero]at d0;exact d0.trans (by rw[g0,d1,g1,d2,g2])
       refine⟨_,w9 a0 (w9 a1 (w9 a2 (wj (stop _ 3)))),.inr ⟨[y0,y1,y2],s.drop 3,hs,by simp,rfl,?_,?_,?_⟩,?_⟩
       · show 0<=(((0:Int)*128+y0%128)*128+y1%128)*128+y2%128;omega
       · show (((0:Int)*128+y0%128)*128+y1%128)*128+y2%128<_;omega
       · show (grp ((((0:Int)*128+y0%128)*128+y1%128)*128+y2%128)).length=_->_=grp ((((0:Int)*128+y0%128)*128+y1%128)*128+y2%128);intro h;generalize hv:(((0:Int)*128+y0%128)*128+y1%128)*128+y2%128=v at h ⊢;unfold grp at h ⊢;split at h
         · simp at h
         · split at h
           · simp at h
           · split at h
             · next q1 q2 q3=>rw[if_neg q1,if_neg q2,if_pos q3,show v/16384+128=y0 by omega,show v/128%128+128=y1 by omega,show v%128=y2 by omega]
             · simp at h
       · show 0<=(((0:Int)*128+y0%128)*128+y1%128)*128+y2%128/\(((0:Int)*128+y0%128)*128+y1%128)*128+y2%128<_/\(0:Int)<=((pre.length+3:Nat):Int)/\((pre.length+3:Nat):Int)<=_;omega
   · rw[dF m1]at a1;have d0:s.drop 0=s[0]::s.drop 1:=drop_eq_getElem_cons (by omega)
     have d1:s.drop 1=s[1]::s.drop 2:=drop_eq_getElem_cons (by omega);have hs:s=y0::y1::s.drop 2:=by
      rw[drop_zero]at d0;exact d0.trans (by rw[g0,d1,g1])
     refine⟨_,w9 a0 (w9 a1 (wj (stop _ 2))),.inr ⟨[y0,y1],s.drop 2,hs,by simp,rfl,?_,?_,?_⟩,?_⟩
     · show 0<=((0:Int)*128+y0%128)*128+y1%128;omega
     · show ((0:Int)*128+y0%128)*128+y1%128<_;omega
     · show (grp (((0:Int)*128+y0%128)*128+y1%128)).length=_->_=grp (((0:Int)*128+y0%128)*128+y1%128);intro h;generalize hv:((0:Int)*128+y0%128)*128+y1%128=v at h ⊢;unfold grp at h ⊢;split at h
       · simp at h
       · split at h
         · next q1 q2=>rw[if_neg q1,if_pos q2,show v/128+128=y0 by omega,show v%128=y1 by omega]
         · split at h<;>simp at h
     · show 0<=((0:Int)*128+y0%128)*128+y1%128/\((0:Int)*128+y0%128)*128+y1%128<_/\(0:Int)<=((pre.length+2:Nat):Int)/\((pre.length+2:Nat):Int)<=_;omega
 · rw[dF m0]at a0;have d0:s.drop 0=s[0]::s.drop 1:=drop_eq_getElem_cons (by omega)
   have hs:s=y0::s.drop 1:=by
    rw[drop_zero]at d0;exact d0.trans (by rw[g0])
   refine⟨_,w9 a0 (wj (stop _ 1)),.inr ⟨[y0],s.drop 1,hs,by simp,rfl,?_,?_,?_⟩,?_⟩
   · show 0<=(0:Int)*128+y0%128;omega
   · show (0:Int)*128+y0%128<_;omega
   · show (grp ((0:Int)*128+y0%128)).length=_->_=grp ((0:Int)*128+y0%128);intro h;generalize hv:(0:Int)*128+y0%128=v at h ⊢;unfold grp at h ⊢;split at h
     · next q1=>rw[if_pos q1,show v=y0 by omega]
     · split at h
       · simp at h
       · split at h<;>simp at h
   · show 0<=(0:Int)*128+y0%128/\(0:Int)*128+y0%128<_/\(0:Int)<=((pre.length+1:Nat):Int)/\((pre.length+1:Nat):Int)<=_;omega

def Ve (o:List Int):Prop:=1<=o.length/\o.length<=10/\∀x∈o,0<=x/\x<=100000
theorem Ui {pre rest:List Int} {n:Int} (hn:0<=n/\n<=100000) (hp:pre.length<=1000):loop (λz:Int×Int×Int×Bool=>aN (pre++(grp n++rest)) z.1 z.2.1 z.2.2.1 z.2.2.2) ((pre.length:Int),0,0,true)=some (((pre.length+(grp n).length:Nat):Int),n,((grp n).length:Int),false):=by
 have hg:=Je (n:=n) (by omega);have st:∀(m:Int) (j:Nat) (hj:j<(grp n).length),j<4->0<=m/\m<=2097152->aN (pre++(grp n++rest)) ((pre.length+j:Nat):Int) m (j:Int) true=some (.inl (((pre.length+(j+1):Nat):Int),m*128+(grp n)[j]%128,((j+1:Nat):Int),decide ((grp n)[j]>127))):=λm j hj h4 hm=>by
  have hx:=hg _ (getElem_mem hj);have hat:at? (pre++(grp n++rest)) ((pre.length+j:Nat):Int)=some (grp n)[j]:=by rw[Fh,vL (by rw[length_append];omega),List.getElem_append_left hj]
  unfold aN;rw[wm (show ((pre.length+j:Nat):Int)<((pre++(grp n++rest)).length:Int) by rw[length_append,length_append];omega),cT,an,cT,wm (show (j:Int)<4 by omega),an,cT,hat,an,an,FW hx,NO (by omega) (by omega),vK (by omega),vK (by omega)];rfl
 have stop:∀(m:Int) (j:Nat),aN (pre++(grp n++rest)) ((pre.length+j:Nat):Int) m (j:Int) false=some (.inr (((pre.length+j:Nat):Int),m,(j:Int),false)):=λm j=>by
  unfold aN;rfl
 unfold grp at st stop ⊢;by_cases h1:n<=127
 · rw[if_pos h1]at st stop ⊢;have s0:=st 0 0 (by simp) (by omega) (by omega)
   simp only[getElem_cons_zero]at s0;rw[dF (by omega),show (0:Int)*128+n%128=n by omega]at s0;exact w9 s0 (wj (stop n 1))
 rw[if_neg h1]at st stop ⊢;by_cases h2:n<=16383
 · rw[if_pos h2]at st stop ⊢;have s0:=st 0 0 (by simp) (by omega) (by omega)
   have s1:=st (n/128) 1 (by simp) (by omega) (by omega);simp only[getElem_cons_zero,getElem_cons_succ]at s0 s1;rw[dT (by omega),show (0:Int)*128+(n/128+128)%128=n/128 by omega]at s0;rw[dF (by omega),show n/128*128+n%128%128=n by omega]at s1;exact w9 s0 (w9 s1 (wj (stop n 2)))
 rw[if_neg h2]at st stop ⊢;rw[if_pos (show n<=2097151 by omega)]at st stop ⊢;have s0:=st 0 0 (by simp) (by omega) (by omega)
 have s1:=st (n/16384) 1 (by simp) (by omega) (by omega);have s2:=st (n/128) 2 (by simp) (by omega) (by omega)
 simp only[getElem_cons_zero,getElem_cons_succ]at s0 s1 s2;rw[dT (by omega),show (0:Int)*128+(n/16384+128)%128=n/16384 by omega]at s0;rw[dT (by omega),show n/16384*128+(n/128%128+128)%128=n/128 by omega]at s1;rw[dF (by omega),show n/128*128+n%128%128=n by omega]at s2;exact w9 s0 (w9 s1 (w9 s2 (wj (stop n 3))))
theorem Lt {b:List Int}:∀(o pre out:List Int),b=pre++wA o->(∀x∈o,0<=x/\x<=100000)->b.length<=30->out.length+o.length<=10->loop (λz:Int×List Int=>au b z.1 z.2) ((pre.length:Int),out)=some (.inl ((b.length:Int),out++o))
 | [],pre,out,e,_,hb,_=>by
  have hbl:b.length=pre.length:=by rw[e];simp[wA]
  refine wj ?_;show au b (pre.length:Int) out=_
  unfold au;rw[wg (by omega),cF,an,cF,append_nil,hbl]
 | n::o,pre,out,e,hx,hb,hl=>by
  have e1:b=pre++(grp n++wA o):=by rw[e];rfl
  have e2:b=(pre++grp n)++wA o:=by rw[e1,append_assoc]
  rw[length_cons]at hl;have ih:=Lt o (pre++grp n) (out++[n]) e2 (λx h=>hx x (mem_cons_of_mem _ h)) hb (by simp;omega)
  rw[length_append,append_assoc]at ih;have hpl:pre.length<=30:=by rw[e1,length_append]at hb;omega
  have hg1:=Ms n;have hbl:b.length=pre.length+(grp n).length+(wA o).length:=by rw[e2,length_append,length_append]
  have hr:=Ui (pre:=pre) (rest:=wA o) (hx n (by simp)) (by omega);rw[←e1]at hr;refine w9 ?_ ih;show au b (pre.length:Int) out=_
  unfold au;rw[wm (show (pre.length:Int)<(b.length:Int) by omega),cT,dT (show (out.length:Int)<=10 by omega),an,cT,hr,an];have hx':=hx n (by simp)
  simp only[cF];rw[Ql (by omega),an,an];simp only[bne_self_eq_false,cF];rw[vF (by simp;omega),an]
theorem Lu (a:List Int) (n:Int):wA (a++[n])=wA a++grp n:=by unfold wA;rw[flatMap_append];simp
theorem Te {b:List Int} (hb:xL b) (hn:b.length<=M):∃v,loop (λz:Int×List Int=>au b z.1 z.2) (0,[])=some v/\(v=.inr (false,[])\/∃out s,v=.inl (((wA out).length:Int),out)/\b=wA out++s/\out.length<=11):=by
 have hn':b.length<=1048576:=hn;exact vR (step:=λz:Int×List Int=>au b z.1 z.2) (λk z=>z.2.length=k/\z.1=((wA z.2).length:Int)/\∃s,b=wA z.2++s) 11 (λv=>v=.inr (false,[])\/∃out s,v=.inl (((wA out).length:Int),out)/\b=wA out++s/\out.length<=11)
  (λk z hk ⟨z1,z2,s,z3⟩=>by
   obtain⟨i,out⟩:=z;simp only at z1 z2 z3;subst z2;have hbl:b.length=(wA out).length+s.length:=by rw[←length_append,←z3]
   by_cases hlt:((wA out).length:Int)<(b.length:Int)
   · obtain⟨d,d1,d2,d3,d4,d5,d6⟩:=Uh z3 hb hn;have hs:au b ((wA out).length:Int) out=(cond d.2.2.2 (some true) ((ev d.2.1).bind λt51=>some ((t51.length:Int) != d.2.2.1))).bind λt55=>cond t55 (some (.inr (.inr (false,([]:List Int))))) ((vS out [d.2.1]).bind λzs60=>some (.inl (d.1,zs60))):=by
      unfold au;rw[wm hlt,cT,dT (show (out.length:Int)<=10 by omega),an,cT,d1,an]
     show (∃y,au b ((wA out).length:Int) out=some (.inl y)/\_)\/∃v,au b ((wA out).length:Int) out=some (.inr v)/\_;rw[hs];rcases d2 with d2|⟨l,rest,q1,q2,q3,q4,q5,q6⟩
     · rw[d2];exact .inr ⟨_,rfl,.inl rfl⟩
     · have qb:d.2.2.2=false:=by rw[q3]
       have ql:d.2.2.1=(l.length:Int):=by rw[q3]
       have qa:d.1=(((wA out).length+l.length:Nat):Int):=by rw[q3]
       rw[qb,cF,Ql ⟨q4,q5⟩,an,an,ql];cases hne:(((grp d.2.1).length:Int) != (l.length:Int))with
       | true=>exact .inr ⟨_,rfl,.inl rfl⟩
       | false =>
        have he:((grp d.2.1).length:Int)=(l.length:Int):=by simpa using hne
        have hl:=q6 (by omega);refine .inl ⟨_,by rw[cF,vF (by simp;omega),an],by simp;omega,?_,rest,?_⟩
        · show d.1=((wA (out++[d.2.1])).length:Int);rw[Lu,length_append,qa,←hl]
        · show b=wA (out++[d.2.1])++rest;rw[Lu,←hl,append_assoc,←q1];exact z3
   · refine .inr ⟨.inl (((wA out).length:Int),out),?_,.inr ⟨out,s,rfl,z3,by omega⟩⟩;show au b ((wA out).length:Int) out=_
     unfold au;rw[wg hlt];rfl)
  (λz ⟨z1,z2,s,z3⟩=>by
   obtain⟨i,out⟩:=z;simp only at z1 z2 z3;subst z2;refine⟨.inl (((wA out).length:Int),out),?_,.inr ⟨out,s,rfl,z3,by omega⟩⟩;show au b ((wA out).length:Int) out=_
   unfold au;by_cases hlt:((wA out).length:Int)<(b.length:Int)
   · rw[wm hlt,cT,dF (by omega)];rfl
   · rw[wg hlt];rfl) (x:=(0,[])) ⟨rfl,rfl,b,rfl⟩
theorem JO:∀{a b:List Int},xL a->xL b->xc a=xc b->a=b
 | [],[],_,_,_=>rfl
 | [],_::_,_,_,h=>by simp[xc]at h
 | _::_,[],_,_,h=>by simp[xc]at h
 | x::a,y::b,ha,hb,h=>by
  unfold xc at h;rw[map_cons,map_cons,List.cons.injEq]at h;have hx:=ha x (by simp)
  have hy:=hb y (by simp);have h1:=congrArg UInt8.toNat h.1
  rw[UInt8.toNat_ofNat_of_lt' (by show x.toNat<256;omega),UInt8.toNat_ofNat_of_lt' (by show y.toNat<256;omega)]at h1;rw[JO (λz hz=>ha z (mem_cons_of_mem _ hz)) (λz hz=>hb z (mem_cons_of_mem _ hz)) h.2,show x=y by omega]
theorem HX {o:List Int} (h:∀x∈o,0<=x/\x<=100000):xL (wA o):=by
 intro x hx;obtain⟨n,hn,hx⟩:=List.mem_flatMap.1 hx;have:=h n hn
 exact Je (by omega) x hx
theorem Lv {o:List Int} (h:1<=o.length):1<=(wA o).length:=by
 cases o with
 | nil=>simp at h
 | cons n o =>
  have:=Ms n;unfold wA;rw[List.flatMap_cons,length_append];omega
theorem Tf {b:List Int} (hb:xL b) (hn:b.length<=M):∃v,loop (λz:Int×Int×List Int=>ax b z.1 z.2.1 z.2.2) (0,0,[])=some v/\(v=.inr (false,[])\/∃out,v=.inl out/\out.length<=M):=by
 have hn':b.length<=1048576:=hn;exact vR (step:=λz:Int×Int×List Int=>ax b z.1 z.2.1 z.2.2) (λk z=>z.2.1=(k:Int)/\0<=z.1/\z.2.2.length<=k) b.length (λv=>v=.inr (false,[])\/∃out,v=.inl out/\out.length<=M)
  (λk z hk ⟨z1,z2,z3⟩=>by
   obtain⟨n,i,out⟩:=z;simp only at z1 z2 z3;subst z1;have hx:=hb _ (getElem_mem hk)
   have hm:0<=min2 n 1048576/\min2 n 1048576<=1048576:=by unfold min2;split<;>omega
   show (∃y,ax b n (k:Int) out=some (.inl y)/\_)\/∃v,ax b n (k:Int) out=some (.inr v)/\_;unfold ax;rw[wm (by omega),cT,vL hk,an];by_cases h40:(k:Int)>=40
   · rw[dT h40];exact .inr ⟨_,rfl,.inl rfl⟩
   rw[dF h40,cF,FW hx,NO (by omega) (by omega),vK (by omega)];simp only;by_cases h:b[k]<128
   · rw[dT h,cT,vF (by simp;omega),an];exact .inl ⟨_,rfl,rfl,by show (0:Int)<=0;omega,by simp;omega⟩
   · rw[dF h,cF];exact .inl ⟨_,rfl,rfl,by show 0<=min2 n 1048576*128+b[k]%128;omega,by show out.length<=k+1;omega⟩)
  (λz ⟨z1,z2,z3⟩=>by
   obtain⟨n,i,out⟩:=z;simp only at z1 z2 z3;subst z1;refine⟨.inl out,?_,.inr ⟨out,rfl,by show _<=1048576;omega⟩⟩;show ax b n (b.length:Int) out=_
   unfold ax;rw[wg (by omega),cF]) (x:=(0,0,[])) ⟨rfl,by show (0:Int)<=0;omega,by simp⟩

theorem AA {o:List Int} (h:z9 o=true):Ve o:=by
 unfold z9 at h;rw[aT,Bool.not_eq_true']at h;have h1:=wu h.2
 refine⟨by omega,by omega,λx hx=>?_⟩;obtain⟨k,hk,rfl⟩:=getElem_of_mem hx;have:=any_eq_false.1 h.1 k (mem_range.2 hk)
 unfold J8 at this;simp only[List.getElem?_eq_getElem hk]at this;cases hp:vE o[k] 0 100000 with
 | true=>exact wu hp
 | false=>rw[hp]at this;exact absurd rfl this
theorem Hd {o:List Int} (hn:o.length<=M):dK o=some (cond (z9 o) (wA o) []):=by
 obtain⟨v,h1,h2,h3⟩:=Td hn;rw[FU (by have:o.length<=1048576:=hn;omega)]at h1;cases h1;exact h3
theorem Pe {b:List Int} (hb:xL b) (hn:b.length<=M):∃r,cC b=some r/\cw b=some r/\(r=([],false)\/∃o,r=(o,true)/\b=wA o/\z9 o=true):=by
 have hn':b.length<=1048576:=hn;have both:∀o,z9 o=true->b=wA o->cC b=some (o,true)/\cw b=some (o,true):=by
  intro o ho e;obtain⟨o1,o2,o3⟩:=AA ho;have hbl:b.length<=30:=by rw[e];have:=Bl (o:=o) λx hx=>(o3 x hx).2;omega
  have hpos:=Lv o1;constructor
  · unfold cC;have:=Ls (b:=b) o [] [] (by rw[e];rfl) o3 hbl (by simp;omega)
    simp only[length_nil,Int.natCast_zero,nil_append]at this;have this':loop (λz:Int×Int×List Int=>ax b z.1 z.2.1 z.2.2) (0,0,[])=some (.inl o):=this
    rw[this',an,Sum.elim_inl,Hd (by show _<=1048576;omega),an,ho,cT,←e,beq_eq_false_iff_ne.2 (show ((b.length:Int))≠0 by rw[e];omega),cF,beq_self_eq_true];rfl
  · unfold cw;have:=Lt (b:=b) o [] [] (by rw[e];rfl) o3 hbl (by simp;omega)
    simp only[length_nil,nil_append]at this;have this':loop (λz:Int×List Int=>au b z.1 z.2) (0,[])=some (.inl ((b.length:Int),o)):=this
    rw[this',an,Sum.elim_inl];simp only[bne_self_eq_false,cF];rw[Lm,FU (by omega),an,ho];rfl
 obtain⟨v,v1,v2⟩:=Te hb hn;have sp:cw b=some ([],false)\/∃o,z9 o=true/\b=wA o:=by
  unfold cw;rw[v1,an];rcases v2 with rfl|⟨out,s,rfl,q1,q2⟩
  · exact .inl rfl
  · simp only[Sum.elim_inl];cases hne:(((wA out).length:Int) != (b.length:Int))with
    | true=>exact .inl rfl
    | false =>
     rw[cF,Lm,FU (by omega),an];cases ho:z9 out with
     | false=>exact .inl rfl
     | true =>
      have he:((wA out).length:Int)=(b.length:Int):=by simpa using hne
      have:s=[]:=by
       have:=congrArg List.length q1;rw[length_append]at this;exact length_eq_zero_iff.1 (by omega)
      subst this;exact .inr ⟨out,ho,by rw[q1,append_nil]⟩
 rcases sp with sp|⟨o,ho,e⟩
 · obtain⟨u,u1,u2⟩:=Tf hb hn;have im:cC b=some ([],false)\/∃o,z9 o=true/\b=wA o:=by
    unfold cC;rw[u1,an];rcases u2 with rfl|⟨out,rfl,hl⟩
    · exact .inl rfl
    · rw[Sum.elim_inl,Hd hl,an];cases ho:z9 out with
      | false=>exact .inl rfl
      | true =>
       obtain⟨o1,o2,o3⟩:=AA ho;have hpos:=Lv o1
       rw[cT,beq_eq_false_iff_ne.2 (show (((wA out).length:Int))≠0 by omega),cF];cases hq:(xc (wA out)==xc b)with
       | false=>exact .inl rfl
       | true=>exact .inr ⟨out,ho,(JO (HX o3) hb (eq_of_beq hq)).symm⟩
   rcases im with im|⟨o,ho,e⟩
   · exact⟨_,im,sp,.inl rfl⟩
   · obtain⟨b1,b2⟩:=both o ho e;exact⟨_,b1,b2,.inr ⟨o,rfl,e,ho⟩⟩
 · obtain⟨b1,b2⟩:=both o ho e;exact⟨_,b1,b2,.inr ⟨o,rfl,e,ho⟩⟩

theorem IR:∀{b:List Int},xL b->yv (xc b)=b
 | [],_=>rfl
 | x::b,h=>by
  have hx:=h x (by simp);have ih:=IR (b:=b) λy hy=>h y (mem_cons_of_mem _ hy)
  unfold yv xc at ih ⊢;rw[map_cons,map_cons,ih]
  congr 1
  show ((UInt8.ofNat x.toNat).toNat:Int)=x;rw[UInt8.toNat_ofNat_of_lt' (by show x.toNat<256;omega)];omega
def yh (v:zj):List Int:=cond (v.1==2) (xf v.2.1) (cond (v.1==4) (yv v.2.2.1) (cond (v.1==6) (wA v.2.2.2) []))
theorem Jf {o:List Int} (h:z9 o=true):o.length<=10:=(AA h).2.1
theorem Tg {b:List Int} (hb:xL b) (hn:b.length<=M) {i:Int} (hi:-9223372036854775808<=i/\i<=9223372036854775807):∃r,iR b i=some r/\gZ b i=some r/\(r=((0,0,[],[]),0,false)\/∃v next,r=(v,next,true)/\zp v=true/\Bk b i v.1 (yh v) next):=by
 have hM:M=1048576:=rfl;obtain⟨r,r1,r2,r3⟩:=IQ hb hn hi;unfold iR gZ;rw[r1,r2,an,an];have hrl:r.2.1.length<=250/\xL r.2.1:=by
  rcases r3 with rfl|⟨t,body,next,rfl,h⟩
  · exact⟨by simp,λx hx=>by simp at hx⟩
  · exact⟨h.n,h.b⟩
 have hlM:r.2.1.length<=M:=by omega
 rcases r3 with rfl|⟨t,body,next,rfl,h⟩
 · exact⟨_,rfl,rfl,.inl rfl⟩
 simp only at hrl hlM;simp only[Bool.not_true,cF];by_cases t2:t=2
 · subst t2;obtain⟨g,g1,g2,g3⟩:=Pd hrl.2 hlM;simp only[show ((2:Int)==2)=true from rfl,cT,g1,g2,an];rcases g3 with rfl|⟨n,rfl,q1,q2,q3⟩
   · exact⟨_,rfl,rfl,.inl rfl⟩
   · simp only[Bool.not_true,cF,an,HR (v:=(2,n,[],[])) (by simp),J9 (v:=(2,n,[],[])) (by simp)];cases hv:zp (2,n,[],[])with
     | false=>exact⟨_,rfl,rfl,.inl rfl⟩
     | true=>exact⟨_,rfl,rfl,.inr ⟨_,_,rfl,hv,by have:yh (2,n,[],[])=body:=q1.symm;rw[this];exact h⟩⟩
 rw[beq_eq_false_iff_ne.2 t2];simp only[cF];by_cases t4:t=4
 · subst t4;simp only[show ((4:Int)==4)=true from rfl,cT,Bool.not_true,an,cF,HR (v:=(4,0,xc body,[])) (by simp),J9 (v:=(4,0,xc body,[])) (by simp)];cases hv:zp (4,0,xc body,[])with
   | false=>exact⟨_,rfl,rfl,.inl rfl⟩
   | true=>exact⟨_,rfl,rfl,.inr ⟨_,_,rfl,hv,by have:yh (4,0,xc body,[])=body:=IR h.b;rw[this];exact h⟩⟩
 rw[beq_eq_false_iff_ne.2 t4];simp only[cF];by_cases t6:t=6
 · subst t6;obtain⟨g,g1,g2,g3⟩:=Pe hrl.2 hlM;simp only[show ((6:Int)==6)=true from rfl,cT,g1,g2,an];rcases g3 with rfl|⟨o,rfl,q1,q2⟩
   · exact⟨_,rfl,rfl,.inl rfl⟩
   · have ol:=Jf q2;simp only[Bool.not_true,cF,an,HR (v:=(6,0,[],o)) (by show o.length<=M;omega),J9 (v:=(6,0,[],o)) (by show o.length<=M;omega)];cases hv:zp (6,0,[],o)with
     | false=>exact⟨_,rfl,rfl,.inl rfl⟩
     | true=>exact⟨_,rfl,rfl,.inr ⟨_,_,rfl,hv,by have:yh (6,0,[],o)=body:=q1.symm;rw[this];exact h⟩⟩
 rw[beq_eq_false_iff_ne.2 t6];simp only[cF];cases hz:((body.length:Int)==0)with
 | false=>exact⟨_,rfl,rfl,.inl rfl⟩
 | true =>
  have hb0:body=[]:=length_eq_zero_iff.1 (by have:(body.length:Int)=0:=eq_of_beq hz;omega);simp only[Bool.not_true,cF,an,HR (v:=(t,0,[],[])) (by simp),J9 (v:=(t,0,[],[])) (by simp)];cases hv:zp (t,0,[],[])with
  | false=>exact⟨_,rfl,rfl,.inl rfl⟩
  | true =>
   refine⟨_,rfl,rfl,.inr ⟨_,_,rfl,hv,?_⟩⟩;have:yh (t,0,[],[])=body:=by
    unfold yh;simp only[beq_eq_false_iff_ne.2 t2,beq_eq_false_iff_ne.2 t4,beq_eq_false_iff_ne.2 t6,cF];exact hb0.symm
   rw[this];exact h
theorem Uj {r:Bg} (hb:xL r.1) (hn:r.1.length<=M) (hi:-9223372036854775808<=r.2.1/\r.2.1<=9223372036854775807) (tag:Int):∃d,bZ r tag=some d/\bU r tag=some d/\d.1.1=r.1/\(d.1.2.2=true->d.2=[])/\(r.2.2=true->d.1.2.2=true)/\(d.1.2.2=false->r.2.2=false/\Bk r.1 r.2.1 tag d.2 d.1.2.1)/\(d.1.2.2=true->d.1.2.1=r.2.1):=by
 obtain⟨g,g1,g2,g3⟩:=IQ hb hn hi;unfold bZ bU;rw[g1,g2,an];rcases g3 with rfl|⟨t,body,next,rfl,h⟩
 · cases hr:r.2.2 with
   | true=>exact⟨_,rfl,rfl,rfl,λ_=>rfl,λ_=>rfl,λe=>(by cases e),λ_=>rfl⟩
   | false=>exact⟨_,rfl,rfl,rfl,λ_=>rfl,λ_=>rfl,λe=>(by cases e),λ_=>rfl⟩
 · cases hr:r.2.2 with
   | true=>exact⟨_,rfl,rfl,rfl,λ_=>rfl,λ_=>rfl,λe=>(by cases e),λ_=>rfl⟩
   | false =>
    simp only[cF,Bool.not_true,an];cases ht:(t != tag)with
    | true=>exact⟨_,rfl,rfl,rfl,λ_=>rfl,λ_=>rfl,λe=>(by cases e),λ_=>rfl⟩
    | false =>
     have:t=tag:=by simpa using ht
     subst this;exact⟨_,rfl,rfl,rfl,λe=>(by cases e),λe=>(by cases e),λ_=>⟨by first|rfl|trivial,h⟩,λe=>(by cases e)⟩

structure E0 (r:Bg):Prop where
 b:xL r.1
 n:r.1.length<=M
 lo:0<=r.2.1
 hi:r.2.1<=(r.1.length:Int)
theorem Bk.next {b:List Int} {i t:Int} {body:List Int} {next:Int} (h:Bk b i t body next):0<=next/\next<=(b.length:Int):=by
 obtain⟨pre,rest,e1,e2,e3⟩:=h.ex;have:=congrArg List.length e1
 rw[length_append,length_append]at this;omega
theorem E0.rg {r:Bg} (h:E0 r):-9223372036854775808<=r.2.1/\r.2.1<=9223372036854775807:=by
 have h1:=h.lo;have h2:=h.hi
 have h3:r.1.length<=1048576:=h.n;omega
theorem BA:xL []:=λx hx=>by simp at hx
theorem He {r:Bg} (h:E0 r) (tag:Int):∃d,bZ r tag=some d/\bU r tag=some d/\E0 d.1/\d.1.1=r.1/\xL d.2/\d.2.length<=250/\(d.1.2.2=true->d.2=[])/\(r.2.2=true->d.1.2.2=true)/\(d.1.2.2=false->r.2.2=false/\Bk r.1 r.2.1 tag d.2 d.1.2.1):=by
 obtain⟨d,d1,d2,d3,d4,d5,d6,d7⟩:=Uj h.b h.n h.rg tag;refine⟨d,d1,d2,?_,d3,?_,?_,d4,d5,d6⟩
 · cases hb:d.1.2.2 with
   | true=>exact⟨by rw[d3];exact h.b,by rw[d3];exact h.n,by rw[d7 hb];exact h.lo,by rw[d7 hb,d3];exact h.hi⟩
   | false =>
    have:=(d6 hb).2.next
    exact⟨by rw[d3];exact h.b,by rw[d3];exact h.n,this.1,by rw[d3];exact this.2⟩
 · cases hb:d.1.2.2 with
   | true=>rw[d4 hb];exact BA
   | false=>exact (d6 hb).2.b
 · cases hb:d.1.2.2 with
   | true=>rw[d4 hb];simp
   | false=>exact (d6 hb).2.n
theorem NP {r:Bg} (h:E0 r):∃d,dG r 2=some d/\dt r=some d/\E0 d.1/\d.1.1=r.1/\(r.2.2=true->d.1.2.2=true)/\(d.1.2.2=false->r.2.2=false/\Bk r.1 r.2.1 2 (xf d.2) d.1.2.1 /\ -2147483648<=d.2/\d.2<=2147483647):=by
 obtain⟨d,d1,d2,d3,d4,d5,d6,d7,d8,d9⟩:=He h 2;have hM:M=1048576:=rfl
 obtain⟨g,g1,g2,g3⟩:=Pd d5 (by omega);unfold dG dt;rw[d1,d2,an,an,g1,g2,an];cases hb:d.1.2.2 with
 | true =>
  refine⟨_,rfl,rfl,⟨d3.b,d3.n,d3.lo,d3.hi⟩,d4,λ_=>rfl,λe=>(by cases e)⟩
 | false =>
  obtain⟨q1,q2⟩:=d9 hb;rcases g3 with rfl|⟨n,rfl,e,n1,n2⟩
  · exact⟨_,rfl,rfl,⟨d3.b,d3.n,d3.lo,d3.hi⟩,d4,λ_=>rfl,λe=>(by cases e)⟩
  · refine⟨_,rfl,rfl,⟨d3.b,d3.n,d3.lo,d3.hi⟩,d4,λe=>?_,λ_=>⟨q1,?_,n1,n2⟩⟩
    · rw[q1]at e;cases e
    · rw[←e];exact q2
theorem QO {b:List Int} (hb:xL b) (hn:b.length<=M):∃r,iS b=some r/\hC b=some r/\(r=(([],0,0,[],[]),false)\/∃x,r=(x,true)/\zE x=true/\b=wK 6 (wA x.1)++wK x.2.1 (yh x.2)):=by
 have hM:M=1048576:=rfl;have h0:E0 (b,0,false):=⟨hb,hn,by show (0:Int)<=0;omega,by show (0:Int)<=(b.length:Int);omega⟩
 obtain⟨d,d1,d2,d3,d4,d5,d6,d7,d8,d9⟩:=He h0 6;obtain⟨g,g1,g2,g3⟩:=Pe d5 (by omega);obtain⟨v,v1,v2,v3⟩:=Tg hb hn d3.rg;unfold iS hC;simp only[d1,d2,g1,g2,v1,v2,an];cases hbad:d.1.2.2 with
 | true=>exact⟨_,rfl,rfl,.inl rfl⟩
 | false =>
  simp only[cF,an];obtain⟨_,hp⟩:=d9 hbad;rcases g3 with rfl|⟨o,rfl,go,ho⟩
  · exact⟨_,rfl,rfl,.inl rfl⟩
  simp only[Bool.not_true,cF,an];rcases v3 with rfl|⟨w,next,rfl,hw,hp2⟩
  · exact⟨_,rfl,rfl,.inl rfl⟩
  simp only[Bool.not_true,cF,an];cases hne:(next != (b.length:Int))with
  | true=>exact⟨_,rfl,rfl,.inl rfl⟩
  | false =>
   have hnx:next=(b.length:Int):=by simpa using hne
   refine⟨_,rfl,rfl,.inr ⟨(o,w),rfl,by unfold zE;rw[ho,hw];rfl,?_⟩⟩;obtain⟨p1,r1,e1,e2,e3⟩:=hp.ex;obtain⟨p2,r2,f1,f2,f3⟩:=hp2.ex;have hp1:p1=[]:=by
    have e2':(0:Int)=(p1.length:Int):=e2;exact length_eq_zero_iff.1 (by omega)
   subst hp1;have e1':b=wK 6 d.2++r1:=by simpa using e1
   have hl:p2.length=(wK 6 d.2).length:=by
    rw[e3]at f2;simp at f2;omega
   obtain⟨q1,q2⟩:=List.append_inj (f1.symm.trans e1') hl;have hr2:r2=[]:=by
    have:=congrArg List.length f1;rw[length_append,length_append]at this;exact length_eq_zero_iff.1 (by omega)
   show b=wK 6 (wA o)++wK w.1 (yh w);rw[f1,q1,go,hr2,append_nil]

theorem yz (n:Int):(xf n).length<=4:=by unfold xf;split<;>(try split)<;>(try split)<;>simp
theorem xB (t:Int) {body:List Int}:(wK t body).length<=body.length+3:=by unfold wK;split<;>simp<;>omega
theorem E1 {v:zj} (h:zp v=true):(yh v).length<=30/\vE v.1 0 255=true/\v.2.2.2.length<=10/\v.2.2.1.length<=20:=by
 obtain⟨k,n,s,o⟩:=v;have Dd:∀{x:Int},0<=x->x<=255->vE x 0 255=true:=λh1 h2=>by unfold vE;rw[dT h1,dT h2];rfl
 unfold zp at h;simp only at h;unfold yh;simp only;by_cases h1:(k==5||(k==128||k==130))=true
 · rw[h1,cT]at h;simp only[aT,beq_iff_eq]at h;simp only[Bool.or_eq_true,beq_iff_eq]at h1;obtain⟨_,rfl,ho⟩:=h;rcases h1 with rfl|rfl|rfl<;>exact⟨by simp,by decide,by omega,by simp⟩
 · have h1':(k==5||(k==128||k==130))=false:=by simpa using h1
   rw[h1',cF]at h;by_cases h2:k=2
   · subst h2;simp only[show ((2:Int)==2)=true from rfl,cT,aT,beq_iff_eq]at h ⊢;obtain⟨_,rfl,ho⟩:=h;have:=yz n
     exact⟨by omega,by decide,by omega,by simp⟩
   rw[beq_eq_false_iff_ne.2 h2,cF]at h ⊢;by_cases h4:k=4
   · subst h4;simp only[show ((4:Int)==4)=true from rfl,cT,aT,beq_iff_eq,decide_eq_true_eq]at h ⊢;obtain⟨h5,_,ho⟩:=h;exact⟨by unfold yv;rw[length_map];omega,by decide,by omega,by omega⟩
   rw[beq_eq_false_iff_ne.2 h4,cF]at h ⊢;by_cases h6:k=6
   · subst h6;simp only[show ((6:Int)==6)=true from rfl,cT,aT,beq_iff_eq]at h ⊢;obtain⟨ho,_,rfl⟩:=h;obtain⟨o1,o2,o3⟩:=AA ho;have:=Bl (o:=o) λx hx=>(o3 x hx).2
     exact⟨by omega,by decide,by omega,by simp⟩
   · rw[beq_eq_false_iff_ne.2 h6,cF]at h;cases h
theorem Th {b:List Int} (hb:b.length<=1000) {v:zj} (h:zp v=true):iQ b v=some (b++wK v.1 (yh v)):=by
 obtain⟨l1,l2,l3,l4⟩:=E1 h;have hM:M=1048576:=rfl
 have fin:∀body:List Int,yh v=body->bI b v.1 body=some (b++wK v.1 (yh v)):=λbody e=>by
  subst e;rw[Lr _ hb (by omega),if_pos ⟨l2,by omega⟩]
 unfold iQ;rw[HR (by omega),h,an];simp only[Bool.not_true,cF];by_cases h2:v.1=2
 · have e:yh v=xf v.2.1:=by unfold yh;rw[beq_iff_eq.2 h2];rfl
   have hr:-2147483648<=v.2.1/\v.2.1<=2147483647:=by
    unfold zp at h;rw[h2]at h;simp only[show ((2:Int)==5)=false from rfl,show ((2:Int)==128)=false from rfl,show ((2:Int)==130)=false from rfl,Bool.or_self,cF,show ((2:Int)==2)=true from rfl,cT,aT]at h;exact wu h.1
   rw[beq_iff_eq.2 h2,cT,Lp (by omega),an,C5 hr,fin _ e];rfl
 rw[beq_eq_false_iff_ne.2 h2,cF];by_cases h4:v.1=4
 · have e:yh v=yv v.2.2.1:=by unfold yh;rw[beq_eq_false_iff_ne.2 h2,beq_iff_eq.2 h4];rfl
   rw[beq_iff_eq.2 h4,cT,fin _ e];rfl
 rw[beq_eq_false_iff_ne.2 h4,cF];by_cases h6:v.1=6
 · have e:yh v=wA v.2.2.2:=by unfold yh;rw[beq_eq_false_iff_ne.2 h2,beq_eq_false_iff_ne.2 h4,beq_iff_eq.2 h6];rfl
   have ho:z9 v.2.2.2=true:=by
    unfold zp at h;rw[h6]at h;simp only[show ((6:Int)==5)=false from rfl,show ((6:Int)==128)=false from rfl,show ((6:Int)==130)=false from rfl,Bool.or_self,cF,show ((6:Int)==2)=false from rfl,show ((6:Int)==4)=false from rfl,show ((6:Int)==6)=true from rfl,cT,aT]at h;exact h.1
   rw[beq_iff_eq.2 h6,cT,Hd (by omega),ho,cT,an,fin _ e];rfl
 · have e:yh v=[]:=by unfold yh;rw[beq_eq_false_iff_ne.2 h2,beq_eq_false_iff_ne.2 h4,beq_eq_false_iff_ne.2 h6];rfl
   rw[beq_eq_false_iff_ne.2 h6,cF,fin _ e];rfl
def Db (x:vB):List Int:=wK 6 (wA x.1)++wK x.2.1 (yh x.2)
def B4 (x:vB):List Int:=wK 48 (Db x)
def wI (l:List vB):List Int:=l.flatMap B4
def za (p:wd):List Int:=wK 2 (xf p.2.1)++wK 2 (xf p.2.2.1)++wK 2 (xf p.2.2.2.1)++wK 48 (wI p.2.2.2.2)
theorem yM {p:wd} (h:xG p=true):(∀x∈p.2.2.2.2,zE x=true)/\p.2.2.2.2.length<=10/\vE p.1 0 255=true/\(-2147483648<=p.2.1/\p.2.1<=2147483647)/\(0<=p.2.2.1/\p.2.2.1<=1000)/\(0<=p.2.2.2.1/\p.2.2.2.1<=1000):=by
 obtain⟨k,id,a,b,l⟩:=p;unfold xG at h;simp only[aT,Bool.not_eq_true',decide_eq_true_eq]at h;obtain⟨⟨h1,h2⟩,h3,h4⟩:=h;refine⟨λx hx=>?_,by show l.length<=10;omega,?_⟩
 · obtain⟨j,hj,rfl⟩:=getElem_of_mem hx;have hj':j<l.length:=hj
   have:=any_eq_false.1 h1 j (mem_range.2 hj');unfold bX at this;simp only[List.getElem?_eq_getElem hj']at this;simpa using this
 · have h4:=wu h4;by_cases c1:(k==162||k==165)=true
   · rw[c1,cT,aT]at h3;have q1:=wu h3.1
     have q2:=wu h3.2;simp only[Bool.or_eq_true,beq_iff_eq]at c1;refine⟨?_,h4,q1,q2⟩;rcases c1 with rfl|rfl<;>rfl
   · have c1':(k==162||k==165)=false:=by simpa using c1
     rw[c1',cF]at h3;by_cases c2:(k==160||(k==161||k==163))=true
     · rw[c2,cT,aT]at h3;simp only[beq_iff_eq]at h3;simp only[Bool.or_eq_true,beq_iff_eq]at c2;obtain⟨rfl,rfl⟩:=h3;refine⟨?_,h4,by show (0:Int)<=0/\(0:Int)<=1000;omega,by show (0:Int)<=0/\(0:Int)<=1000;omega⟩;rcases c2 with rfl|rfl|rfl<;>rfl
     · have c2':(k==160||(k==161||k==163))=false:=by simpa using c2
       rw[c2',cF]at h3;cases h3
theorem D1 {x:vB} (h:zE x=true):(Db x).length<=100/\(B4 x).length<=110:=by
 unfold zE at h;rw[aT]at h;obtain⟨l1,_⟩:=E1 h.2;obtain⟨o1,o2,o3⟩:=AA h.1;have h3:=Bl (o:=x.1) λy hy=>(o3 y hy).2
 have h4:=xB 6 (body:=wA x.1);have h5:=xB x.2.1 (body:=yh x.2)
 have h6:(Db x).length<=100:=by unfold Db;rw[length_append];omega
 have h7:=xB 48 (body:=Db x);exact⟨h6,by unfold B4;omega⟩
theorem Lw {b:List Int} (hb:b.length<=900) {n:Int} (hn:-2147483648<=n/\n<=2147483647):f8 b 2 n=some (b++wK 2 (xf n)):=by
 unfold f8;have h4:=yz n
 rw[Lp (by omega),an,C5 hn,Lr _ (by omega) (by show _<=1048576;omega),an,if_pos ⟨by decide,by omega⟩]
theorem Pf {p:wd} (hp:yj M p):gd p=some (if xG p=true/\(wI p.2.2.2.2).length<=250/\(za p).length<=250 then wK p.1 (za p)else []):=by
 unfold gd;rw[Qd hp,an];cases h:xG p with
 | false=>rw[if_neg (by simp)];rfl
 | true =>
  obtain⟨h1,h2,h3,h4,h5,h6⟩:=yM h;have hl:∀k,(wI (p.2.2.2.2.take k)).length<=110*k:=by
   intro k
   induction k with
   | zero=>simp[wI]
   | succ k ih =>
    by_cases hk:k<p.2.2.2.2.length
    · have ht:wI (p.2.2.2.2.take (k+1))=wI (p.2.2.2.2.take k)++B4 p.2.2.2.2[k]:=by
       unfold wI;rw[take_add_one,List.getElem?_eq_getElem hk,flatMap_append];simp
      have:=(D1 (h1 _ (getElem_mem hk))).2;rw[ht,length_append];omega
    · rw[List.take_of_length_le (by omega)]at ih ⊢;omega
  obtain⟨b,e1,rfl⟩:=vR (step:=λz:Int×List Int=>fa p z.1 z.2) (λk z=>z=((k:Int),wI (p.2.2.2.2.take k))) p.2.2.2.2.length (λb=>b=.inl (wI p.2.2.2.2))
   (λk z hk e=>by
    subst e;left;have hx:=h1 _ (getElem_mem hk)
    have hx':=hx;unfold zE at hx';rw[aT]at hx';obtain⟨o1,o2,o3⟩:=AA hx'.1;have hob:=Bl (o:=p.2.2.2.2[k].1) λy hy=>(o3 y hy).2
    have hlk:=hl k;obtain⟨b1,b2⟩:=D1 hx;have ht:wI (p.2.2.2.2.take (k+1))=wI (p.2.2.2.2.take k)++B4 p.2.2.2.2[k]:=by
     unfold wI;rw[take_add_one,List.getElem?_eq_getElem hk,flatMap_append];simp
    have ht6:=xB 6 (body:=wA p.2.2.2.2[k].1);refine⟨_,?_,rfl⟩;show fa p (k:Int) (wI (p.2.2.2.2.take k))=_
    unfold fa;rw[wm (by omega),cT,vL hk,an,Hd (by show _<=1048576;omega),hx'.1,cT,an,Lr _ (by simp) (by show _<=1048576;omega),if_pos ⟨by decide,by omega⟩,an,nil_append,Th (by omega) hx'.2,an];have hone:wK 6 (wA p.2.2.2.2[k].1)++wK p.2.2.2.2[k].2.1 (yh p.2.2.2.2[k].2)=Db p.2.2.2.2[k]:=rfl
    rw[hone,NM _ (by show _<=1048576;omega),if_pos ⟨by decide,by omega⟩,an];simp only[Bool.not_true,cF];have hbb:wK 48 (Db p.2.2.2.2[k])=B4 p.2.2.2.2[k]:=rfl
    rw[hbb,vF (by omega),an,vK (by omega),ht])
   (λz e=>by
    subst e;refine⟨_,?_,rfl⟩;show fa p (p.2.2.2.2.length:Int) (wI (p.2.2.2.2.take p.2.2.2.2.length))=_
    unfold fa;rw[wg (by omega),cF,take_length]) (x:=(0,[])) rfl
  have hal:(wI p.2.2.2.2).length<=1100:=by
   have:=hl p.2.2.2.2.length;rw[take_length]at this;omega
  rw[Bool.not_true,cF,e1,an,Sum.elim_inl,NM _ (by show _<=1048576;omega)];by_cases ha:(wI p.2.2.2.2).length<=250
  · rw[if_pos ⟨by decide,ha⟩,an];simp only[Bool.not_true,cF];have t1:=xB 2 (body:=xf p.2.1)
    have t2:=xB 2 (body:=xf p.2.2.1);have t3:=xB 2 (body:=xf p.2.2.2.1)
    have t4:=xB 48 (body:=wI p.2.2.2.2);have i1:=yz p.2.1
    have i2:=yz p.2.2.1;have i3:=yz p.2.2.2.1
    rw[Lw (by simp) h4,an,nil_append,Lw (by omega) ⟨by omega,by omega⟩,an,Lw (by rw[length_append];omega) ⟨by omega,by omega⟩,an,vF (by simp only[length_append];omega),an];have hbody:wK 2 (xf p.2.1)++wK 2 (xf p.2.2.1)++wK 2 (xf p.2.2.2.1)++wK 48 (wI p.2.2.2.2)=za p:=rfl
    rw[hbody,NM _ (by show _<=1048576;unfold za;simp only[length_append];omega)];by_cases hb:(za p).length<=250
    · rw[if_pos ⟨h3,hb⟩,if_pos ⟨by first|rfl|trivial,ha,hb⟩];rfl
    · rw[if_neg (λe=>hb e.2),if_neg (λe=>hb e.2.2)];rfl
  · rw[if_neg (λe=>ha e.2),if_neg (λe=>ha e.2.1)];rfl

theorem Bk.cons {b P s:List Int} {i t:Int} {x:List Int} {next:Int} (h:Bk b i t x next) (e:b=P++s) (hi:i=(P.length:Int)):∃s',b=(P++wK t x)++s'/\next=((P++wK t x).length:Int):=by
 obtain⟨pre,rest,e1,e2,e3⟩:=h.ex;have hl:pre.length=P.length:=by omega
 obtain⟨q1,q2⟩:=List.append_inj (e1.symm.trans e) hl;subst q1;exact⟨rest,by rw[e1,append_assoc],by rw[e3,length_append]⟩
theorem HY (t:Int) (b:List Int):1<=(wK t b).length:=by unfold wK;simp
theorem yN {x:vB} (h:zE x=true):GL M x:=by
 unfold zE at h;rw[aT]at h;obtain⟨_,_,l3,l4⟩:=E1 h.2;have:=Jf h.1
 have hM:M=1048576:=rfl;exact⟨by omega,by omega,by omega⟩
theorem Qn (l:List vB) (x:vB):wI (l++[x])=wI l++B4 x:=by unfold wI;rw[flatMap_append];simp
noncomputable abbrev QP (K I A B:Int) (c:List Int) (i:Int) (l:List vB):=loop (λz:Int×Int×Int×Int×Int×Int×Int×Int×List Int×Int×Bool×List vB×List vB=>aH z.1 z.2.1 z.2.2.1 z.2.2.2.1 z.2.2.2.2.1 z.2.2.2.2.2.1 z.2.2.2.2.2.2.1 z.2.2.2.2.2.2.2.1 z.2.2.2.2.2.2.2.2.1 z.2.2.2.2.2.2.2.2.2.1 z.2.2.2.2.2.2.2.2.2.2.1 z.2.2.2.2.2.2.2.2.2.2.2.1 z.2.2.2.2.2.2.2.2.2.2.2.2) (0,0,0,0,K,I,A,B,c,i,false,[],l)
noncomputable abbrev K6 (r:Bg) (K I A B:Int) (c:List Int) (i:Int) (l:List vB):=loop (λz:List Int×Int×Bool×Int×Int×Int×Int×List Int×Int×Bool×List vB=>av z.1 z.2.1 z.2.2.1 z.2.2.2.1 z.2.2.2.2.1 z.2.2.2.2.2.1 z.2.2.2.2.2.2.1 z.2.2.2.2.2.2.2.1 z.2.2.2.2.2.2.2.2.1 z.2.2.2.2.2.2.2.2.2.1 z.2.2.2.2.2.2.2.2.2.2) (r.1,r.2.1,r.2.2,K,I,A,B,c,i,false,l)
theorem Ti (r:Bg) (hr:r.2.2=false) (K I A B:Int) {c:List Int} (hc:xL c) (hn:c.length<=M):∀(n:Nat) (l:List vB) (s:List Int),n+l.length=10->c=wI l++s->(∀x∈l,zE x=true) ->
 (QP K I A B c ((wI l).length:Int) l=some (.inr (false,0,0,0,0,[]))/\∃d,K6 r K I A B c ((wI l).length:Int) l=some d/\(d.2.2.1=true\/d.2.2.2.2.2.2.2.2.2.2.length=11)/\d.2.1=r.2.1/\D9 M d.2.2.2.2.2.2.2.2.2.2) \/
 (∃l',c=wI l'/\(∀x∈l',zE x=true)/\l'.length<=10/\QP K I A B c ((wI l).length:Int) l=some (.inl (0,0,0,0,K,I,A,B,c,(c.length:Int),false,[],l'))/\K6 r K I A B c ((wI l).length:Int) l=some (r.1,r.2.1,false,K,I,A,B,c,(c.length:Int),false,l')):=by
 have hM:M=1048576:=rfl;intro n
 induction n with
 | zero =>
  intro l s hl e hx;have hcl:c.length=(wI l).length+s.length:=by rw[e,length_append]
  by_cases hlt:((wI l).length:Int)<(c.length:Int)
  · have h0:E0 (c,((wI l).length:Int),false):=⟨hc,hn,by show (0:Int)<=((wI l).length:Int);omega,by show ((wI l).length:Int)<=(c.length:Int);omega⟩;obtain⟨d,d1,d2,d3,d4,d5,d6,d7,d8,d9⟩:=He h0 48;obtain⟨g,g1,g2,g3⟩:=QO d5 (by omega);have hs:av r.1 r.2.1 r.2.2 K I A B c ((wI l).length:Int) false l=some (.inl (r.1,r.2.1,cond d.1.2.2 true (!g.2),K,I,A,B,d.1.1,d.1.2.1,d.1.2.2,l++[g.1])):=by
     unfold av;rw[hr];simp only[Bool.not_false,cT,wm hlt,an,dT (show (l.length:Int)<=10 by omega),d1,d2,g2];rw[show (cond d.1.2.2 (some true) (some (!g.2)))=some (cond d.1.2.2 true (!g.2)) by cases d.1.2.2<;>rfl,an,vF (by show l.length+1<=_;omega),an]
    have hs2:∀(bd:Bool) (c':List Int) (i':Int) (qb:Bool) (l':List vB),(bd=true\/l'.length=11)->av r.1 r.2.1 bd K I A B c' i' qb l'=some (.inr (r.1,r.2.1,bd,K,I,A,B,c',i',qb,l')):=by
     intro bd c' i' qb l' h;unfold av;rcases h with rfl|h
     · rfl
     · rw[dF (show ¬(l'.length:Int)<=10 by omega)];cases bd with
       | true=>rfl
       | false=>cases h1:decide (i'<(c'.length:Int))<;>simp
    left;refine⟨wj ?_,_,w9 hs (wj (hs2 _ _ _ _ _ (.inr (by rw[length_append];show l.length+1=11;omega)))),.inr (by show (l++[g.1]).length=11;rw[length_append];show l.length+1=11;omega),rfl,?_⟩
    · show aH 0 0 0 0 K I A B c ((wI l).length:Int) false [] l=_;unfold aH;simp only[wm hlt,cT,d1,g1,an,dT (show (l.length:Int)>=10 by omega)];cases g.2<;>rfl
    · refine⟨by show (l++[g.1]).length<=1048576;rw[length_append];show l.length+1<=_;omega,λx hx'=>?_⟩;rcases mem_append.1 hx' with h|h
      · exact yN (hx x h)
      · rw[List.mem_singleton]at h;subst h;rcases g3 with rfl|⟨x,rfl,q,_⟩
        · exact⟨by show 0<=1048576;decide,by show 0<=1048576;decide,by show 0<=1048576;decide⟩
        · exact yN q
  · have hs0:s=[]:=length_eq_zero_iff.1 (by omega);subst hs0;rw[append_nil]at e;right;refine⟨l,e,hx,by omega,wj ?_,wj ?_⟩
    · show aH 0 0 0 0 K I A B c ((wI l).length:Int) false [] l=_;unfold aH;rw[wg hlt,cF,e]
    · show av r.1 r.2.1 r.2.2 K I A B c ((wI l).length:Int) false l=_;unfold av;rw[hr,wg hlt,e];rfl
 | succ n ih =>
  intro l s hl e hx;have hcl:c.length=(wI l).length+s.length:=by rw[e,length_append]
  by_cases hlt:((wI l).length:Int)<(c.length:Int)
  · have h0:E0 (c,((wI l).length:Int),false):=⟨hc,hn,by show (0:Int)<=((wI l).length:Int);omega,by show ((wI l).length:Int)<=(c.length:Int);omega⟩;obtain⟨d,d1,d2,d3,d4,d5,d6,d7,d8,d9⟩:=He h0 48;obtain⟨g,g1,g2,g3⟩:=QO d5 (by omega);have hs:av r.1 r.2.1 r.2.2 K I A B c ((wI l).length:Int) false l=some (.inl (r.1,r.2.1,cond d.1.2.2 true (!g.2),K,I,A,B,d.1.1,d.1.2.1,d.1.2.2,l++[g.1])):=by
     unfold av;rw[hr];simp only[Bool.not_false,cT,wm hlt,an,dT (show (l.length:Int)<=10 by omega),d1,d2,g2];rw[show (cond d.1.2.2 (some true) (some (!g.2)))=some (cond d.1.2.2 true (!g.2)) by cases d.1.2.2<;>rfl,an,vF (by show l.length+1<=_;omega),an]
    rcases g3 with rfl|⟨x,rfl,hxo,hxe⟩
    · left;have hbd:(cond d.1.2.2 true (!false))=true:=by cases d.1.2.2<;>rfl
      refine⟨wj ?_,_,w9 hs (wj (b:=(r.1,r.2.1,true,K,I,A,B,d.1.1,d.1.2.1,d.1.2.2,l++[([],0,0,[],[])])) ?_),.inl rfl,rfl,?_⟩
      · show aH 0 0 0 0 K I A B c ((wI l).length:Int) false [] l=_;unfold aH;simp only[wm hlt,cT,d1,g1,an];rfl
      · show av r.1 r.2.1 (cond d.1.2.2 true (!false)) K I A B d.1.1 d.1.2.1 d.1.2.2 (l++[([],0,0,[],[])])=_;rw[hbd];rfl
      · refine⟨by show (l++[_]).length<=1048576;rw[length_append];show l.length+1<=_;omega,λy hy=>?_⟩;rcases mem_append.1 hy with h|h
        · exact yN (hx y h)
        · rw[List.mem_singleton]at h;subst h;exact⟨by show 0<=1048576;decide,by show 0<=1048576;decide,by show 0<=1048576;decide⟩
    · have hbad:d.1.2.2=false:=by
       cases hb:d.1.2.2 with
       | false=>rfl
       | true =>
        rw[d7 hb]at hxe;have:=congrArg List.length hxe
        have h1:=HY 6 (wA x.1);rw[length_append]at this;simp at this;omega
      obtain⟨_,hp⟩:=d9 hbad;obtain⟨s',e1,e2⟩:=hp.cons (P:=wI l) (s:=s) e rfl;have hb:wK 48 d.2=B4 x:=by unfold B4 Db;rw[←hxe]
      rw[hb,←Qn]at e1 e2;have hdc:d.1.1=c:=d4
      have:=ih (l++[x]) s' (by rw[length_append];show n+(l.length+1)=10;omega) e1 (λy hy=>by
       rcases mem_append.1 hy with h|h
       · exact hx y h
       · rw[List.mem_singleton]at h;subst h;exact hxo)
      have hi:aH 0 0 0 0 K I A B c ((wI l).length:Int) false [] l=some (.inl (0,0,0,0,K,I,A,B,c,((wI (l++[x])).length:Int),false,[],l++[x])):=by
       unfold aH;simp only[wm hlt,cT,d1,g1,an,dF (show ¬(l.length:Int)>=10 by omega),Bool.not_true,cF];rw[vF (by show l.length+1<=_;omega),an,hdc,hbad,e2]
      have hs':av r.1 r.2.1 r.2.2 K I A B c ((wI l).length:Int) false l=some (.inl (r.1,r.2.1,r.2.2,K,I,A,B,c,((wI (l++[x])).length:Int),false,l++[x])):=by
       rw[hs,hdc,hbad,e2,hr];rfl
      rcases this with ⟨i1,dd,i2,i3⟩|⟨l',q1,q2,q3,i1,i2⟩
      · exact .inl ⟨w9 hi i1,dd,w9 hs' i2,i3⟩
      · exact .inr ⟨l',q1,q2,q3,w9 hi i1,w9 hs' i2⟩
  · have hs0:s=[]:=length_eq_zero_iff.1 (by omega);subst hs0;rw[append_nil]at e;right;refine⟨l,e,hx,by omega,wj ?_,wj ?_⟩
    · show aH 0 0 0 0 K I A B c ((wI l).length:Int) false [] l=_;unfold aH;rw[wg hlt,cF,e]
    · show av r.1 r.2.1 r.2.2 K I A B c ((wI l).length:Int) false l=_;unfold av;rw[hr,wg hlt,e];rfl

theorem Vf (r:Bg) (hr:r.2.2=true) (K I A B:Int) (c:List Int):K6 r K I A B c 0 []=some (r.1,r.2.1,true,K,I,A,B,c,0,false,[]):=by
 refine wj ?_;show av r.1 r.2.1 r.2.2 K I A B c 0 false []=_
 unfold av;rw[hr];rfl
theorem yj.of {p:wd} (h:∀x∈p.2.2.2.2,zE x=true) (h2:p.2.2.2.2.length<=11):yj M p:=⟨by show _<=1048576;omega,λx hx=>yN (h x hx)⟩
theorem Tj {b:List Int} (hb:xL b) (hn:b.length<=M):∃r,iT b=some r/\hN b=some r/\(r=((0,0,0,0,[]),false)\/∃p,r=(p,true)/\xG p=true/\yj M p):=by
 have hM:M=1048576:=rfl;obtain⟨t,t1,t2,t3⟩:=IQ hb hn (i:=0) (by omega);have htb:t.2.1.length<=250/\xL t.2.1:=by
  rcases t3 with rfl|⟨k,body,next,rfl,h⟩
  · exact⟨by simp,BA⟩
  · exact⟨h.n,h.b⟩
 have h0:E0 (t.2.1,0,false):=⟨htb.2,by show t.2.1.length<=M;omega,by show (0:Int)<=0;omega,by show (0:Int)<=(t.2.1.length:Int);omega⟩;obtain⟨d1,a1,b1,c1,e1,f1,g1⟩:=NP h0;obtain⟨d2,a2,b2,c2,e2,f2,g2⟩:=NP c1;obtain⟨d3,a3,b3,c3,e3,f3,g3⟩:=NP c2;obtain⟨d4,a4,b4,c4,e4,m4,n4,k4,f4,g4⟩:=He c3 48;unfold iT hN;simp only[t1,t2,a1,b1,a2,b2,a3,b3,a4,b4,an];have sp:∃d,K6 d4.1 t.1 d1.2 d2.2 d3.2 d4.2 0 []=some d/\d.2.1=d4.1.2.1/\(d4.1.2.2=true->d.2.2.1=true)/\D9 M d.2.2.2.2.2.2.2.2.2.2:=by
  cases hbad:d4.1.2.2 with
  | true=>exact⟨_,Vf d4.1 hbad _ _ _ _ _,rfl,λ_=>rfl,⟨by show 0<=1048576;decide,λx hx=>by simp at hx⟩⟩
  | false =>
   rcases Ti d4.1 hbad t.1 d1.2 d2.2 d3.2 m4 (by omega) 10 [] d4.2 rfl rfl (by simp)with ⟨_,d,q1,_,q3,q4⟩|⟨l',q1,q2,q3,_,q4⟩
   · exact⟨d,q1,q3,λe=>(by cases e),q4⟩
   · exact⟨_,q4,rfl,λe=>(by cases e),⟨by show l'.length<=1048576;omega,λx hx=>yN (q2 x hx)⟩⟩
 obtain⟨d,s1,s2,s3,s4⟩:=sp;have s1':loop (λz:List Int×Int×Bool×Int×Int×Int×Int×List Int×Int×Bool×List vB=>av z.1 z.2.1 z.2.2.1 z.2.2.2.1 z.2.2.2.2.1 z.2.2.2.2.2.1 z.2.2.2.2.2.2.1 z.2.2.2.2.2.2.2.1 z.2.2.2.2.2.2.2.2.1 z.2.2.2.2.2.2.2.2.2.1 z.2.2.2.2.2.2.2.2.2.2) (d4.1.1,d4.1.2.1,d4.1.2.2,t.1,d1.2,d2.2,d3.2,d4.2,0,false,[])=some d:=s1
 rw[s1',an];have pd:bP (d.2.2.2.1,d.2.2.2.2.1,d.2.2.2.2.2.1,d.2.2.2.2.2.2.1,d.2.2.2.2.2.2.2.2.2.2)=some (xG (d.2.2.2.1,d.2.2.2.2.1,d.2.2.2.2.2.1,d.2.2.2.2.2.2.1,d.2.2.2.2.2.2.2.2.2.2)):=NE (p:=(d.2.2.2.1,d.2.2.2.2.1,d.2.2.2.2.2.1,d.2.2.2.2.2.2.1,d.2.2.2.2.2.2.2.2.2.2)) s4
 simp only[pd,an];cases hok:t.2.2.2 with
 | false=>exact⟨_,rfl,rfl,.inl rfl⟩
 | true =>
 simp only[Bool.not_true,cF,an];cases hnx:(t.2.2.1 != (b.length:Int))with
 | true=>exact⟨_,rfl,rfl,.inl rfl⟩
 | false =>
 simp only[cF,an];unfold jI;cases hbad:d4.1.2.2 with
 | true =>
  rw[s3 hbad];exact⟨_,rfl,rfl,.inl rfl⟩
 | false =>
 simp only[Bool.not_false,cT,an];have hlen:d4.1.1=t.2.1:=by rw[e4,e3,e2,e1]
 rw[s2,hlen];cases hat:(d4.1.2.1==(t.2.1.length:Int))with
 | false =>
  have:(d4.1.2.1 != (t.2.1.length:Int))=true:=by rw[bne,hat];rfl
  rw[this];refine⟨((0,0,0,0,[]),false),rfl,?_,.inl rfl⟩;cases d.2.2.1<;>rfl
 | true =>
 have hat':(d4.1.2.1 != (t.2.1.length:Int))=false:=by rw[bne,hat];rfl
 rw[hat'];simp only[Bool.not_true,cF];obtain⟨x3,p4⟩:=g4 hbad;obtain⟨x2,p3,i3⟩:=g3 x3;obtain⟨x1,p2,i2⟩:=g2 x2;obtain⟨_,p1,i1⟩:=g1 x1;rcases t3 with rfl|⟨k,body,next,rfl,hp⟩
 · cases hok
 simp only at p1 hat hnx hlen;have p1':Bk body 0 2 (xf d1.2) d1.1.2.1:=p1
 have p2':Bk body d1.1.2.1 2 (xf d2.2) d2.1.2.1:=by rw[e1]at p2;exact p2
 have p3':Bk body d2.1.2.1 2 (xf d3.2) d3.1.2.1:=by rw[e2,e1]at p3;exact p3
 have p4':Bk body d3.1.2.1 48 d4.2 d4.1.2.1:=by rw[e3,e2,e1]at p4;exact p4
 obtain⟨s1x,y1,z1⟩:=p1'.cons (P:=[]) (s:=body) rfl rfl;obtain⟨s2x,y2,z2⟩:=p2'.cons y1 z1;obtain⟨s3x,y3,z3⟩:=p3'.cons y2 z2;obtain⟨s4x,y4,z4⟩:=p4'.cons y3 z3;have hs4:s4x=[]:=by
  have h1:=congrArg List.length y4;rw[length_append]at h1;have h2:d4.1.2.1=(body.length:Int):=eq_of_beq hat
  exact length_eq_zero_iff.1 (by omega)
 subst hs4;rw[append_nil,nil_append]at y4;obtain⟨u1,u2,u3⟩:∃rest,b=wK k body++rest/\rest=[]:=by
  obtain⟨s',w1,w2⟩:=hp.cons (P:=[]) (s:=b) rfl rfl;refine⟨s',by simpa using w1,?_⟩;have h1:=congrArg List.length w1
  rw[length_append]at h1;have h2:next=(b.length:Int):=by simpa using hnx
  exact length_eq_zero_iff.1 (by omega)
 subst u3;rw[append_nil]at u2;rcases Ti d4.1 hbad k d1.2 d2.2 d3.2 m4 (by omega) 10 [] d4.2 rfl rfl (by simp)with ⟨j1,dd,j2,j3,_,_⟩|⟨l',w1,w2,w3,j1,j2⟩
 · have hdd:dd=d:=by
    have:some dd=some d:=j2.symm.trans s1;exact Option.some.inj this
   subst hdd;have j1':loop (λz:Int×Int×Int×Int×Int×Int×Int×Int×List Int×Int×Bool×List vB×List vB=>aH z.1 z.2.1 z.2.2.1 z.2.2.2.1 z.2.2.2.2.1 z.2.2.2.2.2.1 z.2.2.2.2.2.2.1 z.2.2.2.2.2.2.2.1 z.2.2.2.2.2.2.2.2.1 z.2.2.2.2.2.2.2.2.2.1 z.2.2.2.2.2.2.2.2.2.2.1 z.2.2.2.2.2.2.2.2.2.2.2.1 z.2.2.2.2.2.2.2.2.2.2.2.2) (0,0,0,0,k,d1.2,d2.2,d3.2,d4.2,0,false,[],[])=some (.inr (false,0,0,0,0,[])):=j1
   rw[j1',an,Sum.elim_inr];refine⟨((0,0,0,0,[]),false),rfl,?_,.inl rfl⟩;cases hd:dd.2.2.1 with
   | true=>rfl
   | false =>
    have h11:dd.2.2.2.2.2.2.2.2.2.2.length=11:=by
     rcases j3 with h|h
     · rw[hd]at h;cases h
     · exact h
    have hpf:xG (dd.2.2.2.1,dd.2.2.2.2.1,dd.2.2.2.2.2.1,dd.2.2.2.2.2.2.1,dd.2.2.2.2.2.2.2.2.2.2)=false:=by
     unfold xG;rw[dF (show ¬((dd.2.2.2.2.2.2.2.2.2.2.length:Nat):Int)<=10 by omega),Bool.and_false,Bool.false_and]
    rw[hpf];simp only[cF,an];cases (dd.2.2.2.2.2.2.2.2.1 != (dd.2.2.2.2.2.2.2.1.length:Int))<;>rfl
 · have hdd:d=(d4.1.1,d4.1.2.1,false,k,d1.2,d2.2,d3.2,d4.2,(d4.2.length:Int),false,l'):=by
    have:some d=some (d4.1.1,d4.1.2.1,false,k,d1.2,d2.2,d3.2,d4.2,(d4.2.length:Int),false,l'):=s1.symm.trans j2;exact Option.some.inj this
   subst hdd;have j1':loop (λz:Int×Int×Int×Int×Int×Int×Int×Int×List Int×Int×Bool×List vB×List vB=>aH z.1 z.2.1 z.2.2.1 z.2.2.2.1 z.2.2.2.2.1 z.2.2.2.2.2.1 z.2.2.2.2.2.2.1 z.2.2.2.2.2.2.2.1 z.2.2.2.2.2.2.2.2.1 z.2.2.2.2.2.2.2.2.2.1 z.2.2.2.2.2.2.2.2.2.2.1 z.2.2.2.2.2.2.2.2.2.2.2.1 z.2.2.2.2.2.2.2.2.2.2.2.2) (0,0,0,0,k,d1.2,d2.2,d3.2,d4.2,0,false,[],[])=some (.inl (0,0,0,0,k,d1.2,d2.2,d3.2,d4.2,(d4.2.length:Int),false,[],l')):=j1
   rw[j1',an,Sum.elim_inl];have hpl:yj M (k,d1.2,d2.2,d3.2,l'):=yj.of (p:=(k,d1.2,d2.2,d3.2,l')) w2 (by show l'.length<=11;omega)
   have hbody:body=za (k,d1.2,d2.2,d3.2,l'):=by
    rw[y4,w1];rfl
   simp only[Pf hpl,an,bne_self_eq_false,cF];cases hpp:xG (k,d1.2,d2.2,d3.2,l')with
   | false =>
    rw[if_neg (by simp)];exact⟨_,rfl,rfl,.inl rfl⟩
   | true =>
    have hal:(wI l').length<=250:=by rw[←w1];exact n4
    rw[if_pos ⟨rfl,hal,by rw[←hbody];exact hp.n⟩,←hbody,←u2];have hb1:((b.length:Int)==0)=false:=beq_eq_false_iff_ne.2 (by
     have:=HY k body;rw[←u2]at this;omega)
    rw[hb1,beq_self_eq_true];exact⟨_,rfl,rfl,.inr ⟨_,rfl,hpp,hpl⟩⟩

theorem Tk (w:List UInt8) {b:List Int} (hb:xL b) (hn:b.length<=M):∃r,fb w b=some r/\fN w b=some r/\yj M r.1/\(r.2=0->xG r.1=true):=by
 have hM:M=1048576:=rfl;have nil:yj M ((0,0,0,0,[]):wd):=⟨by show 0<=1048576;decide,λx hx=>by simp at hx⟩
 obtain⟨t,t1,t2,t3⟩:=IQ hb hn (i:=0) (by omega);have htb:t.2.1.length<=250/\xL t.2.1:=by
  rcases t3 with rfl|⟨k,body,next,rfl,h⟩
  · exact⟨by simp,BA⟩
  · exact⟨h.n,h.b⟩
 have h0:E0 (t.2.1,0,false):=⟨htb.2,by show t.2.1.length<=M;omega,by show (0:Int)<=0;omega,by show (0:Int)<=(t.2.1.length:Int);omega⟩;obtain⟨d1,a1,b1,c1,e1,f1,g1⟩:=NP h0;obtain⟨d2,a2,b2,c2,e2,m2,n2,k2,f2,g2⟩:=He c1 4;have hlen:d2.1.1=t.2.1:=by rw[e2,e1]
 have hlo:=c2.lo;have hhi:=c2.hi
 rw[hlen]at hhi;obtain⟨j,hj⟩:∃j:Nat,d2.1.2.1=(j:Int):=⟨d2.1.2.1.toNat,by omega⟩;have hcut:cut t.2.1 d2.1.2.1 (t.2.1.length:Int)=some (t.2.1.drop j):=by
  rw[hj,yw (by omega) (Nat.le_refl _),take_length]
 obtain⟨g,p1,p2,p3⟩:=Tj (b:=t.2.1.drop j) (λx hx=>htb.2 x (List.mem_of_mem_drop hx)) (by rw[length_drop];omega);unfold fb fN;simp only[t1,t2,a1,b1,a2,b2,an,hcut,p1,p2];cases (!t.2.2.2)with
 | true=>exact⟨_,rfl,rfl,nil,λe=>(by cases e)⟩
 | false =>
 simp only[cF,an];cases (t.1 != 48)with
 | true=>exact⟨_,rfl,rfl,nil,λe=>(by cases e)⟩
 | false =>
 simp only[cF,an];cases (t.2.2.1 != (b.length:Int))with
 | true=>exact⟨_,rfl,rfl,nil,λe=>(by cases e)⟩
 | false =>
 simp only[cF,an];cases d2.1.2.2 with
 | true=>exact⟨_,rfl,rfl,nil,λe=>(by cases e)⟩
 | false =>
 simp only[cF,an];cases (d1.2 != 1)with
 | true=>exact⟨_,rfl,rfl,nil,λe=>(by cases e)⟩
 | false =>
 simp only[cF,an];cases (xc d2.2==w)with
 | false=>exact⟨_,rfl,rfl,nil,λe=>(by cases e)⟩
 | true =>
 simp only[Bool.not_true,cF];rcases p3 with rfl|⟨p,rfl,q1,q2⟩
 · exact⟨_,rfl,rfl,nil,λe=>(by cases e)⟩
 · exact⟨_,rfl,rfl,q2,λ_=>q1⟩

def AB (p:wd):List Int:=if xG p=true/\(wI p.2.2.2.2).length<=250/\(za p).length<=250 then wK p.1 (za p)else []
def xm (p:wd):Bool:=vE ((AB p).length:Int) 1 120
theorem Hf {p:wd} (hp:yj M p):bb p=some (xm p):=by
 unfold bb;rw[Pf hp,an];show (ac ((AB p).length:Int) 1 120).bind _=_
 rw[yB,an];rfl
theorem RO {p:wd} (h:xm p=true):xG p=true:=by
 unfold xm AB at h;split at h
 · rename_i hh;exact hh.1
 · obtain⟨h1,_⟩:=wu h;simp at h1
theorem E2 {α β:Type} {l:List α} {g:α->β} {step:Int×List β->Option ((Int×List β)⊕List β)} (hn:l.length<=M)
 (h1:∀k (hk:k<l.length) (out:List β),out.length=k->step ((k:Int),out)=some (.inl (((k+1:Nat):Int),out++[g l[k]]))) (h2:∀out,step ((l.length:Int),out)=some (.inr out)):loop step (0,[])=some (l.map g):=by
 obtain⟨b,e1,rfl⟩:=vR (step:=step) (λk z=>z=((k:Int),(l.take k).map g)) l.length (λb=>b=l.map g)
  (λk z hk e=>by
   subst e;refine .inl ⟨_,h1 k hk _ (by rw[length_map,length_take];omega),?_⟩;rw[take_add_one,List.getElem?_eq_getElem hk,map_append];rfl)
  (λz e=>by
   subst e;exact⟨_,h2 _,by rw[take_length]⟩) (x:=(0,[])) rfl
 exact e1
noncomputable def xr (b:vw) (o:List Int):vB:=(bL b o).getD ([],0,0,[],[])
noncomputable def E3 (b:vw) (o:List Int):zj:=(cI b o).getD (0,0,[],[])
theorem Hg {b:vw} (h:wH b) {o:List Int} (ho:o.length<=1000):bL b o=some (xr b o)/\((xr b o∈yI b/\o<(xr b o).1)\/(xr b o=(o,130,0,[],[])/\∀x∈yI b,¬o<x.1)):=by
 obtain⟨j,hj⟩:=Ub (Q7 h) o;have e:=Uc h ho hj
 unfold xr;rw[e];refine⟨rfl,?_⟩;by_cases hl:j<(yI b).length
 · rw[dif_pos hl];exact .inl ⟨getElem_mem hl,hj.yes j hl (Nat.le_refl _)⟩
 · rw[dif_neg hl];refine .inr ⟨rfl,λx hx=>?_⟩;obtain⟨i,hi,rfl⟩:=getElem_of_mem hx;exact hj.no i hi (by omega)
theorem Qo {b:vw} (h:wH b) {o:List Int} (ho:o.length<9223372036854775807):cI b o=some (E3 b o)/\((∃x∈yI b,x.1=o/\E3 b o=x.2)\/((∀x∈yI b,x.1≠o)/\E3 b o=(128,0,[],[]))):=by
 obtain⟨v,e,hv⟩:=V0 h ho;unfold E3;rw[e];exact⟨rfl,hv⟩
theorem Mt {o:List Int} (h:Nm o):z9 o=true:=by
 have h1:=h.ok;rw[FU (by have:=h.n10;omega)]at h1;exact Option.some.inj h1
theorem Mu {v:zj} (h:Vl v):zp v=true:=by
 have h1:=h.ok;rw[HR (by rw[h.o];show 0<=1048576;omega)]at h1;exact Option.some.inj h1
theorem Aj {o:List Int} (h:z9 o=true):o.length<=10:=(AA h).2.1
theorem Uk {b:vw} (h:wH b) {x:vB} (hx:x∈yI b):zE x=true:=by
 obtain⟨h1,h2⟩:=Cz h x hx;unfold zE;rw[Mt h1,Mu h2];rfl
theorem Fj {b:vw} (h:wH b) {o:List Int} (ho:z9 o=true):zE (xr b o)=true:=by
 obtain⟨_,h1⟩:=Hg h (o:=o) (by have:=Aj ho;omega);rcases h1 with ⟨h1,_⟩|⟨h1,_⟩
 · exact Uk h h1
 · rw[h1];unfold zE;rw[ho];rfl
theorem zc {x:vB} (h:zE x=true):z9 x.1=true:=by
 unfold zE at h;rw[aT]at h;exact h.1
theorem QQ {b:vw} (h:wH b) {o:List Int} (ho:o.length<9223372036854775807):zp (E3 b o)=true:=by
 obtain⟨_,h1⟩:=Qo h ho;rcases h1 with ⟨x,hx,_,e⟩|⟨_,e⟩
 · rw[e];exact Mu (Cz h x hx).2
 · rw[e];rfl
def AY (s:List vB×List (List Int)):Nat:=min s.2.length (10-s.1.length)
noncomputable def Dd (b:vw) (s:List vB×List (List Int)):List vB×List (List Int):=(s.1++(s.2.take (AY s)).map (xr b),(s.2.take (AY s)).map (λo=>(xr b o).1)++s.2.drop (AY s))
noncomputable def CE (b:vw):Nat->List vB×List (List Int)->List vB×List (List Int)
 | 0,s=>s
 | k+1,s=>if 0<s.2.length/\s.1.length<10 then CE b k (Dd b s)else s
structure GT (s:List vB×List (List Int)):Prop where
 o10:s.1.length<=10
 l10:s.2.length<=10
 oOk:∀x∈s.1,zE x=true
 lOk:∀o∈s.2,z9 o=true
theorem Pg {b:vw} (h:wH b) {s:List vB×List (List Int)} (hs:GT s):GT (Dd b s):=by
 obtain⟨h1,h2,h3,h4⟩:=hs;refine⟨?_,?_,λx hx=>?_,λo ho=>?_⟩
 · show (s.1++_).length<=10;rw[length_append,length_map,length_take];unfold AY;omega
 · show (_++s.2.drop (AY s)).length<=10;rw[length_append,length_map,length_take,length_drop];unfold AY;omega
 · rcases mem_append.1 hx with hx|hx
   · exact h3 x hx
   · obtain⟨o,ho,rfl⟩:=mem_map.1 hx;exact Fj h (h4 o (mem_of_mem_take ho))
 · rcases mem_append.1 ho with ho|ho
   · obtain⟨q,hq,rfl⟩:=mem_map.1 ho;exact zc (Fj h (h4 q (mem_of_mem_take hq)))
   · exact h4 o (List.mem_of_mem_drop ho)
theorem Vg {b:vw} (h:wH b) {s:List vB×List (List Int)} (hs:GT s):loop (λz=>dL b s.2 z.1 z.2.1 z.2.2) (0,s.1,s.2)=some (Dd b s):=by
 obtain⟨out,l⟩:=s;obtain⟨h1,h2,h3,h4⟩:=hs;simp only at h1 h2 h3 h4;have hm:AY (out,l)=min l.length (10-out.length):=rfl
 obtain⟨v,e1,rfl⟩:=vR (step:=λz:Int×List vB×List (List Int)=>dL b l z.1 z.2.1 z.2.2) (λk z=>z=((k:Int),out++(l.take k).map (xr b),(l.take k).map (λo=>(xr b o).1)++l.drop k)) (AY (out,l)) (λv=>v=Dd b (out,l))
  (λk z hk e=>by
   subst e;left;have hkl:k<l.length:=by omega
   have hlen:((l.take k).map (λo=>(xr b o).1)++l.drop k).length=l.length:=by rw[length_append,length_map,length_take,length_drop];omega
   have hol:(out++(l.take k).map (xr b)).length=out.length+k:=by rw[length_append,length_map,length_take];omega
   have hA:((l.take k).map (λo=>(xr b o).1)).length=k:=by rw[length_map,length_take];omega
   have hget:((l.take k).map (λo=>(xr b o).1)++l.drop k)[k]?=some l[k]:=by
    rw[List.getElem?_append_right (by omega),hA,Nat.sub_self,List.getElem?_drop,Nat.add_zero,List.getElem?_eq_getElem hkl]
   have hn:=(Hg h (o:=l[k]) (by have:=Aj (h4 _ (getElem_mem hkl));omega)).1;refine⟨_,?_,rfl⟩;show dL b l (k:Int) _ _=_
   unfold dL;rw[wm (by omega),cT,hol,dF (by omega),cF,hlen,xJ hkl];simp only[an,hget,hn];rw[vF (by rw[hol];show out.length+k+1<=_;omega),an,vK (by omega)];have t1:(l.take (k+1))=l.take k++[l[k]]:=by rw[take_add_one,List.getElem?_eq_getElem hkl];rfl
   have t2:((l.take k).map (λo=>(xr b o).1)++l.drop k).set k (xr b l[k]).1=(l.take (k+1)).map (λo=>(xr b o).1)++l.drop (k+1):=by
    rw[List.set_append_right _ _ (by omega),hA,Nat.sub_self,drop_eq_getElem_cons hkl,List.set_cons_zero,t1,map_append,append_assoc];rfl
   rw[t2,t1];simp only[map_append,map_cons,List.map_nil,append_assoc])
  (λz e=>by
   subst e;refine⟨_,?_,rfl⟩;show dL b l ((AY (out,l):Nat):Int) _ _=_
   have hol:(out++(l.take (AY (out,l))).map (xr b)).length=out.length+AY (out,l):=by rw[length_append,length_map,length_take];omega
   unfold dL;rw[hol];by_cases hlt:((AY (out,l):Nat):Int)<(l.length:Int)
   · rw[wm hlt,cT,dT (by omega),cT];rfl
   · rw[wg hlt,cF];rfl) (x:=(0,out,l)) (by simp)
 exact e1
theorem Mv {b:vw} (h:wH b):∀(n:Nat) {s:List vB×List (List Int)},GT s->GT (CE b n s)
 | 0,s,hs=>hs
 | n+1,s,hs=>by
  unfold CE;split
  · exact Mv h n (Pg h hs)
  · exact hs
theorem QR {b:vw} (h:wH b) {p:wd} (hB:p.2.2.2.1<=1000):∀(n i:Nat) {s:List vB×List (List Int)},GT s->((i+n:Nat):Int)=p.2.2.2.1->loop (λz=>cg b p z.1 z.2.1 z.2.2) ((i:Int),s.1,s.2)=some (CE b n s)
 | 0,i,s,hs,e=>by
  refine wj ?_;show cg b p (i:Int) s.1 s.2=_
  unfold cg;rw[wg (by omega),cF,an,cF,an,cF];rfl
 | n+1,i,s,hs,e=>by
  by_cases hc:0<s.2.length/\s.1.length<10
  · refine w9 (y:=(((i+1:Nat):Int),(Dd b s).1,(Dd b s).2)) ?_ ?_
    · show cg b p (i:Int) s.1 s.2=_;unfold cg;rw[wm (by omega),cT,dT (by omega),an,cT,wm (by omega),an,cT,Vg h hs,an,vK (by omega)]
    · have:=QR h hB n (i+1) (Pg h hs) (by omega);rw[this,show CE b (n+1) s=CE b n (Dd b s)from if_pos hc]
  · refine wj ?_;show cg b p (i:Int) s.1 s.2=_
    have e2:CE b (n+1) s=s:=if_neg hc;rw[e2];unfold cg;rw[wm (by omega),cT];by_cases h1:0<s.2.length
    · rw[dT (by omega),an,cT,wg (by omega),an,cF]
    · rw[dF (by omega),an,cF,an,cF]
def xh (p:wd):Nat:=min p.2.2.1.toNat p.2.2.2.2.length
noncomputable def NQ (b:vw) (p:wd):List vB×List (List Int):=CE b p.2.2.2.1.toNat ((p.2.2.2.2.take (xh p)).map (λx=>xr b x.1),(p.2.2.2.2.drop (xh p)).map (λx=>x.1))
noncomputable def zy (b:vw) (p:wd):List vB:=(NQ b p).1
theorem QS {b:vw} (h:wH b) {p:wd} (hp:xG p=true):GT ((p.2.2.2.2.take (xh p)).map (λx=>xr b x.1),(p.2.2.2.2.drop (xh p)).map (λx=>x.1)):=by
 obtain⟨h1,h2,_⟩:=yM hp;refine⟨?_,?_,λx hx=>?_,λo ho=>?_⟩
 · rw[length_map,length_take];omega
 · rw[length_map,length_drop];omega
 · obtain⟨y,hy,rfl⟩:=mem_map.1 hx;exact Fj h (zc (h1 y (mem_of_mem_take hy)))
 · obtain⟨y,hy,rfl⟩:=mem_map.1 ho;exact zc (h1 y (List.mem_of_mem_drop hy))
theorem Mw {b:vw} (h:wH b) {p:wd} (hp:xG p=true):GT (NQ b p):=Mv h _ (QS h hp)
theorem Ul {b:vw} (h:wH b) {p:wd} (hp:xG p=true):iU b p=some (zy b p):=by
 obtain⟨h1,h2,_,_,h5,h6⟩:=yM hp;have hmin:min2 p.2.2.1 (p.2.2.2.2.length:Int)=((xh p:Nat):Int):=by
  unfold min2 xh;split<;>omega
 have hon:xh p<=p.2.2.2.2.length:=Nat.min_le_right _ _;unfold iU;show ((cut p.2.2.2.2 0 (min2 p.2.2.1 (p.2.2.2.2.length:Int))).bind _)=_
 rw[hmin];have c1:cut p.2.2.2.2 0 ((xh p:Nat):Int)=some (p.2.2.2.2.take (xh p)):=by
  have:=yw (l:=p.2.2.2.2) (a:=0) (b:=xh p) (by omega) hon;simpa using this
 have c2:cut p.2.2.2.2 ((xh p:Nat):Int) (p.2.2.2.2.length:Int)=some (p.2.2.2.2.drop (xh p)):=by
  have:=yw (l:=p.2.2.2.2) (a:=xh p) (b:=p.2.2.2.2.length) hon (Nat.le_refl _);rw[take_length]at this;exact this
 have l1:loop (λz:Int×List vB=>fg b (p.2.2.2.2.take (xh p)) z.1 z.2) (0,[])=some ((p.2.2.2.2.take (xh p)).map (λx=>xr b x.1)):=by
  refine E2 (by show _<=1048576;rw[length_take];omega) (λk hk out ho=>?_) (λout=>?_)
  · have hx:=h1 _ (mem_of_mem_take (getElem_mem hk));have hk':=hk
    rw[length_take]at hk';show fg b _ (k:Int) out=_
    unfold fg;rw[wm (by omega),cT,vL hk,an,(Hg h (by have:=Aj (zc hx);omega)).1,an,vF (by rw[ho];show k+1<=_;omega),an,vK (by omega)]
  · show fg b _ ((p.2.2.2.2.take (xh p)).length:Int) out=_;unfold fg;rw[wg (by omega),cF]
 have l2:loop (λz:Int×List (List Int)=>fh (p.2.2.2.2.drop (xh p)) z.1 z.2) (0,[])=some ((p.2.2.2.2.drop (xh p)).map (λx=>x.1)):=by
  refine E2 (by show _<=1048576;rw[length_drop];omega) (λk hk out ho=>?_) (λout=>?_)
  · have hk':=hk;rw[length_drop]at hk';show fh _ (k:Int) out=_
    unfold fh;rw[wm (by omega),cT,vL hk,an,vF (by rw[ho];show k+1<=_;omega),an,vK (by omega)]
  · show fh _ ((p.2.2.2.2.drop (xh p)).length:Int) out=_;unfold fh;rw[wg (by omega),cF]
 rw[c1,an,l1,an,c2,an,l2,an];have:=QR h (p:=p) (by omega) p.2.2.2.1.toNat 0 (QS h hp) (by omega)
 have this:loop (λz=>cg b p z.1 z.2.1 z.2.2) (0,(p.2.2.2.2.take (xh p)).map (λx=>xr b x.1),(p.2.2.2.2.drop (xh p)).map (λx=>x.1))=_:=this;rw[this,an];rfl
def shr (f:List vB->Bool):Nat->List vB->Option (List vB)
 | 0,_=>none
 | n+1,l=>if f (l.take n)=true then some (l.take n)else shr f n (l.take n)
theorem Lx {f:List vB->Bool}:∀{n:Nat} {l t:List vB},shr f n l=some t->f t=true/\∃m,m<n/\t=l.take m
 | 0,l,t,h=>by cases h
 | n+1,l,t,h=>by
  unfold shr at h;split at h
  · rename_i hf;cases h;exact⟨hf,n,by omega,rfl⟩
  · obtain⟨h1,m,h2,h3⟩:=Lx h;refine⟨h1,m,by omega,?_⟩;rw[h3,List.take_take,Nat.min_eq_left (by omega)]
theorem HZ {α β γ δ:Type} {step:α->Option (α⊕(β⊕δ))} {x:α} {F:β->Option γ} {G:δ->Option γ} {R:Option γ} (h:∃d,step x=some (.inr (.inl d))) (k:∀d,F d=R):(loop step x).bind (Sum.elim F G)=R:=by
 obtain⟨d,h⟩:=h;rw[wj h,an,Sum.elim_inl,k]
abbrev Vp:=Int×List UInt8×Int×Int×Int×Int×Int×Int×Int×Int×Int×Int×List UInt8×Int×Int×Int×Int×Int×Int×Int×Int×Int×List vB×List Pt×List vD×List vP×List Int×List vB×List Pt×List vD×List vP×List Int
theorem Tl {p:wd} (h165:(p.1==165)=true) (b:vw) (j0:Int) (j1:List UInt8) (j2 j3 j4 j5 j6 j7 j8 j9 j10:Int) (k i a c:Int) (j11:List Pt) (j12:List vD) (j13:List vP) (j14:List Int) (j15:List vB):∀(n:Nat) (l:List vB),l.length=n->n<=10->(∀x∈l,GL M x) ->
 ∃w,loop (λz:Vp=>gu p z.1 z.2.1 z.2.2.1 z.2.2.2.1 z.2.2.2.2.1 z.2.2.2.2.2.1 z.2.2.2.2.2.2.1 z.2.2.2.2.2.2.2.1 z.2.2.2.2.2.2.2.2.1 z.2.2.2.2.2.2.2.2.2.1 z.2.2.2.2.2.2.2.2.2.2.1 z.2.2.2.2.2.2.2.2.2.2.2.1 z.2.2.2.2.2.2.2.2.2.2.2.2.1 z.2.2.2.2.2.2.2.2.2.2.2.2.2.1 z.2.2.2.2.2.2.2.2.2.2.2.2.2.2.1 z.2.2.2.2.2.2.2.2.2.2.2.2.2.2.2.1 z.2.2.2.2.2.2.2.2.2.2.2.2.2.2.2.2.1 z.2.2.2.2.2.2.2.2.2.2.2.2.2.2.2.2.2.1 z.2.2.2.2.2.2.2.2.2.2.2.2.2.2.2.2.2.2.1 z.2.2.2.2.2.2.2.2.2.2.2.2.2.2.2.2.2.2.2.1 z.2.2.2.2.2.2.2.2.2.2.2.2.2.2.2.2.2.2.2.2.1 z.2.2.2.2.2.2.2.2.2.2.2.2.2.2.2.2.2.2.2.2.2.1 z.2.2.2.2.2.2.2.2.2.2.2.2.2.2.2.2.2.2.2.2.2.2.1 z.2.2.2.2.2.2.2.2.2.2.2.2.2.2.2.2.2.2.2.2.2.2.2.1 z.2.2.2.2.2.2.2.2.2.2.2.2.2.2.2.2.2.2.2.2.2.2.2.2.1 z.2.2.2.2.2.2.2.2.2.2.2.2.2.2.2.2.2.2.2.2.2.2.2.2.2.1 z.2.2.2.2.2.2.2.2.2.2.2.2.2.2.2.2.2.2.2.2.2.2.2.2.2.2.1 z.2.2.2.2.2.2.2.2.2.2.2.2.2.2.2.2.2.2.2.2.2.2.2.2.2.2.2.1 z.2.2.2.2.2.2.2.2.2.2.2.2.2.2.2.2.2.2.2.2.2.2.2.2.2.2.2.2.1 z.2.2.2.2.2.2.2.2.2.2.2.2.2.2.2.2.2.2.2.2.2.2.2.2.2.2.2.2.2.1 z.2.2.2.2.2.2.2.2.2.2.2.2.2.2.2.2.2.2.2.2.2.2.2.2.2.2.2.2.2.2.1 z.2.2.2.2.2.2.2.2.2.2.2.2.2.2.2.2.2.2.2.2.2.2.2.2.2.2.2.2.2.2.2) (j0,j1,j2,j3,j4,j5,j6,j7,j8,j9,j10,b.1,b.2.1,b.2.2.2.2.2.2.1,b.2.2.2.2.2.2.2.1,b.2.2.2.2.2.2.2.2.1,b.2.2.2.2.2.2.2.2.2.1,b.2.2.2.2.2.2.2.2.2.2,k,i,a,c,l,j11,j12,j13,j14,j15,b.2.2.1,b.2.2.2.1,b.2.2.2.2.1,b.2.2.2.2.2.1)=some w/\(match shr (λt=>xm (k,i,a,c,t)) n l with|some t=>w=.inr (true,b.1,b.2.1,b.2.2.2.2.2.2.1,b.2.2.2.2.2.2.2.1,b.2.2.2.2.2.2.2.2.1,b.2.2.2.2.2.2.2.2.2.1,b.2.2.2.2.2.2.2.2.2.2,k,i,a,c,t,b.2.2.1,b.2.2.2.1,b.2.2.2.2.1,b.2.2.2.2.2.1)|none=>∃d,w=.inl d)
 | 0,l,hl,hn,hx=>by
  refine⟨_,wj (b:=Sum.inl (j0,j1,j2,j3,j4,j5,j6,j7,j8,j9,j10,b.1,b.2.1,b.2.2.2.2.2.2.1,b.2.2.2.2.2.2.2.1,b.2.2.2.2.2.2.2.2.1,b.2.2.2.2.2.2.2.2.2.1,b.2.2.2.2.2.2.2.2.2.2,k,i,a,c,l,j11,j12,j13,j14,j15,b.2.2.1,b.2.2.2.1,b.2.2.2.2.1,b.2.2.2.2.2.1)) ?_,⟨_,rfl⟩⟩;dsimp only;unfold gu;rw[h165,cT,dF (by omega),an,cF]
 | n+1,l,hl,hn,hx=>by
  have hlt:(l.take n).length=n:=by rw[length_take];omega
  have hcut:cut l 0 (vA ((l.length:Int)-1))=some (l.take n):=by
   rw[vW (by omega) (by omega),show (l.length:Int)-1=(n:Int) by omega];have:=yw (l:=l) (a:=0) (b:=n) (by omega) (by omega)
   simpa using this
  have hp:yj M (k,i,a,c,l.take n):=⟨by show (l.take n).length<=1048576;omega,λx h=>hx x (mem_of_mem_take h)⟩;have hstep:∀q:Bool,xm (k,i,a,c,l.take n)=q->gu p j0 j1 j2 j3 j4 j5 j6 j7 j8 j9 j10 b.1 b.2.1 b.2.2.2.2.2.2.1 b.2.2.2.2.2.2.2.1 b.2.2.2.2.2.2.2.2.1 b.2.2.2.2.2.2.2.2.2.1 b.2.2.2.2.2.2.2.2.2.2 k i a c l j11 j12 j13 j14 j15 b.2.2.1 b.2.2.2.1 b.2.2.2.2.1 b.2.2.2.2.2.1=cond q (some (.inr (.inr (true,b.1,b.2.1,b.2.2.2.2.2.2.1,b.2.2.2.2.2.2.2.1,b.2.2.2.2.2.2.2.2.1,b.2.2.2.2.2.2.2.2.2.1,b.2.2.2.2.2.2.2.2.2.2,k,i,a,c,l.take n,b.2.2.1,b.2.2.2.1,b.2.2.2.2.1,b.2.2.2.2.2.1)))) (some (.inl (j0,j1,j2,j3,j4,j5,j6,j7,j8,j9,j10,b.1,b.2.1,b.2.2.2.2.2.2.1,b.2.2.2.2.2.2.2.1,b.2.2.2.2.2.2.2.2.1,b.2.2.2.2.2.2.2.2.2.1,b.2.2.2.2.2.2.2.2.2.2,k,i,a,c,l.take n,j11,j12,j13,j14,j15,b.2.2.1,b.2.2.2.1,b.2.2.2.2.1,b.2.2.2.2.2.1))):=by
   intro q hq;unfold gu;rw[h165,cT,dT (by omega),an,cT,hcut,an,Hf hp,an,hq]
  by_cases hf:xm (k,i,a,c,l.take n)=true
  · have e:shr (λt=>xm (k,i,a,c,t)) (n+1) l=some (l.take n):=if_pos hf;rw[e];exact⟨_,wj (hstep true hf),rfl⟩
  · have e:shr (λt=>xm (k,i,a,c,t)) (n+1) l=shr (λt=>xm (k,i,a,c,t)) n (l.take n):=if_neg hf;rw[e];obtain⟨w,h1,h2⟩:=Tl h165 b j0 j1 j2 j3 j4 j5 j6 j7 j8 j9 j10 k i a c j11 j12 j13 j14 j15 n (l.take n) hlt (by omega) (λx h=>hx x (mem_of_mem_take h));exact⟨w,w9 (hstep false (by simpa using hf)) h1,h2⟩
noncomputable def EJ (b:vw) (l:List vB):vw×Int×Int:=(fj b l).getD (b,0,0)
noncomputable def AZ (b:vw) (p:wd):vw×wd :=
 cond (p.1==160) (b,162,p.2.1,0,0,p.2.2.2.2.map λx=>(x.1,E3 b x.1))
  (cond (p.1==161) (b,162,p.2.1,0,0,p.2.2.2.2.map λx=>xr b x.1)
   (cond (p.1==165) (b,162,p.2.1,0,0,zy b p) ((EJ b p.2.2.2.2).1,162,p.2.1,(EJ b p.2.2.2.2).2.1,(EJ b p.2.2.2.2).2.2,p.2.2.2.2)))
noncomputable def Cq (b:vw) (p:wd):vw×wd :=
 match cond (p.1==165) (shr (λt=>xm (162,p.2.1,0,0,t)) (zy b p).length (zy b p)) none with
 | some t=>(b,162,p.2.1,0,0,t)
 | none=>(b,162,p.2.1,7,0,[])
noncomputable def zM (b:vw) (p:wd):vw×wd:=cond (xm (AZ b p).2) (AZ b p) (Cq b p)
noncomputable def E4 (b:vw) (p:wd):Bool:=wq b&&(xG p&&(p.1 != 162))
noncomputable def xH (b:vw) (p:wd):vw×wd×Bool:=cond (E4 b p) ((zM b p).1,(zM b p).2,true) (b,(0,0,0,0,[]),false)
theorem GU {p:wd} (hp:xG p=true):D9 M p.2.2.2.2:=by
 obtain⟨h1,h2,_⟩:=yM hp;exact⟨by show _<=1048576;omega,λx hx=>yN (h1 x hx)⟩
theorem Ph {b:vw} (h:yb b) (hb:z7 M b) {p:wd} (hp:yj M p):dP b p=some (xH b p):=by
 unfold dP xH E4;rw[x7 hb,an,Az h,an];cases hbr:wq b with
 | false=>rw[Bool.not_false,cT,an,cT,an,cT];rfl
 | true =>
 rw[Bool.not_true,cF,Qd hp,an,an];cases hpp:xG p with
 | false=>rw[Bool.not_false,cT,an,cT];rfl
 | true =>
 rw[Bool.not_true,cF,an];cases h162:(p.1==162)with
 | true =>
  have:(p.1 != 162)=false:=by rw[bne,h162];rfl
  rw[cT,this];rfl
 | false =>
 have hne:(p.1 != 162)=true:=by rw[bne,h162];rfl
 have hBO:=BK h hbr;obtain⟨x1,x2,x3,x4,x5,x6⟩:=yM hpp;have hxs:=GU hpp
 rw[cF,hne,Bool.true_and,Bool.true_and,cT];unfold zM AZ Cq;cases h160:(p.1==160)with
 | true =>
  have h165:(p.1==165)=false:=by simp only[beq_iff_eq]at h160;rw[h160];rfl
  have e:loop (λz:Int×Int×Int×Int×Int×List vB=>gq b p z.1 z.2.1 z.2.2.1 z.2.2.2.1 z.2.2.2.2.1 z.2.2.2.2.2) (0,162,p.2.1,0,0,[])=some (162,p.2.1,0,0,p.2.2.2.2.map λx=>(x.1,E3 b x.1)):=by
   obtain⟨v,e1,rfl⟩:=vR (step:=λz:Int×Int×Int×Int×Int×List vB=>gq b p z.1 z.2.1 z.2.2.1 z.2.2.2.1 z.2.2.2.2.1 z.2.2.2.2.2) (λk z=>z=((k:Int),162,p.2.1,0,0,(p.2.2.2.2.take k).map λx=>(x.1,E3 b x.1))) p.2.2.2.2.length (λv=>v=(162,p.2.1,0,0,p.2.2.2.2.map λx=>(x.1,E3 b x.1)))
    (λk z hk e=>by
     subst e;refine .inl ⟨_,?_,rfl⟩;have hx:=Aj (zc (x1 _ (getElem_mem hk)))
     dsimp only;unfold gq;rw[wm (by omega),cT,vL hk,an,FT (by show _<=1048576;omega),an,(Qo hBO (by omega)).1,an,vF (by rw[length_map,length_take];show min k _+1<=_;omega),an,vK (by omega),
      take_add_one,List.getElem?_eq_getElem hk,map_append];rfl)
    (λz e=>by
     subst e;refine⟨_,?_,rfl⟩;dsimp only;unfold gq;rw[wg (by omega),cF,take_length]) (x:=(0,162,p.2.1,0,0,[])) rfl
   exact e1
  simp only[cT,cF];rw[e,an,Hf ⟨by show (p.2.2.2.2.map _).length<=1048576;rw[length_map];omega,λx hx=>by
   obtain⟨y,hy,rfl⟩:=mem_map.1 hx;exact yN (by unfold zE;rw[zc (x1 y hy),QQ hBO (by have:=Aj (zc (x1 y hy));omega)];rfl)⟩,an]
  cases xm (162,p.2.1,0,0,p.2.2.2.2.map λx=>(x.1,E3 b x.1))with
  | true=>rfl
  | false =>
   simp only[cF];refine HZ ?_ λd=>?_
   · dsimp only;unfold pp;rw[h165,cF,an,cF];exact⟨_,rfl⟩
   · rw[an];simp only[h165,cF]
 | false =>
 cases h161:(p.1==161)with
 | true =>
  have h165:(p.1==165)=false:=by simp only[beq_iff_eq]at h161;rw[h161];rfl
  have e:loop (λz:Int×Int×Int×Int×Int×List vB=>gt b p z.1 z.2.1 z.2.2.1 z.2.2.2.1 z.2.2.2.2.1 z.2.2.2.2.2) (0,162,p.2.1,0,0,[])=some (162,p.2.1,0,0,p.2.2.2.2.map λx=>xr b x.1):=by
   obtain⟨v,e1,rfl⟩:=vR (step:=λz:Int×Int×Int×Int×Int×List vB=>gt b p z.1 z.2.1 z.2.2.1 z.2.2.2.1 z.2.2.2.2.1 z.2.2.2.2.2) (λk z=>z=((k:Int),162,p.2.1,0,0,(p.2.2.2.2.take k).map λx=>xr b x.1)) p.2.2.2.2.length (λv=>v=(162,p.2.1,0,0,p.2.2.2.2.map λx=>xr b x.1))
    (λk z hk e=>by
     subst e;refine .inl ⟨_,?_,rfl⟩;have hx:=Aj (zc (x1 _ (getElem_mem hk)))
     dsimp only;unfold gt;rw[wm (by omega),cT,vL hk,an,(Hg hBO (by omega)).1,an,vF (by rw[length_map,length_take];show min k _+1<=_;omega),an,vK (by omega),
      take_add_one,List.getElem?_eq_getElem hk,map_append];rfl)
    (λz e=>by
     subst e;refine⟨_,?_,rfl⟩;dsimp only;unfold gt;rw[wg (by omega),cF,take_length]) (x:=(0,162,p.2.1,0,0,[])) rfl
   exact e1
  simp only[cT,cF];rw[e,an,Hf ⟨by show (p.2.2.2.2.map _).length<=1048576;rw[length_map];omega,λx hx=>by
   obtain⟨y,hy,rfl⟩:=mem_map.1 hx;exact yN (Fj hBO (zc (x1 y hy)))⟩,an]
  cases xm (162,p.2.1,0,0,p.2.2.2.2.map λx=>xr b x.1)with
  | true=>rfl
  | false =>
   simp only[cF];refine HZ ?_ λd=>?_
   · dsimp only;unfold pq;rw[h165,cF,an,cF];exact⟨_,rfl⟩
   · rw[an];simp only[h165,cF]
 | false =>
 cases h165:(p.1==165)with
 | true =>
  have hbk:=Mw hBO hpp;have hbx:∀x∈zy b p,GL M x:=λx hx=>yN (hbk.oOk x hx)
  have hbn:(zy b p).length<=10:=hbk.o10;simp only[cT,cF];rw[Ul hBO hpp,an,Hf ⟨by show (zy b p).length<=1048576;omega,hbx⟩,an];cases xm (162,p.2.1,0,0,zy b p)with
  | true=>rfl
  | false =>
   simp only[cF];obtain⟨w,e1,e2⟩:=Tl h165 b 0 [] 0 0 0 0 0 0 0 0 0 162 p.2.1 0 0 [] [] [] [] [] _ (zy b p) rfl hbn hbx;rw[e1,an];cases hs:shr (λt=>xm (162,p.2.1,0,0,t)) (zy b p).length (zy b p)with
   | some t=>rw[hs]at e2;rw[e2];rfl
   | none =>
    rw[hs]at e2;obtain⟨d,rfl⟩:=e2;rw[Sum.elim_inl,an];try rfl
 | false =>
  obtain⟨r,r1,_,_,_⟩:=Jc h hb hxs;have hr:EJ b p.2.2.2.2=r:=by unfold EJ;rw[r1];rfl
  simp only[cF];rw[r1,an,GS hxs,an,hr,Hf (p:=(162,p.2.1,r.2.1,r.2.2,p.2.2.2.2)) ⟨hxs.1,hxs.2⟩,an];cases xm (162,p.2.1,r.2.1,r.2.2,p.2.2.2.2)with
  | true=>rfl
  | false =>
   simp only[cF];refine HZ ?_ λd=>?_
   · dsimp only;unfold pr;rw[h165,cF,an,cF];exact⟨_,rfl⟩
   · rw[an]

def aW (a:vO):List UInt8:=a.2.2.2.2.2.2.2.2.2.2.2.1
def xa (b:vw) (w:List UInt8) (l:List wM) (lo la:Int):vO:=(b.1,b.2.1,b.2.2.1,b.2.2.2.1,b.2.2.2.2.1,b.2.2.2.2.2.1,b.2.2.2.2.2.2.1,b.2.2.2.2.2.2.2.1,b.2.2.2.2.2.2.2.2.1,b.2.2.2.2.2.2.2.2.2.1,b.2.2.2.2.2.2.2.2.2.2,w,l,lo,la)
def zz (id:Int) (m:List Int) (ph:Int) (p:wd) (s:vw) (at' tr:Int):wM:=(id,m,ph,p.1,p.2.1,p.2.2.1,p.2.2.2.1,p.2.2.2.2,s.1,s.2.1,s.2.2.1,s.2.2.2.1,s.2.2.2.2.1,s.2.2.2.2.2.1,s.2.2.2.2.2.2.1,s.2.2.2.2.2.2.2.1,s.2.2.2.2.2.2.2.2.1,s.2.2.2.2.2.2.2.2.2.1,s.2.2.2.2.2.2.2.2.2.2,at',tr)
theorem K7 {b:vw} {w:List UInt8} {l:List wM} {lo la:Int} {k:Nat} (hk:k<l.length) (hl:l.length<=M):cD (xa b w l lo la) (k:Int)=some (xa b w (l.eraseIdx k) lo la):=by
 have hM:M=1048576:=rfl;have c1:xR l.length 0 (k:Int)=some (0,k):=by
  unfold xR;rw[if_pos (by omega),if_pos (by omega),if_pos (by omega)];simp
 have c2:xR l.length (vA ((k:Int)+1)) (l.length:Int)=some (k+1,l.length):=by
  rw[vK (by omega)];unfold xR;rw[if_pos (by omega),if_pos (by omega),if_pos (by omega)];simp
 have c3:Ga l 0 k (k+1) l.length=some (l.eraseIdx k):=by
  unfold Ga;rw[if_pos (by omega),take_length,drop_zero,vF (by rw[length_take,length_drop];omega),←List.eraseIdx_eq_take_drop_succ]
 unfold cD xa;simp only[c1,an,c2,c3]
def Jg (b:vw) (j:wM):wM:=zz j.1 j.2.1 1 (jP j) b 0 (wv j)
theorem Pi {b:vw} (hb:z7 M b) {w:List UInt8} {l:List wM} {lo la:Int} {k:Nat} (hk:k<l.length):ge (xa b w l lo la) (k:Int)=some (xa b w (l.set k (Jg b l[k])) lo la):=by
 have cb:=x7 hb;unfold ge xa;simp only[xJ hk,an];have cb':al (b.1,b.2.1,b.2.2.1,b.2.2.2.1,b.2.2.2.2.1,b.2.2.2.2.2.1,b.2.2.2.2.2.2.1,b.2.2.2.2.2.2.2.1,b.2.2.2.2.2.2.2.2.1,b.2.2.2.2.2.2.2.2.2.1,b.2.2.2.2.2.2.2.2.2.2)=some b:=cb
 simp only[cb',an,List.getElem?_eq_getElem hk,List.getElem?_set_self hk,List.set_set];rfl
def Ao (n:Int):Int:=min2 (vA (n+1)) 1000000
theorem CO (n:Int):az n=some (Ao n):=rfl
def Ew (b:vw):vw:=(b.1,b.2.1,b.2.2.1,b.2.2.2.1,b.2.2.2.2.1,b.2.2.2.2.2.1,b.2.2.2.2.2.2.1,b.2.2.2.2.2.2.2.1,Ao b.2.2.2.2.2.2.2.2.1,b.2.2.2.2.2.2.2.2.2.1,b.2.2.2.2.2.2.2.2.2.2)
def D2 (b:vw):vw:=(b.1,b.2.1,b.2.2.1,b.2.2.2.1,b.2.2.2.2.1,b.2.2.2.2.2.1,b.2.2.2.2.2.2.1,Ao b.2.2.2.2.2.2.2.1,b.2.2.2.2.2.2.2.2.1,b.2.2.2.2.2.2.2.2.2.1,b.2.2.2.2.2.2.2.2.2.2)
noncomputable def wR (w:List UInt8) (m:List Int):wd×Int:=(fb w m).getD ((0,0,0,0,[]),0)
theorem Qp (w:List UInt8) {m:List Int} (hb:xL m) (hn:m.length<=M):fb w m=some (wR w m)/\fN w m=some (wR w m)/\yj M (wR w m).1/\((wR w m).2=0->xG (wR w m).1=true):=by
 obtain⟨r,h1,h2,h3,h4⟩:=Tk w hb hn;unfold wR;rw[h1];exact⟨rfl,h2,h3,h4⟩
noncomputable def AM (p:wd):wd:=cond (xm (162,p.2.1,6,1,p.2.2.2.2)) (162,p.2.1,6,1,p.2.2.2.2) (162,p.2.1,7,0,[])
theorem Um {p:wd} (hp:yj M p):gv p=some (AM p):=by
 unfold gv AM;rw[GS hp,an,Hf (p:=(162,p.2.1,6,1,p.2.2.2.2)) hp,an];cases xm (162,p.2.1,6,1,p.2.2.2.2)<;>rfl
inductive Tm where
 | stay (j:wM)|gone (d:List wU)
noncomputable def zA (w:List UInt8) (b:vw) (j:wM):vw×Tm :=
 cond (j.2.2.1==0)
  (cond ((wR w j.2.1).2==3) (Ew b,.gone [])
   (cond ((wR w j.2.1).2 != 0||((wR w j.2.1).1.1==162)) (D2 b,.gone [])
    (b,.stay (zz j.1 j.2.1 1 (wR w j.2.1).1 b 0 (wv j)))))
  (cond (j.2.2.1==2)
   (cond (j.2.2.2.1 != 163) (b,.gone [(j.1,(xH (jB j) (jP j)).2.1)])
    (cond (b.2.2.2.2.2.2.2.2.2.2==(jB j).2.2.2.2.2.2.2.2.2.2) ((xH b (jP j)).1,.gone [(j.1,(xH b (jP j)).2.1)])
     (cond (decide (wv j>=3)) (b,.gone [(j.1,AM (jP j))])
      (b,.stay (zz j.1 j.2.1 1 (jP j) b 0 (vA (wv j+1)))))))
   (cond (decide (zq j<((jP j).2.2.2.2.length:Int))) (b,.stay (zz j.1 j.2.1 j.2.2.1 (jP j) (jB j) (vA (zq j+1)) (wv j)))
    (b,.stay (zz j.1 j.2.1 2 (jP j) (jB j) (zq j) (wv j)))))
noncomputable def zX (a:vO) (k:Nat) (j:wM):vO×List wU :=
 match (zA (aW a) (aB a) j).2 with
 | .stay j'=>(xa (zA (aW a) (aB a) j).1 (aW a) ((vC a).set k j') (wS a) (we a),[])
 | .gone d=>(xa (zA (aW a) (aB a) j).1 (aW a) ((vC a).eraseIdx k) (wS a) (we a),d)
theorem Un {b:vw} (hb:z7 M b) {w:List UInt8} {l:List wM} {lo la:Int} {k:Nat} (hk:k<l.length) (hl:l.length<=M) (h1:xL l[k].2.1) (h2:l[k].2.1.length<=M) :
 gg (xa b w l lo la) (k:Int)=some (cond ((wR w l[k].2.1).2==3) (xa (Ew b) w (l.eraseIdx k) lo la)
  (cond ((wR w l[k].2.1).2 != 0||((wR w l[k].2.1).1.1==162)) (xa (D2 b) w (l.eraseIdx k) lo la) (xa b w (l.set k (zz l[k].1 l[k].2.1 1 (wR w l[k].2.1).1 b 0 (wv l[k]))) lo la))):=by
 obtain⟨m1,_,m3,_⟩:=Qp w h1 h2;unfold gg;have d1:=K7 (b:=Ew b) (w:=w) (lo:=lo) (la:=la) hk hl
 have d2:=K7 (b:=D2 b) (w:=w) (lo:=lo) (la:=la) hk hl;unfold Ew xa at d1;unfold D2 xa at d2;dsimp only[xa];simp only[xJ hk,an,List.getElem?_eq_getElem hk,m1,CO];rw[d1,d2];cases ((wR w l[k].2.1).2==3)with
 | true=>rfl
 | false =>
  simp only[cF,an];cases ((wR w l[k].2.1).2 != 0)with
  | true=>rfl
  | false =>
   simp only[cF,an,Bool.false_or];cases ((wR w l[k].2.1).1.1==162)with
   | true=>rfl
   | false =>
    simp only[cF,an];have hs:k<(l.set k (zz l[k].1 l[k].2.1 l[k].2.2.1 (wR w l[k].2.1).1 (jB l[k]) (zq l[k]) (wv l[k]))).length:=by rw[length_set];exact hk
    have e:=Pi hb (w:=w) (lo:=lo) (la:=la) hs;unfold xa at e;have e2:Jg b (l.set k (zz l[k].1 l[k].2.1 l[k].2.2.1 (wR w l[k].2.1).1 (jB l[k]) (zq l[k]) (wv l[k])))[k]=zz l[k].1 l[k].2.1 1 (wR w l[k].2.1).1 b 0 (wv l[k]):=by
     rw[List.getElem_set_self];rfl
    rw[e2,List.set_set]at e;refine (congrArg (λo=>Option.bind o λt=>some t) e).trans ?_;rfl
theorem RP {b:vw} (hw:yb b) (hb:z7 M b) {w:List UInt8} {l:List wM} {lo la:Int} {k:Nat} (hk:k<l.length) (hl:l.length<=M) (h1:Mn l[k]) (h2:QA M l[k]) :
 gw (xa b w l lo la) (k:Int)=some (cond (l[k].2.2.2.1 != 163) (xa b w (l.eraseIdx k) lo la,[(l[k].1,(xH (jB l[k]) (jP l[k])).2.1)])
  (cond (b.2.2.2.2.2.2.2.2.2.2==(jB l[k]).2.2.2.2.2.2.2.2.2.2) (xa (xH b (jP l[k])).1 w (l.eraseIdx k) lo la,[(l[k].1,(xH b (jP l[k])).2.1)])
   (cond (decide (wv l[k]>=3)) (xa b w (l.eraseIdx k) lo la,[(l[k].1,AM (jP l[k]))])
    (xa b w (l.set k (zz l[k].1 l[k].2.1 1 (jP l[k]) b 0 (vA (wv l[k]+1)))) lo la,[])))):=by
 have r1:=Ph h1.b h2.2.2 h1.p;have r2:=Ph hw hb h1.p
 have r3:=Um h1.p;have d1:=K7 (b:=b) (w:=w) (lo:=lo) (la:=la) hk hl
 have d2:=K7 (b:=(xH b (jP l[k])).1) (w:=w) (lo:=lo) (la:=la) hk hl;unfold gw;dsimp only[xa];simp only[xJ hk,an,List.getElem?_eq_getElem hk];unfold xa at d1;cases hkind:(l[k].2.2.2.1 != 163)with
 | true =>
  simp only[cT];rw[show dP (l[k].2.2.2.2.2.2.2.2.1,l[k].2.2.2.2.2.2.2.2.2.1,l[k].2.2.2.2.2.2.2.2.2.2.1,l[k].2.2.2.2.2.2.2.2.2.2.2.1,l[k].2.2.2.2.2.2.2.2.2.2.2.2.1,l[k].2.2.2.2.2.2.2.2.2.2.2.2.2.1,l[k].2.2.2.2.2.2.2.2.2.2.2.2.2.2.1,l[k].2.2.2.2.2.2.2.2.2.2.2.2.2.2.2.1,l[k].2.2.2.2.2.2.2.2.2.2.2.2.2.2.2.2.1,l[k].2.2.2.2.2.2.2.2.2.2.2.2.2.2.2.2.2.1,l[k].2.2.2.2.2.2.2.2.2.2.2.2.2.2.2.2.2.2.1) (l[k].2.2.2.1,l[k].2.2.2.2.1,l[k].2.2.2.2.2.1,l[k].2.2.2.2.2.2.1,l[k].2.2.2.2.2.2.2.1)=some (xH (jB l[k]) (jP l[k]))from r1,an,d1,an]
 | false =>
  simp only[cF];show cond (b.2.2.2.2.2.2.2.2.2.2==(jB l[k]).2.2.2.2.2.2.2.2.2.2) _ _=_
  cases hv:(b.2.2.2.2.2.2.2.2.2.2==(jB l[k]).2.2.2.2.2.2.2.2.2.2)with
  | true =>
   simp only[cT];rw[show dP (b.1,b.2.1,b.2.2.1,b.2.2.2.1,b.2.2.2.2.1,b.2.2.2.2.2.1,b.2.2.2.2.2.2.1,b.2.2.2.2.2.2.2.1,b.2.2.2.2.2.2.2.2.1,b.2.2.2.2.2.2.2.2.2.1,b.2.2.2.2.2.2.2.2.2.2) (l[k].2.2.2.1,l[k].2.2.2.2.1,l[k].2.2.2.2.2.1,l[k].2.2.2.2.2.2.1,l[k].2.2.2.2.2.2.2.1)=some (xH b (jP l[k]))from r2,an];unfold xa at d2;rw[d2,an]
  | false =>
   simp only[cF];show cond (decide (wv l[k]>=3)) _ _=_
   cases hq:decide (wv l[k]>=3)with
   | true =>
    simp only[cT];rw[show gv (l[k].2.2.2.1,l[k].2.2.2.2.1,l[k].2.2.2.2.2.1,l[k].2.2.2.2.2.2.1,l[k].2.2.2.2.2.2.2.1)=some (AM (jP l[k]))from r3,an,d1,an]
   | false =>
    simp only[cF];have hs:k<(l.set k (zz l[k].1 l[k].2.1 l[k].2.2.1 (jP l[k]) (jB l[k]) (zq l[k]) (vA (wv l[k]+1)))).length:=by rw[length_set];exact hk
    have e:=Pi hb (w:=w) (lo:=lo) (la:=la) hs;unfold xa at e;have e2:Jg b (l.set k (zz l[k].1 l[k].2.1 l[k].2.2.1 (jP l[k]) (jB l[k]) (zq l[k]) (vA (wv l[k]+1))))[k]=zz l[k].1 l[k].2.1 1 (jP l[k]) b 0 (vA (wv l[k]+1)):=by
     rw[List.getElem_set_self];rfl
    rw[e2,List.set_set]at e;refine (congrArg (λo=>Option.bind o λt=>some (t,([]:List wU))) e).trans ?_;rfl
end Go.V.W
