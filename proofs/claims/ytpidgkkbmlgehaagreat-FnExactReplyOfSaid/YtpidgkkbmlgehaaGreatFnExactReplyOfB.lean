/- The law FnExactReplyOf: part of the proof that for every input it returns true. No condition. -/
import Derived.Test.YtpidgkkbmlgehaaGreatFnExactReplyOfBP1
open List (any_eq_false append_nil flatMap_append getElem_mem getElem_of_mem length_append length_drop length_map length_set length_singleton length_take map_append map_map mem_cons mem_cons_of_mem mem_map mem_of_mem_take mem_range nil_append pairwise_cons take_add_one take_length take_of_length_le)
set_option linter.unusedVariables false
set_option linter.unusedSimpArgs false
namespace Go.V.W
theorem Ch {r:oZ} {l:List oZ} (hs:l.Pairwise λr s=>r.1<s.1) (hi:∀x∈l,oU x.1 1 99=true) (hh:∀x∈l,-9223372036854775808<=x.2.2/\x.2.2<=9223372036854775807)
 (ri:oU r.1 1 99=true) (rh:-9223372036854775808<=r.2.2/\r.2.2<=9223372036854775807) :
 (qg r false l).Pairwise (λr s=>r.1<s.1)/\(∀x∈qg r false l,oU x.1 1 99=true)/\(∀x∈qg r false l,-9223372036854775808<=x.2.2/\x.2.2<=9223372036854775807):=by
 have hm:∀{dn:Bool} {l:List oZ},∀x∈qg r dn l,x=r\/x∈l:=by
  intro dn l
  induction l generalizing dn with
  | nil=>intro x hx;cases dn<;>simp[qg]at hx;exact .inl hx
  | cons y t ih =>
   intro x hx;cases dn with
   | true =>
    unfold qg at hx;split at hx
    · rcases mem_cons.1 hx with rfl|hx
      · exact .inr (by simp)
      · rcases ih x hx with e|e
        · exact .inl e
        · exact .inr (mem_cons_of_mem _ e)
    · rcases ih x hx with e|e
      · exact .inl e
      · exact .inr (mem_cons_of_mem _ e)
   | false =>
    unfold qg at hx;split at hx
    · rcases mem_cons.1 hx with rfl|hx
      · exact .inl rfl
      · split at hx
        · rcases mem_cons.1 hx with rfl|hx
          · exact .inr (by simp)
          · rcases ih x hx with e|e
            · exact .inl e
            · exact .inr (mem_cons_of_mem _ e)
        · rcases ih x hx with e|e
          · exact .inl e
          · exact .inr (mem_cons_of_mem _ e)
    · rcases mem_cons.1 hx with rfl|hx
      · exact .inr (by simp)
      · rcases ih x hx with e|e
        · exact .inl e
        · exact .inr (mem_cons_of_mem _ e)
 have hp:∀{l:List oZ},l.Pairwise (λr s=>r.1<s.1)->(qg r false l).Pairwise (λr s=>r.1<s.1):=by
  intro l
  induction l with
  | nil=>intro _;simp[qg]
  | cons y t ih =>
   intro h;have h1:=(pairwise_cons.1 h).1
   have h2:=(pairwise_cons.1 h).2;unfold qg;split
   · next hy =>
     have ht:qg r true t=t:=xJ λz hz=>by have:=h1 z hz;omega
     rw[ht];split
     · next hq =>
       have hq:=bne_iff_ne.1 hq;refine pairwise_cons.2 ⟨λz hz=>?_,h⟩;rcases mem_cons.1 hz with rfl|hz
       · omega
       · have:=h1 z hz;omega
     · next hq =>
       have hq:y.1=r.1:=by simpa using hq
       refine pairwise_cons.2 ⟨λz hz=>?_,h2⟩;have:=h1 z hz;omega
   · next hy =>
     refine pairwise_cons.2 ⟨λz hz=>?_,ih h2⟩;rcases hm z hz with rfl|hz
     · omega
     · exact h1 z hz
 refine⟨hp hs,λx hx=>?_,λx hx=>?_⟩
 · rcases hm x hx with rfl|hx
   · exact ri
   · exact hi x hx
 · rcases hm x hx with rfl|hx
   · exact rh
   · exact hh x hx
theorem HW {r:oZ} {dn:Bool} {l:List oZ}:(qg r dn l).length<=l.length+1:=by
 induction l generalizing dn with
 | nil=>cases dn<;>simp[qg]
 | cons x t ih =>
  have h1:=ih (dn:=true);have h2:=ih (dn:=false)
  have h3:(qg r true t).length<=t.length:=by
   clear ih h1 h2
   induction t with
   | nil=>simp[qg]
   | cons y t ih=>unfold qg;split<;>simp<;>omega
  cases dn<;>unfold qg<;>split<;>(try split)<;>simp<;>omega
theorem tb.rows {b:oI} (h:tb b) {R:List oZ} (h1:R.length<=6) (h2:R.Pairwise λr s=>r.1<s.1) (h3:∀x∈R,oU x.1 1 99=true) (h4:∀x∈R,-9223372036854775808<=x.2.2/\x.2.2<=9223372036854775807) :
 tb (b.1,b.2.1,b.2.2.1,b.2.2.2.1,R,b.2.2.2.2.2.1,b.2.2.2.2.2.2.1,b.2.2.2.2.2.2.2.1,b.2.2.2.2.2.2.2.2.1,b.2.2.2.2.2.2.2.2.2.1,b.2.2.2.2.2.2.2.2.2.2) :=
 ⟨h.id,h.name,h.n1,h.n6,h.p,h.f,h.c,h.q,h1,h2,h3,h4⟩
theorem BM {b:oI} (h:tb b):oU (b.2.2.1.length:Int) 1 6=true:=by
 have h1:=h.n1;have h2:=h.n6
 unfold oU;rw[dT (by omega),dT (by omega)];rfl
theorem J5 {b:oI} (h:tb b) (c id n:Int) (hc:(c=1/\oU id 1 99=true)\/((c=2\/c=3)/\qG (sq b) id>=0)):KP b (dD b c id n) (eg b c id n):=by
 have hv:=h.v;have hq:b.2.2.2.2.2.1.length<=6:=by have:=h.q;have:=h.n6;omega
 have hr:∀(id:Int),aj (b.2.2.2.2.1,b.2.2.2.2.2.1) id=some (qG (sq b) id):=λid=>zY (v:=(b.2.2.2.2.1,b.2.2.2.2.2.1)) (by show b.2.2.2.2.1.length<_;omega) id;have hrs:∀(id:Int),bq (b.2.2.2.2.1,b.2.2.2.2.2.1) id=some (qG (sq b) id):=hr
 have hw:∀(r:oZ),cC (b.2.2.2.2.1,b.2.2.2.2.2.1) r=some (qg r false b.2.2.2.2.1,b.2.2.2.2.2.1):=λr=>Ik (v:=(b.2.2.2.2.1,b.2.2.2.2.2.1)) r (by show b.2.2.2.2.1.length<=_;omega) (by show b.2.2.2.2.2.1.length<=_;omega) h.s;have hws:∀(r:oZ),bx (b.2.2.2.2.1,b.2.2.2.2.2.1) r=some (qg r false b.2.2.2.2.1,b.2.2.2.2.2.1):=λr=>KO (v:=(b.2.2.2.2.1,b.2.2.2.2.2.1)) r (by show b.2.2.2.2.1.length<=_;omega) (by show b.2.2.2.2.2.1.length<=_;omega)
 unfold dD eg;rw[hr,oJ];by_cases h1:c=1
 · subst h1;have hid:oU id 1 99=true:=by rcases hc with hc|hc;exact hc.2;rcases hc.1 with e|e<;>cases e
   unfold fj;rw[hrs];simp only[show ((1:Int)==1)=true from rfl,cT,oJ,hw,hws];by_cases hp:qG (sq b) id>=0
   · have hp':¬qG (sq b) id<0:=by omega
     simp only[dT hp,dF hp'];have e4:cond (n==4) (some false) (some false)=some false:=by cases (n==4)<;>rfl
     rw[e4];simp only[oJ,cF];cases hn:(n==6)with
     | false =>
      simp only[cF,oJ];exact⟨_,rfl,rfl,h,λ_=>rfl⟩
     | true =>
      obtain⟨k,hk,e1,e2⟩:=wm hp;simp only[cT,oJ];have hk':k<b.2.2.2.2.1.length:=hk
      have hw64:oL (qG (sq b) id+1)=((k+1:Nat):Int):=by rw[e1];exact p9 (by omega)
      have hwo:cD (b.2.2.2.2.1,b.2.2.2.2.2.1) id=some (b.2.2.2.2.1.eraseIdx k,b.2.2.2.2.2.1):=Il (v:=(b.2.2.2.2.1,b.2.2.2.2.2.1)) id (by show b.2.2.2.2.1.length<=_;omega) (by show b.2.2.2.2.2.1.length<=_;omega) hk e1;have hso:(rf b.2.2.2.2.1.length 0 (qG (sq b) id)).bind (λp=>(pw ([]:List oZ) ((b.2.2.2.2.1.take p.2).drop p.1)).bind λzs47=>(rf b.2.2.2.2.1.length (oL (qG (sq b) id+1)) (b.2.2.2.2.1.length:Int)).bind λp_1=>(pw zs47 ((b.2.2.2.2.1.take p_1.2).drop p_1.1)).bind λzs54=>some ((b.1,b.2.1,b.2.2.1,b.2.2.2.1,zs54,b.2.2.2.2.2.1,b.2.2.2.2.2.2.1,b.2.2.2.2.2.2.2.1,b.2.2.2.2.2.2.2.2.1,b.2.2.2.2.2.2.2.2.2.1,b.2.2.2.2.2.2.2.2.2.2),(0:Int)))
       = some ((b.1,b.2.1,b.2.2.1,b.2.2.2.1,b.2.2.2.2.1.eraseIdx k,b.2.2.2.2.2.1,b.2.2.2.2.2.2.1,b.2.2.2.2.2.2.2.1,b.2.2.2.2.2.2.2.2.1,b.2.2.2.2.2.2.2.2.2.1,b.2.2.2.2.2.2.2.2.2.2),0):=by
       rw[hw64,e1,show (0:Int)=((0:Nat):Int)from rfl,x8 (Nat.zero_le _) (by omega),oJ,p5 (by simp only[List.length_nil,length_drop,length_take];omega),oJ,x8 (by omega) (Nat.le_refl _),oJ,p5 (by simp only[length_append,List.length_nil,length_drop,length_take];omega),oJ,List.eraseIdx_eq_take_drop_succ];simp
      rw[hwo];refine⟨_,rfl,by rw[hso];rfl,h.rows ?_ ?_ ?_ ?_,λe=>absurd rfl e⟩
      · rw[List.length_eraseIdx];split<;>omega
      · exact h.s.sublist (List.eraseIdx_sublist _ _)
      · exact λx hx=>h.i x (List.mem_of_mem_eraseIdx hx)
      · exact λx hx=>h.h x (List.mem_of_mem_eraseIdx hx)
   · have hp':qG (sq b) id<0:=by omega
     simp only[dF hp,dT hp'];have e6:cond (n==6) (some false) (some false)=some false:=by cases (n==6)<;>rfl
     rw[e6];cases hn:(n==4)with
     | false =>
      simp only[cF,oJ];exact⟨_,rfl,rfl,h,λ_=>rfl⟩
     | true =>
      simp only[cT,oJ];by_cases h6:(b.2.2.2.2.1.length:Int)<6
      · simp only[dT h6,cT];obtain⟨g1,g2,g3⟩:=Ch (r:=(id,0,0)) h.s h.i h.h hid ⟨by show (-9223372036854775808:Int)<=0;decide,by show (0:Int)<=9223372036854775807;decide⟩;have:=HW (r:=(id,0,0)) (dn:=false) (l:=b.2.2.2.2.1)
        exact⟨_,rfl,rfl,h.rows (by omega) g1 g2 g3,λe=>absurd rfl e⟩
      · simp only[dF h6,cF,oJ];exact⟨_,rfl,rfl,h,λ_=>rfl⟩
 · have h23:c=2\/c=3:=by rcases hc with hc|hc;exact absurd hc.1 h1;exact hc.1
   have hp:qG (sq b) id>=0:=by rcases hc with hc|hc;exact absurd hc.1 h1;exact hc.2
   obtain⟨k,hk,e1,e2⟩:=wm hp;have hk':k<b.2.2.2.2.1.length:=hk
   obtain⟨t,q1,q2⟩:=Ks (BM h);rw[show (c==1)=false from beq_eq_false_iff_ne.2 h1];simp only[cF,CQ (BM h),q1,oJ,sr,xF,q2];cases hn:oU n 0 (vB (b.2.2.1.length:Int))with
   | false=>exact⟨_,rfl,rfl,h,λ_=>rfl⟩
   | true =>
    have ht:=(G7 (BM h)).2;have hnr:-9223372036854775808<=n/\n<=9223372036854775807:=by
     unfold oU at hn;simp only[aT,decide_eq_true_eq]at hn;omega
    have hx:ix b.2.2.2.2.1.length (k:Int)=some k:=tY hk';rw[hrs];simp only[Bool.not_true,cF,oJ,e1,hx,List.getElem?_eq_getElem hk',hws];have hin:∀(r:oZ),r.1=b.2.2.2.2.1[k].1->qg r false b.2.2.2.2.1=b.2.2.2.2.1.set k r:=λr e=>B7 hk' h.s e.symm
    have hki:=h.i _ (getElem_mem hk');have hkh:=h.h _ (getElem_mem hk')
    have hlen:∀(r:oZ),r.1=b.2.2.2.2.1[k].1->(qg r false b.2.2.2.2.1).length<=6:=λr e=>by rw[hin r e,length_set];exact hv
    rcases h23 with rfl|rfl
    · simp only[show ((2:Int)==2)=true from rfl,cT];obtain⟨g1,g2,g3⟩:=Ch (r:=(b.2.2.2.2.1[k].1,n,b.2.2.2.2.1[k].2.2)) h.s h.i h.h hki hkh;refine⟨_,rfl,?_,?_,λe=>absurd rfl e⟩
      · rw[hin (b.2.2.2.2.1[k].1,n,b.2.2.2.2.1[k].2.2) rfl]
      · rw[←hin (b.2.2.2.2.1[k].1,n,b.2.2.2.2.1[k].2.2) rfl];exact h.rows (hlen _ rfl) g1 g2 g3
    · simp only[show ((3:Int)==2)=false from rfl,cF];obtain⟨g1,g2,g3⟩:=Ch (r:=(b.2.2.2.2.1[k].1,b.2.2.2.2.1[k].2.1,n)) h.s h.i h.h hki hnr;refine⟨_,rfl,?_,?_,λe=>absurd rfl e⟩
      · rw[hin (b.2.2.2.2.1[k].1,b.2.2.2.2.1[k].2.1,n) rfl]
      · rw[←hin (b.2.2.2.2.1[k].1,b.2.2.2.2.1[k].2.1,n) rfl];exact h.rows (hlen _ rfl) g1 g2 g3
theorem H8 {b:oI} {o:List Int} (h:B6 b o=true):o=[1,3,1,1,1]\/(∃c p,o=[1,3,1,2,c,p]/\(c=2\/c=4)/\oU p 1 (re b)=true)\/(∃c p,o=[1,3,1,3,c,p]/\((c=1/\oU p 1 99=true)\/((c=2\/c=3)/\qG (sq b) p>=0))):=by
 unfold B6 at h;rw[aT]at h;obtain⟨h1,h2⟩:=h;unfold vD at h1;simp only[aT,decide_eq_true_eq,beq_iff_eq]at h1;have ho:o=[1,3,1]++o.drop 3:=by rw[←h1.2,List.take_append_drop]
 match hd:o.drop 3,h2 with
 | [a,c],h2 =>
  simp only[aT,beq_iff_eq]at h2;rw[hd]at ho;exact .inl (by rw[ho,h2.1,h2.2];rfl)
 | [a,c,p],h2 =>
  rw[hd]at ho;simp only[Bool.or_eq_true,aT,beq_iff_eq,decide_eq_true_eq]at h2;rcases h2 with ⟨rfl,h3,h4⟩|⟨rfl,h3⟩
  · exact .inr (.inl ⟨c,p,ho,h3,h4⟩)
  · exact .inr (.inr ⟨c,p,ho,h3⟩)
theorem K1 {b:oI} {p:Int} (h:oU p 1 (re b)=true) (hn:b.2.2.1.length<=6):∃k,k<b.2.2.1.length/\oL (p-1)=(k:Int):=by
 unfold oU re at h;simp only[aT,decide_eq_true_eq]at h;exact⟨(p-1).toNat,by omega,by rw[rb (by omega) (by omega)];omega⟩
theorem J6 {p:Pt} {n:Int} (hn:oU n 1 1000=true) (h:zi p=true):zi (p.1,n,p.2.2.1,p.2.2.2.1,p.2.2.2.2.1,p.2.2.2.2.2.1,p.2.2.2.2.2.2.1,p.2.2.2.2.2.2.2)=true:=by
 unfold zi at h ⊢;rw[aT]at h ⊢;exact⟨hn,h.2⟩
theorem K2 {b:oI} (h:tb b) {x:oK} (hx:x.1.length<=M):KP b (bo b x) (cS b x):=by
 unfold bo cS;rw[Mj h.le hx,oJ,tJ h.le,oJ,Mk h.le hx,oJ,JE h];cases hm:B6 b x.1 with
 | false =>
  rw[cF,Bool.not_false,cT,LI h.le hx,LJ h.le hx,oJ,oJ,Hv h];cases BZ b x.1 with
  | true=>exact⟨_,rfl,rfl,h,λ_=>rfl⟩
  | false=>exact⟨_,rfl,rfl,h,λ_=>rfl⟩
 | true =>
  obtain⟨o,kd,n,w,vo⟩:=x;rw[cT,Bool.not_true,cF];simp only;unfold f8;rcases H8 hm with ho|⟨c,p,ho,hc,hp⟩|⟨c,p,ho,hc⟩
  · simp only at ho;subst ho;rw[show at? [1,3,1,1,1] 3=some (1:Int)from rfl,show cut [1,3,1,1,1] 3 (([1,3,1,1,1]:List Int).length:Int)=some ([1,1]:List Int)from rfl];simp only[oJ,show at? [1,1] 0=some (1:Int)from rfl,show ((1:Int)==1)=true from rfl,cT,Bool.not_true,cF];cases (kd != 4)with
    | true=>exact⟨_,rfl,rfl,h,λ_=>rfl⟩
    | false =>
     simp only[cF,oJ];by_cases hw:(w.length:Int)>10
     · simp only[dT hw,cT];exact⟨_,rfl,rfl,h,λ_=>rfl⟩
     · simp only[dF hw,cF];exact⟨_,rfl,rfl,⟨h.id,by show w.length<=10;omega,h.n1,h.n6,h.p,h.f,h.c,h.q,h.v,h.s,h.i,h.h⟩,λe=>absurd rfl e⟩
  · simp only at ho;subst ho;rw[show at? [1,3,1,2,c,p] 3=some (2:Int)from rfl,show at? [1,3,1,2,c,p] 4=some c from rfl,show at? [1,3,1,2,c,p] 5=some p from rfl,show cut [1,3,1,2,c,p] 3 (([1,3,1,2,c,p]:List Int).length:Int)=some ([2,c,p]:List Int)from rfl];simp only[oJ,show at? [2,c,p] 0=some (2:Int)from rfl,show at? [2,c,p] 1=some c from rfl,show at? [2,c,p] 2=some p from rfl,show ((2:Int)==1)=false from rfl,show ((2:Int)==2)=true from rfl,show ((2:Int)==3)=false from rfl,cT,Bool.not_false,cF];cases (kd != 2)with
    | true=>exact⟨_,rfl,rfl,h,λ_=>rfl⟩
    | false =>
     obtain⟨k,hk,ek⟩:=K1 hp h.n6;simp only[cF,oJ,ek];unfold fi;have hx1:ix b.2.2.1.length (k:Int)=some k:=tY hk
     have hx2:ix b.2.2.2.2.2.1.length (k:Int)=some k:=tY (by rw[h.q];exact hk);have hk2:k<b.2.2.2.2.2.1.length:=by rw[h.q];exact hk
     simp only[sr,xF,oJ,hx1,hx2,List.getElem?_eq_getElem hk,List.getElem?_eq_getElem hk2];rcases hc with rfl|rfl
     · simp only[show ((2:Int)==2)=true from rfl,cT];cases hn:oU n 1 1000 with
       | false=>exact⟨_,rfl,rfl,h,λ_=>rfl⟩
       | true =>
        exact⟨_,rfl,rfl,⟨h.id,h.name,by simp only[length_set];exact h.n1,by simp only[length_set];exact h.n6,λy hy=>by
         rcases List.mem_or_eq_of_mem_set hy with e|rfl
         · exact h.p y e
         · exact J6 hn (h.p _ (getElem_mem hk)),h.f,h.c,by simp only[length_set];exact h.q,h.v,h.s,h.i,h.h⟩,λe=>absurd rfl e⟩
     · simp only[show ((4:Int)==2)=false from rfl,cF];exact⟨_,rfl,rfl,⟨h.id,h.name,h.n1,h.n6,h.p,h.f,h.c,by simp only[length_set];exact h.q,h.v,h.s,h.i,h.h⟩,λe=>absurd rfl e⟩
  · simp only at ho;subst ho;rw[show at? [1,3,1,3,c,p] 3=some (3:Int)from rfl,show at? [1,3,1,3,c,p] 4=some c from rfl,show at? [1,3,1,3,c,p] 5=some p from rfl,show cut [1,3,1,3,c,p] 3 (([1,3,1,3,c,p]:List Int).length:Int)=some ([3,c,p]:List Int)from rfl];simp only[oJ,show at? [3,c,p] 0=some (3:Int)from rfl,show at? [3,c,p] 1=some c from rfl,show at? [3,c,p] 2=some p from rfl,show ((3:Int)==1)=false from rfl,show ((3:Int)==2)=false from rfl,show ((3:Int)==3)=true from rfl,cT,Bool.not_false,cF];cases (kd != 2)with
    | true=>exact⟨_,rfl,rfl,h,λ_=>rfl⟩
    | false =>
     simp only[cF,oJ];obtain⟨r,r1,r2,r3,r4⟩:=J5 h c p n hc;exact⟨r,by rw[r1];rfl,by rw[r2];rfl,r3,r4⟩

theorem AX {α β:Type} {step t:α->Option (α⊕β)} (pq:Nat->α->Prop) (m:Nat) (R:β->Prop)
 (h:∀k x,k<m->pq k x->(∃y,step x=some (.inl y)/\t x=some (.inl y)/\pq (k+1) y)\/∃b,step x=some (.inr b)/\t x=some (.inr b)/\R b)
 (he:∀x,pq m x->∃b,step x=some (.inr b)/\t x=some (.inr b)/\R b) {x:α} (h0:pq 0 x):∃b,loop step x=some b/\loop t x=some b/\R b:=by
 have key:∀n k x,k+n=m->pq k x->∃b,rp step (n+1) x=some b/\rp t (n+1) x=some b/\R b:=by
  intro n
  induction n with
  | zero =>
   intro k x hk hx;obtain rfl:k=m:=by omega
   obtain⟨b,h1,h3,h2⟩:=he x hx;exact⟨b,by rw[pT,h1];rfl,by rw[pT,h3];rfl,h2⟩
  | succ n ih =>
   intro k x hk hx;rcases h k x (by omega) hx with ⟨y,h1,h5,h2⟩|⟨b,h1,h5,h2⟩
   · obtain⟨b,h3,h6,h4⟩:=ih (k+1) y (by omega) h2;exact⟨b,by rw[pT,h1];exact h3,by rw[pT,h5];exact h6,h4⟩
   · exact⟨b,by rw[pT,h1];rfl,by rw[pT,h5];rfl,h2⟩
 obtain⟨b,h1,h3,h2⟩:=key m 0 x (by omega) h0;exact⟨b,sx h1,sx h3,h2⟩
theorem KZ {l:List oT} (h:u9 l=true):FB l:=by
 unfold u9 at h;simp only[aT,Bool.not_eq_true',decide_eq_true_eq]at h;refine⟨λx hx=>?_,B2 (R:=lt) (λ_ _ _=>lt_trans) λk hk=>?_,by omega⟩
 · obtain⟨k,hk,rfl⟩:=getElem_of_mem hx;have hx:=any_eq_false.1 h.1 k (mem_range.2 hk)
   unfold tM at hx;simp only[List.getElem?_eq_getElem hk,Bool.or_eq_true,not_or,Bool.not_eq_true',Bool.not_eq_false]at hx;exact hx.1
 · have hx:=any_eq_false.1 h.1 (k+1) (mem_range.2 hk);unfold tM at hx;simp only[List.getElem?_eq_getElem hk,Nat.add_sub_cancel,List.getElem?_eq_getElem (show k<l.length by omega),Bool.or_eq_true,aT,decide_eq_true_eq,not_or,not_and,Bool.not_eq_true',Bool.not_eq_false]at hx;have hp:=hx.2 (by omega)
   unfold uP at hp;simp only[Bool.or_eq_true,aT,decide_eq_true_eq,beq_iff_eq]at hp;unfold lt;omega
theorem FB.sub {l m:List oT} (h:FB l) (hs:m.Sublist l):FB m :=
 ⟨λx hx=>h.e x (hs.subset hx),h.o.sublist hs,Nat.le_trans hs.length_le h.n⟩
def uu (l:List oT) (p:Int):List oT:=l.filter λe=>e.2.2.2.2||e.2.2.1 != p
theorem BN {l:List oT} (p:Int) (hn:l.length<=1000) (step:Int×List oT->Option ((Int×List oT)⊕List oT))
 (hs:∀k (hk:k<l.length) out,step ((k:Int),out)=cond (l[k].2.2.2.2||l[k].2.2.1 != p) ((pw out [l[k]]).bind λzs=>some (.inl (((k+1:Nat):Int),zs))) (some (.inl (((k+1:Nat):Int),out))))
 (he:∀out,step ((l.length:Int),out)=some (.inr out)):loop step (0,[])=some (uu l p):=by
 obtain⟨b,h1,rfl⟩:=pr (step:=step) (λk z=>z.1=(k:Int)/\z.2=uu (l.take k) p) l.length (λb=>b=uu l p)
  (λk z hk ⟨z1,z2⟩=>by
   obtain⟨i,out⟩:=z;simp only at z1 z2;subst z1 z2;left;have hl:(uu (l.take k) p).length<=k:=by
    have:=(List.filter_sublist (p:=λe:oT=>e.2.2.2.2||e.2.2.1 != p) (l:=l.take k)).length_le;rw[length_take]at this;show (List.filter _ _).length<=k
    omega
   have ht:uu (l.take (k+1)) p=uu (l.take k) p++cond (l[k].2.2.2.2||l[k].2.2.1 != p) [l[k]] []:=by
    unfold uu;rw[take_add_one,List.getElem?_eq_getElem hk,List.filter_append];rw[Option.toList_some,List.filter_cons,List.filter_nil];cases (l[k].2.2.2.2||l[k].2.2.1 != p)<;>rfl
   rw[hs k hk];cases hc:(l[k].2.2.2.2||l[k].2.2.1 != p)with
   | true =>
    rw[hc]at ht;exact⟨_,by rw[cT,p5 (by show _+1<=_;omega)];rfl,rfl,by rw[ht];rfl⟩
   | false =>
    rw[hc]at ht;exact⟨_,rfl,rfl,by rw[ht];simp⟩)
  (λz ⟨z1,z2⟩=>by
   obtain⟨i,out⟩:=z;simp only at z1 z2;subst z1 z2;exact⟨_,he _,by rw[take_length]⟩) (x:=(0,[])) ⟨rfl,rfl⟩
 exact h1
theorem K3 {l:List oT} (p:Int) (hn:l.length<=1000):dK l p=some (uu l p):=by
 unfold dK;rw[BN p hn (λz=>bW l p z.1 z.2) (λk hk out=>by
  show bW l p (k:Int) out=_;unfold bW;rw[pK (by omega),cT,pb hk,oJ,p9 (by omega)];cases l[k].2.2.2.2<;>rfl) (λout=>by
  show bW l p (l.length:Int) out=_;unfold bW;rw[pk (by omega),cF])];rfl
theorem J7 {l:List oT} (p:Int) (hn:l.length<=1000):ep l p=some (uu l p):=by
 unfold ep;rw[BN p hn (λz=>ch l p z.1 z.2) (λk hk out=>by
  show ch l p (k:Int) out=_;unfold ch;rw[pK (by omega),cT,pb hk,oJ,oJ,oJ,p9 (by omega)];cases l[k].2.2.2.2<;>rfl) (λout=>by
  show ch l p (l.length:Int) out=_;unfold ch;rw[pk (by omega),cF])];rfl
theorem H9:∀k:Nat,k<6->oU (k:Int) 0 62=true/\oU (k:Int) 0 7=true:=by
 intro k hk;unfold oU;constructor<;>(rw[dT (by omega),dT (by omega)];rfl)
theorem LT (c:Int) {k:Nat} (hk:k<6):∃t,shr .i64 c (k:Int)=some t:=by
 unfold shr;rw[if_neg (by omega)];exact⟨_,rfl⟩
theorem LU (c:Int) {k:Nat} (hk:k<6):∃t,dJ c (k:Int)=some t/\eo c (k:Int)=some t:=by
 obtain⟨t,h⟩:=LT c hk;unfold dJ eo;rw[sr,xF,oJ,oJ,(H9 k hk).1,(H9 k hk).2,cT,cT,BV (by omega),h];exact⟨_,rfl,rfl⟩
theorem L7 {n:Int} (h:oU n 0 1000000=true):∃r,cE n=some r/\eh n=some r/\oU r 0 1000000=true:=by
 unfold oU at h;simp only[aT,decide_eq_true_eq]at h;unfold cE eh oU min2;rw[rb (by omega) (by omega)];by_cases hn:n>=1000000
 · rw[dT hn,cT];refine⟨n,?_,rfl,?_⟩
   · simp only;split<;>first|rfl | (congr 1;omega)
   · simp only[aT,decide_eq_true_eq];omega
 · rw[dF hn,cF];refine⟨n+1,?_,rfl,?_⟩
   · simp only;split<;>first|rfl | (congr 1;omega)
   · simp only[aT,decide_eq_true_eq];omega
theorem tb.ok {b:oI} (h:tb b) (hv:so (b.2.2.2.2.1,b.2.2.2.2.2.1) (b.2.2.1.length:Int)=true):qI b=true:=by
 unfold qI;have h1:(List.range b.2.2.1.length).any (zj b.2.2.1)=false:=by
  rw[any_eq_false];intro k hk;have hk:=mem_range.1 hk
  unfold zj;simp[List.getElem?_eq_getElem hk,h.p _ (getElem_mem hk)]
 have h2:=h.name;rw[h1,h.id,h.f,hv,h.c,BM h,dF (show ¬(b.2.1.length:Int)>10 by omega)];rfl
theorem L8 {b:oI} (h:tb b):∃r,bp b=some r/\ci b=some r/\tb r/\r.2.2.1=b.2.2.1/\r.2.2.2.2.1=b.2.2.2.2.1/\r.2.2.2.2.2.1=b.2.2.2.2.2.1/\r.1=b.1/\r.2.1=b.2.1/\r.2.2.2.2.2.2.1=b.2.2.2.2.2.2.1/\r.2.2.2.2.2.2.2.1=b.2.2.2.2.2.2.2.1/\r.2.2.2.2.2.2.2.2.1=b.2.2.2.2.2.2.2.2.1/\r.2.2.2.2.2.2.2.2.2.1=b.2.2.2.2.2.2.2.2.2.1/\cE b.2.2.2.2.2.2.2.2.2.2=some r.2.2.2.2.2.2.2.2.2.2:=by
 have n6:=h.n6;have hc:=h.c
 unfold tI at hc;simp only[aT]at hc;obtain⟨v,v1,v2,v3⟩:=L7 hc.2.2.2.2;obtain⟨c,_,c1,c2⟩:=Kz b.1 (l:=b.2.2.1) (by omega);unfold bp ci;rw[v1,v2,c1,c2];simp only[oJ];have hF:=KZ h.f
 obtain⟨d,d1,d2,F,hf,rfl⟩:=AX (step:=λz:Int×Int×List UInt8×Int×Int×Int×Int×Int×List oT=>dL b (c:Int) z.1 z.2.1 z.2.2.1 z.2.2.2.1 z.2.2.2.2.1 z.2.2.2.2.2.1 z.2.2.2.2.2.2.1 z.2.2.2.2.2.2.2.1 z.2.2.2.2.2.2.2.2)
  (t:=λz:Int×Int×List UInt8×Int×Int×Int×Int×Int×List oT=>eq b (c:Int) z.1 z.2.1 z.2.2.1 z.2.2.2.1 z.2.2.2.2.1 z.2.2.2.2.2.1 z.2.2.2.2.2.2.1 z.2.2.2.2.2.2.2.1 z.2.2.2.2.2.2.2.2)
  (λk z=>∃F:List oT,F.Sublist b.2.2.2.1/\z=((k:Int),b.1,b.2.1,b.2.2.2.2.2.2.1,b.2.2.2.2.2.2.2.1,b.2.2.2.2.2.2.2.2.1,b.2.2.2.2.2.2.2.2.2.1,v,F)) b.2.2.1.length
  (λd=>∃F:List oT,F.Sublist b.2.2.2.1/\d=(b.1,b.2.1,b.2.2.2.2.2.2.1,b.2.2.2.2.2.2.2.1,b.2.2.2.2.2.2.2.2.1,b.2.2.2.2.2.2.2.2.2.1,v,F))
  (λk z hk ⟨F,hf,e⟩=>by
   subst e;left;obtain⟨t,t1,t2⟩:=LU (c:Int) (show k<6 by omega);have hl:F.length<=1000:=by have:=hf.length_le;have:=hF.n;omega
   simp only;unfold dL eq;rw[pK (show (k:Int)<(b.2.2.1.length:Int) by omega),cT,cT,t1,t2,oJ,oJ,K3 _ hl,J7 _ hl,p9 (show k<9223372036854775807 by omega)];cases t with
   | true=>exact⟨_,rfl,rfl,F,hf,rfl⟩
   | false=>exact⟨_,rfl,rfl,uu F (k:Int),List.Sublist.trans List.filter_sublist hf,rfl⟩)
  (λz ⟨F,hf,e⟩=>by
   subst e;simp only;unfold dL eq;rw[pk (show ¬(b.2.2.1.length:Int)<(b.2.2.1.length:Int) by omega),cF,cF];exact⟨_,rfl,rfl,F,hf,rfl⟩) (x:=(0,b.1,b.2.1,b.2.2.2.2.2.2.1,b.2.2.2.2.2.2.2.1,b.2.2.2.2.2.2.2.2.1,b.2.2.2.2.2.2.2.2.2.1,v,b.2.2.2.1)) ⟨_,List.Sublist.refl _,rfl⟩
 rw[d1,d2];refine⟨_,rfl,rfl,⟨h.id,h.name,h.n1,h.n6,h.p,(hF.sub hf).ok,?_,h.q,h.v,h.s,h.i,h.h⟩,rfl,rfl,rfl,rfl,rfl,rfl,rfl,rfl,rfl,rfl⟩;unfold tI;simp only[aT];exact⟨hc.1,hc.2.1,hc.2.2.1,hc.2.2.2.1,v3⟩
theorem L9 {b:oI} (h:tb b):∃r,bp b=some r/\ci b=some r/\tb r/\r.2.2.1=b.2.2.1/\r.2.2.2.2.1=b.2.2.2.2.1/\r.2.2.2.2.2.1=b.2.2.2.2.2.1:=by
 obtain⟨r,h1,h2,h3,h4,h5,h6,_⟩:=L8 h;exact⟨r,h1,h2,h3,h4,h5,h6⟩
theorem HX {α:Type} [BEq α] [LawfulBEq α] (a b:α):(a==b)=(b==a):=by
 by_cases h:a=b
 · subst h;rfl
 · rw[beq_eq_false_iff_ne.2 h,beq_eq_false_iff_ne.2 (Ne.symm h)]

abbrev K4:=Int×Int×Int×List UInt8×Int×Int×Int×Int×Int×List Pt×List oT×List oZ×List Int
abbrev LM:=Int×List UInt8×Int×Int×Int×Int×Int
def K5 (c k:Int) (b:oI):K4:=(c,k,b.1,b.2.1,b.2.2.2.2.2.2.1,b.2.2.2.2.2.2.2.1,b.2.2.2.2.2.2.2.2.1,b.2.2.2.2.2.2.2.2.2.1,b.2.2.2.2.2.2.2.2.2.2,b.2.2.1,b.2.2.2.1,b.2.2.2.2.1,b.2.2.2.2.2.1)
theorem K6 {b:oI} (hb:u7 M b) {l:List oK} (hl:vA M l) {k:Nat} (hk:k<l.length) (s:LM) :
 ∃r:LM⊕K4,loop (λz=>cG b (k:Int) l[k] (l.take k) z.1 z.2.1 z.2.2.1 z.2.2.2.1 z.2.2.2.2.1 z.2.2.2.2.2.1 z.2.2.2.2.2.2.1 z.2.2.2.2.2.2.2) (0,s)=some r
  /\ loop (λz=>cX b l (k:Int) z.1 z.2.1 z.2.2.1 z.2.2.2.1 z.2.2.2.2.1 z.2.2.2.2.2.1 z.2.2.2.2.2.2.1 z.2.2.2.2.2.2.2) (0,s)=some r/\((r=.inl s/\∀j (hj:j<k),l[j].1≠l[k].1)\/(r=.inr (K5 5 ((k+1:Nat):Int) b)/\∃j,∃hj:j<k,l[j].1=l[k].1)):=by
 obtain⟨a0,a1,a6,a7,a8,a9,a10⟩:=s;have hn:l.length<=1048576:=hl.1
 refine AX (λj z=>z=((j:Int),a0,a1,a6,a7,a8,a9,a10)/\∀i (hi:i<k),i<j->l[i].1≠l[k].1) k _ (λj z hj ⟨e,hne⟩=>?_) (λz ⟨e,hne⟩=>?_) ⟨rfl,λi _ hi=>absurd hi (Nat.not_lt_zero _)⟩
 · subst e;have ht:j<(l.take k).length:=by rw[length_take];omega
   have hg:(l.take k)[j]=l[j]:=List.getElem_take;have hw:∀i,i<l.length->∀(hi:i<l.length),l[i].1.length<9223372036854775807:=λi h1 h2=>by have:l[i].1.length<=1048576:=(hl.2 _ (getElem_mem h2)).1;omega
   have s1:aq l[k].1 l[j].1=some (l[k].1==l[j].1):=xH (hw j (by omega) (by omega));have s2:bv l[j].1 l[k].1=some (l[k].1==l[j].1):=by rw[HX];exact xH (hw k hk hk)
   simp only;unfold cG cX;rw[pK (show (j:Int)<((l.take k).length:Int) by omega),pK (show (j:Int)<(k:Int) by omega),cT,cT,pb ht,hg,pb (show j<l.length by omega),pb hk];simp only[oJ,s1,s2];cases hb2:(l[k].1==l[j].1)with
   | true =>
    right;rw[wl hb,tJ hb];exact⟨_,rfl,by rw[p9 (show k<9223372036854775807 by omega)];rfl,.inr ⟨by rw[p9 (show k<9223372036854775807 by omega)];rfl,j,hj,(beq_iff_eq.1 hb2).symm⟩⟩
   | false =>
    left;refine⟨_,rfl,rfl,by rw[p9 (show j<9223372036854775807 by omega)],λi hi hij=>?_⟩;by_cases e:i=j
    · subst e;exact λe=>(beq_eq_false_iff_ne.1 hb2) e.symm
    · exact hne i hi (by omega)
 · subst e;have ht:(l.take k).length=k:=by rw[length_take];omega
   refine⟨.inl (a0,a1,a6,a7,a8,a9,a10),?_,?_,.inl ⟨rfl,λj hj=>hne j hj hj⟩⟩
   · show cG b _ _ _ _ _ _ _ _ _ _ _=_;unfold cG;rw[ht,pk (by omega),cF]
   · show cX b _ _ _ _ _ _ _ _ _ _=_;unfold cX;rw[pk (by omega),cF]
theorem q5 {α β:Type} {step:α->Option (α⊕β)} {x:α} {b:β} (h:step x=some (.inr b)):loop step x=some b:=sx (k:=1) (by rw[pT,h];rfl)
inductive xC (b:oI):List oK->oI->Prop
 | nil:xC b [] b
 | snoc {l:List oK} {y y':oI} {x:oK}:xC b l y->tb y->bo y x=some (y',0)->xC b (l++[x]) y'
def Is (b:oI) (l:List oK) (c:Int):Prop:=(qI b=false/\c=3)\/(∃k y,∃hk:k<l.length,xC b (l.take k) y/\tb y/\(((∃j,∃hj:j<k,l[j].1=l[k].1)/\c=5)\/∃y',bo y l[k]=some (y',c)))\/∃y,xC b l y/\c=5
theorem Ci {b:oI} (h:uQ b) (hb:u7 M b) {l:List oK} (hl:vA M l):∃r,bY b l=some r/\ev b l=some r/\u7 M r.1/\(qI b=true->tb r.1/\qI r.1=true)/\((r.2.1=0/\r.2.2=0/\((l=[]/\r.1=b)\/∃y,xC b l y/\tb y/\(∀i (hi:i<l.length),∀j (hj:j<i),l[j].1≠l[i].1)/\bp y=some r.1))\/(r.1=b/\r.2.1≠0/\1<=r.2.2/\r.2.2<=(l.length:Int)/\Is b l r.2.1)):=by
 have hn:l.length<=1048576:=hl.1;unfold bY ev;rw[wl hb,tJ hb,Cj h,Ck h];simp only[oJ];by_cases h0:l=[]
 · subst h0;have e1:decide ((([]:List oK).length:Int)>0)=false:=rfl
   have e2:((([]:List oK).length:Int)==0)=true:=rfl;have e3:cond (!qI b) (some false) (some false)=some false:=by cases qI b<;>rfl
   rw[e1,e2,e3,cT];simp only[oJ,cF];refine⟨_,rfl,(congrArg (λo=>Option.bind o _) (q5 (b:=.inl (0,[],0,0,0,0,0,b.1,b.2.1,b.2.2.2.2.2.2.1,b.2.2.2.2.2.2.2.1,b.2.2.2.2.2.2.2.2.1,b.2.2.2.2.2.2.2.2.2.1,b.2.2.2.2.2.2.2.2.2.2,[],[],[],[],b.2.2.1,b.2.2.2.1,b.2.2.2.2.1,b.2.2.2.2.2.1)) rfl)).trans rfl,hb,λhp=>⟨(Fc h hp).sok,hp⟩,.inl ⟨rfl,rfl,.inl ⟨by first|trivial|rfl,rfl⟩⟩⟩
 · have hpos:0<l.length:=List.length_pos_iff.2 h0;rw[show ((l.length:Int)==0)=false from beq_eq_false_iff_ne.2 (by omega),dT (show (l.length:Int)>0 by omega)];cases hp:qI b with
   | false=>exact⟨_,rfl,rfl,hb,λhp=>(by cases hp),.inr ⟨rfl,(by show (3:Int)≠0;decide),by show (1:Int)<=1;decide,by show (1:Int)<=_;omega,.inl ⟨hp,rfl⟩⟩⟩
   | true =>
    have hs0:=(Fc h hp).sok;simp only[Bool.not_true,cF,oJ];obtain⟨d,d1,d2,d3⟩:=AX (step:=λz:Int×Int×List UInt8×Int×Int×Int×Int×Int×Int×List UInt8×Int×Int×Int×Int×Int×List Pt×List oT×List oZ×List Int×List Pt×List oT×List oZ×List Int=>dM b l z.1 z.2.1 z.2.2.1 z.2.2.2.1 z.2.2.2.2.1 z.2.2.2.2.2.1 z.2.2.2.2.2.2.1 z.2.2.2.2.2.2.2.1 z.2.2.2.2.2.2.2.2.1 z.2.2.2.2.2.2.2.2.2.1 z.2.2.2.2.2.2.2.2.2.2.1 z.2.2.2.2.2.2.2.2.2.2.2.1 z.2.2.2.2.2.2.2.2.2.2.2.2.1 z.2.2.2.2.2.2.2.2.2.2.2.2.2.1 z.2.2.2.2.2.2.2.2.2.2.2.2.2.2.1 z.2.2.2.2.2.2.2.2.2.2.2.2.2.2.2.1 z.2.2.2.2.2.2.2.2.2.2.2.2.2.2.2.2.1 z.2.2.2.2.2.2.2.2.2.2.2.2.2.2.2.2.2.1 z.2.2.2.2.2.2.2.2.2.2.2.2.2.2.2.2.2.2.1 z.2.2.2.2.2.2.2.2.2.2.2.2.2.2.2.2.2.2.2.1 z.2.2.2.2.2.2.2.2.2.2.2.2.2.2.2.2.2.2.2.2.1 z.2.2.2.2.2.2.2.2.2.2.2.2.2.2.2.2.2.2.2.2.2.1 z.2.2.2.2.2.2.2.2.2.2.2.2.2.2.2.2.2.2.2.2.2.2)
     (t:=λz=>eu b l z.1 z.2.1 z.2.2.1 z.2.2.2.1 z.2.2.2.2.1 z.2.2.2.2.2.1 z.2.2.2.2.2.2.1 z.2.2.2.2.2.2.2.1 z.2.2.2.2.2.2.2.2.1 z.2.2.2.2.2.2.2.2.2.1 z.2.2.2.2.2.2.2.2.2.2.1 z.2.2.2.2.2.2.2.2.2.2.2.1 z.2.2.2.2.2.2.2.2.2.2.2.2.1 z.2.2.2.2.2.2.2.2.2.2.2.2.2.1 z.2.2.2.2.2.2.2.2.2.2.2.2.2.2.1 z.2.2.2.2.2.2.2.2.2.2.2.2.2.2.2.1 z.2.2.2.2.2.2.2.2.2.2.2.2.2.2.2.2.1 z.2.2.2.2.2.2.2.2.2.2.2.2.2.2.2.2.2.1 z.2.2.2.2.2.2.2.2.2.2.2.2.2.2.2.2.2.2.1 z.2.2.2.2.2.2.2.2.2.2.2.2.2.2.2.2.2.2.2.1 z.2.2.2.2.2.2.2.2.2.2.2.2.2.2.2.2.2.2.2.2.1 z.2.2.2.2.2.2.2.2.2.2.2.2.2.2.2.2.2.2.2.2.2.1 z.2.2.2.2.2.2.2.2.2.2.2.2.2.2.2.2.2.2.2.2.2.2)
     (λk z=>∃y:oI,(tb y/\xC b (l.take k) y/\∀i (hi:i<l.length),i<k->∀j (hj:j<i),l[j].1≠l[i].1)/\z=((k:Int),0,[],0,0,0,0,0,y.1,y.2.1,y.2.2.2.2.2.2.1,y.2.2.2.2.2.2.2.1,y.2.2.2.2.2.2.2.2.1,y.2.2.2.2.2.2.2.2.2.1,y.2.2.2.2.2.2.2.2.2.2,[],[],[],[],y.2.2.1,y.2.2.2.1,y.2.2.2.2.1,y.2.2.2.2.2.1)) l.length
     (λd=>(∃y:oI,(tb y/\xC b l y/\∀i (hi:i<l.length),∀j (hj:j<i),l[j].1≠l[i].1)/\d=.inl (0,[],0,0,0,0,0,y.1,y.2.1,y.2.2.2.2.2.2.1,y.2.2.2.2.2.2.2.1,y.2.2.2.2.2.2.2.2.1,y.2.2.2.2.2.2.2.2.2.1,y.2.2.2.2.2.2.2.2.2.2,[],[],[],[],y.2.2.1,y.2.2.2.1,y.2.2.2.2.1,y.2.2.2.2.2.1))\/∃c k:Int,c≠0/\1<=k/\k<=(l.length:Int)/\Is b l c/\d=.inr (K5 c k b))
     (λk z hk ⟨y,⟨hy,hst,hdi⟩,e⟩=>by
      subst e;obtain⟨r,r1,r2,r3⟩:=K6 hb hl hk (0,[],0,0,0,0,0);have hc:cut l 0 (k:Int)=some (l.take k):=by rw[show (0:Int)=((0:Nat):Int)from rfl,tC (Nat.zero_le _) (by omega),List.drop_zero]
      simp only;unfold dM eu;rw[pK (show (k:Int)<(l.length:Int) by omega),cT,cT,pb hk,oJ,hc,oJ,r1,r2,oJ,oJ];rcases r3 with ⟨rfl,hnd⟩|⟨rfl,hdup⟩
      · obtain⟨q,q1,q2,q3,q4⟩:=K2 hy (hl.2 _ (getElem_mem hk)).1;have q1':bo (y.1,y.2.1,y.2.2.1,y.2.2.2.1,y.2.2.2.2.1,y.2.2.2.2.2.1,y.2.2.2.2.2.2.1,y.2.2.2.2.2.2.2.1,y.2.2.2.2.2.2.2.2.1,y.2.2.2.2.2.2.2.2.2.1,y.2.2.2.2.2.2.2.2.2.2) l[k]=some q:=q1
        have q2':cS (y.1,y.2.1,y.2.2.1,y.2.2.2.1,y.2.2.2.2.1,y.2.2.2.2.2.1,y.2.2.2.2.2.2.1,y.2.2.2.2.2.2.2.1,y.2.2.2.2.2.2.2.2.1,y.2.2.2.2.2.2.2.2.2.1,y.2.2.2.2.2.2.2.2.2.2) l[k]=some q:=q2;simp only[Sum.elim_inl,oJ,q1',q2',wl hb,tJ hb,p9 (show k<9223372036854775807 by omega)];cases hq:(q.2 != 0)with
        | true =>
         right;exact⟨_,rfl,rfl,.inr ⟨q.2,((k+1:Nat):Int),bne_iff_ne.1 hq,by omega,by omega,.inr (.inl ⟨k,y,hk,hst,hy,.inr ⟨q.1,q1⟩⟩),rfl⟩⟩
        | false =>
         left;have hq0:q.2=0:=by simpa using hq
         refine⟨_,rfl,rfl,q.1,⟨q3,?_,λi hi hik j hj=>?_⟩,rfl⟩
         · rw[take_add_one,List.getElem?_eq_getElem hk];exact .snoc hst hy (by rw[q1,←hq0])
         · by_cases e:i=k
           · subst e;exact hnd j hj
           · exact hdi i hi (by omega) j hj
      · right;exact⟨_,rfl,rfl,.inr ⟨5,((k+1:Nat):Int),by decide,by omega,by omega,.inr (.inl ⟨k,y,hk,hst,hy,.inl ⟨hdup,rfl⟩⟩),rfl⟩⟩)
     (λz ⟨y,⟨hy,hst,hdi⟩,e⟩=>by
      subst e;simp only;unfold dM eu;rw[pk (show ¬(l.length:Int)<(l.length:Int) by omega),cF,cF];rw[take_length]at hst;exact⟨_,rfl,rfl,.inl ⟨y,⟨hy,hst,λi hi=>hdi i hi hi⟩,rfl⟩⟩) (x:=(0,0,[],0,0,0,0,0,b.1,b.2.1,b.2.2.2.2.2.2.1,b.2.2.2.2.2.2.2.1,b.2.2.2.2.2.2.2.2.1,b.2.2.2.2.2.2.2.2.2.1,b.2.2.2.2.2.2.2.2.2.2,[],[],[],[],b.2.2.1,b.2.2.2.1,b.2.2.2.2.1,b.2.2.2.2.2.1)) ⟨b,⟨hs0,.nil,λi _ hi=>absurd hi (Nat.not_lt_zero _)⟩,rfl⟩
    rw[d1,d2,oJ,oJ];rcases d3 with ⟨y,⟨hy,hst,hdi⟩,rfl⟩|⟨c,k,c0,k1,k2,hfl,rfl⟩
    · have n6:=hy.n6;have v6:=hy.v;have hq:=hy.q
      have t1:bO (y.2.2.2.2.1,y.2.2.2.2.2.1) (y.2.2.1.length:Int)=some (so (y.2.2.2.2.1,y.2.2.2.2.2.1) (y.2.2.1.length:Int)):=ID (v:=(y.2.2.2.2.1,y.2.2.2.2.2.1)) _ (by show y.2.2.2.2.1.length<_;omega) (by show y.2.2.2.2.2.1.length<_;omega);have t2:ca (y.2.2.2.2.1,y.2.2.2.2.2.1) (y.2.2.1.length:Int)=some (so (y.2.2.2.2.1,y.2.2.2.2.2.1) (y.2.2.1.length:Int)):=IE (v:=(y.2.2.2.2.1,y.2.2.2.2.2.1)) _ (by show y.2.2.2.2.1.length<_;omega) (by show y.2.2.2.2.2.1.length<_;omega) hy.h
      simp only[Sum.elim_inl,t1,t2,oJ];cases hv:so (y.2.2.2.2.1,y.2.2.2.2.2.1) (y.2.2.1.length:Int)with
      | false=>exact⟨_,rfl,rfl,hb,λ_=>⟨hs0,hp⟩,.inr ⟨rfl,by show (5:Int)≠0;decide,by show (1:Int)<=(l.length:Int);omega,Int.le_refl _,.inr (.inr ⟨y,hst,rfl⟩)⟩⟩
      | true =>
       obtain⟨r,r1,r2,r3,r4,r5,r6⟩:=L9 hy;have r1':bp (y.1,y.2.1,y.2.2.1,y.2.2.2.1,y.2.2.2.2.1,y.2.2.2.2.2.1,y.2.2.2.2.2.2.1,y.2.2.2.2.2.2.2.1,y.2.2.2.2.2.2.2.2.1,y.2.2.2.2.2.2.2.2.2.1,y.2.2.2.2.2.2.2.2.2.2)=some r:=r1
       have r2':ci (y.1,y.2.1,y.2.2.1,y.2.2.2.1,y.2.2.2.2.1,y.2.2.2.2.2.1,y.2.2.2.2.2.2.1,y.2.2.2.2.2.2.2.1,y.2.2.2.2.2.2.2.2.1,y.2.2.2.2.2.2.2.2.2.1,y.2.2.2.2.2.2.2.2.2.2)=some r:=r2;simp only[Bool.not_true,cF,r1',r2',oJ];exact⟨_,rfl,rfl,r3.le,λ_=>⟨r3,r3.ok (by rw[r4,r5,r6];exact hv)⟩,.inl ⟨rfl,rfl,.inr ⟨y,hst,hy,hdi,r1⟩⟩⟩
    · simp only[Sum.elim_inr];exact⟨_,rfl,rfl,hb,λ_=>⟨hs0,hp⟩,.inr ⟨rfl,c0,k1,k2,hfl⟩⟩

theorem qy.le {b:oI} (h:qy b):u7 M b:=by
 obtain⟨v1,v2,v3,v4⟩:=h.vt.len;have h1:=h.name;have h2:=h.n6;have h3:=h.f12
 have v3':b.2.2.2.2.2.1.length=b.2.2.1.length:=v3;have v4':b.2.2.2.2.1.length<=6:=v4
 have hM:M=1048576:=rfl;exact⟨by omega,by omega,by omega,by omega,by omega⟩
def Mp (v:rk):Prop:=(v.1=2->v.2.2.1=[]/\v.2.2.2=[])/\(v.1=4->v.2.1=0/\v.2.2.2=[])
def Mq (v:rk):Prop:=v.2.2.1.length<=100/\v.2.2.2.length<=1000/\Mp v
def K7 (x:oK):Prop:=x.1.length<=1000/\Mq x.2
theorem K7.le {x:oK} (h:K7 x):wZ M x:=by
 have hM:M=1048576:=rfl;obtain⟨h1,h2,h3,_⟩:=h;exact⟨by omega,by omega,by omega⟩
def vu (n:Int):Int:=if n>2147483647 then 2147483647 else if n < -2147483648 then -2147483648 else n
theorem ER (n:Int):-2147483648<=vu n/\vu n<=2147483647:=by unfold vu;split<;>(try split)<;>omega
def qW (m:Int):List Int:=if oU m (-128) 127 then [m%256]else if oU m (-32768) 32767 then [m/256%256,m%256]else if oU m (-8388608) 8388607 then [m/65536%256,m/256%256,m%256]else [m/16777216%256,m/65536%256,m/256%256,m%256]
theorem w8 (x:Int):IntKind.u8.wrap x=x%256:=rfl
theorem fd (m:Int) {k:Int} (hk:0<=k):m.fdiv k=m/k:=Int.fdiv_eq_ediv_of_nonneg m hk
theorem qr {α β:Type} {step:α->Option (α⊕β)} {x y:α} {b:β} (h:step x=some (.inl y)) (k:loop step y=some b):loop step x=some b:=by
 obtain⟨n,hn⟩:=zG k;exact sx (k:=n+1) (by rw[pT,h];exact hn)
theorem Ha {n:Int} (hn:-9223372036854775808<=n/\n<=9223372036854775807):cq n=some (qW (vu n)):=by
 unfold cq;have hc:max2 (-2147483648) (min2 n 2147483647)=vu n:=by
  unfold max2 min2 vu;split<;>split<;>(try split)<;>(try split)<;>omega
 rw[hc];obtain⟨h1,h2⟩:=ER n;generalize vu n=m at h1 h2;simp only;have a1:av m 1=cond (!(oU m (-128) 127)) (some (.inl 2)) (some (.inr 1)):=by
  unfold av;rw[show shl .i64 (-1) (oL ((oL (8*1))-1))=some (-128)from rfl,show shl .i64 1 (oL ((oL (8*1))-1))=some 128 from rfl];simp only[oJ,sr];rw[show oL (128-1)=127 from rfl];cases oU m (-128) 127<;>rfl
 have a2:av m 2=cond (!(oU m (-32768) 32767)) (some (.inl 3)) (some (.inr 2)):=by
  unfold av;rw[show shl .i64 (-1) (oL ((oL (8*2))-1))=some (-32768)from rfl,show shl .i64 1 (oL ((oL (8*2))-1))=some 32768 from rfl];simp only[oJ,sr];rw[show oL (32768-1)=32767 from rfl];cases oU m (-32768) 32767<;>rfl
 have a3:av m 3=cond (!(oU m (-8388608) 8388607)) (some (.inl 4)) (some (.inr 3)):=by
  unfold av;rw[show shl .i64 (-1) (oL ((oL (8*3))-1))=some (-8388608)from rfl,show shl .i64 1 (oL ((oL (8*3))-1))=some 8388608 from rfl];simp only[oJ,sr];rw[show oL (8388608-1)=8388607 from rfl];cases oU m (-8388608) 8388607<;>rfl
 have a4:av m 4=some (.inr 4):=rfl;have b3:∀out:List Int,out.length<=10->ap m 3 out=some (.inl (2,out++[m/16777216%256])):=λout ho=>by
  unfold ap;rw[show shr .i64 m (oL (8*3))=some (m.fdiv (2^24))from rfl,oJ,p5 (by simp;omega),oJ,w8,fd m (by decide)];rfl
 have b2:∀out:List Int,out.length<=10->ap m 2 out=some (.inl (1,out++[m/65536%256])):=λout ho=>by
  unfold ap;rw[show shr .i64 m (oL (8*2))=some (m.fdiv (2^16))from rfl,oJ,p5 (by simp;omega),oJ,w8,fd m (by decide)];rfl
 have b1:∀out:List Int,out.length<=10->ap m 1 out=some (.inl (0,out++[m/256%256])):=λout ho=>by
  unfold ap;rw[show shr .i64 m (oL (8*1))=some (m.fdiv (2^8))from rfl,oJ,p5 (by simp;omega),oJ,w8,fd m (by decide)];rfl
 have b0:∀out:List Int,out.length<=10->ap m 0 out=some (.inl (-1,out++[m%256])):=λout ho=>by
  unfold ap;rw[show shr .i64 m (oL (8*0))=some (m.fdiv (2^0))from rfl,oJ,p5 (by simp;omega),oJ,w8,fd m (by decide)];simp;rfl
 have be:∀out:List Int,ap m (-1) out=some (.inr out):=λout=>rfl;have c0:∀out:List Int,out.length<=9->loop (λz:Int×List Int=>ap m z.1 z.2) (0,out)=some (out++[m%256]):=λout ho=>qr (b0 out (by omega)) (q5 (be _))
 have c1:∀out:List Int,out.length<=8->loop (λz:Int×List Int=>ap m z.1 z.2) (1,out)=some (out++[m/256%256]++[m%256]):=λout ho=>qr (b1 out (by omega)) (c0 _ (by simp;omega));have c2:∀out:List Int,out.length<=7->loop (λz:Int×List Int=>ap m z.1 z.2) (2,out)=some (out++[m/65536%256]++[m/256%256]++[m%256]):=λout ho=>qr (b2 out (by omega)) (c1 _ (by simp;omega))
 have c3:∀out:List Int,out.length<=6->loop (λz:Int×List Int=>ap m z.1 z.2) (3,out)=some (out++[m/16777216%256]++[m/65536%256]++[m/256%256]++[m%256]):=λout ho=>qr (b3 out (by omega)) (c2 _ (by simp;omega));unfold qW;cases h8:oU m (-128) 127 with
 | true =>
  rw[h8]at a1;rw[q5 (step:=λz=>av m z) a1,oJ,show oL (1-1)=0 from rfl,c0 [] (by simp)];rfl
 | false =>
  rw[h8]at a1;cases h16:oU m (-32768) 32767 with
  | true =>
   rw[h16]at a2;rw[qr (step:=λz=>av m z) a1 (q5 a2),oJ,show oL (2-1)=1 from rfl,c1 [] (by simp)];rfl
  | false =>
   rw[h16]at a2;cases h24:oU m (-8388608) 8388607 with
   | true =>
    rw[h24]at a3;rw[qr (step:=λz=>av m z) a1 (qr a2 (q5 a3)),oJ,show oL (3-1)=2 from rfl,c2 [] (by simp)];rfl
   | false =>
    rw[h24]at a3;rw[qr (step:=λz=>av m z) a1 (qr a2 (qr a3 (q5 a4))),oJ,show oL (4-1)=3 from rfl,c3 [] (by simp)];rfl
theorem zP {n a b:Int} (h:oU n a b=false):n<a\/n>b:=by
 unfold oU at h;simp only[Bool.and_eq_false_iff,decide_eq_false_iff_not]at h;omega
theorem ru {n a b:Int} (h:oU n a b=true):a<=n/\n<=b:=by
 unfold oU at h;simp only[aT,decide_eq_true_eq]at h;omega
theorem Aa {n:Int}:br n=some (qW (vu n)):=by
 unfold br;have hc:aK n=some (vu n):=by
  unfold aK vu;by_cases h1:n>2147483647
  · rw[dT h1,cT,if_pos h1]
  · rw[dF h1,cF,if_neg h1];by_cases h2:n < -2147483648
    · rw[dT h2,cT,if_pos h2]
    · rw[dF h2,cF,if_neg h2]
 rw[hc,oJ];obtain⟨h1,h2⟩:=ER n;generalize vu n=m at h1 h2;have st:∀(x:Int) (out:List Int),out.length<=10->bc x out=cond (oU x (-128) 127) (some (.inr out)) (some (.inl (x/256,x/256%256::out))):=λx out ho=>by
  unfold bc;have e:(cond (decide (x<(-128))) (some true) (some (decide (x>127))))=some (!(oU x (-128) 127)):=by
   unfold oU;by_cases h1:x < -128
   · rw[dT h1,cT,dF (show ¬x >= -128 by omega)];rfl
   · rw[dF h1,cF,dT (show x >= -128 by omega)];by_cases h2:x>127
     · rw[dT h2,dF (show ¬x<=127 by omega)];rfl
     · rw[dF h2,dT (show x<=127 by omega)];rfl
  rw[e,oJ,p5 (by simp;omega),oJ,w8,fd x (by decide)];cases oU x (-128) 127<;>rfl
 rw[w8];have goes:∀(x:Int) (out:List Int),out.length<=9->oU x (-128) 127=true->loop (λz:Int×List Int=>bc z.1 z.2) (x,out)=some out:=λx out ho h=>q5 (by show bc x out=_;rw[st x out (by omega),h];rfl)
 have more:∀(x:Int) (out r:List Int),out.length<=9->oU x (-128) 127=false->loop (λz:Int×List Int=>bc z.1 z.2) (x/256,x/256%256::out)=some r->loop (λz:Int×List Int=>bc z.1 z.2) (x,out)=some r:=λx out r ho h k=>qr (by show bc x out=_;rw[st x out (by omega),h];rfl) k;have vY:∀(x a b:Int),a<=x->x<=b->oU x a b=true:=λx a b h1 h2=>by unfold oU;rw[dT h1,dT h2];rfl
 have outn:∀(x a b:Int),(x<a\/x>b)->oU x a b=false:=λx a b h=>by
  unfold oU;simp only[Bool.and_eq_false_iff,decide_eq_false_iff_not];omega
 unfold qW;cases h8:oU m (-128) 127 with
 | true=>rw[goes m _ (by simp) h8];rfl
 | false =>
  have k8:=zP h8;cases h16:oU m (-32768) 32767 with
  | true =>
   have k16:=ru h16;rw[more m _ _ (by simp) h8 (goes (m/256) _ (by simp) (vY _ _ _ (by omega) (by omega)))];rfl
  | false =>
   have k16:=zP h16;cases h24:oU m (-8388608) 8388607 with
   | true =>
    have k24:=ru h24;rw[more m _ _ (by simp) h8 (more (m/256) _ _ (by simp) (outn _ _ _ (by omega)) (goes (m/256/256) _ (by simp) (vY _ _ _ (by omega) (by omega))))];rw[show m/256/256=m/65536 by omega];rfl
   | false =>
    have k24:=zP h24;rw[more m _ _ (by simp) h8 (more (m/256) _ _ (by simp) (outn _ _ _ (by omega)) (more (m/256/256) _ _ (by simp) (outn _ _ _ (by omega)) (goes (m/256/256/256) _ (by simp) (vY _ _ _ (by omega) (by omega)))))];rw[show m/256/256=m/65536 by omega,show m/65536/256=m/16777216 by omega];rfl

def Mr (b:List Int):Prop:=∀x∈b,0<=x/\x<=255
def pZ (t:Int) (body:List Int):List Int:=t::((if body.length>=128 then [129,(body.length:Int)]else [(body.length:Int)])++body)
theorem FY (t:Int) {body:List Int} (hn:body.length<=M):bg t body=some (if oU t 0 255=true/\body.length<=250 then (pZ t body,true)else ([],false)):=by
 have hn':body.length<=1048576:=hn;unfold bg;rw[sr,oJ];cases ht:oU t 0 255 with
 | false=>rw[if_neg (by simp)];rfl
 | true =>
  obtain⟨t1,t2⟩:=ru ht;rw[Bool.not_true,cF,oJ];by_cases h:(body.length:Int)>250
  · rw[dT h,cT,if_neg (by omega)]
  · rw[dF h,cF,if_pos ⟨rfl,by omega⟩];unfold pZ;have e1:IntKind.u8.wrap t=t:=by rw[w8];omega
    have e2:IntKind.u8.wrap (body.length:Int)=(body.length:Int):=by rw[w8];omega
    by_cases h8:(body.length:Int)>=128
    · rw[dT h8,cT,p5 (by simp),oJ,p5 (by simp),oJ,p5 (by simp;omega),oJ,if_pos (by omega),e1,e2];rfl
    · rw[dF h8,cF,p5 (by simp),oJ,p5 (by simp;omega),oJ,if_neg (by omega),e1,e2];rfl
theorem DW {b:List Int} (t:Int) {body:List Int} (hb:b.length<=1000) (hn:body.length<=M):aF b t body=some (b++if oU t 0 255=true/\body.length<=250 then pZ t body else []):=by
 unfold aF;have hM:M=1048576:=rfl
 rw[FY t hn,oJ,Hq (by omega),oJ];split
 · next h =>
   have:(pZ t body).length<=300:=by unfold pZ;split<;>simp<;>omega
   rw[p5 (by show b.length+(pZ t body).length<=_;omega)];rfl
 · rw[p5 (by show b.length+0<=_;omega)];rfl
structure zQ (b:List Int) (at':Int) (t:Int) (body:List Int) (next:Int):Prop where
 ex:∃pre rest,b=pre++(pZ t body++rest)/\at'=(pre.length:Int)/\next=((pre.length+(pZ t body).length:Nat):Int)
 n:body.length<=250
 t:oU t 0 255=true
 b:Mr body
def It (x:Int):Int:=if x>127 then x-256 else x
theorem wq {n:Int} (h:-2147483648<=n/\n<=2147483647):vu n=n:=by unfold vu;split<;>(try split)<;>omega
theorem i8 {x:Int} (hx:0<=x/\x<=255):oL (IntKind.i8.wrap x)=It x:=by
 have:IntKind.i8.wrap x=It x:=by
  show (let m:=x%256;if (true&&decide (m>=128))=true then m-256 else m)=_;unfold It;simp only[Bool.true_and,decide_eq_true_eq];split<;>split<;>omega
 rw[this];unfold It;split<;>exact rb (by omega) (by omega)
theorem Iu:((2^64:Nat):Int)=18446744073709551616:=by decide
theorem yz {x:Int} (hx:0<=x/\x<9223372036854775808):tO .i64 x 127=x%128:=by
 show IntKind.i64.wrap (((BitVec.ofInt 64 x&&&BitVec.ofInt 64 127).toNat:Nat):Int)=_;rw[BitVec.toNat_and,BitVec.toNat_ofInt,BitVec.toNat_ofInt,Iu];have h2:((127:Int)%18446744073709551616).toNat=2^7-1:=by decide
 have h1:(x%18446744073709551616).toNat=x.toNat:=by omega
 rw[h1,h2,Nat.and_two_pow_sub_one_eq_mod];show (let z:=((x.toNat%2^7:Nat):Int)%18446744073709551616;if (true&&decide (z>=9223372036854775808))=true then z-18446744073709551616 else z)=_
 simp only[Bool.true_and,decide_eq_true_eq];split<;>omega
theorem K8 {x:Int} (hx:0<=x/\x<128):B8 .i64 x 128=x+128:=by
 show IntKind.i64.wrap (((BitVec.ofInt 64 x|||BitVec.ofInt 64 128).toNat:Nat):Int)=_;rw[BitVec.toNat_or,BitVec.toNat_ofInt,BitVec.toNat_ofInt,Iu];have h2:((128:Int)%18446744073709551616).toNat=2^7*1:=by decide
 have h1:(x%18446744073709551616).toNat=x.toNat:=by omega
 rw[h1,h2,Nat.or_comm,←Nat.two_pow_add_eq_or_of_lt (by show x.toNat<2^7;omega)];show (let z:=((2^7*1+x.toNat:Nat):Int)%18446744073709551616;if (true&&decide (z>=9223372036854775808))=true then z-18446744073709551616 else z)=_
 simp only[Bool.true_and,decide_eq_true_eq];split<;>omega
def grp (n:Int):List Int:=if n<=127 then [n]else if n<=16383 then [n/128+128,n%128]else if n<=2097151 then [n/16384+128,n/128%128+128,n%128]else [n/2097152+128,n/16384%128+128,n/128%128+128,n%128]
def rj (o:List Int):List Int:=o.flatMap grp
theorem LV {n:Int} (hn:0<=n/\n<268435456):dX n=some (grp n):=by
 unfold dX;have st:∀(x:Int) (out:List Int),0<=x/\x<268435456->out.length<=10->bd x out=cond (decide (x>127)) (some (.inl (x/128,(x/128%128+128)::out))) (some (.inr out)):=λx out hx ho=>by
  unfold bd;rw[fd x (by decide),show (2:Int)^7=128 from rfl,yz (by omega),K8 (by omega),w8,p5 (by simp;omega),oJ,show (x/128%128+128)%256=x/128%128+128 by omega];rfl
 have goes:∀(x:Int) (out:List Int),0<=x/\x<268435456->out.length<=9->x<=127->loop (λz:Int×List Int=>bd z.1 z.2) (x,out)=some out:=λx out hx ho h=>q5 (by show bd x out=_;rw[st x out hx (by omega),dF (by omega)];rfl);have more:∀(x:Int) (out r:List Int),0<=x/\x<268435456->out.length<=9->127<x->loop (λz:Int×List Int=>bd z.1 z.2) (x/128,(x/128%128+128)::out)=some r->loop (λz:Int×List Int=>bd z.1 z.2) (x,out)=some r:=λx out r hx ho h k=>qr (by show bd x out=_;rw[st x out hx (by omega),dT (by omega)];rfl) k
 rw[yz (by omega),w8,show n%128%256=n%128 by omega];unfold grp;by_cases h1:n<=127
 · rw[if_pos h1,goes n _ hn (by simp) h1,show n%128=n by omega];rfl
 rw[if_neg h1];by_cases h2:n<=16383
 · rw[if_pos h2,more n _ _ hn (by simp) (by omega) (goes (n/128) _ (by omega) (by simp) (by omega)),show n/128%128=n/128 by omega];rfl
 rw[if_neg h2];by_cases h3:n<=2097151
 · rw[if_pos h3,more n _ _ hn (by simp) (by omega) (more (n/128) _ _ (by omega) (by simp) (by omega) (goes (n/128/128) _ (by omega) (by simp) (by omega))),show n/128/128=n/16384 by omega,show n/16384%128=n/16384 by omega];rfl
 rw[if_neg h3,more n _ _ hn (by simp) (by omega) (more (n/128) _ _ (by omega) (by simp) (by omega) (more (n/128/128) _ _ (by omega) (by simp) (by omega) (goes (n/128/128/128) _ (by omega) (by simp) (by omega)))),show n/128/128=n/16384 by omega,show n/16384/128=n/2097152 by omega,show n/2097152%128=n/2097152 by omega];rfl
theorem J8 (n:Int):(grp n).length<=4:=by unfold grp;split<;>(try split)<;>(try split)<;>simp
theorem HY {n:Int} (h:n<=100000):(grp n).length<=3:=by unfold grp;split<;>(try split)<;>(try split)<;>simp<;>omega
theorem vv {o:List Int} (h:∀x∈o,x<=100000):(rj o).length<=3*o.length:=by
 induction o with
 | nil=>simp[rj]
 | cons x t ih =>
  have h1:=ih λy hy=>h y (mem_cons_of_mem _ hy);have h2:=HY (h x (by simp))
  unfold rj at h1 ⊢;rw[List.flatMap_cons,length_append,List.length_cons];omega
theorem LW {n:Int} (hn:0<=n/\n<=100000) {out:List Int} (ho:out.length<=100):∃d,loop (λz=>aU n z) 0=some d/\∃e,loop (λz:Int×List Int=>bh n z.1 z.2) (d,out)=some e/\e.length<=104/\e++[IntKind.u8.wrap (tO .i64 n 127)]=out++grp n:=by
 have s0:aU n 0=cond (decide (n>127)) (some (.inl 1)) (some (.inr 0)):=by
  unfold aU;rw[show shr .i64 n (oL (7*0))=some (n.fdiv (2^0))from rfl,oJ,fd n (by decide),show n/2^0=n by simp];rfl
 have s1:aU n 1=cond (decide (n/128>127)) (some (.inl 2)) (some (.inr 1)):=by
  unfold aU;rw[show shr .i64 n (oL (7*1))=some (n.fdiv (2^7))from rfl,oJ,fd n (by decide),show (2:Int)^7=128 from rfl];rfl
 have s2:aU n 2=some (.inr 2):=by
  unfold aU;rw[show shr .i64 n (oL (7*2))=some (n.fdiv (2^14))from rfl,oJ,fd n (by decide),show (2:Int)^14=16384 from rfl,dF (by omega)];rfl
 have t0:∀o:List Int,bh n 0 o=some (.inr o):=λo=>rfl;have t1:∀o:List Int,o.length<=110->bh n 1 o=some (.inl (0,o++[n/128%128+128])):=λo ho=>by
  unfold bh;rw[show shr .i64 n (oL (7*1))=some (n.fdiv (2^7))from rfl,oJ,fd n (by decide),show (2:Int)^7=128 from rfl,yz (by omega),rb (by omega) (by omega),w8,p5 (by simp;omega),oJ,show (n/128%128+128)%256=n/128%128+128 by omega];rfl
 have t2:∀o:List Int,o.length<=110->bh n 2 o=some (.inl (1,o++[n/16384%128+128])):=λo ho=>by
  unfold bh;rw[show shr .i64 n (oL (7*2))=some (n.fdiv (2^14))from rfl,oJ,fd n (by decide),show (2:Int)^14=16384 from rfl,yz (by omega),rb (by omega) (by omega),w8,p5 (by simp;omega),oJ,show (n/16384%128+128)%256=n/16384%128+128 by omega];rfl
 rw[yz (by omega),w8,show n%128%256=n%128 by omega];unfold grp;by_cases h1:n<=127
 · rw[dF (by omega)]at s0;refine⟨0,q5 s0,out,q5 (t0 out),by omega,?_⟩;rw[if_pos h1,show n%128=n by omega]
 rw[dT (by omega)]at s0;by_cases h2:n<=16383
 · rw[dF (by omega)]at s1;refine⟨1,qr s0 (q5 s1),_,qr (t1 out (by omega)) (q5 (t0 _)),by simp;omega,?_⟩;rw[if_neg h1,if_pos h2,show n/128%128=n/128 by omega];simp
 rw[dT (by omega)]at s1;refine⟨2,qr s0 (qr s1 (q5 s2)),_,qr (t2 out (by omega)) (qr (t1 _ (by simp;omega)) (q5 (t0 _))),by simp;omega,?_⟩;rw[if_neg h1,if_neg h2,if_pos (by omega),show n/16384%128=n/16384 by omega];simp
theorem K9 {o:List Int} (hn:o.length<=M):∃v,af o=some v/\(v=true->1<=o.length/\o.length<=10/\∀x∈o,0<=x/\x<=100000)/\bK o=some (cond v (rj o) []):=by
 have hn':o.length<=1048576:=hn;obtain⟨v,hv,hv2⟩:∃v,af o=some v/\(v=true->1<=o.length/\o.length<=10/\∀x∈o,0<=x/\x<=100000):=by
  unfold af;obtain⟨b,h1,h2⟩:=pr (β:=Unit⊕Bool) (step:=λz=>au o z) (λk i=>i=(k:Int)/\∀x∈o.take k,0<=x/\x<=100000) o.length (λb=>(b=.inl ()/\∀x∈o,0<=x/\x<=100000)\/b=.inr false)
   (λk i hk ⟨e,hx⟩=>by
    subst e;have hs:au o (k:Int)=cond (!(oU o[k] 0 100000)) (some (.inr (.inr false))) (some (.inl ((k+1:Nat):Int))):=by
     unfold au;rw[pK (by omega),cT,pb hk,oJ,sr,oJ,p9 (by omega)]
    cases hp:oU o[k] 0 100000 with
    | false=>exact .inr ⟨_,by rw[hs,hp];rfl,.inr rfl⟩
    | true =>
     refine .inl ⟨_,by rw[hs,hp];rfl,rfl,λx hx'=>?_⟩;rw[take_add_one,List.getElem?_eq_getElem hk,List.mem_append]at hx';rcases hx' with hx'|hx'
     · exact hx x hx'
     · simp at hx';subst hx';exact ru hp)
   (λi ⟨e,hx⟩=>by
    subst e;rw[take_length]at hx;refine⟨.inl (),?_,.inl ⟨rfl,hx⟩⟩;unfold au;rw[pk (by omega),cF]) (x:=0) ⟨rfl,by simp⟩
  rw[h1,oJ];rcases h2 with ⟨rfl,hx⟩|rfl
  · simp only[Sum.elim_inl,sr,oJ];refine⟨_,rfl,λh=>?_⟩;have:=ru h
    exact⟨by omega,by omega,hx⟩
  · exact⟨false,rfl,λh=>by cases h⟩
 refine⟨v,hv,hv2,?_⟩;unfold bK;rw[hv,oJ];cases v with
 | false=>rfl
 | true =>
  obtain⟨h1,h10,hx⟩:=hv2 rfl;obtain⟨b,e1,rfl⟩:=pr (step:=λz:Int×List Int=>bJ o z.1 z.2) (λk z=>z=((k:Int),rj (o.take k))) o.length (λb=>b=rj o)
   (λk z hk e=>by
    subst e;left;have hl:(rj (o.take k)).length<=30:=by
     have:=vv (o:=o.take k) λx hx'=>(hx x (mem_of_mem_take hx')).2;rw[length_take]at this;omega
    obtain⟨d,d1,e,e1,e2,e3⟩:=LW (hx _ (getElem_mem hk)) (out:=rj (o.take k)) (by omega);have ht:rj (o.take (k+1))=rj (o.take k)++grp o[k]:=by
     unfold rj;rw[take_add_one,List.getElem?_eq_getElem hk,flatMap_append];simp
    refine⟨_,?_,rfl⟩;show bJ o (k:Int) (rj (o.take k))=_
    unfold bJ;rw[pK (by omega),cT,pb hk,oJ,d1,oJ,e1,oJ,p5 (by simp;omega),oJ,p9 (by omega),ht,←e3])
   (λz e=>by
    subst e;refine⟨rj o,?_,rfl⟩;show bJ o (o.length:Int) (rj (o.take o.length))=_
    unfold bJ;rw[pk (by omega),cF,take_length]) (x:=(0,[])) rfl
  rw[e1];rfl

def LX (o:List Int):Prop:=1<=o.length/\o.length<=10/\∀x∈o,0<=x/\x<=100000
theorem vw {o:List Int} (h:si o=true):LX o:=by
 unfold si at h;rw[aT,Bool.not_eq_true']at h;have h1:=ru h.2
 refine⟨by omega,by omega,λx hx=>?_⟩;obtain⟨k,hk,rfl⟩:=getElem_of_mem hx;have:=any_eq_false.1 h.1 k (mem_range.2 hk)
 unfold Cl at this;simp only[List.getElem?_eq_getElem hk]at this;cases hp:oU o[k] 0 100000 with
 | true=>exact ru hp
 | false=>rw[hp]at this;exact absurd rfl this
theorem ES {o:List Int} (hn:o.length<=M):bK o=some (cond (si o) (rj o) []):=by
 obtain⟨v,h1,h2,h3⟩:=K9 hn;rw[B5 (by have:o.length<=1048576:=hn;omega)]at h1;cases h1;exact h3
def rK (v:rk):List Int:=cond (v.1==2) (qW v.2.1) (cond (v.1==4) (tv v.2.2.1) (cond (v.1==6) (rj v.2.2.2) []))
theorem ET {o:List Int} (h:si o=true):o.length<=10:=(vw h).2.1
theorem zQ.next {b:List Int} {i t:Int} {body:List Int} {next:Int} (h:zQ b i t body next):0<=next/\next<=(b.length:Int):=by
 obtain⟨pre,rest,e1,e2,e3⟩:=h.ex;have:=congrArg List.length e1
 rw[length_append,length_append]at this;omega
theorem sg (n:Int):(qW n).length<=4:=by unfold qW;split<;>(try split)<;>(try split)<;>simp
theorem qD (t:Int) {body:List Int}:(pZ t body).length<=body.length+3:=by unfold pZ;split<;>simp<;>omega
theorem yW {v:rk} (h:tu v=true):(rK v).length<=30/\oU v.1 0 255=true/\v.2.2.2.length<=10/\v.2.2.1.length<=20:=by
 obtain⟨k,n,s,o⟩:=v;have vY:∀{x:Int},0<=x->x<=255->oU x 0 255=true:=λh1 h2=>by unfold oU;rw[dT h1,dT h2];rfl
 unfold tu at h;simp only at h;unfold rK;simp only;by_cases h1:(k==5||(k==128||k==130))=true
 · rw[h1,cT]at h;simp only[aT,beq_iff_eq]at h;simp only[Bool.or_eq_true,beq_iff_eq]at h1;obtain⟨_,rfl,ho⟩:=h;rcases h1 with rfl|rfl|rfl<;>exact⟨by simp,by decide,by omega,by simp⟩
 · have h1':(k==5||(k==128||k==130))=false:=by simpa using h1
   rw[h1',cF]at h;by_cases h2:k=2
   · subst h2;simp only[show ((2:Int)==2)=true from rfl,cT,aT,beq_iff_eq]at h ⊢;obtain⟨_,rfl,ho⟩:=h;have:=sg n
     exact⟨by omega,by decide,by omega,by simp⟩
   rw[beq_eq_false_iff_ne.2 h2,cF]at h ⊢;by_cases h4:k=4
   · subst h4;simp only[show ((4:Int)==4)=true from rfl,cT,aT,beq_iff_eq,decide_eq_true_eq]at h ⊢;obtain⟨h5,_,ho⟩:=h;exact⟨by unfold tv;rw[length_map];omega,by decide,by omega,by omega⟩
   rw[beq_eq_false_iff_ne.2 h4,cF]at h ⊢;by_cases h6:k=6
   · subst h6;simp only[show ((6:Int)==6)=true from rfl,cT,aT,beq_iff_eq]at h ⊢;obtain⟨ho,_,rfl⟩:=h;obtain⟨o1,o2,o3⟩:=vw ho;have:=vv (o:=o) λx hx=>(o3 x hx).2
     exact⟨by omega,by decide,by omega,by simp⟩
   · rw[beq_eq_false_iff_ne.2 h6,cF]at h;cases h
theorem Ka {b:List Int} (hb:b.length<=1000) {v:rk} (h:tu v=true):du b v=some (b++pZ v.1 (rK v)):=by
 obtain⟨l1,l2,l3,l4⟩:=yW h;have hM:M=1048576:=rfl
 have fin:∀body:List Int,rK v=body->aF b v.1 body=some (b++pZ v.1 (rK v)):=λbody e=>by
  subst e;rw[DW _ hb (by omega),if_pos ⟨l2,by omega⟩]
 unfold du;rw[Ii (by omega),h,oJ];simp only[Bool.not_true,cF];by_cases h2:v.1=2
 · have e:rK v=qW v.2.1:=by unfold rK;rw[beq_iff_eq.2 h2];rfl
   have hr:-2147483648<=v.2.1/\v.2.1<=2147483647:=by
    unfold tu at h;rw[h2]at h;simp only[show ((2:Int)==5)=false from rfl,show ((2:Int)==128)=false from rfl,show ((2:Int)==130)=false from rfl,Bool.or_self,cF,show ((2:Int)==2)=true from rfl,cT,aT]at h;exact ru h.1
   rw[beq_iff_eq.2 h2,cT,Ha (by omega),oJ,wq hr,fin _ e];rfl
 rw[beq_eq_false_iff_ne.2 h2,cF];by_cases h4:v.1=4
 · have e:rK v=tv v.2.2.1:=by unfold rK;rw[beq_eq_false_iff_ne.2 h2,beq_iff_eq.2 h4];rfl
   rw[beq_iff_eq.2 h4,cT,fin _ e];rfl
 rw[beq_eq_false_iff_ne.2 h4,cF];by_cases h6:v.1=6
 · have e:rK v=rj v.2.2.2:=by unfold rK;rw[beq_eq_false_iff_ne.2 h2,beq_eq_false_iff_ne.2 h4,beq_iff_eq.2 h6];rfl
   have ho:si v.2.2.2=true:=by
    unfold tu at h;rw[h6]at h;simp only[show ((6:Int)==5)=false from rfl,show ((6:Int)==128)=false from rfl,show ((6:Int)==130)=false from rfl,Bool.or_self,cF,show ((6:Int)==2)=false from rfl,show ((6:Int)==4)=false from rfl,show ((6:Int)==6)=true from rfl,cT,aT]at h;exact h.1
   rw[beq_iff_eq.2 h6,cT,ES (by omega),ho,cT,oJ,fin _ e];rfl
 · have e:rK v=[]:=by unfold rK;rw[beq_eq_false_iff_ne.2 h2,beq_eq_false_iff_ne.2 h4,beq_eq_false_iff_ne.2 h6];rfl
   rw[beq_eq_false_iff_ne.2 h6,cF,fin _ e];rfl
def xU (x:oK):List Int:=pZ 6 (rj x.1)++pZ x.2.1 (rK x.2)
def vJ (x:oK):List Int:=pZ 48 (xU x)
def r7 (l:List oK):List Int:=l.flatMap vJ
def rX (p:ph):List Int:=pZ 2 (qW p.2.1)++pZ 2 (qW p.2.2.1)++pZ 2 (qW p.2.2.2.1)++pZ 48 (r7 p.2.2.2.2)
theorem rL {p:ph} (h:rA p=true):(∀x∈p.2.2.2.2,ua x=true)/\p.2.2.2.2.length<=10/\oU p.1 0 255=true/\(-2147483648<=p.2.1/\p.2.1<=2147483647)/\(0<=p.2.2.1/\p.2.2.1<=1000)/\(0<=p.2.2.2.1/\p.2.2.2.1<=1000):=by
 obtain⟨k,id,a,b,l⟩:=p;unfold rA at h;simp only[aT,Bool.not_eq_true',decide_eq_true_eq]at h;obtain⟨⟨h1,h2⟩,h3,h4⟩:=h;refine⟨λx hx=>?_,by show l.length<=10;omega,?_⟩
 · obtain⟨j,hj,rfl⟩:=getElem_of_mem hx;have hj':j<l.length:=hj
   have:=any_eq_false.1 h1 j (mem_range.2 hj');unfold bX at this;simp only[List.getElem?_eq_getElem hj']at this;simpa using this
 · have h4:=ru h4;by_cases c1:(k==162||k==165)=true
   · rw[c1,cT,aT]at h3;have q1:=ru h3.1
     have q2:=ru h3.2;simp only[Bool.or_eq_true,beq_iff_eq]at c1;refine⟨?_,h4,q1,q2⟩;rcases c1 with rfl|rfl<;>rfl
   · have c1':(k==162||k==165)=false:=by simpa using c1
     rw[c1',cF]at h3;by_cases c2:(k==160||(k==161||k==163))=true
     · rw[c2,cT,aT]at h3;simp only[beq_iff_eq]at h3;simp only[Bool.or_eq_true,beq_iff_eq]at c2;obtain⟨rfl,rfl⟩:=h3;refine⟨?_,h4,by show (0:Int)<=0/\(0:Int)<=1000;omega,by show (0:Int)<=0/\(0:Int)<=1000;omega⟩;rcases c2 with rfl|rfl|rfl<;>rfl
     · have c2':(k==160||(k==161||k==163))=false:=by simpa using c2
       rw[c2',cF]at h3;cases h3
theorem xD {x:oK} (h:ua x=true):(xU x).length<=100/\(vJ x).length<=110:=by
 unfold ua at h;rw[aT]at h;obtain⟨l1,_⟩:=yW h.2;obtain⟨o1,o2,o3⟩:=vw h.1;have h3:=vv (o:=x.1) λy hy=>(o3 y hy).2
 have h4:=qD 6 (body:=rj x.1);have h5:=qD x.2.1 (body:=rK x.2)
 have h6:(xU x).length<=100:=by unfold xU;rw[length_append];omega
 have h7:=qD 48 (body:=xU x);exact⟨h6,by unfold vJ;omega⟩
theorem DX {b:List Int} (hb:b.length<=900) {n:Int} (hn:-2147483648<=n/\n<=2147483647):bL b 2 n=some (b++pZ 2 (qW n)):=by
 unfold bL;have h4:=sg n
 rw[Ha (by omega),oJ,wq hn,DW _ (by omega) (by show _<=1048576;omega),oJ,if_pos ⟨by decide,by omega⟩]
theorem Kb {p:ph} (hp:tB M p):dv p=some (if rA p=true/\(r7 p.2.2.2.2).length<=250/\(rX p).length<=250 then pZ p.1 (rX p)else []):=by
 unfold dv;rw[KH hp,oJ];cases h:rA p with
 | false=>rw[if_neg (by simp)];rfl
 | true =>
  obtain⟨h1,h2,h3,h4,h5,h6⟩:=rL h;have hl:∀k,(r7 (p.2.2.2.2.take k)).length<=110*k:=by
   intro k
   induction k with
   | zero=>simp[r7]
   | succ k ih =>
    by_cases hk:k<p.2.2.2.2.length
    · have ht:r7 (p.2.2.2.2.take (k+1))=r7 (p.2.2.2.2.take k)++vJ p.2.2.2.2[k]:=by
       unfold r7;rw[take_add_one,List.getElem?_eq_getElem hk,flatMap_append];simp
      have:=(xD (h1 _ (getElem_mem hk))).2;rw[ht,length_append];omega
    · rw[take_of_length_le (by omega)]at ih ⊢;omega
  obtain⟨b,e1,rfl⟩:=pr (step:=λz:Int×List Int=>bM p z.1 z.2) (λk z=>z=((k:Int),r7 (p.2.2.2.2.take k))) p.2.2.2.2.length (λb=>b=.inl (r7 p.2.2.2.2))
   (λk z hk e=>by
    subst e;left;have hx:=h1 _ (getElem_mem hk)
    have hx':=hx;unfold ua at hx';rw[aT]at hx';obtain⟨o1,o2,o3⟩:=vw hx'.1;have hob:=vv (o:=p.2.2.2.2[k].1) λy hy=>(o3 y hy).2
    have hlk:=hl k;obtain⟨b1,b2⟩:=xD hx;have ht:r7 (p.2.2.2.2.take (k+1))=r7 (p.2.2.2.2.take k)++vJ p.2.2.2.2[k]:=by
     unfold r7;rw[take_add_one,List.getElem?_eq_getElem hk,flatMap_append];simp
    have ht6:=qD 6 (body:=rj p.2.2.2.2[k].1);refine⟨_,?_,rfl⟩;show bM p (k:Int) (r7 (p.2.2.2.2.take k))=_
    unfold bM;rw[pK (by omega),cT,pb hk,oJ,ES (by show _<=1048576;omega),hx'.1,cT,oJ,DW _ (by simp) (by show _<=1048576;omega),if_pos ⟨by decide,by omega⟩,oJ,nil_append,Ka (by omega) hx'.2,oJ];have hone:pZ 6 (rj p.2.2.2.2[k].1)++pZ p.2.2.2.2[k].2.1 (rK p.2.2.2.2[k].2)=xU p.2.2.2.2[k]:=rfl
    rw[hone,FY _ (by show _<=1048576;omega),if_pos ⟨by decide,by omega⟩,oJ];simp only[Bool.not_true,cF];have hbb:pZ 48 (xU p.2.2.2.2[k])=vJ p.2.2.2.2[k]:=rfl
    rw[hbb,p5 (by omega),oJ,p9 (by omega),ht])
   (λz e=>by
    subst e;refine⟨_,?_,rfl⟩;show bM p (p.2.2.2.2.length:Int) (r7 (p.2.2.2.2.take p.2.2.2.2.length))=_
    unfold bM;rw[pk (by omega),cF,take_length]) (x:=(0,[])) rfl
  have hal:(r7 p.2.2.2.2).length<=1100:=by
   have:=hl p.2.2.2.2.length;rw[take_length]at this;omega
  rw[Bool.not_true,cF,e1,oJ,Sum.elim_inl,FY _ (by show _<=1048576;omega)];by_cases ha:(r7 p.2.2.2.2).length<=250
  · rw[if_pos ⟨by decide,ha⟩,oJ];simp only[Bool.not_true,cF];have t1:=qD 2 (body:=qW p.2.1)
    have t2:=qD 2 (body:=qW p.2.2.1);have t3:=qD 2 (body:=qW p.2.2.2.1)
    have t4:=qD 48 (body:=r7 p.2.2.2.2);have i1:=sg p.2.1
    have i2:=sg p.2.2.1;have i3:=sg p.2.2.2.1
    rw[DX (by simp) h4,oJ,nil_append,DX (by omega) ⟨by omega,by omega⟩,oJ,DX (by rw[length_append];omega) ⟨by omega,by omega⟩,oJ,p5 (by simp only[length_append];omega),oJ];have hbody:pZ 2 (qW p.2.1)++pZ 2 (qW p.2.2.1)++pZ 2 (qW p.2.2.2.1)++pZ 48 (r7 p.2.2.2.2)=rX p:=rfl
    rw[hbody,FY _ (by show _<=1048576;unfold rX;simp only[length_append];omega)];by_cases hb:(rX p).length<=250
    · rw[if_pos ⟨h3,hb⟩,if_pos ⟨by first|rfl|trivial,ha,hb⟩];rfl
    · rw[if_neg (λe=>hb e.2),if_neg (λe=>hb e.2.2)];rfl
  · rw[if_neg (λe=>ha e.2),if_neg (λe=>ha e.2.1)];rfl

theorem zQ.cons {b P s:List Int} {i t:Int} {x:List Int} {next:Int} (h:zQ b i t x next) (e:b=P++s) (hi:i=(P.length:Int)):∃s',b=(P++pZ t x)++s'/\next=((P++pZ t x).length:Int):=by
 obtain⟨pre,rest,e1,e2,e3⟩:=h.ex;have hl:pre.length=P.length:=by omega
 obtain⟨q1,q2⟩:=List.append_inj (e1.symm.trans e) hl;subst q1;exact⟨rest,by rw[e1,List.append_assoc],by rw[e3,length_append]⟩
theorem HZ (t:Int) (b:List Int):1<=(pZ t b).length:=by unfold pZ;simp
theorem sL {x:oK} (h:ua x=true):wZ M x:=by
 unfold ua at h;rw[aT]at h;obtain⟨_,_,l3,l4⟩:=yW h.2;have:=ET h.1
 have hM:M=1048576:=rfl;exact⟨by omega,by omega,by omega⟩
theorem tB.of {p:ph} (h:∀x∈p.2.2.2.2,ua x=true) (h2:p.2.2.2.2.length<=11):tB M p:=⟨by show _<=1048576;omega,λx hx=>sL (h x hx)⟩
def AY (p:ph):List Int:=if rA p=true/\(r7 p.2.2.2.2).length<=250/\(rX p).length<=250 then pZ p.1 (rX p)else []
def qn (p:ph):Bool:=oU ((AY p).length:Int) 1 120
theorem BO {p:ph} (hp:tB M p):aA p=some (qn p):=by
 unfold aA;rw[Kb hp,oJ];show (aa ((AY p).length:Int) 1 120).bind _=_
 rw[sr,oJ];rfl
theorem J9 {p:ph} (h:qn p=true):rA p=true:=by
 unfold qn AY at h;split at h
 · rename_i hh;exact hh.1
 · obtain⟨h1,_⟩:=ru h;simp at h1
theorem wX {α β:Type} {l:List α} {g:α->β} {step:Int×List β->Option ((Int×List β)⊕List β)} (hn:l.length<=M)
 (h1:∀k (hk:k<l.length) (out:List β),out.length=k->step ((k:Int),out)=some (.inl (((k+1:Nat):Int),out++[g l[k]]))) (h2:∀out,step ((l.length:Int),out)=some (.inr out)):loop step (0,[])=some (l.map g):=by
 obtain⟨b,e1,rfl⟩:=pr (step:=step) (λk z=>z=((k:Int),(l.take k).map g)) l.length (λb=>b=l.map g)
  (λk z hk e=>by
   subst e;refine .inl ⟨_,h1 k hk _ (by rw[length_map,length_take];omega),?_⟩;rw[take_add_one,List.getElem?_eq_getElem hk,map_append];rfl)
  (λz e=>by
   subst e;exact⟨_,h2 _,by rw[take_length]⟩) (x:=(0,[])) rfl
 exact e1
noncomputable def qb (b:oI) (o:List Int):oK:=(aJ b o).getD ([],0,0,[],[])
noncomputable def wY (b:oI) (o:List Int):rk:=(aZ b o).getD (0,0,[],[])
theorem Ab {b:oI} (h:qy b) {o:List Int} (ho:o.length<=1000):aJ b o=some (qb b o)/\((qb b o∈rz b/\o<(qb b o).1)\/(qb b o=(o,130,0,[],[])/\∀x∈rz b,¬o<x.1)):=by
 obtain⟨j,hj⟩:=LG (Id h) o;have e:=LH h ho hj
 unfold qb;rw[e];refine⟨rfl,?_⟩;by_cases hl:j<(rz b).length
 · rw[dif_pos hl];exact .inl ⟨getElem_mem hl,hj.yes j hl (Nat.le_refl _)⟩
 · rw[dif_neg hl];refine .inr ⟨rfl,λx hx=>?_⟩;obtain⟨i,hi,rfl⟩:=getElem_of_mem hx;exact hj.no i hi (by omega)
theorem I0 {b:oI} (h:qy b) {o:List Int} (ho:o.length<9223372036854775807):aZ b o=some (wY b o)/\((∃x∈rz b,x.1=o/\wY b o=x.2)\/((∀x∈rz b,x.1≠o)/\wY b o=(128,0,[],[]))):=by
 obtain⟨v,e,hv⟩:=Mi h ho;unfold wY;rw[e];exact⟨rfl,hv⟩
theorem Ja {o:List Int} (h:Nm o):si o=true:=by
 have h1:=h.ok;rw[B5 (by have:=h.n10;omega)]at h1;exact Option.some.inj h1
theorem EU {v:rk} (h:Vl v):tu v=true:=by
 have h1:=h.ok;rw[Ii (by rw[h.o];show 0<=1048576;omega)]at h1;exact Option.some.inj h1
theorem sO {o:List Int} (h:si o=true):o.length<=10:=(vw h).2.1
theorem La {b:oI} (h:qy b) {x:oK} (hx:x∈rz b):ua x=true:=by
 obtain⟨h1,h2⟩:=x7 h x hx;unfold ua;rw[Ja h1,EU h2];rfl
theorem yA {b:oI} (h:qy b) {o:List Int} (ho:si o=true):ua (qb b o)=true:=by
 obtain⟨_,h1⟩:=Ab h (o:=o) (by have:=sO ho;omega);rcases h1 with ⟨h1,_⟩|⟨h1,_⟩
 · exact La h h1
 · rw[h1];unfold ua;rw[ho];rfl
theorem rC {x:oK} (h:ua x=true):si x.1=true:=by
 unfold ua at h;rw[aT]at h;exact h.1
theorem Iv {b:oI} (h:qy b) {o:List Int} (ho:o.length<9223372036854775807):tu (wY b o)=true:=by
 obtain⟨_,h1⟩:=I0 h ho;rcases h1 with ⟨x,hx,_,e⟩|⟨_,e⟩
 · rw[e];exact EU (x7 h x hx).2
 · rw[e];rfl
def tK (s:List oK×List (List Int)):Nat:=min s.2.length (10-s.1.length)
noncomputable def vY (b:oI) (s:List oK×List (List Int)):List oK×List (List Int):=(s.1++(s.2.take (tK s)).map (qb b),(s.2.take (tK s)).map (λo=>(qb b o).1)++s.2.drop (tK s))
noncomputable def vz (b:oI):Nat->List oK×List (List Int)->List oK×List (List Int)
 | 0,s=>s
 | k+1,s=>if 0<s.2.length/\s.1.length<10 then vz b k (vY b s)else s
structure zR (s:List oK×List (List Int)):Prop where
 o10:s.1.length<=10
 l10:s.2.length<=10
 oOk:∀x∈s.1,ua x=true
 lOk:∀o∈s.2,si o=true
theorem Hb {b:oI} (h:qy b) {s:List oK×List (List Int)} (hs:zR s):zR (vY b s):=by
 obtain⟨h1,h2,h3,h4⟩:=hs;refine⟨?_,?_,λx hx=>?_,λo ho=>?_⟩
 · show (s.1++_).length<=10;rw[length_append,length_map,length_take];unfold tK;omega
 · show (_++s.2.drop (tK s)).length<=10;rw[length_append,length_map,length_take,length_drop];unfold tK;omega
 · rcases List.mem_append.1 hx with hx|hx
   · exact h3 x hx
   · obtain⟨o,ho,rfl⟩:=mem_map.1 hx;exact yA h (h4 o (mem_of_mem_take ho))
 · rcases List.mem_append.1 ho with ho|ho
   · obtain⟨q,hq,rfl⟩:=mem_map.1 ho;exact rC (yA h (h4 q (mem_of_mem_take hq)))
   · exact h4 o (List.mem_of_mem_drop ho)
theorem LY {b:oI} (h:qy b) {s:List oK×List (List Int)} (hs:zR s):loop (λz=>bm b s.2 z.1 z.2.1 z.2.2) (0,s.1,s.2)=some (vY b s):=by
 obtain⟨out,l⟩:=s;obtain⟨h1,h2,h3,h4⟩:=hs;simp only at h1 h2 h3 h4;have hm:tK (out,l)=min l.length (10-out.length):=rfl
 obtain⟨v,e1,rfl⟩:=pr (step:=λz:Int×List oK×List (List Int)=>bm b l z.1 z.2.1 z.2.2) (λk z=>z=((k:Int),out++(l.take k).map (qb b),(l.take k).map (λo=>(qb b o).1)++l.drop k)) (tK (out,l)) (λv=>v=vY b (out,l))
  (λk z hk e=>by
   subst e;left;have hkl:k<l.length:=by omega
   have hlen:((l.take k).map (λo=>(qb b o).1)++l.drop k).length=l.length:=by rw[length_append,length_map,length_take,length_drop];omega
   have hol:(out++(l.take k).map (qb b)).length=out.length+k:=by rw[length_append,length_map,length_take];omega
   have hA:((l.take k).map (λo=>(qb b o).1)).length=k:=by rw[length_map,length_take];omega
   have hget:((l.take k).map (λo=>(qb b o).1)++l.drop k)[k]?=some l[k]:=by
    rw[List.getElem?_append_right (by omega),hA,Nat.sub_self,List.getElem?_drop,Nat.add_zero,List.getElem?_eq_getElem hkl]
   have hn:=(Ab h (o:=l[k]) (by have:=sO (h4 _ (getElem_mem hkl));omega)).1;refine⟨_,?_,rfl⟩;show bm b l (k:Int) _ _=_
   unfold bm;rw[pK (by omega),cT,hol,dF (by omega),cF,hlen,tY hkl];simp only[oJ,hget,hn];rw[p5 (by rw[hol];show out.length+k+1<=_;omega),oJ,p9 (by omega)];have t1:(l.take (k+1))=l.take k++[l[k]]:=by rw[take_add_one,List.getElem?_eq_getElem hkl];rfl
   have t2:((l.take k).map (λo=>(qb b o).1)++l.drop k).set k (qb b l[k]).1=(l.take (k+1)).map (λo=>(qb b o).1)++l.drop (k+1):=by
    rw[List.set_append_right _ _ (by omega),hA,Nat.sub_self,List.drop_eq_getElem_cons hkl,List.set_cons_zero,t1,map_append,List.append_assoc];rfl
   rw[t2,t1];simp only[map_append,List.map_cons,List.map_nil,List.append_assoc])
  (λz e=>by
   subst e;refine⟨_,?_,rfl⟩;show bm b l ((tK (out,l):Nat):Int) _ _=_
   have hol:(out++(l.take (tK (out,l))).map (qb b)).length=out.length+tK (out,l):=by rw[length_append,length_map,length_take];omega
   unfold bm;rw[hol];by_cases hlt:((tK (out,l):Nat):Int)<(l.length:Int)
   · rw[pK hlt,cT,dT (by omega),cT];rfl
   · rw[pk hlt,cF];rfl) (x:=(0,out,l)) (by simp)
 exact e1
theorem EV {b:oI} (h:qy b):∀(n:Nat) {s:List oK×List (List Int)},zR s->zR (vz b n s)
 | 0,s,hs=>hs
 | n+1,s,hs=>by
  unfold vz;split
  · exact EV h n (Hb h hs)
  · exact hs
theorem Iw {b:oI} (h:qy b) {p:ph} (hB:p.2.2.2.1<=1000):∀(n i:Nat) {s:List oK×List (List Int)},zR s->((i+n:Nat):Int)=p.2.2.2.1->loop (λz=>aQ b p z.1 z.2.1 z.2.2) ((i:Int),s.1,s.2)=some (vz b n s)
 | 0,i,s,hs,e=>by
  refine q5 ?_;show aQ b p (i:Int) s.1 s.2=_
  unfold aQ;rw[pk (by omega),cF,oJ,cF,oJ,cF];rfl
 | n+1,i,s,hs,e=>by
  by_cases hc:0<s.2.length/\s.1.length<10
  · refine qr (y:=(((i+1:Nat):Int),(vY b s).1,(vY b s).2)) ?_ ?_
    · show aQ b p (i:Int) s.1 s.2=_;unfold aQ;rw[pK (by omega),cT,dT (by omega),oJ,cT,pK (by omega),oJ,cT,LY h hs,oJ,p9 (by omega)]
    · have:=Iw h hB n (i+1) (Hb h hs) (by omega);rw[this,show vz b (n+1) s=vz b n (vY b s)from if_pos hc]
  · refine q5 ?_;show aQ b p (i:Int) s.1 s.2=_
    have e2:vz b (n+1) s=s:=if_neg hc;rw[e2];unfold aQ;rw[pK (by omega),cT];by_cases h1:0<s.2.length
    · rw[dT (by omega),oJ,cT,pk (by omega),oJ,cF]
    · rw[dF (by omega),oJ,cF,oJ,cF]
def q6 (p:ph):Nat:=min p.2.2.1.toNat p.2.2.2.2.length
noncomputable def FZ (b:oI) (p:ph):List oK×List (List Int):=vz b p.2.2.2.1.toNat ((p.2.2.2.2.take (q6 p)).map (λx=>qb b x.1),(p.2.2.2.2.drop (q6 p)).map (λx=>x.1))
noncomputable def rY (b:oI) (p:ph):List oK:=(FZ b p).1
theorem Ix {b:oI} (h:qy b) {p:ph} (hp:rA p=true):zR ((p.2.2.2.2.take (q6 p)).map (λx=>qb b x.1),(p.2.2.2.2.drop (q6 p)).map (λx=>x.1)):=by
 obtain⟨h1,h2,_⟩:=rL hp;refine⟨?_,?_,λx hx=>?_,λo ho=>?_⟩
 · rw[length_map,length_take];omega
 · rw[length_map,length_drop];omega
 · obtain⟨y,hy,rfl⟩:=mem_map.1 hx;exact yA h (rC (h1 y (mem_of_mem_take hy)))
 · obtain⟨y,hy,rfl⟩:=mem_map.1 ho;exact rC (h1 y (List.mem_of_mem_drop hy))
theorem EW {b:oI} (h:qy b) {p:ph} (hp:rA p=true):zR (FZ b p):=EV h _ (Ix h hp)
theorem Lb {b:oI} (h:qy b) {p:ph} (hp:rA p=true):dz b p=some (rY b p):=by
 obtain⟨h1,h2,_,_,h5,h6⟩:=rL hp;have hmin:min2 p.2.2.1 (p.2.2.2.2.length:Int)=((q6 p:Nat):Int):=by
  unfold min2 q6;split<;>omega
 have hon:q6 p<=p.2.2.2.2.length:=Nat.min_le_right _ _;unfold dz;show ((cut p.2.2.2.2 0 (min2 p.2.2.1 (p.2.2.2.2.length:Int))).bind _)=_
 rw[hmin];have c1:cut p.2.2.2.2 0 ((q6 p:Nat):Int)=some (p.2.2.2.2.take (q6 p)):=by
  have:=tC (l:=p.2.2.2.2) (a:=0) (b:=q6 p) (by omega) hon;simpa using this
 have c2:cut p.2.2.2.2 ((q6 p:Nat):Int) (p.2.2.2.2.length:Int)=some (p.2.2.2.2.drop (q6 p)):=by
  have:=tC (l:=p.2.2.2.2) (a:=q6 p) (b:=p.2.2.2.2.length) hon (Nat.le_refl _);rw[take_length]at this;exact this
 have l1:loop (λz:Int×List oK=>bU b (p.2.2.2.2.take (q6 p)) z.1 z.2) (0,[])=some ((p.2.2.2.2.take (q6 p)).map (λx=>qb b x.1)):=by
  refine wX (by show _<=1048576;rw[length_take];omega) (λk hk out ho=>?_) (λout=>?_)
  · have hx:=h1 _ (mem_of_mem_take (getElem_mem hk));have hk':=hk
    rw[length_take]at hk';show bU b _ (k:Int) out=_
    unfold bU;rw[pK (by omega),cT,pb hk,oJ,(Ab h (by have:=sO (rC hx);omega)).1,oJ,p5 (by rw[ho];show k+1<=_;omega),oJ,p9 (by omega)]
  · show bU b _ ((p.2.2.2.2.take (q6 p)).length:Int) out=_;unfold bU;rw[pk (by omega),cF]
 have l2:loop (λz:Int×List (List Int)=>bV (p.2.2.2.2.drop (q6 p)) z.1 z.2) (0,[])=some ((p.2.2.2.2.drop (q6 p)).map (λx=>x.1)):=by
  refine wX (by show _<=1048576;rw[length_drop];omega) (λk hk out ho=>?_) (λout=>?_)
  · have hk':=hk;rw[length_drop]at hk';show bV _ (k:Int) out=_
    unfold bV;rw[pK (by omega),cT,pb hk,oJ,p5 (by rw[ho];show k+1<=_;omega),oJ,p9 (by omega)]
  · show bV _ ((p.2.2.2.2.drop (q6 p)).length:Int) out=_;unfold bV;rw[pk (by omega),cF]
 rw[c1,oJ,l1,oJ,c2,oJ,l2,oJ];have:=Iw h (p:=p) (by omega) p.2.2.2.1.toNat 0 (Ix h hp) (by omega)
 have this:loop (λz=>aQ b p z.1 z.2.1 z.2.2) (0,(p.2.2.2.2.take (q6 p)).map (λx=>qb b x.1),(p.2.2.2.2.drop (q6 p)).map (λx=>x.1))=_:=this;rw[this,oJ];rfl
def shr (f:List oK->Bool):Nat->List oK->Option (List oK)
 | 0,_=>none
 | n+1,l=>if f (l.take n)=true then some (l.take n)else shr f n (l.take n)
theorem DY {f:List oK->Bool}:∀{n:Nat} {l t:List oK},shr f n l=some t->f t=true/\∃m,m<n/\t=l.take m
 | 0,l,t,h=>by cases h
 | n+1,l,t,h=>by
  unfold shr at h;split at h
  · rename_i hf;cases h;exact⟨hf,n,by omega,rfl⟩
  · obtain⟨h1,m,h2,h3⟩:=DY h;refine⟨h1,m,by omega,?_⟩;rw[h3,List.take_take,Nat.min_eq_left (by omega)]
theorem AZ {α β γ δ:Type} {step:α->Option (α⊕(β⊕δ))} {x:α} {F:β->Option γ} {G:δ->Option γ} {R:Option γ} (h:∃d,step x=some (.inr (.inl d))) (k:∀d,F d=R):(loop step x).bind (Sum.elim F G)=R:=by
 obtain⟨d,h⟩:=h;rw[q5 h,oJ,Sum.elim_inl,k]
abbrev Ms:=Int×List UInt8×Int×Int×Int×Int×Int×Int×Int×Int×Int×Int×List UInt8×Int×Int×Int×Int×Int×Int×Int×Int×Int×List Pt×List oT×List oZ×List Int×List oK×List Pt×List oT×List oZ×List Int×List oK
theorem Kc {p:ph} (h165:(p.1==165)=true) (b:oI) (j0:Int) (j1:List UInt8) (j2 j3 j4 j5 j6 j7 j8 j9 j10:Int) (k i a c:Int) (j11:List Pt) (j12:List oT) (j13:List oZ) (j14:List Int) (j15:List oK):∀(n:Nat) (l:List oK),l.length=n->n<=10->(∀x∈l,wZ M x) ->
 ∃w,loop (λz:Ms=>cJ p z.1 z.2.1 z.2.2.1 z.2.2.2.1 z.2.2.2.2.1 z.2.2.2.2.2.1 z.2.2.2.2.2.2.1 z.2.2.2.2.2.2.2.1 z.2.2.2.2.2.2.2.2.1 z.2.2.2.2.2.2.2.2.2.1 z.2.2.2.2.2.2.2.2.2.2.1 z.2.2.2.2.2.2.2.2.2.2.2.1 z.2.2.2.2.2.2.2.2.2.2.2.2.1 z.2.2.2.2.2.2.2.2.2.2.2.2.2.1 z.2.2.2.2.2.2.2.2.2.2.2.2.2.2.1 z.2.2.2.2.2.2.2.2.2.2.2.2.2.2.2.1 z.2.2.2.2.2.2.2.2.2.2.2.2.2.2.2.2.1 z.2.2.2.2.2.2.2.2.2.2.2.2.2.2.2.2.2.1 z.2.2.2.2.2.2.2.2.2.2.2.2.2.2.2.2.2.2.1 z.2.2.2.2.2.2.2.2.2.2.2.2.2.2.2.2.2.2.2.1 z.2.2.2.2.2.2.2.2.2.2.2.2.2.2.2.2.2.2.2.2.1 z.2.2.2.2.2.2.2.2.2.2.2.2.2.2.2.2.2.2.2.2.2.1 z.2.2.2.2.2.2.2.2.2.2.2.2.2.2.2.2.2.2.2.2.2.2.1 z.2.2.2.2.2.2.2.2.2.2.2.2.2.2.2.2.2.2.2.2.2.2.2.1 z.2.2.2.2.2.2.2.2.2.2.2.2.2.2.2.2.2.2.2.2.2.2.2.2.1 z.2.2.2.2.2.2.2.2.2.2.2.2.2.2.2.2.2.2.2.2.2.2.2.2.2.1 z.2.2.2.2.2.2.2.2.2.2.2.2.2.2.2.2.2.2.2.2.2.2.2.2.2.2.1 z.2.2.2.2.2.2.2.2.2.2.2.2.2.2.2.2.2.2.2.2.2.2.2.2.2.2.2.1 z.2.2.2.2.2.2.2.2.2.2.2.2.2.2.2.2.2.2.2.2.2.2.2.2.2.2.2.2.1 z.2.2.2.2.2.2.2.2.2.2.2.2.2.2.2.2.2.2.2.2.2.2.2.2.2.2.2.2.2.1 z.2.2.2.2.2.2.2.2.2.2.2.2.2.2.2.2.2.2.2.2.2.2.2.2.2.2.2.2.2.2.1 z.2.2.2.2.2.2.2.2.2.2.2.2.2.2.2.2.2.2.2.2.2.2.2.2.2.2.2.2.2.2.2) (j0,j1,j2,j3,j4,j5,j6,j7,j8,j9,j10,b.1,b.2.1,b.2.2.2.2.2.2.1,b.2.2.2.2.2.2.2.1,b.2.2.2.2.2.2.2.2.1,b.2.2.2.2.2.2.2.2.2.1,b.2.2.2.2.2.2.2.2.2.2,k,i,a,c,j11,j12,j13,j14,j15,b.2.2.1,b.2.2.2.1,b.2.2.2.2.1,b.2.2.2.2.2.1,l)=some w/\(match shr (λt=>qn (k,i,a,c,t)) n l with|some t=>w=.inr (true,b.1,b.2.1,b.2.2.2.2.2.2.1,b.2.2.2.2.2.2.2.1,b.2.2.2.2.2.2.2.2.1,b.2.2.2.2.2.2.2.2.2.1,b.2.2.2.2.2.2.2.2.2.2,k,i,a,c,b.2.2.1,b.2.2.2.1,b.2.2.2.2.1,b.2.2.2.2.2.1,t)|none=>∃d,w=.inl d)
 | 0,l,hl,hn,hx=>by
  refine⟨_,q5 (b:=Sum.inl (j0,j1,j2,j3,j4,j5,j6,j7,j8,j9,j10,b.1,b.2.1,b.2.2.2.2.2.2.1,b.2.2.2.2.2.2.2.1,b.2.2.2.2.2.2.2.2.1,b.2.2.2.2.2.2.2.2.2.1,b.2.2.2.2.2.2.2.2.2.2,k,i,a,c,j11,j12,j13,j14,j15,b.2.2.1,b.2.2.2.1,b.2.2.2.2.1,b.2.2.2.2.2.1,l)) ?_,⟨_,rfl⟩⟩;dsimp only;unfold cJ;rw[h165,cT,dF (by omega),oJ,cF]
 | n+1,l,hl,hn,hx=>by
  have hlt:(l.take n).length=n:=by rw[length_take];omega
  have hcut:rf l.length 0 (oL ((l.length:Int)-1))=some (0,n):=by
   rw[rb (by omega) (by omega),show (l.length:Int)-1=(n:Int) by omega];unfold rf;rw[if_pos (by omega),if_pos (by omega),if_pos (by omega)];simp
  have hp:tB M (k,i,a,c,l.take n):=⟨by show (l.take n).length<=1048576;omega,λx h=>hx x (mem_of_mem_take h)⟩;have hstep:∀q:Bool,qn (k,i,a,c,l.take n)=q->cJ p j0 j1 j2 j3 j4 j5 j6 j7 j8 j9 j10 b.1 b.2.1 b.2.2.2.2.2.2.1 b.2.2.2.2.2.2.2.1 b.2.2.2.2.2.2.2.2.1 b.2.2.2.2.2.2.2.2.2.1 b.2.2.2.2.2.2.2.2.2.2 k i a c j11 j12 j13 j14 j15 b.2.2.1 b.2.2.2.1 b.2.2.2.2.1 b.2.2.2.2.2.1 l=cond q (some (.inr (.inr (true,b.1,b.2.1,b.2.2.2.2.2.2.1,b.2.2.2.2.2.2.2.1,b.2.2.2.2.2.2.2.2.1,b.2.2.2.2.2.2.2.2.2.1,b.2.2.2.2.2.2.2.2.2.2,k,i,a,c,b.2.2.1,b.2.2.2.1,b.2.2.2.2.1,b.2.2.2.2.2.1,l.take n)))) (some (.inl (j0,j1,j2,j3,j4,j5,j6,j7,j8,j9,j10,b.1,b.2.1,b.2.2.2.2.2.2.1,b.2.2.2.2.2.2.2.1,b.2.2.2.2.2.2.2.2.1,b.2.2.2.2.2.2.2.2.2.1,b.2.2.2.2.2.2.2.2.2.2,k,i,a,c,j11,j12,j13,j14,j15,b.2.2.1,b.2.2.2.1,b.2.2.2.2.1,b.2.2.2.2.2.1,l.take n))):=by
   intro q hq;unfold cJ;rw[h165,cT,dT (by omega),oJ,cT,hcut,oJ];simp only[List.drop_zero];rw[BO hp,oJ,hq]
  by_cases hf:qn (k,i,a,c,l.take n)=true
  · have e:shr (λt=>qn (k,i,a,c,t)) (n+1) l=some (l.take n):=if_pos hf;rw[e];exact⟨_,q5 (hstep true hf),rfl⟩
  · have e:shr (λt=>qn (k,i,a,c,t)) (n+1) l=shr (λt=>qn (k,i,a,c,t)) n (l.take n):=if_neg hf;rw[e];obtain⟨w,h1,h2⟩:=Kc h165 b j0 j1 j2 j3 j4 j5 j6 j7 j8 j9 j10 k i a c j11 j12 j13 j14 j15 n (l.take n) hlt (by omega) (λx h=>hx x (mem_of_mem_take h));exact⟨w,qr (hstep false (by simpa using hf)) h1,h2⟩
noncomputable def xV (b:oI) (l:List oK):oI×Int×Int:=(bY b l).getD (b,0,0)
noncomputable def vh (b:oI) (p:ph):oI×ph :=
 cond (p.1==160) (b,162,p.2.1,0,0,p.2.2.2.2.map λx=>(x.1,wY b x.1))
  (cond (p.1==161) (b,162,p.2.1,0,0,p.2.2.2.2.map λx=>qb b x.1)
   (cond (p.1==165) (b,162,p.2.1,0,0,rY b p) ((xV b p.2.2.2.2).1,162,p.2.1,(xV b p.2.2.2.2).2.1,(xV b p.2.2.2.2).2.2,p.2.2.2.2)))
noncomputable def xE (b:oI) (p:ph):oI×ph :=
 match cond (p.1==165) (shr (λt=>qn (162,p.2.1,0,0,t)) (rY b p).length (rY b p)) none with
 | some t=>(b,162,p.2.1,0,0,t)
 | none=>(b,162,p.2.1,7,0,[])
noncomputable def vi (b:oI) (p:ph):oI×ph:=cond (qn (vh b p).2) (vh b p) (xE b p)
noncomputable def zS (b:oI) (p:ph):Bool:=qI b&&(rA p&&(p.1 != 162))
noncomputable def u5 (b:oI) (p:ph):oI×ph×Bool:=cond (zS b p) ((vi b p).1,(vi b p).2,true) (b,(0,0,0,0,[]),false)
theorem BP {p:ph} (hp:rA p=true):vA M p.2.2.2.2:=by
 obtain⟨h1,h2,_⟩:=rL hp;exact⟨by show _<=1048576;omega,λx hx=>sL (h1 x hx)⟩
theorem Kd {b:oI} (h:uQ b) (hb:u7 M b) {p:ph} (hp:tB M p):cK b p=some (u5 b p):=by
 unfold cK u5 zS;rw[wl hb,oJ,Cj h,oJ];cases hbr:qI b with
 | false=>rw[Bool.not_false,cT,oJ,cT,oJ,cT];rfl
 | true =>
 rw[Bool.not_true,cF,KH hp,oJ,oJ];cases hpp:rA p with
 | false=>rw[Bool.not_false,cT,oJ,cT];rfl
 | true =>
 rw[Bool.not_true,cF,oJ];cases h162:(p.1==162)with
 | true =>
  have:(p.1 != 162)=false:=by rw[bne,h162];rfl
  rw[cT,this];rfl
 | false =>
 have hne:(p.1 != 162)=true:=by rw[bne,h162];rfl
 have hBO:=Fc h hbr;obtain⟨x1,x2,x3,x4,x5,x6⟩:=rL hpp;have hxs:=BP hpp
 rw[cF,hne,Bool.true_and,Bool.true_and,cT];unfold vi vh xE;cases h160:(p.1==160)with
 | true =>
  have h165:(p.1==165)=false:=by simp only[beq_iff_eq]at h160;rw[h160];rfl
  have e:loop (λz:Int×Int×Int×Int×Int×List oK=>cH b p z.1 z.2.1 z.2.2.1 z.2.2.2.1 z.2.2.2.2.1 z.2.2.2.2.2) (0,162,p.2.1,0,0,[])=some (162,p.2.1,0,0,p.2.2.2.2.map λx=>(x.1,wY b x.1)):=by
   obtain⟨v,e1,rfl⟩:=pr (step:=λz:Int×Int×Int×Int×Int×List oK=>cH b p z.1 z.2.1 z.2.2.1 z.2.2.2.1 z.2.2.2.2.1 z.2.2.2.2.2) (λk z=>z=((k:Int),162,p.2.1,0,0,(p.2.2.2.2.take k).map λx=>(x.1,wY b x.1))) p.2.2.2.2.length (λv=>v=(162,p.2.1,0,0,p.2.2.2.2.map λx=>(x.1,wY b x.1)))
    (λk z hk e=>by
     subst e;refine .inl ⟨_,?_,rfl⟩;have hx:=sO (rC (x1 _ (getElem_mem hk)))
     dsimp only;unfold cH;rw[pK (by omega),cT,pb hk,oJ,z5 (by show _<=1048576;omega),oJ,(I0 hBO (by omega)).1,oJ,p5 (by rw[length_map,length_take];show min k _+1<=_;omega),oJ,p9 (by omega),
      take_add_one,List.getElem?_eq_getElem hk,map_append];rfl)
    (λz e=>by
     subst e;refine⟨_,?_,rfl⟩;dsimp only;unfold cH;rw[pk (by omega),cF,take_length]) (x:=(0,162,p.2.1,0,0,[])) rfl
   exact e1
  simp only[cT,cF];rw[e,oJ,BO ⟨by show (p.2.2.2.2.map _).length<=1048576;rw[length_map];omega,λx hx=>by
   obtain⟨y,hy,rfl⟩:=mem_map.1 hx;exact sL (by unfold ua;rw[rC (x1 y hy),Iv hBO (by have:=sO (rC (x1 y hy));omega)];rfl)⟩,oJ]
  cases qn (162,p.2.1,0,0,p.2.2.2.2.map λx=>(x.1,wY b x.1))with
  | true=>rfl
  | false =>
   simp only[cF];refine AZ ?_ λd=>?_
   · dsimp only;unfold iq;rw[h165,cF,oJ,cF];exact⟨_,rfl⟩
   · rw[oJ];simp only[h165,cF]
 | false =>
 cases h161:(p.1==161)with
 | true =>
  have h165:(p.1==165)=false:=by simp only[beq_iff_eq]at h161;rw[h161];rfl
  have e:loop (λz:Int×Int×Int×Int×Int×List oK=>cI b p z.1 z.2.1 z.2.2.1 z.2.2.2.1 z.2.2.2.2.1 z.2.2.2.2.2) (0,162,p.2.1,0,0,[])=some (162,p.2.1,0,0,p.2.2.2.2.map λx=>qb b x.1):=by
   obtain⟨v,e1,rfl⟩:=pr (step:=λz:Int×Int×Int×Int×Int×List oK=>cI b p z.1 z.2.1 z.2.2.1 z.2.2.2.1 z.2.2.2.2.1 z.2.2.2.2.2) (λk z=>z=((k:Int),162,p.2.1,0,0,(p.2.2.2.2.take k).map λx=>qb b x.1)) p.2.2.2.2.length (λv=>v=(162,p.2.1,0,0,p.2.2.2.2.map λx=>qb b x.1))
    (λk z hk e=>by
     subst e;refine .inl ⟨_,?_,rfl⟩;have hx:=sO (rC (x1 _ (getElem_mem hk)))
     dsimp only;unfold cI;rw[pK (by omega),cT,pb hk,oJ,(Ab hBO (by omega)).1,oJ,p5 (by rw[length_map,length_take];show min k _+1<=_;omega),oJ,p9 (by omega),
      take_add_one,List.getElem?_eq_getElem hk,map_append];rfl)
    (λz e=>by
     subst e;refine⟨_,?_,rfl⟩;dsimp only;unfold cI;rw[pk (by omega),cF,take_length]) (x:=(0,162,p.2.1,0,0,[])) rfl
   exact e1
  simp only[cT,cF];rw[e,oJ,BO ⟨by show (p.2.2.2.2.map _).length<=1048576;rw[length_map];omega,λx hx=>by
   obtain⟨y,hy,rfl⟩:=mem_map.1 hx;exact sL (yA hBO (rC (x1 y hy)))⟩,oJ]
  cases qn (162,p.2.1,0,0,p.2.2.2.2.map λx=>qb b x.1)with
  | true=>rfl
  | false =>
   simp only[cF];refine AZ ?_ λd=>?_
   · dsimp only;unfold ir;rw[h165,cF,oJ,cF];exact⟨_,rfl⟩
   · rw[oJ];simp only[h165,cF]
 | false =>
 cases h165:(p.1==165)with
 | true =>
  have hbk:=EW hBO hpp;have hbx:∀x∈rY b p,wZ M x:=λx hx=>sL (hbk.oOk x hx)
  have hbn:(rY b p).length<=10:=hbk.o10;simp only[cT,cF];rw[Lb hBO hpp,oJ,BO ⟨by show (rY b p).length<=1048576;omega,hbx⟩,oJ];cases qn (162,p.2.1,0,0,rY b p)with
  | true=>rfl
  | false =>
   simp only[cF];obtain⟨w,e1,e2⟩:=Kc h165 b 0 [] 0 0 0 0 0 0 0 0 0 162 p.2.1 0 0 [] [] [] [] [] _ (rY b p) rfl hbn hbx;rw[e1,oJ];cases hs:shr (λt=>qn (162,p.2.1,0,0,t)) (rY b p).length (rY b p)with
   | some t=>rw[hs]at e2;rw[e2];rfl
   | none =>
    rw[hs]at e2;obtain⟨d,rfl⟩:=e2;rw[Sum.elim_inl,oJ];try rfl
 | false =>
  obtain⟨r,r1,_,_,_⟩:=Ci h hb hxs;have hr:xV b p.2.2.2.2=r:=by unfold xV;rw[r1];rfl
  simp only[cF];rw[r1,oJ,Hu hxs,oJ,hr,BO (p:=(162,p.2.1,r.2.1,r.2.2,p.2.2.2.2)) ⟨hxs.1,hxs.2⟩,oJ];cases qn (162,p.2.1,r.2.1,r.2.2,p.2.2.2.2)with
  | true=>rfl
  | false =>
   simp only[cF];refine AZ ?_ λd=>?_
   · dsimp only;unfold iu;rw[h165,cF,oJ,cF];exact⟨_,rfl⟩
   · rw[oJ]

theorem Ke {b:oI} (h:tb b) (hl:u7 M b):uQ b:=by
 obtain⟨_,l2,l3,l4,l5⟩:=hl;have hM:M<9223372036854775807:=by decide
 exact⟨by omega,by omega,by omega,by omega,h.h⟩
theorem LZ {b:oI} (h:qy b) {l:List oK} (hl:vA M l):bY b l=some (xV b l)/\qy (xV b l).1:=by
 obtain⟨r,r1,_,r3,r4,_⟩:=Ci h.w h.le hl;unfold xV;rw[r1];obtain⟨k1,k2⟩:=r4 h.ok;exact⟨rfl,Fc (Ke k1 r3) k2⟩
theorem I1 {b:oI} (h:qy b) {p:ph} (hp:rA p=true):qy (vh b p).1:=by
 unfold vh;cases (p.1==160)<;>cases (p.1==161)<;>cases (p.1==165)<;>first|exact h|exact (LZ h (BP hp)).2
theorem Jb (b:oI) (p:ph):(xE b p).1=b:=by
 unfold xE;split<;>rfl
theorem G0 {b:oI} (h:qy b) (p:ph):qy (u5 b p).1:=by
 unfold u5;cases hq:zS b p with
 | false=>exact h
 | true =>
  unfold zS at hq;simp only[aT]at hq;rw[cT];unfold vi;cases qn (vh b p).2 with
  | true=>exact I1 h hq.2.1
  | false=>rw[cF,Jb];exact h
theorem I2 {p:ph} (hp:rA p=true):p.1=160\/p.1=161\/p.1=162\/p.1=163\/p.1=165:=by
 unfold rA at hp;by_cases h0:p.1=160;· exact .inl h0
 by_cases h1:p.1=161;· exact .inr (.inl h1)
 by_cases h2:p.1=162;· exact .inr (.inr (.inl h2))
 by_cases h3:p.1=163;· exact .inr (.inr (.inr (.inl h3)))
 by_cases h5:p.1=165;· exact .inr (.inr (.inr (.inr h5)))
 simp[h0,h1,h2,h3,h5]at hp
def DZ (w:List UInt8):List Int:=pZ 2 (qW 1)++pZ 4 (tv w)
theorem EX {p:ph} (hx:∀x∈p.2.2.2.2,ua x=true) (hn:p.2.2.2.2.length<=10) (hi:oU p.2.1 (-2147483648) 2147483647=true)
 (hk:(cond (p.1==162||p.1==165) (oU p.2.2.1 0 1000&&oU p.2.2.2.1 0 1000) (cond (p.1==160||(p.1==161||p.1==163)) (p.2.2.1==0&&p.2.2.2.1==0) false))=true):rA p=true:=by
 unfold rA;have h1:(List.range p.2.2.2.2.length).any (bX p.2.2.2.2)=false:=by
  rw[any_eq_false];intro k hk';have hk':=mem_range.1 hk'
  unfold bX;simp only[List.getElem?_eq_getElem hk',hx _ (getElem_mem hk')];simp
 rw[h1,dT (by omega),hk,hi];rfl

theorem Jc {i:Int} (hi:-2147483648<=i/\i<=2147483647):qn (162,i,7,0,[])=true:=by
 have hp:rA (162,i,7,0,[])=true:=EX (by intro x hx;cases hx) (Nat.zero_le _) (xI hi.1 hi.2) rfl;have t1:=qD 2 (body:=qW i)
 have t2:=qD 2 (body:=qW 7);have t3:=qD 2 (body:=qW 0)
 have t4:=qD 48 (body:=[]);have i1:=sg i
 have i2:=sg 7;have i3:=sg 0
 have hb:(rX (162,i,7,0,[])).length<=30:=by
  unfold rX;show (pZ 2 (qW i)++pZ 2 (qW 7)++pZ 2 (qW 0)++pZ 48 []).length<=30
  simp only[length_append];simp only[List.length_nil]at t4;omega
 have ht:=qD 162 (body:=rX (162,i,7,0,[]));have hpos:=HZ 162 (rX (162,i,7,0,[]))
 unfold qn AY;rw[if_pos ⟨hp,by show (0:Nat)<=250;omega,by omega⟩];exact xI (by show (1:Int)<=((pZ 162 (rX (162,i,7,0,[]))).length:Int);omega) (by show ((pZ 162 (rX (162,i,7,0,[]))).length:Int)<=120;omega)
theorem Hc {b:oI} {p:ph} (hp:rA p=true):qn (vi b p).2=true:=by
 have hi:=(rL hp).2.2.2.1;unfold vi;cases hf:qn (vh b p).2 with
 | true=>exact hf
 | false =>
  rw[cF];unfold xE;split
  · rename_i t ht;cases h5:(p.1==165)with
    | false=>rw[h5]at ht;cases ht
    | true =>
     rw[h5]at ht;exact (DY ht).1
  · exact Jc hi
structure G3 (p:ph):Prop where
 k:p.1=160\/p.1=161\/p.1=163\/p.1=165
 i:0<=p.2.1/\p.2.1<100
 ab:(p.1=165/\(0<=p.2.2.1/\p.2.2.1<=1000)/\(0<=p.2.2.2.1/\p.2.2.2.1<=1000))\/(p.1≠165/\p.2.2.1=0/\p.2.2.2.1=0)
 n:p.2.2.2.2.length<=3
 s:∀x∈p.2.2.2.2,K7 x
 o:p.1≠163->∀x∈p.2.2.2.2,ua x=true
theorem G3.le {p:ph} (h:G3 p):tB M p:=⟨by have:=h.n;show _<=1048576;omega,λx hx=>(h.s x hx).le⟩
theorem G3.ok {p:ph} (h:G3 p) (hk:p.1≠163):rA p=true:=by
 have hi:=h.i;refine EX (h.o hk) (by have:=h.n;omega) (xI (by omega) (by omega)) ?_;rcases h.ab with ⟨e,⟨a1,a2⟩,b1,b2⟩|⟨e,a1,b1⟩
 · rw[e,xI a1 a2,xI b1 b2];rfl
 · rw[a1,b1];rcases h.k with k|k|k|k
   · rw[k];rfl
   · rw[k];rfl
   · exact absurd k hk
   · exact absurd k e
theorem BQ {α β:Type} {o:Option α} {a:α} {k:α->Option β} {r:Option β} (h:o=some a) (hk:k a=r):o.bind k=r:=by rw[h];exact hk
theorem uO {b:List Int} (t:Int) {body:List Int} (hb:b.length<=1200) (hn:body.length<=M):ak b t body=some (b++if oU t 0 255=true/\body.length<=250 then pZ t body else []):=by
 have hM:M=1048576:=rfl;unfold ak;rw[sy (by omega),oJ,xF,oJ];cases hp:oU t 0 255 with
 | false=>rw[Bool.not_false,cT,oJ,cT,if_neg (λh=>by cases h.1),append_nil]
 | true =>
  rw[Bool.not_true,cF,oJ];by_cases h250:body.length<=250
  · have hw:IntKind.u8.wrap t=t:=by obtain⟨a,c⟩:=ru hp;rw[w8];omega
    have hl:IntKind.u8.wrap ((body.length:Int))=(body.length:Int):=by rw[w8];omega
    rw[dF (by omega),cF,hw,hl,if_pos ⟨rfl,h250⟩,p5 (by show b.length+1<=_;omega),oJ];by_cases h127:(body.length:Int)>127
    · rw[dT h127,cT,p5 (by rw[length_append];show b.length+1+1<=_;omega),oJ,p5 (by simp only[length_append,length_singleton];omega),oJ,p5 (by simp only[length_append,length_singleton];omega),oJ];unfold pZ;rw[if_pos (by omega)];simp
    · rw[dF h127,cF,p5 (by simp only[length_append,length_singleton];omega),oJ,p5 (by simp only[length_append,length_singleton];omega),oJ];unfold pZ;rw[if_neg (by omega)];simp
  · rw[dT (by omega),cT,if_neg (λh=>h250 h.2),append_nil]
theorem EY {o:List Int} (h:si o=true):cP o=some (rj o):=by
 obtain⟨o1,o2,o3⟩:=vw h;have hM:M=1048576:=rfl
 unfold cP;rw[Ig,B5 (by omega),oJ,h,Bool.not_true,cF];obtain⟨v,e1,rfl⟩:=pr (step:=λz:Int×List Int=>bt o z.1 z.2) (λk z=>z=((k:Int),rj (o.take k))) o.length (λv=>v=rj o)
  (λk z hk e=>by
   subst e;have hx:=o3 _ (getElem_mem hk)
   have hl:(rj (o.take k)).length<=3*(o.take k).length:=vv λx hx=>(o3 x (mem_of_mem_take hx)).2;rw[length_take]at hl;have hg:=J8 o[k]
   refine .inl ⟨_,?_,rfl⟩;show bt o (k:Int) _=_
   unfold bt;rw[pK (by omega),cT,pb hk,oJ,LV ⟨hx.1,by omega⟩,oJ,p5 (by show (rj (o.take k)).length+(grp o[k]).length<=_;omega),oJ,p9 (by omega),take_add_one,List.getElem?_eq_getElem hk];unfold rj;rw[flatMap_append];simp)
  (λz e=>by
   subst e;refine⟨_,?_,rfl⟩;show bt o (o.length:Int) _=_
   unfold bt;rw[pk (by omega),cF,take_length]) (x:=(0,[])) rfl
 have e1:loop (λz=>bt o z.1 z.2) (0,([]:List Int))=some (rj o):=e1;rw[e1];rfl
theorem Jd {b:List Int} (hb:b.length<=1000) {v:rk} (h:tu v=true):dY b v=some (b++pZ v.1 (rK v)):=by
 have hM:M=1048576:=rfl;obtain⟨l1,l2⟩:=yW h;have hk:oU v.1 0 255=true:=by
  unfold tu at h;by_cases c1:(v.1==5||(v.1==128||v.1==130))=true
  · simp only[Bool.or_eq_true,beq_iff_eq]at c1;rcases c1 with c|c|c<;>rw[c]<;>rfl
  · rw[show (v.1==5||(v.1==128||v.1==130))=false by simpa using c1,cF]at h;by_cases c2:v.1=2
    · rw[c2];rfl
    · rw[beq_eq_false_iff_ne.2 c2,cF]at h;by_cases c4:v.1=4
      · rw[c4];rfl
      · rw[beq_eq_false_iff_ne.2 c4,cF]at h;by_cases c6:v.1=6
        · rw[c6];rfl
        · rw[beq_eq_false_iff_ne.2 c6,cF]at h;cases h
 have fin:∀body,rK v=body->ak b v.1 body=some (b++pZ v.1 (rK v)):=λbody e=>by
  subst e;rw[uO _ (by omega) (by omega),if_pos ⟨hk,by omega⟩]
 have ho6:v.2.2.2.length<=M:=by
  unfold tu at h;by_cases c6:v.1=6
  · rw[c6]at h;simp only[show ((6:Int)==5)=false from rfl,show ((6:Int)==128)=false from rfl,show ((6:Int)==130)=false from rfl,Bool.or_self,cF,show ((6:Int)==2)=false from rfl,show ((6:Int)==4)=false from rfl,show ((6:Int)==6)=true from rfl,cT,aT]at h;have:=ET h.1
    omega
  · have:v.2.2.2.length=0:=by
     revert h
     cases (v.1==5||(v.1==128||v.1==130))with
     | true=>intro h;simp only[cT,aT,beq_iff_eq]at h;omega
     | false =>
      rw[cF];cases (v.1==2)with
      | true=>intro h;simp only[cT,aT,beq_iff_eq]at h;omega
      | false =>
       rw[cF];cases (v.1==4)with
       | true=>intro h;simp only[cT,aT,beq_iff_eq]at h;omega
       | false=>intro h;rw[cF,beq_eq_false_iff_ne.2 c6]at h;cases h
    omega
 unfold dY;rw[KF ho6,oJ,h,Bool.not_true,cF];by_cases h2:v.1=2
 · have e:rK v=qW v.2.1:=by unfold rK;rw[beq_iff_eq.2 h2];rfl
   have hr:-2147483648<=v.2.1/\v.2.1<=2147483647:=by
    unfold tu at h;rw[h2]at h;simp only[show ((2:Int)==5)=false from rfl,show ((2:Int)==128)=false from rfl,show ((2:Int)==130)=false from rfl,Bool.or_self,cF,show ((2:Int)==2)=true from rfl,cT,aT]at h;exact ru h.1
   rw[beq_iff_eq.2 h2,cT,Aa,oJ,wq hr,fin _ e];rfl
 rw[beq_eq_false_iff_ne.2 h2,cF];by_cases h4:v.1=4
 · have e:rK v=tv v.2.2.1:=by unfold rK;rw[beq_eq_false_iff_ne.2 h2,beq_iff_eq.2 h4];rfl
   rw[beq_iff_eq.2 h4,cT,fin _ e];rfl
 rw[beq_eq_false_iff_ne.2 h4,cF];by_cases h6:v.1=6
 · have e:rK v=rj v.2.2.2:=by unfold rK;rw[beq_eq_false_iff_ne.2 h2,beq_eq_false_iff_ne.2 h4,beq_iff_eq.2 h6];rfl
   have ho:si v.2.2.2=true:=by
    unfold tu at h;rw[h6]at h;simp only[show ((6:Int)==5)=false from rfl,show ((6:Int)==128)=false from rfl,show ((6:Int)==130)=false from rfl,Bool.or_self,cF,show ((6:Int)==2)=false from rfl,show ((6:Int)==4)=false from rfl,show ((6:Int)==6)=true from rfl,cT,aT]at h;exact h.1
   rw[beq_iff_eq.2 h6,cT,EY ho,oJ,fin _ e];rfl
 · have e:rK v=[]:=by unfold rK;rw[beq_eq_false_iff_ne.2 h2,beq_eq_false_iff_ne.2 h4,beq_eq_false_iff_ne.2 h6];rfl
   rw[beq_eq_false_iff_ne.2 h6,cF,fin _ e];rfl
theorem Kf {l:List oK} (hx:∀x∈l,ua x=true) (hn:l.length<=10):dZ l=some (r7 l):=by
 have hM:M=1048576:=rfl;have hlen:∀k,(r7 (l.take k)).length<=110*k:=λk=>by
  induction k with
  | zero=>simp[r7]
  | succ k ih =>
   rw[take_add_one];unfold r7 at ih ⊢;rw[flatMap_append,length_append];cases hk:l[k]? with
   | none=>show (List.flatMap vJ (l.take k)).length+0<=_;omega
   | some x =>
    have:=(xD (hx x (List.mem_of_getElem? hk))).2;show (List.flatMap vJ (l.take k)).length+(vJ x++[]).length<=_
    rw[append_nil];omega
 unfold dZ;obtain⟨v,e1,rfl⟩:=pr (step:=λz:Int×List Int=>bu l z.1 z.2) (λk z=>z=((k:Int),r7 (l.take k))) l.length (λv=>v=r7 l)
  (λk z hk e=>by
   subst e;have hxk:=hx _ (getElem_mem hk)
   have hl:=hlen k;obtain⟨b1,b2⟩:=xD hxk;have hxk':=hxk
   unfold ua at hxk';rw[aT]at hxk';obtain⟨o1,o2,o3⟩:=vw hxk'.1;have ho:=vv (o:=l[k].1) λy hy=>(o3 y hy).2
   have ht:=qD 6 (body:=rj l[k].1);refine .inl ⟨_,?_,rfl⟩;show bu l (k:Int) _=_
   unfold bu;rw[pK (by omega),cT,pb hk,oJ,EY hxk'.1,oJ,uO _ (by simp) (by omega),if_pos ⟨by decide,by omega⟩,oJ,oJ,nil_append,Jd (by omega) hxk'.2,oJ,uO _ (by show (r7 (l.take k)).length<=1200;omega) (by show (xU l[k]).length<=_;omega),if_pos ⟨by decide,by show (xU l[k]).length<=250;omega⟩,oJ,p9 (by omega),take_add_one,List.getElem?_eq_getElem hk];unfold r7;rw[flatMap_append];simp[vJ,xU])
  (λz e=>by
   subst e;refine⟨_,?_,rfl⟩;show bu l (l.length:Int) _=_
   unfold bu;rw[pk (by omega),cF,take_length]) (x:=(0,[])) rfl
 have e1:loop (λz=>bu l z.1 z.2) (0,([]:List Int))=some (r7 l):=e1;rw[e1];rfl
theorem Je {p:ph} (hp:tB M p):e9 p=some (AY p):=by
 have hM:M=1048576:=rfl;unfold e9 AY;rw[KI hp,oJ];cases hk:rA p with
 | false=>rw[Bool.not_false,cT,if_neg (λh=>by cases h.1)]
 | true =>
  obtain⟨k1,k2,k3,k4,k5,k6⟩:=rL hk;have i1:=sg p.2.1
  have i2:=sg p.2.2.1;have i3:=sg p.2.2.2.1
  have t1:=qD 2 (body:=qW p.2.1);have t2:=qD 2 (body:=qW p.2.2.1)
  have t3:=qD 2 (body:=qW p.2.2.2.1);rw[Bool.not_true,cF];unfold fg;rw[Kf k1 k2,oJ];by_cases ha:(r7 p.2.2.2.2).length<=250
  · rw[dF (by omega),cF,Aa,oJ,wq k4,uO _ (by simp) (by omega),if_pos ⟨by decide,by omega⟩,oJ,Aa,oJ,wq (by omega),uO _ (by simp only[nil_append];omega) (by omega),if_pos ⟨by decide,by omega⟩,oJ,Aa,oJ,wq (by omega),uO _ (by simp only[nil_append,length_append];omega) (by omega),if_pos ⟨by decide,by omega⟩,oJ,uO _ (by simp only[nil_append,length_append];omega) (by omega),if_pos ⟨by decide,ha⟩,oJ];have eb:([]++pZ 2 (qW p.2.1)++pZ 2 (qW p.2.2.1)++pZ 2 (qW p.2.2.2.1)++pZ 48 (r7 p.2.2.2.2))=rX p:=by unfold rX;simp
    rw[eb];have t4:=qD 48 (body:=r7 p.2.2.2.2)
    have hbl:(rX p).length<=400:=by unfold rX;simp only[length_append];omega
    by_cases hb:(rX p).length<=250
    · simp only[oJ,dT (show ((rX p).length:Int)<=250 by omega),Bool.not_true,cF];rw[uO _ (by simp) (by omega),if_pos ⟨k3,hb⟩,if_pos ⟨trivial,ha,hb⟩,oJ,nil_append]
    · simp only[oJ,dF (show ¬((rX p).length:Int)<=250 by omega),Bool.not_false,cT];rw[if_neg (λh=>hb h.2.2)]
  · rw[dT (by omega),cT,oJ,Bool.not_false,cT,if_neg (λh=>ha h.2.1)]
theorem Iy {α β:Type} (l:List α) (i:Int) (f:α->Option β):((ix l.length i).bind λj=>(l[j]?).bind f)=(at? l i).bind f:=by
 unfold ix at?;by_cases h0:0<=i
 · rw[if_pos h0,if_pos h0];by_cases h1:i<(l.length:Int)
   · rw[if_pos h1,oJ]
   · rw[if_neg h1,List.getElem?_eq_none (by omega)];rfl
 · rw[if_neg h0,if_neg h0];rfl
theorem Kg:fv=cB:=rfl
theorem I4:bv=aq:=rfl
theorem Lc {b:oI} (h:uQ b) (o:List Int):eA b o=aJ b o:=by
 unfold eA aJ;rw[E7 h];cases aP b with
 | none=>rfl
 | some l =>
  have hs:(λz:Int×Int×Int×List UInt8×List Int×List Int=>fw o l z.1 z.2.1 z.2.2.1 z.2.2.2.1 z.2.2.2.2.1 z.2.2.2.2.2)=λz=>ba o l z.1 z.2.1 z.2.2.1 z.2.2.2.1 z.2.2.2.2.1 z.2.2.2.2.2:=by
   funext z
   unfold fw ba;simp only[Iy,Kg];cases at? l z.1<;>rfl
  rw[oJ,oJ,hs];unfold aC;simp only[Option.bind_assoc,oJ]
theorem M0 {b:oI} (h:uQ b) (o:List Int):eC b o=aZ b o:=by
 unfold eC aZ;rw[E7 h];cases aP b with
 | none=>rfl
 | some l =>
  have hs:(λz:Int×Int×Int×List UInt8×List Int=>fx o l z.1 z.2.1 z.2.2.1 z.2.2.2.1 z.2.2.2.2)=λz=>aI o l z.1 z.2.1 z.2.2.1 z.2.2.2.1 z.2.2.2.2:=by
   funext z
   unfold fx aI;simp only[Iy,I4];cases at? l z.1<;>rfl
  rw[oJ,oJ,hs]
def yX (b:oI) (x:oK):Prop:=si x.1=true/\(x.2.1=130->qb b x.1=x)
theorem Hd {b:oI} (h:qy b) {o:List Int} (ho:si o=true):yX b (qb b o):=by
 refine⟨rC (yA h ho),λhk=>?_⟩;obtain⟨_,h1⟩:=Ab h (o:=o) (by have:=sO ho;omega);rcases h1 with ⟨h1,_⟩|⟨h1,h2⟩
 · exfalso;have hv:∀v:rk,Vl v->v.1≠130:=λv hv=>by cases hv<;>simp
   exact hv _ (x7 h _ h1).2 hk
 · rw[h1];exact h1
theorem BR {b:oI} {o:List Int} (ho:si o=true):yX b (o,5,0,[],[]):=⟨ho,λhk=>by have hk:(5:Int)=130:=hk;omega⟩
noncomputable def pW (b:oI) (l:List oK):List oK:=l.map λx=>qb b x.1
theorem He {b:oI} {x:oK} (h:yX b x):(cond (x.2.1==130) x (qb b x.1))=qb b x.1:=by
 cases hk:x.2.1==130 with
 | true=>rw[cT];exact (h.2 (by simpa using hk)).symm
 | false=>rfl
noncomputable def sR (b:oI):Nat->List oK×List oK->List oK×List oK
 | 0,s=>s
 | n+1,s=>if 0<s.2.length/\s.1.length<10 then sR b n (s.1++pW b s.2,pW b s.2)else s
theorem G4 {b:oI}:∀(n:Nat) {s:List oK×List oK},10<=s.1.length->sR b n s=s
 | 0,s,_=>rfl
 | n+1,s,h=>if_neg (by omega)
theorem Hf {b:oI}:∀(n:Nat) {s:List oK×List (List Int)},10<=s.1.length->vz b n s=s
 | 0,s,_=>rfl
 | n+1,s,h=>if_neg (by omega)
theorem BS {b:oI}:∀(n:Nat) (out T:List oK),out.length<=10->(vz b n (out,T.map λx=>x.1)).1=(sR b n (out,T)).1.take 10
 | 0,out,T,h=>(take_of_length_le h).symm
 | n+1,out,T,h=>by
  by_cases hc:0<T.length/\out.length<10
  · have e1:vz b (n+1) (out,T.map λx=>x.1)=vz b n (vY b (out,T.map λx=>x.1)):=if_pos (by simpa using hc);have e2:sR b (n+1) (out,T)=sR b n (out++pW b T,pW b T):=if_pos hc
    rw[e1,e2];by_cases hle:out.length+T.length<=10
    · have hm:tK (out,T.map λx=>x.1)=T.length:=by unfold tK;simp only[length_map];omega
      have e3:vY b (out,T.map λx=>x.1)=(out++pW b T,(pW b T).map λx=>x.1):=by
       unfold vY pW;simp only[hm];rw[take_of_length_le (by simp),List.drop_of_length_le (by simp),append_nil,map_map,map_map,map_map];rfl
      rw[e3];exact BS n _ _ (by rw[length_append];unfold pW;rw[length_map];omega)
    · have hm:tK (out,T.map λx=>x.1)=10-out.length:=by unfold tK;simp only[length_map];omega
      have hl1:(vY b (out,T.map λx=>x.1)).1.length=10:=by
       show (out++((T.map λx=>x.1).take (tK (out,T.map λx=>x.1))).map (qb b)).length=10;rw[hm,length_append,length_map,length_take,length_map];omega
      rw[Hf n (by omega),G4 n (by show 10<=(out++pW b T).length;rw[length_append];unfold pW;rw[length_map];omega)];show out++((T.map λx=>x.1).take (tK (out,T.map λx=>x.1))).map (qb b)=(out++pW b T).take 10
      rw[hm,List.take_append,take_of_length_le h];unfold pW;rw[←List.map_take,←List.map_take,map_map];rfl
  · have e1:vz b (n+1) (out,T.map λx=>x.1)=(out,T.map λx=>x.1):=if_neg (by simpa using hc);have e2:sR b (n+1) (out,T)=(out,T):=if_neg hc
    rw[e1,e2];exact (take_of_length_le h).symm

theorem G5 {p:ph} (hp:tB M p):ce p=some (qn p):=by
 unfold ce;rw[Je hp,oJ];show (ac ((AY p).length:Int) 1 120).bind _=_
 rw[xF,oJ];rfl
def named (l:List oK):List oK:=l.map λx=>(x.1,5,0,[],[])
theorem Hg {l:List oK} (hn:l.length<=M):bA l=some (named l):=by
 have hM:M=1048576:=rfl;unfold bA named;refine BQ (wX (g:=λx:oK=>((x.1,5,0,[],[]):oK)) hn (λk hk out ho=>?_) (λout=>?_)) rfl
 · show d5 l (k:Int) out=_;unfold d5;rw[pK (by omega),cT,pb hk,oJ,p5 (by rw[ho];show k+1<=_;omega),oJ,p9 (by omega)]
 · show d5 l (l.length:Int) out=_;unfold d5;rw[pk (by omega),cF]
theorem E0 {b:oI} (h:qy b) {l:List oK} (hn:l.length<=1000) (hT:∀x∈l,yX b x):aL b l=some (pW b l):=by
 unfold aL pW;refine BQ (wX (g:=λx:oK=>qb b x.1) (by show _<=1048576;omega) (λk hk out ho=>?_) (λout=>?_)) rfl
 · have hx:=hT _ (getElem_mem hk);have e:=He hx
   show cZ b l (k:Int) out=_;unfold cZ;rw[pK (by omega),cT,pb hk,oJ,oJ,oJ,Lc h.w,(Ab h (by have:=sO hx.1;omega)).1,oJ,p9 (by omega)];cases hk':l[k].2.1==130 with
   | true =>
    rw[hk',cT]at e;rw[cT,p5 (by rw[ho];show k+1<=_;omega),oJ,←e]
   | false=>rw[cF,p5 (by rw[ho];show k+1<=_;omega),oJ]
 · show cZ b l (l.length:Int) out=_;unfold cZ;rw[pk (by omega),cF]
theorem G6 {b:oI} (h:qy b) {l:List oK} (hT:∀x∈l,yX b x):∀x∈pW b l,yX b x:=by
 intro x hx;obtain⟨y,hy,rfl⟩:=mem_map.1 hx;exact Hd h (hT y hy).1
theorem Iz {b:oI} (h:qy b) {p:ph} (hB:p.2.2.2.1<=1000):∀(n i:Nat) (out T:List oK),T.length<=10->out.length<=10+10*i->(∀x∈T,yX b x)->((i+n:Nat):Int)=p.2.2.2.1->loop (λz=>aR b p z.1 z.2.1 z.2.2) (T,(i:Int),out)=some (sR b n (out,T)).1
 | 0,i,out,T,h1,h2,hT,e=>by
  refine q5 ?_;show aR b p T (i:Int) out=_
  unfold aR;rw[pk (by omega),cF,oJ,cF,oJ,cF];rfl
 | n+1,i,out,T,h1,h2,hT,e=>by
  by_cases hc:0<T.length/\out.length<10
  · have hnl:(pW b T).length=T.length:=by unfold pW;rw[length_map]
    refine qr (y:=(pW b T,((i+1:Nat):Int),out++pW b T)) ?_ ?_
    · show aR b p T (i:Int) out=_;unfold aR;rw[pK (by omega),cT,dT (by omega),oJ,cT,pK (by omega),oJ,cT,E0 h (by omega) hT,oJ,p5 (by rw[hnl];omega),oJ,p9 (by omega)]
    · rw[Iz h hB n (i+1) _ _ (by rw[hnl];exact h1) (by rw[length_append,hnl];omega) (G6 h hT) (by omega),show sR b (n+1) (out,T)=sR b n (out++pW b T,pW b T)from if_pos hc]
  · refine q5 ?_;show aR b p T (i:Int) out=_
    have e2:sR b (n+1) (out,T)=(out,T):=if_neg hc;rw[e2];unfold aR;rw[pK (by omega),cT];by_cases h1:0<T.length
    · rw[dT (by omega),oJ,cT,pk (by omega),oJ,cF]
    · rw[dF (by omega),oJ,cF,oJ,cF]
theorem CP {b:oI}:∀(n:Nat) (out T:List oK),T.length<=10->out.length<=20->(sR b n (out,T)).1.length<=20
 | 0,out,T,_,h=>h
 | n+1,out,T,hT,h=>by
  by_cases hc:0<T.length/\out.length<10
  · rw[show sR b (n+1) (out,T)=sR b n (out++pW b T,pW b T)from if_pos hc];have hnl:(pW b T).length=T.length:=by unfold pW;rw[length_map]
    exact CP n _ _ (by omega) (by rw[length_append,hnl];omega)
  · rw[show sR b (n+1) (out,T)=(out,T)from if_neg hc];exact h
theorem Kh {b:oI} (h:qy b) {p:ph} (hp:rA p=true):eB b p=some (rY b p):=by
 obtain⟨x1,x2,_,_,x5,x6⟩:=rL hp;have hM:M=1048576:=rfl
 have hnl:(named p.2.2.2.2).length=p.2.2.2.2.length:=by unfold named;rw[length_map]
 have hTold:∀x∈named p.2.2.2.2,yX b x:=by
  intro x hx;obtain⟨y,hy,rfl⟩:=mem_map.1 hx;exact BR (rC (x1 y hy))
 have hon:q6 p<=p.2.2.2.2.length:=Nat.min_le_right _ _;have hout:pW b ((named p.2.2.2.2).take (q6 p))=(p.2.2.2.2.take (q6 p)).map (λx=>qb b x.1):=by
  unfold pW named;rw[←List.map_take,map_map];rfl
 have hlast:((named p.2.2.2.2).drop (q6 p)).map (λx=>x.1)=(p.2.2.2.2.drop (q6 p)).map (λx=>x.1):=by
  unfold named;rw[←List.map_drop,map_map];rfl
 have hol:(pW b ((named p.2.2.2.2).take (q6 p))).length<=10:=by rw[hout,length_map,length_take];omega
 have hTl:((named p.2.2.2.2).drop (q6 p)).length<=10:=by rw[length_drop];omega
 have hrun:=Iz h (p:=p) (by omega) p.2.2.2.1.toNat 0 (pW b ((named p.2.2.2.2).take (q6 p))) ((named p.2.2.2.2).drop (q6 p)) hTl (by omega) (λx hx=>hTold x (List.mem_of_mem_drop hx)) (by omega);have hv:rY b p=(sR b p.2.2.2.1.toNat (pW b ((named p.2.2.2.2).take (q6 p)),(named p.2.2.2.2).drop (q6 p))).1.take 10:=by
  unfold rY FZ;rw[←hout,←hlast];exact BS _ _ _ hol
 have hlen:=CP (b:=b) p.2.2.2.1.toNat _ _ hTl (show (pW b ((named p.2.2.2.2).take (q6 p))).length<=20 by omega);have fin:∀k:Int,k=((q6 p:Nat):Int)->((bA p.2.2.2.2).bind λt22 =>
  (rf t22.length 0 k).bind λq =>
  (aL b ((t22.take q.2).drop q.1)).bind λt27 =>
  (cut t22 k (t22.length:Int)).bind λt30 =>
  (loop (λz=>aR b p z.1 z.2.1 z.2.2) (t30,0,t27)).bind λd =>
  cond (decide ((d.length:Int)>10))
   ((rf d.length 0 10).bind λp_1 =>
   some ((d.take p_1.2).drop p_1.1))
   (some d))=some (rY b p):=by
  rintro k rfl;rw[Hg (by omega),oJ,show (0:Int)=((0:Nat):Int)from rfl,x8 (by omega) (by rw[hnl];exact hon),oJ];show (aL b (((named p.2.2.2.2).take (q6 p)).drop 0)).bind _=_
  rw[List.drop_zero,E0 h (by rw[length_take];omega) (λx hx=>hTold x (mem_of_mem_take hx)),oJ,tC (by rw[hnl];exact hon) (Nat.le_refl _),oJ,take_length];refine BQ hrun ?_;rw[hv];generalize (sR b p.2.2.2.1.toNat (pW b ((named p.2.2.2.2).take (q6 p)),(named p.2.2.2.2).drop (q6 p))).1=d at hlen;by_cases hd:(d.length:Int)>10
  · rw[dT hd,cT,show (10:Int)=((10:Nat):Int)from rfl,x8 (by omega) (by omega),oJ];rfl
  · rw[dF hd,cF,take_of_length_le (by omega)]
 unfold eB;by_cases hc:p.2.2.1>(p.2.2.2.2.length:Int)
 · rw[dT hc,cT];exact fin _ (by unfold q6;omega)
 · rw[dF hc,cF];exact fin _ (by unfold q6;omega)
theorem Hh (k i a c:Int) (bulk:Bool):∀(n:Nat) (l:List oK),l.length=n->n<=10->(∀x∈l,wZ M x) ->
 ∃t,loop (λz:ph=>bf bulk z.1 z.2.1 z.2.2.1 z.2.2.2.1 z.2.2.2.2) (k,i,a,c,l)=some (k,i,a,c,t)/\tB M (k,i,a,c,t) /\
  ((qn (k,i,a,c,l)=true/\t=l)\/(qn (k,i,a,c,l)=false/\((bulk=true/\qn (k,i,a,c,t)=true/\shr (λt=>qn (k,i,a,c,t)) n l=some t)\/(qn (k,i,a,c,t)=false/\(bulk=true->shr (λt=>qn (k,i,a,c,t)) n l=none)))))
 | n,l,hl,hn,hx=>by
  have hp:tB M (k,i,a,c,l):=⟨by show l.length<=1048576;omega,hx⟩;have hstep:∀q:Bool,qn (k,i,a,c,l)=q->bf bulk k i a c l=cond (bulk&&(!q&&decide ((l.length:Int)>0))) ((rf l.length 0 (oL ((l.length:Int)-1))).bind λp=>some (.inl (k,i,a,c,(l.take p.2).drop p.1))) (some (.inr (k,i,a,c,l))):=by
   intro q hq;unfold bf;rw[G5 hp,hq];cases bulk<;>cases q<;>rfl
  cases hf:qn (k,i,a,c,l)with
  | true =>
   refine⟨l,q5 ?_,hp,.inl ⟨rfl,rfl⟩⟩;show bf bulk k i a c l=_
   rw[hstep true hf];cases bulk<;>rfl
  | false =>
   cases hb:bulk with
   | false =>
    subst hb;refine⟨l,q5 ?_,hp,.inr ⟨rfl,.inr ⟨hf,(λh=>by cases h)⟩⟩⟩;show bf false k i a c l=_
    rw[hstep false hf];rfl
   | true =>
    subst hb
    match n,hl,hn with
    | 0,hl,hn =>
     refine⟨l,q5 ?_,hp,.inr ⟨rfl,.inr ⟨hf,λ_=>rfl⟩⟩⟩;show bf true k i a c l=_
     rw[hstep false hf,dF (by omega)];rfl
    | n+1,hl,hn =>
     have hlt:(l.take n).length=n:=by rw[length_take];omega
     have hs:bf true k i a c l=some (.inl (k,i,a,c,l.take n)):=by
      rw[hstep false hf,dT (by omega)];show ((rf l.length 0 (oL ((l.length:Int)-1))).bind _)=_
      rw[rb (by omega) (by omega),show (l.length:Int)-1=((n:Nat):Int) by omega,show (0:Int)=((0:Nat):Int)from rfl,x8 (by omega) (by omega),oJ];rfl
     obtain⟨t,t1,t2,t3⟩:=Hh k i a c true n (l.take n) hlt (by omega) (λx h=>hx x (mem_of_mem_take h));refine⟨t,qr hs t1,t2,.inr ⟨rfl,?_⟩⟩;rcases t3 with ⟨u1,rfl⟩|⟨u1,⟨_,u2,u3⟩|⟨u2,u3⟩⟩
     · exact .inl ⟨rfl,u1,if_pos u1⟩
     · exact .inl ⟨rfl,u2,by rw[show shr (λt=>qn (k,i,a,c,t)) (n+1) l=shr (λt=>qn (k,i,a,c,t)) n (l.take n)from if_neg (show ¬qn (k,i,a,c,l.take n)=true by rw[u1];simp)];exact u3⟩
     · exact .inr ⟨u2,λ_=>by rw[show shr (λt=>qn (k,i,a,c,t)) (n+1) l=shr (λt=>qn (k,i,a,c,t)) n (l.take n)from if_neg (show ¬qn (k,i,a,c,l.take n)=true by rw[u1];simp)];exact u3 rfl⟩
noncomputable def zT (i a c:Int) (bulk:Bool) (l:List oK):ph :=
 cond (qn (162,i,a,c,l)) (162,i,a,c,l) (match cond bulk (shr (λt=>qn (162,i,a,c,t)) l.length l) none with|some t=>(162,i,a,c,t)|none=>(162,i,7,0,[]))
theorem Hi (i a c:Int) (bulk:Bool) {l:List oK} (hn:l.length<=10) (hx:∀x∈l,wZ M x):cg (162,i,a,c,l) bulk=some (zT i a c bulk l):=by
 obtain⟨t,t1,t2,t3⟩:=Hh 162 i a c bulk l.length l rfl hn hx;unfold cg zT;refine BQ t1 ?_;rw[G5 t2,oJ];rcases t3 with ⟨u1,rfl⟩|⟨u1,⟨rfl,u2,u3⟩|⟨u2,u3⟩⟩
 · rw[u1,cT,cT]
 · rw[u1,u2,cT,cF,cT,u3]
 · rw[u1,u2,cF,cF];cases bulk with
   | true=>rw[cT,u3 rfl]
   | false=>rfl
theorem Ld {b:oI} (h:qy b) {p:ph} (hp:rA p=true) (h163:(p.1==163)=false) (hk:(p.1 != 162)=true):∃l,eD b p=some l/\vh b p=(b,162,p.2.1,0,0,l)/\l.length<=10/\∀x∈l,wZ M x:=by
 obtain⟨x1,x2,_⟩:=rL hp;have hM:M=1048576:=rfl
 unfold eD vh;cases h161:(p.1==161)with
 | true =>
  have h160:(p.1==160)=false:=by simp only[beq_iff_eq]at h161;rw[h161];rfl
  have hTold:∀x∈named p.2.2.2.2,yX b x:=by
   intro x hx;obtain⟨y,hy,rfl⟩:=mem_map.1 hx;exact BR (rC (x1 y hy))
  have he:pW b (named p.2.2.2.2)=p.2.2.2.2.map λx=>qb b x.1:=by unfold pW named;rw[map_map];rfl
  simp only[cT,cF,h160];rw[Hg (by omega),oJ,E0 h (by unfold named;rw[length_map];omega) hTold,oJ,he];refine⟨_,rfl,rfl,by rw[length_map];exact x2,λx hx=>?_⟩;obtain⟨y,hy,rfl⟩:=mem_map.1 hx;exact sL (yA h (rC (x1 y hy)))
 | false =>
 cases h165:(p.1==165)with
 | true =>
  have h160:(p.1==160)=false:=by simp only[beq_iff_eq]at h165;rw[h165];rfl
  have hbk:=EW h hp;simp only[cT,cF,h160];rw[Kh h hp,oJ];exact⟨_,rfl,rfl,hbk.o10,λx hx=>sL (hbk.oOk x hx)⟩
 | false =>
  have h160:(p.1==160)=true:=by
   rcases I2 hp with e|e|e|e|e
   · rw[e];rfl
   · rw[e]at h161;cases h161
   · rw[e]at hk;cases hk
   · rw[e]at h163;cases h163
   · rw[e]at h165;cases h165
  simp only[cT,cF,h160];have e:loop (λz:Int×List oK=>ck b p z.1 z.2) (0,[])=some (p.2.2.2.2.map λx=>((x.1,wY b x.1):oK)):=by
   refine wX (by omega) (λk hk' out ho=>?_) (λout=>?_)
   · have hx:=sO (rC (x1 _ (getElem_mem hk')));show ck b p (k:Int) out=_
     unfold ck;rw[pK (by omega),cT,pb hk',oJ,p5 (by show 0+_<=_;omega),oJ,oJ,M0 h.w,(I0 h (by omega)).1,oJ,p5 (by rw[ho];show k+1<=_;omega),oJ,p9 (by omega)];rfl
   · show ck b p (p.2.2.2.2.length:Int) out=_;unfold ck;rw[pk (by omega),cF]
  rw[e,oJ];refine⟨_,rfl,rfl,by rw[length_map];exact x2,λx hx=>?_⟩;obtain⟨y,hy,rfl⟩:=mem_map.1 hx;exact sL (by unfold ua;rw[rC (x1 y hy),Iv h (by have:=sO (rC (x1 y hy));omega)];rfl)
theorem Ex {b:oI} {p:ph} {l:List oK} (ha:vh b p=(b,162,p.2.1,0,0,l)) (hl:(p.1==165)=true->l=rY b p):vi b p=(b,zT p.2.1 0 0 (p.1==165) l):=by
 unfold vi xE zT;rw[ha];simp only;cases qn (162,p.2.1,0,0,l)with
 | true=>rfl
 | false =>
  rw[cF,cF];cases h165:(p.1==165)with
  | true=>rw[cT,cT,hl h165];cases shr (λt=>qn (162,p.2.1,0,0,t)) (rY b p).length (rY b p)<;>rfl
  | false=>rfl
theorem M5 {b:oI} (h:qy b) {p:ph} (hp:rA p=true) (h163:(p.1==163)=true):ew b p=some (vi b p):=by
 have hxs:=BP hp;have hM:M=1048576:=rfl
 have h10:=(rL hp).2.1;obtain⟨r,r1,r2,_,_,r5⟩:=Ci h.w h.le hxs;have hr:xV b p.2.2.2.2=r:=by unfold xV;rw[r1];rfl
 have h160:(p.1==160)=false:=by simp only[beq_iff_eq]at h163;rw[h163];rfl
 have h161:(p.1==161)=false:=by simp only[beq_iff_eq]at h163;rw[h163];rfl
 have h165:(p.1==165)=false:=by simp only[beq_iff_eq]at h163;rw[h163];rfl
 have ha:vh b p=(r.1,162,p.2.1,r.2.1,r.2.2,p.2.2.2.2):=by unfold vh;rw[h160,h161,h165,hr];rfl
 have hless:xE b p=(b,162,p.2.1,7,0,[]):=by unfold xE;rw[h165];rfl
 unfold ew vi;rw[BY hxs,oJ,r2,oJ,G5 (p:=(162,p.2.1,r.2.1,r.2.2,p.2.2.2.2)) ⟨hxs.1,hxs.2⟩,oJ,ha,hless];simp only;have hb:∀q:Bool,qn (162,p.2.1,r.2.1,r.2.2,p.2.2.2.2)=q->((az b).bind λt36=>(cg (162,p.2.1,r.2.1,r.2.2,p.2.2.2.2) false).bind λt38=>some (t36,t38))=some (b,cond q (162,p.2.1,r.2.1,r.2.2,p.2.2.2.2) (162,p.2.1,7,0,[])):=by
  intro q hq;rw[tJ h.le,oJ,Hi _ _ _ _ h10 hxs.2,oJ];unfold zT;rw[hq];rfl
 cases hf:qn (162,p.2.1,r.2.1,r.2.2,p.2.2.2.2)with
 | false=>rw[Bool.not_false,cT,oJ,cT,hb false hf];rfl
 | true =>
  rw[Bool.not_true,cF,oJ];cases hc:(r.2.1 != 0)with
  | false=>rfl
  | true =>
   rw[cT,hb true hf];rcases r5 with ⟨r6,_⟩|⟨r6,_⟩
   · rw[r6]at hc;cases hc
   · rw[r6];rfl
theorem Ki {b:oI} (h:uQ b) (hb:u7 M b) {p:ph} (hp:tB M p):eE b p=some (u5 b p):=by
 unfold eE ff u5 zS;rw[Ck h,oJ,tJ hb];cases hbr:qI b with
 | false=>rfl
 | true =>
 rw[cT,KI hp,oJ,oJ];cases hpp:rA p with
 | false=>rfl
 | true =>
 cases hk:(p.1 != 162)with
 | false=>rfl
 | true =>
 have hBO:=Fc h hbr;simp only[Bool.and_true,cT,oJ,Bool.not_true,cF];cases h163:(p.1==163)with
 | true=>rw[cT,M5 hBO hpp h163,oJ]
 | false =>
  obtain⟨l,e1,e2,e3,e4⟩:=Ld hBO hpp h163 hk;have hl:(p.1==165)=true->l=rY b p:=by
   intro h165;have h160:(p.1==160)=false:=by simp only[beq_iff_eq]at h165;rw[h165];rfl
   have h161:(p.1==161)=false:=by simp only[beq_iff_eq]at h165;rw[h165];rfl
   have:vh b p=(b,162,p.2.1,0,0,rY b p):=by unfold vh;rw[h160,h161,h165];rfl
   rw[e2]at this;simpa using this
  rw[cF,e1,oJ,BY ⟨by show l.length<=1048576;omega,e4⟩,oJ,Hi _ _ _ _ e3 e4,oJ,Ex e2 hl]

end Go.V.W

