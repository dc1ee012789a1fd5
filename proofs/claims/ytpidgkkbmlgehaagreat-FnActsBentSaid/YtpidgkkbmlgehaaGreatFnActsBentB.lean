/- The law FnActsBent: part of the proof that for every input it returns true. No condition. -/
import Derived.Test.YtpidgkkbmlgehaaGreatFnActsBentBP2
open List (all_eq_true append_nil drop_zero getElem_mem length_append length_drop length_map length_set length_singleton length_take map_map mem_append mem_cons mem_cons_of_mem mem_map mem_of_mem_take mem_or_eq_of_mem_set mem_range mem_singleton nil_append not_mem_nil pairwise_append pairwise_cons pairwise_iff_getElem set_set take_add_one take_length take_of_length_le)
set_option linter.unusedVariables false
set_option linter.unusedSimpArgs false
namespace Go.V.W
theorem Tt {a:vO} (hw:yb (aB a)) (hl:Hv M a) {k:Nat} (hk:k<(vC a).length) (h1:Mn (vC a)[k]) (h2:xL (vC a)[k].2.1):dU a (k:Int)=some (zX a k (vC a)[k]):=by
 obtain⟨hb,_,hn,hj⟩:=hl;have hJ:=hj _ (getElem_mem hk)
 have hn:(vC a).length<=M:=hn;have e1:=Un hb (w:=aW a) (l:=vC a) (lo:=wS a) (la:=we a) hk hn h2 hJ.1
 have e2:=RP hw hb (w:=aW a) (l:=vC a) (lo:=wS a) (la:=we a) hk hn h1 hJ;have c0:ix a.2.2.2.2.2.2.2.2.2.2.2.2.1.length (k:Int)=some k:=xJ hk
 have c1:a.2.2.2.2.2.2.2.2.2.2.2.2.1[k]?=some (vC a)[k]:=List.getElem?_eq_getElem hk;have e1:gg a (k:Int)=_:=e1
 have e2:gw a (k:Int)=_:=e2;unfold dU zX zA;rw[c0,an];simp only[c1,an];cases hp0:((vC a)[k].2.2.1==0)with
 | true =>
  rw[cT,e1,an];cases ((wR (aW a) (vC a)[k].2.1).2==3)with
  | true=>rfl
  | false =>
   cases ((wR (aW a) (vC a)[k].2.1).2 != 0||((wR (aW a) (vC a)[k].2.1).1.1==162))<;>rfl
 | false =>
  rw[cF];cases hp2:((vC a)[k].2.2.1==2)with
  | true =>
   rw[cT,e2,an];cases ((vC a)[k].2.2.2.1 != 163)with
   | true=>rfl
   | false =>
    cases ((aB a).2.2.2.2.2.2.2.2.2.2==(jB (vC a)[k]).2.2.2.2.2.2.2.2.2.2)with
    | true=>rfl
    | false=>cases decide (wv (vC a)[k]>=3)<;>rfl
  | false =>
   simp only[cF];show cond (decide (zq (vC a)[k]<((jP (vC a)[k]).2.2.2.2.length:Int))) _ _=_
   cases decide (zq (vC a)[k]<((jP (vC a)[k]).2.2.2.2.length:Int))<;>rfl

theorem Dz {n:Int} (h:vE n 0 1000000=true):vE (Ao n) 0 1000000=true:=by
 obtain⟨r,h1,_,h3⟩:=K4 h;rw[CO]at h1;cases h1;exact h3
theorem AF {b:vw} (h:wq b=true):ya b=true/\∀c,ya (b.1,b.2.1,b.2.2.1,b.2.2.2.1,b.2.2.2.2.1,b.2.2.2.2.2.1,c)=true->wq (b.1,b.2.1,b.2.2.1,b.2.2.2.1,b.2.2.2.2.1,b.2.2.2.2.2.1,c)=true:=by
 unfold wq at h ⊢;simp only[aT]at h ⊢;obtain⟨h1,h2,h3,h4,h5,h6,h7⟩:=h;exact⟨h7,λc hc=>⟨h1,h2,h3,h4,h5,h6,hc⟩⟩
theorem Iu {b:vw} (h:wH b) {c:Int×Int×Int×Int×Int} (hc:ya (b.1,b.2.1,b.2.2.1,b.2.2.2.1,b.2.2.2.2.1,b.2.2.2.2.2.1,c)=true):wH (b.1,b.2.1,b.2.2.1,b.2.2.2.1,b.2.2.2.2.1,b.2.2.2.2.2.1,c) :=
 BK ⟨h.w.p,h.w.f,h.w.v,h.w.q,h.w.r⟩ ((AF h.ok).2 c hc)
theorem zo {b:vw} (h:ya b=true):vE b.2.2.2.2.2.2.1 0 1000000=true/\vE b.2.2.2.2.2.2.2.1 0 1000000=true/\vE b.2.2.2.2.2.2.2.2.1 0 1000000=true/\vE b.2.2.2.2.2.2.2.2.2.1 0 1000000=true/\vE b.2.2.2.2.2.2.2.2.2.2 0 1000000=true:=by
 unfold ya at h;simpa only[aT]using h
theorem PH {b:vw} (h:wH b):wH (Ew b):=by
 refine Iu h ?_;obtain⟨h1,h2,h3,h4,h5⟩:=zo (AF h.ok).1;unfold ya;simp only[aT];exact⟨h1,h2,Dz h3,h4,h5⟩
theorem Oq {b:vw} (h:wH b):wH (D2 b):=by
 refine Iu h ?_;obtain⟨h1,h2,h3,h4,h5⟩:=zo (AF h.ok).1;unfold ya;simp only[aT];exact⟨h1,Dz h2,h3,h4,h5⟩
theorem Iv {b:vw} (h:zF b) (hl:z7 M b):yb b:=by
 obtain⟨_,l2,l3,l4,l5⟩:=hl;have hM:M<9223372036854775807:=by decide
 exact⟨by omega,by omega,by omega,by omega,h.h⟩
theorem UE {b:vw} (h:wH b) {l:List vB} (hl:D9 M l):fj b l=some (EJ b l)/\wH (EJ b l).1:=by
 obtain⟨r,r1,_,r3,r4,_⟩:=Jc h.w h.le hl;unfold EJ;rw[r1];obtain⟨k1,k2⟩:=r4 h.ok;exact⟨rfl,BK (Iv k1 r3) k2⟩
theorem PI {b:vw} (h:wH b) {p:wd} (hp:xG p=true):wH (AZ b p).1:=by
 unfold AZ;cases (p.1==160)<;>cases (p.1==161)<;>cases (p.1==165)<;>first|exact h|exact (UE h (GU hp)).2
theorem Ra (b:vw) (p:wd):(Cq b p).1=b:=by
 unfold Cq;split<;>rfl
theorem Iw {b:vw} (h:wH b) (p:wd):wH (xH b p).1:=by
 unfold xH;cases hq:E4 b p with
 | false=>exact h
 | true =>
  unfold E4 at hq;simp only[aT]at hq;rw[cT];unfold zM;cases xm (AZ b p).2 with
  | true=>exact PI h hq.2.1
  | false=>rw[cF,Ra];exact h
theorem PJ {p:wd} (hp:xG p=true):p.1=160\/p.1=161\/p.1=162\/p.1=163\/p.1=165:=by
 unfold xG at hp;by_cases h0:p.1=160;· exact .inl h0
 by_cases h1:p.1=161;· exact .inr (.inl h1)
 by_cases h2:p.1=162;· exact .inr (.inr (.inl h2))
 by_cases h3:p.1=163;· exact .inr (.inr (.inr (.inl h3)))
 by_cases h5:p.1=165;· exact .inr (.inr (.inr (.inr h5)))
 simp[h0,h1,h2,h3,h5]at hp
structure D7 (j:wM):Prop where
 byt:xL j.2.1
 len:j.2.1.length<=M
 ph:vE j.2.2.1 0 2=true
 at':vE (zq j) 0 ((jP j).2.2.2.2.length:Int)=true
 tr:vE (wv j) 0 3=true
 ok:(j.2.2.1==0)=true\/(xG (jP j)=true/\((jP j).1 != 162)=true/\wH (jB j))
 pl:yj M (jP j)
 bw:yb (jB j)
 bl:z7 M (jB j)
theorem D7.jwf {j:wM} (h:D7 j):Mn j:=⟨h.pl,h.bw⟩
theorem D7.jle {j:wM} (h:D7 j):QA M j:=⟨h.len,h.pl,h.bl⟩
structure xk (a:vO):Prop where
 b:wH (aB a)
 w:(aW a).length<=20
 n:(vC a).length<=6
 lo:vE (wS a) 0 1000000=true
 la:vE (we a) 0 1000000=true
 ids:∀j∈vC a,vE j.1 1 (we a)=true
 up:(vC a).Pairwise λi j=>i.1<j.1
 j:∀j∈vC a,D7 j
theorem xk.ale {a:vO} (h:xk a):Hv M a:=⟨h.b.le,by have:=h.w;show (aW a).length<=1048576;omega,by have:=h.n;show (vC a).length<=1048576;omega,λx hx=>(h.j x hx).jle⟩
theorem xk.awf {a:vO} (h:xk a):IM a:=⟨h.b.w,by have:=h.n;omega,λx hx=>(h.j x hx).jwf⟩
theorem xk.ok {a:vO} (h:xk a):yt a=true:=by
 have hn:=h.n;have hw:=h.w
 unfold yt;have h1:(List.range (vC a).length).any (EI (vC a) (we a))=false:=by
  rw[List.any_eq_false];intro k hk;have hk:=mem_range.1 hk
  unfold EI;have hj:=h.j _ (getElem_mem hk)
  have hp:BW (vC a)[k]=true:=by
   unfold BW;simp only[aT,Bool.or_eq_true];refine⟨hj.ph,hj.at',hj.tr,hj.ok.imp (λe=>e) λ⟨k1,k2,k3⟩=>⟨k1,k2,k3.ok⟩⟩
  simp only[List.getElem?_eq_getElem hk,h.ids _ (getElem_mem hk),hp,Bool.and_self,Bool.not_true,Bool.false_or];by_cases h0:0<k
  · have:=pairwise_iff_getElem.1 h.up (k-1) k (by omega) hk (by omega);simp only[List.getElem?_eq_getElem (show k-1<(vC a).length by omega),aT,decide_eq_true_eq];omega
  · rw[dF h0];simp
 rw[h1];simp only[Bool.not_false,Bool.true_and,aT,decide_eq_true_eq];exact⟨h.b.ok,by show ((aW a).length:Int)<=20;omega,by omega,h.lo,h.la⟩
theorem J5 {a:vO} (h:IM a) (hl:Hv M a) (hb:∀j∈vC a,xL j.2.1) (hp:yt a=true):xk a:=by
 unfold yt at hp;simp only[aT,Bool.not_eq_true',decide_eq_true_eq]at hp;obtain⟨h1,h2,h3,h4,h5,h6⟩:=hp;have key:∀k (hk:k<(vC a).length),vE (vC a)[k].1 1 (we a)=true/\BW (vC a)[k]=true/\(∀h0:0<k,(vC a)[k-1].1<(vC a)[k].1):=by
  intro k hk;have:=List.any_eq_false.1 h1 k (mem_range.2 hk)
  unfold EI at this;simp only[List.getElem?_eq_getElem hk,Bool.or_eq_true,Bool.not_eq_true',Bool.and_eq_false_iff,not_or]at this;obtain⟨t1,t2⟩:=this;have e1:vE (vC a)[k].1 1 (we a)=true:=by
   cases e:vE (vC a)[k].1 1 (we a)with
   | true=>rfl
   | false=>exact absurd e t1.1
  have e2:BW (vC a)[k]=true:=by
   cases e:BW (vC a)[k]with
   | true=>rfl
   | false=>exact absurd e t1.2
  refine⟨e1,e2,λh0=>?_⟩;rw[dT h0]at t2;simp only[List.getElem?_eq_getElem (show k-1<(vC a).length by omega),Bool.true_and,decide_eq_true_eq]at t2;omega
 refine⟨BK h.b h2,by have:((aW a).length:Int)<=20:=h3;omega,by omega,h5,h6,λj hj=>?_,?_,λj hj=>?_⟩
 · obtain⟨k,hk,rfl⟩:=List.getElem_of_mem hj;exact (key k hk).1
 · exact FS (λa b c h k=>by omega) λk hk=>by
    have:=(key (k+1) hk).2.2 (by omega);simpa using this
 · have hjw:=h.j j hj;have hjl:=hl.2.2.2 j hj
   have hjb:=hb j hj;obtain⟨k,hk,rfl⟩:=List.getElem_of_mem hj;have hp:=(key k hk).2.1
   unfold BW at hp;simp only[aT,Bool.or_eq_true]at hp;obtain⟨p1,p2,p3,p4⟩:=hp;exact⟨hjb,hjl.1,p1,p2,p3,p4.imp (λe=>e) λ⟨q1,q2,q3⟩=>⟨q1,q2,BK hjw.b q3⟩,hjw.p,hjw.b,hjl.2.2⟩
noncomputable def zx (b:vw) (j:wM):Nat:=if (jP j).1=163/\b.2.2.2.2.2.2.2.2.2.2≠(jB j).2.2.2.2.2.2.2.2.2.2/\wv j<3 then (jP j).2.2.2.2.length+3 else 1
noncomputable def CK (w:List UInt8) (m:List Int):Bool:=(wR w m).2==0&&((wR w m).1.1 != 162)
noncomputable def zI (w:List UInt8) (j:wM):Bool:=CK w j.2.1||decide (j.2.2.1>0)
noncomputable def z6 (w:List UInt8) (b:vw) (j:wM):Nat :=
 if j.2.2.1=2 then zx b j else if j.2.2.1=1 then (jP j).2.2.2.2.length-(zq j).toNat+1+zx b j
 else if CK w j.2.1=true then (wR w j.2.1).1.2.2.2.2.length+3 else 1
theorem GD {b:vw} (h:wH b) {p:wd} (hp:xG p=true) (hk:(p.1 != 162)=true):E4 b p=true/\(xH b p).2.1=(zM b p).2/\(xH b p).1=(zM b p).1/\(zM b p).2.1=162/\(zM b p).2.2.1=p.2.1:=by
 have e:E4 b p=true:=by unfold E4;rw[h.ok,hp,hk];rfl
 have e1:(AZ b p).2.1=162/\(AZ b p).2.2.1=p.2.1:=by
  unfold AZ;cases (p.1==160)<;>cases (p.1==161)<;>cases (p.1==165)<;>exact⟨rfl,rfl⟩
 have e2:(Cq b p).2.1=162/\(Cq b p).2.2.1=p.2.1:=by
  unfold Cq;split<;>exact⟨rfl,rfl⟩
 refine⟨e,?_,?_,?_⟩
 · unfold xH;rw[e,cT]
 · unfold xH;rw[e,cT]
 · unfold zM;cases xm (AZ b p).2 with
   | true=>exact e1
   | false=>exact e2
theorem Ot (p:wd):(AM p).1=162/\(AM p).2.1=p.2.1:=by
 unfold AM;cases xm (162,p.2.1,6,1,p.2.2.2.2)<;>exact⟨rfl,rfl⟩
theorem KO {j:wM} (h:D7 j):j.2.2.1=0\/j.2.2.1=1\/j.2.2.1=2:=by
 obtain⟨h1,h2⟩:=wu h.ph;omega
theorem Qt {w:List UInt8} {b:vw} {j:wM} (h:j.2.2.1=1):z6 w b j=(jP j).2.2.2.2.length-(zq j).toNat+1+zx b j:=by unfold z6;rw[if_neg (by omega),if_pos h]
theorem Tu {w:List UInt8} {b:vw} {j:wM} (h:j.2.2.1=2):z6 w b j=zx b j:=by unfold z6;rw[if_pos h]
def S7 (w:List UInt8) (b b':vw) (j:wM):Tm->Prop
 | .stay j'=>b'=b/\D7 j'/\j'.1=j.1/\z6 w b j'+1=z6 w b j/\zI w j'=zI w j
 | .gone d=>wH b'/\z6 w b j=1/\(zI w j=false->d=[])/\(zI w j=true->∃p,d=[(j.1,p)]/\p.1=162)
theorem Rb (w:List UInt8) {b:vw} (hb:wH b) {j:wM} (h:D7 j):S7 w b (zA w b j).1 j (zA w b j).2:=by
 obtain⟨m1,_,m3,m4⟩:=Qp w h.byt h.len;obtain⟨t1,t2⟩:=wu h.tr;obtain⟨a1,a2⟩:=wu h.at';rcases KO h with hp|hp|hp
 ·
   have hne2:¬j.2.2.1=2:=by omega
   have hne1:¬j.2.2.1=1:=by omega
   unfold zA;rw[show (j.2.2.1==0)=true by rw[hp];rfl,cT];have hgood:∀q,CK w j.2.1=q->zI w j=q:=by
    intro q hq;unfold zI;rw[hq,dF (by omega),Bool.or_false]
   have hneed:CK w j.2.1=false->z6 w b j=1:=by
    intro hq;unfold z6;rw[if_neg hne2,if_neg hne1,if_neg (by rw[hq];simp)]
   cases h3:((wR w j.2.1).2==3)with
   | true =>
    have hg:CK w j.2.1=false:=by
     unfold CK;simp only[beq_iff_eq]at h3;rw[h3];rfl
    exact⟨PH hb,hneed hg,λ_=>rfl,λha=>by rw[hgood _ hg]at ha;cases ha⟩
   | false =>
    cases h4:((wR w j.2.1).2 != 0||((wR w j.2.1).1.1==162))with
    | true =>
     have hg:CK w j.2.1=false:=by
      unfold CK;rw[bne]at h4 ⊢;cases e1:((wR w j.2.1).2==0)<;>cases e2:((wR w j.2.1).1.1==162)<;>simp[e1,e2]at h4 ⊢
     exact⟨Oq hb,hneed hg,λ_=>rfl,λha=>by rw[hgood _ hg]at ha;cases ha⟩
    | false =>
     simp only[Bool.or_eq_false_iff]at h4;have h0:(wR w j.2.1).2=0:=by simpa using h4.1
     have hk:((wR w j.2.1).1.1 != 162)=true:=by rw[bne,h4.2];rfl
     have hg:CK w j.2.1=true:=by unfold CK;rw[h0,hk];rfl
     refine⟨rfl,⟨h.byt,h.len,rfl,?_,h.tr,.inr ⟨m4 h0,hk,hb⟩,m3,hb.w,hb.le⟩,rfl,?_,?_⟩
     · unfold vE;rw[dT (by show (0:Int)<=0;omega),dT (by show (0:Int)<=_;omega)];rfl
     · have e1:z6 w b j=(wR w j.2.1).1.2.2.2.2.length+3:=by unfold z6;rw[if_neg hne2,if_neg hne1,if_pos hg]
       rw[e1];show z6 w b (zz j.1 j.2.1 1 (wR w j.2.1).1 b 0 (wv j))+1=_
       rw[Qt rfl];have e2:zx b (zz j.1 j.2.1 1 (wR w j.2.1).1 b 0 (wv j))=1:=by
        unfold zx;rw[if_neg (λhh=>hh.2.1 rfl)]
       rw[e2];show (wR w j.2.1).1.2.2.2.2.length-(0:Int).toNat+1+1+1=_
       simp
     · rw[hgood _ hg];unfold zI;rw[show decide ((zz j.1 j.2.1 1 (wR w j.2.1).1 b 0 (wv j)).2.2.1>0)=true from rfl,Bool.or_true]
 ·
   have hok:=h.ok.resolve_left (by rw[hp];simp);unfold zA;rw[show (j.2.2.1==0)=false by rw[hp];rfl,show (j.2.2.1==2)=false by rw[hp];rfl,cF,cF];have hn:z6 w b j=(jP j).2.2.2.2.length-(zq j).toNat+1+zx b j:=by unfold z6;rw[if_neg (by omega),if_pos hp]
   have ha:zI w j=true:=by unfold zI;rw[dT (show j.2.2.1>0 by omega),Bool.or_true]
   by_cases hlt:zq j<((jP j).2.2.2.2.length:Int)
   · have hw1:vA (zq j+1)=zq j+1:=vW (by omega) (by
      have:=h.pl.1;have:(jP j).2.2.2.2.length<=1048576:=this
      omega)
     rw[dT hlt,cT,hw1];refine⟨rfl,⟨h.byt,h.len,h.ph,?_,h.tr,.inr hok,h.pl,h.bw,h.bl⟩,rfl,?_,?_⟩
     · show vE (zq j+1) 0 ((jP j).2.2.2.2.length:Int)=true;unfold vE;rw[dT (by omega),dT (by omega)];rfl
     · rw[hn];show z6 w b (zz j.1 j.2.1 j.2.2.1 (jP j) (jB j) (zq j+1) (wv j))+1=_
       unfold z6;rw[show (zz j.1 j.2.1 j.2.2.1 (jP j) (jB j) (zq j+1) (wv j)).2.2.1=1 from hp,if_neg (by omega),if_pos rfl];have e2:zx b (zz j.1 j.2.1 j.2.2.1 (jP j) (jB j) (zq j+1) (wv j))=zx b j:=rfl
       rw[e2];show (jP j).2.2.2.2.length-(zq j+1).toNat+1+zx b j+1=_
       omega
     · rw[ha];unfold zI;rw[show decide ((zz j.1 j.2.1 j.2.2.1 (jP j) (jB j) (zq j+1) (wv j)).2.2.1>0)=true from dT (by show j.2.2.1>0;omega),Bool.or_true]
   · rw[dF hlt,cF];refine⟨rfl,⟨h.byt,h.len,rfl,h.at',h.tr,.inr hok,h.pl,h.bw,h.bl⟩,rfl,?_,?_⟩
     · rw[hn];show z6 w b (zz j.1 j.2.1 2 (jP j) (jB j) (zq j) (wv j))+1=_
       rw[Tu rfl];have e2:zx b (zz j.1 j.2.1 2 (jP j) (jB j) (zq j) (wv j))=zx b j:=rfl
       rw[e2];omega
     · rw[ha];unfold zI;rw[show decide ((zz j.1 j.2.1 2 (jP j) (jB j) (zq j) (wv j)).2.2.1>0)=true from rfl,Bool.or_true]
 ·
   obtain⟨hpp,hk,hB⟩:=h.ok.resolve_left (by rw[hp];simp);unfold zA;rw[show (j.2.2.1==0)=false by rw[hp];rfl,show (j.2.2.1==2)=true by rw[hp];rfl,cF,cT];have hn:z6 w b j=zx b j:=by unfold z6;rw[if_pos hp]
   have ha:zI w j=true:=by unfold zI;rw[dT (show j.2.2.1>0 by omega),Bool.or_true]
   cases h163:(j.2.2.2.1 != 163)with
   | true =>
    obtain⟨_,d2,_,d4,_⟩:=GD hB hpp hk;refine⟨hb,?_,(λhf=>by rw[ha]at hf;cases hf),λ_=>⟨_,rfl,by rw[d2];exact d4⟩⟩;rw[hn];unfold zx;rw[if_neg (λhh=>by have e:j.2.2.2.1=163:=hh.1;rw[e]at h163;cases h163)]
   | false =>
    have e163:(jP j).1=163:=by
     have:¬j.2.2.2.1≠163:=by simpa using h163
     exact Classical.not_not.1 this
    cases hv:(b.2.2.2.2.2.2.2.2.2.2==(jB j).2.2.2.2.2.2.2.2.2.2)with
    | true =>
     obtain⟨_,d2,_,d4,_⟩:=GD hb hpp hk;refine⟨Iw hb _,?_,(λhf=>by rw[ha]at hf;cases hf),λ_=>⟨_,rfl,by rw[d2];exact d4⟩⟩;rw[hn];unfold zx;rw[if_neg (λhh=>hh.2.1 (by simpa using hv))]
    | false =>
     by_cases ht:wv j>=3
     · rw[dT ht];refine⟨hb,?_,(λhf=>by rw[ha]at hf;cases hf),λ_=>⟨_,rfl,(Ot _).1⟩⟩;rw[hn];unfold zx;rw[if_neg (λhh=>by have:=hh.2.2;omega)]
     · rw[dF ht,vW (by omega) (by omega)];refine⟨rfl,⟨h.byt,h.len,rfl,?_,?_,.inr ⟨hpp,hk,hb⟩,h.pl,hb.w,hb.le⟩,rfl,?_,?_⟩
       · show vE 0 0 ((jP j).2.2.2.2.length:Int)=true;unfold vE;rw[dT (by omega),dT (by omega)];rfl
       · show vE (wv j+1) 0 3=true;unfold vE;rw[dT (by omega),dT (by omega)];rfl
       · rw[hn];have e1:zx b j=(jP j).2.2.2.2.length+3:=by
          unfold zx;rw[if_pos ⟨e163,by simpa using hv,by omega⟩]
         rw[e1];show z6 w b (zz j.1 j.2.1 1 (jP j) b 0 (wv j+1))+1=_
         rw[Qt rfl];have e2:zx b (zz j.1 j.2.1 1 (jP j) b 0 (wv j+1))=1:=by
          unfold zx;rw[if_neg (λhh=>hh.2.1 rfl)]
         rw[e2];show (jP j).2.2.2.2.length-(0:Int).toNat+1+1+1=_
         simp
       · rw[ha];unfold zI;rw[show decide ((zz j.1 j.2.1 1 (jP j) b 0 (wv j+1)).2.2.1>0)=true from rfl,Bool.or_true]

theorem Ix {a:vO} (h:xk a) {k:Nat} (hk:k<(vC a).length) :
 (∃j',zX a k (vC a)[k]=(xa (aB a) (aW a) ((vC a).set k j') (wS a) (we a),[])/\D7 j'/\j'.1=(vC a)[k].1/\z6 (aW a) (aB a) j'+1=z6 (aW a) (aB a) (vC a)[k]/\zI (aW a) j'=zI (aW a) (vC a)[k]) \/
 (∃b' d,zX a k (vC a)[k]=(xa b' (aW a) ((vC a).eraseIdx k) (wS a) (we a),d)/\wH b'/\z6 (aW a) (aB a) (vC a)[k]=1/\(zI (aW a) (vC a)[k]=false->d=[])/\(zI (aW a) (vC a)[k]=true->∃p,d=[((vC a)[k].1,p)]/\p.1=162)):=by
 have hs:=Rb (aW a) h.b (h.j _ (getElem_mem hk));unfold zX;cases hf:(zA (aW a) (aB a) (vC a)[k]).2 with
 | stay j' =>
  rw[hf]at hs;obtain⟨k1,k2,k3,k4,k5⟩:=hs;exact .inl ⟨j',by simp only[k1],k2,k3,k4,k5⟩
 | gone d =>
  rw[hf]at hs;obtain⟨k1,k2,k3,k4⟩:=hs;exact .inr ⟨_,d,rfl,k1,k2,k3,k4⟩
theorem Rc {a:vO} (h:xk a) {k:Nat} (hk:k<(vC a).length) {j':wM} (hj:D7 j') (hi:j'.1=(vC a)[k].1):xk (xa (aB a) (aW a) ((vC a).set k j') (wS a) (we a)):=by
 have hm:∀x∈(vC a).set k j',x∈vC a\/x=j':=λx hx=>mem_or_eq_of_mem_set hx;have hmap:((vC a).set k j').map (λj=>j.1)=(vC a).map (λj=>j.1):=by
  rw[List.map_set,hi];apply List.ext_getElem
  · simp
  · intro i h1 h2;rw[List.getElem_set];split
    · rename_i e;subst e;simp
    · rfl
 refine⟨h.b,h.w,?_,h.lo,h.la,λj hj'=>?_,?_,λj hj'=>?_⟩
 · show ((vC a).set k j').length<=6;rw[length_set];exact h.n
 · rcases hm j hj' with hj'|rfl
   · exact h.ids j hj'
   · show vE j.1 1 (we a)=true;rw[hi];exact h.ids _ (getElem_mem hk)
 · have:=h.up;show ((vC a).set k j').Pairwise λi j=>i.1<j.1
   rw[←List.pairwise_map (f:=λj:wM=>j.1) (R:=λx y=>x<y)]at this ⊢;rw[hmap];exact this
 · rcases hm j hj' with hj'|rfl
   · exact h.j j hj'
   · exact hj
theorem PK {a:vO} (h:xk a) (k:Nat) {b':vw} (hb:wH b'):xk (xa b' (aW a) ((vC a).eraseIdx k) (wS a) (we a)):=by
 have hs:((vC a).eraseIdx k).Sublist (vC a):=List.eraseIdx_sublist _ _;refine⟨hb,h.w,Nat.le_trans hs.length_le h.n,h.lo,h.la,λj hj=>h.ids j (hs.subset hj),h.up.sublist hs,λj hj=>h.j j (hs.subset hj)⟩
theorem KP {a:vO} (h:xk a) {k:Nat} (hk:k<(vC a).length):xk (zX a k (vC a)[k]).1/\(zX a k (vC a)[k]).2.length<=1:=by
 rcases Ix h hk with ⟨j',e,k1,k2,_⟩|⟨b',d,e,k1,_,k3,k4⟩
 · rw[e];exact⟨Rc h hk k1 k2,by simp⟩
 · rw[e];refine⟨PK h k k1,?_⟩;cases ha:zI (aW a) (vC a)[k]with
   | false=>rw[k3 ha];simp
   | true=>obtain⟨p,rfl,_⟩:=k4 ha;simp
theorem N7 {a:vO} (h:xk a) {k:Nat} (hk:k<(vC a).length):dU a (k:Int)=some (zX a k (vC a)[k]) :=
 Tt h.b.w h.ale hk (h.j _ (getElem_mem hk)).jwf (h.j _ (getElem_mem hk)).byt
theorem Tv {a:vO} (h:xk a) {k:Nat} (hk:k<(vC a).length):eN a (k:Int)=some (zX a k (vC a)[k]):=by
 have hn:=h.n;unfold eN;rw[Ae h.ale,an,CY h.awf,an,h.ok,Bool.not_true,cF];have hw:vA ((a.2.2.2.2.2.2.2.2.2.2.2.2.1.length:Int)-1)=((vC a).length:Int)-1:=vW (by show -9223372036854775808<=((vC a).length:Int)-1;omega) (by show ((vC a).length:Int)-1<=_;omega)
 rw[hw,yB,an,BD (by omega) (by omega),an,Bool.not_true,cF,N7 h hk,an]
theorem S8 {a:vO} (h:xk a) {k:Int} (hk:k<0\/((vC a).length:Int)<=k):eN a k=some (a,[]):=by
 have hn:=h.n;unfold eN;rw[Ae h.ale,an,CY h.awf,an,h.ok,Bool.not_true,cF];have hw:vA ((a.2.2.2.2.2.2.2.2.2.2.2.2.1.length:Int)-1)=((vC a).length:Int)-1:=vW (by show -9223372036854775808<=((vC a).length:Int)-1;omega) (by show ((vC a).length:Int)-1<=_;omega)
 have hp:vE k 0 (((vC a).length:Int)-1)=false:=by
  unfold vE;rcases hk with hk|hk
  · rw[dF (by omega)];rfl
  · rw[dF (show ¬k<=((vC a).length:Int)-1 by omega),Bool.and_false]
 rw[hw,yB,an,hp,an,Bool.not_false,cT]
theorem Tw {n:Int} (hn:-2147483648<=n/\n<=2147483647):∃x0 l,xf n=x0::l/\xL (x0::l)/\l.length<=3/\xx (yP x0) l=n:=by
 unfold xf;by_cases h1:vE n (-128) 127=true
 · rw[if_pos h1];obtain⟨a,b⟩:=wu h1;refine⟨n%256,[],rfl,λx hx=>?_,by simp,?_⟩
   · simp only[mem_singleton]at hx;subst hx;omega
   · show yP (n%256)=n;unfold yP;split<;>omega
 rw[if_neg h1];have h1':=Eu (Bool.eq_false_iff.2 h1)
 by_cases h2:vE n (-32768) 32767=true
 · rw[if_pos h2];obtain⟨a,b⟩:=wu h2;refine⟨n/256%256,[n%256],rfl,λx hx=>?_,by simp,?_⟩
   · simp only[mem_cons,not_mem_nil,or_false]at hx;rcases hx with rfl|rfl<;>omega
   · show yP (n/256%256)*256+n%256=n;unfold yP;split<;>omega
 rw[if_neg h2];by_cases h3:vE n (-8388608) 8388607=true
 · rw[if_pos h3];obtain⟨a,b⟩:=wu h3;refine⟨n/65536%256,[n/256%256,n%256],rfl,λx hx=>?_,by simp,?_⟩
   · simp only[mem_cons,not_mem_nil,or_false]at hx;rcases hx with rfl|rfl|rfl<;>omega
   · show (yP (n/65536%256)*256+n/256%256)*256+n%256=n;unfold yP;split<;>omega
 rw[if_neg h3];refine⟨n/16777216%256,[n/65536%256,n/256%256,n%256],rfl,λx hx=>?_,by simp,?_⟩
 · simp only[mem_cons,not_mem_nil,or_false]at hx;rcases hx with rfl|rfl|rfl|rfl<;>omega
 · show ((yP (n/16777216%256)*256+n/65536%256)*256+n/256%256)*256+n%256=n;unfold yP;split<;>omega
def DV (w:List UInt8):List Int:=wK 2 (xf 1)++wK 4 (yv w)
def GE (w:List UInt8) (p:wd):List Int:=if (AB p).length=0\/20<w.length then []else if (DV w++AB p).length<=250 then wK 48 (DV w++AB p)else []
theorem Re (p:wd):(AB p).length<=260:=by
 unfold AB;split
 · rename_i h;have:=xB p.1 (body:=za p)
   omega
 · simp
theorem M3 {p:wd} (hx:∀x∈p.2.2.2.2,zE x=true) (hn:p.2.2.2.2.length<=10) (hi:vE p.2.1 (-2147483648) 2147483647=true)
 (hk:(cond (p.1==162||p.1==165) (vE p.2.2.1 0 1000&&vE p.2.2.2.1 0 1000) (cond (p.1==160||(p.1==161||p.1==163)) (p.2.2.1==0&&p.2.2.2.1==0) false))=true):xG p=true:=by
 unfold xG;have h1:(List.range p.2.2.2.2.length).any (bX p.2.2.2.2)=false:=by
  rw[List.any_eq_false];intro k hk';have hk':=mem_range.1 hk'
  unfold bX;simp only[List.getElem?_eq_getElem hk',hx _ (getElem_mem hk')];simp
 rw[h1,dT (by omega),hk,hi];rfl

theorem C3 {a b:List Int} (h:xL a) (k:xL b):xL (a++b):=λx hx=>(mem_append.1 hx).elim (h x) (k x)
theorem Ax {t:Int} {body:List Int} (ht:vE t 0 255=true) (hb:xL body) (hn:body.length<=250):xL (wK t body):=by
 obtain⟨t0,t1⟩:=wu ht;intro x hx;unfold wK at hx;rcases mem_cons.1 hx with rfl|hx
 · omega
 · rcases mem_append.1 hx with hx|hx
   · split at hx
     · simp only[mem_cons,not_mem_nil,or_false]at hx;rcases hx with rfl|rfl<;>omega
     · simp only[mem_singleton]at hx;subst hx;omega
   · exact hb x hx
theorem Fc {n:Int} (hn:-2147483648<=n/\n<=2147483647):xL (xf n):=by
 obtain⟨x0,l,e,h,_⟩:=Tw hn;rw[e];exact h
theorem KQ (s:List UInt8):xL (yv s):=by
 intro x hx;unfold yv at hx;obtain⟨b,_,rfl⟩:=mem_map.1 hx;have:=b.toNat_lt
 omega
theorem Rf {v:zj} (hv:zp v=true):xL (yh v):=by
 unfold zp at hv;unfold yh;by_cases h1:(v.1==5||(v.1==128||v.1==130))=true
 · simp only[Bool.or_eq_true,beq_iff_eq]at h1;rcases h1 with h|h|h<;>rw[h]<;>exact BA
 · rw[Bool.eq_false_iff.2 h1,cF]at hv;cases h2:(v.1==2)with
   | true =>
    rw[h2,cT,aT]at hv;rw[cT];exact Fc (wu hv.1)
   | false =>
    rw[h2,cF]at hv;rw[cF];cases h4:(v.1==4)with
    | true=>rw[cT];exact KQ _
    | false =>
     rw[h4,cF]at hv;rw[cF];cases h6:(v.1==6)with
     | true =>
      rw[h6,cT,aT]at hv;rw[cT];exact HX (AA hv.1).2.2
     | false=>rw[cF];exact BA
theorem Rg {x:vB} (hx:zE x=true):xL (Db x):=by
 have hx':=hx;unfold zE at hx';rw[aT]at hx';obtain⟨o1,o2,o3⟩:=AA hx'.1;have hob:=Bl (o:=x.1) λy hy=>(o3 y hy).2
 obtain⟨l1,l2,_,_⟩:=E1 hx'.2;exact C3 (Ax (by decide) (HX o3) (by omega)) (Ax l2 (Rf hx'.2) (by omega))
theorem M4:∀{l:List vB},(∀x∈l,zE x=true)->xL (wI l)
 | [],_=>BA
 | x::l,h=>by
  have hx:=h x (by simp);have hb:=(D1 hx).1
  show xL (B4 x++wI l);exact C3 (Ax (by decide) (Rg hx) (by omega)) (M4 λy hy=>h y (mem_cons_of_mem _ hy))
theorem Rh (p:wd):xL (AB p):=by
 unfold AB;split
 · rename_i h;obtain⟨h1,h2,h3⟩:=h;obtain⟨k1,k2,k3,k4,k5,k6⟩:=yM h1;have i1:=yz p.2.1
   have i2:=yz p.2.2.1;have i3:=yz p.2.2.2.1
   refine Ax k3 ?_ h3;unfold za;exact C3 (C3 (C3 (Ax (by decide) (Fc k4) (by omega)) (Ax (by decide) (Fc ⟨by omega,by omega⟩) (by omega))) (Ax (by decide) (Fc ⟨by omega,by omega⟩) (by omega))) (Ax (by decide) (M4 k1) h2)
 · exact BA
theorem Ri (w:List UInt8) (p:wd):xL (GE w p):=by
 unfold GE;split
 · exact BA
 · rename_i h;simp only[not_or,Nat.not_lt]at h;split
   · rename_i hb;have hwl:(yv w).length=w.length:=by unfold yv;rw[length_map]
     have i1:=yz 1;refine Ax (by decide) (C3 ?_ (Rh p)) hb;unfold DV;exact C3 (Ax (by decide) (Fc ⟨by omega,by omega⟩) (by omega)) (Ax (by decide) (KQ w) (by omega))
   · exact BA
theorem Rj {i:Int} (hi:-2147483648<=i/\i<=2147483647):xm (162,i,7,0,[])=true:=by
 have hp:xG (162,i,7,0,[])=true:=M3 (by intro x hx;cases hx) (Nat.zero_le _) (BD hi.1 hi.2) rfl;have t1:=xB 2 (body:=xf i)
 have t2:=xB 2 (body:=xf 7);have t3:=xB 2 (body:=xf 0)
 have t4:=xB 48 (body:=[]);have i1:=yz i
 have i2:=yz 7;have i3:=yz 0
 have hb:(za (162,i,7,0,[])).length<=30:=by
  unfold za;show (wK 2 (xf i)++wK 2 (xf 7)++wK 2 (xf 0)++wK 48 []).length<=30
  simp only[length_append];simp only[List.length_nil]at t4;omega
 have ht:=xB 162 (body:=za (162,i,7,0,[]));have hpos:=HY 162 (za (162,i,7,0,[]))
 unfold xm AB;rw[if_pos ⟨hp,by show (0:Nat)<=250;omega,by omega⟩];exact BD (by show (1:Int)<=((wK 162 (za (162,i,7,0,[]))).length:Int);omega) (by show ((wK 162 (za (162,i,7,0,[]))).length:Int)<=120;omega)
theorem Ou {b:vw} {p:wd} (hp:xG p=true):xm (zM b p).2=true:=by
 have hi:=(yM hp).2.2.2.1;unfold zM;cases hf:xm (AZ b p).2 with
 | true=>exact hf
 | false =>
  rw[cF];unfold Cq;split
  · rename_i t ht;cases h5:(p.1==165)with
    | false=>rw[h5]at ht;cases ht
    | true =>
     rw[h5]at ht;exact (Lx ht).1
  · exact Rj hi
theorem N8 {l:List vB} (h:D9 M l):gB l l=some true:=by
 have hM:M<9223372036854775807:=by decide
 have hn:l.length<=1048576:=h.1;unfold gB;rw[bne_self_eq_false,cF];have:loop (λz=>dV l l z) 0=some (.inl ()):=Bi (n:=l.length) (λk hk=>by
  obtain⟨h1,_,h3⟩:=h.2 _ (getElem_mem hk);show dV l l (k:Int)=_
  unfold dV;simp only[wm (show (k:Int)<(l.length:Int) by omega),cT,vL hk,an];rw[Cn (by omega),SP (by omega)];simp only[an,beq_self_eq_true,Bool.not_true,cF];rw[vK (by omega)]) (by
  show dV l l (l.length:Int)=_;unfold dV;rw[wg (by omega),cF])
 rw[this];rfl
theorem KS {p:wd} (h:yj M p):dW p p=some true:=by
 unfold dW;simp only[beq_self_eq_true,cT,an,N8 h]
def PL (id:Int) (m:List Int):wM:=(id,m,0,0,0,0,0,[],0,[],[],[],[],[],0,0,0,0,0,0,0)
theorem PM (id:Int) {m:List Int} (hb:xL m) (hn:m.length<=M):D7 (PL id m):=by
 have h0:(0:Nat)<=M:=by decide
 refine⟨hb,hn,rfl,rfl,rfl,.inl rfl,⟨h0,λx hx=>by cases hx⟩,⟨by show 0<9223372036854775807;decide,by show 0<9223372036854775807;decide,by show 0<9223372036854775807;decide,by show 0<9223372036854775807;decide,λr hr=>by cases hr⟩,⟨h0,h0,h0,h0,h0⟩⟩
theorem Rk {b:vw} (h:wH b) {w:List UInt8} (hw:w.length<=20):xk (xa b w [] 0 0) :=
 ⟨h,hw,(by show 0<=6;omega),rfl,rfl,(λj hj=>by cases hj),List.Pairwise.nil,(λj hj=>by cases hj)⟩
theorem Rl {a:vO} (h:xk a) {m:List Int} (hn:m.length<=M) (h6:(vC a).length<6) (hl:we a<1000000):bA a m=some (xa (aB a) (aW a) (vC a++[PL (we a+1) m]) (wS a) (we a+1)):=by
 have hla:=wu h.la;have e1:decide ((a.2.2.2.2.2.2.2.2.2.2.2.2.1.length:Int)>=6)=false:=dF (by show ¬((vC a).length:Int)>=6;omega)
 have e2:decide (a.2.2.2.2.2.2.2.2.2.2.2.2.2.2>=1000000)=false:=dF (by show ¬we a>=1000000;omega);have e3:vA (a.2.2.2.2.2.2.2.2.2.2.2.2.2.2+1)=we a+1:=vW (by show -9223372036854775808<=we a+1;omega) (by show we a+1<=_;omega)
 unfold bA;rw[Ae h.ale,an,CY h.awf,an,h.ok,Bool.not_true,cF,e1,cF,e2,an,cF,Bh hn,an,e3];rw[vF (by show (vC a).length+1<=_;omega),an];rfl
theorem Rm {a:vO} (h:xk a) {m:List Int} (hf:¬((vC a).length<6/\we a<1000000)):bA a m=some (xa (aB a) (aW a) (vC a) (Ao (wS a)) (we a)):=by
 unfold bA;rw[Ae h.ale,an,CY h.awf,an,h.ok,Bool.not_true,cF];have key:(cond (decide ((a.2.2.2.2.2.2.2.2.2.2.2.2.1.length:Int)>=6)) (some true) (some (decide (a.2.2.2.2.2.2.2.2.2.2.2.2.2.2>=1000000))))=some true:=by
  by_cases h6:(vC a).length<6
  · have h7:¬we a<1000000:=λh7=>hf ⟨h6,h7⟩;rw[dF (by show ¬((vC a).length:Int)>=6;omega),cF,dT (by show we a>=1000000;omega)]
  · rw[dT (by show ((vC a).length:Int)>=6;omega),cT]
 rw[key,an,cT,CO,an];rfl
theorem N9 {a:vO} (h:xk a) {m:List Int} (hb:xL m) (hn:m.length<=M) (h6:(vC a).length<6) (hl:we a<1000000):xk (xa (aB a) (aW a) (vC a++[PL (we a+1) m]) (wS a) (we a+1)):=by
 have hla:=wu h.la;refine⟨h.b,h.w,?_,h.lo,?_,λj hj=>?_,?_,λj hj=>?_⟩
 · show (vC a++[_]).length<=6;rw[length_append];show (vC a).length+1<=6;omega
 · exact BD (by show 0<=we a+1;omega) (by show we a+1<=1000000;omega)
 · rcases mem_append.1 hj with hj|hj
   · obtain⟨k1,k2⟩:=wu (h.ids j hj);exact BD k1 (by show j.1<=we a+1;omega)
   · rw[mem_singleton]at hj;subst hj;exact BD (by show 1<=we a+1;omega) (by show we a+1<=we a+1;omega)
 · show (vC a++[_]).Pairwise λi j:wM=>i.1<j.1;refine pairwise_append.2 ⟨h.up,List.pairwise_singleton _ _,λx hx y hy=>?_⟩;rw[mem_singleton]at hy;subst hy;have:=(wu (h.ids x hx)).2
   show x.1<we a+1;omega
 · rcases mem_append.1 hj with hj|hj
   · exact h.j j hj
   · rw[mem_singleton]at hj;subst hj;exact PM _ hb hn
theorem PN {a:vO} (h:xk a):xk (xa (aB a) (aW a) (vC a) (Ao (wS a)) (we a)):=⟨h.b,h.w,h.n,Dz h.lo,h.la,h.ids,h.up,h.j⟩
structure DW (p:wd):Prop where
 k:p.1=160\/p.1=161\/p.1=163\/p.1=165
 i:0<=p.2.1/\p.2.1<100
 ab:(p.1=165/\(0<=p.2.2.1/\p.2.2.1<=1000)/\(0<=p.2.2.2.1/\p.2.2.2.1<=1000))\/(p.1≠165/\p.2.2.1=0/\p.2.2.2.1=0)
 n:p.2.2.2.2.length<=3
 s:∀x∈p.2.2.2.2,Bj x
 o:p.1≠163->∀x∈p.2.2.2.2,zE x=true
theorem DW.le {p:wd} (h:DW p):yj M p:=⟨by have:=h.n;show _<=1048576;omega,λx hx=>(h.s x hx).le⟩
theorem DW.ok {p:wd} (h:DW p) (hk:p.1≠163):xG p=true:=by
 have hi:=h.i;refine M3 (h.o hk) (by have:=h.n;omega) (BD (by omega) (by omega)) ?_;rcases h.ab with ⟨e,⟨a1,a2⟩,b1,b2⟩|⟨e,a1,b1⟩
 · rw[e,BD a1 a2,BD b1 b2];rfl
 · rw[a1,b1];rcases h.k with k|k|k|k
   · rw[k];rfl
   · rw[k];rfl
   · exact absurd k hk
   · exact absurd k e
theorem Na {c:vM} (h:CW c) {b:vw} (hb:yb b) (hn:∀c,CW c->Dr Nm (aq c b)):Dr DW (bS c b):=by
 unfold bS;refine Dr.bind (Bz h (by decide)) λc x hc hx=>?_;refine Dr.bind (xl hc 100) λc i hc hi=>?_;have hi2:=hi.2 (by omega)
 have hx:x=160\/x=161\/x=163\/x=165:=by
  simp only[mem_cons,not_mem_nil,or_false]at hx;rcases hx with h|h|h|h|h
  · exact .inl h
  · exact .inr (.inl h)
  · exact .inr (.inr (.inl h))
  · exact .inr (.inr (.inl h))
  · exact .inr (.inr (.inr h))
 cases h3:(x==163)with
 | true =>
  have h3:x=163:=by simpa using h3
  subst h3;show Dr DW ((fB c b).bind λt18=>some (t18.1,((163:Int),i,0,0,t18.2)))
  refine Dr.bind (RN hc hb hn) λc l hc hl=>?_;exact Dr.some hc ⟨.inr (.inr (.inl rfl)),⟨hi.1,hi2⟩,.inr ⟨by show (163:Int)≠165;omega,rfl,rfl⟩,hl.1,hl.2,λhk=>absurd rfl hk⟩
 | false =>
  have h3:x≠163:=by simpa using h3
  obtain⟨c1,k,e1,w1,hk⟩:=xK hc (n:=4) (by decide);have e1':aa c 4=some (c1,(k:Int)):=e1
  rw[cF];show Dr DW ((aa c 4).bind _)
  rw[e1',an];obtain⟨d,d1,d2,d3,d4,d5⟩:=vR (step:=λz:Int×List Int×Int×Int×Int×Int×Int×Int×List vB=>da b z.1 z.2.1 z.2.2.1 z.2.2.2.1 z.2.2.2.2.1 z.2.2.2.2.2.1 z.2.2.2.2.2.2.1 z.2.2.2.2.2.2.2.1 z.2.2.2.2.2.2.2.2)
   (λj z=>z.1=((k-j:Nat):Int)/\CW (z.2.1,z.2.2.1,z.2.2.2.1)/\(z.2.2.2.2.1=x/\z.2.2.2.2.2.1=i/\z.2.2.2.2.2.2.1=0/\z.2.2.2.2.2.2.2.1=0)/\z.2.2.2.2.2.2.2.2.length=j/\∀y∈z.2.2.2.2.2.2.2.2,Bj y/\zE y=true) k
   (λd=>CW (d.1,d.2.1,d.2.2.1)/\(d.2.2.2.1=x/\d.2.2.2.2.1=i/\d.2.2.2.2.2.1=0/\d.2.2.2.2.2.2.1=0)/\d.2.2.2.2.2.2.2.length=k/\∀y∈d.2.2.2.2.2.2.2,Bj y/\zE y=true)
   (λj z hj ⟨z1,z2,z3,z4,z5⟩=>by
    obtain⟨q,c0,c1,c2,r0,r1,r2,r3,out⟩:=z;simp only at z1 z2 z3 z4 z5;subst z1 z4;left;obtain⟨c',o,x1,x2,x3⟩:=hn _ z2;refine⟨_,by
     show da b _ _ _ _ _ _ _ _ _=_;unfold da;rw[dT (show ((k-out.length:Nat):Int)>0 by omega),cT,x1,an,vF (by show _+1<=_;omega),an],?_,x2,z3,by simp,?_⟩
    · show vA (((k-out.length:Nat):Int)-1)=_;rw[vW (by omega) (by omega)];omega
    · intro y hy;rcases mem_append.1 hy with hy|hy
      · exact z5 y hy
      · rw[mem_singleton]at hy;subst hy;have:=x3.n10
        refine⟨⟨by show o.length<=1000;omega,by show (0:Nat)<=100;omega,by show (0:Nat)<=1000;omega,Qj 5⟩,?_⟩;unfold zE;rw[Mt x3];rfl)
   (λz ⟨z1,z2,z3,z4,z5⟩=>by
    obtain⟨q,c0,c1,c2,r0,r1,r2,r3,out⟩:=z;simp only at z1 z2 z3 z4 z5;rw[Nat.sub_self]at z1;subst z1;refine⟨(c0,c1,c2,r0,r1,r2,r3,out),?_,z2,z3,z4,z5⟩;show da b _ _ _ _ _ _ _ _ _=_
    unfold da;rw[dF (show ¬((0:Nat):Int)>0 by decide),cF]) (x:=((k:Int),c1.1,c1.2.1,c1.2.2,x,i,0,0,[])) ⟨rfl,w1,⟨rfl,rfl,rfl,rfl⟩,rfl,by simp⟩
  show Dr DW ((loop (λz:Int×List Int×Int×Int×Int×Int×Int×Int×List vB=>da b z.1 z.2.1 z.2.2.1 z.2.2.2.1 z.2.2.2.2.1 z.2.2.2.2.2.1 z.2.2.2.2.2.2.1 z.2.2.2.2.2.2.2.1 z.2.2.2.2.2.2.2.2) ((k:Int),c1.1,c1.2.1,c1.2.2,x,i,0,0,[])).bind _);rw[d1,an];obtain⟨q0,q1,q2,r0,r1,r2,r3,l⟩:=d;simp only at d2 d3 d4 d5 ⊢;obtain⟨rfl,rfl,rfl,rfl⟩:=d3;cases h5:(r0==165)with
  | true =>
   have h5:r0=165:=by simpa using h5
   rw[cT];refine Dr.bind (xl d2 3) λc s hc hs=>?_;refine Dr.bind (xl hc 5) λc t hc ht=>?_;have hs2:=hs.2 (by omega)
   have ht2:=ht.2 (by omega);exact Dr.some hc ⟨hx,⟨hi.1,hi2⟩,.inl ⟨h5,⟨hs.1,by show s<=1000;omega⟩,ht.1,by show t<=1000;omega⟩,by show l.length<=3;omega,λy hy=>(d5 y hy).1,λ_ y hy=>(d5 y hy).2⟩
  | false =>
   have h5:r0≠165:=by simpa using h5
   rw[cF];exact Dr.some d2 ⟨hx,⟨hi.1,hi2⟩,.inr ⟨h5,rfl,rfl⟩,by show l.length<=3;omega,λy hy=>(d5 y hy).1,λ_ y hy=>(d5 y hy).2⟩
def xV (e:vD):Option vD:=cond e.2.2.2.2 (some e) (cond (decide (e.2.2.2.1>=4)) none (some (e.1,e.2.1,e.2.2.1,vA (e.2.2.2.1+1),e.2.2.2.2)))
theorem UF {l:List vD} (hn:l.length<=1000):gy l=some (l.filterMap xV):=by
 unfold gy;obtain⟨v,e1,rfl⟩:=vR (step:=λz:Int×List vD=>cK l z.1 z.2) (λk z=>z=((k:Int),(l.take k).filterMap xV)) l.length (λv=>v=l.filterMap xV)
  (λk z hk e=>by
   subst e;refine .inl ⟨_,?_,rfl⟩;have hfl:((l.take k).filterMap xV).length<=k:=Nat.le_trans (List.length_filterMap_le _ _) (by rw[length_take];omega)
   have t1:l.take (k+1)=l.take k++[l[k]]:=by rw[take_add_one,List.getElem?_eq_getElem hk];rfl
   have t2:(l.take (k+1)).filterMap xV=(l.take k).filterMap xV++(match xV l[k]with|some y=>[y]|none=>[]):=by
    rw[t1,List.filterMap_append]
    congr 1
    cases hq:xV l[k]with
    | none=>rw[List.filterMap_cons_none hq];rfl
    | some y=>rw[List.filterMap_cons_some hq];rfl
   have ha:∀y:vD,vS ((l.take k).filterMap xV) [y]=some ((l.take k).filterMap xV++[y]):=λy=>vF (by show _+1<=_;omega);show cK l (k:Int) _=_
   unfold cK;rw[wm (by omega),cT,vL hk,an,vK (by omega),t2];cases hs:l[k].2.2.2.2 with
   | true =>
    have hq:xV l[k]=some l[k]:=by unfold xV;rw[hs];rfl
    rw[hq];simp only[Bool.not_true,cF,cT,ha,an]
   | false =>
    simp only[Bool.not_false,cT,cF];cases h4:decide (l[k].2.2.2.1>=4)with
    | true =>
     have hq:xV l[k]=none:=by unfold xV;rw[hs,h4];rfl
     rw[hq];simp only[cT,append_nil]
    | false =>
     have hq:xV l[k]=some (l[k].1,l[k].2.1,l[k].2.2.1,vA (l[k].2.2.2.1+1),false):=by unfold xV;rw[hs,h4];rfl
     rw[hq];simp only[cF,ha,an])
  (λz e=>by
   subst e;refine⟨_,?_,rfl⟩;show cK l (l.length:Int) _=_
   unfold cK;rw[wg (by omega),cF,take_length]) (x:=(0,[])) rfl
 have e1:loop (λz=>cK l z.1 z.2) (0,[])=some (l.filterMap xV):=e1;rw[e1,an]
theorem HF {e y:vD} (h:yn e=true) (hy:xV e=some y):yn y=true/\y.1=e.1/\y.2.1=e.2.1:=by
 unfold xV at hy;cases hs:e.2.2.2.2 with
 | true=>rw[hs,cT]at hy;cases hy;exact⟨h,rfl,rfl⟩
 | false =>
  rw[hs,cF]at hy;by_cases h4:e.2.2.2.1>=4
  · rw[dT h4,cT]at hy;cases hy
  · rw[dF h4,cF]at hy;cases hy;unfold yn at h ⊢;simp only[aT]at h;obtain⟨f1,f2,f3,f4,f5⟩:=h;obtain⟨g1,g2⟩:=wu f4;refine⟨?_,rfl,rfl⟩;show (vE e.1 1 99&&(vE e.2.1 1 9999&&(vE e.2.2.1 0 7&&(vE (vA (e.2.2.2.1+1)) 0 4&&(!false||_)))))=true
    rw[f1,f2,f3,vW (by omega) (by omega),BD (by omega) (by omega)];rfl
theorem S9 {l:List vD} (h:FB l):FB (l.filterMap xV):=by
 refine⟨λx hx=>?_,?_,Nat.le_trans (List.length_filterMap_le _ _) h.n⟩
 · obtain⟨e,he,hy⟩:=List.mem_filterMap.1 hx;exact (HF (h.e e he) hy).1
 · refine List.pairwise_filterMap.2 ?_;refine List.Pairwise.imp_of_mem ?_ h.o;intro a b ha hb hab x hx y hy;obtain⟨_,a1,a2⟩:=HF (h.e a ha) hx;obtain⟨_,b1,b2⟩:=HF (h.e b hb) hy;unfold lt at hab ⊢;rw[a1,a2,b1,b2];exact hab
def JZ (b:vw):vw:=(b.1,b.2.1,b.2.2.1,b.2.2.2.1.filterMap xV,b.2.2.2.2.1,b.2.2.2.2.2.1,Ao b.2.2.2.2.2.2.1,b.2.2.2.2.2.2.2.1,b.2.2.2.2.2.2.2.2.1,b.2.2.2.2.2.2.2.2.2.1,b.2.2.2.2.2.2.2.2.2.2)
noncomputable def Am (b:vw):vw:=(aI b).getD b
noncomputable def CL (b:vw):vw:=Am (JZ b)
theorem Nb {b:vw} (h:zF b) (hv:yK (b.2.2.2.2.1,b.2.2.2.2.2.1) (b.2.2.1.length:Int)=true):aI b=some (Am b)/\wH (Am b)/\(Am b).1=b.1/\(Am b).2.1=b.2.1/\(Am b).2.2.1=b.2.2.1/\(Am b).2.2.2.2.2.2.1=b.2.2.2.2.2.2.1/\(Am b).2.2.2.2.2.2.2.1=b.2.2.2.2.2.2.2.1/\(Am b).2.2.2.2.2.2.2.2.1=b.2.2.2.2.2.2.2.2.1/\(Am b).2.2.2.2.2.2.2.2.2.1=b.2.2.2.2.2.2.2.2.2.1/\(Am b).2.2.2.2.2.2.2.2.2.2=Ao b.2.2.2.2.2.2.2.2.2.2:=by
 obtain⟨r,r1,r2,r3,r4,r5,r6,q1,q2,q3,q4,q5,q6,q7⟩:=QJ h;have e:Am b=r:=by unfold Am;rw[r1];rfl
 rw[e];have hok:wq r=true:=r3.ok (by rw[r4,r5,r6];exact hv)
 refine⟨r1,BK (Iv r3 r3.le) hok,q1,q2,r4,q3,q4,q5,q6,?_⟩;rw[CO]at q7;exact (Option.some.inj q7).symm
theorem KT {b:vw} (h:wH b):zF (JZ b):=by
 have s:=h.sok;refine⟨s.id,s.name,s.n1,s.n6,s.p,(S9 (Hc s.f)).ok,?_,s.q,s.v,s.s,s.i,s.h⟩;obtain⟨h1,h2,h3,h4,h5⟩:=zo (AF h.ok).1;unfold ya;simp only[aT];exact⟨Dz h1,h2,h3,h4,h5⟩
theorem Nd {b:vw} (h:wH b):ck b=some (CL b)/\wH (CL b)/\(CL b).2.1=b.2.1/\(CL b).2.2.2.2.2.2.2.1=b.2.2.2.2.2.2.2.1/\(CL b).2.2.2.2.2.2.2.2.1=b.2.2.2.2.2.2.2.2.1/\(CL b).2.2.2.2.2.2.2.2.2.2=Ao b.2.2.2.2.2.2.2.2.2.2:=by
 obtain⟨t1,t2,t3,t4,t5,t6,t7,t8,t9,t10⟩:=Nb (KT h) h.v;have hf:=Hc h.f
 unfold ck;rw[x7 h.le,an,Az h.w,an,h.ok,cT,CO,an,UF (by have:=hf.n;omega),an];have t1':aI (b.1,b.2.1,b.2.2.1,b.2.2.2.1.filterMap xV,b.2.2.2.2.1,b.2.2.2.2.2.1,Ao b.2.2.2.2.2.2.1,b.2.2.2.2.2.2.2.1,b.2.2.2.2.2.2.2.2.1,b.2.2.2.2.2.2.2.2.2.1,b.2.2.2.2.2.2.2.2.2.2)=some (Am (JZ b)):=t1
 rw[t1',an];exact⟨rfl,t2,t4,t7,t8,t10⟩

theorem wa {α β:Type} {o:Option α} {a:α} {k:α->Option β} {r:Option β} (h:o=some a) (hk:k a=r):o.bind k=r:=by rw[h];exact hk
theorem DA {b:vw} (h:wH b) (p:Int):bM b p=some (vE p 0 ((b.2.2.1.length:Int)-1)):=by
 have hn:=h.n6;unfold bM;rw[Az h.w,an,h.ok,cT,vW (by omega) (by omega),yB];rfl
theorem FK {b:vw} (s:zF b) {P:List Pt} (hl:P.length=b.2.2.1.length) (hp:∀x∈P,zQ x=true):zF (b.1,b.2.1,P,b.2.2.2.1,b.2.2.2.2.1,b.2.2.2.2.2.1,b.2.2.2.2.2.2.1,b.2.2.2.2.2.2.2.1,b.2.2.2.2.2.2.2.2.1,b.2.2.2.2.2.2.2.2.2.1,b.2.2.2.2.2.2.2.2.2.2) :=
 ⟨s.id,s.name,by show 1<=P.length;rw[hl];exact s.n1,by show P.length<=6;rw[hl];exact s.n6,hp,s.f,s.c,by show b.2.2.2.2.2.1.length=P.length;rw[hl];exact s.q,s.v,s.s,s.i,s.h⟩
theorem Do {P:List Pt} {k:Nat} {q:Pt} (h:∀x∈P,zQ x=true) (hq:zQ q=true):∀x∈P.set k q,zQ x=true:=λx hx=>by
 rcases mem_or_eq_of_mem_set hx with hx|rfl
 · exact h x hx
 · exact hq
theorem Tx {b:vw} (h:wH b) (p:Int) (up:Bool):∃r,cj b p up=some r/\wH r:=by
 have hn:=h.n6;have s:=h.sok
 unfold cj;rw[x7 h.le,an,DA h,an];cases hp:vE p 0 ((b.2.2.1.length:Int)-1)with
 | false=>exact⟨b,rfl,h⟩
 | true =>
  obtain⟨p0,p1⟩:=wu hp;obtain⟨k,rfl⟩:∃k:Nat,p=(k:Int):=⟨p.toNat,by omega⟩;have hk:k<b.2.2.1.length:=by omega
  have hq:zQ (up,b.2.2.1[k].2.1,false,0,0,0,0,0)=true:=by
   have:=h.p _ (getElem_mem hk);unfold zQ at this ⊢;simp only[aT]at this;rw[this.1];rfl
  have s':=FK s (P:=b.2.2.1.set k (up,b.2.2.1[k].2.1,false,0,0,0,0,0)) (by rw[length_set]) (Do h.p hq);obtain⟨t1,t2,_⟩:=Nb s' (by show yK (b.2.2.2.2.1,b.2.2.2.2.2.1) ((b.2.2.1.set k _).length:Int)=true;rw[length_set];exact h.v);rw[cT,vL hk,an,xJ hk,an,List.getElem?_eq_getElem hk,an];exact⟨_,wa t1 rfl,t2⟩
theorem Ty {b:vw} (h:wH b) (p:Int) (v:AO):∃r,cm b p v=some r/\wH r:=by
 have hn:=h.n6;have s:=h.sok
 unfold cm;rw[x7 h.le,an,DA h,an];cases hp:vE p 0 ((b.2.2.1.length:Int)-1)with
 | false=>exact⟨b,rfl,h⟩
 | true =>
  obtain⟨p0,p1⟩:=wu hp;obtain⟨k,rfl⟩:∃k:Nat,p=(k:Int):=⟨p.toNat,by omega⟩;have hk:k<b.2.2.1.length:=by omega
  rw[cT,vL hk,an,an];cases hu:b.2.2.1[k].1 with
  | false=>exact⟨b,rfl,h⟩
  | true =>
   rw[cT,Ld,an,an];cases hv:Da v with
   | false=>exact⟨b,rfl,h⟩
   | true =>
    have hq:zQ (b.2.2.1[k].1,b.2.2.1[k].2.1,true,v.1,v.2.1,v.2.2.1,v.2.2.2.1,v.2.2.2.2)=true:=by
     have:=h.p _ (getElem_mem hk);unfold zQ at this ⊢;simp only[aT]at this;rw[this.1,hu];have hv':Da (v.1,v.2.1,v.2.2.1,v.2.2.2.1,v.2.2.2.2)=true:=hv
     simp[hv']
    have s':=FK s (P:=b.2.2.1.set k (b.2.2.1[k].1,b.2.2.1[k].2.1,true,v.1,v.2.1,v.2.2.1,v.2.2.2.1,v.2.2.2.2)) (by rw[length_set]) (Do h.p hq);obtain⟨t1,t2,_⟩:=Nb s' (by show yK (b.2.2.2.2.1,b.2.2.2.2.2.1) ((b.2.2.1.set k _).length:Int)=true;rw[length_set];exact h.v);rw[cT,xJ hk,an,List.getElem?_eq_getElem hk,an,length_set,xJ hk,an,List.getElem?_set_self hk,an,set_set];exact⟨_,wa t1 rfl,t2⟩

theorem GF {x:vD} {t m:Int} (h:xQ x t m=true):t<x.1\/(t=x.1/\m<x.2.1):=by
 unfold xQ at h;simp only[Bool.or_eq_true,aT,decide_eq_true_eq,beq_iff_eq]at h;rcases h with h|⟨h1,h2⟩
 · exact .inl h
 · exact .inr ⟨h1.symm,h2⟩
theorem Iy {x:vD} {t m:Int} (h:xQ x t m=false) (hs:¬(x.1=t/\x.2.1=m)):x.1<t\/(x.1=t/\x.2.1<m):=by
 have h':¬(x.1>t\/(x.1=t/\x.2.1>m)):=by
  intro hc;have:xQ x t m=true:=by
   unfold xQ;simp only[Bool.or_eq_true,aT,decide_eq_true_eq,beq_iff_eq];exact hc
  rw[this]at h;cases h
 by_cases h1:x.1<t
 · exact .inl h1
 · have e:x.1=t:=by
    have:¬x.1>t:=λhc=>h' (.inl hc);omega
   refine .inr ⟨e,?_⟩;have:¬x.2.1>m:=λhc=>h' (.inr ⟨e,hc⟩)
   have:x.2.1≠m:=λhc=>hs ⟨e,hc⟩;omega
theorem Rn {a b c:vD} (h:lt a b) (k:lt b c):lt a c:=by
 unfold lt at *;omega
theorem AU (l:List vD) (t m:Int):(Du l t m = -1/\∀x∈l,¬(x.1=t/\x.2.1=m))\/∃k,∃hk:k<l.length,Du l t m=(k:Int)/\l[k].1=t/\l[k].2.1=m:=by
 unfold Du;cases h:l.findIdx? (λe=>e.1==t&&e.2.1==m)with
 | none =>
  refine .inl ⟨rfl,λx hx hc=>?_⟩;have:=List.findIdx?_eq_none_iff.1 h x hx
  rw[hc.1,hc.2]at this;simp at this
 | some k =>
  obtain⟨hk,h1,_⟩:=List.findIdx?_eq_some_iff_getElem.1 h;simp only[aT,beq_iff_eq]at h1;exact .inr ⟨k,hk,rfl,h1.1,h1.2⟩
theorem UG {l:List vD} (h:FB l) {e:vD} (he:yn e=true):∃y,dQ l e=some y/\FB y.1:=by
 have hn:=h.n;have hM:M=1048576:=rfl
 unfold dQ;rw[CA (by omega),an,DZ (by omega),an];rcases AU l e.1 e.2.1 with ⟨h1,h2⟩|⟨k,hk,h1,h2,h3⟩
 · rw[h1,dF (by decide),cF];by_cases h12:(l.length:Int)>=12
   · rw[dT h12,cT];exact⟨_,rfl,h⟩
   · rw[dF h12,cF];obtain⟨d,d1,k,d2,d3,d4,d5⟩:=vR (step:=λz:Int=>bv l e z) (λk z=>z=(k:Int)/\∀x∈l.take k,xQ x e.1 e.2.1=false) l.length (λd=>∃k:Nat,d=(k:Int)/\k<=l.length/\(∀x∈l.take k,xQ x e.1 e.2.1=false)/\∀hk:k<l.length,xQ l[k] e.1 e.2.1=true)
      (λk z hk ⟨e1,e2⟩=>by
       subst e1;have hst:∀q,xQ l[k] e.1 e.2.1=q->bv l e (k:Int)=cond (!q) (some (.inl ((k+1:Nat):Int))) (some (.inr (k:Int))):=λq hq=>by
        unfold bv;rw[wm (by omega),cT,vL hk,an,J6,an,an,hq,vK (by omega)]
       cases hq:xQ l[k] e.1 e.2.1 with
       | true=>exact .inr ⟨_,hst true hq,k,rfl,by omega,e2,λ_=>hq⟩
       | false =>
        refine .inl ⟨_,hst false hq,rfl,λx hx=>?_⟩;rw[take_add_one,List.getElem?_eq_getElem hk]at hx;rcases mem_append.1 hx with hx|hx
        · exact e2 x hx
        · simp at hx;rw[hx];exact hq)
      (λz ⟨e1,e2⟩=>by
       subst e1;refine⟨_,?_,l.length,rfl,Nat.le_refl _,e2,λhk=>absurd hk (by omega)⟩;show bv l e (l.length:Int)=_
       unfold bv;rw[wg (by omega),cF,an,cF]) (x:=0) ⟨rfl,by simp⟩
     subst d2;have c1:cut l 0 (k:Int)=some (l.take k):=by
      have:=yw (l:=l) (a:=0) (b:=k) (by omega) d3;simpa using this
     have c2:cut l (k:Int) (l.length:Int)=some (l.drop k):=by
      have:=yw (l:=l) (a:=k) (b:=l.length) d3 (Nat.le_refl _);rw[take_length]at this;exact this
     have hl1:(l.take k).length<=12:=by rw[length_take];omega
     have hl2:(l.drop k).length<=12:=by rw[length_drop];omega
     refine⟨_,wa d1 (by rw[c1,an,CA (by omega),an,vF (by show (l.take k).length+1<=_;omega),an,c2,an,vF (by rw[length_append];show (l.take k).length+1+(l.drop k).length<=_;omega),an]),?_⟩;refine⟨λx hx=>?_,?_,?_⟩
     · rcases mem_append.1 hx with hx|hx
       · rcases mem_append.1 hx with hx|hx
         · exact h.e x (mem_of_mem_take hx)
         · rw[mem_singleton.1 hx];exact he
       · exact h.e x (List.mem_of_mem_drop hx)
     · have ho:=h.o;rw[←List.take_append_drop k l]at ho;obtain⟨o1,o2,o3⟩:=pairwise_append.1 ho;have a1:∀x∈l.take k,lt x e:=λx hx=>Iy (d4 x hx) (h2 x (mem_of_mem_take hx))
       have a2:∀y∈l.drop k,lt e y:=λy hy=>by
        obtain⟨j,hj,rfl⟩:=List.getElem_of_mem hy;rw[length_drop]at hj;have hk:k<l.length:=by omega
        have hb:lt e l[k]:=GF (d5 hk);rw[List.getElem_drop];rcases Nat.eq_zero_or_pos j with rfl|hj0
        · simpa using hb
        · exact Rn hb (pairwise_iff_getElem.1 h.o k (k+j) hk (by omega) (by omega))
       refine pairwise_append.2 ⟨pairwise_append.2 ⟨o1,List.pairwise_singleton _ _,λx hx y hy=>by rw[mem_singleton.1 hy];exact a1 x hx⟩,o2,λx hx y hy=>?_⟩;rcases mem_append.1 hx with hx|hx
       · exact o3 x hx y hy
       · rw[mem_singleton.1 hx];exact a2 y hy
     · simp only[length_append,length_take,length_drop,length_singleton];omega
 · rw[h1,dT (by omega),cT,xJ hk,an,List.getElem?_eq_getElem hk,an];refine⟨_,rfl,λx hx=>?_,?_,by show (l.set k e).length<=12;rw[length_set];exact hn⟩
   · rcases mem_or_eq_of_mem_set hx with hx|rfl
     · exact h.e x hx
     · exact he
   · have ho:=pairwise_iff_getElem.1 h.o;refine pairwise_iff_getElem.2 λi j hi hj hij=>?_;rw[length_set]at hi hj;have:=ho i j hi hj hij
     simp only[List.getElem_set];unfold lt at this ⊢;split<;>split<;>rename_i q1 q2<;>(try subst q1)<;>(try subst q2)<;>omega
theorem Ov {l:List vD} (h:FB l) (tag mac port:Int):∃y,fm l tag mac port=some y/\FB y:=by
 have hn:=h.n;have hM:M=1048576:=rfl
 unfold fm;rw[DZ (by omega),an,PX (by omega),an,h.ok,Bool.not_true,cF,IE,an,an];have hc:∃y,((cz l).bind λt41=>some t41)=some y/\FB y:=⟨l,by rw[CA (by omega)];rfl,h⟩
 cases he:yn (tag,mac,port,0,false)with
 | false=>exact hc
 | true =>
  have hp:∃y,((dQ l (tag,mac,port,0,false)).bind λt45=>some t45.1)=some y/\FB y:=by
   obtain⟨y,y1,y2⟩:=UG h he;exact⟨y.1,by rw[y1];rfl,y2⟩
  rw[Bool.not_true,cF];rcases AU l tag mac with ⟨h1,_⟩|⟨k,hk,h1,_⟩
  · rw[h1,dF (by decide),cF,an,an,cF];exact hp
  · rw[h1,dT (by omega),cT,vL hk,an,an,an];cases l[k].2.2.2.2 with
    | true=>exact hc
    | false=>exact hp

def Fe (f:ym):Bool:=vE f.1 0 9999&&(vE f.2.1 1 9999&&(vE f.2.2.1 0 99&&decide ((f.2.2.2.length:Int)<=20)))
theorem Ow (f:ym):gx f=some (Fe f):=by
 unfold gx Fe;simp only[yB,an];cases vE f.1 0 9999<;>cases vE f.2.1 1 9999<;>cases vE f.2.2.1 0 99<;>rfl
theorem HG (l:List vP) (id:Int):(xT l id<0)\/∃k,∃hk:k<l.length,xT l id=(k:Int):=by
 by_cases h:xT l id<0
 · exact .inl h
 · obtain⟨k,hk,e,_⟩:=Cp (l:=l) (id:=id) (by omega);exact .inr ⟨k,hk,e⟩
theorem Ox {v:wz} (h1:v.1.length<=6) (h2:v.2.length<=6) {k:Nat} (hk:k<6) (id:Int):∃t,((aj v id).bind λt27=>(cond (decide (t27<0)) (some true) ((at? v.1 t27).bind λx34=>(ay x34.2.1 (k:Int)).bind λt38=>some (!t38))).bind λt40=>cond t40 (some ((0:Int),false)) (some (id,true)))=some t:=by
 rw[CZ (by omega),an];rcases HG v.1 id with h|⟨j,hj,e⟩
 · rw[dT h,cT,an,cT];exact⟨_,rfl⟩
 · obtain⟨t,ht,_⟩:=HV v.1[j].2.1 hk;rw[e,dF (by omega),cF,vL hj,an,ht,an,an];cases t<;>exact⟨_,rfl⟩
theorem Oy {v:wz} (h1:v.1.length<=6) (h2:v.2.length<=6) {k:Nat} (hk:k<v.2.length) (tag:Int):∃t,fk v (k:Int) tag=some t:=by
 unfold fk;rw[vW (by omega) (by omega),yB,an,BD (by omega) (by omega),Bool.not_true,cF];cases tag==0 with
 | true=>rw[cT,vL hk,an];exact Ox h1 h2 (by omega) _
 | false=>rw[cF];exact Ox h1 h2 (by omega) _
theorem M5 {v:wz} (h1:v.1.length<=6) (id:Int):∃t,ch v id=some t:=by
 unfold ch;rw[CZ (by omega),an];rcases HG v.1 id with h|⟨j,hj,e⟩
 · rw[dT h,cT];exact⟨_,rfl⟩
 · rw[e,dF (by omega),cF,vL hj,an];exact⟨_,rfl⟩
theorem Oz {v:wz} (h1:v.1.length<=6) (id:Int) {k:Nat} (hk:k<6):∃t,ci v id (k:Int)=some t:=by
 unfold ci;rw[CZ (by omega),an];rcases HG v.1 id with h|⟨j,hj,e⟩
 · rw[dT h,cT,an,cT];exact⟨_,rfl⟩
 · obtain⟨t,ht,_⟩:=HV v.1[j].2.2 hk;rw[e,dF (by omega),cF,vL hj,an,ht,an,an];cases t<;>exact⟨_,rfl⟩
theorem Tz {l:List vD} (h:l.length<=12) (tag mac:Int):∃t,fo l tag mac=some t:=by
 unfold fo;rw[DZ (by omega),an];rcases AU l tag mac with ⟨h1,_⟩|⟨k,hk,h1,_⟩
 · rw[h1];exact⟨_,rfl⟩
 · rw[h1,dF (by omega),cF,vL hk,an];exact⟨_,rfl⟩
theorem Sa {f:ym} (h:f.2.2.2.length<=20) (t:Int):dR f t=some (f.1,f.2.1,t,f.2.2.2):=by
 unfold dR;rw[Bh (by show _<=1048576;omega)];rfl
theorem Sb {b:vw} (h:wH b) (i:Int) {f:ym} (hf:f.2.2.2.length<=20) (c:Int) (cl:Int×Bool) (q:Int->Option Bool) (hq:∀k,∃t,q k=some t) {k:Nat} (hk:k<b.2.2.1.length) {out:List wF} (ho:out.length<=10) :
 ∃o:List wF,o.length<=out.length+1/\(((cond ((k:Int) != i) ((ch (b.2.2.2.2.1,b.2.2.2.2.2.1) cl.1).bind λt89=>(ay (xM .i64 c t89) (k:Int)).bind λt92=>some t92) (some false)).bind λt93 =>
  (cond t93 ((q (k:Int)).bind λt101=>some t101) (some false)).bind λt102 =>
  cond t102 ((ci (b.2.2.2.2.1,b.2.2.2.2.2.1) cl.1 (k:Int)).bind λt110=>(dR f t110).bind λt111=>(vS out [((k:Int),t111.1,t111.2.1,t111.2.2.1,t111.2.2.2)]).bind λzs114=>some (.inl (vA ((k:Int)+1),zs114)))
   (some (.inl (vA ((k:Int)+1),out)))):Option ((Int×List wF)⊕List wF))=some (.inl (((k+1:Nat):Int),o)):=by
 have s:=h.sok;have hv:=s.v
 have hn:=h.n6;obtain⟨e,he⟩:=M5 (v:=(b.2.2.2.2.1,b.2.2.2.2.2.1)) hv cl.1;obtain⟨t,ht,_⟩:=HV (xM .i64 c e) (k:=k) (by omega);obtain⟨u,hu⟩:=hq (k:Int);obtain⟨g,hg⟩:=Oz (v:=(b.2.2.2.2.1,b.2.2.2.2.2.1)) hv cl.1 (k:=k) (by omega);have no:∃o:List wF,o.length<=out.length+1/\(some (.inl (vA ((k:Int)+1),out)):Option ((Int×List wF)⊕List wF))=some (.inl (((k+1:Nat):Int),o)):=⟨out,by omega,by rw[vK (by omega)]⟩
 rw[vK (by omega)]at no ⊢;rw[he,an,ht,an,hu,an,hg,an,Sa hf,an,vF (by show out.length+1<=_;omega),an];cases (k:Int) != i<;>cases t<;>cases u<;>first|exact no|exact⟨_,by rw[length_append];exact Nat.le_refl _,rfl⟩
theorem M6 {b:vw} (hn:b.2.2.1.length<=6) (step:Int×List wF->Option ((Int×List wF)⊕List wF))
 (hs:∀(k:Nat) (out:List wF),k<b.2.2.1.length->out.length<=10->∃o:List wF,o.length<=out.length+1/\step ((k:Int),out)=some (.inl (((k+1:Nat):Int),o)))
 (he:∀out:List wF,step ((b.2.2.1.length:Int),out)=some (.inr out)):∃o:List wF,loop step (0,[])=some o/\o.length<=6:=by
 obtain⟨v,h1,h2⟩:=vR (step:=step) (λk z=>z.1=(k:Int)/\z.2.length<=k) b.2.2.1.length (λv=>v.length<=6)
  (λk z hk ⟨e1,e2⟩=>by
   obtain⟨i,out⟩:=z;simp only at e1 e2;subst e1;obtain⟨o,o1,o2⟩:=hs k out hk (by omega);exact .inl ⟨_,o2,rfl,by show o.length<=k+1;omega⟩)
  (λz ⟨e1,e2⟩=>by
   obtain⟨i,out⟩:=z;simp only at e1 e2;subst e1;exact⟨out,he out,by omega⟩) (x:=(0,[])) ⟨rfl,Nat.le_refl _⟩
 exact⟨v,h1,h2⟩
theorem OA {b:vw} (s:zF b) {F:List vD} (hF:FB F) {d v:Int} (hd:vE d 0 1000000=true) (hv:vE v 0 1000000=true):zF (b.1,b.2.1,b.2.2.1,F,b.2.2.2.2.1,b.2.2.2.2.2.1,b.2.2.2.2.2.2.1,b.2.2.2.2.2.2.2.1,b.2.2.2.2.2.2.2.2.1,d,v):=by
 refine⟨s.id,s.name,s.n1,s.n6,s.p,hF.ok,?_,s.q,s.v,s.s,s.i,s.h⟩;obtain⟨q1,q2,q3,q4,q5⟩:=zo s.c;unfold ya;simp only[aT];exact⟨q1,q2,q3,hd,hv⟩
theorem Qu {a:vO} (h:xk a) {b:vw} (hb:wH b):xk (xa b (aW a) (vC a) (wS a) (we a)):=⟨hb,h.w,h.n,h.lo,h.la,h.ids,h.up,h.j⟩
theorem Ay {b:List Int} (t:Int) {body:List Int} (hb:b.length<=1200) (hn:body.length<=M):ar b t body=some (b++if vE t 0 255=true/\body.length<=250 then wK t body else []):=by
 have hM:M=1048576:=rfl;unfold ar;rw[yS (by omega),an,AG,an];cases hp:vE t 0 255 with
 | false=>rw[Bool.not_false,cT,an,cT,if_neg (λh=>by cases h.1),append_nil]
 | true =>
  rw[Bool.not_true,cF,an];by_cases h250:body.length<=250
  · have hw:IntKind.u8.wrap t=t:=by obtain⟨a,c⟩:=wu hp;rw[w8];omega
    have hl:IntKind.u8.wrap ((body.length:Int))=(body.length:Int):=by rw[w8];omega
    rw[dF (by omega),cF,hw,hl,if_pos ⟨rfl,h250⟩,vF (by show b.length+1<=_;omega),an];by_cases h127:(body.length:Int)>127
    · rw[dT h127,cT,vF (by rw[length_append];show b.length+1+1<=_;omega),an,vF (by simp only[length_append,length_singleton];omega),an,vF (by simp only[length_append,length_singleton];omega),an];unfold wK;rw[if_pos (by omega)];simp
    · rw[dF h127,cF,vF (by simp only[length_append,length_singleton];omega),an,vF (by simp only[length_append,length_singleton];omega),an];unfold wK;rw[if_neg (by omega)];simp
  · rw[dT (by omega),cT,if_neg (λh=>h250 h.2),append_nil]
theorem M7 {o:List Int} (h:z9 o=true):fD o=some (wA o):=by
 obtain⟨o1,o2,o3⟩:=AA h;have hM:M=1048576:=rfl
 unfold fD;rw[Lm,FU (by omega),an,h,Bool.not_true,cF];obtain⟨v,e1,rfl⟩:=vR (step:=λz:Int×List Int=>dg o z.1 z.2) (λk z=>z=((k:Int),wA (o.take k))) o.length (λv=>v=wA o)
  (λk z hk e=>by
   subst e;have hx:=o3 _ (getElem_mem hk)
   have hl:(wA (o.take k)).length<=3*(o.take k).length:=Bl λx hx=>(o3 x (mem_of_mem_take hx)).2;rw[length_take]at hl;have hg:=Jd o[k]
   refine .inl ⟨_,?_,rfl⟩;show dg o (k:Int) _=_
   unfold dg;rw[wm (by omega),cT,vL hk,an,Ql ⟨hx.1,by omega⟩,an,vF (by show (wA (o.take k)).length+(grp o[k]).length<=_;omega),an,vK (by omega),take_add_one,List.getElem?_eq_getElem hk];unfold wA;rw[List.flatMap_append];simp)
  (λz e=>by
   subst e;refine⟨_,?_,rfl⟩;show dg o (o.length:Int) _=_
   unfold dg;rw[wg (by omega),cF,take_length]) (x:=(0,[])) rfl
 have e1:loop (λz=>dg o z.1 z.2) (0,([]:List Int))=some (wA o):=e1;rw[e1];rfl
theorem Ro {b:List Int} (hb:b.length<=1000) {v:zj} (h:zp v=true):gN b v=some (b++wK v.1 (yh v)):=by
 have hM:M=1048576:=rfl;obtain⟨l1,l2⟩:=E1 h;have hk:vE v.1 0 255=true:=by
  unfold zp at h;by_cases c1:(v.1==5||(v.1==128||v.1==130))=true
  · simp only[Bool.or_eq_true,beq_iff_eq]at c1;rcases c1 with c|c|c<;>rw[c]<;>rfl
  · rw[show (v.1==5||(v.1==128||v.1==130))=false by simpa using c1,cF]at h;by_cases c2:v.1=2
    · rw[c2];rfl
    · rw[beq_eq_false_iff_ne.2 c2,cF]at h;by_cases c4:v.1=4
      · rw[c4];rfl
      · rw[beq_eq_false_iff_ne.2 c4,cF]at h;by_cases c6:v.1=6
        · rw[c6];rfl
        · rw[beq_eq_false_iff_ne.2 c6,cF]at h;cases h
 have fin:∀body,yh v=body->ar b v.1 body=some (b++wK v.1 (yh v)):=λbody e=>by
  subst e;rw[Ay _ (by omega) (by omega),if_pos ⟨hk,by omega⟩]
 have ho6:v.2.2.2.length<=M:=by
  unfold zp at h;by_cases c6:v.1=6
  · rw[c6]at h;simp only[show ((6:Int)==5)=false from rfl,show ((6:Int)==128)=false from rfl,show ((6:Int)==130)=false from rfl,Bool.or_self,cF,show ((6:Int)==2)=false from rfl,show ((6:Int)==4)=false from rfl,show ((6:Int)==6)=true from rfl,cT,aT]at h;have:=Jf h.1
    omega
  · have:v.2.2.2.length=0:=by
     revert h
     cases (v.1==5||(v.1==128||v.1==130))with
     | true=>intro h;simp only[cT,aT,beq_iff_eq]at h;omega
     | false =>
      rw[cF];cases (v.1==2)with
      | true=>intro h;simp only[cT,aT,beq_iff_eq]at h;omega
      | false =>
       rw[cF];cases (v.1==4)with
       | true=>intro h;simp only[cT,aT,beq_iff_eq]at h;omega
       | false=>intro h;rw[cF,beq_eq_false_iff_ne.2 c6]at h;cases h
    omega
 unfold gN;rw[J9 ho6,an,h,Bool.not_true,cF];by_cases h2:v.1=2
 · have e:yh v=xf v.2.1:=by unfold yh;rw[beq_iff_eq.2 h2];rfl
   have hr:-2147483648<=v.2.1/\v.2.1<=2147483647:=by
    unfold zp at h;rw[h2]at h;simp only[show ((2:Int)==5)=false from rfl,show ((2:Int)==128)=false from rfl,show ((2:Int)==130)=false from rfl,Bool.or_self,cF,show ((2:Int)==2)=true from rfl,cT,aT]at h;exact wu h.1
   rw[beq_iff_eq.2 h2,cT,DC,an,C5 hr,fin _ e];rfl
 rw[beq_eq_false_iff_ne.2 h2,cF];by_cases h4:v.1=4
 · have e:yh v=yv v.2.2.1:=by unfold yh;rw[beq_eq_false_iff_ne.2 h2,beq_iff_eq.2 h4];rfl
   rw[beq_iff_eq.2 h4,cT,fin _ e];rfl
 rw[beq_eq_false_iff_ne.2 h4,cF];by_cases h6:v.1=6
 · have e:yh v=wA v.2.2.2:=by unfold yh;rw[beq_eq_false_iff_ne.2 h2,beq_eq_false_iff_ne.2 h4,beq_iff_eq.2 h6];rfl
   have ho:z9 v.2.2.2=true:=by
    unfold zp at h;rw[h6]at h;simp only[show ((6:Int)==5)=false from rfl,show ((6:Int)==128)=false from rfl,show ((6:Int)==130)=false from rfl,Bool.or_self,cF,show ((6:Int)==2)=false from rfl,show ((6:Int)==4)=false from rfl,show ((6:Int)==6)=true from rfl,cT,aT]at h;exact h.1
   rw[beq_iff_eq.2 h6,cT,M7 ho,an,fin _ e];rfl
 · have e:yh v=[]:=by unfold yh;rw[beq_eq_false_iff_ne.2 h2,beq_eq_false_iff_ne.2 h4,beq_eq_false_iff_ne.2 h6];rfl
   rw[beq_eq_false_iff_ne.2 h6,cF,fin _ e];rfl
theorem Sc {l:List vB} (hx:∀x∈l,zE x=true) (hn:l.length<=10):gO l=some (wI l):=by
 have hM:M=1048576:=rfl;have hlen:∀k,(wI (l.take k)).length<=110*k:=λk=>by
  induction k with
  | zero=>simp[wI]
  | succ k ih =>
   rw[take_add_one];unfold wI at ih ⊢;rw[List.flatMap_append,length_append];cases hk:l[k]? with
   | none=>show (List.flatMap B4 (l.take k)).length+0<=_;omega
   | some x =>
    have:=(D1 (hx x (List.mem_of_getElem? hk))).2;show (List.flatMap B4 (l.take k)).length+(B4 x++[]).length<=_
    rw[append_nil];omega
 unfold gO;obtain⟨v,e1,rfl⟩:=vR (step:=λz:Int×List Int=>dh l z.1 z.2) (λk z=>z=((k:Int),wI (l.take k))) l.length (λv=>v=wI l)
  (λk z hk e=>by
   subst e;have hxk:=hx _ (getElem_mem hk)
   have hl:=hlen k;obtain⟨b1,b2⟩:=D1 hxk;have hxk':=hxk
   unfold zE at hxk';rw[aT]at hxk';obtain⟨o1,o2,o3⟩:=AA hxk'.1;have ho:=Bl (o:=l[k].1) λy hy=>(o3 y hy).2
   have ht:=xB 6 (body:=wA l[k].1);refine .inl ⟨_,?_,rfl⟩;show dh l (k:Int) _=_
   unfold dh;rw[wm (by omega),cT,vL hk,an,M7 hxk'.1,an,Ay _ (by simp) (by omega),if_pos ⟨by decide,by omega⟩,an,an,nil_append,Ro (by omega) hxk'.2,an,Ay _ (by show (wI (l.take k)).length<=1200;omega) (by show (Db l[k]).length<=_;omega),if_pos ⟨by decide,by show (Db l[k]).length<=250;omega⟩,an,vK (by omega),take_add_one,List.getElem?_eq_getElem hk];unfold wI;rw[List.flatMap_append];simp[B4,Db])
  (λz e=>by
   subst e;refine⟨_,?_,rfl⟩;show dh l (l.length:Int) _=_
   unfold dh;rw[wg (by omega),cF,take_length]) (x:=(0,[])) rfl
 have e1:loop (λz=>dh l z.1 z.2) (0,([]:List Int))=some (wI l):=e1;rw[e1];rfl
theorem M8 {p:wd} (hp:yj M p):fE p=some (AB p):=by
 have hM:M=1048576:=rfl;unfold fE AB;rw[NE hp,an];cases hk:xG p with
 | false=>rw[Bool.not_false,cT,if_neg (λh=>by cases h.1)]
 | true =>
  obtain⟨k1,k2,k3,k4,k5,k6⟩:=yM hk;have i1:=yz p.2.1
  have i2:=yz p.2.2.1;have i3:=yz p.2.2.2.1
  have t1:=xB 2 (body:=xf p.2.1);have t2:=xB 2 (body:=xf p.2.2.1)
  have t3:=xB 2 (body:=xf p.2.2.2.1);rw[Bool.not_true,cF];unfold jl;rw[Sc k1 k2,an];by_cases ha:(wI p.2.2.2.2).length<=250
  · rw[dF (by omega),cF,DC,an,C5 k4,Ay _ (by simp) (by omega),if_pos ⟨by decide,by omega⟩,an,DC,an,C5 (by omega),Ay _ (by simp only[nil_append];omega) (by omega),if_pos ⟨by decide,by omega⟩,an,DC,an,C5 (by omega),Ay _ (by simp only[nil_append,length_append];omega) (by omega),if_pos ⟨by decide,by omega⟩,an,Ay _ (by simp only[nil_append,length_append];omega) (by omega),if_pos ⟨by decide,ha⟩,an];have eb:([]++wK 2 (xf p.2.1)++wK 2 (xf p.2.2.1)++wK 2 (xf p.2.2.2.1)++wK 48 (wI p.2.2.2.2))=za p:=by unfold za;simp
    rw[eb];have t4:=xB 48 (body:=wI p.2.2.2.2)
    have hbl:(za p).length<=400:=by unfold za;simp only[length_append];omega
    by_cases hb:(za p).length<=250
    · simp only[an,dT (show ((za p).length:Int)<=250 by omega),Bool.not_true,cF];rw[Ay _ (by simp) (by omega),if_pos ⟨k3,hb⟩,if_pos ⟨trivial,ha,hb⟩,an,nil_append]
    · simp only[an,dF (show ¬((za p).length:Int)<=250 by omega),Bool.not_false,cT];rw[if_neg (λh=>hb h.2.2)]
  · rw[dT (by omega),cT,an,Bool.not_false,cT,if_neg (λh=>ha h.2.1)]
theorem C4 (w:List UInt8) {p:wd} (hp:yj M p):dw w p=some (GE w p):=by
 have hM:M=1048576:=rfl;have hpl:=Re p
 unfold dw GE;rw[M8 hp,an];by_cases h0:(AB p).length=0
 · rw[if_pos (Or.inl h0),show ((((AB p).length:Nat):Int)==0)=true by rw[h0];rfl];rfl
 · rw[beq_eq_false_iff_ne.2 (show (((AB p).length:Nat):Int)≠0 by omega),cF,an];by_cases hw:20<w.length
   · rw[if_pos (Or.inr hw),dT (by omega)];rfl
   · have hwl:(yv w).length=w.length:=by unfold yv;rw[length_map]
     have hi1:=yz 1;have ht1:=xB 2 (body:=xf 1)
     have ht2:=xB 4 (body:=yv w);have hhd:(DV w).length<=40:=by unfold DV;rw[length_append];omega
     rw[if_neg (by omega),dF (by omega),cF,DC,an,C5 (by omega),Ay _ (by simp) (by omega),if_pos ⟨by decide,by omega⟩,an,nil_append,Ay _ (by omega) (by omega),if_pos ⟨by decide,by omega⟩,an];show ((vS (DV w) (AB p)).bind _)=_
     rw[vF (by omega),an];by_cases hb:(DV w++AB p).length<=250
     · rw[dF (by omega),cF,Ay _ (by simp) (by omega),if_pos ⟨by decide,hb⟩,if_pos hb];rfl
     · rw[dT (by omega),cT,if_neg hb]

theorem Sd {α:Type} {P:α->Prop} {draw:vM->Option (vM×α)} (hd:∀c,CW c->Dr P (draw c)) {n:Nat} (hn:n<=1000) (step:Int×List Int×Int×Int×List α->Option ((Int×List Int×Int×Int×List α)⊕(List Int×Int×Int×List α)))
 (hs:∀(i:Int) (c0:List Int) (c1 c2:Int) (out:List α),i>0->step (i,c0,c1,c2,out)=(draw (c0,c1,c2)).bind λt=>(vS out [t.2]).bind λzs=>some (.inl (vA (i-1),t.1.1,t.1.2.1,t.1.2.2,zs)))
 (he:∀(i:Int) (c0:List Int) (c1 c2:Int) (out:List α),¬i>0->step (i,c0,c1,c2,out)=some (.inr (c0,c1,c2,out))) {c:vM} (hc:CW c) :
 ∃d,loop step ((n:Int),c.1,c.2.1,c.2.2,[])=some d/\CW (d.1,d.2.1,d.2.2.1)/\d.2.2.2.length=n/\∀x∈d.2.2.2,P x:=by
 obtain⟨d,d1,d2⟩:=vR (step:=step)
  (λi z=>z.1=((n-i:Nat):Int)/\CW (z.2.1,z.2.2.1,z.2.2.2.1)/\z.2.2.2.2.length=i/\∀x∈z.2.2.2.2,P x) n
  (λd=>CW (d.1,d.2.1,d.2.2.1)/\d.2.2.2.length=n/\∀x∈d.2.2.2,P x)
  (λi z hi ⟨z1,z2,z3,z4⟩=>by
   obtain⟨j,c0,c1,c2,out⟩:=z;simp only at z1 z2 z3 z4;subst z1 z3;obtain⟨c',x,x1,x2,x3⟩:=hd _ z2;refine .inl ⟨_,by rw[hs _ _ _ _ _ (by omega),x1,an,vF (by show _+1<=_;omega),an],?_,x2,by simp,?_⟩
   · show vA (((n-out.length:Nat):Int)-1)=_;rw[vW (by omega) (by omega)];omega
   · intro y hy;rcases mem_append.1 hy with hy|hy
     · exact z4 y hy
     · rw[mem_singleton]at hy;subst hy;exact x3)
  (λz ⟨z1,z2,z3,z4⟩=>by
   obtain⟨j,c0,c1,c2,out⟩:=z;simp only at z1 z2 z3 z4;rw[Nat.sub_self]at z1;subst z1;exact⟨(c0,c1,c2,out),he _ _ _ _ _ (by decide),z2,z3,z4⟩) (x:=((n:Int),c.1,c.2.1,c.2.2,[])) ⟨rfl,hc,rfl,by simp⟩
 exact⟨d,d1,d2⟩
def KU (m:List Int):Prop:=xL m/\m.length<=1000
theorem OB {c:vM} (h:CW c) {m:List Int} (hm:xL m) (hl:m.length<=900):Dr KU (ia c m):=by
 have no:∀c,CW c->Dr KU (some (c,m)):=λc hc=>Dr.some hc ⟨hm,by omega⟩;unfold ia;by_cases h0:(m.length:Int)=0
 · rw[beq_iff_eq.2 h0,cT];exact no c h
 rw[beq_eq_false_iff_ne.2 h0,cF];refine Dr.bind (xl h 5) λc t hc _=>?_;refine Dr.cond ?_ (Dr.cond ?_ (Dr.cond ?_ (no c hc)))
 · obtain⟨c1,k,e1,w1,hk⟩:=xK hc (n:=m.length) (by omega);rw[e1,an];refine Dr.bind (Bz w1 (by decide)) λc x hc hx=>?_;rw[xJ hk,an,List.getElem?_eq_getElem hk,an];refine Dr.some hc ⟨λy hy=>?_,by rw[length_set];omega⟩;rcases mem_or_eq_of_mem_set hy with hy|rfl
   · exact hm y hy
   · show 0<=IntKind.u8.wrap x/\IntKind.u8.wrap x<=255;rw[w8];omega
 · rw[vF (by show m.length+1<=_;omega),an];refine Dr.some hc ⟨C3 hm (λy hy=>by rw[mem_singleton.1 hy];decide),by rw[length_append];show m.length+1<=1000;omega⟩
 · obtain⟨c1,k,e1,w1,hk⟩:=xK hc (n:=m.length) (by omega);have hx:xR m.length 0 (k:Int)=some (0,k):=CC (a:=0) (Nat.zero_le _) (by omega)
   rw[e1,an];simp only;rw[hx,an];refine Dr.some w1 ⟨λy hy=>hm y (mem_of_mem_take (List.mem_of_mem_drop hy)),?_⟩;rw[length_drop,length_take];show min k m.length-0<=1000;omega
theorem Rp {c:vM} (h:CW c) {n:Int} (h0:0<=n/\n<=1000):Dr (λ_:List Int=>True) (fP c n):=by
 obtain⟨k,rfl⟩:∃k:Nat,n=(k:Int):=⟨n.toNat,by omega⟩;unfold fP;obtain⟨d,d1,d2⟩:=vR (step:=λz:Int×List Int×Int×Int×List Int=>dx (k:Int) z.1 z.2.1 z.2.2.1 z.2.2.2.1 z.2.2.2.2)
  (λi z=>z.1=(i:Int)/\CW (z.2.1,z.2.2.1,z.2.2.2.1)/\z.2.2.2.2.length=i) k
  (λd=>CW (d.1,d.2.1,d.2.2.1))
  (λi z hi ⟨z1,z2,z3⟩=>by
   obtain⟨j,c0,c1,c2,out⟩:=z;simp only at z1 z2 z3;subst z1;obtain⟨c',x,x1,x2,_⟩:=IK z2;refine .inl ⟨_,by
    show dx (k:Int) _ _ _ _ _=_;unfold dx;rw[wm (by omega),cT,x1,an,vF (by show _+1<=_;omega),an],?_,x2,by simp[z3]⟩
   exact vK (by omega))
  (λz ⟨z1,z2,z3⟩=>by
   obtain⟨j,c0,c1,c2,out⟩:=z;simp only at z1 z2 z3;subst z1;refine⟨(c0,c1,c2,out),?_,z2⟩;show dx (k:Int) _ _ _ _ _=_
   unfold dx;rw[wg (by omega),cF]) (x:=(0,c.1,c.2.1,c.2.2,[])) ⟨rfl,h,rfl⟩
 show Dr _ ((loop (λz:Int×List Int×Int×Int×List Int=>dx (k:Int) z.1 z.2.1 z.2.2.1 z.2.2.2.1 z.2.2.2.2) (0,c.1,c.2.1,c.2.2,[])).bind _);rw[d1,an];exact Dr.some d2 trivial
theorem Rq {c:vM} (h:CW c):Dr (λ_:ym=>True) (ig c):=by
 unfold ig;refine Dr.bind (Bz h (by decide)) λc x hc _=>?_;obtain⟨c1,y,e1,w1⟩:=Li hc;rw[e1,an];refine Dr.bind (Bz w1 (by decide)) λc z hc _=>?_;unfold js;have:Dr (λ_:List Int=>True) ((af c ([0,1,2,5,9]:List Int)).bind λt6=>(fP t6.1 t6.2).bind λt7=>some t7):=by
  refine Dr.bind (Bz hc (by decide)) λc u hc hu=>?_;have hu:u=0\/u=1\/u=2\/u=5\/u=9:=by simpa using hu
  exact Dr.bind (Rp hc (by omega)) λc v hc _=>Dr.some hc trivial
 exact Dr.bind this λc v hc _=>Dr.some hc trivial

theorem PP {c:vM} (h:CW c) {n:Nat} (hn:n<=1000) (k i a b:Int):Dr (λp:wd=>p.2.2.2.2.length=n/\∀x∈p.2.2.2.2,Bj x) ((loop (λz:Int×List Int×Int×Int×Int×Int×Int×Int×List vB=>du z.1 z.2.1 z.2.2.1 z.2.2.2.1 z.2.2.2.2.1 z.2.2.2.2.2.1 z.2.2.2.2.2.2.1 z.2.2.2.2.2.2.2.1 z.2.2.2.2.2.2.2.2) ((n:Int),c.1,c.2.1,c.2.2,k,i,a,b,[])).bind λd=>some ((d.1,d.2.1,d.2.2.1),d.2.2.2)):=by
 obtain⟨d,d1,d2,d3,d4⟩:=vR (step:=λz:Int×List Int×Int×Int×Int×Int×Int×Int×List vB=>du z.1 z.2.1 z.2.2.1 z.2.2.2.1 z.2.2.2.2.1 z.2.2.2.2.2.1 z.2.2.2.2.2.2.1 z.2.2.2.2.2.2.2.1 z.2.2.2.2.2.2.2.2)
  (λj z=>z.1=((n-j:Nat):Int)/\CW (z.2.1,z.2.2.1,z.2.2.2.1)/\z.2.2.2.2.2.2.2.2.length=j/\∀y∈z.2.2.2.2.2.2.2.2,Bj y) n
  (λd=>CW (d.1,d.2.1,d.2.2.1)/\d.2.2.2.2.2.2.2.length=n/\∀y∈d.2.2.2.2.2.2.2,Bj y)
  (λj z hj ⟨z1,z2,z3,z4⟩=>by
   obtain⟨q,c0,c1,c2,r0,r1,r2,r3,out⟩:=z;simp only at z1 z2 z3 z4;subst z1 z3;obtain⟨c',o,x1,x2,x3⟩:=NK z2;obtain⟨c'',v,y1,y2,y3⟩:=NL x2;refine .inl ⟨_,by
    show du _ _ _ _ _ _ _ _ _=_;unfold du;rw[dT (show ((n-out.length:Nat):Int)>0 by omega),cT,x1,an,y1,an,vF (by show _+1<=_;omega),an],?_,y2,by simp,?_⟩
   · show vA (((n-out.length:Nat):Int)-1)=_;rw[vW (by omega) (by omega)];omega
   · intro y hy;rcases mem_append.1 hy with hy|hy
     · exact z4 y hy
     · rw[mem_singleton]at hy;subst hy;have:=x3.n10
       exact⟨by show o.length<=1000;omega,y3⟩)
  (λz ⟨z1,z2,z3,z4⟩=>by
   obtain⟨q,c0,c1,c2,r0,r1,r2,r3,out⟩:=z;simp only at z1 z2 z3 z4;rw[Nat.sub_self]at z1;subst z1;refine⟨(c0,c1,c2,r0,r1,r2,r3,out),?_,z2,z3,z4⟩;show du _ _ _ _ _ _ _ _ _=_
   unfold du;rw[dF (show ¬((0:Nat):Int)>0 by decide),cF]) (x:=((n:Int),c.1,c.2.1,c.2.2,k,i,a,b,[])) ⟨rfl,h,rfl,by simp⟩
 refine⟨_,_,wa d1 rfl,d2,d3,d4⟩
theorem PQ {c:vM} (h:CW c) {n:Nat} (hn:n<=1000) (k i a b:Int):Dr (λp:wd=>p.2.2.2.2.length=n/\∀x∈p.2.2.2.2,Bj x) ((loop (λz:Int×List Int×Int×Int×Int×Int×Int×Int×List vB=>dv z.1 z.2.1 z.2.2.1 z.2.2.2.1 z.2.2.2.2.1 z.2.2.2.2.2.1 z.2.2.2.2.2.2.1 z.2.2.2.2.2.2.2.1 z.2.2.2.2.2.2.2.2) ((n:Int),c.1,c.2.1,c.2.2,k,i,a,b,[])).bind λd=>some ((d.1,d.2.1,d.2.2.1),d.2.2.2)):=by
 obtain⟨d,d1,d2,d3,d4⟩:=vR (step:=λz:Int×List Int×Int×Int×Int×Int×Int×Int×List vB=>dv z.1 z.2.1 z.2.2.1 z.2.2.2.1 z.2.2.2.2.1 z.2.2.2.2.2.1 z.2.2.2.2.2.2.1 z.2.2.2.2.2.2.2.1 z.2.2.2.2.2.2.2.2)
  (λj z=>z.1=((n-j:Nat):Int)/\CW (z.2.1,z.2.2.1,z.2.2.2.1)/\z.2.2.2.2.2.2.2.2.length=j/\∀y∈z.2.2.2.2.2.2.2.2,Bj y) n
  (λd=>CW (d.1,d.2.1,d.2.2.1)/\d.2.2.2.2.2.2.2.length=n/\∀y∈d.2.2.2.2.2.2.2,Bj y)
  (λj z hj ⟨z1,z2,z3,z4⟩=>by
   obtain⟨q,c0,c1,c2,r0,r1,r2,r3,out⟩:=z;simp only at z1 z2 z3 z4;subst z1 z3;obtain⟨c',o,x1,x2,x3⟩:=NK z2;obtain⟨c'',v,y1,y2,y3⟩:=NL x2;refine .inl ⟨_,by
    show dv _ _ _ _ _ _ _ _ _=_;unfold dv;rw[dT (show ((n-out.length:Nat):Int)>0 by omega),cT,x1,an,y1,an,vF (by show _+1<=_;omega),an],?_,y2,by simp,?_⟩
   · show vA (((n-out.length:Nat):Int)-1)=_;rw[vW (by omega) (by omega)];omega
   · intro y hy;rcases mem_append.1 hy with hy|hy
     · exact z4 y hy
     · rw[mem_singleton]at hy;subst hy;have:=x3.n10
       exact⟨by show o.length<=1000;omega,y3⟩)
  (λz ⟨z1,z2,z3,z4⟩=>by
   obtain⟨q,c0,c1,c2,r0,r1,r2,r3,out⟩:=z;simp only at z1 z2 z3 z4;rw[Nat.sub_self]at z1;subst z1;refine⟨(c0,c1,c2,r0,r1,r2,r3,out),?_,z2,z3,z4⟩;show dv _ _ _ _ _ _ _ _ _=_
   unfold dv;rw[dF (show ¬((0:Nat):Int)>0 by decide),cF]) (x:=((n:Int),c.1,c.2.1,c.2.2,k,i,a,b,[])) ⟨rfl,h,rfl,by simp⟩
 refine⟨_,_,wa d1 rfl,d2,d3,d4⟩
theorem KV {c:vM} (h:CW c):Dr (λp:wd=>yj M p) (i0 c):=by
 have hM:M=1048576:=rfl;have le:∀{n:Nat},n<=3->∀p:wd,(p.2.2.2.2.length=n/\∀x∈p.2.2.2.2,Bj x)->yj M p:=λhn p hp=>⟨by show p.2.2.2.2.length<=1048576;omega,λx hx=>(hp.2 x hx).le⟩
 have up:∀{n:Nat} {o:Option (vM×wd)},n<=3->Dr (λp:wd=>p.2.2.2.2.length=n/\∀x∈p.2.2.2.2,Bj x) o->Dr (λp:wd=>yj M p) o:=λhn ⟨c,p,e,w,hp⟩=>⟨c,p,e,w,le hn p hp⟩;unfold i0;refine Dr.bind (Bz h (by decide)) λc k hc _=>?_;refine Dr.bind (QM hc) λc x hc _=>?_;obtain⟨r,hr⟩:=QN x;rw[hr,an];have hkk:∃t,(cond (k==162) (some true) (some (k==165)))=some t:=by cases k==162<;>exact⟨_,rfl⟩
 obtain⟨t,ht⟩:=hkk;simp only;rw[ht,an];refine Dr.cond ?_ ?_
 · refine Dr.bind (xl hc 4) λc a hc _=>?_;refine Dr.bind (xl hc 5) λc b hc _=>?_;obtain⟨c1,n,e1,w1,hn⟩:=xK hc (n:=4) (by decide);have e1':aa c 4=some (c1,(n:Int)):=e1
   simp only;rw[e1',an];exact up (by omega) (PP w1 (by omega) k r a b)
 · obtain⟨c1,n,e1,w1,hn⟩:=xK hc (n:=4) (by decide);have e1':aa c 4=some (c1,(n:Int)):=e1
   rw[e1',an];exact up (by omega) (PQ w1 (by omega) k r 0 0)
theorem CV (w:List UInt8) (p:wd):KU (GE w p)/\(GE w p).length<=900:=by
 have h:(GE w p).length<=300:=by
  unfold GE;split
  · simp
  · split
    · have:=xB 48 (body:=DV w++AB p);omega
    · simp
 exact⟨⟨Ri w p,by omega⟩,by omega⟩
theorem TA {c:vM} (h:CW c) {b:vw} (hb:wH b):Dr KU (bV c b):=by
 have hq:∀c,CW c->Dr DW (bS c b):=λc hc=>Na hc hb.w λc hc=>by obtain⟨c',o,e,w,h⟩:=ND hc hb;exact⟨c',o,e,w,h⟩
 unfold bV;refine Dr.bind (xl h 10) λc t hc _=>?_;refine Dr.cond ?_ (Dr.cond ?_ (Dr.cond ?_ ?_))
 · refine Dr.bind (hq c hc) λc p hc hp=>?_;simp only;rw[C4 _ hp.le,an];obtain⟨m1,m2⟩:=CV [121,97,114,100] p;exact Dr.bind (OB hc m1.1 m2) λc m hc hm=>Dr.some hc hm
 · refine Dr.bind (hq c hc) λc p hc hp=>?_;simp only;rw[C4 _ hp.le,an];exact Dr.some hc (CV _ p).1
 · refine Dr.bind (KV hc) λc p hc hp=>?_;simp only;rw[C4 _ hp,an];exact Dr.some hc (CV _ p).1
 · refine Dr.bind (hq c hc) λc p hc hp=>?_;simp only;rw[C4 _ hp.le,an];exact Dr.some hc (CV _ p).1
def D8 (x:Act):Prop:=KU x.2.2.2.1
theorem Ff:KU []:=⟨(λx hx=>by cases hx),(by decide)⟩
theorem B1 {code:List Int} (h:code.length<=1048576):∃k:Nat,bj code 36=some (k:Int)/\k<=36:=by
 unfold bj;have e:vA (3+(vA ((code.length:Int).tdiv 12)))=3+(code.length:Int)/12:=by
  rw[Int.tdiv_eq_ediv_of_nonneg (by omega),vW (n:=(code.length:Int)/12) (by omega) (by omega),vW (by omega) (by omega)]
 simp only[e];by_cases hk:3+(code.length:Int)/12>36
 · rw[dT hk,cT];exact⟨36,rfl,Nat.le_refl _⟩
 · rw[dF hk,cF];exact⟨(3+(code.length:Int)/12).toNat,by rw[Int.toNat_of_nonneg (by omega)],by omega⟩
theorem Qv {α β:Type} (l:List α) (i:Int) (f:α->Option β):((ix l.length i).bind λj=>(l[j]?).bind f)=(at? l i).bind f:=by
 unfold ix at?;by_cases h0:0<=i
 · rw[if_pos h0,if_pos h0];by_cases h1:i<(l.length:Int)
   · rw[if_pos h1,an]
   · rw[if_neg h1,List.getElem?_eq_none (by omega)];rfl
 · rw[if_neg h0,if_neg h0];rfl
theorem Se:jp=gk:=rfl
theorem PR:dk=aA:=rfl
theorem TB {b:vw} (h:yb b) (o:List Int):gU b o=bL b o:=by
 unfold gU bL;rw[HM h];cases cf b with
 | none=>rfl
 | some l =>
  have hs:(λz:Int×Int×Int×List UInt8×List Int×List Int=>jq o l z.1 z.2.1 z.2.2.1 z.2.2.2.1 z.2.2.2.2.1 z.2.2.2.2.2)=λz=>cJ o l z.1 z.2.1 z.2.2.1 z.2.2.2.1 z.2.2.2.2.1 z.2.2.2.2.2:=by
   funext z
   unfold jq cJ;simp only[Qv,Se];cases at? l z.1<;>rfl
  rw[an,an,hs];unfold br;simp only[Option.bind_assoc,an]
theorem UH {b:vw} (h:yb b) (o:List Int):gW b o=cI b o:=by
 unfold gW cI;rw[HM h];cases cf b with
 | none=>rfl
 | some l =>
  have hs:(λz:Int×Int×Int×List UInt8×List Int=>jr o l z.1 z.2.1 z.2.2.1 z.2.2.2.1 z.2.2.2.2)=λz=>bK o l z.1 z.2.1 z.2.2.1 z.2.2.2.1 z.2.2.2.2:=by
   funext z
   unfold jr bK;simp only[Qv,PR];cases at? l z.1<;>rfl
  rw[an,an,hs]
def FM (b:vw) (x:vB):Prop:=z9 x.1=true/\(x.2.1=130->xr b x.1=x)
theorem OC {b:vw} (h:wH b) {o:List Int} (ho:z9 o=true):FM b (xr b o):=by
 refine⟨zc (Fj h ho),λhk=>?_⟩;obtain⟨_,h1⟩:=Hg h (o:=o) (by have:=Aj ho;omega);rcases h1 with ⟨h1,_⟩|⟨h1,h2⟩
 · exfalso;have hv:∀v:zj,Vl v->v.1≠130:=λv hv=>by cases hv<;>simp
   exact hv _ (Cz h _ h1).2 hk
 · rw[h1];exact h1
theorem Iz {b:vw} {o:List Int} (ho:z9 o=true):FM b (o,5,0,[],[]):=⟨ho,λhk=>by have hk:(5:Int)=130:=hk;omega⟩
noncomputable def xd (b:vw) (l:List vB):List vB:=l.map λx=>xr b x.1
theorem OD {b:vw} {x:vB} (h:FM b x):(cond (x.2.1==130) x (xr b x.1))=xr b x.1:=by
 cases hk:x.2.1==130 with
 | true=>rw[cT];exact (h.2 (by simpa using hk)).symm
 | false=>rfl
noncomputable def An (b:vw):Nat->List vB×List vB->List vB×List vB
 | 0,s=>s
 | n+1,s=>if 0<s.2.length/\s.1.length<10 then An b n (s.1++xd b s.2,xd b s.2)else s
theorem Nf {b:vw}:∀(n:Nat) {s:List vB×List vB},10<=s.1.length->An b n s=s
 | 0,s,_=>rfl
 | n+1,s,h=>if_neg (by omega)
theorem OE {b:vw}:∀(n:Nat) {s:List vB×List (List Int)},10<=s.1.length->CE b n s=s
 | 0,s,_=>rfl
 | n+1,s,h=>if_neg (by omega)
theorem IA {b:vw}:∀(n:Nat) (out T:List vB),out.length<=10->(CE b n (out,T.map λx=>x.1)).1=(An b n (out,T)).1.take 10
 | 0,out,T,h=>(take_of_length_le h).symm
 | n+1,out,T,h=>by
  by_cases hc:0<T.length/\out.length<10
  · have e1:CE b (n+1) (out,T.map λx=>x.1)=CE b n (Dd b (out,T.map λx=>x.1)):=if_pos (by simpa using hc);have e2:An b (n+1) (out,T)=An b n (out++xd b T,xd b T):=if_pos hc
    rw[e1,e2];by_cases hle:out.length+T.length<=10
    · have hm:AY (out,T.map λx=>x.1)=T.length:=by unfold AY;simp only[length_map];omega
      have e3:Dd b (out,T.map λx=>x.1)=(out++xd b T,(xd b T).map λx=>x.1):=by
       unfold Dd xd;simp only[hm];rw[take_of_length_le (by simp),List.drop_of_length_le (by simp),append_nil,map_map,map_map,map_map];rfl
      rw[e3];exact IA n _ _ (by rw[length_append];unfold xd;rw[length_map];omega)
    · have hm:AY (out,T.map λx=>x.1)=10-out.length:=by unfold AY;simp only[length_map];omega
      have hl1:(Dd b (out,T.map λx=>x.1)).1.length=10:=by
       show (out++((T.map λx=>x.1).take (AY (out,T.map λx=>x.1))).map (xr b)).length=10;rw[hm,length_append,length_map,length_take,length_map];omega
      rw[OE n (by omega),Nf n (by show 10<=(out++xd b T).length;rw[length_append];unfold xd;rw[length_map];omega)];show out++((T.map λx=>x.1).take (AY (out,T.map λx=>x.1))).map (xr b)=(out++xd b T).take 10
      rw[hm,List.take_append,take_of_length_le h];unfold xd;rw[←List.map_take,←List.map_take,map_map];rfl
  · have e1:CE b (n+1) (out,T.map λx=>x.1)=(out,T.map λx=>x.1):=if_neg (by simpa using hc);have e2:An b (n+1) (out,T)=(out,T):=if_neg hc
    rw[e1,e2];exact (take_of_length_le h).symm

theorem Ng {p:wd} (hp:yj M p):ez p=some (xm p):=by
 unfold ez;rw[M8 hp,an];show (ae ((AB p).length:Int) 1 120).bind _=_
 rw[AG,an];rfl
def named (l:List vB):List vB:=l.map λx=>(x.1,5,0,[],[])
theorem OF {l:List vB} (hn:l.length<=M):dl l=some (named l):=by
 have hM:M=1048576:=rfl;unfold dl named;refine wa (E2 (g:=λx:vB=>((x.1,5,0,[],[]):vB)) hn (λk hk out ho=>?_) (λout=>?_)) rfl
 · show fL l (k:Int) out=_;unfold fL;rw[wm (by omega),cT,vL hk,an,vF (by rw[ho];show k+1<=_;omega),an,vK (by omega)]
 · show fL l (l.length:Int) out=_;unfold fL;rw[wg (by omega),cF]
theorem KW {b:vw} (h:wH b) {l:List vB} (hn:l.length<=1000) (hT:∀x∈l,FM b x):bD b l=some (xd b l):=by
 unfold bD xd;refine wa (E2 (g:=λx:vB=>xr b x.1) (by show _<=1048576;omega) (λk hk out ho=>?_) (λout=>?_)) rfl
 · have hx:=hT _ (getElem_mem hk);have e:=OD hx
   show fK b l (k:Int) out=_;unfold fK;rw[wm (by omega),cT,vL hk,an,an,an,TB h.w,(Hg h (by have:=Aj hx.1;omega)).1,an,vK (by omega)];cases hk':l[k].2.1==130 with
   | true =>
    rw[hk',cT]at e;rw[cT,vF (by rw[ho];show k+1<=_;omega),an,←e]
   | false=>rw[cF,vF (by rw[ho];show k+1<=_;omega),an]
 · show fK b l (l.length:Int) out=_;unfold fK;rw[wg (by omega),cF]
theorem Nh {b:vw} (h:wH b) {l:List vB} (hT:∀x∈l,FM b x):∀x∈xd b l,FM b x:=by
 intro x hx;obtain⟨y,hy,rfl⟩:=mem_map.1 hx;exact OC h (hT y hy).1
theorem Qw {b:vw} (h:wH b) {p:wd} (hB:p.2.2.2.1<=1000):∀(n i:Nat) (out T:List vB),T.length<=10->out.length<=10+10*i->(∀x∈T,FM b x)->((i+n:Nat):Int)=p.2.2.2.1->loop (λz=>bT b p z.1 z.2.1 z.2.2) (T,(i:Int),out)=some (An b n (out,T)).1
 | 0,i,out,T,h1,h2,hT,e=>by
  refine wj ?_;show bT b p T (i:Int) out=_
  unfold bT;rw[wg (by omega),cF,an,cF,an,cF];rfl
 | n+1,i,out,T,h1,h2,hT,e=>by
  by_cases hc:0<T.length/\out.length<10
  · have hnl:(xd b T).length=T.length:=by unfold xd;rw[length_map]
    refine w9 (y:=(xd b T,((i+1:Nat):Int),out++xd b T)) ?_ ?_
    · show bT b p T (i:Int) out=_;unfold bT;rw[wm (by omega),cT,dT (by omega),an,cT,wm (by omega),an,cT,KW h (by omega) hT,an,vF (by rw[hnl];omega),an,vK (by omega)]
    · rw[Qw h hB n (i+1) _ _ (by rw[hnl];exact h1) (by rw[length_append,hnl];omega) (Nh h hT) (by omega),show An b (n+1) (out,T)=An b n (out++xd b T,xd b T)from if_pos hc]
  · refine wj ?_;show bT b p T (i:Int) out=_
    have e2:An b (n+1) (out,T)=(out,T):=if_neg hc;rw[e2];unfold bT;rw[wm (by omega),cT];by_cases h1:0<T.length
    · rw[dT (by omega),an,cT,wg (by omega),an,cF]
    · rw[dF (by omega),an,cF,an,cF]
theorem JF {b:vw}:∀(n:Nat) (out T:List vB),T.length<=10->out.length<=20->(An b n (out,T)).1.length<=20
 | 0,out,T,_,h=>h
 | n+1,out,T,hT,h=>by
  by_cases hc:0<T.length/\out.length<10
  · rw[show An b (n+1) (out,T)=An b n (out++xd b T,xd b T)from if_pos hc];have hnl:(xd b T).length=T.length:=by unfold xd;rw[length_map]
    exact JF n _ _ (by omega) (by rw[length_append,hnl];omega)
  · rw[show An b (n+1) (out,T)=(out,T)from if_neg hc];exact h
theorem Sg {b:vw} (h:wH b) {p:wd} (hp:xG p=true):gV b p=some (zy b p):=by
 obtain⟨x1,x2,_,_,x5,x6⟩:=yM hp;have hM:M=1048576:=rfl
 have hnl:(named p.2.2.2.2).length=p.2.2.2.2.length:=by unfold named;rw[length_map]
 have hTold:∀x∈named p.2.2.2.2,FM b x:=by
  intro x hx;obtain⟨y,hy,rfl⟩:=mem_map.1 hx;exact Iz (zc (x1 y hy))
 have hon:xh p<=p.2.2.2.2.length:=Nat.min_le_right _ _;have hout:xd b ((named p.2.2.2.2).take (xh p))=(p.2.2.2.2.take (xh p)).map (λx=>xr b x.1):=by
  unfold xd named;rw[←List.map_take,map_map];rfl
 have hlast:((named p.2.2.2.2).drop (xh p)).map (λx=>x.1)=(p.2.2.2.2.drop (xh p)).map (λx=>x.1):=by
  unfold named;rw[←List.map_drop,map_map];rfl
 have hol:(xd b ((named p.2.2.2.2).take (xh p))).length<=10:=by rw[hout,length_map,length_take];omega
 have hTl:((named p.2.2.2.2).drop (xh p)).length<=10:=by rw[length_drop];omega
 have hrun:=Qw h (p:=p) (by omega) p.2.2.2.1.toNat 0 (xd b ((named p.2.2.2.2).take (xh p))) ((named p.2.2.2.2).drop (xh p)) hTl (by omega) (λx hx=>hTold x (List.mem_of_mem_drop hx)) (by omega);have hv:zy b p=(An b p.2.2.2.1.toNat (xd b ((named p.2.2.2.2).take (xh p)),(named p.2.2.2.2).drop (xh p))).1.take 10:=by
  unfold zy NQ;rw[←hout,←hlast];exact IA _ _ _ hol
 have hlen:=JF (b:=b) p.2.2.2.1.toNat _ _ hTl (show (xd b ((named p.2.2.2.2).take (xh p))).length<=20 by omega);have fin:∀k:Int,k=((xh p:Nat):Int)->((dl p.2.2.2.2).bind λt22 =>
  (xR t22.length 0 k).bind λq =>
  (bD b ((t22.take q.2).drop q.1)).bind λt27 =>
  (cut t22 k (t22.length:Int)).bind λt30 =>
  (loop (λz=>bT b p z.1 z.2.1 z.2.2) (t30,0,t27)).bind λd =>
  cond (decide ((d.length:Int)>10))
   ((xR d.length 0 10).bind λp_1 =>
   some ((d.take p_1.2).drop p_1.1))
   (some d))=some (zy b p):=by
  rintro k rfl;rw[OF (by omega),an,show (0:Int)=((0:Nat):Int)from rfl,CC (by omega) (by rw[hnl];exact hon),an];show (bD b (((named p.2.2.2.2).take (xh p)).drop 0)).bind _=_
  rw[drop_zero,KW h (by rw[length_take];omega) (λx hx=>hTold x (mem_of_mem_take hx)),an,yw (by rw[hnl];exact hon) (Nat.le_refl _),an,take_length];refine wa hrun ?_;rw[hv];generalize (An b p.2.2.2.1.toNat (xd b ((named p.2.2.2.2).take (xh p)),(named p.2.2.2.2).drop (xh p))).1=d at hlen;by_cases hd:(d.length:Int)>10
  · rw[dT hd,cT,show (10:Int)=((10:Nat):Int)from rfl,CC (by omega) (by omega),an];rfl
  · rw[dF hd,cF,take_of_length_le (by omega)]
 unfold gV;by_cases hc:p.2.2.1>(p.2.2.2.2.length:Int)
 · rw[dT hc,cT];exact fin _ (by unfold xh;omega)
 · rw[dF hc,cF];exact fin _ (by unfold xh;omega)
theorem OG (k i a c:Int) (bulk:Bool):∀(n:Nat) (l:List vB),l.length=n->n<=10->(∀x∈l,GL M x) ->
 ∃t,loop (λz:wd=>cu bulk z.1 z.2.1 z.2.2.1 z.2.2.2.1 z.2.2.2.2) (k,i,a,c,l)=some (k,i,a,c,t)/\yj M (k,i,a,c,t) /\
  ((xm (k,i,a,c,l)=true/\t=l)\/(xm (k,i,a,c,l)=false/\((bulk=true/\xm (k,i,a,c,t)=true/\shr (λt=>xm (k,i,a,c,t)) n l=some t)\/(xm (k,i,a,c,t)=false/\(bulk=true->shr (λt=>xm (k,i,a,c,t)) n l=none)))))
 | n,l,hl,hn,hx=>by
  have hp:yj M (k,i,a,c,l):=⟨by show l.length<=1048576;omega,hx⟩;have hstep:∀q:Bool,xm (k,i,a,c,l)=q->cu bulk k i a c l=cond (bulk&&(!q&&decide ((l.length:Int)>0))) ((xR l.length 0 (vA ((l.length:Int)-1))).bind λp=>some (.inl (k,i,a,c,(l.take p.2).drop p.1))) (some (.inr (k,i,a,c,l))):=by
   intro q hq;unfold cu;rw[Ng hp,hq];cases bulk<;>cases q<;>rfl
  cases hf:xm (k,i,a,c,l)with
  | true =>
   refine⟨l,wj ?_,hp,.inl ⟨rfl,rfl⟩⟩;show cu bulk k i a c l=_
   rw[hstep true hf];cases bulk<;>rfl
  | false =>
   cases hb:bulk with
   | false =>
    subst hb;refine⟨l,wj ?_,hp,.inr ⟨rfl,.inr ⟨hf,(λh=>by cases h)⟩⟩⟩;show cu false k i a c l=_
    rw[hstep false hf];rfl
   | true =>
    subst hb
    match n,hl,hn with
    | 0,hl,hn =>
     refine⟨l,wj ?_,hp,.inr ⟨rfl,.inr ⟨hf,λ_=>rfl⟩⟩⟩;show cu true k i a c l=_
     rw[hstep false hf,dF (by omega)];rfl
    | n+1,hl,hn =>
     have hlt:(l.take n).length=n:=by rw[length_take];omega
     have hs:cu true k i a c l=some (.inl (k,i,a,c,l.take n)):=by
      rw[hstep false hf,dT (by omega)];show ((xR l.length 0 (vA ((l.length:Int)-1))).bind _)=_
      rw[vW (by omega) (by omega),show (l.length:Int)-1=((n:Nat):Int) by omega,show (0:Int)=((0:Nat):Int)from rfl,CC (by omega) (by omega),an];rfl
     obtain⟨t,t1,t2,t3⟩:=OG k i a c true n (l.take n) hlt (by omega) (λx h=>hx x (mem_of_mem_take h));refine⟨t,w9 hs t1,t2,.inr ⟨rfl,?_⟩⟩;rcases t3 with ⟨u1,rfl⟩|⟨u1,⟨_,u2,u3⟩|⟨u2,u3⟩⟩
     · exact .inl ⟨rfl,u1,if_pos u1⟩
     · exact .inl ⟨rfl,u2,by rw[show shr (λt=>xm (k,i,a,c,t)) (n+1) l=shr (λt=>xm (k,i,a,c,t)) n (l.take n)from if_neg (show ¬xm (k,i,a,c,l.take n)=true by rw[u1];simp)];exact u3⟩
     · exact .inr ⟨u2,λ_=>by rw[show shr (λt=>xm (k,i,a,c,t)) (n+1) l=shr (λt=>xm (k,i,a,c,t)) n (l.take n)from if_neg (show ¬xm (k,i,a,c,l.take n)=true by rw[u1];simp)];exact u3 rfl⟩
noncomputable def DX (i a c:Int) (bulk:Bool) (l:List vB):wd :=
 cond (xm (162,i,a,c,l)) (162,i,a,c,l) (match cond bulk (shr (λt=>xm (162,i,a,c,t)) l.length l) none with|some t=>(162,i,a,c,t)|none=>(162,i,7,0,[]))
theorem KY (i a c:Int) (bulk:Bool) {l:List vB} (hn:l.length<=10) (hx:∀x∈l,GL M x):dj (162,i,a,c,l) bulk=some (DX i a c bulk l):=by
 obtain⟨t,t1,t2,t3⟩:=OG 162 i a c bulk l.length l rfl hn hx;unfold dj DX;refine wa t1 ?_;rw[Ng t2,an];rcases t3 with ⟨u1,rfl⟩|⟨u1,⟨rfl,u2,u3⟩|⟨u2,u3⟩⟩
 · rw[u1,cT,cT]
 · rw[u1,u2,cT,cF,cT,u3]
 · rw[u1,u2,cF,cF];cases bulk with
   | true=>rw[cT,u3 rfl]
   | false=>rfl
theorem TC {b:vw} (h:wH b) {p:wd} (hp:xG p=true) (h163:(p.1==163)=false) (hk:(p.1 != 162)=true):∃l,gX b p=some l/\AZ b p=(b,162,p.2.1,0,0,l)/\l.length<=10/\∀x∈l,GL M x:=by
 obtain⟨x1,x2,_⟩:=yM hp;have hM:M=1048576:=rfl
 unfold gX AZ;cases h161:(p.1==161)with
 | true =>
  have h160:(p.1==160)=false:=by simp only[beq_iff_eq]at h161;rw[h161];rfl
  have hTold:∀x∈named p.2.2.2.2,FM b x:=by
   intro x hx;obtain⟨y,hy,rfl⟩:=mem_map.1 hx;exact Iz (zc (x1 y hy))
  have he:xd b (named p.2.2.2.2)=p.2.2.2.2.map λx=>xr b x.1:=by unfold xd named;rw[map_map];rfl
  simp only[cT,cF,h160];rw[OF (by omega),an,KW h (by unfold named;rw[length_map];omega) hTold,an,he];refine⟨_,rfl,rfl,by rw[length_map];exact x2,λx hx=>?_⟩;obtain⟨y,hy,rfl⟩:=mem_map.1 hx;exact yN (Fj h (zc (x1 y hy)))
 | false =>
 cases h165:(p.1==165)with
 | true =>
  have h160:(p.1==160)=false:=by simp only[beq_iff_eq]at h165;rw[h165];rfl
  have hbk:=Mw h hp;simp only[cT,cF,h160];rw[Sg h hp,an];exact⟨_,rfl,rfl,hbk.o10,λx hx=>yN (hbk.oOk x hx)⟩
 | false =>
  have h160:(p.1==160)=true:=by
   rcases PJ hp with e|e|e|e|e
   · rw[e];rfl
   · rw[e]at h161;cases h161
   · rw[e]at hk;cases hk
   · rw[e]at h163;cases h163
   · rw[e]at h165;cases h165
  simp only[cT,cF,h160];have e:loop (λz:Int×List vB=>eA b p z.1 z.2) (0,[])=some (p.2.2.2.2.map λx=>((x.1,E3 b x.1):vB)):=by
   refine E2 (by omega) (λk hk' out ho=>?_) (λout=>?_)
   · have hx:=Aj (zc (x1 _ (getElem_mem hk')));show eA b p (k:Int) out=_
     unfold eA;rw[wm (by omega),cT,vL hk',an,vF (by show 0+_<=_;omega),an,an,UH h.w,(Qo h (by omega)).1,an,vF (by rw[ho];show k+1<=_;omega),an,vK (by omega)];rfl
   · show eA b p (p.2.2.2.2.length:Int) out=_;unfold eA;rw[wg (by omega),cF]
  rw[e,an];refine⟨_,rfl,rfl,by rw[length_map];exact x2,λx hx=>?_⟩;obtain⟨y,hy,rfl⟩:=mem_map.1 hx;exact yN (by unfold zE;rw[zc (x1 y hy),QQ h (by have:=Aj (zc (x1 y hy));omega)];rfl)
theorem LL {b:vw} {p:wd} {l:List vB} (ha:AZ b p=(b,162,p.2.1,0,0,l)) (hl:(p.1==165)=true->l=zy b p):zM b p=(b,DX p.2.1 0 0 (p.1==165) l):=by
 unfold zM Cq DX;rw[ha];simp only;cases xm (162,p.2.1,0,0,l)with
 | true=>rfl
 | false =>
  rw[cF,cF];cases h165:(p.1==165)with
  | true=>rw[cT,cT,hl h165];cases shr (λt=>xm (162,p.2.1,0,0,t)) (zy b p).length (zy b p)<;>rfl
  | false=>rfl
theorem Sh {b:vw} (h:wH b) {p:wd} (hp:xG p=true) (h163:(p.1==163)=true):fJ b p=some (zM b p):=by
 have hxs:=GU hp;have hM:M=1048576:=rfl
 have h10:=(yM hp).2.1;obtain⟨r,r1,r2,_,_,r5⟩:=Jc h.w h.le hxs;have hr:EJ b p.2.2.2.2=r:=by unfold EJ;rw[r1];rfl
 have h160:(p.1==160)=false:=by simp only[beq_iff_eq]at h163;rw[h163];rfl
 have h161:(p.1==161)=false:=by simp only[beq_iff_eq]at h163;rw[h163];rfl
 have h165:(p.1==165)=false:=by simp only[beq_iff_eq]at h163;rw[h163];rfl
 have ha:AZ b p=(r.1,162,p.2.1,r.2.1,r.2.2,p.2.2.2.2):=by unfold AZ;rw[h160,h161,h165,hr];rfl
 have hless:Cq b p=(b,162,p.2.1,7,0,[]):=by unfold Cq;rw[h165];rfl
 unfold fJ zM;rw[Dt hxs,an,r2,an,Ng (p:=(162,p.2.1,r.2.1,r.2.2,p.2.2.2.2)) ⟨hxs.1,hxs.2⟩,an,ha,hless];simp only;have hb:∀q:Bool,xm (162,p.2.1,r.2.1,r.2.2,p.2.2.2.2)=q->((ak b).bind λt36=>(dj (162,p.2.1,r.2.1,r.2.2,p.2.2.2.2) false).bind λt38=>some (t36,t38))=some (b,cond q (162,p.2.1,r.2.1,r.2.2,p.2.2.2.2) (162,p.2.1,7,0,[])):=by
  intro q hq;rw[xe h.le,an,KY _ _ _ _ h10 hxs.2,an];unfold DX;rw[hq];rfl
 cases hf:xm (162,p.2.1,r.2.1,r.2.2,p.2.2.2.2)with
 | false=>rw[Bool.not_false,cT,an,cT,hb false hf];rfl
 | true =>
  rw[Bool.not_true,cF,an];cases hc:(r.2.1 != 0)with
  | false=>rfl
  | true =>
   rw[cT,hb true hf];rcases r5 with ⟨r6,_⟩|⟨r6,_⟩
   · rw[r6]at hc;cases hc
   · rw[r6];rfl
theorem Si {b:vw} (h:yb b) (hb:z7 M b) {p:wd} (hp:yj M p):gY b p=some (xH b p):=by
 unfold gY jk xH E4;rw[Bx h,an,xe hb];cases hbr:wq b with
 | false=>rfl
 | true =>
 rw[cT,NE hp,an,an];cases hpp:xG p with
 | false=>rfl
 | true =>
 cases hk:(p.1 != 162)with
 | false=>rfl
 | true =>
 have hBO:=BK h hbr;simp only[Bool.and_true,cT,an,Bool.not_true,cF];cases h163:(p.1==163)with
 | true=>rw[cT,Sh hBO hpp h163,an]
 | false =>
  obtain⟨l,e1,e2,e3,e4⟩:=TC hBO hpp h163 hk;have hl:(p.1==165)=true->l=zy b p:=by
   intro h165;have h160:(p.1==160)=false:=by simp only[beq_iff_eq]at h165;rw[h165];rfl
   have h161:(p.1==161)=false:=by simp only[beq_iff_eq]at h165;rw[h165];rfl
   have:AZ b p=(b,162,p.2.1,0,0,zy b p):=by unfold AZ;rw[h160,h161,h165];rfl
   rw[e2]at this;simpa using this
  rw[cF,e1,an,Dt ⟨by show l.length<=1048576;omega,e4⟩,an,KY _ _ _ _ e3 e4,an,LL e2 hl]

theorem Ni {b:vw} {w:List UInt8} {l:List wM} {lo la:Int} {k:Nat} (hk:k<l.length) (hl:l.length<=M):eD (xa b w l lo la) (k:Int)=some (xa b w (l.eraseIdx k) lo la):=by
 have hM:M=1048576:=rfl;have c1:xR l.length 0 (k:Int)=some (0,k):=by
  unfold xR;rw[if_pos (by omega),if_pos (by omega),if_pos (by omega)];simp
 have c2:xR l.length (vA ((k:Int)+1)) (l.length:Int)=some (k+1,l.length):=by
  rw[vK (by omega)];unfold xR;rw[if_pos (by omega),if_pos (by omega),if_pos (by omega)];simp
 have c3:vS ([]:List wM) ((l.take k).drop 0)=some (l.take k):=by
  rw[drop_zero,vF (by rw[length_take];show 0+_<=_;omega)];rfl
 have c4:vS (l.take k) ((l.take l.length).drop (k+1))=some (l.eraseIdx k):=by
  rw[take_length,vF (by rw[length_take,length_drop];omega),←List.eraseIdx_eq_take_drop_succ]
 unfold eD xa;simp only[c1,an,c2,c3,c4]
theorem OH {b:vw} (hb:z7 M b) {w:List UInt8} {l:List wM} {lo la:Int} {k:Nat} (hk:k<l.length):fO (xa b w l lo la) (k:Int)=some (xa b w (l.set k (Jg b l[k])) lo la):=by
 have cb:=xe hb;unfold fO xa;simp only[xJ hk,an];have cb':ak (b.1,b.2.1,b.2.2.1,b.2.2.2.1,b.2.2.2.2.1,b.2.2.2.2.2.1,b.2.2.2.2.2.2.1,b.2.2.2.2.2.2.2.1,b.2.2.2.2.2.2.2.2.1,b.2.2.2.2.2.2.2.2.2.1,b.2.2.2.2.2.2.2.2.2.2)=some b:=cb
 simp only[cb',an,List.getElem?_eq_getElem hk,length_set,xJ hk,List.getElem?_set_self hk,set_set];rfl
theorem KZ {n:Int} (h:vE n 0 1000000=true):aK n=some (Ao n):=by
 obtain⟨r,r1,r2,_⟩:=K4 h;rw[r2,←r1,CO]
theorem PS {b:vw} (hb:z7 M b) (hc:ya b=true) {w:List UInt8} {l:List wM} {lo la:Int} {k:Nat} (hk:k<l.length) (hl:l.length<=M) (h1:xL l[k].2.1) (h2:l[k].2.1.length<=M) :
 eE (xa b w l lo la) (k:Int)=some (cond ((wR w l[k].2.1).2==3) (xa (Ew b) w (l.eraseIdx k) lo la)
  (cond ((wR w l[k].2.1).2 != 0||((wR w l[k].2.1).1.1==162)) (xa (D2 b) w (l.eraseIdx k) lo la) (xa b w (l.set k (zz l[k].1 l[k].2.1 1 (wR w l[k].2.1).1 b 0 (wv l[k]))) lo la))):=by
 obtain⟨_,m1,m3,_⟩:=Qp w h1 h2;obtain⟨_,hp,hw,_⟩:=zo hc;unfold eE;have d1:=Ni (b:=Ew b) (w:=w) (lo:=lo) (la:=la) hk hl
 have d2:=Ni (b:=D2 b) (w:=w) (lo:=lo) (la:=la) hk hl;unfold Ew xa at d1;unfold D2 xa at d2;dsimp only[xa];simp only[xJ hk,an,List.getElem?_eq_getElem hk,m1,KZ hp,KZ hw];rw[d1,d2];have hs:k<(l.set k (zz l[k].1 l[k].2.1 l[k].2.2.1 (wR w l[k].2.1).1 (jB l[k]) (zq l[k]) (wv l[k]))).length:=by rw[length_set];exact hk
 have e:=OH hb (w:=w) (lo:=lo) (la:=la) hs;unfold xa at e;have e2:Jg b (l.set k (zz l[k].1 l[k].2.1 l[k].2.2.1 (wR w l[k].2.1).1 (jB l[k]) (zq l[k]) (wv l[k])))[k]=zz l[k].1 l[k].2.1 1 (wR w l[k].2.1).1 b 0 (wv l[k]):=by
  rw[List.getElem_set_self];rfl
 rw[e2,set_set]at e;cases h0:((wR w l[k].2.1).2==0)with
 | true =>
  have h3:((wR w l[k].2.1).2==3)=false:=by
   have:(wR w l[k].2.1).2=0:=by simpa using h0
   rw[this];rfl
  have hn:((wR w l[k].2.1).2 != 0)=false:=by rw[bne,h0];rfl
  rw[h3,hn];simp only[cT,cF,an,Bool.false_or,bne];cases ((wR w l[k].2.1).1.1==162)with
  | true=>rfl
  | false =>
   simp only[Bool.not_false,cT,cF];refine (congrArg (λo=>Option.bind o λt=>some t) e).trans ?_;rfl
 | false =>
  have hn:((wR w l[k].2.1).2 != 0)=true:=by rw[bne,h0];rfl
  rw[hn];simp only[cT,cF,an,Bool.true_or];cases ((wR w l[k].2.1).2==3)<;>rfl
theorem PT {b:vw} {w:List UInt8} {l:List wM} {lo la:Int} {k:Nat} (hk:k<l.length) (hl:l.length<=M) (p:wd):eF (xa b w l lo la) (k:Int) p=some (xa b w (l.eraseIdx k) lo la,[(l[k].1,p)]):=by
 have d:=Ni (b:=b) (w:=w) (lo:=lo) (la:=la) hk hl;have c0:ix (xa b w l lo la).2.2.2.2.2.2.2.2.2.2.2.2.1.length (k:Int)=some k:=xJ hk
 have c1:(xa b w l lo la).2.2.2.2.2.2.2.2.2.2.2.2.1[k]?=some l[k]:=List.getElem?_eq_getElem hk;unfold eF;rw[c0,an,c1,an,d];rfl
theorem Nj (p:wd):DX p.2.1 6 1 false p.2.2.2.2=AM p:=by
 unfold DX AM;cases xm (162,p.2.1,6,1,p.2.2.2.2)<;>rfl
theorem TD {b:vw} (hB:wH b) {w:List UInt8} {l:List wM} {lo la:Int} {k:Nat} (hk:k<l.length) (hl:l.length<=M) (hp:xG (jP l[k])=true) (h163:((jP l[k]).1==163)=true) :
 hP (xa b w l lo la) (k:Int)=some (cond (b.2.2.2.2.2.2.2.2.2.2==(jB l[k]).2.2.2.2.2.2.2.2.2.2) (xa (xH b (jP l[k])).1 w (l.eraseIdx k) lo la,[(l[k].1,(xH b (jP l[k])).2.1)])
  (cond (decide (wv l[k]>=3)) (xa b w (l.eraseIdx k) lo la,[(l[k].1,AM (jP l[k]))])
   (xa b w (l.set k (zz l[k].1 l[k].2.1 1 (jP l[k]) b 0 (vA (wv l[k]+1)))) lo la,[]))):=by
 have hk162:((jP l[k]).1 != 162)=true:=by
  have:(jP l[k]).1=163:=by simpa using h163
  rw[this];rfl
 obtain⟨_,r1,r2,_⟩:=GD hB hp hk162;have hxs:=GU hp
 have h10:=(yM hp).2.1;have s1:=Sh hB hp h163
 have c0:ix (xa b w l lo la).2.2.2.2.2.2.2.2.2.2.2.2.1.length (k:Int)=some k:=xJ hk;have c1:(xa b w l lo la).2.2.2.2.2.2.2.2.2.2.2.2.1[k]?=some l[k]:=List.getElem?_eq_getElem hk
 unfold hP;rw[c0,an];simp only[c1,an];show cond (b.2.2.2.2.2.2.2.2.2.2==(jB l[k]).2.2.2.2.2.2.2.2.2.2) _ _=_
 cases hv:(b.2.2.2.2.2.2.2.2.2.2==(jB l[k]).2.2.2.2.2.2.2.2.2.2)with
 | true =>
  rw[cT,cT];refine wa (a:=zM b (jP l[k])) s1 ?_;have e:=PT (b:=(zM b (jP l[k])).1) (w:=w) (lo:=lo) (la:=la) hk hl (zM b (jP l[k])).2
  rw[r1,r2];exact wa e rfl
 | false =>
  rw[cF,cF];show cond (decide (wv l[k]>=3)) _ _=_
  cases hq:decide (wv l[k]>=3)with
  | true =>
   rw[cT,cT];refine wa (Dt hxs) ?_;refine wa (a:=AM (jP l[k])) ?_ ?_
   · have e:=KY (jP l[k]).2.1 6 1 false h10 hxs.2;rw[Nj]at e;exact e
   · exact wa (PT (b:=b) (w:=w) (lo:=lo) (la:=la) hk hl (AM (jP l[k]))) rfl
  | false =>
   simp only[cF];have hs:k<(l.set k (zz l[k].1 l[k].2.1 l[k].2.2.1 (jP l[k]) (jB l[k]) (zq l[k]) (vA (wv l[k]+1)))).length:=by rw[length_set];exact hk
   have e:=OH hB.le (w:=w) (lo:=lo) (la:=la) hs;unfold xa at e;have e2:Jg b (l.set k (zz l[k].1 l[k].2.1 l[k].2.2.1 (jP l[k]) (jB l[k]) (zq l[k]) (vA (wv l[k]+1))))[k]=zz l[k].1 l[k].2.1 1 (jP l[k]) b 0 (vA (wv l[k]+1)):=by
    rw[List.getElem_set_self];rfl
   rw[e2,set_set]at e;refine (congrArg (λo=>Option.bind o λt=>some (t,([]:List wU))) e).trans ?_;rfl
theorem TE {a:vO} (h:xk a) {k:Nat} (hk:k<(vC a).length):hU a (k:Int)=some (zX a k (vC a)[k]):=by
 have hJ:=h.j _ (getElem_mem hk);have hn:(vC a).length<=M:=by have:=h.n;show _<=1048576;omega
 have e1:=PS h.b.le (AF h.b.ok).1 (w:=aW a) (l:=vC a) (lo:=wS a) (la:=we a) hk hn hJ.byt hJ.len;have c0:ix a.2.2.2.2.2.2.2.2.2.2.2.2.1.length (k:Int)=some k:=xJ hk
 have c1:a.2.2.2.2.2.2.2.2.2.2.2.2.1[k]?=some (vC a)[k]:=List.getElem?_eq_getElem hk;have e1:eE a (k:Int)=_:=e1
 unfold hU zX zA;rw[c0,an];simp only[c1,an];rcases KO hJ with hp|hp|hp
 · rw[hp];show ((eE a (k:Int)).bind _)=_
   rw[e1,an];cases ((wR (aW a) (vC a)[k].2.1).2==3)with
   | true=>rfl
   | false=>cases ((wR (aW a) (vC a)[k].2.1).2 != 0||((wR (aW a) (vC a)[k].2.1).1.1==162))<;>rfl
 · rw[hp];simp only[show ((1:Int)==0)=false from rfl,show ((1:Int)==1)=true from rfl,show ((1:Int)==2)=false from rfl,cT,cF,an];show cond (decide (zq (vC a)[k]<((jP (vC a)[k]).2.2.2.2.length:Int))) _ _=_
   cases hd:decide (zq (vC a)[k]<((jP (vC a)[k]).2.2.2.2.length:Int))with
   | true=>rw[cT];exact congrArg some (by simp only[cT];rfl)
   | false=>rw[cF];exact congrArg some (by simp only[cF];rfl)
 · obtain⟨q1,q2,q3⟩:=hJ.ok.resolve_left (by rw[hp];decide);rw[hp];simp only[show ((2:Int)==0)=false from rfl,show ((2:Int)==1)=false from rfl,show ((2:Int)==2)=true from rfl,cT,cF,an];show cond ((jP (vC a)[k]).1==163) _ _=_
   cases h163:((jP (vC a)[k]).1==163)with
   | true =>
    have hb:((vC a)[k].2.2.2.1 != 163)=false:=by rw[bne,show ((vC a)[k].2.2.2.1==163)=true from h163];rfl
    simp only[hb,cT,cF];refine wa (TD (b:=aB a) h.b (w:=aW a) (lo:=wS a) (la:=we a) hk hn q1 h163) ?_;cases ((aB a).2.2.2.2.2.2.2.2.2.2==(jB (vC a)[k]).2.2.2.2.2.2.2.2.2.2)with
    | true=>rfl
    | false=>cases decide (wv (vC a)[k]>=3)<;>rfl
   | false =>
    have hb:((vC a)[k].2.2.2.1 != 163)=true:=by rw[bne,show ((vC a)[k].2.2.2.1==163)=false from h163];rfl
    simp only[hb,cT,cF];refine wa (a:=xH (jB (vC a)[k]) (jP (vC a)[k])) (Si hJ.bw hJ.bl hJ.pl) ?_;exact wa (PT (b:=aB a) (w:=aW a) (lo:=wS a) (la:=we a) hk hn (xH (jB (vC a)[k]) (jP (vC a)[k])).2.1) rfl
theorem OI {a:vO} (h:xk a) {k:Nat} (hk:k<(vC a).length):bq a (k:Int)=some (zX a k (vC a)[k]):=by
 have hn:=h.n;unfold bq;rw[By h.ale,an,GQ h.awf,an,h.ok,Bool.not_true,cF];have hw:vA ((a.2.2.2.2.2.2.2.2.2.2.2.2.1.length:Int)-1)=((vC a).length:Int)-1:=vW (by show -9223372036854775808<=((vC a).length:Int)-1;omega) (by show ((vC a).length:Int)-1<=_;omega)
 rw[hw,AG,an,BD (by omega) (by omega),an,Bool.not_true,cF,TE h hk,an]
theorem M9 {a:vO} (h:xk a) {k:Int} (hk:k<0\/((vC a).length:Int)<=k):bq a k=some (a,[]):=by
 have hn:=h.n;unfold bq;rw[By h.ale,an,GQ h.awf,an,h.ok,Bool.not_true,cF];have hw:vA ((a.2.2.2.2.2.2.2.2.2.2.2.2.1.length:Int)-1)=((vC a).length:Int)-1:=vW (by show -9223372036854775808<=((vC a).length:Int)-1;omega) (by show ((vC a).length:Int)-1<=_;omega)
 have hp:vE k 0 (((vC a).length:Int)-1)=false:=by
  unfold vE;rcases hk with hk|hk
  · rw[dF (by omega)];rfl
  · rw[dF (show ¬k<=((vC a).length:Int)-1 by omega),Bool.and_false]
 rw[hw,AG,an,hp,an,Bool.not_false,cT]
theorem OJ {a:vO} (hw:IM a) (hl:Hv M a) (hb:∀j∈vC a,xL j.2.1) (k:Int):∃r,eN a k=some r/\bq a k=some r/\(yt a=true->xk r.1/\r.2.length<=1)/\(yt a=false->r=(a,[]))/\wS r.1=wS a/\we r.1=we a:=by
 cases hp:yt a with
 | false =>
  refine⟨(a,[]),?_,?_,(λh=>by cases h),λ_=>rfl,rfl,rfl⟩
  · unfold eN;rw[Ae hl,an,CY hw,an,hp];rfl
  · unfold bq;rw[By hl,an,GQ hw,an,hp];rfl
 | true =>
  have h:=J5 hw hl hb hp;by_cases hk:0<=k/\k<((vC a).length:Int)
  · obtain⟨n,rfl⟩:∃n:Nat,k=(n:Int):=⟨k.toNat,by omega⟩;have hn:n<(vC a).length:=by omega
    obtain⟨w1,w2⟩:=KP h hn;have hl:wS (zX a n (vC a)[n]).1=wS a/\we (zX a n (vC a)[n]).1=we a:=by
     rcases Ix h hn with ⟨j',e,_⟩|⟨b',d,e,_⟩<;>rw[e]<;>exact⟨rfl,rfl⟩
    exact⟨_,Tv h hn,OI h hn,λ_=>⟨w1,w2⟩,(λh=>by cases h),hl⟩
  · have hk':k<0\/((vC a).length:Int)<=k:=by omega
    exact⟨_,S8 h hk',M9 h hk',λ_=>⟨h,by simp⟩,(λh=>by cases h),rfl,rfl⟩

theorem L7 {a:vO} (h:yt a=true):(vC a).length<=6/\vE (wS a) 0 1000000=true/\vE (we a) 0 1000000=true:=by
 unfold yt at h;simp only[aT,decide_eq_true_eq]at h;obtain⟨_,_,_,h4,h5,h6⟩:=h;exact⟨by omega,h5,h6⟩
theorem Rr {a:vO} (ha:IM a) (hl:Hv M a) {b:List Int} (hb:b.length<=M):∃r,bA a b=some r/\bm a b=some r/\Hv M r:=by
 have hM:M=1048576:=rfl;unfold bA bm;rw[Ae hl,By hl,CY ha,GQ ha];simp only[an];cases hp:yt a with
 | false=>exact⟨_,rfl,rfl,hl⟩
 | true =>
  obtain⟨h1,h2,h3⟩:=L7 hp;obtain⟨m,m1,m2,_⟩:=K4 h2;have m1':az a.2.2.2.2.2.2.2.2.2.2.2.2.2.1=some m:=m1
  have m2':aK a.2.2.2.2.2.2.2.2.2.2.2.2.2.1=some m:=m2;simp only[Bool.not_true,cF,an,m1',m2',Bh hb,yS hb];have hn:(vC a).length<=1048576:=ha.n
  by_cases h6:((vC a).length:Int)>=6
  · have h6':decide ((a.2.2.2.2.2.2.2.2.2.2.2.2.1.length:Int)>=6)=true:=dT h6;rw[h6',cT,an,cT];exact⟨_,rfl,rfl,hl⟩
  · have h6':decide ((a.2.2.2.2.2.2.2.2.2.2.2.2.1.length:Int)>=6)=false:=dF h6;rw[h6',cF,an];cases decide (a.2.2.2.2.2.2.2.2.2.2.2.2.2.2>=1000000)with
    | true=>exact⟨_,rfl,rfl,hl⟩
    | false =>
     have hap:∀j:wM,vS a.2.2.2.2.2.2.2.2.2.2.2.2.1 [j]=some (a.2.2.2.2.2.2.2.2.2.2.2.2.1++[j]):=λj=>vF (by show (vC a).length+1<=_;omega);simp only[cF,hap,an];refine⟨_,rfl,rfl,hl.1,hl.2.1,?_,?_⟩
     · show (vC a++[_]).length<=1048576;rw[length_append];show (vC a).length+1<=_;omega
     · intro j hj;rcases mem_append.1 hj with hj|hj
       · exact hl.2.2.2 j hj
       · simp only[mem_singleton]at hj;subst hj;exact⟨hb,⟨by show 0<=1048576;decide,λx hx=>by cases hx⟩,by show 0<=1048576;decide,by show 0<=1048576;decide,by show 0<=1048576;decide,by show 0<=1048576;decide,by show 0<=1048576;decide⟩
theorem Ma {a:vO} (h:xk a) {m:List Int} (hm:m.length<=M):bm a m=bA a m:=by
 obtain⟨r,r1,r2,_⟩:=Rr h.awf h.ale hm;rw[r1,r2]
theorem H5 {a:vO} (h:xk a) {m:List Int} (hb:xL m) (hm:m.length<=M):∃r,bA a m=some r/\bm a m=some r/\xk r/\wS r+we r<=wS a+we a+1:=by
 by_cases hc:(vC a).length<6/\we a<1000000
 · have e:=Rl h hm hc.1 hc.2;exact⟨_,e,(Ma h hm).trans e,N9 h hb hm hc.1 hc.2,by show wS a+(we a+1)<=_;omega⟩
 · have e:=Rm h (m:=m) hc;refine⟨_,e,(Ma h hm).trans e,PN h,?_⟩;obtain⟨l1,l2⟩:=wu h.lo;show Ao (wS a)+we a<=_
   unfold Ao min2;rw[vW (by omega) (by omega)];split<;>omega
theorem OK {b:vw} (h:wH b) {w:List UInt8} (hw:w.length<=20):hZ b w=some (xa b w [] 0 0):=by
 unfold hZ;rw[Bx h.w,an,h.ok,Bool.not_true,cF,an,dF (by omega),cF,xe h.le,an];rfl
theorem UI {l:List vD} (hn:l.length<=1000):de l=some (l.filterMap xV):=by
 unfold de;obtain⟨v,e1,rfl⟩:=vR (step:=λz:Int×List vD=>aY l z.1 z.2) (λk z=>z=((k:Int),(l.take k).filterMap xV)) l.length (λv=>v=l.filterMap xV)
  (λk z hk e=>by
   subst e;refine .inl ⟨_,?_,rfl⟩;have hfl:((l.take k).filterMap xV).length<=k:=Nat.le_trans (List.length_filterMap_le _ _) (by rw[length_take];omega)
   have t1:l.take (k+1)=l.take k++[l[k]]:=by rw[take_add_one,List.getElem?_eq_getElem hk];rfl
   have t2:(l.take (k+1)).filterMap xV=(l.take k).filterMap xV++(match xV l[k]with|some y=>[y]|none=>[]):=by
    rw[t1,List.filterMap_append]
    congr 1
    cases hq:xV l[k]with
    | none=>rw[List.filterMap_cons_none hq];rfl
    | some y=>rw[List.filterMap_cons_some hq];rfl
   have ha:∀y:vD,vS ((l.take k).filterMap xV) [y]=some ((l.take k).filterMap xV++[y]):=λy=>vF (by show _+1<=_;omega);show aY l (k:Int) _=_
   unfold aY;rw[wm (by omega),cT,vL hk,an,vK (by omega),t2];cases hs:l[k].2.2.2.2 with
   | true =>
    have hq:xV l[k]=some l[k]:=by unfold xV;rw[hs];rfl
    rw[hq];simp only[cT,ha,an]
   | false =>
    simp only[cF];by_cases h4:l[k].2.2.2.1>=4
    · have hq:xV l[k]=none:=by unfold xV;rw[hs,dT h4];rfl
      rw[hq,wg (by omega)];simp only[cF,append_nil]
    · have hq:xV l[k]=some (l[k].1,l[k].2.1,l[k].2.2.1,vA (l[k].2.2.2.1+1),false):=by unfold xV;rw[hs,dF h4];rfl
      rw[hq,wm (by omega)];simp only[cT,ha,an])
  (λz e=>by
   subst e;refine⟨_,?_,rfl⟩;show aY l (l.length:Int) _=_
   unfold aY;rw[wg (by omega),cF,take_length]) (x:=(0,[])) rfl
 have e1:loop (λz=>aY l z.1 z.2) (0,[])=some (l.filterMap xV):=e1;rw[e1,an]
theorem OL {b:vw} (h:wH b):bW b=some (CL b):=by
 have hf:=Hc h.f;obtain⟨r,r1,r2,_⟩:=K5 (KT h);obtain⟨c1,_⟩:=zo (AF h.ok).1;have e:Am (JZ b)=r:=by unfold Am;rw[r1];rfl
 unfold bW CL;rw[xe h.le,an,Bx h.w,an,h.ok,Bool.not_true,cF,KZ c1,an,UI (by have:=hf.n;omega),an,e];have r2':bC (b.1,b.2.1,b.2.2.1,b.2.2.2.1.filterMap xV,b.2.2.2.2.1,b.2.2.2.2.2.1,Ao b.2.2.2.2.2.2.1,b.2.2.2.2.2.2.2.1,b.2.2.2.2.2.2.2.2.1,b.2.2.2.2.2.2.2.2.2.1,b.2.2.2.2.2.2.2.2.2.2)=some r:=r2
 rw[r2',an]
theorem OM {b:vw} (h:yb b) (hl:z7 M b):∃r,ck b=some r/\bW b=some r/\(wq b=true->wH r)/\(wq b=false->r=b):=by
 cases hp:wq b with
 | true =>
  have hB:=BK h hp;obtain⟨t1,t2,_⟩:=Nd hB;exact⟨_,t1,OL hB,λ_=>t2,(λh=>by cases h)⟩
 | false =>
  refine⟨b,?_,?_,(λh=>by cases h),λ_=>rfl⟩
  · unfold ck;rw[x7 hl,an,Az h,an,hp];rfl
  · unfold bW;rw[xe hl,an,Bx h,an,hp];rfl
abbrev Ur:=Int×List Int×Int×Int×Int×List UInt8×Int×Int×Int×Int×Int×List UInt8×Int×Int×List Pt×List vD×List vP×List Int×List wM
def EG (i:Int) (c:vM) (a:vO):Ur:=(i,c.1,c.2.1,c.2.2,a.1,a.2.1,a.2.2.2.2.2.2.1,a.2.2.2.2.2.2.2.1,a.2.2.2.2.2.2.2.2.1,a.2.2.2.2.2.2.2.2.2.1,a.2.2.2.2.2.2.2.2.2.2.1,a.2.2.2.2.2.2.2.2.2.2.2.1,a.2.2.2.2.2.2.2.2.2.2.2.2.2.1,a.2.2.2.2.2.2.2.2.2.2.2.2.2.2,a.2.2.1,a.2.2.2.1,a.2.2.2.2.1,a.2.2.2.2.2.1,a.2.2.2.2.2.2.2.2.2.2.2.2.1)
noncomputable def FO (z:Ur):=ib z.1 z.2.1 z.2.2.1 z.2.2.2.1 z.2.2.2.2.1 z.2.2.2.2.2.1 z.2.2.2.2.2.2.1 z.2.2.2.2.2.2.2.1 z.2.2.2.2.2.2.2.2.1 z.2.2.2.2.2.2.2.2.2.1 z.2.2.2.2.2.2.2.2.2.2.1 z.2.2.2.2.2.2.2.2.2.2.2.1 z.2.2.2.2.2.2.2.2.2.2.2.2.1 z.2.2.2.2.2.2.2.2.2.2.2.2.2.1 z.2.2.2.2.2.2.2.2.2.2.2.2.2.2.1 z.2.2.2.2.2.2.2.2.2.2.2.2.2.2.2.1 z.2.2.2.2.2.2.2.2.2.2.2.2.2.2.2.2.1 z.2.2.2.2.2.2.2.2.2.2.2.2.2.2.2.2.2.1 z.2.2.2.2.2.2.2.2.2.2.2.2.2.2.2.2.2.2
theorem Rs {i:Int} (hi:i>0) {c:vM} (hc:CW c) {a:vO} (h:xk a):∃c' a',FO (EG i c a)=some (.inl (EG (vA (i-1)) c' a'))/\CW c'/\xk a'/\wS a'+we a'<=wS a+we a+1:=by
 dsimp only[FO,EG];unfold ib;rw[dT hi,cT];obtain⟨c1,r,e1,w1,_⟩:=xl hc 6;have e1':aa (c.1,c.2.1,c.2.2) 6=some (c1,r):=e1
 rw[e1',an];simp only;obtain⟨c2,m,e2,w2,hm⟩:=TA w1 h.b;have hml:m.length<=M:=by have:=hm.2;show _<=1048576;omega
 obtain⟨x,_,x2,x3,x4⟩:=H5 h hm.1 hml;have msg:∃c' a',((bV c1 (a.1,a.2.1,a.2.2.1,a.2.2.2.1,a.2.2.2.2.1,a.2.2.2.2.2.1,a.2.2.2.2.2.2.1,a.2.2.2.2.2.2.2.1,a.2.2.2.2.2.2.2.2.1,a.2.2.2.2.2.2.2.2.2.1,a.2.2.2.2.2.2.2.2.2.2.1)).bind λt38 =>
  (bm (a.1,a.2.1,a.2.2.1,a.2.2.2.1,a.2.2.2.2.1,a.2.2.2.2.2.1,a.2.2.2.2.2.2.1,a.2.2.2.2.2.2.2.1,a.2.2.2.2.2.2.2.2.1,a.2.2.2.2.2.2.2.2.2.1,a.2.2.2.2.2.2.2.2.2.2.1,a.2.2.2.2.2.2.2.2.2.2.2.1,a.2.2.2.2.2.2.2.2.2.2.2.2.1,a.2.2.2.2.2.2.2.2.2.2.2.2.2.1,a.2.2.2.2.2.2.2.2.2.2.2.2.2.2) t38.2).bind λt39 =>
  some (Sum.inl (β:=List Int×Int×Int×Int×List UInt8×Int×Int×Int×Int×Int×List UInt8×Int×Int×List Pt×List vD×List vP×List Int×List wM) (vA (i-1),t38.1.1,t38.1.2.1,t38.1.2.2,t39.1,t39.2.1,t39.2.2.2.2.2.2.1,t39.2.2.2.2.2.2.2.1,t39.2.2.2.2.2.2.2.2.1,t39.2.2.2.2.2.2.2.2.2.1,t39.2.2.2.2.2.2.2.2.2.2.1,t39.2.2.2.2.2.2.2.2.2.2.2.1,t39.2.2.2.2.2.2.2.2.2.2.2.2.2.1,t39.2.2.2.2.2.2.2.2.2.2.2.2.2.2,t39.2.2.1,t39.2.2.2.1,t39.2.2.2.2.1,t39.2.2.2.2.2.1,t39.2.2.2.2.2.2.2.2.2.2.2.2.1)))=some (.inl (EG (vA (i-1)) c' a'))/\CW c'/\xk a'/\wS a'+we a'<=wS a+we a+1:=by
  refine⟨c2,x,wa (a:=(c2,m)) e2 (wa (a:=x) x2 rfl),w2,x3,x4⟩
 have tick : ∃c' a', ((bW (a.1, a.2.1, a.2.2.1, a.2.2.2.1, a.2.2.2.2.1, a.2.2.2.2.2.1, a.2.2.2.2.2.2.1, a.2.2.2.2.2.2.2.1, a.2.2.2.2.2.2.2.2.1, a.2.2.2.2.2.2.2.2.2.1, a.2.2.2.2.2.2.2.2.2.2.1)).bind λt44 =>
         some (Sum.inl (β:=List Int×Int×Int×Int×List UInt8×Int×Int×Int×Int×Int×List UInt8×Int×Int×List Pt×List vD×List vP×List Int×List wM) (vA (i-1),c1.1,c1.2.1,c1.2.2,t44.1,t44.2.1,t44.2.2.2.2.2.2.1,t44.2.2.2.2.2.2.2.1,t44.2.2.2.2.2.2.2.2.1,t44.2.2.2.2.2.2.2.2.2.1,t44.2.2.2.2.2.2.2.2.2.2,a.2.2.2.2.2.2.2.2.2.2.2.1,a.2.2.2.2.2.2.2.2.2.2.2.2.2.1,a.2.2.2.2.2.2.2.2.2.2.2.2.2.2,t44.2.2.1,t44.2.2.2.1,t44.2.2.2.2.1,t44.2.2.2.2.2.1,a.2.2.2.2.2.2.2.2.2.2.2.2.1)))=some (.inl (EG (vA (i-1)) c' a'))/\CW c'/\xk a'/\wS a'+we a'<=wS a+we a+1:=by
  obtain⟨_,t2,_⟩:=Nd h.b;exact⟨c1,_,wa (a:=CL (aB a)) (OL h.b) rfl,w1,Qu h t2,by show wS a+we a<=_;omega⟩
 have hn:=h.n;have work : ∃c' a', ((aa c1 (vA ((a.2.2.2.2.2.2.2.2.2.2.2.2.1.length : Int)+1))).bind λt27 =>
         (bq (a.1,a.2.1,a.2.2.1,a.2.2.2.1,a.2.2.2.2.1,a.2.2.2.2.2.1,a.2.2.2.2.2.2.1,a.2.2.2.2.2.2.2.1,a.2.2.2.2.2.2.2.2.1,a.2.2.2.2.2.2.2.2.2.1,a.2.2.2.2.2.2.2.2.2.2.1,a.2.2.2.2.2.2.2.2.2.2.2.1,a.2.2.2.2.2.2.2.2.2.2.2.2.1,a.2.2.2.2.2.2.2.2.2.2.2.2.2.1,a.2.2.2.2.2.2.2.2.2.2.2.2.2.2) t27.2).bind λt28 =>
         some (Sum.inl (β:=List Int×Int×Int×Int×List UInt8×Int×Int×Int×Int×Int×List UInt8×Int×Int×List Pt×List vD×List vP×List Int×List wM) (vA (i-1),t27.1.1,t27.1.2.1,t27.1.2.2,t28.1.1,t28.1.2.1,t28.1.2.2.2.2.2.2.1,t28.1.2.2.2.2.2.2.2.1,t28.1.2.2.2.2.2.2.2.2.1,t28.1.2.2.2.2.2.2.2.2.2.1,t28.1.2.2.2.2.2.2.2.2.2.2.1,t28.1.2.2.2.2.2.2.2.2.2.2.2.1,t28.1.2.2.2.2.2.2.2.2.2.2.2.2.2.1,t28.1.2.2.2.2.2.2.2.2.2.2.2.2.2.2,t28.1.2.2.1,t28.1.2.2.2.1,t28.1.2.2.2.2.1,t28.1.2.2.2.2.2.1,t28.1.2.2.2.2.2.2.2.2.2.2.2.2.1)))=some (.inl (EG (vA (i-1)) c' a'))/\CW c'/\xk a'/\wS a'+we a'<=wS a+we a+1:=by
  obtain⟨c3,k,e3,w3,_⟩:=xl w1 (vA ((a.2.2.2.2.2.2.2.2.2.2.2.2.1.length:Int)+1));obtain⟨y,_,y2,y3,_,y4,y5⟩:=OJ h.awf h.ale (λj hj=>(h.j j hj).byt) k;exact⟨c3,y.1,wa (a:=(c3,k)) e3 (wa (a:=y) y2 rfl),w3,(y3 h.ok).1,by rw[y4,y5];omega⟩
 cases r==0 with
 | true=>exact msg
 | false =>
  cases r==1 with
  | true=>exact msg
  | false =>
   cases r==2 with
   | true=>exact tick
   | false=>exact work
theorem Rt {c:vM} (hc:CW c) {most:Nat} (hm:most<=900):Dr (λa=>xk a/\wS a+we a<=(most:Int)) (ic c (most:Int)):=by
 unfold ic;obtain⟨c1,b,e1,w1,hb,hp,_⟩:=J7 hc;have hB:=BK hb hp
 rw[e1,an];simp only;rw[OK hB (by decide),an,vK (by omega)];obtain⟨c2,k,e2,w2,hk⟩:=xK w1 (n:=most+1) (by omega);have e2':aa c1 ((most+1:Nat):Int)=some (c2,(k:Int)):=e2
 rw[e2',an];obtain⟨d,d1,c3,a3,d2,d3,rfl⟩:=vR (step:=FO) (λj z=>∃c a,z=EG ((k-j:Nat):Int) c a/\CW c/\xk a/\wS a+we a<=(j:Int)) k (λd=>∃c a,CW c/\(xk a/\wS a+we a<=(k:Int))/\d=(EG 0 c a).2)
  (λj z hj ⟨c,a,e,w,h,hbd⟩=>by
   subst e;left;obtain⟨c',a',f1,f2,f3,f4⟩:=Rs (i:=((k-j:Nat):Int)) (by omega) w h;refine⟨_,f1,c',a',?_,f2,f3,by omega⟩;rw[vW (by omega) (by omega),show ((k-j:Nat):Int)-1=((k-(j+1):Nat):Int) by omega])
  (λz ⟨c,a,e,w,h,hbd⟩=>by
   subst e;refine⟨_,?_,c,a,w,⟨h,hbd⟩,rfl⟩;dsimp only[FO,EG];unfold ib;rw[Nat.sub_self,dF (show ¬((0:Nat):Int)>0 by decide),cF]) (x:=EG (k:Int) c2 (xa b [121,97,114,100] [] 0 0)) ⟨c2,_,rfl,w2,Rk hB (by decide),by show (0:Int)+0<=_;omega⟩
 exact⟨c3,a3,wa d1 rfl,d2,d3.1,by have:=d3.2;omega⟩
theorem Nk {code:List Int} (h:code.length<=1048576) {m:Nat} (hm:m<=1000):∃k:Nat,bj code (m:Int)=some (k:Int)/\k<=m:=by
 unfold bj;have e:vA (3+(vA ((code.length:Int).tdiv 12)))=3+(code.length:Int)/12:=by
  rw[Int.tdiv_eq_ediv_of_nonneg (by omega),vW (n:=(code.length:Int)/12) (by omega) (by omega),vW (by omega) (by omega)]
 simp only[e];by_cases hk:3+(code.length:Int)/12>(m:Int)
 · rw[dT hk,cT];exact⟨m,rfl,Nat.le_refl _⟩
 · rw[dF hk,cF];exact⟨(3+(code.length:Int)/12).toNat,by rw[Int.toNat_of_nonneg (by omega)],by omega⟩
theorem ON {α β:Type} {f g:α->Option (α⊕β)} (wB:Nat->α->Prop) (m:Nat) (h:∀k x,k<m->wB k x->∃y,f x=some (.inl y)/\g x=some (.inl y)/\wB (k+1) y) (he:∀x,wB m x->∃b,f x=some (.inr b)/\g x=some (.inr b)) {x:α} (h0:wB 0 x):∃b,loop f x=some b/\loop g x=some b:=by
 have key:∀n k x,k+n=m->wB k x->∃b,ze f (n+1) x=some b/\ze g (n+1) x=some b:=by
  intro n
  induction n with
  | zero =>
   intro k x hk hx;obtain rfl:k=m:=by omega
   obtain⟨b,h1,h2⟩:=he x hx;exact⟨b,by rw[xj,h1];rfl,by rw[xj,h2];rfl⟩
  | succ n ih =>
   intro k x hk hx;obtain⟨y,h1,h2,h3⟩:=h k x (by omega) hx;obtain⟨b,h4,h5⟩:=ih (k+1) y (by omega) h3;exact⟨b,by rw[xj,h1];exact h4,by rw[xj,h2];exact h5⟩
 obtain⟨b,h1,h2⟩:=key m 0 x (by omega) h0;exact⟨b,A2 h1,A2 h2⟩
theorem Nl {l:List Int} (hn:l.length<=M):gC l l=some true:=by
 have hn:l.length<=1048576:=hn;have e:loop (λz=>dX l l z) 0=some (.inl ()):=Bi (n:=l.length) (λk hk=>by
  show dX l l (k:Int)=_;unfold dX;rw[wm (by omega),cT,vL hk,an,an,vK (by omega)];simp) (by
  show dX l l (l.length:Int)=_;unfold dX;rw[wg (by omega),cF])
 unfold gC;rw[bne_self_eq_false,cF,e];rfl
theorem OO {l:List wM} (hn:l.length<=M) (hl:∀j∈l,QA M j):gD l l=some true:=by
 have hn:l.length<=1048576:=hn;have e:loop (λz=>dY l l z) 0=some (.inl ()):=Bi (n:=l.length) (λk hk=>by
  obtain⟨h1,h2,h3⟩:=hl _ (getElem_mem hk);show dY l l (k:Int)=_
  unfold dY;rw[wm (by omega),cT,vL hk,an,an,vK (by omega)];generalize l[k]=j at h1 h2 h3;have q1:=Nl h1
  have q2:dW (j.2.2.2.1,j.2.2.2.2.1,j.2.2.2.2.2.1,j.2.2.2.2.2.2.1,j.2.2.2.2.2.2.2.1) (j.2.2.2.1,j.2.2.2.2.1,j.2.2.2.2.2.1,j.2.2.2.2.2.2.1,j.2.2.2.2.2.2.2.1)=some true:=KS h2;have q3:=En h3
  unfold jB at q3;simp only[bne_self_eq_false,cF,an,q1,q2,q3,Bool.not_true])
  (by
  show dY l l (l.length:Int)=_;unfold dY;rw[wg (by omega),cF])
 unfold gD;rw[bne_self_eq_false,cF,e];rfl
theorem IB {a:vO} (h:Hv M a):dZ a a=some true:=by
 have q1:=En h.1;unfold aB at q1;have q2:=OO h.2.2.1 h.2.2.2
 unfold dZ;simp only[q1,q2,an,beq_self_eq_true,cT]
theorem JG {l:List wU} (hn:l.length<=M) (hl:∀d∈l,yj M d.2):ea l l=some true:=by
 have hn:l.length<=1048576:=hn;have e:loop (λz=>e9 l l z) 0=some (.inl ()):=Bi (n:=l.length) (λk hk=>by
  have h1:=hl _ (getElem_mem hk);show e9 l l (k:Int)=_
  unfold e9;simp only[wm (show (k:Int)<(l.length:Int) by omega),cT,vL hk,an,vK (show k<9223372036854775807 by omega),bne_self_eq_false,cF,KS h1,Bool.not_true])
  (by
  show e9 l l (l.length:Int)=_;unfold e9;rw[wg (by omega),cF])
 unfold ea;rw[bne_self_eq_false,cF,e];rfl

def BH (a:vO):Prop:=IM a/\Hv M a/\∀j∈vC a,xL j.2.1
theorem xk.any {a:vO} (h:xk a):BH a:=⟨h.awf,h.ale,λj hj=>(h.j j hj).byt⟩
abbrev PU:=Int×Int×List UInt8×Int×Int×Int×Int×Int×List UInt8×Int×Int×List Pt×List vD×List vP×List Int×List wM
def Bw (i:Int) (a:vO):PU:=(i,a.1,a.2.1,a.2.2.2.2.2.2.1,a.2.2.2.2.2.2.2.1,a.2.2.2.2.2.2.2.2.1,a.2.2.2.2.2.2.2.2.2.1,a.2.2.2.2.2.2.2.2.2.2.1,a.2.2.2.2.2.2.2.2.2.2.2.1,a.2.2.2.2.2.2.2.2.2.2.2.2.2.1,a.2.2.2.2.2.2.2.2.2.2.2.2.2.2,a.2.2.1,a.2.2.2.1,a.2.2.2.2.1,a.2.2.2.2.2.1,a.2.2.2.2.2.2.2.2.2.2.2.2.1)
noncomputable def H6 (z:PU):=ie z.1 z.2.1 z.2.2.1 z.2.2.2.1 z.2.2.2.2.1 z.2.2.2.2.2.1 z.2.2.2.2.2.2.1 z.2.2.2.2.2.2.2.1 z.2.2.2.2.2.2.2.2.1 z.2.2.2.2.2.2.2.2.2.1 z.2.2.2.2.2.2.2.2.2.2.1 z.2.2.2.2.2.2.2.2.2.2.2.1 z.2.2.2.2.2.2.2.2.2.2.2.2.1 z.2.2.2.2.2.2.2.2.2.2.2.2.2.1 z.2.2.2.2.2.2.2.2.2.2.2.2.2.2.1 z.2.2.2.2.2.2.2.2.2.2.2.2.2.2.2
theorem PV:xL [1]:=λx hx=>by rw[mem_singleton.1 hx];omega
theorem Vk {a:vO} (h:xk a):∃b,loop (H6) (Bw 0 a)=some (Bw 0 b).2/\xk b:=by
 obtain⟨d,d1,b,hb,rfl⟩:=vR (step:=H6) (λj z=>∃a,z=Bw (j:Int) a/\xk a) 6 (λd=>∃b,xk b/\d=(Bw 0 b).2)
  (λj z hj ⟨a,e,h⟩=>by
   subst e;left;obtain⟨r,_,r2,r3,_⟩:=H5 h PV (by decide);have r2':bm (a.1,a.2.1,a.2.2.1,a.2.2.2.1,a.2.2.2.2.1,a.2.2.2.2.2.1,a.2.2.2.2.2.2.1,a.2.2.2.2.2.2.2.1,a.2.2.2.2.2.2.2.2.1,a.2.2.2.2.2.2.2.2.2.1,a.2.2.2.2.2.2.2.2.2.2.1,a.2.2.2.2.2.2.2.2.2.2.2.1,a.2.2.2.2.2.2.2.2.2.2.2.2.1,a.2.2.2.2.2.2.2.2.2.2.2.2.2.1,a.2.2.2.2.2.2.2.2.2.2.2.2.2.2) ([1]:List Int)=some r:=r2
   refine⟨Bw ((j+1:Nat):Int) r,?_,r,rfl,r3⟩;dsimp only[H6,Bw];unfold ie;rw[dT (show (j:Int)<6 by omega),cT,r2',an,vK (by omega)])
  (λz ⟨a,e,h⟩=>by
   subst e;refine⟨_,?_,a,h,rfl⟩;dsimp only[H6,Bw];unfold ie;rw[dF (show ¬((6:Nat):Int)<6 by decide),cF]) (x:=Bw 0 a) ⟨a,rfl,h⟩
 exact⟨b,d1,hb⟩
theorem Qx {c:vM} (hc:CW c) {most:Nat} (hm:most<=900):Dr BH (eG c (most:Int)):=by
 unfold eG;refine Dr.bind (Rt hc hm) λc a hc ha=>?_;have hA:=ha.1.any
 have hn:=ha.1.n;refine Dr.bind (xl hc 16) λc k hc _=>?_;refine Dr.cond ?_ (Dr.cond ?_ (Dr.cond ?_ (Dr.cond ?_ (Dr.cond ?_ ?_))))
 · obtain⟨c',b,e,w,h1,h2⟩:=T8 hc;simp only;rw[e,an];exact Dr.some w ⟨⟨h1,hA.1.n,hA.1.j⟩,⟨h2,hA.2.1.2⟩,hA.2.2⟩
 · exact Dr.bind (Bz hc (by decide)) λc x hc _=>Dr.some hc ⟨⟨hA.1.b,hA.1.n,hA.1.j⟩,hA.2.1,hA.2.2⟩
 · exact Dr.bind (Bz hc (by decide)) λc x hc _=>Dr.some hc ⟨⟨hA.1.b,hA.1.n,hA.1.j⟩,hA.2.1,hA.2.2⟩
 · refine Dr.bind (xl hc 2) λc u hc _=>?_;refine Dr.bind (xl hc 4) λc v hc _=>?_;refine Dr.bind (xl hc 3) λc s hc _=>?_;refine Dr.bind (xl hc 5) λc t hc _=>?_;refine Dr.bind (Q:=DW) (Na hc ha.1.b.w λc hc=>by obtain⟨c',o,e,w,h⟩:=ND hc ha.1.b;exact⟨c',o,e,w,h⟩) λc p hc hp=>?_;obtain⟨c',b,e,w,h1,h2,_⟩:=J7 hc;simp only;rw[e,an];have hap:∀j:wM,vS a.2.2.2.2.2.2.2.2.2.2.2.2.1 [j]=some (vC a++[j]):=λj=>vF (by show (vC a).length+1<=_;omega)
   simp only;rw[hap,an];refine Dr.some w ⟨⟨hA.1.b,?_,?_⟩,⟨hA.2.1.1,hA.2.1.2.1,?_,?_⟩,?_⟩
   · show (vC a++[_]).length<=1048576;rw[length_append];show (vC a).length+1<=_;omega
   · intro j hj;rcases mem_append.1 (show j∈vC a++[_]from hj)with hj|hj
     · exact hA.1.j j hj
     · rw[mem_singleton.1 hj];exact⟨hp.le,h1⟩
   · show (vC a++[_]).length<=1048576;rw[length_append];show (vC a).length+1<=_;omega
   · intro j hj;rcases mem_append.1 (show j∈vC a++[_]from hj)with hj|hj
     · exact hA.2.1.2.2.2 j hj
     · rw[mem_singleton.1 hj];exact⟨(by show 0<=1048576;decide),hp.le,(BK h1 h2).le⟩
   · intro j hj;rcases mem_append.1 (show j∈vC a++[_]from hj)with hj|hj
     · exact hA.2.2 j hj
     · rw[mem_singleton.1 hj];intro x hx;cases hx
 · obtain⟨b,l1,l2⟩:=Vk ha.1;simp only;exact⟨c,b,wa l1 rfl,hc,l2.any⟩
 · exact Dr.some hc hA
theorem Dr.mono {α:Type} {P Q:α->Prop} {o:Option (vM×α)} (h:Dr P o) (k:∀x,P x->Q x):Dr Q o:=by
 obtain⟨c,x,e,w,hx⟩:=h;exact⟨c,x,e,w,k x hx⟩
def OP (n:Nat) (p:wd):Prop:=p.2.2.2.2.length<=n/\∀x∈p.2.2.2.2,GL M x
theorem OP.le {n:Nat} {p:wd} (h:OP n p) (hn:n<=1000):yj M p:=⟨by have:=h.1;show _<=1048576;omega,h.2⟩
theorem OP.up {n m:Nat} {p:wd} (h:OP n p) (hn:n<=m):OP m p:=⟨Nat.le_trans h.1 hn,h.2⟩
theorem Mb {b:vw} (h:yb b) (hb:z7 M b) {p:wd} (hp:yj M p):z7 M (xH b p).1/\yj M (xH b p).2.1/\((xH b p).2.2=false->(xH b p).1=b):=by
 have h0:yj M (0,0,0,0,[]):=⟨by show 0<=1048576;decide,λx hx=>by cases hx⟩;unfold xH;cases he:E4 b p with
 | false=>exact⟨hb,h0,λ_=>rfl⟩
 | true =>
  unfold E4 at he;simp only[aT]at he;obtain⟨e1,e2,e3⟩:=he;have hdn:wH (zM b p).1:=by
   have:=Iw (BK h e1) p;unfold xH E4 at this;rw[e1,e2,e3]at this;exact this
  exact⟨hdn.le,GU (RO (Ou e2)),λhc=>by cases hc⟩
theorem Sj {p:wd} (hp:yj M p):yj M (AM p):=by
 unfold AM;cases xm (162,p.2.1,6,1,p.2.2.2.2)with
 | true=>exact hp
 | false=>exact⟨by show 0<=1048576;decide,λx hx=>by cases hx⟩
theorem Sk (w:List UInt8) {b:vw} (hb:wH b) {j:wM} (h:D7 j) {d:List wU} (hd:(zA w b j).2=.gone d):∀x∈d,yj M x.2:=by
 have one:∀{y:wU} {x:wU},yj M y.2->x∈[y]->yj M x.2:=λhy hx=>by rw[mem_singleton.1 hx];exact hy
 unfold zA at hd;cases h0:(j.2.2.1==0)with
 | true =>
  rw[h0,cT]at hd;cases h1:((wR w j.2.1).2==3)with
  | true=>rw[h1]at hd;cases hd;intro x hx;cases hx
  | false =>
   rw[h1,cF]at hd;cases h2:((wR w j.2.1).2 != 0||((wR w j.2.1).1.1==162))with
   | true=>rw[h2]at hd;cases hd;intro x hx;cases hx
   | false=>rw[h2]at hd;cases hd
 | false =>
  rw[h0,cF]at hd;cases h1:(j.2.2.1==2)with
  | true =>
   rw[h1,cT]at hd;cases h2:(j.2.2.2.1 != 163)with
   | true=>rw[h2]at hd;cases hd;exact λx hx=>one (Mb h.bw h.bl h.pl).2.1 hx
   | false =>
    rw[h2,cF]at hd;cases h3:(b.2.2.2.2.2.2.2.2.2.2==(jB j).2.2.2.2.2.2.2.2.2.2)with
    | true=>rw[h3]at hd;cases hd;exact λx hx=>one (Mb hb.w hb.le h.pl).2.1 hx
    | false =>
     rw[h3,cF]at hd;cases h4:decide (wv j>=3)with
     | true=>rw[h4]at hd;cases hd;exact λx hx=>one (Sj h.pl) hx
     | false=>rw[h4]at hd;cases hd
  | false =>
   rw[h1,cF]at hd;cases h2:decide (zq j<((jP j).2.2.2.2.length:Int))with
   | true=>rw[h2]at hd;cases hd
   | false=>rw[h2]at hd;cases hd
theorem Sl {a:vO} (h:xk a) {k:Nat} (hk:k<(vC a).length):∀x∈(zX a k (vC a)[k]).2,yj M x.2:=by
 have hs:=λd=>Sk (aW a) h.b (h.j _ (getElem_mem hk)) (d:=d);unfold zX;cases hf:(zA (aW a) (aB a) (vC a)[k]).2 with
 | stay j'=>intro x hx;cases hx
 | gone d=>exact hs d hf
theorem Sm {c:vM} (h:CW c) {b:vw} (hb:yb b):Dr KU (bV c b):=by
 have hq:∀c,CW c->Dr DW (bS c b):=λc hc=>Na hc hb λc hc=>by obtain⟨c',o,e,w,h⟩:=Ua hc hb;exact⟨c',o,e,w,h⟩
 unfold bV;refine Dr.bind (xl h 10) λc t hc _=>?_;refine Dr.cond ?_ (Dr.cond ?_ (Dr.cond ?_ ?_))
 · refine Dr.bind (hq c hc) λc p hc hp=>?_;simp only;rw[C4 _ hp.le,an];obtain⟨m1,m2⟩:=CV [121,97,114,100] p;exact Dr.bind (OB hc m1.1 m2) λc m hc hm=>Dr.some hc hm
 · refine Dr.bind (hq c hc) λc p hc hp=>?_;simp only;rw[C4 _ hp.le,an];exact Dr.some hc (CV _ p).1
 · refine Dr.bind (KV hc) λc p hc hp=>?_;simp only;rw[C4 _ hp,an];exact Dr.some hc (CV _ p).1
 · refine Dr.bind (hq c hc) λc p hc hp=>?_;simp only;rw[C4 _ hp.le,an];exact Dr.some hc (CV _ p).1

theorem UJ {b:vw} (h:wH b) (i:Int) (f:ym):∃r,bN b i f=some r/\wH r.1/\r.2.length<=6:=by
 have s:=h.sok;have hn:=h.n6
 have hv:=s.v;have hq:=s.q
 obtain⟨q1,q2,q3,q4,q5⟩:=zo (AF h.ok).1;have hfb:=Hc h.f
 unfold bN;rw[x7 h.le,an,DA h,an];cases hp:vE i 0 ((b.2.2.1.length:Int)-1)with
 | false=>exact⟨(b,[]),rfl,h,Nat.zero_le _⟩
 | true =>
 rw[Bool.not_true,cF,Ow,an,an];cases hf:Fe f with
 | false=>exact⟨(b,[]),rfl,h,Nat.zero_le _⟩
 | true =>
 have hlen:f.2.2.2.length<=20:=by
  unfold Fe at hf;simp only[aT,decide_eq_true_eq]at hf;omega
 obtain⟨p0,p1⟩:=wu hp;obtain⟨k,rfl⟩:∃k:Nat,i=(k:Int):=⟨i.toNat,by omega⟩;have hk:k<b.2.2.1.length:=by omega
 obtain⟨c,_,hc,_⟩:=Lh b.1 (l:=b.2.2.1) (by omega);obtain⟨cl,hcl⟩:=Oy (v:=(b.2.2.2.2.1,b.2.2.2.2.2.1)) hv (by show b.2.2.2.2.2.1.length<=6;omega) (k:=k) (by show k<b.2.2.2.2.2.1.length;omega) f.2.2.1;obtain⟨t,ht,_⟩:=HV (c:Int) (k:=k) (by omega);rw[Bool.not_true,cF,hc,an,hcl,an,ht,an];have hdrop:∃r,((az b.2.2.2.2.2.2.2.2.2.1).bind λt51=>some ((b.1,b.2.1,b.2.2.1,b.2.2.2.1,b.2.2.2.2.1,b.2.2.2.2.2.1,b.2.2.2.2.2.2.1,b.2.2.2.2.2.2.2.1,b.2.2.2.2.2.2.2.2.1,t51,b.2.2.2.2.2.2.2.2.2.2),([]:List wF)))=some r/\wH r.1/\r.2.length<=6:=by
  rw[CO,an];have s':=OA s hfb (d:=Ao b.2.2.2.2.2.2.2.2.2.1) (v:=b.2.2.2.2.2.2.2.2.2.2) (Dz q4) q5
  exact⟨_,rfl,BK (Iv s' s'.le) (s'.ok h.v),Nat.zero_le _⟩
 cases t with
 | false=>rw[Bool.not_false,cT,an,cT];exact hdrop
 | true =>
 rw[Bool.not_true,cF,an];cases cl.2 with
 | false=>rw[Bool.not_false,cT];exact hdrop
 | true =>
 rw[Bool.not_true,cF];obtain⟨F,hF,hFB⟩:=Ov hfb cl.1 f.2.1 (k:Int);rw[hF,an,CO,an];have s':=OA s hFB (d:=b.2.2.2.2.2.2.2.2.2.1) (v:=Ao b.2.2.2.2.2.2.2.2.2.2) q4 (Dz q5)
 have hB:=BK (Iv s' s'.le) (s'.ok h.v);cases f.1 != 0 with
 | true =>
  obtain⟨u,hu⟩:=Tz hFB.n cl.1 f.1;obtain⟨o,o1,o6⟩:=M6 hn (λz=>bx b (k:Int) f (c:Int) cl u z.1 z.2) (λj out hj ho=>by
   obtain⟨o,o1,o2⟩:=Sb h (k:Int) hlen (c:Int) cl (λk=>cond (decide (u<0)) (some true) (some (u==k))) (λk=>by cases decide (u<0)<;>exact⟨_,rfl⟩) hj ho;refine⟨o,o1,?_⟩;show bx b (k:Int) f (c:Int) cl u (j:Int) out=_
   unfold bx;rw[wm (by omega),cT];exact o2) (λout=>by
   show bx b (k:Int) f (c:Int) cl u (b.2.2.1.length:Int) out=_;unfold bx;rw[wg (by omega),cF])
  rw[cT,hu,an];exact⟨_,wa o1 rfl,hB,o6⟩
 | false =>
  obtain⟨o,o1,o6⟩:=M6 hn (λz=>bz b (k:Int) f (c:Int) cl z.1 z.2) (λj out hj ho=>by
   obtain⟨o,o1,o2⟩:=Sb h (k:Int) hlen (c:Int) cl (λk=>cond (decide ((-1:Int)<0)) (some true) (some ((-1)==k))) (λk=>⟨true,rfl⟩) hj ho;refine⟨o,o1,?_⟩;show bz b (k:Int) f (c:Int) cl (j:Int) out=_
   unfold bz;rw[wm (by omega),cT];exact o2) (λout=>by
   show bz b (k:Int) f (c:Int) cl (b.2.2.1.length:Int) out=_;unfold bz;rw[wg (by omega),cF])
  rw[cF];exact⟨_,wa o1 rfl,hB,o6⟩
def So (x:Act):ym:=(x.2.2.2.2.1,x.2.2.2.2.2.1,x.2.2.2.2.2.2.1,x.2.2.2.2.2.2.2.1)
def Us (x:Act):AO:=x.2.2.2.2.2.2.2.2
noncomputable def oB (b:vw) (x:Act):Option (vw×List wF) :=
 if x.1=3 then bN b x.2.1 (So x)else if x.1=4 then (cm b x.2.1 (Us x)).bind λr=>some (r,[])
 else if x.1=5 then (cj b x.2.1 x.2.2.1).bind λr=>some (r,[])else if x.1=6 then (ck b).bind λr=>some (r,[])else some (b,[])
theorem H7 {b:vw} (h:yb b) (hp:wq b=false) (i:Int):bM b i=some false:=by
 unfold bM;rw[Az h,an,hp];rfl
theorem OQ {b:vw} (h:yb b) (hl:z7 M b) (x:Act):∃r,oB b x=some r/\yb r.1/\z7 M r.1/\r.2.length<=6/\(wq b=true->wH r.1)/\(wq b=false->r=(b,[])):=by
 cases hp:wq b with
 | false =>
  have e:oB b x=some (b,[]):=by
   unfold oB;split
   · unfold bN;rw[x7 hl,H7 h hp];rfl
   · split
     · unfold cm;rw[x7 hl,H7 h hp];rfl
     · split
       · unfold cj;rw[x7 hl,H7 h hp];rfl
       · split
         · unfold ck;rw[x7 hl,Az h,hp];rfl
         · rfl
  exact⟨_,e,h,hl,Nat.zero_le _,(λh=>by cases h),λ_=>rfl⟩
 | true =>
  have hB:=BK h hp;have ok:∀{r:vw×List wF},oB b x=some r->wH r.1->r.2.length<=6->∃r,oB b x=some r/\yb r.1/\z7 M r.1/\r.2.length<=6/\(true=true->wH r.1)/\(true=false->r=(b,[])):=λe k hn=>⟨_,e,k.w,k.le,hn,λ_=>k,λh=>by cases h⟩
  unfold oB at ok ⊢;split
  · rename_i h3;obtain⟨r,r1,r2,r3⟩:=UJ hB x.2.1 (So x);exact⟨r,r1,r2.w,r2.le,r3,λ_=>r2,λh=>by cases h⟩
  · split
    · obtain⟨r,r1,r2⟩:=Ty hB x.2.1 (Us x);exact⟨(r,[]),by rw[r1];rfl,r2.w,r2.le,Nat.zero_le _,λ_=>r2,λh=>by cases h⟩
    · split
      · obtain⟨r,r1,r2⟩:=Tx hB x.2.1 x.2.2.1;exact⟨(r,[]),by rw[r1];rfl,r2.w,r2.le,Nat.zero_le _,λ_=>r2,λh=>by cases h⟩
      · split
        · obtain⟨r1,r2,_⟩:=Nd hB;exact⟨(CL b,[]),by rw[r1];rfl,r2.w,r2.le,Nat.zero_le _,λ_=>r2,λh=>by cases h⟩
        · exact⟨(b,[]),rfl,h,hl,Nat.zero_le _,λ_=>hB,λh=>by cases h⟩
theorem PW (a:vO) {x:Act} (h3:3<=x.1) {r:vw×List wF} (e:oB (aB a) x=some r):bh a x=some (xa r.1 (aW a) (vC a) (wS a) (we a),r.2,[]):=by
 unfold bh;rw[show (x.1==1)=false from beq_eq_false_iff_ne.2 (by omega),cF,show (x.1==2)=false from beq_eq_false_iff_ne.2 (by omega),cF];unfold oB at e;by_cases k3:x.1=3
 · rw[if_pos k3]at e;rw[show (x.1==3)=true from beq_iff_eq.2 k3,cT];exact wa e rfl
 rw[if_neg k3]at e;rw[beq_eq_false_iff_ne.2 k3,cF];by_cases k4:x.1=4
 · rw[if_pos k4]at e;rw[show (x.1==4)=true from beq_iff_eq.2 k4,cT];obtain⟨q,q1,q2⟩:=Option.bind_eq_some_iff.1 e;cases q2;exact wa q1 rfl
 rw[if_neg k4]at e;rw[beq_eq_false_iff_ne.2 k4,cF];by_cases k5:x.1=5
 · rw[if_pos k5]at e;rw[show (x.1==5)=true from beq_iff_eq.2 k5,cT];obtain⟨q,q1,q2⟩:=Option.bind_eq_some_iff.1 e;cases q2;exact wa q1 rfl
 rw[if_neg k5]at e;rw[beq_eq_false_iff_ne.2 k5,cF];by_cases k6:x.1=6
 · rw[if_pos k6]at e;rw[show (x.1==6)=true from beq_iff_eq.2 k6,cT];obtain⟨q,q1,q2⟩:=Option.bind_eq_some_iff.1 e;cases q2;exact wa q1 rfl
 rw[if_neg k6]at e;rw[beq_eq_false_iff_ne.2 k6,cF];cases e;rfl
noncomputable def BC (b:vw) (x:Act):vw:=((oB b x).getD (b,[])).1
theorem GG {b:vw} {x:Act} {r:vw×List wF} (e:oB b x=some r):BC b x=r.1:=by unfold BC;rw[e];rfl
noncomputable def H8 (l:List Act) (b:vw):vw:=(l.take 60).foldl BC b
theorem H9:∀(l:List Act) (b:vw),yb b->z7 M b->yb (l.foldl BC b)/\z7 M (l.foldl BC b)
 | [],b,h,hl=>⟨h,hl⟩
 | x::l,b,h,hl=>by
  obtain⟨r,r1,r2,r3,_⟩:=OQ h hl x;have:=H9 l r.1 r2 r3
  rw[List.foldl_cons,GG r1];exact this
noncomputable def HH (l:List Act) (z:PU):=gz l z.1 z.2.1 z.2.2.1 z.2.2.2.1 z.2.2.2.2.1 z.2.2.2.2.2.1 z.2.2.2.2.2.2.1 z.2.2.2.2.2.2.2.1 z.2.2.2.2.2.2.2.2.1 z.2.2.2.2.2.2.2.2.2.1 z.2.2.2.2.2.2.2.2.2.2.1 z.2.2.2.2.2.2.2.2.2.2.2.1 z.2.2.2.2.2.2.2.2.2.2.2.2.1 z.2.2.2.2.2.2.2.2.2.2.2.2.2.1 z.2.2.2.2.2.2.2.2.2.2.2.2.2.2.1 z.2.2.2.2.2.2.2.2.2.2.2.2.2.2.2
theorem TF {b:vw} (h:yb b) (hl:z7 M b) {l:List Act} (hn:l.length<=M):gA b l=some (H8 l b):=by
 have hn:l.length<=1048576:=hn;unfold gA;rw[x7 hl,an];obtain⟨d,d1,d2⟩:=vR (step:=HH l) (λk z=>z=Bw (k:Int) (xa (((l.take k).take 60).foldl BC b) [] [] 0 0)) l.length (λd=>d=(Bw 0 (xa (H8 l b) [] [] 0 0)).2)
  (λk z hk e=>by
   subst e;left;obtain⟨f1,f2⟩:=H9 ((l.take k).take 60) b h hl;have t1:l.take (k+1)=l.take k++[l[k]]:=by rw[take_add_one,List.getElem?_eq_getElem hk];rfl
   have hlk:(l.take k).length=k:=by rw[length_take];omega
   dsimp only[HH,Bw];unfold gz;rw[dT (show (k:Int)<(l.length:Int) by omega),cT,vL hk,an];by_cases h60:k<60
   · have e60:((l.take (k+1)).take 60).foldl BC b=BC (((l.take k).take 60).foldl BC b) l[k]:=by
      rw[take_of_length_le (by rw[length_take];omega),take_of_length_le (l:=l.take k) (by omega),t1,List.foldl_append];rfl
     rw[dT (show (k:Int)<60 by omega),cT,yB,an,an];cases hp:vE l[k].1 3 6 with
     | true =>
      obtain⟨p1,p2⟩:=wu hp;obtain⟨r,r1,_⟩:=OQ f1 f2 l[k];have ha:=PW (xa (((l.take k).take 60).foldl BC b) [] [] 0 0) p1 r1
      rw[cT];refine⟨_,wa ha rfl,?_⟩;rw[e60,GG r1,vK (by omega)];rfl
     | false =>
      have hb:BC (((l.take k).take 60).foldl BC b) l[k]=((l.take k).take 60).foldl BC b:=by
       unfold vE at hp;have hx:¬(3<=l[k].1/\l[k].1<=6):=λhc=>by rw[dT hc.1,dT hc.2]at hp;cases hp
       unfold BC oB;rw[if_neg (by omega),if_neg (by omega),if_neg (by omega),if_neg (by omega)];rfl
      rw[cF];refine⟨_,rfl,?_⟩;rw[e60,hb,vK (by omega)]
   · rw[dF (show ¬(k:Int)<60 by omega),cF,an,cF];refine⟨_,rfl,?_⟩;have e60:(l.take (k+1)).take 60=(l.take k).take 60:=by rw[List.take_take,List.take_take,Nat.min_eq_left (by omega),Nat.min_eq_left (by omega)]
     rw[e60,vK (by omega)])
  (λz e=>by
   subst e;refine⟨_,?_,rfl⟩;dsimp only[HH,Bw];unfold gz;rw[dF (show ¬(l.length:Int)<(l.length:Int) by omega),cF,take_length];rfl) (x:=Bw 0 (xa b [] [] 0 0)) (by rw[List.take_zero,List.take_nil];rfl)
 rw[d2]at d1;exact wa d1 rfl
theorem OR {c:vM} (h:CW c) {b:vw} (hb:yb b):Dr D8 (eH c b):=by
 unfold eH;refine Dr.bind (Bz h (by decide)) λc k hc _=>?_;refine Dr.cond ?_ (Dr.cond ?_ (Dr.cond ?_ (Dr.cond ?_ (Dr.cond ?_ ?_))))
 · exact Dr.bind (Sm hc hb) λc m hc hm=>Dr.some hc hm
 · exact Dr.bind (Bz hc (by decide)) λc m hc _=>Dr.some hc Ff
 · refine Dr.bind (xl hc 4) λc m hc _=>?_;exact Dr.bind (Rq hc) λc f hc _=>Dr.some hc Ff
 · refine Dr.bind (xl hc 4) λc m hc _=>?_;obtain⟨c1,v,e1,w1,_⟩:=Q3 hc;simp only;rw[e1,an];exact Dr.some w1 Ff
 · refine Dr.bind (xl hc 4) λc m hc _=>?_;obtain⟨c1,v,e1,w1⟩:=Hb hc 3;simp only;rw[e1,an];exact Dr.some w1 Ff
 · exact Dr.some hc Ff
theorem Mc {c:vM} (h:CW c) {b:vw} (hb:yb b) {most:Nat} (h1:1<=most) (hm:most<=1000):Dr (λl:List Act=>l.length<most/\∀x∈l,D8 x) (fQ c b (most:Int)):=by
 obtain⟨c1,n,e1,w1,hn⟩:=xK h h1;unfold fQ;rw[e1,an];obtain⟨d,d1,d2,d3,d4⟩:=Sd (P:=D8) (draw:=λc=>eH c b) (λc hc=>OR hc hb) (n:=n) (by omega) (λz:Int×List Int×Int×Int×List Act=>eI b z.1 z.2.1 z.2.2.1 z.2.2.2.1 z.2.2.2.2)
  (λi c0 c1 c2 out hi=>by
   show eI b i c0 c1 c2 out=_;unfold eI;rw[dT hi,cT])
  (λi c0 c1 c2 out hi=>by
   show eI b i c0 c1 c2 out=_;unfold eI;rw[dF hi,cF]) w1
 refine⟨_,_,wa d1 rfl,d2,by show d.2.2.2.length<most;omega,d4⟩
theorem LM {code:List Int} (h:code.length<=1048576):∃b l,iq code=some (b,l)/\yb b/\z7 M b/\l.length<=20/\∀x∈l,D8 x:=by
 obtain⟨c0,e0,w0⟩:=Q2 (code:=code) h;obtain⟨c1,b,e1,w1,h1,h2⟩:=T8 w0;obtain⟨k,e2,hk⟩:=Nk h (m:=10) (by omega);have e2:bj code 10=some (k:Int):=e2
 obtain⟨c3,l,e3,w3,hl,hx⟩:=Mc w1 h1 (most:=6+k) (by omega) (by omega);refine⟨b,l,?_,h1,h2,by omega,hx⟩;unfold iq;have ew:vA (6+(k:Int))=((6+k:Nat):Int):=by rw[vW (by omega) (by omega)];omega
 rw[e0,an,e1,an,e2,an,ew];exact wa (a:=(c3,l)) e3 rfl
theorem OS {code:List Int} (h:code.length<=1048576):∃a l,ii code=some (a,l)/\BH a/\l.length<=20/\∀x∈l,D8 x:=by
 obtain⟨c0,e0,w0⟩:=Q2 (code:=code) h;obtain⟨c1,a,e1,w1,ha⟩:=Qx w0 (most:=2) (by omega);have e1:eG c0 2=some (c1,a):=e1
 obtain⟨k,e2,hk⟩:=Nk h (m:=14) (by omega);have e2:bj code 14=some (k:Int):=e2
 obtain⟨c3,l,e3,w3,hl,hx⟩:=Mc w1 ha.1.b (most:=6+k) (by omega) (by omega);refine⟨a,l,?_,ha,by omega,hx⟩;unfold ii;have ew:vA (6+(k:Int))=((6+k:Nat):Int):=by rw[vW (by omega) (by omega)];omega
 rw[e0,an,e1,an,e2,an,ew];exact wa (a:=(c3,l)) e3 rfl
theorem Vm {a:vO} (h:BH a) {x:Act} (hx:D8 x):∃r,bY a x=some r/\BH r.1/\r.2.1.length<=6/\r.2.2.length<=1/\(∀d∈r.2.2,yj M d.2)/\(yt a=false->r=(a,[],[]))/\(yt a=true->3<=x.1->yt r.1=true/\r.1=xa (BC (aB a) x) (aW a) (vC a) (wS a) (we a)):=by
 have hml:x.2.2.2.1.length<=M:=by have:=hx.2;show _<=1048576;omega
 unfold bY;rw[Ae h.2.1,an,CY h.1,an];cases hp:yt a with
 | false=>exact⟨(a,[],[]),rfl,h,Nat.zero_le _,Nat.zero_le _,(λd hd=>by cases hd),λ_=>rfl,λh=>by cases h⟩
 | true =>
  have hA:=J5 h.1 h.2.1 h.2.2 hp;rw[Bool.not_true,cF];by_cases h3:3<=x.1
  · obtain⟨r,r1,r2,r3,r4,r5,_⟩:=OQ hA.b.w hA.b.le x;have hI:=Qu hA (r5 hA.b.ok)
    exact⟨_,wa (PW a h3 r1) rfl,hI.any,r4,Nat.zero_le _,(λd hd=>by cases hd),(λh=>by cases h),λ_ _=>⟨hI.ok,by rw[GG r1]⟩⟩
  · have fin:∀{r:vO×List wF×List wU},bh a x=some r->BH r.1->r.2.1=[]->r.2.2.length<=1->(∀d∈r.2.2,yj M d.2)->∃r,((bh a x).bind λt18=>some t18)=some r/\BH r.1/\r.2.1.length<=6/\r.2.2.length<=1/\(∀d∈r.2.2,yj M d.2)/\(true=false->r=(a,[],[]))/\(true=true->3<=x.1->yt r.1=true/\r.1=xa (BC (aB a) x) (aW a) (vC a) (wS a) (we a)) :=
     λe k1 k2 k3 k4=>⟨_,wa e rfl,k1,by rw[k2];exact Nat.zero_le _,k3,k4,(λh=>by cases h),λ_ h=>absurd h h3⟩
    unfold bh at fin ⊢;have hn:=hA.n
    by_cases h1:x.1=1
    · rw[show (x.1==1)=true by rw[h1];rfl]at fin ⊢;obtain⟨r,r1,_,r3,_⟩:=H5 hA hx.1 hml;exact fin (r:=(r,[],[])) (by rw[cT];exact wa r1 rfl) r3.any rfl (Nat.zero_le _) λd hd=>by cases hd
    rw[beq_eq_false_iff_ne.2 h1]at fin ⊢;by_cases h2:x.1=2
    · rw[show (x.1==2)=true by rw[h2];rfl]at fin ⊢;have e:vA ((a.2.2.2.2.2.2.2.2.2.2.2.2.1.length:Int)-1)=((vC a).length:Int)-1:=vW (by show -9223372036854775808<=((vC a).length:Int)-1;omega) (by show ((vC a).length:Int)-1<=_;omega)
      rw[e,yB]at fin ⊢;cases hpk:vE x.2.1 0 (((vC a).length:Int)-1)with
      | false =>
       rw[hpk]at fin;exact fin (r:=(a,[],[])) rfl h rfl (Nat.zero_le _) λd hd=>by cases hd
      | true =>
       rw[hpk]at fin;obtain⟨p0,p1⟩:=wu hpk;obtain⟨k,hk⟩:∃k:Nat,x.2.1=(k:Int):=⟨x.2.1.toNat,by omega⟩;have hk':k<(vC a).length:=by omega
       obtain⟨w1,w2⟩:=KP hA hk';refine fin (r:=((zX a k (vC a)[k]).1,[],(zX a k (vC a)[k]).2)) ?_ w1.any rfl w2 (Sl hA hk');rw[cF,cT,an,cT,hk];exact wa (N7 hA hk') rfl
    rw[beq_eq_false_iff_ne.2 h2,beq_eq_false_iff_ne.2 (show x.1≠3 by omega),beq_eq_false_iff_ne.2 (show x.1≠4 by omega),beq_eq_false_iff_ne.2 (show x.1≠5 by omega),beq_eq_false_iff_ne.2 (show x.1≠6 by omega)]at fin ⊢;exact fin (r:=(a,[],[])) rfl h rfl (Nat.zero_le _) λd hd=>by cases hd

noncomputable def zD (a:vO) (x:Act):vO×List wF×List wU:=(bY a x).getD (a,[],[])
noncomputable def Ep:List Act->vO->List wF->List wU->vO×List wF×List wU
 | [],a,o,d=>(a,o,d)
 | x::l,a,o,d=>Ep l (zD a x).1 (o++(zD a x).2.1) (d++(zD a x).2.2)
theorem Sp {a:vO} (h:BH a) {x:Act} (hx:D8 x):bY a x=some (zD a x)/\BH (zD a x).1/\(zD a x).2.1.length<=6/\(zD a x).2.2.length<=1/\(∀d∈(zD a x).2.2,yj M d.2)/\(yt a=false->zD a x=(a,[],[]))/\(yt a=true->3<=x.1->yt (zD a x).1=true/\(zD a x).1=xa (BC (aB a) x) (aW a) (vC a) (wS a) (we a)):=by
 obtain⟨r,r1,r2⟩:=Vm h hx;have e:zD a x=r:=by unfold zD;rw[r1];rfl
 rw[e];exact⟨r1,r2⟩
structure Fg (n:Nat) (r:vO×List wF×List wU):Prop where
 a:BH r.1
 o:r.2.1.length<=6*n
 d:r.2.2.length<=n
 p:∀d∈r.2.2,yj M d.2
theorem HI {σ τ:Type} {l:List Act} (hl:l.length<=60) (hx:∀x∈l,D8 x) (st:Nat->vO->List wF->List wU->σ) (fin:vO->List wF->List wU->τ) (step:σ->Option (σ⊕τ))
 (hs:∀(k:Nat) (hk:k<l.length) (a:vO) (o:List wF) (d:List wU),BH a->bY a l[k]=some (zD a l[k])->vS o (zD a l[k]).2.1=some (o++(zD a l[k]).2.1)->vS d (zD a l[k]).2.2=some (d++(zD a l[k]).2.2)->step (st k a o d)=some (.inl (st (k+1) (zD a l[k]).1 (o++(zD a l[k]).2.1) (d++(zD a l[k]).2.2))))
 (he:∀a o d,step (st l.length a o d)=some (.inr (fin a o d))) :
 ∀(n i:Nat) (a:vO) (o:List wF) (d:List wU),i+n=l.length->Fg i (a,o,d)->loop step (st i a o d)=some (fin (Ep (l.drop i) a o d).1 (Ep (l.drop i) a o d).2.1 (Ep (l.drop i) a o d).2.2)/\Fg 60 (Ep (l.drop i) a o d)
 | 0,i,a,o,d,hi,h=>by
  have e:l.drop i=[]:=List.drop_eq_nil_of_le (by omega);rw[e];have hi:i=l.length:=by omega
  have h2:=h.o;have h3:=h.d
  subst hi;exact⟨wj (he a o d),⟨h.a,by show o.length<=360;have:o.length<=6*l.length:=h2;omega,by show d.length<=60;have:d.length<=l.length:=h3;omega,h.p⟩⟩
 | n+1,i,a,o,d,hi,h=>by
  have hk:i<l.length:=by omega
  have e:l.drop i=l[i]::l.drop (i+1):=List.drop_eq_getElem_cons hk;have h2:o.length<=6*i:=h.o
  have h3:d.length<=i:=h.d;obtain⟨r1,r2,r3,r4,r5,_⟩:=Sp h.a (hx _ (getElem_mem hk));have r3:(zD a l[i]).2.1.length<=6:=r3
  have r4:(zD a l[i]).2.2.length<=1:=r4;generalize hd1:(zD a l[i]).2.1.length=n1 at r3;generalize hd2:(zD a l[i]).2.2.length=n2 at r4;have hn:=HI hl hx st fin step hs he n (i+1) (zD a l[i]).1 (o++(zD a l[i]).2.1) (d++(zD a l[i]).2.2) (by omega) ⟨r2,by show (o++(zD a l[i]).2.1).length<=6*(i+1);rw[length_append,hd1];omega,by show (d++(zD a l[i]).2.2).length<=i+1;rw[length_append,hd2];omega,λx hx=>by
   rcases mem_append.1 hx with hx|hx
   · exact h.p x hx
   · exact r5 x hx⟩
  rw[e];exact⟨w9 (hs i hk a o d h.a r1 (vF (by rw[hd1];omega)) (vF (by rw[hd2];omega))) hn.1,hn.2⟩
abbrev Sq:=Int×Int×List UInt8×Int×Int×Int×Int×Int×List UInt8×Int×Int×List wF×List wU×List Pt×List vD×List vP×List Int×List wM
def GH (i:Int) (a:vO) (o:List wF) (d:List wU):Sq:=(i,a.1,a.2.1,a.2.2.2.2.2.2.1,a.2.2.2.2.2.2.2.1,a.2.2.2.2.2.2.2.2.1,a.2.2.2.2.2.2.2.2.2.1,a.2.2.2.2.2.2.2.2.2.2.1,a.2.2.2.2.2.2.2.2.2.2.2.1,a.2.2.2.2.2.2.2.2.2.2.2.2.2.1,a.2.2.2.2.2.2.2.2.2.2.2.2.2.2,o,d,a.2.2.1,a.2.2.2.1,a.2.2.2.2.1,a.2.2.2.2.2.1,a.2.2.2.2.2.2.2.2.2.2.2.2.1)
noncomputable def HJ (l:List Act) (z:Sq):=ij l z.1 z.2.1 z.2.2.1 z.2.2.2.1 z.2.2.2.2.1 z.2.2.2.2.2.1 z.2.2.2.2.2.2.1 z.2.2.2.2.2.2.2.1 z.2.2.2.2.2.2.2.2.1 z.2.2.2.2.2.2.2.2.2.1 z.2.2.2.2.2.2.2.2.2.2.1 z.2.2.2.2.2.2.2.2.2.2.2.1 z.2.2.2.2.2.2.2.2.2.2.2.2.1 z.2.2.2.2.2.2.2.2.2.2.2.2.2.1 z.2.2.2.2.2.2.2.2.2.2.2.2.2.2.1 z.2.2.2.2.2.2.2.2.2.2.2.2.2.2.2.1 z.2.2.2.2.2.2.2.2.2.2.2.2.2.2.2.2.1 z.2.2.2.2.2.2.2.2.2.2.2.2.2.2.2.2.2
theorem Qy {a:vO} (h:BH a):Fg 0 (a,[],[]):=⟨h,Nat.le_refl _,Nat.le_refl _,λd hd=>by cases hd⟩
theorem TG {a:vO} (h:BH a) {l:List Act} (hl:l.length<=60) (hx:∀x∈l,D8 x):il a l=some (Ep l a [] [])/\Fg 60 (Ep l a [] []):=by
 have hp:=HI hl hx (λk a o d=>GH (k:Int) a o d) (λa o d=>(GH 0 a o d).2) (HJ l)
  (λk hk a o d ha e1 e2 e3=>by
   dsimp only[HJ,GH];unfold ij;rw[dT (show (k:Int)<(l.length:Int) by omega),cT,vL hk,an,dF (show ¬(k:Int)>=60 by omega),cF,vK (by omega)];exact wa e1 (wa e2 (wa e3 rfl)))
  (λa o d=>by
   dsimp only[HJ,GH];unfold ij;rw[dF (show ¬(l.length:Int)<(l.length:Int) by omega),cF]) l.length 0 a [] [] (by omega) (Qy h)
 rw[drop_zero]at hp;refine⟨?_,hp.2⟩;unfold il;rw[Ae h.2.1,an];exact wa hp.1 rfl
theorem JH {l:List wF} (hn:l.length<=M):eL l l=some true:=by
 have hn:l.length<=1048576:=hn;have e:loop (λz=>eK l l z) 0=some (.inl ()):=Bi (n:=l.length) (λk hk=>by
  have hf:∀f:ym,ip f f=some true:=λf=>by
   unfold ip;simp only[beq_self_eq_true,cT,an]
  show eK l l (k:Int)=_;unfold eK;simp only[wm (show (k:Int)<(l.length:Int) by omega),cT,vL hk,an,vK (show k<9223372036854775807 by omega),bne_self_eq_false,cF,hf,Bool.not_true])
  (by
  show eK l l (l.length:Int)=_;unfold eK;rw[wg (by omega),cF])
 unfold eL;rw[bne_self_eq_false,cF,e];rfl
theorem Fg.same {r:vO×List wF×List wU} (h:Fg 60 r):dZ r.1 r.1=some true/\eL r.2.1 r.2.1=some true/\ea r.2.2 r.2.2=some true :=
 ⟨IB h.a.2.1,JH (by have:=h.o;show _<=1048576;omega),JG (by have:=h.d;show _<=1048576;omega) h.p⟩
def zJ (e:vD):Bool->List vD->List vD
 | false,[]=>[e]
 | true,[]=>[]
 | false,x::t=>if z8 x e=true then x::zJ e false t else e::(if yk x e=true then x::zJ e true t else zJ e true t)
 | true,x::t=>if yk x e=true then x::zJ e true t else zJ e true t
theorem L8 {x e:vD} (h:lt x e):z8 x e=true:=by
 cases hb:z8 x e with
 | true=>rfl
 | false =>
  exfalso;have:=JM hb
  unfold lt same at *;omega
theorem JI {x e:vD} (h:lt e x\/same x e):z8 x e=false:=by
 cases hb:z8 x e with
 | false=>rfl
 | true =>
  exfalso;have:=HN hb
  unfold lt same at *;omega
theorem HK {x e:vD} (h:¬same x e):yk x e=true:=by
 cases hb:yk x e with
 | true=>rfl
 | false=>exact absurd (Hw hb) h
theorem OT {x e:vD} (h:same x e):yk x e=false:=by
 cases hb:yk x e with
 | false=>rfl
 | true=>exact absurd h (Dq hb)
theorem GI {e:vD}:∀{l:List vD},(∀x∈l,¬same x e)->zJ e true l=l
 | [],_=>rfl
 | x::t,h=>by
  unfold zJ;rw[if_pos (HK (h x (by simp))),GI λy hy=>h y (mem_cons_of_mem _ hy)]
theorem L9 {e:vD}:∀{l:List vD} {k:Nat} (hk:k<l.length),l.Pairwise lt->same l[k] e->zJ e false l=l.set k e
 | x::t,0,_,hp,hs=>by
  have hs':same x e:=hs;unfold zJ;rw[if_neg (by rw[JI (.inr hs')];simp),if_neg (by rw[OT hs'];simp),GI λy hy=>by
   have:=(pairwise_cons.1 hp).1 y hy;unfold lt same at *;omega]
  rfl
 | x::t,k+1,hk,hp,hs=>by
  have hs':same (t[k]'(by simpa using hk)) e:=hs;have:=(pairwise_cons.1 hp).1 _ (getElem_mem (by simpa using hk:k<t.length))
  unfold zJ;rw[if_pos (L8 (by unfold lt same at *;omega)),L9 (by simpa using hk) (pairwise_cons.1 hp).2 hs'];rfl
theorem Md {e:vD}:∀{l:List vD} {d:Nat},l.Pairwise lt->(∀x∈l,¬same x e)->(∀x∈l.take d,lt x e)->(∀x,l[d]?=some x->lt e x)->zJ e false l=l.take d++e::l.drop d
 | [],d,_,_,_,_=>by simp[zJ]
 | x::t,0,hp,hn,_,h2=>by
  unfold zJ;rw[if_neg (by rw[JI (.inl (h2 x rfl))];simp),if_pos (HK (hn x (by simp))),GI λy hy=>hn y (mem_cons_of_mem _ hy)];rfl
 | x::t,d+1,hp,hn,h1,h2=>by
  unfold zJ;rw[if_pos (L8 (h1 x (by simp))),Md (d:=d) (pairwise_cons.1 hp).2 (λy hy=>hn y (mem_cons_of_mem _ hy)) (λy hy=>h1 y (by rw[List.take_succ_cons];exact mem_cons_of_mem _ hy)) (λy hy=>h2 y (by simpa using hy))];rfl
theorem TH {l:List vD} (hn:l.length<=1000) (e:vD):cV l e=some (zJ e false l):=by
 obtain⟨d,hd,g⟩:=vR (step:=λz:Bool×Int×List vD=>aO l e z.1 z.2.1 z.2.2)
  (λk z=>z.2.1=(k:Int)/\z.2.2++zJ e z.1 (l.drop k)=zJ e false l/\z.2.2.length<=2*k) l.length
  (λz=>z.2++zJ e z.1 []=zJ e false l/\z.2.length<=2000)
  (λk z hk ⟨z1,z2,z3⟩=>by
   obtain⟨t,i,b⟩:=z;simp only at z1 z2 z3;subst z1;left;have ha:∀(xs:List vD) (y:vD),xs.length<=2001->vS xs [y]=some (xs++[y]):=λxs y h=>vF (by show xs.length+1<=_;omega)
   have hs:aO l e t (k:Int) b=cond (!t&&!(z8 l[k] e))
    (cond (yk l[k] e) (some (.inl (true,((k+1:Nat):Int),b++[e]++[l[k]]))) (some (.inl (true,((k+1:Nat):Int),b++[e]))))
    (cond (yk l[k] e) (some (.inl (t,((k+1:Nat):Int),b++[l[k]]))) (some (.inl (t,((k+1:Nat):Int),b)))):=by
    have hA:bE l[k] e.1 e.2.1=some (z8 l[k] e):=by unfold bE z8;cases (l[k].1 != e.1)<;>rfl
    have hO:(cond (l[k].1 != e.1) (some true) (some (l[k].2.1 != e.2.1)))=some (yk l[k] e):=by unfold yk;cases (l[k].1 != e.1)<;>rfl
    unfold aO;simp only[wm (show (k:Int)<(l.length:Int) by omega),cT,vL hk,an,vK (show k<9223372036854775807 by omega),hA,hO,ha b e (by omega),ha b l[k] (by omega),ha (b++[e]) l[k] (by rw[length_append];show b.length+1<=_;omega)];cases t<;>cases z8 l[k] e<;>rfl
   show ∃y,aO l e t (k:Int) b=_/\_;rw[hs];have hd:l.drop k=l[k]::l.drop (k+1):=List.drop_eq_getElem_cons hk
   rw[hd]at z2;generalize hG:zJ e false l=G at z2 ⊢;cases t with
   | true =>
    unfold zJ at z2;rw[Bool.not_true,Bool.false_and,cF];cases ho:yk l[k] e with
    | true =>
     rw[if_pos ho]at z2;exact⟨_,rfl,rfl,by simpa using z2,by simp;omega⟩
    | false =>
     rw[if_neg (by rw[ho];simp)]at z2;exact⟨_,rfl,rfl,by simpa using z2,by simp;omega⟩
   | false =>
    unfold zJ at z2;rw[Bool.not_false,Bool.true_and];cases hq:z8 l[k] e with
    | true =>
     rw[if_pos hq]at z2;rw[Bool.not_true,cF,HK (K2 (HN hq)),cT];exact⟨_,rfl,rfl,by simpa using z2,by simp;omega⟩
    | false =>
     rw[if_neg (by rw[hq];simp)]at z2;rw[Bool.not_false,cT];cases ho:yk l[k] e with
     | true =>
      rw[if_pos ho]at z2;exact⟨_,rfl,rfl,by simpa using z2,by simp;omega⟩
     | false =>
      rw[if_neg (by rw[ho];simp)]at z2;exact⟨_,rfl,rfl,by simpa using z2,by simp;omega⟩)
  (λz ⟨z1,z2,z3⟩=>by
   obtain⟨t,i,b⟩:=z;simp only at z1 z2 z3;subst z1;rw[List.drop_length]at z2;refine⟨(t,b),?_,z2,by show b.length<=2000;have:b.length<=2*l.length:=z3;omega⟩;show aO l e t _ b=_
   unfold aO;rw[wg (by omega),cF]) (x:=(false,0,[])) ⟨rfl,rfl,by simp⟩
 unfold cV;rw[hd,an];obtain⟨t,b⟩:=d;simp only at g ⊢;cases t with
 | true=>rw[Bool.not_true,cF,←g.1];simp[zJ]
 | false=>rw[Bool.not_false,cT,vF (by show b.length+1<=_;omega),an,←g.1];rfl
theorem TI {l:List vD} (h:FB l) (e:vD):∃y,dQ l e=some y/\(((∃x∈l,same x e)\/l.length<12)->y.1=zJ e false l)/\(¬((∃x∈l,same x e)\/l.length<12)->y.1=l):=by
 have hn:=h.n;have hM:M=1048576:=rfl
 unfold dQ;rw[CA (by omega),an,DZ (by omega),an];rcases AU l e.1 e.2.1 with ⟨h1,h2⟩|⟨k,hk,h1,h2,h3⟩
 · rw[h1,dF (by decide),cF];have hns:∀x∈l,¬same x e:=λx hx hs=>h2 x hx hs
   by_cases h12:(l.length:Int)>=12
   · rw[dT h12,cT];refine⟨_,rfl,λhc=>?_,λ_=>rfl⟩;rcases hc with ⟨x,hx,hs⟩|hc
     · exact absurd hs (hns x hx)
     · omega
   · rw[dF h12,cF];obtain⟨d,d1,k,d2,d3,d4,d5⟩:=vR (step:=λz:Int=>bv l e z) (λk z=>z=(k:Int)/\∀x∈l.take k,xQ x e.1 e.2.1=false) l.length (λd=>∃k:Nat,d=(k:Int)/\k<=l.length/\(∀x∈l.take k,xQ x e.1 e.2.1=false)/\∀hk:k<l.length,xQ l[k] e.1 e.2.1=true)
      (λk z hk ⟨e1,e2⟩=>by
       subst e1;have hst:∀q,xQ l[k] e.1 e.2.1=q->bv l e (k:Int)=cond (!q) (some (.inl ((k+1:Nat):Int))) (some (.inr (k:Int))):=λq hq=>by
        unfold bv;rw[wm (by omega),cT,vL hk,an,J6,an,an,hq,vK (by omega)]
       cases hq:xQ l[k] e.1 e.2.1 with
       | true=>exact .inr ⟨_,hst true hq,k,rfl,by omega,e2,λ_=>hq⟩
       | false =>
        refine .inl ⟨_,hst false hq,rfl,λx hx=>?_⟩;rw[take_add_one,List.getElem?_eq_getElem hk]at hx;rcases mem_append.1 hx with hx|hx
        · exact e2 x hx
        · simp at hx;rw[hx];exact hq)
      (λz ⟨e1,e2⟩=>by
       subst e1;refine⟨_,?_,l.length,rfl,Nat.le_refl _,e2,λhk=>absurd hk (by omega)⟩;show bv l e (l.length:Int)=_
       unfold bv;rw[wg (by omega),cF,an,cF]) (x:=0) ⟨rfl,by simp⟩
     subst d2;have c1:cut l 0 (k:Int)=some (l.take k):=by
      have:=yw (l:=l) (a:=0) (b:=k) (by omega) d3;simpa using this
     have c2:cut l (k:Int) (l.length:Int)=some (l.drop k):=by
      have:=yw (l:=l) (a:=k) (b:=l.length) d3 (Nat.le_refl _);rw[take_length]at this;exact this
     have hl1:(l.take k).length<=12:=by rw[length_take];omega
     have hl2:(l.drop k).length<=12:=by rw[length_drop];omega
     refine⟨_,wa d1 (by rw[c1,an,CA (by omega),an,vF (by show (l.take k).length+1<=_;omega),an,c2,an,vF (by rw[length_append];show (l.take k).length+1+(l.drop k).length<=_;omega),an]),λ_=>?_,λhc=>absurd (.inr (by omega)) hc⟩;rw[Md h.o hns (λx hx=>Iy (d4 x hx) (h2 x (mem_of_mem_take hx))) (λx hx=>by
      have hk:k<l.length:=(List.getElem?_eq_some_iff.1 hx).1;rw[List.getElem?_eq_getElem hk]at hx;cases hx;exact GF (d5 hk))]
     simp
 · rw[h1,dT (by omega),cT,xJ hk,an,List.getElem?_eq_getElem hk,an];refine⟨_,rfl,λ_=>?_,λhc=>absurd (.inl ⟨l[k],getElem_mem hk,h2,h3⟩) hc⟩;rw[L9 hk h.o ⟨h2,h3⟩]

theorem Nn {l:List vD} (h:FB l) (tag mac port:Int):cp l tag mac port=fm l tag mac port:=by
 have hn:=h.n;have hl:l.length<=M:=by show _<=1048576;omega
 obtain⟨y,y1,y2,y3⟩:=TI h (tag,mac,port,0,false);unfold cp fm;rw[DZ (by omega),Ja (by omega),PX (by omega),PY (by omega),Nq,IE,h.ok,CA hl,Ll hl,TH (by omega),y1];simp only[an,Bool.not_true,cF];cases yn (tag,mac,port,0,false)with
 | false=>rfl
 | true =>
  simp only[Bool.not_true,cF,an];rcases AU l tag mac with ⟨e,e1⟩|⟨k,hk,e,e1,e2⟩
  · rw[e];simp only[show decide ((-1:Int)>=0)=false from rfl,show decide ((-1:Int)<0)=true from rfl,cT,cF,an];by_cases hlt:l.length<12
    · rw[dF (show ¬((l.length:Int)>=12) by omega),cF,y2 (.inr hlt)]
    · rw[dT (show ((l.length:Int)>=12) by omega),cT,y3 (λhc=>hc.elim (λ⟨x,hx,hs⟩=>e1 x hx ⟨hs.1,hs.2⟩) hlt)]
  · rw[e,dT (show (k:Int)>=0 by omega),dF (show ¬(k:Int)<0 by omega)];simp only[cT,cF,vL hk,an];cases l[k].2.2.2.2 with
    | true=>rfl
    | false =>
     simp only[cF,an,y2 (.inl ⟨l[k],getElem_mem hk,e1,e2⟩)]
theorem Qz:aC=aj:=rfl
theorem Np (c:Int) {k:Nat} (hk:k<6):aX c (k:Int)=ay c (k:Int):=by
 obtain⟨t,t1,t2⟩:=HV c hk;rw[t1,t2]
theorem Sr (v:wz) {k:Nat} (hk:k<6) (tag:Int):iE v (k:Int) tag=fk v (k:Int) tag:=by
 unfold iE fk;simp only[yB,AG,Qz,Np _ hk]
theorem Ru:jC=ch:=rfl
theorem Ss (v:wz) (id:Int) {k:Nat} (hk:k<6):iH v id (k:Int)=ci v id (k:Int):=by
 unfold iH ci;simp only[Qz,Np _ hk]
theorem Su:jy=gx:=rfl
theorem IC {b:vw} (h:yb b) (i:Int):eQ b i=bM b i:=by
 unfold eQ bM;rw[Bx h,Az h];simp only[yB,AG]
theorem TJ {f:ym} (h:f.2.2.2.length<=20) (t:Int):iG f t=some (f.1,f.2.1,t,f.2.2.2):=by
 unfold iG jD;rw[yS (by show _<=1048576;omega)];rfl
theorem TK {l:List vD} (h:FB l) (tag mac:Int):∃u,fo l tag mac=some u/\iF l tag mac=some u/\(u = -1\/(0<=u/\u<=7)):=by
 have hn:=h.n;unfold fo iF;rw[DZ (by omega),Ja (by omega)];simp only[an];rcases AU l tag mac with ⟨e,_⟩|⟨k,hk,e,_,_⟩
 · rw[e];exact⟨-1,rfl,rfl,.inl rfl⟩
 · rw[e];simp only[dF (show ¬(k:Int)<0 by omega),cF,vL hk,an];have hf:=h.e _ (getElem_mem hk)
   unfold yn at hf;simp only[aT]at hf;have:=wu hf.2.2.1
   exact⟨_,rfl,rfl,.inr this⟩
theorem Sv {c:Nat} (hc:c<64) (e:Int):∃m:Nat,m<64/\xM .i64 (c:Int) e=(m:Int):=by
 have h:(BitVec.ofInt 64 (c:Int)&&&BitVec.ofInt 64 e).toNat<=c:=by
  rw[BitVec.toNat_and];refine Nat.le_trans Nat.and_le_left ?_;rw[BitVec.toNat_ofInt];omega
 refine⟨(BitVec.ofInt 64 (c:Int)&&&BitVec.ofInt 64 e).toNat,by omega,?_⟩;show IntKind.i64.wrap _=_
 exact vW (n:=(((BitVec.ofInt 64 (c:Int)&&&BitVec.ofInt 64 e).toNat:Nat):Int)) (by omega) (by omega)
def Sw:Bool:=(List.range 64).all λm=>(List.range 6).all λk=>match shl .i64 1 (IntKind.u64.wrap (k:Int))with
 | some s=>decide (0<=BE .i64 (m:Int) s)&&(decide (BE .i64 (m:Int) s<64)&&((List.range 6).all λj=>A1 (BE .i64 (m:Int) s).toNat (j:Int)==(((j:Int) != (k:Int))&&A1 m (j:Int))))
 | none=>false
theorem LN:Sw=true:=by kernel_rfl
theorem UK {m:Nat} (hm:m<64) {k:Nat} (hk:k<6):∃s,shl .i64 1 (IntKind.u64.wrap (k:Int))=some s/\∃q:Nat,q<64/\BE .i64 (m:Int) s=(q:Int)/\∀j:Nat,j<6->A1 q (j:Int)=(((j:Int) != (k:Int))&&A1 m (j:Int)):=by
 have h:=all_eq_true.1 (all_eq_true.1 LN m (mem_range.2 hm)) k (mem_range.2 hk);cases hs:shl .i64 1 (IntKind.u64.wrap (k:Int))with
 | none=>rw[hs]at h;cases h
 | some s =>
  rw[hs]at h;simp only[aT,decide_eq_true_eq,all_eq_true,beq_iff_eq,mem_range]at h;obtain⟨h1,h2,h3⟩:=h;exact⟨s,rfl,(BE .i64 (m:Int) s).toNat,by omega,by omega,h3⟩
def Sx:Bool:=(List.range 64).all λm=>(List.range 8).all λu=>match shl .i64 1 (IntKind.u64.wrap (u:Int))with
 | some s=>decide (0<=xM .i64 (m:Int) s)&&(decide (xM .i64 (m:Int) s<64)&&((List.range 6).all λj=>A1 (xM .i64 (m:Int) s).toNat (j:Int)==(A1 m (j:Int)&&((u:Int)==(j:Int)))))
 | none=>false
theorem LO:Sx=true:=by kernel_rfl
theorem UL {m:Nat} (hm:m<64) {u:Nat} (hu:u<8):∃s,shl .i64 1 (IntKind.u64.wrap (u:Int))=some s/\∃q:Nat,q<64/\xM .i64 (m:Int) s=(q:Int)/\∀j:Nat,j<6->A1 q (j:Int)=(A1 m (j:Int)&&((u:Int)==(j:Int))):=by
 have h:=all_eq_true.1 (all_eq_true.1 LO m (mem_range.2 hm)) u (mem_range.2 hu);cases hs:shl .i64 1 (IntKind.u64.wrap (u:Int))with
 | none=>rw[hs]at h;cases h
 | some s =>
  rw[hs]at h;simp only[aT,decide_eq_true_eq,all_eq_true,beq_iff_eq,mem_range]at h;obtain⟨h1,h2,h3⟩:=h;exact⟨s,rfl,(xM .i64 (m:Int) s).toNat,by omega,by omega,h3⟩
theorem Sy {b:vw} (hn:b.2.2.1.length<=6) (hv:b.2.2.2.2.1.length<=6) {f:ym} (hf:f.2.2.2.length<=20) {k:Nat} {c:Nat} {cl:Int×Bool} {e:Int} (he:ch (b.2.2.2.2.1,b.2.2.2.2.2.1) cl.1=some e) {m:Nat} (hm:m<64) (hme:xM .i64 (c:Int) e=(m:Int)) {q:Nat}
 (Q:Int->Option Bool) (Qb:Nat->Bool) (hQ:∀j:Nat,j<6->Q (j:Int)=some (Qb j)) (hq:∀j:Nat,j<6->A1 q (j:Int)=(((j:Int) != (k:Int)&&A1 m (j:Int))&&Qb j))
 (stepI:Int×List wF->Option ((Int×List wF)⊕List wF))
 (hs:∀(j:Nat) (out:List wF),j<b.2.2.1.length->stepI ((j:Int),out)=((cond ((j:Int) != (k:Int)) ((ch (b.2.2.2.2.1,b.2.2.2.2.2.1) cl.1).bind λt89=>(ay (xM .i64 (c:Int) t89) (j:Int)).bind λt92=>some t92) (some false)).bind λt93 =>
  (cond t93 ((Q (j:Int)).bind λt101=>some t101) (some false)).bind λt102 =>
  cond t102 ((ci (b.2.2.2.2.1,b.2.2.2.2.2.1) cl.1 (j:Int)).bind λt110=>(dR f t110).bind λt111=>(vS out [((j:Int),t111.1,t111.2.1,t111.2.2.1,t111.2.2.2)]).bind λzs114=>some (.inl (vA ((j:Int)+1),zs114)))
   (some (.inl (vA ((j:Int)+1),out)))))
 (he2:∀out:List wF,stepI ((b.2.2.1.length:Int),out)=some (.inr out)) :
 ∃o,loop stepI (0,[])=some o/\dA b cl.1 (q:Int) f=some o:=by
 obtain⟨o,h1,h2⟩:=ON (f:=stepI) (g:=λz:Int×List wF=>eR b cl.1 (q:Int) f z.1 z.2) (λj z=>z.1=(j:Int)/\z.2.length<=j) b.2.2.1.length
  (λj z hj ⟨z1,z2⟩=>by
   obtain⟨i,out⟩:=z;simp only at z1 z2;subst z1;obtain⟨g,hg⟩:=Oz (v:=(b.2.2.2.2.1,b.2.2.2.2.2.1)) hv cl.1 (k:=j) (by omega);have hap:vS out [((j:Int),f.1,f.2.1,g,f.2.2.2)]=some (out++[((j:Int),f.1,f.2.1,g,f.2.2.2)]):=vF (by show out.length+1<=_;omega)
   have hb:A1 q (j:Int)=(((j:Int) != (k:Int)&&A1 m (j:Int))&&Qb j):=hq j (by omega);have hI:stepI ((j:Int),out)=cond (A1 q (j:Int)) (some (.inl (((j+1:Nat):Int),out++[((j:Int),f.1,f.2.1,g,f.2.2.2)]))) (some (.inl (((j+1:Nat):Int),out))):=by
    rw[hs j out hj,he,hb];simp only[an,hme,UU hm,hQ j (by omega),hg,Sa hf,hap,vK (show j<9223372036854775807 by omega)];cases (j:Int) != (k:Int)<;>cases A1 m (j:Int)<;>cases Qb j<;>rfl
   have hS:eR b cl.1 (q:Int) f (j:Int) out=cond (A1 q (j:Int)) (some (.inl (((j+1:Nat):Int),out++[((j:Int),f.1,f.2.1,g,f.2.2.2)]))) (some (.inl (((j+1:Nat):Int),out))):=by
    unfold eR;rw[dT (show (j:Int)<(b.2.2.1.length:Int) by omega),cT,UT,an];simp only[Ss _ _ (show j<6 by omega),hg,an,TJ hf,hap,vK (show j<9223372036854775807 by omega)]
   cases hbit:A1 q (j:Int)with
   | true =>
    rw[hbit]at hI hS;exact⟨_,hI,hS,rfl,by show (out++[_]).length<=j+1;rw[length_append];show out.length+1<=j+1;omega⟩
   | false =>
    rw[hbit]at hI hS;exact⟨_,hI,hS,rfl,by show out.length<=j+1;omega⟩)
  (λz ⟨z1,z2⟩=>by
   obtain⟨i,out⟩:=z;simp only at z1 z2;subst z1;refine⟨out,he2 out,?_⟩;show eR b cl.1 (q:Int) f (b.2.2.1.length:Int) out=_
   unfold eR;rw[dF (show ¬(b.2.2.1.length:Int)<(b.2.2.1.length:Int) by omega),cF]) (x:=(0,[])) ⟨rfl,Nat.le_refl _⟩
 refine⟨o,h1,?_⟩;unfold dA;exact wa h2 rfl
theorem La {b:vw} (h:yb b) (hl:z7 M b) (i:Int) (f:ym):eM b i f=bN b i f:=by
 cases hp0:wq b with
 | false =>
  unfold eM bN;rw[x7 hl,xe hl,IC h,H7 h hp0];rfl
 | true =>
 have h:=BK h hp0;have s:=h.sok
 have hn:=h.n6;have hv:=s.v
 have hq:=s.q;obtain⟨q1,q2,q3,q4,q5⟩:=zo (AF h.ok).1;have hfb:=Hc h.f
 unfold eM bN;rw[x7 h.le,xe h.le,an,an,IC h.w,DA h,an,an];cases hp:vE i 0 ((b.2.2.1.length:Int)-1)with
 | false=>rfl
 | true =>
 rw[Bool.not_true,cF,cF,Su,Ow,an,an,an];cases hf:Fe f with
 | false=>rfl
 | true =>
 have hlen:f.2.2.2.length<=20:=by
  unfold Fe at hf;simp only[aT,decide_eq_true_eq]at hf;omega
 obtain⟨p0,p1⟩:=wu hp;obtain⟨k,rfl⟩:∃k:Nat,i=(k:Int):=⟨i.toNat,by omega⟩;have hk:k<b.2.2.1.length:=by omega
 have hk6:k<6:=by omega
 obtain⟨c,hc64,hc,hcs⟩:=Lh b.1 (l:=b.2.2.1) (by omega);obtain⟨cl,hcl⟩:=Oy (v:=(b.2.2.2.2.1,b.2.2.2.2.2.1)) hv (by show b.2.2.2.2.2.1.length<=6;omega) (k:=k) (by show k<b.2.2.2.2.2.1.length;omega) f.2.2.1;obtain⟨t,ht,_⟩:=HV (c:Int) hk6;rw[Bool.not_true,cF,cF,hc,hcs,an,an,Sr _ hk6,hcl,an,an,Np _ hk6,ht,an,an];have hst:∀{A B:Option (vw×List wF)},A=B->(cond (!t) (some true) (some (!cl.2))).bind (λt50=>cond t50 ((aK b.2.2.2.2.2.2.2.2.2.1).bind λt53=>some ((b.1,b.2.1,b.2.2.1,b.2.2.2.1,b.2.2.2.2.1,b.2.2.2.2.2.1,b.2.2.2.2.2.2.1,b.2.2.2.2.2.2.2.1,b.2.2.2.2.2.2.2.2.1,t53,b.2.2.2.2.2.2.2.2.2.2),([]:List wF))) A)=(cond (!t) (some true) (some (!cl.2))).bind (λt48=>cond t48 ((az b.2.2.2.2.2.2.2.2.2.1).bind λt51=>some ((b.1,b.2.1,b.2.2.1,b.2.2.2.1,b.2.2.2.2.1,b.2.2.2.2.2.1,b.2.2.2.2.2.2.1,b.2.2.2.2.2.2.2.1,b.2.2.2.2.2.2.2.2.1,t51,b.2.2.2.2.2.2.2.2.2.2),[])) B):=λe=>by
  rw[e,KZ q4,CO]
 refine hst ?_;rw[Nn hfb,Ru];obtain⟨F,hF,hFB⟩:=Ov hfb cl.1 f.2.1 (k:Int);obtain⟨e,he⟩:=M5 (v:=(b.2.2.2.2.1,b.2.2.2.2.2.1)) hv cl.1;obtain⟨m,hm,hme⟩:=Sv hc64 e;obtain⟨sh,hsh,q,hq64,hqe,hqb⟩:=UK hm hk6;rw[hF,an,an,CO,KZ q5,an,an,he,an,hsh,an,hme];simp only[hqe];obtain⟨o1,a1,a2⟩:=Sy hn hv hlen (k:=k) (c:=c) (cl:=cl) he hm hme (q:=q) (λj=>cond (decide ((-1:Int)<0)) (some true) (some ((-1)==j))) (λ_=>true) (λj hj=>rfl) (λj hj=>by rw[Bool.and_true];exact hqb j hj) (λz=>bz b (k:Int) f (c:Int) cl z.1 z.2)
  (λj out hj=>by
   show bz b (k:Int) f (c:Int) cl (j:Int) out=_;unfold bz;rw[wm (by omega),cT]) (λout=>by
   show bz b (k:Int) f (c:Int) cl (b.2.2.1.length:Int) out=_;unfold bz;rw[wg (by omega),cF])
 cases f.1 != 0 with
 | false =>
  rw[cF,cF,a2,an]
  symm;exact wa a1 rfl
 | true =>
  obtain⟨u,u1,u2,u3⟩:=TK hFB cl.1 f.1;rw[cT,cT,u1,u2,an,an];have fin:∀(q:Nat),(∀j:Nat,j<6->A1 q (j:Int)=(((j:Int) != (k:Int)&&A1 m (j:Int))&&(decide (u<0)||(u==(j:Int)))))->∃o,loop (λz:Int×List wF=>bx b (k:Int) f (c:Int) cl u z.1 z.2) (0,[])=some o/\dA b cl.1 (q:Int) f=some o:=λq hq =>
   Sy hn hv hlen (k:=k) (c:=c) (cl:=cl) he hm hme (q:=q) (λj=>cond (decide (u<0)) (some true) (some (u==j))) (λj=>decide (u<0)||(u==(j:Int))) (λj hj=>by cases decide (u<0)<;>rfl) hq _
   (λj out hj=>by
    show bx b (k:Int) f (c:Int) cl u (j:Int) out=_;unfold bx;rw[wm (by omega),cT]) (λout=>by
    show bx b (k:Int) f (c:Int) cl u (b.2.2.1.length:Int) out=_;unfold bx;rw[wg (by omega),cF])
  rcases u3 with rfl|⟨u3,u4⟩
  · obtain⟨o,b1,b2⟩:=fin q (λj hj=>by rw[show decide ((-1:Int)<0)=true from rfl,Bool.true_or,Bool.and_true];exact hqb j hj);rw[show decide ((-1:Int)>=0)=false from rfl,cF,b2,an]
    symm;exact wa b1 rfl
  · obtain⟨n,rfl⟩:∃n:Nat,u=(n:Int):=⟨u.toNat,by omega⟩;obtain⟨s2,g1,q',g2,g3,g4⟩:=UL hq64 (u:=n) (by omega);obtain⟨o,b1,b2⟩:=fin q' (λj hj=>by rw[g4 j hj,hqb j hj,dF (show ¬(n:Int)<0 by omega),Bool.false_or]);rw[dT (show (n:Int)>=0 by omega),cT,g1,an,g3,b2,an]
    symm;exact wa b1 rfl
theorem OU {b:vw} (h:yb b) (hl:z7 M b) (p:Int) (up:Bool):iL b p up=cj b p up:=by
 unfold iL cj;rw[x7 hl,xe hl,an,an,IC h];cases hp0:wq b with
 | false=>rw[H7 h hp0];rfl
 | true =>
 have h:=BK h hp0;have hn:=h.n6
 have s:=h.sok;rw[DA h,an,an];cases hp:vE p 0 ((b.2.2.1.length:Int)-1)with
 | false=>rfl
 | true =>
  obtain⟨p0,p1⟩:=wu hp;obtain⟨k,rfl⟩:∃k:Nat,p=(k:Int):=⟨p.toNat,by omega⟩;have hk:k<b.2.2.1.length:=by omega
  have hq:zQ (up,b.2.2.1[k].2.1,false,0,0,0,0,0)=true:=by
   have:=h.p _ (getElem_mem hk);unfold zQ at this ⊢;simp only[aT]at this;rw[this.1];rfl
  have s':=FK s (P:=b.2.2.1.set k (up,b.2.2.1[k].2.1,false,0,0,0,0,0)) (by rw[length_set]) (Do h.p hq);obtain⟨r,r1,r2,_⟩:=K5 s';rw[Bool.not_true,cF,cT,vL hk,an,an,xJ hk,an,an,List.getElem?_eq_getElem hk,an,an];refine (wa (a:=r) r2 rfl).trans ?_;symm;exact wa (a:=r) r1 rfl

theorem OV {b:vw} (h:yb b) (hl:z7 M b) (p:Int) (v:AO):iK b p v=cm b p v:=by
 unfold iK cm;rw[x7 hl,xe hl,an,an,IC h];cases hp0:wq b with
 | false=>rw[H7 h hp0];rfl
 | true =>
 have h:=BK h hp0;have hn:=h.n6
 have s:=h.sok;rw[DA h,an,an];cases hp:vE p 0 ((b.2.2.1.length:Int)-1)with
 | false=>rfl
 | true =>
  obtain⟨p0,p1⟩:=wu hp;obtain⟨k,rfl⟩:∃k:Nat,p=(k:Int):=⟨p.toNat,by omega⟩;have hk:k<b.2.2.1.length:=by omega
  rw[Bool.not_true,cF,cT,vL hk,an,an,an,an];cases hu:b.2.2.1[k].1 with
  | false=>rfl
  | true =>
   rw[Bool.not_true,cF,cT,Sz,Ld,an,an,an,an];cases hv:Da v with
   | false=>rfl
   | true =>
    have hq:zQ (b.2.2.1[k].1,b.2.2.1[k].2.1,true,v.1,v.2.1,v.2.2.1,v.2.2.2.1,v.2.2.2.2)=true:=by
     have:=h.p _ (getElem_mem hk);unfold zQ at this ⊢;simp only[aT]at this;rw[this.1,hu];have hv':Da (v.1,v.2.1,v.2.2.1,v.2.2.2.1,v.2.2.2.2)=true:=hv
     simp[hv']
    rw[Bool.not_true,cF,cT,xJ hk,an,an,List.getElem?_eq_getElem hk,an,an];have hk2:k<(b.2.2.1.set k (b.2.2.1[k].1,b.2.2.1[k].2.1,true,b.2.2.1[k].2.2.2.1,b.2.2.1[k].2.2.2.2.1,b.2.2.1[k].2.2.2.2.2.1,b.2.2.1[k].2.2.2.2.2.2.1,b.2.2.1[k].2.2.2.2.2.2.2)).length:=by rw[length_set];exact hk
    rw[xJ hk2,an,an,List.getElem?_eq_getElem hk2,an,an,List.getElem_set_self,set_set];have s':=FK s (P:=b.2.2.1.set k (b.2.2.1[k].1,b.2.2.1[k].2.1,true,v.1,v.2.1,v.2.2.1,v.2.2.2.1,v.2.2.2.2)) (by rw[length_set]) (Do h.p hq)
    obtain⟨r,r1,r2,_⟩:=K5 s';refine (wa (a:=r) r2 rfl).trans ?_;symm;exact wa (a:=r) r1 rfl
theorem Lb {b:vw} (h:yb b) (hl:z7 M b) (x:Act):dz b x=some (BC b x):=by
 obtain⟨r,r1,_⟩:=OQ h hl x;rw[GG r1];unfold oB at r1;unfold dz;by_cases k3:x.1=3
 · rw[if_pos k3]at r1;rw[show (x.1==3)=true from beq_iff_eq.2 k3,cT,La h hl];exact wa r1 rfl
 rw[if_neg k3]at r1;rw[beq_eq_false_iff_ne.2 k3,cF];by_cases k4:x.1=4
 · rw[if_pos k4]at r1;rw[show (x.1==4)=true from beq_iff_eq.2 k4,cT,OV h hl];obtain⟨q,q1,q2⟩:=Option.bind_eq_some_iff.1 r1;cases q2;exact wa q1 rfl
 rw[if_neg k4]at r1;rw[beq_eq_false_iff_ne.2 k4,cF];by_cases k5:x.1=5
 · rw[if_pos k5]at r1;rw[show (x.1==5)=true from beq_iff_eq.2 k5,cT,OU h hl];obtain⟨q,q1,q2⟩:=Option.bind_eq_some_iff.1 r1;cases q2;exact wa q1 rfl
 rw[if_neg k5]at r1;rw[beq_eq_false_iff_ne.2 k5,cF];by_cases k6:x.1=6
 · rw[if_pos k6]at r1;rw[show (x.1==6)=true from beq_iff_eq.2 k6,cT];obtain⟨t,t1,t2,_⟩:=OM h hl;rw[t1]at r1;cases r1;exact wa t2 rfl
 rw[if_neg k6]at r1;rw[beq_eq_false_iff_ne.2 k6,cF,xe hl];cases r1;rfl
abbrev Ut:=Int×Int×List UInt8×Int×Int×Int×Int×Int×List Pt×List vD×List vP×List Int
def Lc (i:Int) (b:vw):Ut:=(i,b.1,b.2.1,b.2.2.2.2.2.2.1,b.2.2.2.2.2.2.2.1,b.2.2.2.2.2.2.2.2.1,b.2.2.2.2.2.2.2.2.2.1,b.2.2.2.2.2.2.2.2.2.2,b.2.2.1,b.2.2.2.1,b.2.2.2.2.1,b.2.2.2.2.2.1)
noncomputable def GJ (l:List Act) (z:Ut):=iM l z.1 z.2.1 z.2.2.1 z.2.2.2.1 z.2.2.2.2.1 z.2.2.2.2.2.1 z.2.2.2.2.2.2.1 z.2.2.2.2.2.2.2.1 z.2.2.2.2.2.2.2.2.1 z.2.2.2.2.2.2.2.2.2.1 z.2.2.2.2.2.2.2.2.2.2.1 z.2.2.2.2.2.2.2.2.2.2.2
theorem TL {b:vw} (h:yb b) (hl:z7 M b) {l:List Act} (hn:l.length<=M):iw b l=some (H8 l b):=by
 have hn:l.length<=1048576:=hn;unfold iw;rw[xe hl,an];obtain⟨d,d1,d2⟩:=vR (step:=GJ l) (λk z=>z=Lc (k:Int) ((l.take k).foldl BC b)) (min l.length 60) (λd=>d=(Lc 0 (H8 l b)).2)
  (λk z hk e=>by
   subst e;left;have hkl:k<l.length:=by omega
   obtain⟨f1,f2⟩:=H9 (l.take k) b h hl;have t1:l.take (k+1)=l.take k++[l[k]]:=by rw[take_add_one,List.getElem?_eq_getElem hkl];rfl
   have e1:(l.take (k+1)).foldl BC b=BC ((l.take k).foldl BC b) l[k]:=by rw[t1,List.foldl_append];rfl
   dsimp only[GJ,Lc];unfold iM;rw[dT (show (k:Int)<(l.length:Int) by omega),cT,dT (show (k:Int)<60 by omega),an,cT,vL hkl,an];refine⟨_,wa (Lb f1 f2 l[k]) rfl,?_⟩;rw[e1,vK (by omega)])
  (λz e=>by
   subst e;refine⟨_,?_,rfl⟩;dsimp only[GJ,Lc];unfold iM;have e2:(cond (decide (((min l.length 60:Nat):Int)<(l.length:Int))) (some (decide (((min l.length 60:Nat):Int)<60))) (some false))=some false:=by
    by_cases hc:l.length<=60
    · rw[dF (by omega)];rfl
    · rw[dT (by omega),cT,dF (by omega)]
   have e3:l.take (min l.length 60)=l.take 60:=by
    by_cases hc:l.length<=60
    · rw[Nat.min_eq_left hc,take_of_length_le (Nat.le_refl _),take_of_length_le hc]
    · rw[Nat.min_eq_right (by omega)]
   rw[e2,an,cF,e3];rfl) (x:=Lc 0 b) (by rw[List.take_zero];rfl)
 rw[d2]at d1;exact wa d1 rfl
theorem OW {a:vO} (h:BH a) {x:Act} (hx:D8 x):fR a x=some (zD a x):=by
 have hml:x.2.2.2.1.length<=M:=by have:=hx.2;show _<=1048576;omega
 obtain⟨e1,_⟩:=Sp h hx;rw[←e1];unfold fR bY;rw[Ae h.2.1,By h.2.1,an,an,CY h.1,GQ h.1,an,an];cases hp:yt a with
 | false=>rfl
 | true =>
  have hA:=J5 h.1 h.2.1 h.2.2 hp;have hn:=hA.n
  rw[Bool.not_true,cF,cF];by_cases h1:x.1=1
  · obtain⟨r,r1,r2,_⟩:=H5 hA hx.1 hml;unfold bh;rw[show (x.1==1)=true by rw[h1];rfl,cT,cT,r1,r2];rfl
  by_cases h2:x.1=2
  · unfold bh;rw[beq_eq_false_iff_ne.2 h1,cF,cF,show (x.1==2)=true by rw[h2];rfl,cT,cT];have e:vA ((a.2.2.2.2.2.2.2.2.2.2.2.2.1.length:Int)-1)=((vC a).length:Int)-1:=vW (by show -9223372036854775808<=((vC a).length:Int)-1;omega) (by show ((vC a).length:Int)-1<=_;omega)
    rw[e,yB,an];cases hpk:vE x.2.1 0 (((vC a).length:Int)-1)with
    | false =>
     have hk':x.2.1<0\/((vC a).length:Int)<=x.2.1:=by
      unfold vE at hpk;by_cases h0:0<=x.2.1
      · rw[dT h0,Bool.true_and,decide_eq_false_iff_not]at hpk;omega
      · omega
     rw[M9 hA hk'];rfl
    | true =>
     obtain⟨p0,p1⟩:=wu hpk;obtain⟨k,hk⟩:∃k:Nat,x.2.1=(k:Int):=⟨x.2.1.toNat,by omega⟩;have hk':k<(vC a).length:=by omega
     rw[hk,OI hA hk',cT,N7 hA hk'];rfl
  rw[beq_eq_false_iff_ne.2 h1,cF,beq_eq_false_iff_ne.2 h2,cF];by_cases h3:3<=x.1
  · obtain⟨r,r1,_⟩:=OQ hA.b.w hA.b.le x;have hb:=Lb hA.b.w hA.b.le x
    rw[GG r1]at hb;refine Eq.trans ?_ (Eq.symm (wa (PW a h3 r1) (r:=some (xa r.1 (aW a) (vC a) (wS a) (we a),r.2,[])) rfl));by_cases k3:x.1=3
    · rw[show (x.1==3)=true from beq_iff_eq.2 k3,cT];unfold oB at r1;rw[if_pos k3]at r1;exact wa ((La hA.b.w hA.b.le x.2.1 (So x)).trans r1) rfl
    have ho:r.2=[]:=by
     unfold oB at r1;rw[if_neg k3]at r1;split at r1
     · obtain⟨q,q1,q2⟩:=Option.bind_eq_some_iff.1 r1;cases q2;rfl
     · split at r1
       · obtain⟨q,q1,q2⟩:=Option.bind_eq_some_iff.1 r1;cases q2;rfl
       · split at r1
         · obtain⟨q,q1,q2⟩:=Option.bind_eq_some_iff.1 r1;cases q2;rfl
         · cases r1;rfl
    rw[beq_eq_false_iff_ne.2 k3,cF,ho];by_cases k4:x.1=4
    · rw[show (x.1==4)=true from beq_iff_eq.2 k4,cT,cT];exact wa hb rfl
    rw[beq_eq_false_iff_ne.2 k4,cF];by_cases k5:x.1=5
    · rw[show (x.1==5)=true from beq_iff_eq.2 k5,cT,cT];exact wa hb rfl
    rw[beq_eq_false_iff_ne.2 k5,cF];by_cases k6:x.1=6
    · rw[show (x.1==6)=true from beq_iff_eq.2 k6,cT];exact wa hb rfl
    rw[beq_eq_false_iff_ne.2 k6,cF];unfold oB at r1;rw[if_neg k3,if_neg k4,if_neg k5,if_neg k6]at r1;cases r1;rfl
  · unfold bh;rw[beq_eq_false_iff_ne.2 h1,cF,beq_eq_false_iff_ne.2 h2,cF,beq_eq_false_iff_ne.2 (show x.1≠3 by omega),cF,cF,beq_eq_false_iff_ne.2 (show x.1≠4 by omega),cF,cF,beq_eq_false_iff_ne.2 (show x.1≠5 by omega),cF,cF,beq_eq_false_iff_ne.2 (show x.1≠6 by omega),cF,cF];rfl
noncomputable def GK (l:List Act) (z:Sq):=iu l z.1 z.2.1 z.2.2.1 z.2.2.2.1 z.2.2.2.2.1 z.2.2.2.2.2.1 z.2.2.2.2.2.2.1 z.2.2.2.2.2.2.2.1 z.2.2.2.2.2.2.2.2.1 z.2.2.2.2.2.2.2.2.2.1 z.2.2.2.2.2.2.2.2.2.2.1 z.2.2.2.2.2.2.2.2.2.2.2.1 z.2.2.2.2.2.2.2.2.2.2.2.2.1 z.2.2.2.2.2.2.2.2.2.2.2.2.2.1 z.2.2.2.2.2.2.2.2.2.2.2.2.2.2.1 z.2.2.2.2.2.2.2.2.2.2.2.2.2.2.2.1 z.2.2.2.2.2.2.2.2.2.2.2.2.2.2.2.2.1 z.2.2.2.2.2.2.2.2.2.2.2.2.2.2.2.2.2
theorem TM {a:vO} (h:BH a) {l:List Act} (hl:l.length<=60) (hx:∀x∈l,D8 x):iv a l=some (Ep l a [] []):=by
 have hp:=HI hl hx (λk a o d=>GH (k:Int) a o d) (λa o d=>(GH 0 a o d).2) (GK l)
  (λk hk a o d ha e1 e2 e3=>by
   dsimp only[GK,GH];unfold iu;rw[dT (show (k:Int)<(l.length:Int) by omega),cT,dT (show (k:Int)<60 by omega),an,cT,vL hk,an,vK (by omega)];exact wa (OW ha (hx _ (getElem_mem hk))) (wa e2 (wa e3 rfl)))
  (λa o d=>by
   dsimp only[GK,GH];unfold iu;rw[dF (show ¬(l.length:Int)<(l.length:Int) by omega),cF,an,cF]) l.length 0 a [] [] (by omega) (Qy h)
 rw[drop_zero]at hp;unfold iv;rw[By h.2.1,an];exact wa hp.1 rfl

end Go.V.W

