/- The law FnAgentsBent: part of the proof that for every input it returns true. No condition. -/
import Derived.Test.YtpidgkkbmlgehaaGreatFnAgentsBentBP2
open List (append_assoc append_nil getElem_mem getElem_set_self length_append length_drop length_map length_set length_singleton length_take map_append map_map mem_append mem_cons mem_map mem_of_mem_drop mem_of_mem_take mem_singleton nil_append not_mem_nil set_set take_add_one take_length take_of_length_le)
set_option linter.unusedVariables false
set_option linter.unusedSimpArgs false
namespace Go.V.W
theorem OZ (w:List UInt8) {b:List Int} (hb:vd b) (hn:b.length<=M):∃r,eu w b=some r/\f9 w b=some r/\vQ M r.1/\(r.2=0->vb r.1=true):=by
 have hM:M=1048576:=rfl;have nil:vQ M ((0,0,0,0,[]):tQ):=⟨by show 0<=1048576;decide,λx hx=>by simp at hx⟩
 obtain⟨t,t1,t2,t3⟩:=G7 hb hn (i:=0) (by omega);have htb:t.2.1.length<=250/\vd t.2.1:=by
  rcases t3 with rfl|⟨k,body,next,rfl,h⟩
  · exact⟨by simp,zl⟩
  · exact⟨h.n,h.b⟩
 have h0:BK (t.2.1,0,false):=⟨htb.2,by show t.2.1.length<=M;omega,by show (0:Int)<=0;omega,by show (0:Int)<=(t.2.1.length:Int);omega⟩;obtain⟨d1,a1,b1,c1,e1,f1,g1⟩:=KI h0;obtain⟨d2,a2,b2,c2,e2,m2,n2,k2,f2,g2⟩:=Ex c1 4;have hlen:d2.1.1=t.2.1:=by rw[e2,e1]
 have hlo:=c2.lo;have hhi:=c2.hi
 rw[hlen]at hhi;obtain⟨j,hj⟩:∃j:Nat,d2.1.2.1=(j:Int):=⟨d2.1.2.1.toNat,by omega⟩;have hcut:cut t.2.1 d2.1.2.1 (t.2.1.length:Int)=some (t.2.1.drop j):=by
  rw[hj,wS (by omega) (Nat.le_refl _),take_length]
 obtain⟨g,p1,p2,p3⟩:=Q8 (b:=t.2.1.drop j) (λx hx=>htb.2 x (mem_of_mem_drop hx)) (by rw[length_drop];omega);unfold eu f9;simp only[t1,t2,a1,b1,a2,b2,an,hcut,p1,p2];cases (!t.2.2.2)with
 | true=>exact⟨_,rfl,rfl,nil,λe=>(by cases e)⟩
 | false =>
 simp only[cF,an];cases (t.1 != 48)with
 | true=>exact⟨_,rfl,rfl,nil,λe=>(by cases e)⟩
 | false =>
 simp only[cF,an];cases (t.2.2.1 != (b.length:Int))with
 | true=>exact⟨_,rfl,rfl,nil,λe=>(by cases e)⟩
 | false =>
 simp only[cF,an];cases d2.1.2.2 with
 | true=>exact⟨_,rfl,rfl,nil,λe=>(by cases e)⟩
 | false =>
 simp only[cF,an];cases (d1.2 != 1)with
 | true=>exact⟨_,rfl,rfl,nil,λe=>(by cases e)⟩
 | false =>
 simp only[cF,an];cases (uL d2.2==w)with
 | false=>exact⟨_,rfl,rfl,nil,λe=>(by cases e)⟩
 | true =>
 simp only[Bool.not_true,cF];rcases p3 with rfl|⟨p,rfl,q1,q2⟩
 · exact⟨_,rfl,rfl,nil,λe=>(by cases e)⟩
 · exact⟨_,rfl,rfl,q2,λ_=>q1⟩

def yf (p:tQ):List Int:=if vb p=true/\(ug p.2.2.2.2).length<=250/\(wH p).length<=250 then ui p.1 (wH p)else []
def uM (p:tQ):Bool:=tj ((yf p).length:Int) 1 120
theorem En {p:tQ} (hp:vQ M p):aV p=some (uM p):=by
 unfold aV;rw[M4 hp,an];show (ac ((yf p).length:Int) 1 120).bind _=_
 rw[wR,an];rfl
theorem O2 {p:tQ} (h:uM p=true):vb p=true:=by
 unfold uM yf at h;split at h
 · rename_i hh;exact hh.1
 · obtain⟨h1,_⟩:=ur h;simp at h1
theorem BB {α β:Type} {l:List α} {g:α->β} {step:Int×List β->Option ((Int×List β)⊕List β)} (hn:l.length<=M)
 (h1:∀k (hk:k<l.length) (out:List β),out.length=k->step ((k:Int),out)=some (.inl (((k+1:Nat):Int),out++[g l[k]]))) (h2:∀out,step ((l.length:Int),out)=some (.inr out)):loop step (0,[])=some (l.map g):=by
 obtain⟨b,e1,rfl⟩:=tI (step:=step) (λk z=>z=((k:Int),(l.take k).map g)) l.length (λb=>b=l.map g)
  (λk z hk e=>by
   subst e;refine .inl ⟨_,h1 k hk _ (by rw[length_map,length_take];omega),?_⟩;rw[take_add_one,List.getElem?_eq_getElem hk,map_append];rfl)
  (λz e=>by
   subst e;exact⟨_,h2 _,by rw[take_length]⟩) (x:=(0,[])) rfl
 exact e1
noncomputable def uR (b:td) (o:List Int):tg:=(bz b o).getD ([],0,0,[],[])
noncomputable def BC (b:td) (o:List Int):wQ:=(cl b o).getD (0,0,[],[])
theorem Eo {b:td} (h:uv b) {o:List Int} (ho:o.length<=1000):bz b o=some (uR b o)/\((uR b o∈we b/\o<(uR b o).1)\/(uR b o=(o,130,0,[],[])/\∀x∈we b,¬o<x.1)):=by
 obtain⟨j,hj⟩:=QP (MV h) o;have e:=QQ h ho hj
 unfold uR;rw[e];refine⟨rfl,?_⟩;by_cases hl:j<(we b).length
 · rw[dif_pos hl];exact .inl ⟨getElem_mem hl,hj.yes j hl (Nat.le_refl _)⟩
 · rw[dif_neg hl];refine .inr ⟨rfl,λx hx=>?_⟩;obtain⟨i,hi,rfl⟩:=List.getElem_of_mem hx;exact hj.no i hi (by omega)
theorem Mt {b:td} (h:uv b) {o:List Int} (ho:o.length<9223372036854775807):cl b o=some (BC b o)/\((∃x∈we b,x.1=o/\BC b o=x.2)\/((∀x∈we b,x.1≠o)/\BC b o=(128,0,[],[]))):=by
 obtain⟨v,e,hv⟩:=RA h ho;unfold BC;rw[e];exact⟨rfl,hv⟩
theorem J6 {o:List Int} (h:Nm o):wG o=true:=by
 have h1:=h.ok;rw[Dn (by have:=h.n10;omega)]at h1;exact Option.some.inj h1
theorem J7 {v:wQ} (h:Vl v):wZ v=true:=by
 have h1:=h.ok;rw[Fb (by rw[h.o];show 0<=1048576;omega)]at h1;exact Option.some.inj h1
theorem xU {o:List Int} (h:wG o=true):o.length<=10:=(yi h).2.1
theorem Qd {b:td} (h:uv b) {x:tg} (hx:x∈we b):xj x=true:=by
 obtain⟨h1,h2⟩:=Aq h x hx;unfold xj;rw[J6 h1,J7 h2];rfl
theorem CL {b:td} (h:uv b) {o:List Int} (ho:wG o=true):xj (uR b o)=true:=by
 obtain⟨_,h1⟩:=Eo h (o:=o) (by have:=xU ho;omega);rcases h1 with ⟨h1,_⟩|⟨h1,_⟩
 · exact Qd h h1
 · rw[h1];unfold xj;rw[ho];rfl
theorem wJ {x:tg} (h:xj x=true):wG x.1=true:=by
 unfold xj at h;rw[aT]at h;exact h.1
theorem Ni {b:td} (h:uv b) {o:List Int} (ho:o.length<9223372036854775807):wZ (BC b o)=true:=by
 obtain⟨_,h1⟩:=Mt h ho;rcases h1 with ⟨x,hx,_,e⟩|⟨_,e⟩
 · rw[e];exact J7 (Aq h x hx).2
 · rw[e];rfl
def yG (s:List tg×List (List Int)):Nat:=min s.2.length (10-s.1.length)
noncomputable def AW (b:td) (s:List tg×List (List Int)):List tg×List (List Int):=(s.1++(s.2.take (yG s)).map (uR b),(s.2.take (yG s)).map (λo=>(uR b o).1)++s.2.drop (yG s))
noncomputable def An (b:td):Nat->List tg×List (List Int)->List tg×List (List Int)
 | 0,s=>s
 | k+1,s=>if 0<s.2.length/\s.1.length<10 then An b k (AW b s)else s
structure DZ (s:List tg×List (List Int)):Prop where
 o10:s.1.length<=10
 l10:s.2.length<=10
 oOk:∀x∈s.1,xj x=true
 lOk:∀o∈s.2,wG o=true
theorem Ls {b:td} (h:uv b) {s:List tg×List (List Int)} (hs:DZ s):DZ (AW b s):=by
 obtain⟨h1,h2,h3,h4⟩:=hs;refine⟨?_,?_,λx hx=>?_,λo ho=>?_⟩
 · show (s.1++_).length<=10;rw[length_append,length_map,length_take];unfold yG;omega
 · show (_++s.2.drop (yG s)).length<=10;rw[length_append,length_map,length_take,length_drop];unfold yG;omega
 · rcases mem_append.1 hx with hx|hx
   · exact h3 x hx
   · obtain⟨o,ho,rfl⟩:=mem_map.1 hx;exact CL h (h4 o (mem_of_mem_take ho))
 · rcases mem_append.1 ho with ho|ho
   · obtain⟨q,hq,rfl⟩:=mem_map.1 ho;exact wJ (CL h (h4 q (mem_of_mem_take hq)))
   · exact h4 o (mem_of_mem_drop ho)
theorem Rh {b:td} (h:uv b) {s:List tg×List (List Int)} (hs:DZ s):loop (λz=>dj b s.2 z.1 z.2.1 z.2.2) (0,s.1,s.2)=some (AW b s):=by
 obtain⟨out,l⟩:=s;obtain⟨h1,h2,h3,h4⟩:=hs;simp only at h1 h2 h3 h4;have hm:yG (out,l)=min l.length (10-out.length):=rfl
 obtain⟨v,e1,rfl⟩:=tI (step:=λz:Int×List tg×List (List Int)=>dj b l z.1 z.2.1 z.2.2) (λk z=>z=((k:Int),out++(l.take k).map (uR b),(l.take k).map (λo=>(uR b o).1)++l.drop k)) (yG (out,l)) (λv=>v=AW b (out,l))
  (λk z hk e=>by
   subst e;left;have hkl:k<l.length:=by omega
   have hlen:((l.take k).map (λo=>(uR b o).1)++l.drop k).length=l.length:=by rw[length_append,length_map,length_take,length_drop];omega
   have hol:(out++(l.take k).map (uR b)).length=out.length+k:=by rw[length_append,length_map,length_take];omega
   have hA:((l.take k).map (λo=>(uR b o).1)).length=k:=by rw[length_map,length_take];omega
   have hget:((l.take k).map (λo=>(uR b o).1)++l.drop k)[k]?=some l[k]:=by
    rw[List.getElem?_append_right (by omega),hA,Nat.sub_self,List.getElem?_drop,Nat.add_zero,List.getElem?_eq_getElem hkl]
   have hn:=(Eo h (o:=l[k]) (by have:=xU (h4 _ (getElem_mem hkl));omega)).1;refine⟨_,?_,rfl⟩;show dj b l (k:Int) _ _=_
   unfold dj;rw[u0 (by omega),cT,hol,dF (by omega),cF,hlen,wq hkl];simp only[an,hget,hn];rw[tn (by rw[hol];show out.length+k+1<=_;omega),an,tz (by omega)];have t1:(l.take (k+1))=l.take k++[l[k]]:=by rw[take_add_one,List.getElem?_eq_getElem hkl];rfl
   have t2:((l.take k).map (λo=>(uR b o).1)++l.drop k).set k (uR b l[k]).1=(l.take (k+1)).map (λo=>(uR b o).1)++l.drop (k+1):=by
    rw[List.set_append_right _ _ (by omega),hA,Nat.sub_self,List.drop_eq_getElem_cons hkl,List.set_cons_zero,t1,map_append,append_assoc];rfl
   rw[t2,t1];simp only[map_append,List.map_cons,List.map_nil,append_assoc])
  (λz e=>by
   subst e;refine⟨_,?_,rfl⟩;show dj b l ((yG (out,l):Nat):Int) _ _=_
   have hol:(out++(l.take (yG (out,l))).map (uR b)).length=out.length+yG (out,l):=by rw[length_append,length_map,length_take];omega
   unfold dj;rw[hol];by_cases hlt:((yG (out,l):Nat):Int)<(l.length:Int)
   · rw[u0 hlt,cT,dT (by omega),cT];rfl
   · rw[tW hlt,cF];rfl) (x:=(0,out,l)) (by simp)
 exact e1
theorem J8 {b:td} (h:uv b):∀(n:Nat) {s:List tg×List (List Int)},DZ s->DZ (An b n s)
 | 0,s,hs=>hs
 | n+1,s,hs=>by
  unfold An;split
  · exact J8 h n (Ls h hs)
  · exact hs
theorem Nj {b:td} (h:uv b) {p:tQ} (hB:p.2.2.2.1<=1000):∀(n i:Nat) {s:List tg×List (List Int)},DZ s->((i+n:Nat):Int)=p.2.2.2.1->loop (λz=>bP b p z.1 z.2.1 z.2.2) ((i:Int),s.1,s.2)=some (An b n s)
 | 0,i,s,hs,e=>by
  refine tR ?_;show bP b p (i:Int) s.1 s.2=_
  unfold bP;rw[tW (by omega),cF,an,cF,an,cF];rfl
 | n+1,i,s,hs,e=>by
  by_cases hc:0<s.2.length/\s.1.length<10
  · refine tO (y:=(((i+1:Nat):Int),(AW b s).1,(AW b s).2)) ?_ ?_
    · show bP b p (i:Int) s.1 s.2=_;unfold bP;rw[u0 (by omega),cT,dT (by omega),an,cT,u0 (by omega),an,cT,Rh h hs,an,tz (by omega)]
    · have:=Nj h hB n (i+1) (Ls h hs) (by omega);rw[this,show An b (n+1) s=An b n (AW b s)from if_pos hc]
  · refine tR ?_;show bP b p (i:Int) s.1 s.2=_
    have e2:An b (n+1) s=s:=if_neg hc;rw[e2];unfold bP;rw[u0 (by omega),cT];by_cases h1:0<s.2.length
    · rw[dT (by omega),an,cT,tW (by omega),an,cF]
    · rw[dF (by omega),an,cF,an,cF]
def uI (p:tQ):Nat:=min p.2.2.1.toNat p.2.2.2.2.length
noncomputable def K8 (b:td) (p:tQ):List tg×List (List Int):=An b p.2.2.2.1.toNat ((p.2.2.2.2.take (uI p)).map (λx=>uR b x.1),(p.2.2.2.2.drop (uI p)).map (λx=>x.1))
noncomputable def xd (b:td) (p:tQ):List tg:=(K8 b p).1
theorem Nk {b:td} (h:uv b) {p:tQ} (hp:vb p=true):DZ ((p.2.2.2.2.take (uI p)).map (λx=>uR b x.1),(p.2.2.2.2.drop (uI p)).map (λx=>x.1)):=by
 obtain⟨h1,h2,_⟩:=wi hp;refine⟨?_,?_,λx hx=>?_,λo ho=>?_⟩
 · rw[length_map,length_take];omega
 · rw[length_map,length_drop];omega
 · obtain⟨y,hy,rfl⟩:=mem_map.1 hx;exact CL h (wJ (h1 y (mem_of_mem_take hy)))
 · obtain⟨y,hy,rfl⟩:=mem_map.1 ho;exact wJ (h1 y (mem_of_mem_drop hy))
theorem J9 {b:td} (h:uv b) {p:tQ} (hp:vb p=true):DZ (K8 b p):=J8 h _ (Nk h hp)
theorem Qe {b:td} (h:uv b) {p:tQ} (hp:vb p=true):gT b p=some (xd b p):=by
 obtain⟨h1,h2,_,_,h5,h6⟩:=wi hp;have hmin:min2 p.2.2.1 (p.2.2.2.2.length:Int)=((uI p:Nat):Int):=by
  unfold min2 uI;split<;>omega
 have hon:uI p<=p.2.2.2.2.length:=Nat.min_le_right _ _;unfold gT;show ((cut p.2.2.2.2 0 (min2 p.2.2.1 (p.2.2.2.2.length:Int))).bind _)=_
 rw[hmin];have c1:cut p.2.2.2.2 0 ((uI p:Nat):Int)=some (p.2.2.2.2.take (uI p)):=by
  have:=wS (l:=p.2.2.2.2) (a:=0) (b:=uI p) (by omega) hon;simpa using this
 have c2:cut p.2.2.2.2 ((uI p:Nat):Int) (p.2.2.2.2.length:Int)=some (p.2.2.2.2.drop (uI p)):=by
  have:=wS (l:=p.2.2.2.2) (a:=uI p) (b:=p.2.2.2.2.length) hon (Nat.le_refl _);rw[take_length]at this;exact this
 have l1:loop (λz:Int×List tg=>eA b (p.2.2.2.2.take (uI p)) z.1 z.2) (0,[])=some ((p.2.2.2.2.take (uI p)).map (λx=>uR b x.1)):=by
  refine BB (by show _<=1048576;rw[length_take];omega) (λk hk out ho=>?_) (λout=>?_)
  · have hx:=h1 _ (mem_of_mem_take (getElem_mem hk));have hk':=hk
    rw[length_take]at hk';show eA b _ (k:Int) out=_
    unfold eA;rw[u0 (by omega),cT,tE hk,an,(Eo h (by have:=xU (wJ hx);omega)).1,an,tn (by rw[ho];show k+1<=_;omega),an,tz (by omega)]
  · show eA b _ ((p.2.2.2.2.take (uI p)).length:Int) out=_;unfold eA;rw[tW (by omega),cF]
 have l2:loop (λz:Int×List (List Int)=>eB (p.2.2.2.2.drop (uI p)) z.1 z.2) (0,[])=some ((p.2.2.2.2.drop (uI p)).map (λx=>x.1)):=by
  refine BB (by show _<=1048576;rw[length_drop];omega) (λk hk out ho=>?_) (λout=>?_)
  · have hk':=hk;rw[length_drop]at hk';show eB _ (k:Int) out=_
    unfold eB;rw[u0 (by omega),cT,tE hk,an,tn (by rw[ho];show k+1<=_;omega),an,tz (by omega)]
  · show eB _ ((p.2.2.2.2.drop (uI p)).length:Int) out=_;unfold eB;rw[tW (by omega),cF]
 rw[c1,an,l1,an,c2,an,l2,an];have:=Nj h (p:=p) (by omega) p.2.2.2.1.toNat 0 (Nk h hp) (by omega)
 have this:loop (λz=>bP b p z.1 z.2.1 z.2.2) (0,(p.2.2.2.2.take (uI p)).map (λx=>uR b x.1),(p.2.2.2.2.drop (uI p)).map (λx=>x.1))=_:=this;rw[this,an];rfl
def shr (f:List tg->Bool):Nat->List tg->Option (List tg)
 | 0,_=>none
 | n+1,l=>if f (l.take n)=true then some (l.take n)else shr f n (l.take n)
theorem Ib {f:List tg->Bool}:∀{n:Nat} {l t:List tg},shr f n l=some t->f t=true/\∃m,m<n/\t=l.take m
 | 0,l,t,h=>by cases h
 | n+1,l,t,h=>by
  unfold shr at h;split at h
  · rename_i hf;cases h;exact⟨hf,n,by omega,rfl⟩
  · obtain⟨h1,m,h2,h3⟩:=Ib h;refine⟨h1,m,by omega,?_⟩;rw[h3,List.take_take,Nat.min_eq_left (by omega)]
theorem EV {α β γ δ:Type} {step:α->Option (α⊕(β⊕δ))} {x:α} {F:β->Option γ} {G:δ->Option γ} {R:Option γ} (h:∃d,step x=some (.inr (.inl d))) (k:∀d,F d=R):(loop step x).bind (Sum.elim F G)=R:=by
 obtain⟨d,h⟩:=h;rw[tR h,an,Sum.elim_inl,k]
abbrev RU:=Int×List UInt8×Int×Int×Int×Int×Int×Int×Int×Int×Int×Int×List UInt8×Int×Int×Int×Int×Int×Int×Int×Int×Int×List tg×List Pt×List tk×List tC×List Int×List tg×List Pt×List tk×List tC×List Int
theorem P0 {p:tQ} (h165:(p.1==165)=true) (b:td) (j0:Int) (j1:List UInt8) (j2 j3 j4 j5 j6 j7 j8 j9 j10:Int) (k i a c:Int) (j11:List Pt) (j12:List tk) (j13:List tC) (j14:List Int) (j15:List tg):∀(n:Nat) (l:List tg),l.length=n->n<=10->(∀x∈l,E4 M x) ->
 ∃w,loop (λz:RU=>fB p z.1 z.2.1 z.2.2.1 z.2.2.2.1 z.2.2.2.2.1 z.2.2.2.2.2.1 z.2.2.2.2.2.2.1 z.2.2.2.2.2.2.2.1 z.2.2.2.2.2.2.2.2.1 z.2.2.2.2.2.2.2.2.2.1 z.2.2.2.2.2.2.2.2.2.2.1 z.2.2.2.2.2.2.2.2.2.2.2.1 z.2.2.2.2.2.2.2.2.2.2.2.2.1 z.2.2.2.2.2.2.2.2.2.2.2.2.2.1 z.2.2.2.2.2.2.2.2.2.2.2.2.2.2.1 z.2.2.2.2.2.2.2.2.2.2.2.2.2.2.2.1 z.2.2.2.2.2.2.2.2.2.2.2.2.2.2.2.2.1 z.2.2.2.2.2.2.2.2.2.2.2.2.2.2.2.2.2.1 z.2.2.2.2.2.2.2.2.2.2.2.2.2.2.2.2.2.2.1 z.2.2.2.2.2.2.2.2.2.2.2.2.2.2.2.2.2.2.2.1 z.2.2.2.2.2.2.2.2.2.2.2.2.2.2.2.2.2.2.2.2.1 z.2.2.2.2.2.2.2.2.2.2.2.2.2.2.2.2.2.2.2.2.2.1 z.2.2.2.2.2.2.2.2.2.2.2.2.2.2.2.2.2.2.2.2.2.2.1 z.2.2.2.2.2.2.2.2.2.2.2.2.2.2.2.2.2.2.2.2.2.2.2.1 z.2.2.2.2.2.2.2.2.2.2.2.2.2.2.2.2.2.2.2.2.2.2.2.2.1 z.2.2.2.2.2.2.2.2.2.2.2.2.2.2.2.2.2.2.2.2.2.2.2.2.2.1 z.2.2.2.2.2.2.2.2.2.2.2.2.2.2.2.2.2.2.2.2.2.2.2.2.2.2.1 z.2.2.2.2.2.2.2.2.2.2.2.2.2.2.2.2.2.2.2.2.2.2.2.2.2.2.2.1 z.2.2.2.2.2.2.2.2.2.2.2.2.2.2.2.2.2.2.2.2.2.2.2.2.2.2.2.2.1 z.2.2.2.2.2.2.2.2.2.2.2.2.2.2.2.2.2.2.2.2.2.2.2.2.2.2.2.2.2.1 z.2.2.2.2.2.2.2.2.2.2.2.2.2.2.2.2.2.2.2.2.2.2.2.2.2.2.2.2.2.2.1 z.2.2.2.2.2.2.2.2.2.2.2.2.2.2.2.2.2.2.2.2.2.2.2.2.2.2.2.2.2.2.2) (j0,j1,j2,j3,j4,j5,j6,j7,j8,j9,j10,b.1,b.2.1,b.2.2.2.2.2.2.1,b.2.2.2.2.2.2.2.1,b.2.2.2.2.2.2.2.2.1,b.2.2.2.2.2.2.2.2.2.1,b.2.2.2.2.2.2.2.2.2.2,k,i,a,c,l,j11,j12,j13,j14,j15,b.2.2.1,b.2.2.2.1,b.2.2.2.2.1,b.2.2.2.2.2.1)=some w/\(match shr (λt=>uM (k,i,a,c,t)) n l with|some t=>w=.inr (true,b.1,b.2.1,b.2.2.2.2.2.2.1,b.2.2.2.2.2.2.2.1,b.2.2.2.2.2.2.2.2.1,b.2.2.2.2.2.2.2.2.2.1,b.2.2.2.2.2.2.2.2.2.2,k,i,a,c,t,b.2.2.1,b.2.2.2.1,b.2.2.2.2.1,b.2.2.2.2.2.1)|none=>∃d,w=.inl d)
 | 0,l,hl,hn,hx=>by
  refine⟨_,tR (b:=Sum.inl (j0,j1,j2,j3,j4,j5,j6,j7,j8,j9,j10,b.1,b.2.1,b.2.2.2.2.2.2.1,b.2.2.2.2.2.2.2.1,b.2.2.2.2.2.2.2.2.1,b.2.2.2.2.2.2.2.2.2.1,b.2.2.2.2.2.2.2.2.2.2,k,i,a,c,l,j11,j12,j13,j14,j15,b.2.2.1,b.2.2.2.1,b.2.2.2.2.1,b.2.2.2.2.2.1)) ?_,⟨_,rfl⟩⟩;dsimp only;unfold fB;rw[h165,cT,dF (by omega),an,cF]
 | n+1,l,hl,hn,hx=>by
  have hlt:(l.take n).length=n:=by rw[length_take];omega
  have hcut:cut l 0 (te ((l.length:Int)-1))=some (l.take n):=by
   rw[tM (by omega) (by omega),show (l.length:Int)-1=(n:Int) by omega];have:=wS (l:=l) (a:=0) (b:=n) (by omega) (by omega)
   simpa using this
  have hp:vQ M (k,i,a,c,l.take n):=⟨by show (l.take n).length<=1048576;omega,λx h=>hx x (mem_of_mem_take h)⟩;have hstep:∀q:Bool,uM (k,i,a,c,l.take n)=q->fB p j0 j1 j2 j3 j4 j5 j6 j7 j8 j9 j10 b.1 b.2.1 b.2.2.2.2.2.2.1 b.2.2.2.2.2.2.2.1 b.2.2.2.2.2.2.2.2.1 b.2.2.2.2.2.2.2.2.2.1 b.2.2.2.2.2.2.2.2.2.2 k i a c l j11 j12 j13 j14 j15 b.2.2.1 b.2.2.2.1 b.2.2.2.2.1 b.2.2.2.2.2.1=cond q (some (.inr (.inr (true,b.1,b.2.1,b.2.2.2.2.2.2.1,b.2.2.2.2.2.2.2.1,b.2.2.2.2.2.2.2.2.1,b.2.2.2.2.2.2.2.2.2.1,b.2.2.2.2.2.2.2.2.2.2,k,i,a,c,l.take n,b.2.2.1,b.2.2.2.1,b.2.2.2.2.1,b.2.2.2.2.2.1)))) (some (.inl (j0,j1,j2,j3,j4,j5,j6,j7,j8,j9,j10,b.1,b.2.1,b.2.2.2.2.2.2.1,b.2.2.2.2.2.2.2.1,b.2.2.2.2.2.2.2.2.1,b.2.2.2.2.2.2.2.2.2.1,b.2.2.2.2.2.2.2.2.2.2,k,i,a,c,l.take n,j11,j12,j13,j14,j15,b.2.2.1,b.2.2.2.1,b.2.2.2.2.1,b.2.2.2.2.2.1))):=by
   intro q hq;unfold fB;rw[h165,cT,dT (by omega),an,cT,hcut,an,En hp,an,hq]
  by_cases hf:uM (k,i,a,c,l.take n)=true
  · have e:shr (λt=>uM (k,i,a,c,t)) (n+1) l=some (l.take n):=if_pos hf;rw[e];exact⟨_,tR (hstep true hf),rfl⟩
  · have e:shr (λt=>uM (k,i,a,c,t)) (n+1) l=shr (λt=>uM (k,i,a,c,t)) n (l.take n):=if_neg hf;rw[e];obtain⟨w,h1,h2⟩:=P0 h165 b j0 j1 j2 j3 j4 j5 j6 j7 j8 j9 j10 k i a c j11 j12 j13 j14 j15 n (l.take n) hlt (by omega) (λx h=>hx x (mem_of_mem_take h));exact⟨w,tO (hstep false (by simpa using hf)) h1,h2⟩
noncomputable def Cm (b:td) (l:List tg):td×Int×Int:=(eD b l).getD (b,0,0)
noncomputable def yH (b:td) (p:tQ):td×tQ :=
 cond (p.1==160) (b,162,p.2.1,0,0,p.2.2.2.2.map λx=>(x.1,BC b x.1))
  (cond (p.1==161) (b,162,p.2.1,0,0,p.2.2.2.2.map λx=>uR b x.1)
   (cond (p.1==165) (b,162,p.2.1,0,0,xd b p) ((Cm b p.2.2.2.2).1,162,p.2.1,(Cm b p.2.2.2.2).2.1,(Cm b p.2.2.2.2).2.2,p.2.2.2.2)))
noncomputable def Ab (b:td) (p:tQ):td×tQ :=
 match cond (p.1==165) (shr (λt=>uM (162,p.2.1,0,0,t)) (xd b p).length (xd b p)) none with
 | some t=>(b,162,p.2.1,0,0,t)
 | none=>(b,162,p.2.1,7,0,[])
noncomputable def xn (b:td) (p:tQ):td×tQ:=cond (uM (yH b p).2) (yH b p) (Ab b p)
noncomputable def BD (b:td) (p:tQ):Bool:=ue b&&(vb p&&(p.1 != 162))
noncomputable def va (b:td) (p:tQ):td×tQ×Bool:=cond (BD b p) ((xn b p).1,(xn b p).2,true) (b,(0,0,0,0,[]),false)
theorem E0 {p:tQ} (hp:vb p=true):AT M p.2.2.2.2:=by
 obtain⟨h1,h2,_⟩:=wi hp;exact⟨by show _<=1048576;omega,λx hx=>wj (h1 x hx)⟩
theorem Lt {b:td} (h:wY b) (hb:xV M b) {p:tQ} (hp:vQ M p):dq b p=some (va b p):=by
 unfold dq va BD;rw[xr hb,an,Ao h,an];cases hbr:ue b with
 | false=>rw[Bool.not_false,cT,an,cT,an,cT];rfl
 | true =>
 rw[Bool.not_true,cF,N1 hp,an,an];cases hpp:vb p with
 | false=>rw[Bool.not_false,cT,an,cT];rfl
 | true =>
 rw[Bool.not_true,cF,an];cases h162:(p.1==162)with
 | true =>
  have:(p.1 != 162)=false:=by rw[bne,h162];rfl
  rw[cT,this];rfl
 | false =>
 have hne:(p.1 != 162)=true:=by rw[bne,h162];rfl
 have hBO:=C7 h hbr;obtain⟨x1,x2,x3,x4,x5,x6⟩:=wi hpp;have hxs:=E0 hpp
 rw[cF,hne,Bool.true_and,Bool.true_and,cT];unfold xn yH Ab;cases h160:(p.1==160)with
 | true =>
  have h165:(p.1==165)=false:=by simp only[beq_iff_eq]at h160;rw[h160];rfl
  have e:loop (λz:Int×Int×Int×Int×Int×List tg=>fy b p z.1 z.2.1 z.2.2.1 z.2.2.2.1 z.2.2.2.2.1 z.2.2.2.2.2) (0,162,p.2.1,0,0,[])=some (162,p.2.1,0,0,p.2.2.2.2.map λx=>(x.1,BC b x.1)):=by
   obtain⟨v,e1,rfl⟩:=tI (step:=λz:Int×Int×Int×Int×Int×List tg=>fy b p z.1 z.2.1 z.2.2.1 z.2.2.2.1 z.2.2.2.2.1 z.2.2.2.2.2) (λk z=>z=((k:Int),162,p.2.1,0,0,(p.2.2.2.2.take k).map λx=>(x.1,BC b x.1))) p.2.2.2.2.length (λv=>v=(162,p.2.1,0,0,p.2.2.2.2.map λx=>(x.1,BC b x.1)))
    (λk z hk e=>by
     subst e;refine .inl ⟨_,?_,rfl⟩;have hx:=xU (wJ (x1 _ (getElem_mem hk)))
     dsimp only;unfold fy;rw[u0 (by omega),cT,tE hk,an,Dm (by show _<=1048576;omega),an,(Mt hBO (by omega)).1,an,tn (by rw[length_map,length_take];show min k _+1<=_;omega),an,tz (by omega),
      take_add_one,List.getElem?_eq_getElem hk,map_append];rfl)
    (λz e=>by
     subst e;refine⟨_,?_,rfl⟩;dsimp only;unfold fy;rw[tW (by omega),cF,take_length]) (x:=(0,162,p.2.1,0,0,[])) rfl
   exact e1
  simp only[cT,cF];rw[e,an,En ⟨by show (p.2.2.2.2.map _).length<=1048576;rw[length_map];omega,λx hx=>by
   obtain⟨y,hy,rfl⟩:=mem_map.1 hx;exact wj (by unfold xj;rw[wJ (x1 y hy),Ni hBO (by have:=xU (wJ (x1 y hy));omega)];rfl)⟩,an]
  cases uM (162,p.2.1,0,0,p.2.2.2.2.map λx=>(x.1,BC b x.1))with
  | true=>rfl
  | false =>
   simp only[cF];refine EV ?_ λd=>?_
   · dsimp only;unfold ne;rw[h165,cF,an,cF];exact⟨_,rfl⟩
   · rw[an];simp only[h165,cF]
 | false =>
 cases h161:(p.1==161)with
 | true =>
  have h165:(p.1==165)=false:=by simp only[beq_iff_eq]at h161;rw[h161];rfl
  have e:loop (λz:Int×Int×Int×Int×Int×List tg=>fA b p z.1 z.2.1 z.2.2.1 z.2.2.2.1 z.2.2.2.2.1 z.2.2.2.2.2) (0,162,p.2.1,0,0,[])=some (162,p.2.1,0,0,p.2.2.2.2.map λx=>uR b x.1):=by
   obtain⟨v,e1,rfl⟩:=tI (step:=λz:Int×Int×Int×Int×Int×List tg=>fA b p z.1 z.2.1 z.2.2.1 z.2.2.2.1 z.2.2.2.2.1 z.2.2.2.2.2) (λk z=>z=((k:Int),162,p.2.1,0,0,(p.2.2.2.2.take k).map λx=>uR b x.1)) p.2.2.2.2.length (λv=>v=(162,p.2.1,0,0,p.2.2.2.2.map λx=>uR b x.1))
    (λk z hk e=>by
     subst e;refine .inl ⟨_,?_,rfl⟩;have hx:=xU (wJ (x1 _ (getElem_mem hk)))
     dsimp only;unfold fA;rw[u0 (by omega),cT,tE hk,an,(Eo hBO (by omega)).1,an,tn (by rw[length_map,length_take];show min k _+1<=_;omega),an,tz (by omega),
      take_add_one,List.getElem?_eq_getElem hk,map_append];rfl)
    (λz e=>by
     subst e;refine⟨_,?_,rfl⟩;dsimp only;unfold fA;rw[tW (by omega),cF,take_length]) (x:=(0,162,p.2.1,0,0,[])) rfl
   exact e1
  simp only[cT,cF];rw[e,an,En ⟨by show (p.2.2.2.2.map _).length<=1048576;rw[length_map];omega,λx hx=>by
   obtain⟨y,hy,rfl⟩:=mem_map.1 hx;exact wj (CL hBO (wJ (x1 y hy)))⟩,an]
  cases uM (162,p.2.1,0,0,p.2.2.2.2.map λx=>uR b x.1)with
  | true=>rfl
  | false =>
   simp only[cF];refine EV ?_ λd=>?_
   · dsimp only;unfold ng;rw[h165,cF,an,cF];exact⟨_,rfl⟩
   · rw[an];simp only[h165,cF]
 | false =>
 cases h165:(p.1==165)with
 | true =>
  have hbk:=J9 hBO hpp;have hbx:∀x∈xd b p,E4 M x:=λx hx=>wj (hbk.oOk x hx)
  have hbn:(xd b p).length<=10:=hbk.o10;simp only[cT,cF];rw[Qe hBO hpp,an,En ⟨by show (xd b p).length<=1048576;omega,hbx⟩,an];cases uM (162,p.2.1,0,0,xd b p)with
  | true=>rfl
  | false =>
   simp only[cF];obtain⟨w,e1,e2⟩:=P0 h165 b 0 [] 0 0 0 0 0 0 0 0 0 162 p.2.1 0 0 [] [] [] [] [] _ (xd b p) rfl hbn hbx;rw[e1,an];cases hs:shr (λt=>uM (162,p.2.1,0,0,t)) (xd b p).length (xd b p)with
   | some t=>rw[hs]at e2;rw[e2];rfl
   | none =>
    rw[hs]at e2;obtain⟨d,rfl⟩:=e2;rw[Sum.elim_inl,an];try rfl
 | false =>
  obtain⟨r,r1,_,_,_⟩:=Gy h hb hxs;have hr:Cm b p.2.2.2.2=r:=by unfold Cm;rw[r1];rfl
  simp only[cF];rw[r1,an,Eb hxs,an,hr,En (p:=(162,p.2.1,r.2.1,r.2.2,p.2.2.2.2)) ⟨hxs.1,hxs.2⟩,an];cases uM (162,p.2.1,r.2.1,r.2.2,p.2.2.2.2)with
  | true=>rfl
  | false =>
   simp only[cF];refine EV ?_ λd=>?_
   · dsimp only;unfold nh;rw[h165,cF,an,cF];exact⟨_,rfl⟩
   · rw[an]

def aW (a:tB):List UInt8:=a.2.2.2.2.2.2.2.2.2.2.2.1
def uT (b:td) (w:List UInt8) (l:List um) (lo la:Int):tB:=(b.1,b.2.1,b.2.2.1,b.2.2.2.1,b.2.2.2.2.1,b.2.2.2.2.2.1,b.2.2.2.2.2.2.1,b.2.2.2.2.2.2.2.1,b.2.2.2.2.2.2.2.2.1,b.2.2.2.2.2.2.2.2.2.1,b.2.2.2.2.2.2.2.2.2.2,w,l,lo,la)
def xe (id:Int) (m:List Int) (ph:Int) (p:tQ) (s:td) (at' tr:Int):um:=(id,m,ph,p.1,p.2.1,p.2.2.1,p.2.2.2.1,p.2.2.2.2,s.1,s.2.1,s.2.2.1,s.2.2.2.1,s.2.2.2.2.1,s.2.2.2.2.2.1,s.2.2.2.2.2.2.1,s.2.2.2.2.2.2.2.1,s.2.2.2.2.2.2.2.2.1,s.2.2.2.2.2.2.2.2.2.1,s.2.2.2.2.2.2.2.2.2.2,at',tr)
theorem Hj {b:td} {w:List UInt8} {l:List um} {lo la:Int} {k:Nat} (hk:k<l.length) (hl:l.length<=M):ch (uT b w l lo la) (k:Int)=some (uT b w (l.eraseIdx k) lo la):=by
 have hM:M=1048576:=rfl;have c1:vj l.length 0 (k:Int)=some (0,k):=by
  unfold vj;rw[if_pos (by omega),if_pos (by omega),if_pos (by omega)];simp
 have c2:vj l.length (te ((k:Int)+1)) (l.length:Int)=some (k+1,l.length):=by
  rw[tz (by omega)];unfold vj;rw[if_pos (by omega),if_pos (by omega),if_pos (by omega)];simp
 have c3:DC l 0 k (k+1) l.length=some (l.eraseIdx k):=by
  unfold DC;rw[if_pos (by omega),take_length,List.drop_zero,tn (by rw[length_take,length_drop];omega),←List.eraseIdx_eq_take_drop_succ]
 unfold ch uT;simp only[c1,an,c2,c3]
def Gr (b:td) (j:um):um:=xe j.1 j.2.1 1 (jP j) b 0 (u4 j)
theorem Lu {b:td} (hb:xV M b) {w:List UInt8} {l:List um} {lo la:Int} {k:Nat} (hk:k<l.length):fo (uT b w l lo la) (k:Int)=some (uT b w (l.set k (Gr b l[k])) lo la):=by
 have cb:=xr hb;unfold fo uT;simp only[wq hk,an];have cb':ao (b.1,b.2.1,b.2.2.1,b.2.2.2.1,b.2.2.2.2.1,b.2.2.2.2.2.1,b.2.2.2.2.2.2.1,b.2.2.2.2.2.2.2.1,b.2.2.2.2.2.2.2.2.1,b.2.2.2.2.2.2.2.2.2.1,b.2.2.2.2.2.2.2.2.2.2)=some b:=cb
 simp only[cb',an,List.getElem?_eq_getElem hk,List.getElem?_set_self hk,set_set];rfl
def yL (n:Int):Int:=min2 (te (n+1)) 1000000
theorem Ep (n:Int):bf n=some (yL n):=rfl
def C5 (b:td):td:=(b.1,b.2.1,b.2.2.1,b.2.2.2.1,b.2.2.2.2.1,b.2.2.2.2.2.1,b.2.2.2.2.2.2.1,b.2.2.2.2.2.2.2.1,yL b.2.2.2.2.2.2.2.2.1,b.2.2.2.2.2.2.2.2.2.1,b.2.2.2.2.2.2.2.2.2.2)
def AJ (b:td):td:=(b.1,b.2.1,b.2.2.1,b.2.2.2.1,b.2.2.2.2.1,b.2.2.2.2.2.1,b.2.2.2.2.2.2.1,yL b.2.2.2.2.2.2.2.1,b.2.2.2.2.2.2.2.2.1,b.2.2.2.2.2.2.2.2.2.1,b.2.2.2.2.2.2.2.2.2.2)
noncomputable def ut (w:List UInt8) (m:List Int):tQ×Int:=(eu w m).getD ((0,0,0,0,[]),0)
theorem Mu (w:List UInt8) {m:List Int} (hb:vd m) (hn:m.length<=M):eu w m=some (ut w m)/\f9 w m=some (ut w m)/\vQ M (ut w m).1/\((ut w m).2=0->vb (ut w m).1=true):=by
 obtain⟨r,h1,h2,h3,h4⟩:=OZ w hb hn;unfold ut;rw[h1];exact⟨rfl,h2,h3,h4⟩
noncomputable def yt (p:tQ):tQ:=cond (uM (162,p.2.1,6,1,p.2.2.2.2)) (162,p.2.1,6,1,p.2.2.2.2) (162,p.2.1,7,0,[])
theorem Qf {p:tQ} (hp:vQ M p):fC p=some (yt p):=by
 unfold fC yt;rw[Eb hp,an,En (p:=(162,p.2.1,6,1,p.2.2.2.2)) hp,an];cases uM (162,p.2.1,6,1,p.2.2.2.2)<;>rfl
inductive P1 where
 | stay (j:um)|gone (d:List v9)
noncomputable def xf (w:List UInt8) (b:td) (j:um):td×P1 :=
 cond (j.2.2.1==0)
  (cond ((ut w j.2.1).2==3) (C5 b,.gone [])
   (cond ((ut w j.2.1).2 != 0||((ut w j.2.1).1.1==162)) (AJ b,.gone [])
    (b,.stay (xe j.1 j.2.1 1 (ut w j.2.1).1 b 0 (u4 j)))))
  (cond (j.2.2.1==2)
   (cond (j.2.2.2.1 != 163) (b,.gone [(j.1,(va (jB j) (jP j)).2.1)])
    (cond (b.2.2.2.2.2.2.2.2.2.2==(jB j).2.2.2.2.2.2.2.2.2.2) ((va b (jP j)).1,.gone [(j.1,(va b (jP j)).2.1)])
     (cond (decide (u4 j>=3)) (b,.gone [(j.1,yt (jP j))])
      (b,.stay (xe j.1 j.2.1 1 (jP j) b 0 (te (u4 j+1)))))))
   (cond (decide (x7 j<((jP j).2.2.2.2.length:Int))) (b,.stay (xe j.1 j.2.1 j.2.2.1 (jP j) (jB j) (te (x7 j+1)) (u4 j)))
    (b,.stay (xe j.1 j.2.1 2 (jP j) (jB j) (x7 j) (u4 j)))))
noncomputable def ua (a:tB) (k:Nat) (j:um):tB×List v9 :=
 match (xf (aW a) (aB a) j).2 with
 | .stay j'=>(uT (xf (aW a) (aB a) j).1 (aW a) ((th a).set k j') (uE a) (tV a),[])
 | .gone d=>(uT (xf (aW a) (aB a) j).1 (aW a) ((th a).eraseIdx k) (uE a) (tV a),d)
theorem Qg {b:td} (hb:xV M b) {w:List UInt8} {l:List um} {lo la:Int} {k:Nat} (hk:k<l.length) (hl:l.length<=M) (h1:vd l[k].2.1) (h2:l[k].2.1.length<=M) :
 fp (uT b w l lo la) (k:Int)=some (cond ((ut w l[k].2.1).2==3) (uT (C5 b) w (l.eraseIdx k) lo la)
  (cond ((ut w l[k].2.1).2 != 0||((ut w l[k].2.1).1.1==162)) (uT (AJ b) w (l.eraseIdx k) lo la) (uT b w (l.set k (xe l[k].1 l[k].2.1 1 (ut w l[k].2.1).1 b 0 (u4 l[k]))) lo la))):=by
 obtain⟨m1,_,m3,_⟩:=Mu w h1 h2;unfold fp;have d1:=Hj (b:=C5 b) (w:=w) (lo:=lo) (la:=la) hk hl
 have d2:=Hj (b:=AJ b) (w:=w) (lo:=lo) (la:=la) hk hl;unfold C5 uT at d1;unfold AJ uT at d2;dsimp only[uT];simp only[wq hk,an,List.getElem?_eq_getElem hk,m1,Ep];rw[d1,d2];cases ((ut w l[k].2.1).2==3)with
 | true=>rfl
 | false =>
  simp only[cF,an];cases ((ut w l[k].2.1).2 != 0)with
  | true=>rfl
  | false =>
   simp only[cF,an,Bool.false_or];cases ((ut w l[k].2.1).1.1==162)with
   | true=>rfl
   | false =>
    simp only[cF,an];have hs:k<(l.set k (xe l[k].1 l[k].2.1 l[k].2.2.1 (ut w l[k].2.1).1 (jB l[k]) (x7 l[k]) (u4 l[k]))).length:=by rw[length_set];exact hk
    have e:=Lu hb (w:=w) (lo:=lo) (la:=la) hs;unfold uT at e;have e2:Gr b (l.set k (xe l[k].1 l[k].2.1 l[k].2.2.1 (ut w l[k].2.1).1 (jB l[k]) (x7 l[k]) (u4 l[k])))[k]=xe l[k].1 l[k].2.1 1 (ut w l[k].2.1).1 b 0 (u4 l[k]):=by
     rw[getElem_set_self];rfl
    rw[e2,set_set]at e;refine (congrArg (λo=>Option.bind o λt=>some t) e).trans ?_;rfl
theorem O3 {b:td} (hw:wY b) (hb:xV M b) {w:List UInt8} {l:List um} {lo la:Int} {k:Nat} (hk:k<l.length) (hl:l.length<=M) (h1:Jt l[k]) (h2:Nu M l[k]) :
 fD (uT b w l lo la) (k:Int)=some (cond (l[k].2.2.2.1 != 163) (uT b w (l.eraseIdx k) lo la,[(l[k].1,(va (jB l[k]) (jP l[k])).2.1)])
  (cond (b.2.2.2.2.2.2.2.2.2.2==(jB l[k]).2.2.2.2.2.2.2.2.2.2) (uT (va b (jP l[k])).1 w (l.eraseIdx k) lo la,[(l[k].1,(va b (jP l[k])).2.1)])
   (cond (decide (u4 l[k]>=3)) (uT b w (l.eraseIdx k) lo la,[(l[k].1,yt (jP l[k]))])
    (uT b w (l.set k (xe l[k].1 l[k].2.1 1 (jP l[k]) b 0 (te (u4 l[k]+1)))) lo la,[])))):=by
 have r1:=Lt h1.b h2.2.2 h1.p;have r2:=Lt hw hb h1.p
 have r3:=Qf h1.p;have d1:=Hj (b:=b) (w:=w) (lo:=lo) (la:=la) hk hl
 have d2:=Hj (b:=(va b (jP l[k])).1) (w:=w) (lo:=lo) (la:=la) hk hl;unfold fD;dsimp only[uT];simp only[wq hk,an,List.getElem?_eq_getElem hk];unfold uT at d1;cases hkind:(l[k].2.2.2.1 != 163)with
 | true =>
  simp only[cT];rw[show dq (l[k].2.2.2.2.2.2.2.2.1,l[k].2.2.2.2.2.2.2.2.2.1,l[k].2.2.2.2.2.2.2.2.2.2.1,l[k].2.2.2.2.2.2.2.2.2.2.2.1,l[k].2.2.2.2.2.2.2.2.2.2.2.2.1,l[k].2.2.2.2.2.2.2.2.2.2.2.2.2.1,l[k].2.2.2.2.2.2.2.2.2.2.2.2.2.2.1,l[k].2.2.2.2.2.2.2.2.2.2.2.2.2.2.2.1,l[k].2.2.2.2.2.2.2.2.2.2.2.2.2.2.2.2.1,l[k].2.2.2.2.2.2.2.2.2.2.2.2.2.2.2.2.2.1,l[k].2.2.2.2.2.2.2.2.2.2.2.2.2.2.2.2.2.2.1) (l[k].2.2.2.1,l[k].2.2.2.2.1,l[k].2.2.2.2.2.1,l[k].2.2.2.2.2.2.1,l[k].2.2.2.2.2.2.2.1)=some (va (jB l[k]) (jP l[k]))from r1,an,d1,an]
 | false =>
  simp only[cF];show cond (b.2.2.2.2.2.2.2.2.2.2==(jB l[k]).2.2.2.2.2.2.2.2.2.2) _ _=_
  cases hv:(b.2.2.2.2.2.2.2.2.2.2==(jB l[k]).2.2.2.2.2.2.2.2.2.2)with
  | true =>
   simp only[cT];rw[show dq (b.1,b.2.1,b.2.2.1,b.2.2.2.1,b.2.2.2.2.1,b.2.2.2.2.2.1,b.2.2.2.2.2.2.1,b.2.2.2.2.2.2.2.1,b.2.2.2.2.2.2.2.2.1,b.2.2.2.2.2.2.2.2.2.1,b.2.2.2.2.2.2.2.2.2.2) (l[k].2.2.2.1,l[k].2.2.2.2.1,l[k].2.2.2.2.2.1,l[k].2.2.2.2.2.2.1,l[k].2.2.2.2.2.2.2.1)=some (va b (jP l[k]))from r2,an];unfold uT at d2;rw[d2,an]
  | false =>
   simp only[cF];show cond (decide (u4 l[k]>=3)) _ _=_
   cases hq:decide (u4 l[k]>=3)with
   | true =>
    simp only[cT];rw[show fC (l[k].2.2.2.1,l[k].2.2.2.2.1,l[k].2.2.2.2.2.1,l[k].2.2.2.2.2.2.1,l[k].2.2.2.2.2.2.2.1)=some (yt (jP l[k]))from r3,an,d1,an]
   | false =>
    simp only[cF];have hs:k<(l.set k (xe l[k].1 l[k].2.1 l[k].2.2.1 (jP l[k]) (jB l[k]) (x7 l[k]) (te (u4 l[k]+1)))).length:=by rw[length_set];exact hk
    have e:=Lu hb (w:=w) (lo:=lo) (la:=la) hs;unfold uT at e;have e2:Gr b (l.set k (xe l[k].1 l[k].2.1 l[k].2.2.1 (jP l[k]) (jB l[k]) (x7 l[k]) (te (u4 l[k]+1))))[k]=xe l[k].1 l[k].2.1 1 (jP l[k]) b 0 (te (u4 l[k]+1)):=by
     rw[getElem_set_self];rfl
    rw[e2,set_set]at e;refine (congrArg (λo=>Option.bind o λt=>some (t,([]:List v9))) e).trans ?_;rfl
theorem Qh {a:tB} (hw:wY (aB a)) (hl:BI M a) {k:Nat} (hk:k<(th a).length) (h1:Jt (th a)[k]) (h2:vd (th a)[k].2.1):cR a (k:Int)=some (ua a k (th a)[k]):=by
 obtain⟨hb,_,hn,hj⟩:=hl;have hJ:=hj _ (getElem_mem hk)
 have hn:(th a).length<=M:=hn;have e1:=Qg hb (w:=aW a) (l:=th a) (lo:=uE a) (la:=tV a) hk hn h2 hJ.1
 have e2:=O3 hw hb (w:=aW a) (l:=th a) (lo:=uE a) (la:=tV a) hk hn h1 hJ;have c0:ix a.2.2.2.2.2.2.2.2.2.2.2.2.1.length (k:Int)=some k:=wq hk
 have c1:a.2.2.2.2.2.2.2.2.2.2.2.2.1[k]?=some (th a)[k]:=List.getElem?_eq_getElem hk;have e1:fp a (k:Int)=_:=e1
 have e2:fD a (k:Int)=_:=e2;unfold cR ua xf;rw[c0,an];simp only[c1,an];cases hp0:((th a)[k].2.2.1==0)with
 | true =>
  rw[cT,e1,an];cases ((ut (aW a) (th a)[k].2.1).2==3)with
  | true=>rfl
  | false =>
   cases ((ut (aW a) (th a)[k].2.1).2 != 0||((ut (aW a) (th a)[k].2.1).1.1==162))<;>rfl
 | false =>
  rw[cF];cases hp2:((th a)[k].2.2.1==2)with
  | true =>
   rw[cT,e2,an];cases ((th a)[k].2.2.2.1 != 163)with
   | true=>rfl
   | false =>
    cases ((aB a).2.2.2.2.2.2.2.2.2.2==(jB (th a)[k]).2.2.2.2.2.2.2.2.2.2)with
    | true=>rfl
    | false=>cases decide (u4 (th a)[k]>=3)<;>rfl
  | false =>
   simp only[cF];show cond (decide (x7 (th a)[k]<((jP (th a)[k]).2.2.2.2.length:Int))) _ _=_
   cases decide (x7 (th a)[k]<((jP (th a)[k]).2.2.2.2.length:Int))<;>rfl

theorem Eq {n:Int} (h:tj n 0 1000000=true):tj (yL n) 0 1000000=true:=by
 obtain⟨r,h1,_,h3⟩:=Ht h;rw[Ep]at h1;cases h1;exact h3
theorem zO {b:td} (h:ue b=true):vM b=true/\∀c,vM (b.1,b.2.1,b.2.2.1,b.2.2.2.1,b.2.2.2.2.1,b.2.2.2.2.2.1,c)=true->ue (b.1,b.2.1,b.2.2.1,b.2.2.2.1,b.2.2.2.2.1,b.2.2.2.2.2.1,c)=true:=by
 unfold ue at h ⊢;simp only[aT]at h ⊢;obtain⟨h1,h2,h3,h4,h5,h6,h7⟩:=h;exact⟨h7,λc hc=>⟨h1,h2,h3,h4,h5,h6,hc⟩⟩
theorem FQ {b:td} (h:uv b) {c:Int×Int×Int×Int×Int} (hc:vM (b.1,b.2.1,b.2.2.1,b.2.2.2.1,b.2.2.2.2.1,b.2.2.2.2.2.1,c)=true):uv (b.1,b.2.1,b.2.2.1,b.2.2.2.1,b.2.2.2.2.1,b.2.2.2.2.2.1,c) :=
 C7 ⟨h.w.p,h.w.f,h.w.v,h.w.q,h.w.r⟩ ((zO h.ok).2 c hc)
theorem z0 {b:td} (h:vM b=true):tj b.2.2.2.2.2.2.1 0 1000000=true/\tj b.2.2.2.2.2.2.2.1 0 1000000=true/\tj b.2.2.2.2.2.2.2.2.1 0 1000000=true/\tj b.2.2.2.2.2.2.2.2.2.1 0 1000000=true/\tj b.2.2.2.2.2.2.2.2.2.2 0 1000000=true:=by
 unfold vM at h;simpa only[aT]using h
theorem Mv {b:td} (h:uv b):uv (C5 b):=by
 refine FQ h ?_;obtain⟨h1,h2,h3,h4,h5⟩:=z0 (zO h.ok).1;unfold vM;simp only[aT];exact⟨h1,h2,Eq h3,h4,h5⟩
theorem Lv {b:td} (h:uv b):uv (AJ b):=by
 refine FQ h ?_;obtain⟨h1,h2,h3,h4,h5⟩:=z0 (zO h.ok).1;unfold vM;simp only[aT];exact⟨h1,Eq h2,h3,h4,h5⟩
theorem Lw {b:td} (h:xS b) (hl:xV M b):wY b:=by
 obtain⟨_,l2,l3,l4,l5⟩:=hl;have hM:M<9223372036854775807:=by decide
 exact⟨by omega,by omega,by omega,by omega,h.h⟩
theorem Ri {b:td} (h:uv b) {l:List tg} (hl:AT M l):eD b l=some (Cm b l)/\uv (Cm b l).1:=by
 obtain⟨r,r1,_,r3,r4,_⟩:=Gy h.w h.le hl;unfold Cm;rw[r1];obtain⟨k1,k2⟩:=r4 h.ok;exact⟨rfl,C7 (Lw k1 r3) k2⟩
theorem Mw {b:td} (h:uv b) {p:tQ} (hp:vb p=true):uv (yH b p).1:=by
 unfold yH;cases (p.1==160)<;>cases (p.1==161)<;>cases (p.1==165)<;>first|exact h|exact (Ri h (E0 hp)).2
theorem O4 (b:td) (p:tQ):(Ab b p).1=b:=by
 unfold Ab;split<;>rfl
theorem FR {b:td} (h:uv b) (p:tQ):uv (va b p).1:=by
 unfold va;cases hq:BD b p with
 | false=>exact h
 | true =>
  unfold BD at hq;simp only[aT]at hq;rw[cT];unfold xn;cases uM (yH b p).2 with
  | true=>exact Mw h hq.2.1
  | false=>rw[cF,O4];exact h
theorem Mx {p:tQ} (hp:vb p=true):p.1=160\/p.1=161\/p.1=162\/p.1=163\/p.1=165:=by
 unfold vb at hp;by_cases h0:p.1=160;· exact .inl h0
 by_cases h1:p.1=161;· exact .inr (.inl h1)
 by_cases h2:p.1=162;· exact .inr (.inr (.inl h2))
 by_cases h3:p.1=163;· exact .inr (.inr (.inr (.inl h3)))
 by_cases h5:p.1=165;· exact .inr (.inr (.inr (.inr h5)))
 simp[h0,h1,h2,h3,h5]at hp
structure AS (j:um):Prop where
 byt:vd j.2.1
 len:j.2.1.length<=M
 ph:tj j.2.2.1 0 2=true
 at':tj (x7 j) 0 ((jP j).2.2.2.2.length:Int)=true
 tr:tj (u4 j) 0 3=true
 ok:(j.2.2.1==0)=true\/(vb (jP j)=true/\((jP j).1 != 162)=true/\uv (jB j))
 pl:vQ M (jP j)
 bw:wY (jB j)
 bl:xV M (jB j)
theorem AS.jwf {j:um} (h:AS j):Jt j:=⟨h.pl,h.bw⟩
theorem AS.jle {j:um} (h:AS j):Nu M j:=⟨h.len,h.pl,h.bl⟩
structure uA (a:tB):Prop where
 b:uv (aB a)
 w:(aW a).length<=20
 n:(th a).length<=6
 lo:tj (uE a) 0 1000000=true
 la:tj (tV a) 0 1000000=true
 ids:∀j∈th a,tj j.1 1 (tV a)=true
 up:(th a).Pairwise λi j=>i.1<j.1
 j:∀j∈th a,AS j
theorem uA.ale {a:tB} (h:uA a):BI M a:=⟨h.b.le,by have:=h.w;show (aW a).length<=1048576;omega,by have:=h.n;show (th a).length<=1048576;omega,λx hx=>(h.j x hx).jle⟩
theorem uA.awf {a:tB} (h:uA a):G3 a:=⟨h.b.w,by have:=h.n;omega,λx hx=>(h.j x hx).jwf⟩
theorem uA.ok {a:tB} (h:uA a):xk a=true:=by
 have hn:=h.n;have hw:=h.w
 unfold xk;have h1:(List.range (th a).length).any (Cq (th a) (tV a))=false:=by
  rw[List.any_eq_false];intro k hk;have hk:=List.mem_range.1 hk
  unfold Cq;have hj:=h.j _ (getElem_mem hk)
  have hp:zF (th a)[k]=true:=by
   unfold zF;simp only[aT,Bool.or_eq_true];refine⟨hj.ph,hj.at',hj.tr,hj.ok.imp (λe=>e) λ⟨k1,k2,k3⟩=>⟨k1,k2,k3.ok⟩⟩
  simp only[List.getElem?_eq_getElem hk,h.ids _ (getElem_mem hk),hp,Bool.and_self,Bool.not_true,Bool.false_or];by_cases h0:0<k
  · have:=List.pairwise_iff_getElem.1 h.up (k-1) k (by omega) hk (by omega);simp only[List.getElem?_eq_getElem (show k-1<(th a).length by omega),aT,decide_eq_true_eq];omega
  · rw[dF h0];simp
 rw[h1];simp only[Bool.not_false,Bool.true_and,aT,decide_eq_true_eq];exact⟨h.b.ok,by show ((aW a).length:Int)<=20;omega,by omega,h.lo,h.la⟩
theorem Gt {a:tB} (h:G3 a) (hl:BI M a) (hb:∀j∈th a,vd j.2.1) (hp:xk a=true):uA a:=by
 unfold xk at hp;simp only[aT,Bool.not_eq_true',decide_eq_true_eq]at hp;obtain⟨h1,h2,h3,h4,h5,h6⟩:=hp;have key:∀k (hk:k<(th a).length),tj (th a)[k].1 1 (tV a)=true/\zF (th a)[k]=true/\(∀h0:0<k,(th a)[k-1].1<(th a)[k].1):=by
  intro k hk;have:=List.any_eq_false.1 h1 k (List.mem_range.2 hk)
  unfold Cq at this;simp only[List.getElem?_eq_getElem hk,Bool.or_eq_true,Bool.not_eq_true',Bool.and_eq_false_iff,not_or]at this;obtain⟨t1,t2⟩:=this;have e1:tj (th a)[k].1 1 (tV a)=true:=by
   cases e:tj (th a)[k].1 1 (tV a)with
   | true=>rfl
   | false=>exact absurd e t1.1
  have e2:zF (th a)[k]=true:=by
   cases e:zF (th a)[k]with
   | true=>rfl
   | false=>exact absurd e t1.2
  refine⟨e1,e2,λh0=>?_⟩;rw[dT h0]at t2;simp only[List.getElem?_eq_getElem (show k-1<(th a).length by omega),Bool.true_and,decide_eq_true_eq]at t2;omega
 refine⟨C7 h.b h2,by have:((aW a).length:Int)<=20:=h3;omega,by omega,h5,h6,λj hj=>?_,?_,λj hj=>?_⟩
 · obtain⟨k,hk,rfl⟩:=List.getElem_of_mem hj;exact (key k hk).1
 · exact Dl (λa b c h k=>by omega) λk hk=>by
    have:=(key (k+1) hk).2.2 (by omega);simpa using this
 · have hjw:=h.j j hj;have hjl:=hl.2.2.2 j hj
   have hjb:=hb j hj;obtain⟨k,hk,rfl⟩:=List.getElem_of_mem hj;have hp:=(key k hk).2.1
   unfold zF at hp;simp only[aT,Bool.or_eq_true]at hp;obtain⟨p1,p2,p3,p4⟩:=hp;exact⟨hjb,hjl.1,p1,p2,p3,p4.imp (λe=>e) λ⟨q1,q2,q3⟩=>⟨q1,q2,C7 hjw.b q3⟩,hjw.p,hjw.b,hjl.2.2⟩
noncomputable def xg (b:td) (j:um):Nat:=if (jP j).1=163/\b.2.2.2.2.2.2.2.2.2.2≠(jB j).2.2.2.2.2.2.2.2.2.2/\u4 j<3 then (jP j).2.2.2.2.length+3 else 1
noncomputable def AA (w:List UInt8) (m:List Int):Bool:=(ut w m).2==0&&((ut w m).1.1 != 162)
noncomputable def xo (w:List UInt8) (j:um):Bool:=AA w j.2.1||decide (j.2.2.1>0)
noncomputable def wE (w:List UInt8) (b:td) (j:um):Nat :=
 if j.2.2.1=2 then xg b j else if j.2.2.1=1 then (jP j).2.2.2.2.length-(x7 j).toNat+1+xg b j
 else if AA w j.2.1=true then (ut w j.2.1).1.2.2.2.2.length+3 else 1
theorem E1 {b:td} (h:uv b) {p:tQ} (hp:vb p=true) (hk:(p.1 != 162)=true):BD b p=true/\(va b p).2.1=(xn b p).2/\(va b p).1=(xn b p).1/\(xn b p).2.1=162/\(xn b p).2.2.1=p.2.1:=by
 have e:BD b p=true:=by unfold BD;rw[h.ok,hp,hk];rfl
 have e1:(yH b p).2.1=162/\(yH b p).2.2.1=p.2.1:=by
  unfold yH;cases (p.1==160)<;>cases (p.1==161)<;>cases (p.1==165)<;>exact⟨rfl,rfl⟩
 have e2:(Ab b p).2.1=162/\(Ab b p).2.2.1=p.2.1:=by
  unfold Ab;split<;>exact⟨rfl,rfl⟩
 refine⟨e,?_,?_,?_⟩
 · unfold va;rw[e,cT]
 · unfold va;rw[e,cT]
 · unfold xn;cases uM (yH b p).2 with
   | true=>exact e1
   | false=>exact e2
theorem Lx (p:tQ):(yt p).1=162/\(yt p).2.1=p.2.1:=by
 unfold yt;cases uM (162,p.2.1,6,1,p.2.2.2.2)<;>exact⟨rfl,rfl⟩
theorem Id {j:um} (h:AS j):j.2.2.1=0\/j.2.2.1=1\/j.2.2.1=2:=by
 obtain⟨h1,h2⟩:=ur h.ph;omega
theorem Nl {w:List UInt8} {b:td} {j:um} (h:j.2.2.1=1):wE w b j=(jP j).2.2.2.2.length-(x7 j).toNat+1+xg b j:=by unfold wE;rw[if_neg (by omega),if_pos h]
theorem Qi {w:List UInt8} {b:td} {j:um} (h:j.2.2.1=2):wE w b j=xg b j:=by unfold wE;rw[if_pos h]
def P2 (w:List UInt8) (b b':td) (j:um):P1->Prop
 | .stay j'=>b'=b/\AS j'/\j'.1=j.1/\wE w b j'+1=wE w b j/\xo w j'=xo w j
 | .gone d=>uv b'/\wE w b j=1/\(xo w j=false->d=[])/\(xo w j=true->∃p,d=[(j.1,p)]/\p.1=162)
theorem O5 (w:List UInt8) {b:td} (hb:uv b) {j:um} (h:AS j):P2 w b (xf w b j).1 j (xf w b j).2:=by
 obtain⟨m1,_,m3,m4⟩:=Mu w h.byt h.len;obtain⟨t1,t2⟩:=ur h.tr;obtain⟨a1,a2⟩:=ur h.at';rcases Id h with hp|hp|hp
 ·
   have hne2:¬j.2.2.1=2:=by omega
   have hne1:¬j.2.2.1=1:=by omega
   unfold xf;rw[show (j.2.2.1==0)=true by rw[hp];rfl,cT];have hgood:∀q,AA w j.2.1=q->xo w j=q:=by
    intro q hq;unfold xo;rw[hq,dF (by omega),Bool.or_false]
   have hneed:AA w j.2.1=false->wE w b j=1:=by
    intro hq;unfold wE;rw[if_neg hne2,if_neg hne1,if_neg (by rw[hq];simp)]
   cases h3:((ut w j.2.1).2==3)with
   | true =>
    have hg:AA w j.2.1=false:=by
     unfold AA;simp only[beq_iff_eq]at h3;rw[h3];rfl
    exact⟨Mv hb,hneed hg,λ_=>rfl,λha=>by rw[hgood _ hg]at ha;cases ha⟩
   | false =>
    cases h4:((ut w j.2.1).2 != 0||((ut w j.2.1).1.1==162))with
    | true =>
     have hg:AA w j.2.1=false:=by
      unfold AA;rw[bne]at h4 ⊢;cases e1:((ut w j.2.1).2==0)<;>cases e2:((ut w j.2.1).1.1==162)<;>simp[e1,e2]at h4 ⊢
     exact⟨Lv hb,hneed hg,λ_=>rfl,λha=>by rw[hgood _ hg]at ha;cases ha⟩
    | false =>
     simp only[Bool.or_eq_false_iff]at h4;have h0:(ut w j.2.1).2=0:=by simpa using h4.1
     have hk:((ut w j.2.1).1.1 != 162)=true:=by rw[bne,h4.2];rfl
     have hg:AA w j.2.1=true:=by unfold AA;rw[h0,hk];rfl
     refine⟨rfl,⟨h.byt,h.len,rfl,?_,h.tr,.inr ⟨m4 h0,hk,hb⟩,m3,hb.w,hb.le⟩,rfl,?_,?_⟩
     · unfold tj;rw[dT (by show (0:Int)<=0;omega),dT (by show (0:Int)<=_;omega)];rfl
     · have e1:wE w b j=(ut w j.2.1).1.2.2.2.2.length+3:=by unfold wE;rw[if_neg hne2,if_neg hne1,if_pos hg]
       rw[e1];show wE w b (xe j.1 j.2.1 1 (ut w j.2.1).1 b 0 (u4 j))+1=_
       rw[Nl rfl];have e2:xg b (xe j.1 j.2.1 1 (ut w j.2.1).1 b 0 (u4 j))=1:=by
        unfold xg;rw[if_neg (λhh=>hh.2.1 rfl)]
       rw[e2];show (ut w j.2.1).1.2.2.2.2.length-(0:Int).toNat+1+1+1=_
       simp
     · rw[hgood _ hg];unfold xo;rw[show decide ((xe j.1 j.2.1 1 (ut w j.2.1).1 b 0 (u4 j)).2.2.1>0)=true from rfl,Bool.or_true]
 ·
   have hok:=h.ok.resolve_left (by rw[hp];simp);unfold xf;rw[show (j.2.2.1==0)=false by rw[hp];rfl,show (j.2.2.1==2)=false by rw[hp];rfl,cF,cF];have hn:wE w b j=(jP j).2.2.2.2.length-(x7 j).toNat+1+xg b j:=by unfold wE;rw[if_neg (by omega),if_pos hp]
   have ha:xo w j=true:=by unfold xo;rw[dT (show j.2.2.1>0 by omega),Bool.or_true]
   by_cases hlt:x7 j<((jP j).2.2.2.2.length:Int)
   · have hw1:te (x7 j+1)=x7 j+1:=tM (by omega) (by
      have:=h.pl.1;have:(jP j).2.2.2.2.length<=1048576:=this
      omega)
     rw[dT hlt,cT,hw1];refine⟨rfl,⟨h.byt,h.len,h.ph,?_,h.tr,.inr hok,h.pl,h.bw,h.bl⟩,rfl,?_,?_⟩
     · show tj (x7 j+1) 0 ((jP j).2.2.2.2.length:Int)=true;unfold tj;rw[dT (by omega),dT (by omega)];rfl
     · rw[hn];show wE w b (xe j.1 j.2.1 j.2.2.1 (jP j) (jB j) (x7 j+1) (u4 j))+1=_
       unfold wE;rw[show (xe j.1 j.2.1 j.2.2.1 (jP j) (jB j) (x7 j+1) (u4 j)).2.2.1=1 from hp,if_neg (by omega),if_pos rfl];have e2:xg b (xe j.1 j.2.1 j.2.2.1 (jP j) (jB j) (x7 j+1) (u4 j))=xg b j:=rfl
       rw[e2];show (jP j).2.2.2.2.length-(x7 j+1).toNat+1+xg b j+1=_
       omega
     · rw[ha];unfold xo;rw[show decide ((xe j.1 j.2.1 j.2.2.1 (jP j) (jB j) (x7 j+1) (u4 j)).2.2.1>0)=true from dT (by show j.2.2.1>0;omega),Bool.or_true]
   · rw[dF hlt,cF];refine⟨rfl,⟨h.byt,h.len,rfl,h.at',h.tr,.inr hok,h.pl,h.bw,h.bl⟩,rfl,?_,?_⟩
     · rw[hn];show wE w b (xe j.1 j.2.1 2 (jP j) (jB j) (x7 j) (u4 j))+1=_
       rw[Qi rfl];have e2:xg b (xe j.1 j.2.1 2 (jP j) (jB j) (x7 j) (u4 j))=xg b j:=rfl
       rw[e2];omega
     · rw[ha];unfold xo;rw[show decide ((xe j.1 j.2.1 2 (jP j) (jB j) (x7 j) (u4 j)).2.2.1>0)=true from rfl,Bool.or_true]
 ·
   obtain⟨hpp,hk,hB⟩:=h.ok.resolve_left (by rw[hp];simp);unfold xf;rw[show (j.2.2.1==0)=false by rw[hp];rfl,show (j.2.2.1==2)=true by rw[hp];rfl,cF,cT];have hn:wE w b j=xg b j:=by unfold wE;rw[if_pos hp]
   have ha:xo w j=true:=by unfold xo;rw[dT (show j.2.2.1>0 by omega),Bool.or_true]
   cases h163:(j.2.2.2.1 != 163)with
   | true =>
    obtain⟨_,d2,_,d4,_⟩:=E1 hB hpp hk;refine⟨hb,?_,(λhf=>by rw[ha]at hf;cases hf),λ_=>⟨_,rfl,by rw[d2];exact d4⟩⟩;rw[hn];unfold xg;rw[if_neg (λhh=>by have e:j.2.2.2.1=163:=hh.1;rw[e]at h163;cases h163)]
   | false =>
    have e163:(jP j).1=163:=by
     have:¬j.2.2.2.1≠163:=by simpa using h163
     exact Classical.not_not.1 this
    cases hv:(b.2.2.2.2.2.2.2.2.2.2==(jB j).2.2.2.2.2.2.2.2.2.2)with
    | true =>
     obtain⟨_,d2,_,d4,_⟩:=E1 hb hpp hk;refine⟨FR hb _,?_,(λhf=>by rw[ha]at hf;cases hf),λ_=>⟨_,rfl,by rw[d2];exact d4⟩⟩;rw[hn];unfold xg;rw[if_neg (λhh=>hh.2.1 (by simpa using hv))]
    | false =>
     by_cases ht:u4 j>=3
     · rw[dT ht];refine⟨hb,?_,(λhf=>by rw[ha]at hf;cases hf),λ_=>⟨_,rfl,(Lx _).1⟩⟩;rw[hn];unfold xg;rw[if_neg (λhh=>by have:=hh.2.2;omega)]
     · rw[dF ht,tM (by omega) (by omega)];refine⟨rfl,⟨h.byt,h.len,rfl,?_,?_,.inr ⟨hpp,hk,hb⟩,h.pl,hb.w,hb.le⟩,rfl,?_,?_⟩
       · show tj 0 0 ((jP j).2.2.2.2.length:Int)=true;unfold tj;rw[dT (by omega),dT (by omega)];rfl
       · show tj (u4 j+1) 0 3=true;unfold tj;rw[dT (by omega),dT (by omega)];rfl
       · rw[hn];have e1:xg b j=(jP j).2.2.2.2.length+3:=by
          unfold xg;rw[if_pos ⟨e163,by simpa using hv,by omega⟩]
         rw[e1];show wE w b (xe j.1 j.2.1 1 (jP j) b 0 (u4 j+1))+1=_
         rw[Nl rfl];have e2:xg b (xe j.1 j.2.1 1 (jP j) b 0 (u4 j+1))=1:=by
          unfold xg;rw[if_neg (λhh=>hh.2.1 rfl)]
         rw[e2];show (jP j).2.2.2.2.length-(0:Int).toNat+1+1+1=_
         simp
       · rw[ha];unfold xo;rw[show decide ((xe j.1 j.2.1 1 (jP j) b 0 (u4 j+1)).2.2.1>0)=true from rfl,Bool.or_true]

theorem FS {a:tB} (h:uA a) {k:Nat} (hk:k<(th a).length) :
 (∃j',ua a k (th a)[k]=(uT (aB a) (aW a) ((th a).set k j') (uE a) (tV a),[])/\AS j'/\j'.1=(th a)[k].1/\wE (aW a) (aB a) j'+1=wE (aW a) (aB a) (th a)[k]/\xo (aW a) j'=xo (aW a) (th a)[k]) \/
 (∃b' d,ua a k (th a)[k]=(uT b' (aW a) ((th a).eraseIdx k) (uE a) (tV a),d)/\uv b'/\wE (aW a) (aB a) (th a)[k]=1/\(xo (aW a) (th a)[k]=false->d=[])/\(xo (aW a) (th a)[k]=true->∃p,d=[((th a)[k].1,p)]/\p.1=162)):=by
 have hs:=O5 (aW a) h.b (h.j _ (getElem_mem hk));unfold ua;cases hf:(xf (aW a) (aB a) (th a)[k]).2 with
 | stay j' =>
  rw[hf]at hs;obtain⟨k1,k2,k3,k4,k5⟩:=hs;exact .inl ⟨j',by simp only[k1],k2,k3,k4,k5⟩
 | gone d =>
  rw[hf]at hs;obtain⟨k1,k2,k3,k4⟩:=hs;exact .inr ⟨_,d,rfl,k1,k2,k3,k4⟩
theorem O6 {a:tB} (h:uA a) {k:Nat} (hk:k<(th a).length) {j':um} (hj:AS j') (hi:j'.1=(th a)[k].1):uA (uT (aB a) (aW a) ((th a).set k j') (uE a) (tV a)):=by
 have hm:∀x∈(th a).set k j',x∈th a\/x=j':=λx hx=>List.mem_or_eq_of_mem_set hx;have hmap:((th a).set k j').map (λj=>j.1)=(th a).map (λj=>j.1):=by
  rw[List.map_set,hi];apply List.ext_getElem
  · simp
  · intro i h1 h2;rw[List.getElem_set];split
    · rename_i e;subst e;simp
    · rfl
 refine⟨h.b,h.w,?_,h.lo,h.la,λj hj'=>?_,?_,λj hj'=>?_⟩
 · show ((th a).set k j').length<=6;rw[length_set];exact h.n
 · rcases hm j hj' with hj'|rfl
   · exact h.ids j hj'
   · show tj j.1 1 (tV a)=true;rw[hi];exact h.ids _ (getElem_mem hk)
 · have:=h.up;show ((th a).set k j').Pairwise λi j=>i.1<j.1
   rw[←List.pairwise_map (f:=λj:um=>j.1) (R:=λx y=>x<y)]at this ⊢;rw[hmap];exact this
 · rcases hm j hj' with hj'|rfl
   · exact h.j j hj'
   · exact hj
theorem My {a:tB} (h:uA a) (k:Nat) {b':td} (hb:uv b'):uA (uT b' (aW a) ((th a).eraseIdx k) (uE a) (tV a)):=by
 have hs:((th a).eraseIdx k).Sublist (th a):=List.eraseIdx_sublist _ _;refine⟨hb,h.w,Nat.le_trans hs.length_le h.n,h.lo,h.la,λj hj=>h.ids j (hs.subset hj),h.up.sublist hs,λj hj=>h.j j (hs.subset hj)⟩
theorem BE {a:tB} (h:uA a) {k:Nat} (hk:k<(th a).length):uA (ua a k (th a)[k]).1/\(ua a k (th a)[k]).2.length<=1:=by
 rcases FS h hk with ⟨j',e,k1,k2,_⟩|⟨b',d,e,k1,_,k3,k4⟩
 · rw[e];exact⟨O6 h hk k1 k2,by simp⟩
 · rw[e];refine⟨My h k k1,?_⟩;cases ha:xo (aW a) (th a)[k]with
   | false=>rw[k3 ha];simp
   | true=>obtain⟨p,rfl,_⟩:=k4 ha;simp
theorem Nn {a:tB} (h:uA a) {k:Nat} (hk:k<(th a).length):cR a (k:Int)=some (ua a k (th a)[k]) :=
 Qh h.b.w h.ale hk (h.j _ (getElem_mem hk)).jwf (h.j _ (getElem_mem hk)).byt
theorem Np {a:tB} (h:uA a) {k:Nat} (hk:k<(th a).length):bI a (k:Int)=some (ua a k (th a)[k]):=by
 have hn:=h.n;unfold bI;rw[xR h.ale,an,zt h.awf,an,h.ok,Bool.not_true,cF];have hw:te ((a.2.2.2.2.2.2.2.2.2.2.2.2.1.length:Int)-1)=((th a).length:Int)-1:=tM (by show -9223372036854775808<=((th a).length:Int)-1;omega) (by show ((th a).length:Int)-1<=_;omega)
 rw[hw,wR,an,z7 (by omega) (by omega),an,Bool.not_true,cF,Nn h hk,an]
theorem Ly {a:tB} (h:uA a) {k:Int} (hk:k<0\/((th a).length:Int)<=k):bI a k=some (a,[]):=by
 have hn:=h.n;unfold bI;rw[xR h.ale,an,zt h.awf,an,h.ok,Bool.not_true,cF];have hw:te ((a.2.2.2.2.2.2.2.2.2.2.2.2.1.length:Int)-1)=((th a).length:Int)-1:=tM (by show -9223372036854775808<=((th a).length:Int)-1;omega) (by show ((th a).length:Int)-1<=_;omega)
 have hp:tj k 0 (((th a).length:Int)-1)=false:=by
  unfold tj;rcases hk with hk|hk
  · rw[dF (by omega)];rfl
  · rw[dF (show ¬k<=((th a).length:Int)-1 by omega),Bool.and_false]
 rw[hw,wR,an,hp,an,Bool.not_false,cT]
noncomputable def vw:Nat->tB->tB×List v9
 | 0,a=>(a,[])
 | n+1,a=>match th a with
  | []=>(a,[])
  | j::_=>((vw n (ua a 0 j).1).1,(ua a 0 j).2++(vw n (ua a 0 j).1).2)
abbrev P3:=Int×Int×List UInt8×Int×Int×Int×Int×Int×List UInt8×Int×Int×List v9×List Pt×List tk×List tC×List Int×List um
abbrev RV:=Int×List UInt8×Int×Int×Int×Int×Int×List UInt8×Int×Int×List v9×List Pt×List tk×List tC×List Int×List um
def Cn (i:Int) (a:tB) (all:List v9):P3:=(i,a.1,a.2.1,a.2.2.2.2.2.2.1,a.2.2.2.2.2.2.2.1,a.2.2.2.2.2.2.2.2.1,a.2.2.2.2.2.2.2.2.2.1,a.2.2.2.2.2.2.2.2.2.2.1,a.2.2.2.2.2.2.2.2.2.2.2.1,a.2.2.2.2.2.2.2.2.2.2.2.2.2.1,a.2.2.2.2.2.2.2.2.2.2.2.2.2.2,all,a.2.2.1,a.2.2.2.1,a.2.2.2.2.1,a.2.2.2.2.2.1,a.2.2.2.2.2.2.2.2.2.2.2.2.1)
def P4 (a:tB) (all:List v9):RV:=(a.1,a.2.1,a.2.2.2.2.2.2.1,a.2.2.2.2.2.2.2.1,a.2.2.2.2.2.2.2.2.1,a.2.2.2.2.2.2.2.2.2.1,a.2.2.2.2.2.2.2.2.2.2.1,a.2.2.2.2.2.2.2.2.2.2.2.1,a.2.2.2.2.2.2.2.2.2.2.2.2.2.1,a.2.2.2.2.2.2.2.2.2.2.2.2.2.2,all,a.2.2.1,a.2.2.2.1,a.2.2.2.2.1,a.2.2.2.2.2.1,a.2.2.2.2.2.2.2.2.2.2.2.2.1)
theorem Ie {n:Nat} (hn:n<=500):∀(m i:Nat) (a:tB) (all:List v9),uA a->i+m=n->all.length+m<=1000->loop (λz:P3=>fE (n:Int) z.1 z.2.1 z.2.2.1 z.2.2.2.1 z.2.2.2.2.1 z.2.2.2.2.2.1 z.2.2.2.2.2.2.1 z.2.2.2.2.2.2.2.1 z.2.2.2.2.2.2.2.2.1 z.2.2.2.2.2.2.2.2.2.1 z.2.2.2.2.2.2.2.2.2.2.1 z.2.2.2.2.2.2.2.2.2.2.2.1 z.2.2.2.2.2.2.2.2.2.2.2.2.1 z.2.2.2.2.2.2.2.2.2.2.2.2.2.1 z.2.2.2.2.2.2.2.2.2.2.2.2.2.2.1 z.2.2.2.2.2.2.2.2.2.2.2.2.2.2.2.1 z.2.2.2.2.2.2.2.2.2.2.2.2.2.2.2.2) (Cn (i:Int) a all)=some (P4 (vw m a).1 (all++(vw m a).2))
 | 0,i,a,all,h,hi,hl=>by
  refine tR ?_;dsimp only[Cn];unfold fE;rw[tW (by omega),cF,an,cF];simp only[vw,append_nil];rfl
 | m+1,i,a,all,h,hi,hl=>by
  by_cases hj:0<(th a).length
  · obtain⟨j,r,hjr⟩:∃j r,th a=j::r:=by
     cases he:th a with
     | nil=>rw[he]at hj;simp at hj
     | cons j r=>exact⟨j,r,rfl⟩
    obtain⟨w1,w2⟩:=BE h hj;have e0:(th a)[0]=j:=by simp[hjr]
    rw[e0]at w1 w2;have hwk:=Nn h hj
    rw[e0]at hwk;have er:vw (m+1) a=((vw m (ua a 0 j).1).1,(ua a 0 j).2++(vw m (ua a 0 j).1).2):=by
     show (match th a with | []=>(a,[])|j::_=>((vw m (ua a 0 j).1).1,(ua a 0 j).2++(vw m (ua a 0 j).1).2))=_;rw[hjr]
    rw[er];refine tO (y:=Cn ((i+1:Nat):Int) (ua a 0 j).1 (all++(ua a 0 j).2)) ?_ ?_
    · dsimp only[Cn];unfold fE;have hjl:decide (((a.2.2.2.2.2.2.2.2.2.2.2.2.1.length:Nat):Int)>0)=true:=dT (by show ((th a).length:Int)>0;omega)
      rw[u0 (by omega),cT,hjl,an,cT];have hwk':cR (a.1,a.2.1,a.2.2.1,a.2.2.2.1,a.2.2.2.2.1,a.2.2.2.2.2.1,a.2.2.2.2.2.2.1,a.2.2.2.2.2.2.2.1,a.2.2.2.2.2.2.2.2.1,a.2.2.2.2.2.2.2.2.2.1,a.2.2.2.2.2.2.2.2.2.2.1,a.2.2.2.2.2.2.2.2.2.2.2.1,a.2.2.2.2.2.2.2.2.2.2.2.2.1,a.2.2.2.2.2.2.2.2.2.2.2.2.2.1,a.2.2.2.2.2.2.2.2.2.2.2.2.2.2) 0=some (ua a 0 j):=hwk
      rw[hwk',an,tn (by omega),an,tz (by omega)]
    · have:=Ie hn m (i+1) (ua a 0 j).1 (all++(ua a 0 j).2) w1 (by omega) (by rw[length_append];omega);rw[this,append_assoc]
  · have hj0:th a=[]:=List.length_eq_zero_iff.1 (by omega);have er:vw (m+1) a=(a,[]):=by
     show (match th a with | []=>(a,[])|j::_=>((vw m (ua a 0 j).1).1,(ua a 0 j).2++(vw m (ua a 0 j).1).2))=_;rw[hj0]
    rw[er];refine tR ?_;dsimp only[Cn];unfold fE;have hjl:decide (((a.2.2.2.2.2.2.2.2.2.2.2.2.1.length:Nat):Int)>0)=false:=dF (by show ¬((th a).length:Int)>0;omega)
    rw[u0 (by omega),cT,hjl,an,cF,append_nil];rfl
theorem Mz {a:tB} (h:uA a) {n:Nat} (hn:n<=500):cV a (n:Int)=some (vw n a):=by
 unfold cV;rw[xR h.ale,an,zt h.awf,an,h.ok,Bool.not_true,cF,wR,an,z7 (by omega) (by omega),an,Bool.not_true,cF];have:=Ie hn n 0 a [] h (by omega) (by simp;omega)
 refine (congrArg (λo=>Option.bind o _) this).trans ?_;rfl
theorem Qj {n:Int} (hn:-2147483648<=n/\n<=2147483647):∃x0 l,uF n=x0::l/\vd (x0::l)/\l.length<=3/\uV (wl x0) l=n:=by
 unfold uF;by_cases h1:tj n (-128) 127=true
 · rw[if_pos h1];obtain⟨a,b⟩:=ur h1;refine⟨n%256,[],rfl,λx hx=>?_,by simp,?_⟩
   · simp only[mem_singleton]at hx;subst hx;omega
   · show wl (n%256)=n;unfold wl;split<;>omega
 rw[if_neg h1];have h1':=Cb (Bool.eq_false_iff.2 h1)
 by_cases h2:tj n (-32768) 32767=true
 · rw[if_pos h2];obtain⟨a,b⟩:=ur h2;refine⟨n/256%256,[n%256],rfl,λx hx=>?_,by simp,?_⟩
   · simp only[mem_cons,not_mem_nil,or_false]at hx;rcases hx with rfl|rfl<;>omega
   · show wl (n/256%256)*256+n%256=n;unfold wl;split<;>omega
 rw[if_neg h2];by_cases h3:tj n (-8388608) 8388607=true
 · rw[if_pos h3];obtain⟨a,b⟩:=ur h3;refine⟨n/65536%256,[n/256%256,n%256],rfl,λx hx=>?_,by simp,?_⟩
   · simp only[mem_cons,not_mem_nil,or_false]at hx;rcases hx with rfl|rfl|rfl<;>omega
   · show (wl (n/65536%256)*256+n/256%256)*256+n%256=n;unfold wl;split<;>omega
 rw[if_neg h3];refine⟨n/16777216%256,[n/65536%256,n/256%256,n%256],rfl,λx hx=>?_,by simp,?_⟩
 · simp only[mem_cons,not_mem_nil,or_false]at hx;rcases hx with rfl|rfl|rfl|rfl<;>omega
 · show ((wl (n/16777216%256)*256+n/65536%256)*256+n/256%256)*256+n%256=n;unfold wl;split<;>omega
def BF (w:List UInt8):List Int:=ui 2 (uF 1)++ui 4 (vU w)
def E2 (w:List UInt8) (p:tQ):List Int:=if (yf p).length=0\/20<w.length then []else if (BF w++yf p).length<=250 then ui 48 (BF w++yf p)else []
theorem O7 (p:tQ):(yf p).length<=260:=by
 unfold yf;split
 · rename_i h;have:=uY p.1 (body:=wH p)
   omega
 · simp
theorem Ja {p:tQ} (hx:∀x∈p.2.2.2.2,xj x=true) (hn:p.2.2.2.2.length<=10) (hi:tj p.2.1 (-2147483648) 2147483647=true)
 (hk:(cond (p.1==162||p.1==165) (tj p.2.2.1 0 1000&&tj p.2.2.2.1 0 1000) (cond (p.1==160||(p.1==161||p.1==163)) (p.2.2.1==0&&p.2.2.2.1==0) false))=true):vb p=true:=by
 unfold vb;have h1:(List.range p.2.2.2.2.length).any (bX p.2.2.2.2)=false:=by
  rw[List.any_eq_false];intro k hk';have hk':=List.mem_range.1 hk'
  unfold bX;simp only[List.getElem?_eq_getElem hk',hx _ (getElem_mem hk')];simp
 rw[h1,dT (by omega),hk,hi];rfl

theorem zP {a b:List Int} (h:vd a) (k:vd b):vd (a++b):=λx hx=>(mem_append.1 hx).elim (h x) (k x)
theorem yg {t:Int} {body:List Int} (ht:tj t 0 255=true) (hb:vd body) (hn:body.length<=250):vd (ui t body):=by
 obtain⟨t0,t1⟩:=ur ht;intro x hx;unfold ui at hx;rcases mem_cons.1 hx with rfl|hx
 · omega
 · rcases mem_append.1 hx with hx|hx
   · split at hx
     · simp only[mem_cons,not_mem_nil,or_false]at hx;rcases hx with rfl|rfl<;>omega
     · simp only[mem_singleton]at hx;subst hx;omega
   · exact hb x hx
theorem CM {n:Int} (hn:-2147483648<=n/\n<=2147483647):vd (uF n):=by
 obtain⟨x0,l,e,h,_⟩:=Qj hn;rw[e];exact h
theorem If (s:List UInt8):vd (vU s):=by
 intro x hx;unfold vU at hx;obtain⟨b,_,rfl⟩:=mem_map.1 hx;have:=b.toNat_lt
 omega
theorem O8 {v:wQ} (hv:wZ v=true):vd (vI v):=by
 unfold wZ at hv;unfold vI;by_cases h1:(v.1==5||(v.1==128||v.1==130))=true
 · simp only[Bool.or_eq_true,beq_iff_eq]at h1;rcases h1 with h|h|h<;>rw[h]<;>exact zl
 · rw[Bool.eq_false_iff.2 h1,cF]at hv;cases h2:(v.1==2)with
   | true =>
    rw[h2,cT,aT]at hv;rw[cT];exact CM (ur hv.1)
   | false =>
    rw[h2,cF]at hv;rw[cF];cases h4:(v.1==4)with
    | true=>rw[cT];exact If _
    | false =>
     rw[h4,cF]at hv;rw[cF];cases h6:(v.1==6)with
     | true =>
      rw[h6,cT,aT]at hv;rw[cT];exact Fh (yi hv.1).2.2
     | false=>rw[cF];exact zl
theorem O9 {x:tg} (hx:xj x=true):vd (AU x):=by
 have hx':=hx;unfold xj at hx';rw[aT]at hx';obtain⟨o1,o2,o3⟩:=yi hx'.1;have hob:=za (o:=x.1) λy hy=>(o3 y hy).2
 obtain⟨l1,l2,_,_⟩:=BL hx'.2;exact zP (yg (by decide) (Fh o3) (by omega)) (yg l2 (O8 hx'.2) (by omega))
theorem Jb:∀{l:List tg},(∀x∈l,xj x=true)->vd (ug l)
 | [],_=>zl
 | x::l,h=>by
  have hx:=h x (by simp);have hb:=(AN hx).1
  show vd (yO x++ug l);exact zP (yg (by decide) (O9 hx) (by omega)) (Jb λy hy=>h y (List.mem_cons_of_mem _ hy))
theorem Oa (p:tQ):vd (yf p):=by
 unfold yf;split
 · rename_i h;obtain⟨h1,h2,h3⟩:=h;obtain⟨k1,k2,k3,k4,k5,k6⟩:=wi h1;have i1:=vW p.2.1
   have i2:=vW p.2.2.1;have i3:=vW p.2.2.2.1
   refine yg k3 ?_ h3;unfold wH;exact zP (zP (zP (yg (by decide) (CM k4) (by omega)) (yg (by decide) (CM ⟨by omega,by omega⟩) (by omega))) (yg (by decide) (CM ⟨by omega,by omega⟩) (by omega))) (yg (by decide) (Jb k1) h2)
 · exact zl
theorem Ob (w:List UInt8) (p:tQ):vd (E2 w p):=by
 unfold E2;split
 · exact zl
 · rename_i h;simp only[not_or,Nat.not_lt]at h;split
   · rename_i hb;have hwl:(vU w).length=w.length:=by unfold vU;rw[length_map]
     have i1:=vW 1;refine yg (by decide) (zP ?_ (Oa p)) hb;unfold BF;exact zP (yg (by decide) (CM ⟨by omega,by omega⟩) (by omega)) (yg (by decide) (If w) (by omega))
   · exact zl
theorem Oc {i:Int} (hi:-2147483648<=i/\i<=2147483647):uM (162,i,7,0,[])=true:=by
 have hp:vb (162,i,7,0,[])=true:=Ja (by intro x hx;cases hx) (Nat.zero_le _) (z7 hi.1 hi.2) rfl;have t1:=uY 2 (body:=uF i)
 have t2:=uY 2 (body:=uF 7);have t3:=uY 2 (body:=uF 0)
 have t4:=uY 48 (body:=[]);have i1:=vW i
 have i2:=vW 7;have i3:=vW 0
 have hb:(wH (162,i,7,0,[])).length<=30:=by
  unfold wH;show (ui 2 (uF i)++ui 2 (uF 7)++ui 2 (uF 0)++ui 48 []).length<=30
  simp only[length_append];simp only[List.length_nil]at t4;omega
 have ht:=uY 162 (body:=wH (162,i,7,0,[]));have hpos:=Fi 162 (wH (162,i,7,0,[]))
 unfold uM yf;rw[if_pos ⟨hp,by show (0:Nat)<=250;omega,by omega⟩];exact z7 (by show (1:Int)<=((ui 162 (wH (162,i,7,0,[]))).length:Int);omega) (by show ((ui 162 (wH (162,i,7,0,[]))).length:Int)<=120;omega)
theorem Lz {b:td} {p:tQ} (hp:vb p=true):uM (xn b p).2=true:=by
 have hi:=(wi hp).2.2.2.1;unfold xn;cases hf:uM (yH b p).2 with
 | true=>exact hf
 | false =>
  rw[cF];unfold Ab;split
  · rename_i t ht;cases h5:(p.1==165)with
    | false=>rw[h5]at ht;cases ht
    | true =>
     rw[h5]at ht;exact (Ib ht).1
  · exact Oc hi
theorem K9 {l:List tg} (h:AT M l):gH l l=some true:=by
 have hM:M<9223372036854775807:=by decide
 have hn:l.length<=1048576:=h.1;unfold gH;rw[bne_self_eq_false,cF];have:loop (λz=>dX l l z) 0=some (.inl ()):=zG (n:=l.length) (λk hk=>by
  obtain⟨h1,_,h3⟩:=h.2 _ (getElem_mem hk);show dX l l (k:Int)=_
  unfold dX;simp only[u0 (show (k:Int)<(l.length:Int) by omega),cT,tE hk,an];rw[Ae (by omega),PD (by omega)];simp only[an,beq_self_eq_true,Bool.not_true,cF];rw[tz (by omega)]) (by
  show dX l l (l.length:Int)=_;unfold dX;rw[tW (by omega),cF])
 rw[this];rfl
theorem Ig {p:tQ} (h:vQ M p):dY p p=some true:=by
 unfold dY;simp only[beq_self_eq_true,cT,an,K9 h]
def MA (id:Int) (m:List Int):um:=(id,m,0,0,0,0,0,[],0,[],[],[],[],[],0,0,0,0,0,0,0)
theorem MB (id:Int) {m:List Int} (hb:vd m) (hn:m.length<=M):AS (MA id m):=by
 have h0:(0:Nat)<=M:=by decide
 refine⟨hb,hn,rfl,rfl,rfl,.inl rfl,⟨h0,λx hx=>by cases hx⟩,⟨by show 0<9223372036854775807;decide,by show 0<9223372036854775807;decide,by show 0<9223372036854775807;decide,by show 0<9223372036854775807;decide,λr hr=>by cases hr⟩,⟨h0,h0,h0,h0,h0⟩⟩
theorem Od {b:td} (h:uv b) {w:List UInt8} (hw:w.length<=20):uA (uT b w [] 0 0) :=
 ⟨h,hw,(by show 0<=6;omega),rfl,rfl,(λj hj=>by cases hj),List.Pairwise.nil,(λj hj=>by cases hj)⟩
theorem Oe {a:tB} (h:uA a) {m:List Int} (hn:m.length<=M) (h6:(th a).length<6) (hl:tV a<1000000):br a m=some (uT (aB a) (aW a) (th a++[MA (tV a+1) m]) (uE a) (tV a+1)):=by
 have hla:=ur h.la;have e1:decide ((a.2.2.2.2.2.2.2.2.2.2.2.2.1.length:Int)>=6)=false:=dF (by show ¬((th a).length:Int)>=6;omega)
 have e2:decide (a.2.2.2.2.2.2.2.2.2.2.2.2.2.2>=1000000)=false:=dF (by show ¬tV a>=1000000;omega);have e3:te (a.2.2.2.2.2.2.2.2.2.2.2.2.2.2+1)=tV a+1:=tM (by show -9223372036854775808<=tV a+1;omega) (by show tV a+1<=_;omega)
 unfold br;rw[xR h.ale,an,zt h.awf,an,h.ok,Bool.not_true,cF,e1,cF,e2,an,cF,zU hn,an,e3];rw[tn (by show (th a).length+1<=_;omega),an];rfl
theorem Of {a:tB} (h:uA a) {m:List Int} (hf:¬((th a).length<6/\tV a<1000000)):br a m=some (uT (aB a) (aW a) (th a) (yL (uE a)) (tV a)):=by
 unfold br;rw[xR h.ale,an,zt h.awf,an,h.ok,Bool.not_true,cF];have key:(cond (decide ((a.2.2.2.2.2.2.2.2.2.2.2.2.1.length:Int)>=6)) (some true) (some (decide (a.2.2.2.2.2.2.2.2.2.2.2.2.2.2>=1000000))))=some true:=by
  by_cases h6:(th a).length<6
  · have h7:¬tV a<1000000:=λh7=>hf ⟨h6,h7⟩;rw[dF (by show ¬((th a).length:Int)>=6;omega),cF,dT (by show tV a>=1000000;omega)]
  · rw[dT (by show ((th a).length:Int)>=6;omega),cT]
 rw[key,an,cT,Ep,an];rfl
theorem Ka {a:tB} (h:uA a) {m:List Int} (hb:vd m) (hn:m.length<=M) (h6:(th a).length<6) (hl:tV a<1000000):uA (uT (aB a) (aW a) (th a++[MA (tV a+1) m]) (uE a) (tV a+1)):=by
 have hla:=ur h.la;refine⟨h.b,h.w,?_,h.lo,?_,λj hj=>?_,?_,λj hj=>?_⟩
 · show (th a++[_]).length<=6;rw[length_append];show (th a).length+1<=6;omega
 · exact z7 (by show 0<=tV a+1;omega) (by show tV a+1<=1000000;omega)
 · rcases mem_append.1 hj with hj|hj
   · obtain⟨k1,k2⟩:=ur (h.ids j hj);exact z7 k1 (by show j.1<=tV a+1;omega)
   · rw[mem_singleton]at hj;subst hj;exact z7 (by show 1<=tV a+1;omega) (by show tV a+1<=tV a+1;omega)
 · show (th a++[_]).Pairwise λi j:um=>i.1<j.1;refine List.pairwise_append.2 ⟨h.up,List.pairwise_singleton _ _,λx hx y hy=>?_⟩;rw[mem_singleton]at hy;subst hy;have:=(ur (h.ids x hx)).2
   show x.1<tV a+1;omega
 · rcases mem_append.1 hj with hj|hj
   · exact h.j j hj
   · rw[mem_singleton]at hj;subst hj;exact MB _ hb hn
theorem MC {a:tB} (h:uA a):uA (uT (aB a) (aW a) (th a) (yL (uE a)) (tV a)):=⟨h.b,h.w,h.n,Eq h.lo,h.la,h.ids,h.up,h.j⟩
structure BG (p:tQ):Prop where
 k:p.1=160\/p.1=161\/p.1=163\/p.1=165
 i:0<=p.2.1/\p.2.1<100
 ab:(p.1=165/\(0<=p.2.2.1/\p.2.2.1<=1000)/\(0<=p.2.2.2.1/\p.2.2.2.1<=1000))\/(p.1≠165/\p.2.2.1=0/\p.2.2.2.1=0)
 n:p.2.2.2.2.length<=3
 s:∀x∈p.2.2.2.2,z8 x
 o:p.1≠163->∀x∈p.2.2.2.2,xj x=true
theorem BG.le {p:tQ} (h:BG p):vQ M p:=⟨by have:=h.n;show _<=1048576;omega,λx hx=>(h.s x hx).le⟩
theorem BG.ok {p:tQ} (h:BG p) (hk:p.1≠163):vb p=true:=by
 have hi:=h.i;refine Ja (h.o hk) (by have:=h.n;omega) (z7 (by omega) (by omega)) ?_;rcases h.ab with ⟨e,⟨a1,a2⟩,b1,b2⟩|⟨e,a1,b1⟩
 · rw[e,z7 a1 a2,z7 b1 b2];rfl
 · rw[a1,b1];rcases h.k with k|k|k|k
   · rw[k];rfl
   · rw[k];rfl
   · exact absurd k hk
   · exact absurd k e
theorem Kb {c:tD} (h:CW c) {b:td} (hb:wY b) (hn:∀c,CW c->Dr Nm (aq c b)):Dr BG (bB c b):=by
 unfold bB;refine Dr.bind (AD h (by decide)) λc x hc hx=>?_;refine Dr.bind (vi hc 100) λc i hc hi=>?_;have hi2:=hi.2 (by omega)
 have hx:x=160\/x=161\/x=163\/x=165:=by
  simp only[mem_cons,not_mem_nil,or_false]at hx;rcases hx with h|h|h|h|h
  · exact .inl h
  · exact .inr (.inl h)
  · exact .inr (.inr (.inl h))
  · exact .inr (.inr (.inl h))
  · exact .inr (.inr (.inr h))
 cases h3:(x==163)with
 | true =>
  have h3:x=163:=by simpa using h3
  subst h3;show Dr BG ((eR c b).bind λt18=>some (t18.1,((163:Int),i,0,0,t18.2)))
  refine Dr.bind (OI hc hb hn) λc l hc hl=>?_;exact Dr.some hc ⟨.inr (.inr (.inl rfl)),⟨hi.1,hi2⟩,.inr ⟨by show (163:Int)≠165;omega,rfl,rfl⟩,hl.1,hl.2,λhk=>absurd rfl hk⟩
 | false =>
  have h3:x≠163:=by simpa using h3
  obtain⟨c1,k,e1,w1,hk⟩:=vh hc (n:=4) (by decide);have e1':aa c 4=some (c1,(k:Int)):=e1
  rw[cF];show Dr BG ((aa c 4).bind _)
  rw[e1',an];obtain⟨d,d1,d2,d3,d4,d5⟩:=tI (step:=λz:Int×List Int×Int×Int×Int×Int×Int×Int×List tg=>cA b z.1 z.2.1 z.2.2.1 z.2.2.2.1 z.2.2.2.2.1 z.2.2.2.2.2.1 z.2.2.2.2.2.2.1 z.2.2.2.2.2.2.2.1 z.2.2.2.2.2.2.2.2)
   (λj z=>z.1=((k-j:Nat):Int)/\CW (z.2.1,z.2.2.1,z.2.2.2.1)/\(z.2.2.2.2.1=x/\z.2.2.2.2.2.1=i/\z.2.2.2.2.2.2.1=0/\z.2.2.2.2.2.2.2.1=0)/\z.2.2.2.2.2.2.2.2.length=j/\∀y∈z.2.2.2.2.2.2.2.2,z8 y/\xj y=true) k
   (λd=>CW (d.1,d.2.1,d.2.2.1)/\(d.2.2.2.1=x/\d.2.2.2.2.1=i/\d.2.2.2.2.2.1=0/\d.2.2.2.2.2.2.1=0)/\d.2.2.2.2.2.2.2.length=k/\∀y∈d.2.2.2.2.2.2.2,z8 y/\xj y=true)
   (λj z hj ⟨z1,z2,z3,z4,z5⟩=>by
    obtain⟨q,c0,c1,c2,r0,r1,r2,r3,out⟩:=z;simp only at z1 z2 z3 z4 z5;subst z1 z4;left;obtain⟨c',o,x1,x2,x3⟩:=hn _ z2;refine⟨_,by
     show cA b _ _ _ _ _ _ _ _ _=_;unfold cA;rw[dT (show ((k-out.length:Nat):Int)>0 by omega),cT,x1,an,tn (by show _+1<=_;omega),an],?_,x2,z3,by simp,?_⟩
    · show te (((k-out.length:Nat):Int)-1)=_;rw[tM (by omega) (by omega)];omega
    · intro y hy;rcases mem_append.1 hy with hy|hy
      · exact z5 y hy
      · rw[mem_singleton]at hy;subst hy;have:=x3.n10
        refine⟨⟨by show o.length<=1000;omega,by show (0:Nat)<=100;omega,by show (0:Nat)<=1000;omega,N7 5⟩,?_⟩;unfold xj;rw[J6 x3];rfl)
   (λz ⟨z1,z2,z3,z4,z5⟩=>by
    obtain⟨q,c0,c1,c2,r0,r1,r2,r3,out⟩:=z;simp only at z1 z2 z3 z4 z5;rw[Nat.sub_self]at z1;subst z1;refine⟨(c0,c1,c2,r0,r1,r2,r3,out),?_,z2,z3,z4,z5⟩;show cA b _ _ _ _ _ _ _ _ _=_
    unfold cA;rw[dF (show ¬((0:Nat):Int)>0 by decide),cF]) (x:=((k:Int),c1.1,c1.2.1,c1.2.2,x,i,0,0,[])) ⟨rfl,w1,⟨rfl,rfl,rfl,rfl⟩,rfl,by simp⟩
  show Dr BG ((loop (λz:Int×List Int×Int×Int×Int×Int×Int×Int×List tg=>cA b z.1 z.2.1 z.2.2.1 z.2.2.2.1 z.2.2.2.2.1 z.2.2.2.2.2.1 z.2.2.2.2.2.2.1 z.2.2.2.2.2.2.2.1 z.2.2.2.2.2.2.2.2) ((k:Int),c1.1,c1.2.1,c1.2.2,x,i,0,0,[])).bind _);rw[d1,an];obtain⟨q0,q1,q2,r0,r1,r2,r3,l⟩:=d;simp only at d2 d3 d4 d5 ⊢;obtain⟨rfl,rfl,rfl,rfl⟩:=d3;cases h5:(r0==165)with
  | true =>
   have h5:r0=165:=by simpa using h5
   rw[cT];refine Dr.bind (vi d2 3) λc s hc hs=>?_;refine Dr.bind (vi hc 5) λc t hc ht=>?_;have hs2:=hs.2 (by omega)
   have ht2:=ht.2 (by omega);exact Dr.some hc ⟨hx,⟨hi.1,hi2⟩,.inl ⟨h5,⟨hs.1,by show s<=1000;omega⟩,ht.1,by show t<=1000;omega⟩,by show l.length<=3;omega,λy hy=>(d5 y hy).1,λ_ y hy=>(d5 y hy).2⟩
  | false =>
   have h5:r0≠165:=by simpa using h5
   rw[cF];exact Dr.some d2 ⟨hx,⟨hi.1,hi2⟩,.inr ⟨h5,rfl,rfl⟩,by show l.length<=3;omega,λy hy=>(d5 y hy).1,λ_ y hy=>(d5 y hy).2⟩
def vl (e:tk):Option tk:=cond e.2.2.2.2 (some e) (cond (decide (e.2.2.2.1>=4)) none (some (e.1,e.2.1,e.2.2.1,te (e.2.2.2.1+1),e.2.2.2.2)))
theorem Rj {l:List tk} (hn:l.length<=1000):iB l=some (l.filterMap vl):=by
 unfold iB;obtain⟨v,e1,rfl⟩:=tI (step:=λz:Int×List tk=>cW l z.1 z.2) (λk z=>z=((k:Int),(l.take k).filterMap vl)) l.length (λv=>v=l.filterMap vl)
  (λk z hk e=>by
   subst e;refine .inl ⟨_,?_,rfl⟩;have hfl:((l.take k).filterMap vl).length<=k:=Nat.le_trans (List.length_filterMap_le _ _) (by rw[length_take];omega)
   have t1:l.take (k+1)=l.take k++[l[k]]:=by rw[take_add_one,List.getElem?_eq_getElem hk];rfl
   have t2:(l.take (k+1)).filterMap vl=(l.take k).filterMap vl++(match vl l[k]with|some y=>[y]|none=>[]):=by
    rw[t1,List.filterMap_append]
    congr 1
    cases hq:vl l[k]with
    | none=>rw[List.filterMap_cons_none hq];rfl
    | some y=>rw[List.filterMap_cons_some hq];rfl
   have ha:∀y:tk,tJ ((l.take k).filterMap vl) [y]=some ((l.take k).filterMap vl++[y]):=λy=>tn (by show _+1<=_;omega);show cW l (k:Int) _=_
   unfold cW;rw[u0 (by omega),cT,tE hk,an,tz (by omega),t2];cases hs:l[k].2.2.2.2 with
   | true =>
    have hq:vl l[k]=some l[k]:=by unfold vl;rw[hs];rfl
    rw[hq];simp only[Bool.not_true,cF,cT,ha,an]
   | false =>
    simp only[Bool.not_false,cT,cF];cases h4:decide (l[k].2.2.2.1>=4)with
    | true =>
     have hq:vl l[k]=none:=by unfold vl;rw[hs,h4];rfl
     rw[hq];simp only[cT,append_nil]
    | false =>
     have hq:vl l[k]=some (l[k].1,l[k].2.1,l[k].2.2.1,te (l[k].2.2.2.1+1),false):=by unfold vl;rw[hs,h4];rfl
     rw[hq];simp only[cF,ha,an])
  (λz e=>by
   subst e;refine⟨_,?_,rfl⟩;show cW l (l.length:Int) _=_
   unfold cW;rw[tW (by omega),cF,take_length]) (x:=(0,[])) rfl
 have e1:loop (λz=>cW l z.1 z.2) (0,[])=some (l.filterMap vl):=e1;rw[e1,an]
theorem EW {e y:tk} (h:wv e=true) (hy:vl e=some y):wv y=true/\y.1=e.1/\y.2.1=e.2.1:=by
 unfold vl at hy;cases hs:e.2.2.2.2 with
 | true=>rw[hs,cT]at hy;cases hy;exact⟨h,rfl,rfl⟩
 | false =>
  rw[hs,cF]at hy;by_cases h4:e.2.2.2.1>=4
  · rw[dT h4,cT]at hy;cases hy
  · rw[dF h4,cF]at hy;cases hy;unfold wv at h ⊢;simp only[aT]at h;obtain⟨f1,f2,f3,f4,f5⟩:=h;obtain⟨g1,g2⟩:=ur f4;refine⟨?_,rfl,rfl⟩;show (tj e.1 1 99&&(tj e.2.1 1 9999&&(tj e.2.2.1 0 7&&(tj (te (e.2.2.2.1+1)) 0 4&&(!false||_)))))=true
    rw[f1,f2,f3,tM (by omega) (by omega),z7 (by omega) (by omega)];rfl
theorem P5 {l:List tk} (h:FB l):FB (l.filterMap vl):=by
 refine⟨λx hx=>?_,?_,Nat.le_trans (List.length_filterMap_le _ _) h.n⟩
 · obtain⟨e,he,hy⟩:=List.mem_filterMap.1 hx;exact (EW (h.e e he) hy).1
 · refine List.pairwise_filterMap.2 ?_;refine List.Pairwise.imp_of_mem ?_ h.o;intro a b ha hb hab x hx y hy;obtain⟨_,a1,a2⟩:=EW (h.e a ha) hx;obtain⟨_,b1,b2⟩:=EW (h.e b hb) hy;unfold lt at hab ⊢;rw[a1,a2,b1,b2];exact hab
def Hk (b:td):td:=(b.1,b.2.1,b.2.2.1,b.2.2.2.1.filterMap vl,b.2.2.2.2.1,b.2.2.2.2.2.1,yL b.2.2.2.2.2.2.1,b.2.2.2.2.2.2.2.1,b.2.2.2.2.2.2.2.2.1,b.2.2.2.2.2.2.2.2.2.1,b.2.2.2.2.2.2.2.2.2.2)
noncomputable def xY (b:td):td:=(bg b).getD b
noncomputable def B7 (b:td):td:=xY (Hk b)
theorem Qk {b:td} (h:xS b) (hv:wF (b.2.2.2.2.1,b.2.2.2.2.2.1) (b.2.2.1.length:Int)=true):bg b=some (xY b)/\uv (xY b)/\(xY b).1=b.1/\(xY b).2.1=b.2.1/\(xY b).2.2.1=b.2.2.1/\(xY b).2.2.2.2.2.2.1=b.2.2.2.2.2.2.1/\(xY b).2.2.2.2.2.2.2.1=b.2.2.2.2.2.2.2.1/\(xY b).2.2.2.2.2.2.2.2.1=b.2.2.2.2.2.2.2.2.1/\(xY b).2.2.2.2.2.2.2.2.2.1=b.2.2.2.2.2.2.2.2.2.1/\(xY b).2.2.2.2.2.2.2.2.2.2=yL b.2.2.2.2.2.2.2.2.2.2:=by
 obtain⟨r,r1,r2,r3,r4,r5,r6,q1,q2,q3,q4,q5,q6,q7⟩:=NF h;have e:xY b=r:=by unfold xY;rw[r1];rfl
 rw[e];have hok:ue r=true:=r3.ok (by rw[r4,r5,r6];exact hv)
 refine⟨r1,C7 (Lw r3 r3.le) hok,q1,q2,r4,q3,q4,q5,q6,?_⟩;rw[Ep]at q7;exact (Option.some.inj q7).symm
theorem Ih {b:td} (h:uv b):xS (Hk b):=by
 have s:=h.sok;refine⟨s.id,s.name,s.n1,s.n6,s.p,(P5 (Hs s.f)).ok,?_,s.q,s.v,s.s,s.i,s.h⟩;obtain⟨h1,h2,h3,h4,h5⟩:=z0 (zO h.ok).1;unfold vM;simp only[aT];exact⟨Eq h1,h2,h3,h4,h5⟩
theorem Ql {b:td} (h:uv b):ll b=some (B7 b)/\uv (B7 b)/\(B7 b).2.1=b.2.1/\(B7 b).2.2.2.2.2.2.2.1=b.2.2.2.2.2.2.2.1/\(B7 b).2.2.2.2.2.2.2.2.1=b.2.2.2.2.2.2.2.2.1/\(B7 b).2.2.2.2.2.2.2.2.2.2=yL b.2.2.2.2.2.2.2.2.2.2:=by
 obtain⟨t1,t2,t3,t4,t5,t6,t7,t8,t9,t10⟩:=Qk (Ih h) h.v;have hf:=Hs h.f
 unfold ll;rw[xr h.le,an,Ao h.w,an,h.ok,cT,Ep,an,Rj (by have:=hf.n;omega),an];have t1':bg (b.1,b.2.1,b.2.2.1,b.2.2.2.1.filterMap vl,b.2.2.2.2.1,b.2.2.2.2.2.1,yL b.2.2.2.2.2.2.1,b.2.2.2.2.2.2.2.1,b.2.2.2.2.2.2.2.2.1,b.2.2.2.2.2.2.2.2.2.1,b.2.2.2.2.2.2.2.2.2.2)=some (xY (Hk b)):=t1
 rw[t1',an];exact⟨rfl,t2,t4,t7,t8,t10⟩

theorem vz {α β:Type} {o:Option α} {a:α} {k:α->Option β} {r:Option β} (h:o=some a) (hk:k a=r):o.bind k=r:=by rw[h];exact hk
theorem Qm {a:tB} (h:uA a) {b:td} (hb:uv b):uA (uT b (aW a) (th a) (uE a) (tV a)):=⟨hb,h.w,h.n,h.lo,h.la,h.ids,h.up,h.j⟩
theorem yh {b:List Int} (t:Int) {body:List Int} (hb:b.length<=1200) (hn:body.length<=M):ar b t body=some (b++if tj t 0 255=true/\body.length<=250 then ui t body else []):=by
 have hM:M=1048576:=rfl;unfold ar;rw[wK (by omega),an,yw,an];cases hp:tj t 0 255 with
 | false=>rw[Bool.not_false,cT,an,cT,if_neg (λh=>by cases h.1),append_nil]
 | true =>
  rw[Bool.not_true,cF,an];by_cases h250:body.length<=250
  · have hw:IntKind.u8.wrap t=t:=by obtain⟨a,c⟩:=ur hp;rw[w8];omega
    have hl:IntKind.u8.wrap ((body.length:Int))=(body.length:Int):=by rw[w8];omega
    rw[dF (by omega),cF,hw,hl,if_pos ⟨rfl,h250⟩,tn (by show b.length+1<=_;omega),an];by_cases h127:(body.length:Int)>127
    · rw[dT h127,cT,tn (by rw[length_append];show b.length+1+1<=_;omega),an,tn (by simp only[length_append,length_singleton];omega),an,tn (by simp only[length_append,length_singleton];omega),an];unfold ui;rw[if_pos (by omega)];simp
    · rw[dF h127,cF,tn (by simp only[length_append,length_singleton];omega),an,tn (by simp only[length_append,length_singleton];omega),an];unfold ui;rw[if_neg (by omega)];simp
  · rw[dT (by omega),cT,if_neg (λh=>h250 h.2),append_nil]
theorem Jc {o:List Int} (h:wG o=true):eT o=some (u7 o):=by
 obtain⟨o1,o2,o3⟩:=yi h;have hM:M=1048576:=rfl
 unfold eT;rw[Ir,Dn (by omega),an,h,Bool.not_true,cF];obtain⟨v,e1,rfl⟩:=tI (step:=λz:Int×List Int=>cC o z.1 z.2) (λk z=>z=((k:Int),u7 (o.take k))) o.length (λv=>v=u7 o)
  (λk z hk e=>by
   subst e;have hx:=o3 _ (getElem_mem hk)
   have hl:(u7 (o.take k)).length<=3*(o.take k).length:=za λx hx=>(o3 x (mem_of_mem_take hx)).2;rw[length_take]at hl;have hg:=Gz o[k]
   refine .inl ⟨_,?_,rfl⟩;show cC o (k:Int) _=_
   unfold cC;rw[u0 (by omega),cT,tE hk,an,N9 ⟨hx.1,by omega⟩,an,tn (by show (u7 (o.take k)).length+(grp o[k]).length<=_;omega),an,tz (by omega),take_add_one,List.getElem?_eq_getElem hk];unfold u7;rw[List.flatMap_append];simp)
  (λz e=>by
   subst e;refine⟨_,?_,rfl⟩;show cC o (o.length:Int) _=_
   unfold cC;rw[tW (by omega),cF,take_length]) (x:=(0,[])) rfl
 have e1:loop (λz=>cC o z.1 z.2) (0,([]:List Int))=some (u7 o):=e1;rw[e1];rfl
theorem Og {b:List Int} (hb:b.length<=1000) {v:wQ} (h:wZ v=true):fU b v=some (b++ui v.1 (vI v)):=by
 have hM:M=1048576:=rfl;obtain⟨l1,l2⟩:=BL h;have hk:tj v.1 0 255=true:=by
  unfold wZ at h;by_cases c1:(v.1==5||(v.1==128||v.1==130))=true
  · simp only[Bool.or_eq_true,beq_iff_eq]at c1;rcases c1 with c|c|c<;>rw[c]<;>rfl
  · rw[show (v.1==5||(v.1==128||v.1==130))=false by simpa using c1,cF]at h;by_cases c2:v.1=2
    · rw[c2];rfl
    · rw[beq_eq_false_iff_ne.2 c2,cF]at h;by_cases c4:v.1=4
      · rw[c4];rfl
      · rw[beq_eq_false_iff_ne.2 c4,cF]at h;by_cases c6:v.1=6
        · rw[c6];rfl
        · rw[beq_eq_false_iff_ne.2 c6,cF]at h;cases h
 have fin:∀body,vI v=body->ar b v.1 body=some (b++ui v.1 (vI v)):=λbody e=>by
  subst e;rw[yh _ (by omega) (by omega),if_pos ⟨hk,by omega⟩]
 have ho6:v.2.2.2.length<=M:=by
  unfold wZ at h;by_cases c6:v.1=6
  · rw[c6]at h;simp only[show ((6:Int)==5)=false from rfl,show ((6:Int)==128)=false from rfl,show ((6:Int)==130)=false from rfl,Bool.or_self,cF,show ((6:Int)==2)=false from rfl,show ((6:Int)==4)=false from rfl,show ((6:Int)==6)=true from rfl,cT,aT]at h;have:=GB h.1
    omega
  · have:v.2.2.2.length=0:=by
     revert h
     cases (v.1==5||(v.1==128||v.1==130))with
     | true=>intro h;simp only[cT,aT,beq_iff_eq]at h;omega
     | false =>
      rw[cF];cases (v.1==2)with
      | true=>intro h;simp only[cT,aT,beq_iff_eq]at h;omega
      | false =>
       rw[cF];cases (v.1==4)with
       | true=>intro h;simp only[cT,aT,beq_iff_eq]at h;omega
       | false=>intro h;rw[cF,beq_eq_false_iff_ne.2 c6]at h;cases h
    omega
 unfold fU;rw[Gw ho6,an,h,Bool.not_true,cF];by_cases h2:v.1=2
 · have e:vI v=uF v.2.1:=by unfold vI;rw[beq_iff_eq.2 h2];rfl
   have hr:-2147483648<=v.2.1/\v.2.1<=2147483647:=by
    unfold wZ at h;rw[h2]at h;simp only[show ((2:Int)==5)=false from rfl,show ((2:Int)==128)=false from rfl,show ((2:Int)==130)=false from rfl,Bool.or_self,cF,show ((2:Int)==2)=true from rfl,cT,aT]at h;exact ur h.1
   rw[beq_iff_eq.2 h2,cT,Bi,an,zV hr,fin _ e];rfl
 rw[beq_eq_false_iff_ne.2 h2,cF];by_cases h4:v.1=4
 · have e:vI v=vU v.2.2.1:=by unfold vI;rw[beq_eq_false_iff_ne.2 h2,beq_iff_eq.2 h4];rfl
   rw[beq_iff_eq.2 h4,cT,fin _ e];rfl
 rw[beq_eq_false_iff_ne.2 h4,cF];by_cases h6:v.1=6
 · have e:vI v=u7 v.2.2.2:=by unfold vI;rw[beq_eq_false_iff_ne.2 h2,beq_eq_false_iff_ne.2 h4,beq_iff_eq.2 h6];rfl
   have ho:wG v.2.2.2=true:=by
    unfold wZ at h;rw[h6]at h;simp only[show ((6:Int)==5)=false from rfl,show ((6:Int)==128)=false from rfl,show ((6:Int)==130)=false from rfl,Bool.or_self,cF,show ((6:Int)==2)=false from rfl,show ((6:Int)==4)=false from rfl,show ((6:Int)==6)=true from rfl,cT,aT]at h;exact h.1
   rw[beq_iff_eq.2 h6,cT,Jc ho,an,fin _ e];rfl
 · have e:vI v=[]:=by unfold vI;rw[beq_eq_false_iff_ne.2 h2,beq_eq_false_iff_ne.2 h4,beq_eq_false_iff_ne.2 h6];rfl
   rw[beq_eq_false_iff_ne.2 h6,cF,fin _ e];rfl
theorem P6 {l:List tg} (hx:∀x∈l,xj x=true) (hn:l.length<=10):fV l=some (ug l):=by
 have hM:M=1048576:=rfl;have hlen:∀k,(ug (l.take k)).length<=110*k:=λk=>by
  induction k with
  | zero=>simp[ug]
  | succ k ih =>
   rw[take_add_one];unfold ug at ih ⊢;rw[List.flatMap_append,length_append];cases hk:l[k]? with
   | none=>show (List.flatMap yO (l.take k)).length+0<=_;omega
   | some x =>
    have:=(AN (hx x (List.mem_of_getElem? hk))).2;show (List.flatMap yO (l.take k)).length+(yO x++[]).length<=_
    rw[append_nil];omega
 unfold fV;obtain⟨v,e1,rfl⟩:=tI (step:=λz:Int×List Int=>cD l z.1 z.2) (λk z=>z=((k:Int),ug (l.take k))) l.length (λv=>v=ug l)
  (λk z hk e=>by
   subst e;have hxk:=hx _ (getElem_mem hk)
   have hl:=hlen k;obtain⟨b1,b2⟩:=AN hxk;have hxk':=hxk
   unfold xj at hxk';rw[aT]at hxk';obtain⟨o1,o2,o3⟩:=yi hxk'.1;have ho:=za (o:=l[k].1) λy hy=>(o3 y hy).2
   have ht:=uY 6 (body:=u7 l[k].1);refine .inl ⟨_,?_,rfl⟩;show cD l (k:Int) _=_
   unfold cD;rw[u0 (by omega),cT,tE hk,an,Jc hxk'.1,an,yh _ (by simp) (by omega),if_pos ⟨by decide,by omega⟩,an,an,nil_append,Og (by omega) hxk'.2,an,yh _ (by show (ug (l.take k)).length<=1200;omega) (by show (AU l[k]).length<=_;omega),if_pos ⟨by decide,by show (AU l[k]).length<=250;omega⟩,an,tz (by omega),take_add_one,List.getElem?_eq_getElem hk];unfold ug;rw[List.flatMap_append];simp[yO,AU])
  (λz e=>by
   subst e;refine⟨_,?_,rfl⟩;show cD l (l.length:Int) _=_
   unfold cD;rw[tW (by omega),cF,take_length]) (x:=(0,[])) rfl
 have e1:loop (λz=>cD l z.1 z.2) (0,([]:List Int))=some (ug l):=e1;rw[e1];rfl
theorem Jd {p:tQ} (hp:vQ M p):eU p=some (yf p):=by
 have hM:M=1048576:=rfl;unfold eU yf;rw[Kx hp,an];cases hk:vb p with
 | false=>rw[Bool.not_false,cT,if_neg (λh=>by cases h.1)]
 | true =>
  obtain⟨k1,k2,k3,k4,k5,k6⟩:=wi hk;have i1:=vW p.2.1
  have i2:=vW p.2.2.1;have i3:=vW p.2.2.2.1
  have t1:=uY 2 (body:=uF p.2.1);have t2:=uY 2 (body:=uF p.2.2.1)
  have t3:=uY 2 (body:=uF p.2.2.2.1);rw[Bool.not_true,cF];unfold ip;rw[P6 k1 k2,an];by_cases ha:(ug p.2.2.2.2).length<=250
  · rw[dF (by omega),cF,Bi,an,zV k4,yh _ (by simp) (by omega),if_pos ⟨by decide,by omega⟩,an,Bi,an,zV (by omega),yh _ (by simp only[nil_append];omega) (by omega),if_pos ⟨by decide,by omega⟩,an,Bi,an,zV (by omega),yh _ (by simp only[nil_append,length_append];omega) (by omega),if_pos ⟨by decide,by omega⟩,an,yh _ (by simp only[nil_append,length_append];omega) (by omega),if_pos ⟨by decide,ha⟩,an];have eb:([]++ui 2 (uF p.2.1)++ui 2 (uF p.2.2.1)++ui 2 (uF p.2.2.2.1)++ui 48 (ug p.2.2.2.2))=wH p:=by unfold wH;simp
    rw[eb];have t4:=uY 48 (body:=ug p.2.2.2.2)
    have hbl:(wH p).length<=400:=by unfold wH;simp only[length_append];omega
    by_cases hb:(wH p).length<=250
    · simp only[an,dT (show ((wH p).length:Int)<=250 by omega),Bool.not_true,cF];rw[yh _ (by simp) (by omega),if_pos ⟨k3,hb⟩,if_pos ⟨trivial,ha,hb⟩,an,nil_append]
    · simp only[an,dF (show ¬((wH p).length:Int)<=250 by omega),Bool.not_false,cT];rw[if_neg (λh=>hb h.2.2)]
  · rw[dT (by omega),cT,an,Bool.not_false,cT,if_neg (λh=>ha h.2.1)]
theorem zQ (w:List UInt8) {p:tQ} (hp:vQ M p):cO w p=some (E2 w p):=by
 have hM:M=1048576:=rfl;have hpl:=O7 p
 unfold cO E2;rw[Jd hp,an];by_cases h0:(yf p).length=0
 · rw[if_pos (Or.inl h0),show ((((yf p).length:Nat):Int)==0)=true by rw[h0];rfl];rfl
 · rw[beq_eq_false_iff_ne.2 (show (((yf p).length:Nat):Int)≠0 by omega),cF,an];by_cases hw:20<w.length
   · rw[if_pos (Or.inr hw),dT (by omega)];rfl
   · have hwl:(vU w).length=w.length:=by unfold vU;rw[length_map]
     have hi1:=vW 1;have ht1:=uY 2 (body:=uF 1)
     have ht2:=uY 4 (body:=vU w);have hhd:(BF w).length<=40:=by unfold BF;rw[length_append];omega
     rw[if_neg (by omega),dF (by omega),cF,Bi,an,zV (by omega),yh _ (by simp) (by omega),if_pos ⟨by decide,by omega⟩,an,nil_append,yh _ (by omega) (by omega),if_pos ⟨by decide,by omega⟩,an];show ((tJ (BF w) (yf p)).bind _)=_
     rw[tn (by omega),an];by_cases hb:(BF w++yf p).length<=250
     · rw[dF (by omega),cF,yh _ (by simp) (by omega),if_pos ⟨by decide,hb⟩,if_pos hb];rfl
     · rw[dT (by omega),cT,if_neg hb]

def Je (m:List Int):Prop:=vd m/\m.length<=1000
theorem LA {c:tD} (h:CW c) {m:List Int} (hm:vd m) (hl:m.length<=900):Dr Je (gu c m):=by
 have no:∀c,CW c->Dr Je (some (c,m)):=λc hc=>Dr.some hc ⟨hm,by omega⟩;unfold gu;by_cases h0:(m.length:Int)=0
 · rw[beq_iff_eq.2 h0,cT];exact no c h
 rw[beq_eq_false_iff_ne.2 h0,cF];refine Dr.bind (vi h 5) λc t hc _=>?_;refine Dr.cond ?_ (Dr.cond ?_ (Dr.cond ?_ (no c hc)))
 · obtain⟨c1,k,e1,w1,hk⟩:=vh hc (n:=m.length) (by omega);rw[e1,an];refine Dr.bind (AD w1 (by decide)) λc x hc hx=>?_;rw[wq hk,an,List.getElem?_eq_getElem hk,an];refine Dr.some hc ⟨λy hy=>?_,by rw[length_set];omega⟩;rcases List.mem_or_eq_of_mem_set hy with hy|rfl
   · exact hm y hy
   · show 0<=IntKind.u8.wrap x/\IntKind.u8.wrap x<=255;rw[w8];omega
 · rw[tn (by show m.length+1<=_;omega),an];refine Dr.some hc ⟨zP hm (λy hy=>by rw[mem_singleton.1 hy];decide),by rw[length_append];show m.length+1<=1000;omega⟩
 · obtain⟨c1,k,e1,w1,hk⟩:=vh hc (n:=m.length) (by omega);have hx:vj m.length 0 (k:Int)=some (0,k):=As (a:=0) (Nat.zero_le _) (by omega)
   rw[e1,an];simp only;rw[hx,an];refine Dr.some w1 ⟨λy hy=>hm y (mem_of_mem_take (mem_of_mem_drop hy)),?_⟩;rw[length_drop,length_take];show min k m.length-0<=1000;omega
theorem MD {c:tD} (h:CW c) {n:Nat} (hn:n<=1000) (k i a b:Int):Dr (λp:tQ=>p.2.2.2.2.length=n/\∀x∈p.2.2.2.2,z8 x) ((loop (λz:Int×List Int×Int×Int×Int×Int×Int×Int×List tg=>cM z.1 z.2.1 z.2.2.1 z.2.2.2.1 z.2.2.2.2.1 z.2.2.2.2.2.1 z.2.2.2.2.2.2.1 z.2.2.2.2.2.2.2.1 z.2.2.2.2.2.2.2.2) ((n:Int),c.1,c.2.1,c.2.2,k,i,a,b,[])).bind λd=>some ((d.1,d.2.1,d.2.2.1),d.2.2.2)):=by
 obtain⟨d,d1,d2,d3,d4⟩:=tI (step:=λz:Int×List Int×Int×Int×Int×Int×Int×Int×List tg=>cM z.1 z.2.1 z.2.2.1 z.2.2.2.1 z.2.2.2.2.1 z.2.2.2.2.2.1 z.2.2.2.2.2.2.1 z.2.2.2.2.2.2.2.1 z.2.2.2.2.2.2.2.2)
  (λj z=>z.1=((n-j:Nat):Int)/\CW (z.2.1,z.2.2.1,z.2.2.2.1)/\z.2.2.2.2.2.2.2.2.length=j/\∀y∈z.2.2.2.2.2.2.2.2,z8 y) n
  (λd=>CW (d.1,d.2.1,d.2.2.1)/\d.2.2.2.2.2.2.2.length=n/\∀y∈d.2.2.2.2.2.2.2,z8 y)
  (λj z hj ⟨z1,z2,z3,z4⟩=>by
   obtain⟨q,c0,c1,c2,r0,r1,r2,r3,out⟩:=z;simp only at z1 z2 z3 z4;subst z1 z3;obtain⟨c',o,x1,x2,x3⟩:=KD z2;obtain⟨c'',v,y1,y2,y3⟩:=KE x2;refine .inl ⟨_,by
    show cM _ _ _ _ _ _ _ _ _=_;unfold cM;rw[dT (show ((n-out.length:Nat):Int)>0 by omega),cT,x1,an,y1,an,tn (by show _+1<=_;omega),an],?_,y2,by simp,?_⟩
   · show te (((n-out.length:Nat):Int)-1)=_;rw[tM (by omega) (by omega)];omega
   · intro y hy;rcases mem_append.1 hy with hy|hy
     · exact z4 y hy
     · rw[mem_singleton]at hy;subst hy;have:=x3.n10
       exact⟨by show o.length<=1000;omega,y3⟩)
  (λz ⟨z1,z2,z3,z4⟩=>by
   obtain⟨q,c0,c1,c2,r0,r1,r2,r3,out⟩:=z;simp only at z1 z2 z3 z4;rw[Nat.sub_self]at z1;subst z1;refine⟨(c0,c1,c2,r0,r1,r2,r3,out),?_,z2,z3,z4⟩;show cM _ _ _ _ _ _ _ _ _=_
   unfold cM;rw[dF (show ¬((0:Nat):Int)>0 by decide),cF]) (x:=((n:Int),c.1,c.2.1,c.2.2,k,i,a,b,[])) ⟨rfl,h,rfl,by simp⟩
 refine⟨_,_,vz d1 rfl,d2,d3,d4⟩
theorem ME {c:tD} (h:CW c) {n:Nat} (hn:n<=1000) (k i a b:Int):Dr (λp:tQ=>p.2.2.2.2.length=n/\∀x∈p.2.2.2.2,z8 x) ((loop (λz:Int×List Int×Int×Int×Int×Int×Int×Int×List tg=>cN z.1 z.2.1 z.2.2.1 z.2.2.2.1 z.2.2.2.2.1 z.2.2.2.2.2.1 z.2.2.2.2.2.2.1 z.2.2.2.2.2.2.2.1 z.2.2.2.2.2.2.2.2) ((n:Int),c.1,c.2.1,c.2.2,k,i,a,b,[])).bind λd=>some ((d.1,d.2.1,d.2.2.1),d.2.2.2)):=by
 obtain⟨d,d1,d2,d3,d4⟩:=tI (step:=λz:Int×List Int×Int×Int×Int×Int×Int×Int×List tg=>cN z.1 z.2.1 z.2.2.1 z.2.2.2.1 z.2.2.2.2.1 z.2.2.2.2.2.1 z.2.2.2.2.2.2.1 z.2.2.2.2.2.2.2.1 z.2.2.2.2.2.2.2.2)
  (λj z=>z.1=((n-j:Nat):Int)/\CW (z.2.1,z.2.2.1,z.2.2.2.1)/\z.2.2.2.2.2.2.2.2.length=j/\∀y∈z.2.2.2.2.2.2.2.2,z8 y) n
  (λd=>CW (d.1,d.2.1,d.2.2.1)/\d.2.2.2.2.2.2.2.length=n/\∀y∈d.2.2.2.2.2.2.2,z8 y)
  (λj z hj ⟨z1,z2,z3,z4⟩=>by
   obtain⟨q,c0,c1,c2,r0,r1,r2,r3,out⟩:=z;simp only at z1 z2 z3 z4;subst z1 z3;obtain⟨c',o,x1,x2,x3⟩:=KD z2;obtain⟨c'',v,y1,y2,y3⟩:=KE x2;refine .inl ⟨_,by
    show cN _ _ _ _ _ _ _ _ _=_;unfold cN;rw[dT (show ((n-out.length:Nat):Int)>0 by omega),cT,x1,an,y1,an,tn (by show _+1<=_;omega),an],?_,y2,by simp,?_⟩
   · show te (((n-out.length:Nat):Int)-1)=_;rw[tM (by omega) (by omega)];omega
   · intro y hy;rcases mem_append.1 hy with hy|hy
     · exact z4 y hy
     · rw[mem_singleton]at hy;subst hy;have:=x3.n10
       exact⟨by show o.length<=1000;omega,y3⟩)
  (λz ⟨z1,z2,z3,z4⟩=>by
   obtain⟨q,c0,c1,c2,r0,r1,r2,r3,out⟩:=z;simp only at z1 z2 z3 z4;rw[Nat.sub_self]at z1;subst z1;refine⟨(c0,c1,c2,r0,r1,r2,r3,out),?_,z2,z3,z4⟩;show cN _ _ _ _ _ _ _ _ _=_
   unfold cN;rw[dF (show ¬((0:Nat):Int)>0 by decide),cF]) (x:=((n:Int),c.1,c.2.1,c.2.2,k,i,a,b,[])) ⟨rfl,h,rfl,by simp⟩
 refine⟨_,_,vz d1 rfl,d2,d3,d4⟩
theorem Ii {c:tD} (h:CW c):Dr (λp:tQ=>vQ M p) (gt c):=by
 have hM:M=1048576:=rfl;have le:∀{n:Nat},n<=3->∀p:tQ,(p.2.2.2.2.length=n/\∀x∈p.2.2.2.2,z8 x)->vQ M p:=λhn p hp=>⟨by show p.2.2.2.2.length<=1048576;omega,λx hx=>(hp.2 x hx).le⟩
 have up:∀{n:Nat} {o:Option (tD×tQ)},n<=3->Dr (λp:tQ=>p.2.2.2.2.length=n/\∀x∈p.2.2.2.2,z8 x) o->Dr (λp:tQ=>vQ M p) o:=λhn ⟨c,p,e,w,hp⟩=>⟨c,p,e,w,le hn p hp⟩;unfold gt;refine Dr.bind (AD h (by decide)) λc k hc _=>?_;refine Dr.bind (NJ hc) λc x hc _=>?_;obtain⟨r,hr⟩:=NK x;rw[hr,an];have hkk:∃t,(cond (k==162) (some true) (some (k==165)))=some t:=by cases k==162<;>exact⟨_,rfl⟩
 obtain⟨t,ht⟩:=hkk;simp only;rw[ht,an];refine Dr.cond ?_ ?_
 · refine Dr.bind (vi hc 4) λc a hc _=>?_;refine Dr.bind (vi hc 5) λc b hc _=>?_;obtain⟨c1,n,e1,w1,hn⟩:=vh hc (n:=4) (by decide);have e1':aa c 4=some (c1,(n:Int)):=e1
   simp only;rw[e1',an];exact up (by omega) (MD w1 (by omega) k r a b)
 · obtain⟨c1,n,e1,w1,hn⟩:=vh hc (n:=4) (by decide);have e1':aa c 4=some (c1,(n:Int)):=e1
   rw[e1',an];exact up (by omega) (ME w1 (by omega) k r 0 0)
theorem AK (w:List UInt8) (p:tQ):Je (E2 w p)/\(E2 w p).length<=900:=by
 have h:(E2 w p).length<=300:=by
  unfold E2;split
  · simp
  · split
    · have:=uY 48 (body:=BF w++yf p);omega
    · simp
 exact⟨⟨Ob w p,by omega⟩,by omega⟩
theorem Qn {c:tD} (h:CW c) {b:td} (hb:uv b):Dr Je (bH c b):=by
 have hq:∀c,CW c->Dr BG (bB c b):=λc hc=>Kb hc hb.w λc hc=>by obtain⟨c',o,e,w,h⟩:=Kw hc hb;exact⟨c',o,e,w,h⟩
 unfold bH;refine Dr.bind (vi h 10) λc t hc _=>?_;refine Dr.cond ?_ (Dr.cond ?_ (Dr.cond ?_ ?_))
 · refine Dr.bind (hq c hc) λc p hc hp=>?_;simp only;rw[zQ _ hp.le,an];obtain⟨m1,m2⟩:=AK [121,97,114,100] p;exact Dr.bind (LA hc m1.1 m2) λc m hc hm=>Dr.some hc hm
 · refine Dr.bind (hq c hc) λc p hc hp=>?_;simp only;rw[zQ _ hp.le,an];exact Dr.some hc (AK _ p).1
 · refine Dr.bind (Ii hc) λc p hc hp=>?_;simp only;rw[zQ _ hp,an];exact Dr.some hc (AK _ p).1
 · refine Dr.bind (hq c hc) λc p hc hp=>?_;simp only;rw[zQ _ hp.le,an];exact Dr.some hc (AK _ p).1
theorem yK {code:List Int} (h:code.length<=1048576):∃k:Nat,aI code 36=some (k:Int)/\k<=36:=by
 unfold aI;have e:te (3+(te ((code.length:Int).tdiv 12)))=3+(code.length:Int)/12:=by
  rw[Int.tdiv_eq_ediv_of_nonneg (by omega),tM (n:=(code.length:Int)/12) (by omega) (by omega),tM (by omega) (by omega)]
 simp only[e];by_cases hk:3+(code.length:Int)/12>36
 · rw[dT hk,cT];exact⟨36,rfl,Nat.le_refl _⟩
 · rw[dF hk,cF];exact⟨(3+(code.length:Int)/12).toNat,by rw[Int.toNat_of_nonneg (by omega)],by omega⟩
theorem Nq {α β:Type} (l:List α) (i:Int) (f:α->Option β):((ix l.length i).bind λj=>(l[j]?).bind f)=(at? l i).bind f:=by
 unfold ix at?;by_cases h0:0<=i
 · rw[if_pos h0,if_pos h0];by_cases h1:i<(l.length:Int)
   · rw[if_pos h1,an]
   · rw[if_neg h1,List.getElem?_eq_none (by omega)];rfl
 · rw[if_neg h0,if_neg h0];rfl
theorem P7:iv=fu:=rfl
theorem MF:cG=ay:=rfl
theorem Qo {b:td} (h:wY b) (o:List Int):gh b o=bz b o:=by
 unfold gh bz;rw[EY h];cases bO b with
 | none=>rfl
 | some l =>
  have hs:(λz:Int×Int×Int×List UInt8×List Int×List Int=>iw o l z.1 z.2.1 z.2.2.1 z.2.2.2.1 z.2.2.2.2.1 z.2.2.2.2.2)=λz=>cm o l z.1 z.2.1 z.2.2.1 z.2.2.2.1 z.2.2.2.2.1 z.2.2.2.2.2:=by
   funext z
   unfold iw cm;simp only[Nq,P7];cases at? l z.1<;>rfl
  rw[an,an,hs];unfold bh;simp only[Option.bind_assoc,an]
theorem Rk {b:td} (h:wY b) (o:List Int):gj b o=cl b o:=by
 unfold gj cl;rw[EY h];cases bO b with
 | none=>rfl
 | some l =>
  have hs:(λz:Int×Int×Int×List UInt8×List Int=>iy o l z.1 z.2.1 z.2.2.1 z.2.2.2.1 z.2.2.2.2)=λz=>bx o l z.1 z.2.1 z.2.2.1 z.2.2.2.1 z.2.2.2.2:=by
   funext z
   unfold iy bx;simp only[Nq,MF];cases at? l z.1<;>rfl
  rw[an,an,hs]
def Dg (b:td) (x:tg):Prop:=wG x.1=true/\(x.2.1=130->uR b x.1=x)
theorem LB {b:td} (h:uv b) {o:List Int} (ho:wG o=true):Dg b (uR b o):=by
 refine⟨wJ (CL h ho),λhk=>?_⟩;obtain⟨_,h1⟩:=Eo h (o:=o) (by have:=xU ho;omega);rcases h1 with ⟨h1,_⟩|⟨h1,h2⟩
 · exfalso;have hv:∀v:wQ,Vl v->v.1≠130:=λv hv=>by cases hv<;>simp
   exact hv _ (Aq h _ h1).2 hk
 · rw[h1];exact h1
theorem FT {b:td} {o:List Int} (ho:wG o=true):Dg b (o,5,0,[],[]):=⟨ho,λhk=>by have hk:(5:Int)=130:=hk;omega⟩
noncomputable def uD (b:td) (l:List tg):List tg:=l.map λx=>uR b x.1
theorem LC {b:td} {x:tg} (h:Dg b x):(cond (x.2.1==130) x (uR b x.1))=uR b x.1:=by
 cases hk:x.2.1==130 with
 | true=>rw[cT];exact (h.2 (by simpa using hk)).symm
 | false=>rfl
noncomputable def xZ (b:td):Nat->List tg×List tg->List tg×List tg
 | 0,s=>s
 | n+1,s=>if 0<s.2.length/\s.1.length<10 then xZ b n (s.1++uD b s.2,uD b s.2)else s
theorem Kc {b:td}:∀(n:Nat) {s:List tg×List tg},10<=s.1.length->xZ b n s=s
 | 0,s,_=>rfl
 | n+1,s,h=>if_neg (by omega)
theorem LD {b:td}:∀(n:Nat) {s:List tg×List (List Int)},10<=s.1.length->An b n s=s
 | 0,s,_=>rfl
 | n+1,s,h=>if_neg (by omega)
theorem FU {b:td}:∀(n:Nat) (out T:List tg),out.length<=10->(An b n (out,T.map λx=>x.1)).1=(xZ b n (out,T)).1.take 10
 | 0,out,T,h=>(take_of_length_le h).symm
 | n+1,out,T,h=>by
  by_cases hc:0<T.length/\out.length<10
  · have e1:An b (n+1) (out,T.map λx=>x.1)=An b n (AW b (out,T.map λx=>x.1)):=if_pos (by simpa using hc);have e2:xZ b (n+1) (out,T)=xZ b n (out++uD b T,uD b T):=if_pos hc
    rw[e1,e2];by_cases hle:out.length+T.length<=10
    · have hm:yG (out,T.map λx=>x.1)=T.length:=by unfold yG;simp only[length_map];omega
      have e3:AW b (out,T.map λx=>x.1)=(out++uD b T,(uD b T).map λx=>x.1):=by
       unfold AW uD;simp only[hm];rw[take_of_length_le (by simp),List.drop_of_length_le (by simp),append_nil,map_map,map_map,map_map];rfl
      rw[e3];exact FU n _ _ (by rw[length_append];unfold uD;rw[length_map];omega)
    · have hm:yG (out,T.map λx=>x.1)=10-out.length:=by unfold yG;simp only[length_map];omega
      have hl1:(AW b (out,T.map λx=>x.1)).1.length=10:=by
       show (out++((T.map λx=>x.1).take (yG (out,T.map λx=>x.1))).map (uR b)).length=10;rw[hm,length_append,length_map,length_take,length_map];omega
      rw[LD n (by omega),Kc n (by show 10<=(out++uD b T).length;rw[length_append];unfold uD;rw[length_map];omega)];show out++((T.map λx=>x.1).take (yG (out,T.map λx=>x.1))).map (uR b)=(out++uD b T).take 10
      rw[hm,List.take_append,take_of_length_le h];unfold uD;rw[←List.map_take,←List.map_take,map_map];rfl
  · have e1:An b (n+1) (out,T.map λx=>x.1)=(out,T.map λx=>x.1):=if_neg (by simpa using hc);have e2:xZ b (n+1) (out,T)=(out,T):=if_neg hc
    rw[e1,e2];exact (take_of_length_le h).symm

theorem Kd {p:tQ} (hp:vQ M p):dJ p=some (uM p):=by
 unfold dJ;rw[Jd hp,an];show (ae ((yf p).length:Int) 1 120).bind _=_
 rw[yw,an];rfl
def named (l:List tg):List tg:=l.map λx=>(x.1,5,0,[],[])
theorem LE {l:List tg} (hn:l.length<=M):cI l=some (named l):=by
 have hM:M=1048576:=rfl;unfold cI named;refine vz (BB (g:=λx:tg=>((x.1,5,0,[],[]):tg)) hn (λk hk out ho=>?_) (λout=>?_)) rfl
 · show f6 l (k:Int) out=_;unfold f6;rw[u0 (by omega),cT,tE hk,an,tn (by rw[ho];show k+1<=_;omega),an,tz (by omega)]
 · show f6 l (l.length:Int) out=_;unfold f6;rw[tW (by omega),cF]
theorem Ij {b:td} (h:uv b) {l:List tg} (hn:l.length<=1000) (hT:∀x∈l,Dg b x):bq b l=some (uD b l):=by
 unfold bq uD;refine vz (BB (g:=λx:tg=>uR b x.1) (by show _<=1048576;omega) (λk hk out ho=>?_) (λout=>?_)) rfl
 · have hx:=hT _ (getElem_mem hk);have e:=LC hx
   show f0 b l (k:Int) out=_;unfold f0;rw[u0 (by omega),cT,tE hk,an,an,an,Qo h.w,(Eo h (by have:=xU hx.1;omega)).1,an,tz (by omega)];cases hk':l[k].2.1==130 with
   | true =>
    rw[hk',cT]at e;rw[cT,tn (by rw[ho];show k+1<=_;omega),an,←e]
   | false=>rw[cF,tn (by rw[ho];show k+1<=_;omega),an]
 · show f0 b l (l.length:Int) out=_;unfold f0;rw[tW (by omega),cF]
theorem Ke {b:td} (h:uv b) {l:List tg} (hT:∀x∈l,Dg b x):∀x∈uD b l,Dg b x:=by
 intro x hx;obtain⟨y,hy,rfl⟩:=mem_map.1 hx;exact LB h (hT y hy).1
theorem Nr {b:td} (h:uv b) {p:tQ} (hB:p.2.2.2.1<=1000):∀(n i:Nat) (out T:List tg),T.length<=10->out.length<=10+10*i->(∀x∈T,Dg b x)->((i+n:Nat):Int)=p.2.2.2.1->loop (λz=>bE b p z.1 z.2.1 z.2.2) (T,(i:Int),out)=some (xZ b n (out,T)).1
 | 0,i,out,T,h1,h2,hT,e=>by
  refine tR ?_;show bE b p T (i:Int) out=_
  unfold bE;rw[tW (by omega),cF,an,cF,an,cF];rfl
 | n+1,i,out,T,h1,h2,hT,e=>by
  by_cases hc:0<T.length/\out.length<10
  · have hnl:(uD b T).length=T.length:=by unfold uD;rw[length_map]
    refine tO (y:=(uD b T,((i+1:Nat):Int),out++uD b T)) ?_ ?_
    · show bE b p T (i:Int) out=_;unfold bE;rw[u0 (by omega),cT,dT (by omega),an,cT,u0 (by omega),an,cT,Ij h (by omega) hT,an,tn (by rw[hnl];omega),an,tz (by omega)]
    · rw[Nr h hB n (i+1) _ _ (by rw[hnl];exact h1) (by rw[length_append,hnl];omega) (Ke h hT) (by omega),show xZ b (n+1) (out,T)=xZ b n (out++uD b T,uD b T)from if_pos hc]
  · refine tR ?_;show bE b p T (i:Int) out=_
    have e2:xZ b (n+1) (out,T)=(out,T):=if_neg hc;rw[e2];unfold bE;rw[u0 (by omega),cT];by_cases h1:0<T.length
    · rw[dT (by omega),an,cT,tW (by omega),an,cF]
    · rw[dF (by omega),an,cF,an,cF]
theorem H0 {b:td}:∀(n:Nat) (out T:List tg),T.length<=10->out.length<=20->(xZ b n (out,T)).1.length<=20
 | 0,out,T,_,h=>h
 | n+1,out,T,hT,h=>by
  by_cases hc:0<T.length/\out.length<10
  · rw[show xZ b (n+1) (out,T)=xZ b n (out++uD b T,uD b T)from if_pos hc];have hnl:(uD b T).length=T.length:=by unfold uD;rw[length_map]
    exact H0 n _ _ (by omega) (by rw[length_append,hnl];omega)
  · rw[show xZ b (n+1) (out,T)=(out,T)from if_neg hc];exact h
theorem P8 {b:td} (h:uv b) {p:tQ} (hp:vb p=true):gi b p=some (xd b p):=by
 obtain⟨x1,x2,_,_,x5,x6⟩:=wi hp;have hM:M=1048576:=rfl
 have hnl:(named p.2.2.2.2).length=p.2.2.2.2.length:=by unfold named;rw[length_map]
 have hTold:∀x∈named p.2.2.2.2,Dg b x:=by
  intro x hx;obtain⟨y,hy,rfl⟩:=mem_map.1 hx;exact FT (wJ (x1 y hy))
 have hon:uI p<=p.2.2.2.2.length:=Nat.min_le_right _ _;have hout:uD b ((named p.2.2.2.2).take (uI p))=(p.2.2.2.2.take (uI p)).map (λx=>uR b x.1):=by
  unfold uD named;rw[←List.map_take,map_map];rfl
 have hlast:((named p.2.2.2.2).drop (uI p)).map (λx=>x.1)=(p.2.2.2.2.drop (uI p)).map (λx=>x.1):=by
  unfold named;rw[←List.map_drop,map_map];rfl
 have hol:(uD b ((named p.2.2.2.2).take (uI p))).length<=10:=by rw[hout,length_map,length_take];omega
 have hTl:((named p.2.2.2.2).drop (uI p)).length<=10:=by rw[length_drop];omega
 have hrun:=Nr h (p:=p) (by omega) p.2.2.2.1.toNat 0 (uD b ((named p.2.2.2.2).take (uI p))) ((named p.2.2.2.2).drop (uI p)) hTl (by omega) (λx hx=>hTold x (mem_of_mem_drop hx)) (by omega);have hv:xd b p=(xZ b p.2.2.2.1.toNat (uD b ((named p.2.2.2.2).take (uI p)),(named p.2.2.2.2).drop (uI p))).1.take 10:=by
  unfold xd K8;rw[←hout,←hlast];exact FU _ _ _ hol
 have hlen:=H0 (b:=b) p.2.2.2.1.toNat _ _ hTl (show (uD b ((named p.2.2.2.2).take (uI p))).length<=20 by omega);have fin:∀k:Int,k=((uI p:Nat):Int)->((cI p.2.2.2.2).bind λt22 =>
  (vj t22.length 0 k).bind λq =>
  (bq b ((t22.take q.2).drop q.1)).bind λt27 =>
  (cut t22 k (t22.length:Int)).bind λt30 =>
  (loop (λz=>bE b p z.1 z.2.1 z.2.2) (t30,0,t27)).bind λd =>
  cond (decide ((d.length:Int)>10))
   ((vj d.length 0 10).bind λp_1 =>
   some ((d.take p_1.2).drop p_1.1))
   (some d))=some (xd b p):=by
  rintro k rfl;rw[LE (by omega),an,show (0:Int)=((0:Nat):Int)from rfl,As (by omega) (by rw[hnl];exact hon),an];show (bq b (((named p.2.2.2.2).take (uI p)).drop 0)).bind _=_
  rw[List.drop_zero,Ij h (by rw[length_take];omega) (λx hx=>hTold x (mem_of_mem_take hx)),an,wS (by rw[hnl];exact hon) (Nat.le_refl _),an,take_length];refine vz hrun ?_;rw[hv];generalize (xZ b p.2.2.2.1.toNat (uD b ((named p.2.2.2.2).take (uI p)),(named p.2.2.2.2).drop (uI p))).1=d at hlen;by_cases hd:(d.length:Int)>10
  · rw[dT hd,cT,show (10:Int)=((10:Nat):Int)from rfl,As (by omega) (by omega),an];rfl
  · rw[dF hd,cF,take_of_length_le (by omega)]
 unfold gi;by_cases hc:p.2.2.1>(p.2.2.2.2.length:Int)
 · rw[dT hc,cT];exact fin _ (by unfold uI;omega)
 · rw[dF hc,cF];exact fin _ (by unfold uI;omega)
theorem LF (k i a c:Int) (bulk:Bool):∀(n:Nat) (l:List tg),l.length=n->n<=10->(∀x∈l,E4 M x) ->
 ∃t,loop (λz:tQ=>bY bulk z.1 z.2.1 z.2.2.1 z.2.2.2.1 z.2.2.2.2) (k,i,a,c,l)=some (k,i,a,c,t)/\vQ M (k,i,a,c,t) /\
  ((uM (k,i,a,c,l)=true/\t=l)\/(uM (k,i,a,c,l)=false/\((bulk=true/\uM (k,i,a,c,t)=true/\shr (λt=>uM (k,i,a,c,t)) n l=some t)\/(uM (k,i,a,c,t)=false/\(bulk=true->shr (λt=>uM (k,i,a,c,t)) n l=none)))))
 | n,l,hl,hn,hx=>by
  have hp:vQ M (k,i,a,c,l):=⟨by show l.length<=1048576;omega,hx⟩;have hstep:∀q:Bool,uM (k,i,a,c,l)=q->bY bulk k i a c l=cond (bulk&&(!q&&decide ((l.length:Int)>0))) ((vj l.length 0 (te ((l.length:Int)-1))).bind λp=>some (.inl (k,i,a,c,(l.take p.2).drop p.1))) (some (.inr (k,i,a,c,l))):=by
   intro q hq;unfold bY;rw[Kd hp,hq];cases bulk<;>cases q<;>rfl
  cases hf:uM (k,i,a,c,l)with
  | true =>
   refine⟨l,tR ?_,hp,.inl ⟨rfl,rfl⟩⟩;show bY bulk k i a c l=_
   rw[hstep true hf];cases bulk<;>rfl
  | false =>
   cases hb:bulk with
   | false =>
    subst hb;refine⟨l,tR ?_,hp,.inr ⟨rfl,.inr ⟨hf,(λh=>by cases h)⟩⟩⟩;show bY false k i a c l=_
    rw[hstep false hf];rfl
   | true =>
    subst hb
    match n,hl,hn with
    | 0,hl,hn =>
     refine⟨l,tR ?_,hp,.inr ⟨rfl,.inr ⟨hf,λ_=>rfl⟩⟩⟩;show bY true k i a c l=_
     rw[hstep false hf,dF (by omega)];rfl
    | n+1,hl,hn =>
     have hlt:(l.take n).length=n:=by rw[length_take];omega
     have hs:bY true k i a c l=some (.inl (k,i,a,c,l.take n)):=by
      rw[hstep false hf,dT (by omega)];show ((vj l.length 0 (te ((l.length:Int)-1))).bind _)=_
      rw[tM (by omega) (by omega),show (l.length:Int)-1=((n:Nat):Int) by omega,show (0:Int)=((0:Nat):Int)from rfl,As (by omega) (by omega),an];rfl
     obtain⟨t,t1,t2,t3⟩:=LF k i a c true n (l.take n) hlt (by omega) (λx h=>hx x (mem_of_mem_take h));refine⟨t,tO hs t1,t2,.inr ⟨rfl,?_⟩⟩;rcases t3 with ⟨u1,rfl⟩|⟨u1,⟨_,u2,u3⟩|⟨u2,u3⟩⟩
     · exact .inl ⟨rfl,u1,if_pos u1⟩
     · exact .inl ⟨rfl,u2,by rw[show shr (λt=>uM (k,i,a,c,t)) (n+1) l=shr (λt=>uM (k,i,a,c,t)) n (l.take n)from if_neg (show ¬uM (k,i,a,c,l.take n)=true by rw[u1];simp)];exact u3⟩
     · exact .inr ⟨u2,λ_=>by rw[show shr (λt=>uM (k,i,a,c,t)) (n+1) l=shr (λt=>uM (k,i,a,c,t)) n (l.take n)from if_neg (show ¬uM (k,i,a,c,l.take n)=true by rw[u1];simp)];exact u3 rfl⟩
noncomputable def BH (i a c:Int) (bulk:Bool) (l:List tg):tQ :=
 cond (uM (162,i,a,c,l)) (162,i,a,c,l) (match cond bulk (shr (λt=>uM (162,i,a,c,t)) l.length l) none with|some t=>(162,i,a,c,t)|none=>(162,i,7,0,[]))
theorem Ik (i a c:Int) (bulk:Bool) {l:List tg} (hn:l.length<=10) (hx:∀x∈l,E4 M x):cE (162,i,a,c,l) bulk=some (BH i a c bulk l):=by
 obtain⟨t,t1,t2,t3⟩:=LF 162 i a c bulk l.length l rfl hn hx;unfold cE BH;refine vz t1 ?_;rw[Kd t2,an];rcases t3 with ⟨u1,rfl⟩|⟨u1,⟨rfl,u2,u3⟩|⟨u2,u3⟩⟩
 · rw[u1,cT,cT]
 · rw[u1,u2,cT,cF,cT,u3]
 · rw[u1,u2,cF,cF];cases bulk with
   | true=>rw[cT,u3 rfl]
   | false=>rfl
theorem Qp {b:td} (h:uv b) {p:tQ} (hp:vb p=true) (h163:(p.1==163)=false) (hk:(p.1 != 162)=true):∃l,gk b p=some l/\yH b p=(b,162,p.2.1,0,0,l)/\l.length<=10/\∀x∈l,E4 M x:=by
 obtain⟨x1,x2,_⟩:=wi hp;have hM:M=1048576:=rfl
 unfold gk yH;cases h161:(p.1==161)with
 | true =>
  have h160:(p.1==160)=false:=by simp only[beq_iff_eq]at h161;rw[h161];rfl
  have hTold:∀x∈named p.2.2.2.2,Dg b x:=by
   intro x hx;obtain⟨y,hy,rfl⟩:=mem_map.1 hx;exact FT (wJ (x1 y hy))
  have he:uD b (named p.2.2.2.2)=p.2.2.2.2.map λx=>uR b x.1:=by unfold uD named;rw[map_map];rfl
  simp only[cT,cF,h160];rw[LE (by omega),an,Ij h (by unfold named;rw[length_map];omega) hTold,an,he];refine⟨_,rfl,rfl,by rw[length_map];exact x2,λx hx=>?_⟩;obtain⟨y,hy,rfl⟩:=mem_map.1 hx;exact wj (CL h (wJ (x1 y hy)))
 | false =>
 cases h165:(p.1==165)with
 | true =>
  have h160:(p.1==160)=false:=by simp only[beq_iff_eq]at h165;rw[h165];rfl
  have hbk:=J9 h hp;simp only[cT,cF,h160];rw[P8 h hp,an];exact⟨_,rfl,rfl,hbk.o10,λx hx=>wj (hbk.oOk x hx)⟩
 | false =>
  have h160:(p.1==160)=true:=by
   rcases Mx hp with e|e|e|e|e
   · rw[e];rfl
   · rw[e]at h161;cases h161
   · rw[e]at hk;cases hk
   · rw[e]at h163;cases h163
   · rw[e]at h165;cases h165
  simp only[cT,cF,h160];have e:loop (λz:Int×List tg=>dL b p z.1 z.2) (0,[])=some (p.2.2.2.2.map λx=>((x.1,BC b x.1):tg)):=by
   refine BB (by omega) (λk hk' out ho=>?_) (λout=>?_)
   · have hx:=xU (wJ (x1 _ (getElem_mem hk')));show dL b p (k:Int) out=_
     unfold dL;rw[u0 (by omega),cT,tE hk',an,tn (by show 0+_<=_;omega),an,an,Rk h.w,(Mt h (by omega)).1,an,tn (by rw[ho];show k+1<=_;omega),an,tz (by omega)];rfl
   · show dL b p (p.2.2.2.2.length:Int) out=_;unfold dL;rw[tW (by omega),cF]
  rw[e,an];refine⟨_,rfl,rfl,by rw[length_map];exact x2,λx hx=>?_⟩;obtain⟨y,hy,rfl⟩:=mem_map.1 hx;exact wj (by unfold xj;rw[wJ (x1 y hy),Ni h (by have:=xU (wJ (x1 y hy));omega)];rfl)
theorem IQ {b:td} {p:tQ} {l:List tg} (ha:yH b p=(b,162,p.2.1,0,0,l)) (hl:(p.1==165)=true->l=xd b p):xn b p=(b,BH p.2.1 0 0 (p.1==165) l):=by
 unfold xn Ab BH;rw[ha];simp only;cases uM (162,p.2.1,0,0,l)with
 | true=>rfl
 | false =>
  rw[cF,cF];cases h165:(p.1==165)with
  | true=>rw[cT,cT,hl h165];cases shr (λt=>uM (162,p.2.1,0,0,t)) (xd b p).length (xd b p)<;>rfl
  | false=>rfl
theorem P9 {b:td} (h:uv b) {p:tQ} (hp:vb p=true) (h163:(p.1==163)=true):eZ b p=some (xn b p):=by
 have hxs:=E0 hp;have hM:M=1048576:=rfl
 have h10:=(wi hp).2.1;obtain⟨r,r1,r2,_,_,r5⟩:=Gy h.w h.le hxs;have hr:Cm b p.2.2.2.2=r:=by unfold Cm;rw[r1];rfl
 have h160:(p.1==160)=false:=by simp only[beq_iff_eq]at h163;rw[h163];rfl
 have h161:(p.1==161)=false:=by simp only[beq_iff_eq]at h163;rw[h163];rfl
 have h165:(p.1==165)=false:=by simp only[beq_iff_eq]at h163;rw[h163];rfl
 have ha:yH b p=(r.1,162,p.2.1,r.2.1,r.2.2,p.2.2.2.2):=by unfold yH;rw[h160,h161,h165,hr];rfl
 have hless:Ab b p=(b,162,p.2.1,7,0,[]):=by unfold Ab;rw[h165];rfl
 unfold eZ xn;rw[Bb hxs,an,r2,an,Kd (p:=(162,p.2.1,r.2.1,r.2.2,p.2.2.2.2)) ⟨hxs.1,hxs.2⟩,an,ha,hless];simp only;have hb:∀q:Bool,uM (162,p.2.1,r.2.1,r.2.2,p.2.2.2.2)=q->((am b).bind λt36=>(cE (162,p.2.1,r.2.1,r.2.2,p.2.2.2.2) false).bind λt38=>some (t36,t38))=some (b,cond q (162,p.2.1,r.2.1,r.2.2,p.2.2.2.2) (162,p.2.1,7,0,[])):=by
  intro q hq;rw[vS h.le,an,Ik _ _ _ _ h10 hxs.2,an];unfold BH;rw[hq];rfl
 cases hf:uM (162,p.2.1,r.2.1,r.2.2,p.2.2.2.2)with
 | false=>rw[Bool.not_false,cT,an,cT,hb false hf];rfl
 | true =>
  rw[Bool.not_true,cF,an];cases hc:(r.2.1 != 0)with
  | false=>rfl
  | true =>
   rw[cT,hb true hf];rcases r5 with ⟨r6,_⟩|⟨r6,_⟩
   · rw[r6]at hc;cases hc
   · rw[r6];rfl
theorem Pa {b:td} (h:wY b) (hb:xV M b) {p:tQ} (hp:vQ M p):gl b p=some (va b p):=by
 unfold gl il va BD;rw[zT h,an,vS hb];cases hbr:ue b with
 | false=>rfl
 | true =>
 rw[cT,Kx hp,an,an];cases hpp:vb p with
 | false=>rfl
 | true =>
 cases hk:(p.1 != 162)with
 | false=>rfl
 | true =>
 have hBO:=C7 h hbr;simp only[Bool.and_true,cT,an,Bool.not_true,cF];cases h163:(p.1==163)with
 | true=>rw[cT,P9 hBO hpp h163,an]
 | false =>
  obtain⟨l,e1,e2,e3,e4⟩:=Qp hBO hpp h163 hk;have hl:(p.1==165)=true->l=xd b p:=by
   intro h165;have h160:(p.1==160)=false:=by simp only[beq_iff_eq]at h165;rw[h165];rfl
   have h161:(p.1==161)=false:=by simp only[beq_iff_eq]at h165;rw[h165];rfl
   have:yH b p=(b,162,p.2.1,0,0,xd b p):=by unfold yH;rw[h160,h161,h165];rfl
   rw[e2]at this;simpa using this
  rw[cF,e1,an,Bb ⟨by show l.length<=1048576;omega,e4⟩,an,Ik _ _ _ _ e3 e4,an,IQ e2 hl]

theorem Kf {b:td} {w:List UInt8} {l:List um} {lo la:Int} {k:Nat} (hk:k<l.length) (hl:l.length<=M):dO (uT b w l lo la) (k:Int)=some (uT b w (l.eraseIdx k) lo la):=by
 have hM:M=1048576:=rfl;have c1:vj l.length 0 (k:Int)=some (0,k):=by
  unfold vj;rw[if_pos (by omega),if_pos (by omega),if_pos (by omega)];simp
 have c2:vj l.length (te ((k:Int)+1)) (l.length:Int)=some (k+1,l.length):=by
  rw[tz (by omega)];unfold vj;rw[if_pos (by omega),if_pos (by omega),if_pos (by omega)];simp
 have c3:tJ ([]:List um) ((l.take k).drop 0)=some (l.take k):=by
  rw[List.drop_zero,tn (by rw[length_take];show 0+_<=_;omega)];rfl
 have c4:tJ (l.take k) ((l.take l.length).drop (k+1))=some (l.eraseIdx k):=by
  rw[take_length,tn (by rw[length_take,length_drop];omega),←List.eraseIdx_eq_take_drop_succ]
 unfold dO uT;simp only[c1,an,c2,c3,c4]
theorem LG {b:td} (hb:xV M b) {w:List UInt8} {l:List um} {lo la:Int} {k:Nat} (hk:k<l.length):fa (uT b w l lo la) (k:Int)=some (uT b w (l.set k (Gr b l[k])) lo la):=by
 have cb:=vS hb;unfold fa uT;simp only[wq hk,an];have cb':am (b.1,b.2.1,b.2.2.1,b.2.2.2.1,b.2.2.2.2.1,b.2.2.2.2.2.1,b.2.2.2.2.2.2.1,b.2.2.2.2.2.2.2.1,b.2.2.2.2.2.2.2.2.1,b.2.2.2.2.2.2.2.2.2.1,b.2.2.2.2.2.2.2.2.2.2)=some b:=cb
 simp only[cb',an,List.getElem?_eq_getElem hk,length_set,wq hk,List.getElem?_set_self hk,set_set];rfl
theorem MG {n:Int} (h:tj n 0 1000000=true):bp n=some (yL n):=by
 obtain⟨r,r1,r2,_⟩:=Ht h;rw[r2,←r1,Ep]
theorem MH {b:td} (hb:xV M b) (hc:vM b=true) {w:List UInt8} {l:List um} {lo la:Int} {k:Nat} (hk:k<l.length) (hl:l.length<=M) (h1:vd l[k].2.1) (h2:l[k].2.1.length<=M) :
 dP (uT b w l lo la) (k:Int)=some (cond ((ut w l[k].2.1).2==3) (uT (C5 b) w (l.eraseIdx k) lo la)
  (cond ((ut w l[k].2.1).2 != 0||((ut w l[k].2.1).1.1==162)) (uT (AJ b) w (l.eraseIdx k) lo la) (uT b w (l.set k (xe l[k].1 l[k].2.1 1 (ut w l[k].2.1).1 b 0 (u4 l[k]))) lo la))):=by
 obtain⟨_,m1,m3,_⟩:=Mu w h1 h2;obtain⟨_,hp,hw,_⟩:=z0 hc;unfold dP;have d1:=Kf (b:=C5 b) (w:=w) (lo:=lo) (la:=la) hk hl
 have d2:=Kf (b:=AJ b) (w:=w) (lo:=lo) (la:=la) hk hl;unfold C5 uT at d1;unfold AJ uT at d2;dsimp only[uT];simp only[wq hk,an,List.getElem?_eq_getElem hk,m1,MG hp,MG hw];rw[d1,d2];have hs:k<(l.set k (xe l[k].1 l[k].2.1 l[k].2.2.1 (ut w l[k].2.1).1 (jB l[k]) (x7 l[k]) (u4 l[k]))).length:=by rw[length_set];exact hk
 have e:=LG hb (w:=w) (lo:=lo) (la:=la) hs;unfold uT at e;have e2:Gr b (l.set k (xe l[k].1 l[k].2.1 l[k].2.2.1 (ut w l[k].2.1).1 (jB l[k]) (x7 l[k]) (u4 l[k])))[k]=xe l[k].1 l[k].2.1 1 (ut w l[k].2.1).1 b 0 (u4 l[k]):=by
  rw[getElem_set_self];rfl
 rw[e2,set_set]at e;cases h0:((ut w l[k].2.1).2==0)with
 | true =>
  have h3:((ut w l[k].2.1).2==3)=false:=by
   have:(ut w l[k].2.1).2=0:=by simpa using h0
   rw[this];rfl
  have hn:((ut w l[k].2.1).2 != 0)=false:=by rw[bne,h0];rfl
  rw[h3,hn];simp only[cT,cF,an,Bool.false_or,bne];cases ((ut w l[k].2.1).1.1==162)with
  | true=>rfl
  | false =>
   simp only[Bool.not_false,cT,cF];refine (congrArg (λo=>Option.bind o λt=>some t) e).trans ?_;rfl
 | false =>
  have hn:((ut w l[k].2.1).2 != 0)=true:=by rw[bne,h0];rfl
  rw[hn];simp only[cT,cF,an,Bool.true_or];cases ((ut w l[k].2.1).2==3)<;>rfl
theorem MI {b:td} {w:List UInt8} {l:List um} {lo la:Int} {k:Nat} (hk:k<l.length) (hl:l.length<=M) (p:tQ):dQ (uT b w l lo la) (k:Int) p=some (uT b w (l.eraseIdx k) lo la,[(l[k].1,p)]):=by
 have d:=Kf (b:=b) (w:=w) (lo:=lo) (la:=la) hk hl;have c0:ix (uT b w l lo la).2.2.2.2.2.2.2.2.2.2.2.2.1.length (k:Int)=some k:=wq hk
 have c1:(uT b w l lo la).2.2.2.2.2.2.2.2.2.2.2.2.1[k]?=some l[k]:=List.getElem?_eq_getElem hk;unfold dQ;rw[c0,an,c1,an,d];rfl
theorem Kg (p:tQ):BH p.2.1 6 1 false p.2.2.2.2=yt p:=by
 unfold BH yt;cases uM (162,p.2.1,6,1,p.2.2.2.2)<;>rfl
theorem Qq {b:td} (hB:uv b) {w:List UInt8} {l:List um} {lo la:Int} {k:Nat} (hk:k<l.length) (hl:l.length<=M) (hp:vb (jP l[k])=true) (h163:((jP l[k]).1==163)=true) :
 gq (uT b w l lo la) (k:Int)=some (cond (b.2.2.2.2.2.2.2.2.2.2==(jB l[k]).2.2.2.2.2.2.2.2.2.2) (uT (va b (jP l[k])).1 w (l.eraseIdx k) lo la,[(l[k].1,(va b (jP l[k])).2.1)])
  (cond (decide (u4 l[k]>=3)) (uT b w (l.eraseIdx k) lo la,[(l[k].1,yt (jP l[k]))])
   (uT b w (l.set k (xe l[k].1 l[k].2.1 1 (jP l[k]) b 0 (te (u4 l[k]+1)))) lo la,[]))):=by
 have hk162:((jP l[k]).1 != 162)=true:=by
  have:(jP l[k]).1=163:=by simpa using h163
  rw[this];rfl
 obtain⟨_,r1,r2,_⟩:=E1 hB hp hk162;have hxs:=E0 hp
 have h10:=(wi hp).2.1;have s1:=P9 hB hp h163
 have c0:ix (uT b w l lo la).2.2.2.2.2.2.2.2.2.2.2.2.1.length (k:Int)=some k:=wq hk;have c1:(uT b w l lo la).2.2.2.2.2.2.2.2.2.2.2.2.1[k]?=some l[k]:=List.getElem?_eq_getElem hk
 unfold gq;rw[c0,an];simp only[c1,an];show cond (b.2.2.2.2.2.2.2.2.2.2==(jB l[k]).2.2.2.2.2.2.2.2.2.2) _ _=_
 cases hv:(b.2.2.2.2.2.2.2.2.2.2==(jB l[k]).2.2.2.2.2.2.2.2.2.2)with
 | true =>
  rw[cT,cT];refine vz (a:=xn b (jP l[k])) s1 ?_;have e:=MI (b:=(xn b (jP l[k])).1) (w:=w) (lo:=lo) (la:=la) hk hl (xn b (jP l[k])).2
  rw[r1,r2];exact vz e rfl
 | false =>
  rw[cF,cF];show cond (decide (u4 l[k]>=3)) _ _=_
  cases hq:decide (u4 l[k]>=3)with
  | true =>
   rw[cT,cT];refine vz (Bb hxs) ?_;refine vz (a:=yt (jP l[k])) ?_ ?_
   · have e:=Ik (jP l[k]).2.1 6 1 false h10 hxs.2;rw[Kg]at e;exact e
   · exact vz (MI (b:=b) (w:=w) (lo:=lo) (la:=la) hk hl (yt (jP l[k]))) rfl
  | false =>
   simp only[cF];have hs:k<(l.set k (xe l[k].1 l[k].2.1 l[k].2.2.1 (jP l[k]) (jB l[k]) (x7 l[k]) (te (u4 l[k]+1)))).length:=by rw[length_set];exact hk
   have e:=LG hB.le (w:=w) (lo:=lo) (la:=la) hs;unfold uT at e;have e2:Gr b (l.set k (xe l[k].1 l[k].2.1 l[k].2.2.1 (jP l[k]) (jB l[k]) (x7 l[k]) (te (u4 l[k]+1))))[k]=xe l[k].1 l[k].2.1 1 (jP l[k]) b 0 (te (u4 l[k]+1)):=by
    rw[getElem_set_self];rfl
   rw[e2,set_set]at e;refine (congrArg (λo=>Option.bind o λt=>some (t,([]:List v9))) e).trans ?_;rfl
theorem Ns {a:tB} (h:uA a) {k:Nat} (hk:k<(th a).length):dR a (k:Int)=some (ua a k (th a)[k]):=by
 have hJ:=h.j _ (getElem_mem hk);have hn:(th a).length<=M:=by have:=h.n;show _<=1048576;omega
 have e1:=MH h.b.le (zO h.b.ok).1 (w:=aW a) (l:=th a) (lo:=uE a) (la:=tV a) hk hn hJ.byt hJ.len;have c0:ix a.2.2.2.2.2.2.2.2.2.2.2.2.1.length (k:Int)=some k:=wq hk
 have c1:a.2.2.2.2.2.2.2.2.2.2.2.2.1[k]?=some (th a)[k]:=List.getElem?_eq_getElem hk;have e1:dP a (k:Int)=_:=e1
 unfold dR ua xf;rw[c0,an];simp only[c1,an];rcases Id hJ with hp|hp|hp
 · rw[hp];show ((dP a (k:Int)).bind _)=_
   rw[e1,an];cases ((ut (aW a) (th a)[k].2.1).2==3)with
   | true=>rfl
   | false=>cases ((ut (aW a) (th a)[k].2.1).2 != 0||((ut (aW a) (th a)[k].2.1).1.1==162))<;>rfl
 · rw[hp];simp only[show ((1:Int)==0)=false from rfl,show ((1:Int)==1)=true from rfl,show ((1:Int)==2)=false from rfl,cT,cF,an];show cond (decide (x7 (th a)[k]<((jP (th a)[k]).2.2.2.2.length:Int))) _ _=_
   cases hd:decide (x7 (th a)[k]<((jP (th a)[k]).2.2.2.2.length:Int))with
   | true=>rw[cT];exact congrArg some (by simp only[cT];rfl)
   | false=>rw[cF];exact congrArg some (by simp only[cF];rfl)
 · obtain⟨q1,q2,q3⟩:=hJ.ok.resolve_left (by rw[hp];decide);rw[hp];simp only[show ((2:Int)==0)=false from rfl,show ((2:Int)==1)=false from rfl,show ((2:Int)==2)=true from rfl,cT,cF,an];show cond ((jP (th a)[k]).1==163) _ _=_
   cases h163:((jP (th a)[k]).1==163)with
   | true =>
    have hb:((th a)[k].2.2.2.1 != 163)=false:=by rw[bne,show ((th a)[k].2.2.2.1==163)=true from h163];rfl
    simp only[hb,cT,cF];refine vz (Qq (b:=aB a) h.b (w:=aW a) (lo:=uE a) (la:=tV a) hk hn q1 h163) ?_;cases ((aB a).2.2.2.2.2.2.2.2.2.2==(jB (th a)[k]).2.2.2.2.2.2.2.2.2.2)with
    | true=>rfl
    | false=>cases decide (u4 (th a)[k]>=3)<;>rfl
   | false =>
    have hb:((th a)[k].2.2.2.1 != 163)=true:=by rw[bne,show ((th a)[k].2.2.2.1==163)=false from h163];rfl
    simp only[hb,cT,cF];refine vz (a:=va (jB (th a)[k]) (jP (th a)[k])) (Pa hJ.bw hJ.bl hJ.pl) ?_;exact vz (MI (b:=aB a) (w:=aW a) (lo:=uE a) (la:=tV a) hk hn (va (jB (th a)[k]) (jP (th a)[k])).2.1) rfl
theorem LH {a:tB} (h:uA a) {k:Nat} (hk:k<(th a).length):aR a (k:Int)=some (ua a k (th a)[k]):=by
 have hn:=h.n;unfold aR;rw[yu h.ale,an,AM h.awf,an,h.ok,Bool.not_true,cF];have hw:te ((a.2.2.2.2.2.2.2.2.2.2.2.2.1.length:Int)-1)=((th a).length:Int)-1:=tM (by show -9223372036854775808<=((th a).length:Int)-1;omega) (by show ((th a).length:Int)-1<=_;omega)
 rw[hw,yw,an,z7 (by omega) (by omega),an,Bool.not_true,cF,Ns h hk,an]
theorem Jf {a:tB} (h:uA a) {k:Int} (hk:k<0\/((th a).length:Int)<=k):aR a k=some (a,[]):=by
 have hn:=h.n;unfold aR;rw[yu h.ale,an,AM h.awf,an,h.ok,Bool.not_true,cF];have hw:te ((a.2.2.2.2.2.2.2.2.2.2.2.2.1.length:Int)-1)=((th a).length:Int)-1:=tM (by show -9223372036854775808<=((th a).length:Int)-1;omega) (by show ((th a).length:Int)-1<=_;omega)
 have hp:tj k 0 (((th a).length:Int)-1)=false:=by
  unfold tj;rcases hk with hk|hk
  · rw[dF (by omega)];rfl
  · rw[dF (show ¬k<=((th a).length:Int)-1 by omega),Bool.and_false]
 rw[hw,yw,an,hp,an,Bool.not_false,cT]
theorem H1 {a:tB} (hw:G3 a) (hl:BI M a) (hb:∀j∈th a,vd j.2.1) (k:Int):∃r,bI a k=some r/\aR a k=some r/\(xk a=true->uA r.1/\r.2.length<=1)/\(xk a=false->r=(a,[]))/\uE r.1=uE a/\tV r.1=tV a:=by
 cases hp:xk a with
 | false =>
  refine⟨(a,[]),?_,?_,(λh=>by cases h),λ_=>rfl,rfl,rfl⟩
  · unfold bI;rw[xR hl,an,zt hw,an,hp];rfl
  · unfold aR;rw[yu hl,an,AM hw,an,hp];rfl
 | true =>
  have h:=Gt hw hl hb hp;by_cases hk:0<=k/\k<((th a).length:Int)
  · obtain⟨n,rfl⟩:∃n:Nat,k=(n:Int):=⟨k.toNat,by omega⟩;have hn:n<(th a).length:=by omega
    obtain⟨w1,w2⟩:=BE h hn;have hl:uE (ua a n (th a)[n]).1=uE a/\tV (ua a n (th a)[n]).1=tV a:=by
     rcases FS h hn with ⟨j',e,_⟩|⟨b',d,e,_⟩<;>rw[e]<;>exact⟨rfl,rfl⟩
    exact⟨_,Np h hn,LH h hn,λ_=>⟨w1,w2⟩,(λh=>by cases h),hl⟩
  · have hk':k<0\/((th a).length:Int)<=k:=by omega
    exact⟨_,Ly h hk',Jf h hk',λ_=>⟨h,by simp⟩,(λh=>by cases h),rfl,rfl⟩

theorem Il {a:tB} (h:xk a=true):(th a).length<=6/\tj (uE a) 0 1000000=true/\tj (tV a) 0 1000000=true:=by
 unfold xk at h;simp only[aT,decide_eq_true_eq]at h;obtain⟨_,_,_,h4,h5,h6⟩:=h;exact⟨by omega,h5,h6⟩
theorem Jg {a:tB} (ha:G3 a) (hl:BI M a) {b:List Int} (hb:b.length<=M):∃r,br a b=some r/\bb a b=some r/\BI M r:=by
 have hM:M=1048576:=rfl;unfold br bb;rw[xR hl,yu hl,zt ha,AM ha];simp only[an];cases hp:xk a with
 | false=>exact⟨_,rfl,rfl,hl⟩
 | true =>
  obtain⟨h1,h2,h3⟩:=Il hp;obtain⟨m,m1,m2,_⟩:=Ht h2;have m1':bf a.2.2.2.2.2.2.2.2.2.2.2.2.2.1=some m:=m1
  have m2':bp a.2.2.2.2.2.2.2.2.2.2.2.2.2.1=some m:=m2;simp only[Bool.not_true,cF,an,m1',m2',zU hb,wK hb];have hn:(th a).length<=1048576:=ha.n
  by_cases h6:((th a).length:Int)>=6
  · have h6':decide ((a.2.2.2.2.2.2.2.2.2.2.2.2.1.length:Int)>=6)=true:=dT h6;rw[h6',cT,an,cT];exact⟨_,rfl,rfl,hl⟩
  · have h6':decide ((a.2.2.2.2.2.2.2.2.2.2.2.2.1.length:Int)>=6)=false:=dF h6;rw[h6',cF,an];cases decide (a.2.2.2.2.2.2.2.2.2.2.2.2.2.2>=1000000)with
    | true=>exact⟨_,rfl,rfl,hl⟩
    | false =>
     have hap:∀j:um,tJ a.2.2.2.2.2.2.2.2.2.2.2.2.1 [j]=some (a.2.2.2.2.2.2.2.2.2.2.2.2.1++[j]):=λj=>tn (by show (th a).length+1<=_;omega);simp only[cF,hap,an];refine⟨_,rfl,rfl,hl.1,hl.2.1,?_,?_⟩
     · show (th a++[_]).length<=1048576;rw[length_append];show (th a).length+1<=_;omega
     · intro j hj;rcases mem_append.1 hj with hj|hj
       · exact hl.2.2.2 j hj
       · simp only[mem_singleton]at hj;subst hj;exact⟨hb,⟨by show 0<=1048576;decide,λx hx=>by cases hx⟩,by show 0<=1048576;decide,by show 0<=1048576;decide,by show 0<=1048576;decide,by show 0<=1048576;decide,by show 0<=1048576;decide⟩
theorem Jh {a:tB} (h:uA a) {m:List Int} (hm:m.length<=M):bb a m=br a m:=by
 obtain⟨r,r1,r2,_⟩:=Jg h.awf h.ale hm;rw[r1,r2]
theorem Ji {a:tB} (h:uA a) {m:List Int} (hb:vd m) (hm:m.length<=M):∃r,br a m=some r/\bb a m=some r/\uA r/\uE r+tV r<=uE a+tV a+1:=by
 by_cases hc:(th a).length<6/\tV a<1000000
 · have e:=Oe h hm hc.1 hc.2;exact⟨_,e,(Jh h hm).trans e,Ka h hb hm hc.1 hc.2,by show uE a+(tV a+1)<=_;omega⟩
 · have e:=Of h (m:=m) hc;refine⟨_,e,(Jh h hm).trans e,MC h,?_⟩;obtain⟨l1,l2⟩:=ur h.lo;show yL (uE a)+tV a<=_
   unfold yL min2;rw[tM (by omega) (by omega)];split<;>omega
theorem LI {b:td} (h:uv b) {w:List UInt8} (hw:w.length<=20):cL b w=some (uT b w [] 0 0):=by
 unfold cL;rw[zT h.w,an,h.ok,Bool.not_true,cF,an,dF (by omega),cF,vS h.le,an];rfl
theorem Rl {l:List tk} (hn:l.length<=1000):cB l=some (l.filterMap vl):=by
 unfold cB;obtain⟨v,e1,rfl⟩:=tI (step:=λz:Int×List tk=>aQ l z.1 z.2) (λk z=>z=((k:Int),(l.take k).filterMap vl)) l.length (λv=>v=l.filterMap vl)
  (λk z hk e=>by
   subst e;refine .inl ⟨_,?_,rfl⟩;have hfl:((l.take k).filterMap vl).length<=k:=Nat.le_trans (List.length_filterMap_le _ _) (by rw[length_take];omega)
   have t1:l.take (k+1)=l.take k++[l[k]]:=by rw[take_add_one,List.getElem?_eq_getElem hk];rfl
   have t2:(l.take (k+1)).filterMap vl=(l.take k).filterMap vl++(match vl l[k]with|some y=>[y]|none=>[]):=by
    rw[t1,List.filterMap_append]
    congr 1
    cases hq:vl l[k]with
    | none=>rw[List.filterMap_cons_none hq];rfl
    | some y=>rw[List.filterMap_cons_some hq];rfl
   have ha:∀y:tk,tJ ((l.take k).filterMap vl) [y]=some ((l.take k).filterMap vl++[y]):=λy=>tn (by show _+1<=_;omega);show aQ l (k:Int) _=_
   unfold aQ;rw[u0 (by omega),cT,tE hk,an,tz (by omega),t2];cases hs:l[k].2.2.2.2 with
   | true =>
    have hq:vl l[k]=some l[k]:=by unfold vl;rw[hs];rfl
    rw[hq];simp only[cT,ha,an]
   | false =>
    simp only[cF];by_cases h4:l[k].2.2.2.1>=4
    · have hq:vl l[k]=none:=by unfold vl;rw[hs,dT h4];rfl
      rw[hq,tW (by omega)];simp only[cF,append_nil]
    · have hq:vl l[k]=some (l[k].1,l[k].2.1,l[k].2.2.1,te (l[k].2.2.2.1+1),false):=by unfold vl;rw[hs,dF h4];rfl
      rw[hq,u0 (by omega)];simp only[cT,ha,an])
  (λz e=>by
   subst e;refine⟨_,?_,rfl⟩;show aQ l (l.length:Int) _=_
   unfold aQ;rw[tW (by omega),cF,take_length]) (x:=(0,[])) rfl
 have e1:loop (λz=>aQ l z.1 z.2) (0,[])=some (l.filterMap vl):=e1;rw[e1,an]
theorem Pb {b:td} (h:uv b):dV b=some (B7 b):=by
 have hf:=Hs h.f;obtain⟨r,r1,r2,_⟩:=NG (Ih h);obtain⟨c1,_⟩:=z0 (zO h.ok).1;have e:xY (Hk b)=r:=by unfold xY;rw[r1];rfl
 unfold dV B7;rw[vS h.le,an,zT h.w,an,h.ok,Bool.not_true,cF,MG c1,an,Rl (by have:=hf.n;omega),an,e];have r2':bZ (b.1,b.2.1,b.2.2.1,b.2.2.2.1.filterMap vl,b.2.2.2.2.1,b.2.2.2.2.2.1,yL b.2.2.2.2.2.2.1,b.2.2.2.2.2.2.2.1,b.2.2.2.2.2.2.2.2.1,b.2.2.2.2.2.2.2.2.2.1,b.2.2.2.2.2.2.2.2.2.2)=some r:=r2
 rw[r2',an]
abbrev R4:=Int×List Int×Int×Int×Int×List UInt8×Int×Int×Int×Int×Int×List UInt8×Int×Int×List Pt×List tk×List tC×List Int×List um
def Co (i:Int) (c:tD) (a:tB):R4:=(i,c.1,c.2.1,c.2.2,a.1,a.2.1,a.2.2.2.2.2.2.1,a.2.2.2.2.2.2.2.1,a.2.2.2.2.2.2.2.2.1,a.2.2.2.2.2.2.2.2.2.1,a.2.2.2.2.2.2.2.2.2.2.1,a.2.2.2.2.2.2.2.2.2.2.2.1,a.2.2.2.2.2.2.2.2.2.2.2.2.2.1,a.2.2.2.2.2.2.2.2.2.2.2.2.2.2,a.2.2.1,a.2.2.2.1,a.2.2.2.2.1,a.2.2.2.2.2.1,a.2.2.2.2.2.2.2.2.2.2.2.2.1)
noncomputable def Dh (z:R4):=gv z.1 z.2.1 z.2.2.1 z.2.2.2.1 z.2.2.2.2.1 z.2.2.2.2.2.1 z.2.2.2.2.2.2.1 z.2.2.2.2.2.2.2.1 z.2.2.2.2.2.2.2.2.1 z.2.2.2.2.2.2.2.2.2.1 z.2.2.2.2.2.2.2.2.2.2.1 z.2.2.2.2.2.2.2.2.2.2.2.1 z.2.2.2.2.2.2.2.2.2.2.2.2.1 z.2.2.2.2.2.2.2.2.2.2.2.2.2.1 z.2.2.2.2.2.2.2.2.2.2.2.2.2.2.1 z.2.2.2.2.2.2.2.2.2.2.2.2.2.2.2.1 z.2.2.2.2.2.2.2.2.2.2.2.2.2.2.2.2.1 z.2.2.2.2.2.2.2.2.2.2.2.2.2.2.2.2.2.1 z.2.2.2.2.2.2.2.2.2.2.2.2.2.2.2.2.2.2
theorem Oh {i:Int} (hi:i>0) {c:tD} (hc:CW c) {a:tB} (h:uA a):∃c' a',Dh (Co i c a)=some (.inl (Co (te (i-1)) c' a'))/\CW c'/\uA a'/\uE a'+tV a'<=uE a+tV a+1:=by
 dsimp only[Dh,Co];unfold gv;rw[dT hi,cT];obtain⟨c1,r,e1,w1,_⟩:=vi hc 6;have e1':aa (c.1,c.2.1,c.2.2) 6=some (c1,r):=e1
 rw[e1',an];simp only;obtain⟨c2,m,e2,w2,hm⟩:=Qn w1 h.b;have hml:m.length<=M:=by have:=hm.2;show _<=1048576;omega
 obtain⟨x,_,x2,x3,x4⟩:=Ji h hm.1 hml;have msg:∃c' a',((bH c1 (a.1,a.2.1,a.2.2.1,a.2.2.2.1,a.2.2.2.2.1,a.2.2.2.2.2.1,a.2.2.2.2.2.2.1,a.2.2.2.2.2.2.2.1,a.2.2.2.2.2.2.2.2.1,a.2.2.2.2.2.2.2.2.2.1,a.2.2.2.2.2.2.2.2.2.2.1)).bind λt38 =>
  (bb (a.1,a.2.1,a.2.2.1,a.2.2.2.1,a.2.2.2.2.1,a.2.2.2.2.2.1,a.2.2.2.2.2.2.1,a.2.2.2.2.2.2.2.1,a.2.2.2.2.2.2.2.2.1,a.2.2.2.2.2.2.2.2.2.1,a.2.2.2.2.2.2.2.2.2.2.1,a.2.2.2.2.2.2.2.2.2.2.2.1,a.2.2.2.2.2.2.2.2.2.2.2.2.1,a.2.2.2.2.2.2.2.2.2.2.2.2.2.1,a.2.2.2.2.2.2.2.2.2.2.2.2.2.2) t38.2).bind λt39 =>
  some (Sum.inl (β:=List Int×Int×Int×Int×List UInt8×Int×Int×Int×Int×Int×List UInt8×Int×Int×List Pt×List tk×List tC×List Int×List um) (te (i-1),t38.1.1,t38.1.2.1,t38.1.2.2,t39.1,t39.2.1,t39.2.2.2.2.2.2.1,t39.2.2.2.2.2.2.2.1,t39.2.2.2.2.2.2.2.2.1,t39.2.2.2.2.2.2.2.2.2.1,t39.2.2.2.2.2.2.2.2.2.2.1,t39.2.2.2.2.2.2.2.2.2.2.2.1,t39.2.2.2.2.2.2.2.2.2.2.2.2.2.1,t39.2.2.2.2.2.2.2.2.2.2.2.2.2.2,t39.2.2.1,t39.2.2.2.1,t39.2.2.2.2.1,t39.2.2.2.2.2.1,t39.2.2.2.2.2.2.2.2.2.2.2.2.1)))=some (.inl (Co (te (i-1)) c' a'))/\CW c'/\uA a'/\uE a'+tV a'<=uE a+tV a+1:=by
  refine⟨c2,x,vz (a:=(c2,m)) e2 (vz (a:=x) x2 rfl),w2,x3,x4⟩
 have tick : ∃c' a', ((dV (a.1, a.2.1, a.2.2.1, a.2.2.2.1, a.2.2.2.2.1, a.2.2.2.2.2.1, a.2.2.2.2.2.2.1, a.2.2.2.2.2.2.2.1, a.2.2.2.2.2.2.2.2.1, a.2.2.2.2.2.2.2.2.2.1, a.2.2.2.2.2.2.2.2.2.2.1)).bind λt44 =>
         some (Sum.inl (β:=List Int×Int×Int×Int×List UInt8×Int×Int×Int×Int×Int×List UInt8×Int×Int×List Pt×List tk×List tC×List Int×List um) (te (i-1),c1.1,c1.2.1,c1.2.2,t44.1,t44.2.1,t44.2.2.2.2.2.2.1,t44.2.2.2.2.2.2.2.1,t44.2.2.2.2.2.2.2.2.1,t44.2.2.2.2.2.2.2.2.2.1,t44.2.2.2.2.2.2.2.2.2.2,a.2.2.2.2.2.2.2.2.2.2.2.1,a.2.2.2.2.2.2.2.2.2.2.2.2.2.1,a.2.2.2.2.2.2.2.2.2.2.2.2.2.2,t44.2.2.1,t44.2.2.2.1,t44.2.2.2.2.1,t44.2.2.2.2.2.1,a.2.2.2.2.2.2.2.2.2.2.2.2.1)))=some (.inl (Co (te (i-1)) c' a'))/\CW c'/\uA a'/\uE a'+tV a'<=uE a+tV a+1:=by
  obtain⟨_,t2,_⟩:=Ql h.b;exact⟨c1,_,vz (a:=B7 (aB a)) (Pb h.b) rfl,w1,Qm h t2,by show uE a+tV a<=_;omega⟩
 have hn:=h.n;have work : ∃c' a', ((aa c1 (te ((a.2.2.2.2.2.2.2.2.2.2.2.2.1.length : Int)+1))).bind λt27 =>
         (aR (a.1,a.2.1,a.2.2.1,a.2.2.2.1,a.2.2.2.2.1,a.2.2.2.2.2.1,a.2.2.2.2.2.2.1,a.2.2.2.2.2.2.2.1,a.2.2.2.2.2.2.2.2.1,a.2.2.2.2.2.2.2.2.2.1,a.2.2.2.2.2.2.2.2.2.2.1,a.2.2.2.2.2.2.2.2.2.2.2.1,a.2.2.2.2.2.2.2.2.2.2.2.2.1,a.2.2.2.2.2.2.2.2.2.2.2.2.2.1,a.2.2.2.2.2.2.2.2.2.2.2.2.2.2) t27.2).bind λt28 =>
         some (Sum.inl (β:=List Int×Int×Int×Int×List UInt8×Int×Int×Int×Int×Int×List UInt8×Int×Int×List Pt×List tk×List tC×List Int×List um) (te (i-1),t27.1.1,t27.1.2.1,t27.1.2.2,t28.1.1,t28.1.2.1,t28.1.2.2.2.2.2.2.1,t28.1.2.2.2.2.2.2.2.1,t28.1.2.2.2.2.2.2.2.2.1,t28.1.2.2.2.2.2.2.2.2.2.1,t28.1.2.2.2.2.2.2.2.2.2.2.1,t28.1.2.2.2.2.2.2.2.2.2.2.2.1,t28.1.2.2.2.2.2.2.2.2.2.2.2.2.2.1,t28.1.2.2.2.2.2.2.2.2.2.2.2.2.2.2,t28.1.2.2.1,t28.1.2.2.2.1,t28.1.2.2.2.2.1,t28.1.2.2.2.2.2.1,t28.1.2.2.2.2.2.2.2.2.2.2.2.2.1)))=some (.inl (Co (te (i-1)) c' a'))/\CW c'/\uA a'/\uE a'+tV a'<=uE a+tV a+1:=by
  obtain⟨c3,k,e3,w3,_⟩:=vi w1 (te ((a.2.2.2.2.2.2.2.2.2.2.2.2.1.length:Int)+1));obtain⟨y,_,y2,y3,_,y4,y5⟩:=H1 h.awf h.ale (λj hj=>(h.j j hj).byt) k;exact⟨c3,y.1,vz (a:=(c3,k)) e3 (vz (a:=y) y2 rfl),w3,(y3 h.ok).1,by rw[y4,y5];omega⟩
 cases r==0 with
 | true=>exact msg
 | false =>
  cases r==1 with
  | true=>exact msg
  | false =>
   cases r==2 with
   | true=>exact tick
   | false=>exact work
theorem Oi {c:tD} (hc:CW c) {most:Nat} (hm:most<=900):Dr (λa=>uA a/\uE a+tV a<=(most:Int)) (gw c (most:Int)):=by
 unfold gw;obtain⟨c1,b,e1,w1,hb,hp,_⟩:=Gu hc;have hB:=C7 hb hp
 rw[e1,an];simp only;rw[LI hB (by decide),an,tz (by omega)];obtain⟨c2,k,e2,w2,hk⟩:=vh w1 (n:=most+1) (by omega);have e2':aa c1 ((most+1:Nat):Int)=some (c2,(k:Int)):=e2
 rw[e2',an];obtain⟨d,d1,c3,a3,d2,d3,rfl⟩:=tI (step:=Dh) (λj z=>∃c a,z=Co ((k-j:Nat):Int) c a/\CW c/\uA a/\uE a+tV a<=(j:Int)) k (λd=>∃c a,CW c/\(uA a/\uE a+tV a<=(k:Int))/\d=(Co 0 c a).2)
  (λj z hj ⟨c,a,e,w,h,hbd⟩=>by
   subst e;left;obtain⟨c',a',f1,f2,f3,f4⟩:=Oh (i:=((k-j:Nat):Int)) (by omega) w h;refine⟨_,f1,c',a',?_,f2,f3,by omega⟩;rw[tM (by omega) (by omega),show ((k-j:Nat):Int)-1=((k-(j+1):Nat):Int) by omega])
  (λz ⟨c,a,e,w,h,hbd⟩=>by
   subst e;refine⟨_,?_,c,a,w,⟨h,hbd⟩,rfl⟩;dsimp only[Dh,Co];unfold gv;rw[Nat.sub_self,dF (show ¬((0:Nat):Int)>0 by decide),cF]) (x:=Co (k:Int) c2 (uT b [121,97,114,100] [] 0 0)) ⟨c2,_,rfl,w2,Od hB (by decide),by show (0:Int)+0<=_;omega⟩
 exact⟨c3,a3,vz d1 rfl,d2,d3.1,by have:=d3.2;omega⟩
theorem Hl {code:List Int} (h:code.length<=1048576) {m:Nat} (hm:m<=1000):∃k:Nat,aI code (m:Int)=some (k:Int)/\k<=m:=by
 unfold aI;have e:te (3+(te ((code.length:Int).tdiv 12)))=3+(code.length:Int)/12:=by
  rw[Int.tdiv_eq_ediv_of_nonneg (by omega),tM (n:=(code.length:Int)/12) (by omega) (by omega),tM (by omega) (by omega)]
 simp only[e];by_cases hk:3+(code.length:Int)/12>(m:Int)
 · rw[dT hk,cT];exact⟨m,rfl,Nat.le_refl _⟩
 · rw[dF hk,cF];exact⟨(3+(code.length:Int)/12).toNat,by rw[Int.toNat_of_nonneg (by omega)],by omega⟩
theorem Kh {l:List Int} (hn:l.length<=M):gI l l=some true:=by
 have hn:l.length<=1048576:=hn;have e:loop (λz=>dZ l l z) 0=some (.inl ()):=zG (n:=l.length) (λk hk=>by
  show dZ l l (k:Int)=_;unfold dZ;rw[u0 (by omega),cT,tE hk,an,an,tz (by omega)];simp) (by
  show dZ l l (l.length:Int)=_;unfold dZ;rw[tW (by omega),cF])
 unfold gI;rw[bne_self_eq_false,cF,e];rfl
theorem LJ {l:List um} (hn:l.length<=M) (hl:∀j∈l,Nu M j):gJ l l=some true:=by
 have hn:l.length<=1048576:=hn;have e:loop (λz=>e9 l l z) 0=some (.inl ()):=zG (n:=l.length) (λk hk=>by
  obtain⟨h1,h2,h3⟩:=hl _ (getElem_mem hk);show e9 l l (k:Int)=_
  unfold e9;rw[u0 (by omega),cT,tE hk,an,an,tz (by omega)];generalize l[k]=j at h1 h2 h3;have q1:=Kh h1
  have q2:dY (j.2.2.2.1,j.2.2.2.2.1,j.2.2.2.2.2.1,j.2.2.2.2.2.2.1,j.2.2.2.2.2.2.2.1) (j.2.2.2.1,j.2.2.2.2.1,j.2.2.2.2.2.1,j.2.2.2.2.2.2.1,j.2.2.2.2.2.2.2.1)=some true:=Ig h2;have q3:=Dd h3
  unfold jB at q3;simp only[bne_self_eq_false,cF,an,q1,q2,q3,Bool.not_true])
  (by
  show e9 l l (l.length:Int)=_;unfold e9;rw[tW (by omega),cF])
 unfold gJ;rw[bne_self_eq_false,cF,e];rfl
theorem B8 {a:tB} (h:BI M a):cU a a=some true:=by
 have q1:=Dd h.1;unfold aB at q1;have q2:=LJ h.2.2.1 h.2.2.2
 unfold cU;simp only[q1,q2,an,beq_self_eq_true,cT]
theorem H2 {l:List v9} (hn:l.length<=M) (hl:∀d∈l,vQ M d.2):fe l l=some true:=by
 have hn:l.length<=1048576:=hn;have e:loop (λz=>ea l l z) 0=some (.inl ()):=zG (n:=l.length) (λk hk=>by
  have h1:=hl _ (getElem_mem hk);show ea l l (k:Int)=_
  unfold ea;simp only[u0 (show (k:Int)<(l.length:Int) by omega),cT,tE hk,an,tz (show k<9223372036854775807 by omega),bne_self_eq_false,cF,Ig h1,Bool.not_true])
  (by
  show ea l l (l.length:Int)=_;unfold ea;rw[tW (by omega),cF])
 unfold fe;rw[bne_self_eq_false,cF,e];rfl

def E3 (a:tB):Prop:=G3 a/\BI M a/\∀j∈th a,vd j.2.1
theorem uA.any {a:tB} (h:uA a):E3 a:=⟨h.awf,h.ale,λj hj=>(h.j j hj).byt⟩
abbrev Pc:=Int×Int×List UInt8×Int×Int×Int×Int×Int×List UInt8×Int×Int×List Pt×List tk×List tC×List Int×List um
def C6 (i:Int) (a:tB):Pc:=(i,a.1,a.2.1,a.2.2.2.2.2.2.1,a.2.2.2.2.2.2.2.1,a.2.2.2.2.2.2.2.2.1,a.2.2.2.2.2.2.2.2.2.1,a.2.2.2.2.2.2.2.2.2.2.1,a.2.2.2.2.2.2.2.2.2.2.2.1,a.2.2.2.2.2.2.2.2.2.2.2.2.2.1,a.2.2.2.2.2.2.2.2.2.2.2.2.2.2,a.2.2.1,a.2.2.2.1,a.2.2.2.2.1,a.2.2.2.2.2.1,a.2.2.2.2.2.2.2.2.2.2.2.2.1)
noncomputable def Er (z:Pc):=gx z.1 z.2.1 z.2.2.1 z.2.2.2.1 z.2.2.2.2.1 z.2.2.2.2.2.1 z.2.2.2.2.2.2.1 z.2.2.2.2.2.2.2.1 z.2.2.2.2.2.2.2.2.1 z.2.2.2.2.2.2.2.2.2.1 z.2.2.2.2.2.2.2.2.2.2.1 z.2.2.2.2.2.2.2.2.2.2.2.1 z.2.2.2.2.2.2.2.2.2.2.2.2.1 z.2.2.2.2.2.2.2.2.2.2.2.2.2.1 z.2.2.2.2.2.2.2.2.2.2.2.2.2.2.1 z.2.2.2.2.2.2.2.2.2.2.2.2.2.2.2
theorem MJ:vd [1]:=λx hx=>by rw[mem_singleton.1 hx];omega
theorem RW {a:tB} (h:uA a):∃b,loop (Er) (C6 0 a)=some (C6 0 b).2/\uA b:=by
 obtain⟨d,d1,b,hb,rfl⟩:=tI (step:=Er) (λj z=>∃a,z=C6 (j:Int) a/\uA a) 6 (λd=>∃b,uA b/\d=(C6 0 b).2)
  (λj z hj ⟨a,e,h⟩=>by
   subst e;left;obtain⟨r,_,r2,r3,_⟩:=Ji h MJ (by decide);have r2':bb (a.1,a.2.1,a.2.2.1,a.2.2.2.1,a.2.2.2.2.1,a.2.2.2.2.2.1,a.2.2.2.2.2.2.1,a.2.2.2.2.2.2.2.1,a.2.2.2.2.2.2.2.2.1,a.2.2.2.2.2.2.2.2.2.1,a.2.2.2.2.2.2.2.2.2.2.1,a.2.2.2.2.2.2.2.2.2.2.2.1,a.2.2.2.2.2.2.2.2.2.2.2.2.1,a.2.2.2.2.2.2.2.2.2.2.2.2.2.1,a.2.2.2.2.2.2.2.2.2.2.2.2.2.2) ([1]:List Int)=some r:=r2
   refine⟨C6 ((j+1:Nat):Int) r,?_,r,rfl,r3⟩;dsimp only[Er,C6];unfold gx;rw[dT (show (j:Int)<6 by omega),cT,r2',an,tz (by omega)])
  (λz ⟨a,e,h⟩=>by
   subst e;refine⟨_,?_,a,h,rfl⟩;dsimp only[Er,C6];unfold gx;rw[dF (show ¬((6:Nat):Int)<6 by decide),cF]) (x:=C6 0 a) ⟨a,rfl,h⟩
 exact⟨b,d1,hb⟩
theorem Hm {c:tD} (hc:CW c) {most:Nat} (hm:most<=900):Dr E3 (cP c (most:Int)):=by
 unfold cP;refine Dr.bind (Oi hc hm) λc a hc ha=>?_;have hA:=ha.1.any
 have hn:=ha.1.n;refine Dr.bind (vi hc 16) λc k hc _=>?_;refine Dr.cond ?_ (Dr.cond ?_ (Dr.cond ?_ (Dr.cond ?_ (Dr.cond ?_ ?_))))
 · obtain⟨c',b,e,w,h1,h2⟩:=PY hc;simp only;rw[e,an];exact Dr.some w ⟨⟨h1,hA.1.n,hA.1.j⟩,⟨h2,hA.2.1.2⟩,hA.2.2⟩
 · exact Dr.bind (AD hc (by decide)) λc x hc _=>Dr.some hc ⟨⟨hA.1.b,hA.1.n,hA.1.j⟩,hA.2.1,hA.2.2⟩
 · exact Dr.bind (AD hc (by decide)) λc x hc _=>Dr.some hc ⟨⟨hA.1.b,hA.1.n,hA.1.j⟩,hA.2.1,hA.2.2⟩
 · refine Dr.bind (vi hc 2) λc u hc _=>?_;refine Dr.bind (vi hc 4) λc v hc _=>?_;refine Dr.bind (vi hc 3) λc s hc _=>?_;refine Dr.bind (vi hc 5) λc t hc _=>?_;refine Dr.bind (Q:=BG) (Kb hc ha.1.b.w λc hc=>by obtain⟨c',o,e,w,h⟩:=Kw hc ha.1.b;exact⟨c',o,e,w,h⟩) λc p hc hp=>?_;obtain⟨c',b,e,w,h1,h2,_⟩:=Gu hc;simp only;rw[e,an];have hap:∀j:um,tJ a.2.2.2.2.2.2.2.2.2.2.2.2.1 [j]=some (th a++[j]):=λj=>tn (by show (th a).length+1<=_;omega)
   simp only;rw[hap,an];refine Dr.some w ⟨⟨hA.1.b,?_,?_⟩,⟨hA.2.1.1,hA.2.1.2.1,?_,?_⟩,?_⟩
   · show (th a++[_]).length<=1048576;rw[length_append];show (th a).length+1<=_;omega
   · intro j hj;rcases mem_append.1 (show j∈th a++[_]from hj)with hj|hj
     · exact hA.1.j j hj
     · rw[mem_singleton.1 hj];exact⟨hp.le,h1⟩
   · show (th a++[_]).length<=1048576;rw[length_append];show (th a).length+1<=_;omega
   · intro j hj;rcases mem_append.1 (show j∈th a++[_]from hj)with hj|hj
     · exact hA.2.1.2.2.2 j hj
     · rw[mem_singleton.1 hj];exact⟨(by show 0<=1048576;decide),hp.le,(C7 h1 h2).le⟩
   · intro j hj;rcases mem_append.1 (show j∈th a++[_]from hj)with hj|hj
     · exact hA.2.2 j hj
     · rw[mem_singleton.1 hj];intro x hx;cases hx
 · obtain⟨b,l1,l2⟩:=RW ha.1;simp only;exact⟨c,b,vz l1 rfl,hc,l2.any⟩
 · exact Dr.some hc hA
theorem MK {code:List Int} (h:code.length<=1048576):∃a,gB code=some a/\E3 a:=by
 obtain⟨c0,e0,w0⟩:=Io (code:=code) h;obtain⟨k,e1,hk⟩:=Hl h (m:=12) (by omega);have e1:aI code 12=some (k:Int):=e1
 obtain⟨c2,a,e2,w2,ha⟩:=Hm w0 (most:=k) (by omega);refine⟨a,?_,ha⟩;unfold gB;rw[e0,an,e1,an,e2,an]

theorem Dr.mono {α:Type} {P Q:α->Prop} {o:Option (tD×α)} (h:Dr P o) (k:∀x,P x->Q x):Dr Q o:=by
 obtain⟨c,x,e,w,hx⟩:=h;exact⟨c,x,e,w,k x hx⟩
def LK (n:Nat) (p:tQ):Prop:=p.2.2.2.2.length<=n/\∀x∈p.2.2.2.2,E4 M x
theorem LK.le {n:Nat} {p:tQ} (h:LK n p) (hn:n<=1000):vQ M p:=⟨by have:=h.1;show _<=1048576;omega,h.2⟩
theorem LK.up {n m:Nat} {p:tQ} (h:LK n p) (hn:n<=m):LK m p:=⟨Nat.le_trans h.1 hn,h.2⟩
theorem Jj {b:td} (h:wY b) (hb:xV M b) {p:tQ} (hp:vQ M p):xV M (va b p).1/\vQ M (va b p).2.1/\((va b p).2.2=false->(va b p).1=b):=by
 have h0:vQ M (0,0,0,0,[]):=⟨by show 0<=1048576;decide,λx hx=>by cases hx⟩;unfold va;cases he:BD b p with
 | false=>exact⟨hb,h0,λ_=>rfl⟩
 | true =>
  unfold BD at he;simp only[aT]at he;obtain⟨e1,e2,e3⟩:=he;have hdn:uv (xn b p).1:=by
   have:=FR (C7 h e1) p;unfold va BD at this;rw[e1,e2,e3]at this;exact this
  exact⟨hdn.le,E0 (O2 (Lz e2)),λhc=>by cases hc⟩
theorem Pd {p:tQ} (hp:vQ M p):vQ M (yt p):=by
 unfold yt;cases uM (162,p.2.1,6,1,p.2.2.2.2)with
 | true=>exact hp
 | false=>exact⟨by show 0<=1048576;decide,λx hx=>by cases hx⟩
theorem Pe (w:List UInt8) {b:td} (hb:uv b) {j:um} (h:AS j) {d:List v9} (hd:(xf w b j).2=.gone d):∀x∈d,vQ M x.2:=by
 have one:∀{y:v9} {x:v9},vQ M y.2->x∈[y]->vQ M x.2:=λhy hx=>by rw[mem_singleton.1 hx];exact hy
 unfold xf at hd;cases h0:(j.2.2.1==0)with
 | true =>
  rw[h0,cT]at hd;cases h1:((ut w j.2.1).2==3)with
  | true=>rw[h1]at hd;cases hd;intro x hx;cases hx
  | false =>
   rw[h1,cF]at hd;cases h2:((ut w j.2.1).2 != 0||((ut w j.2.1).1.1==162))with
   | true=>rw[h2]at hd;cases hd;intro x hx;cases hx
   | false=>rw[h2]at hd;cases hd
 | false =>
  rw[h0,cF]at hd;cases h1:(j.2.2.1==2)with
  | true =>
   rw[h1,cT]at hd;cases h2:(j.2.2.2.1 != 163)with
   | true=>rw[h2]at hd;cases hd;exact λx hx=>one (Jj h.bw h.bl h.pl).2.1 hx
   | false =>
    rw[h2,cF]at hd;cases h3:(b.2.2.2.2.2.2.2.2.2.2==(jB j).2.2.2.2.2.2.2.2.2.2)with
    | true=>rw[h3]at hd;cases hd;exact λx hx=>one (Jj hb.w hb.le h.pl).2.1 hx
    | false =>
     rw[h3,cF]at hd;cases h4:decide (u4 j>=3)with
     | true=>rw[h4]at hd;cases hd;exact λx hx=>one (Pd h.pl) hx
     | false=>rw[h4]at hd;cases hd
  | false =>
   rw[h1,cF]at hd;cases h2:decide (x7 j<((jP j).2.2.2.2.length:Int))with
   | true=>rw[h2]at hd;cases hd
   | false=>rw[h2]at hd;cases hd
theorem LL {a:tB} (h:uA a) {k:Nat} (hk:k<(th a).length):∀x∈(ua a k (th a)[k]).2,vQ M x.2:=by
 have hs:=λd=>Pe (aW a) h.b (h.j _ (getElem_mem hk)) (d:=d);unfold ua;cases hf:(xf (aW a) (aB a) (th a)[k]).2 with
 | stay j'=>intro x hx;cases hx
 | gone d=>exact hs d hf
theorem Nt:∀(n:Nat) (a:tB),uA a->uA (vw n a).1/\(vw n a).2.length<=n/\∀x∈(vw n a).2,vQ M x.2
 | 0,a,h=>⟨h,Nat.le_refl _,λx hx=>by cases hx⟩
 | n+1,a,h=>by
  cases he:th a with
  | nil =>
   have er:vw (n+1) a=(a,[]):=by
    show (match th a with | []=>(a,[])|j::_=>((vw n (ua a 0 j).1).1,(ua a 0 j).2++(vw n (ua a 0 j).1).2))=_;rw[he]
   rw[er];exact⟨h,by simp,λx hx=>by cases hx⟩
  | cons j r =>
   have er:vw (n+1) a=((vw n (ua a 0 j).1).1,(ua a 0 j).2++(vw n (ua a 0 j).1).2):=by
    show (match th a with | []=>(a,[])|j::_=>((vw n (ua a 0 j).1).1,(ua a 0 j).2++(vw n (ua a 0 j).1).2))=_;rw[he]
   have h0:0<(th a).length:=by rw[he];simp
   have e0:(th a)[0]=j:=by simp[he]
   obtain⟨w1,w2⟩:=BE h h0;have w3:=LL h h0
   rw[e0]at w1 w2 w3;obtain⟨i1,i2,i3⟩:=Nt n _ w1;rw[er];refine⟨i1,?_,λx hx=>?_⟩
   · show ((ua a 0 j).2++(vw n (ua a 0 j).1).2).length<=n+1;rw[length_append];omega
   · rcases mem_append.1 hx with hx|hx
     · exact w3 x hx
     · exact i3 x hx
theorem H3 {n:Nat} (hn:n<=500):∀(m i:Nat) (a:tB) (all:List v9),uA a->i+m=n->all.length+m<=1000->loop (λz:P3=>fb (n:Int) z.1 z.2.1 z.2.2.1 z.2.2.2.1 z.2.2.2.2.1 z.2.2.2.2.2.1 z.2.2.2.2.2.2.1 z.2.2.2.2.2.2.2.1 z.2.2.2.2.2.2.2.2.1 z.2.2.2.2.2.2.2.2.2.1 z.2.2.2.2.2.2.2.2.2.2.1 z.2.2.2.2.2.2.2.2.2.2.2.1 z.2.2.2.2.2.2.2.2.2.2.2.2.1 z.2.2.2.2.2.2.2.2.2.2.2.2.2.1 z.2.2.2.2.2.2.2.2.2.2.2.2.2.2.1 z.2.2.2.2.2.2.2.2.2.2.2.2.2.2.2.1 z.2.2.2.2.2.2.2.2.2.2.2.2.2.2.2.2) (Cn (i:Int) a all)=some (P4 (vw m a).1 (all++(vw m a).2))
 | 0,i,a,all,h,hi,hl=>by
  refine tR ?_;dsimp only[Cn];unfold fb;rw[tW (by omega),cF,an,cF];simp only[vw,append_nil];rfl
 | m+1,i,a,all,h,hi,hl=>by
  by_cases hj:0<(th a).length
  · obtain⟨j,r,hjr⟩:∃j r,th a=j::r:=by
     cases he:th a with
     | nil=>rw[he]at hj;simp at hj
     | cons j r=>exact⟨j,r,rfl⟩
    obtain⟨w1,w2⟩:=BE h hj;have e0:(th a)[0]=j:=by simp[hjr]
    rw[e0]at w1 w2;have hwk:=Ns h hj
    rw[e0]at hwk;have er:vw (m+1) a=((vw m (ua a 0 j).1).1,(ua a 0 j).2++(vw m (ua a 0 j).1).2):=by
     show (match th a with | []=>(a,[])|j::_=>((vw m (ua a 0 j).1).1,(ua a 0 j).2++(vw m (ua a 0 j).1).2))=_;rw[hjr]
    rw[er];refine tO (y:=Cn ((i+1:Nat):Int) (ua a 0 j).1 (all++(ua a 0 j).2)) ?_ ?_
    · dsimp only[Cn];unfold fb;have hjl:decide (((a.2.2.2.2.2.2.2.2.2.2.2.2.1.length:Nat):Int)>0)=true:=dT (by show ((th a).length:Int)>0;omega)
      rw[u0 (by omega),cT,hjl,an,cT];have hwk':dR (a.1,a.2.1,a.2.2.1,a.2.2.2.1,a.2.2.2.2.1,a.2.2.2.2.2.1,a.2.2.2.2.2.2.1,a.2.2.2.2.2.2.2.1,a.2.2.2.2.2.2.2.2.1,a.2.2.2.2.2.2.2.2.2.1,a.2.2.2.2.2.2.2.2.2.2.1,a.2.2.2.2.2.2.2.2.2.2.2.1,a.2.2.2.2.2.2.2.2.2.2.2.2.1,a.2.2.2.2.2.2.2.2.2.2.2.2.2.1,a.2.2.2.2.2.2.2.2.2.2.2.2.2.2) 0=some (ua a 0 j):=hwk
      rw[hwk',an,tn (by omega),an,tz (by omega)]
    · have:=H3 hn m (i+1) (ua a 0 j).1 (all++(ua a 0 j).2) w1 (by omega) (by rw[length_append];omega);rw[this,append_assoc]
  · have hj0:th a=[]:=List.length_eq_zero_iff.1 (by omega);have er:vw (m+1) a=(a,[]):=by
     show (match th a with | []=>(a,[])|j::_=>((vw m (ua a 0 j).1).1,(ua a 0 j).2++(vw m (ua a 0 j).1).2))=_;rw[hj0]
    rw[er];refine tR ?_;dsimp only[Cn];unfold fb;have hjl:decide (((a.2.2.2.2.2.2.2.2.2.2.2.2.1.length:Nat):Int)>0)=false:=dF (by show ¬((th a).length:Int)>0;omega)
    rw[u0 (by omega),cT,hjl,an,cF,append_nil];rfl
theorem ML {a:tB} (h:uA a) {n:Nat} (hn:n<=500):cS a (n:Int)=some (vw n a):=by
 unfold cS;rw[yu h.ale,an,AM h.awf,an,h.ok,Bool.not_true,cF,yw,an,z7 (by omega) (by omega),an,Bool.not_true,cF];have:=H3 hn n 0 a [] h (by omega) (by simp;omega)
 refine (congrArg (λo=>Option.bind o _) this).trans ?_;rfl
def R5 (a:tB) (o q:Option (tB×List v9)):Prop:=∃r,o=some r/\q=some r/\BI M r.1/\r.2.length<=M/\∀x∈r.2,vQ M x.2
theorem Es {a:tB} (h:BI M a):BI M a/\([]:List v9).length<=M/\∀x∈([]:List v9),vQ M x.2:=⟨h,by show 0<=1048576;decide,λx hx=>by cases hx⟩
theorem Oj {a:tB} (h:E3 a) (k:Int):R5 a (bI a k) (aR a k):=by
 obtain⟨hw,hl,hb⟩:=h;cases hp:xk a with
 | false =>
  obtain⟨r,r1,r2,_,r4,_⟩:=H1 hw hl hb k;have e:=r4 hp
  subst e;exact⟨_,r1,r2,Es hl⟩
 | true =>
  have h:=Gt hw hl hb hp;by_cases hk:0<=k/\k<((th a).length:Int)
  · obtain⟨n,rfl⟩:∃n:Nat,k=(n:Int):=⟨k.toNat,by omega⟩;have hn:n<(th a).length:=by omega
    obtain⟨w1,w2⟩:=BE h hn;exact⟨_,Np h hn,LH h hn,w1.ale,by show _<=1048576;omega,LL h hn⟩
  · have hk':k<0\/((th a).length:Int)<=k:=by omega
    exact⟨_,Ly h hk',Jf h hk',Es hl⟩
theorem Pf {a:tB} (h:E3 a) (n:Int):R5 a (cV a n) (cS a n):=by
 obtain⟨hw,hl,hb⟩:=h;cases hp:xk a with
 | false =>
  refine⟨(a,[]),?_,?_,Es hl⟩
  · unfold cV;rw[xR hl,an,zt hw,an,hp];rfl
  · unfold cS;rw[yu hl,an,AM hw,an,hp];rfl
 | true =>
  have h:=Gt hw hl hb hp;by_cases hn:0<=n/\n<=500
  · obtain⟨m,rfl⟩:∃m:Nat,n=(m:Int):=⟨n.toNat,by omega⟩;obtain⟨i1,i2,i3⟩:=Nt m a h;exact⟨_,Mz h (by omega),ML h (by omega),i1.ale,by show _<=1048576;omega,i3⟩
  · have hf:tj n 0 500=false:=by
     unfold tj;by_cases h0:0<=n
     · rw[dF (show ¬n<=500 by omega),Bool.and_false]
     · rw[dF h0];rfl
    refine⟨(a,[]),?_,?_,Es hl⟩
    · unfold cV;rw[xR hl,an,zt hw,an,hp,Bool.not_true,cF,wR,an,hf];rfl
    · unfold cS;rw[yu hl,an,AM hw,an,hp,Bool.not_true,cF,yw,an,hf];rfl
theorem Pg {b:td} (h:wY b) (hb:xV M b) {w:List UInt8} (hw:w.length<=M):∃a,gD b w=some a/\cL b w=some a/\BI M a:=by
 have hz:BI M (0,[],[],[],[],[],0,0,0,0,0,[],[],0,0):=by
  have h0:0<=M:=by decide
  exact⟨⟨h0,h0,h0,h0,h0⟩,h0,h0,λx hx=>by cases hx⟩
 unfold gD cL;rw[Ao h,zT h,xr hb,vS hb];simp only[an];cases ue b with
 | false=>exact⟨_,rfl,rfl,hz⟩
 | true =>
  simp only[Bool.not_true,cF,an];cases decide ((w.length:Int)>20)with
  | true=>exact⟨_,rfl,rfl,hz⟩
  | false=>exact⟨_,rfl,rfl,hb,hw,by show 0<=1048576;decide,λx hx=>by cases hx⟩
theorem Ph {c:tD} (h:CW c) {b:td} (hb:wY b):Dr Je (bH c b):=by
 have hq:∀c,CW c->Dr BG (bB c b):=λc hc=>Kb hc hb λc hc=>by obtain⟨c',o,e,w,h⟩:=QO hc hb;exact⟨c',o,e,w,h⟩
 unfold bH;refine Dr.bind (vi h 10) λc t hc _=>?_;refine Dr.cond ?_ (Dr.cond ?_ (Dr.cond ?_ ?_))
 · refine Dr.bind (hq c hc) λc p hc hp=>?_;simp only;rw[zQ _ hp.le,an];obtain⟨m1,m2⟩:=AK [121,97,114,100] p;exact Dr.bind (LA hc m1.1 m2) λc m hc hm=>Dr.some hc hm
 · refine Dr.bind (hq c hc) λc p hc hp=>?_;simp only;rw[zQ _ hp.le,an];exact Dr.some hc (AK _ p).1
 · refine Dr.bind (Ii hc) λc p hc hp=>?_;simp only;rw[zQ _ hp,an];exact Dr.some hc (AK _ p).1
 · refine Dr.bind (hq c hc) λc p hc hp=>?_;simp only;rw[zQ _ hp.le,an];exact Dr.some hc (AK _ p).1

end Go.V.W

