/- The law FnAllGo: part of the proof that for every input it returns true. No condition. -/
import Derived.Test.YtpidgkkbmlgehaaGreatFnAllGoBP2
open List (append_nil getElem_mem getElem_set_self length_append length_drop length_map length_set length_singleton length_take map_append map_map mem_append mem_cons mem_map mem_of_mem_drop mem_of_mem_take mem_singleton nil_append not_mem_nil set_set take_add_one take_length take_of_length_le)
set_option linter.unusedVariables false
set_option linter.unusedSimpArgs false
namespace Go.V.W
theorem Qn (r:uX) (hr:r.2.2=true) (K I A B:Int) (c:List Int):GR r K I A B c 0 []=some (r.1,r.2.1,true,K,I,A,B,c,0,false,[]):=by
 refine te ?_;show au r.1 r.2.1 r.2.2 K I A B c 0 false []=_
 unfold au;rw[hr];rfl
theorem wM.of {p:tg} (h:∀x∈p.2.2.2.2,wE x=true) (h2:p.2.2.2.2.length<=11):wM M p:=⟨by show _<=1048576;omega,λx hx=>vD (h x hx)⟩
theorem Ob {b:List Int} (hb:uu b) (hn:b.length<=M):∃r,fR b=some r/\gR b=some r/\(r=((0,0,0,0,[]),false)\/∃p,r=(p,true)/\uF p=true/\wM M p):=by
 have hM:M=1048576:=rfl;obtain⟨t,t1,t2,t3⟩:=Fq hb hn (i:=0) (by omega);have htb:t.2.1.length<=250/\uu t.2.1:=by
  rcases t3 with rfl|⟨k,body,next,rfl,h⟩
  · exact⟨by simp,yM⟩
  · exact⟨h.n,h.b⟩
 have h0:B3 (t.2.1,0,false):=⟨htb.2,by show t.2.1.length<=M;omega,by show (0:Int)<=0;omega,by show (0:Int)<=(t.2.1.length:Int);omega⟩;obtain⟨d1,a1,b1,c1,e1,f1,g1⟩:=JW h0;obtain⟨d2,a2,b2,c2,e2,f2,g2⟩:=JW c1;obtain⟨d3,a3,b3,c3,e3,f3,g3⟩:=JW c2;obtain⟨d4,a4,b4,c4,e4,m4,n4,k4,f4,g4⟩:=DS c3 48;unfold fR gR;simp only[t1,t2,a1,b1,a2,b2,a3,b3,a4,b4,an];have sp:∃d,GR d4.1 t.1 d1.2 d2.2 d3.2 d4.2 0 []=some d/\d.2.1=d4.1.2.1/\(d4.1.2.2=true->d.2.2.1=true)/\B1 M d.2.2.2.2.2.2.2.2.2.2:=by
  cases hbad:d4.1.2.2 with
  | true=>exact⟨_,Qn d4.1 hbad _ _ _ _ _,rfl,λ_=>rfl,⟨by show 0<=1048576;decide,λx hx=>by simp at hx⟩⟩
  | false =>
   rcases Pg d4.1 hbad t.1 d1.2 d2.2 d3.2 m4 (by omega) 10 [] d4.2 rfl rfl (by simp)with ⟨_,d,q1,_,q3,q4⟩|⟨l',q1,q2,q3,_,q4⟩
   · exact⟨d,q1,q3,λe=>(by cases e),q4⟩
   · exact⟨_,q4,rfl,λe=>(by cases e),⟨by show l'.length<=1048576;omega,λx hx=>vD (q2 x hx)⟩⟩
 obtain⟨d,s1,s2,s3,s4⟩:=sp;have s1':loop (λz:List Int×Int×Bool×Int×Int×Int×Int×List Int×Int×Bool×List sB=>au z.1 z.2.1 z.2.2.1 z.2.2.2.1 z.2.2.2.2.1 z.2.2.2.2.2.1 z.2.2.2.2.2.2.1 z.2.2.2.2.2.2.2.1 z.2.2.2.2.2.2.2.2.1 z.2.2.2.2.2.2.2.2.2.1 z.2.2.2.2.2.2.2.2.2.2) (d4.1.1,d4.1.2.1,d4.1.2.2,t.1,d1.2,d2.2,d3.2,d4.2,0,false,[])=some d:=s1
 rw[s1',an];have pd:bK (d.2.2.2.1,d.2.2.2.2.1,d.2.2.2.2.2.1,d.2.2.2.2.2.2.1,d.2.2.2.2.2.2.2.2.2.2)=some (uF (d.2.2.2.1,d.2.2.2.2.1,d.2.2.2.2.2.1,d.2.2.2.2.2.2.1,d.2.2.2.2.2.2.2.2.2.2)):=JM (p:=(d.2.2.2.1,d.2.2.2.2.1,d.2.2.2.2.2.1,d.2.2.2.2.2.2.1,d.2.2.2.2.2.2.2.2.2.2)) s4
 simp only[pd,an];cases hok:t.2.2.2 with
 | false=>exact⟨_,rfl,rfl,.inl rfl⟩
 | true =>
 simp only[Bool.not_true,cF,an];cases hnx:(t.2.2.1 != (b.length:Int))with
 | true=>exact⟨_,rfl,rfl,.inl rfl⟩
 | false =>
 simp only[cF,an];unfold hC;cases hbad:d4.1.2.2 with
 | true =>
  rw[s3 hbad];exact⟨_,rfl,rfl,.inl rfl⟩
 | false =>
 simp only[Bool.not_false,cT,an];have hlen:d4.1.1=t.2.1:=by rw[e4,e3,e2,e1]
 rw[s2,hlen];cases hat:(d4.1.2.1==(t.2.1.length:Int))with
 | false =>
  have:(d4.1.2.1 != (t.2.1.length:Int))=true:=by rw[bne,hat];rfl
  rw[this];refine⟨((0,0,0,0,[]),false),rfl,?_,.inl rfl⟩;cases d.2.2.1<;>rfl
 | true =>
 have hat':(d4.1.2.1 != (t.2.1.length:Int))=false:=by rw[bne,hat];rfl
 rw[hat'];simp only[Bool.not_true,cF];obtain⟨x3,p4⟩:=g4 hbad;obtain⟨x2,p3,i3⟩:=g3 x3;obtain⟨x1,p2,i2⟩:=g2 x2;obtain⟨_,p1,i1⟩:=g1 x1;rcases t3 with rfl|⟨k,body,next,rfl,hp⟩
 · cases hok
 simp only at p1 hat hnx hlen;have p1':yy body 0 2 (ut d1.2) d1.1.2.1:=p1
 have p2':yy body d1.1.2.1 2 (ut d2.2) d2.1.2.1:=by rw[e1]at p2;exact p2
 have p3':yy body d2.1.2.1 2 (ut d3.2) d3.1.2.1:=by rw[e2,e1]at p3;exact p3
 have p4':yy body d3.1.2.1 48 d4.2 d4.1.2.1:=by rw[e3,e2,e1]at p4;exact p4
 obtain⟨s1x,y1,z1⟩:=p1'.cons (P:=[]) (s:=body) rfl rfl;obtain⟨s2x,y2,z2⟩:=p2'.cons y1 z1;obtain⟨s3x,y3,z3⟩:=p3'.cons y2 z2;obtain⟨s4x,y4,z4⟩:=p4'.cons y3 z3;have hs4:s4x=[]:=by
  have h1:=congrArg List.length y4;rw[length_append]at h1;have h2:d4.1.2.1=(body.length:Int):=eq_of_beq hat
  exact List.length_eq_zero_iff.1 (by omega)
 subst hs4;rw[append_nil,nil_append]at y4;obtain⟨u1,u2,u3⟩:∃rest,b=tP k body++rest/\rest=[]:=by
  obtain⟨s',w1,w2⟩:=hp.cons (P:=[]) (s:=b) rfl rfl;refine⟨s',by simpa using w1,?_⟩;have h1:=congrArg List.length w1
  rw[length_append]at h1;have h2:next=(b.length:Int):=by simpa using hnx
  exact List.length_eq_zero_iff.1 (by omega)
 subst u3;rw[append_nil]at u2;rcases Pg d4.1 hbad k d1.2 d2.2 d3.2 m4 (by omega) 10 [] d4.2 rfl rfl (by simp)with ⟨j1,dd,j2,j3,_,_⟩|⟨l',w1,w2,w3,j1,j2⟩
 · have hdd:dd=d:=by
    have:some dd=some d:=j2.symm.trans s1;exact Option.some.inj this
   subst hdd;have j1':loop (λz:Int×Int×Int×Int×Int×Int×Int×Int×List Int×Int×Bool×List sB×List sB=>aC z.1 z.2.1 z.2.2.1 z.2.2.2.1 z.2.2.2.2.1 z.2.2.2.2.2.1 z.2.2.2.2.2.2.1 z.2.2.2.2.2.2.2.1 z.2.2.2.2.2.2.2.2.1 z.2.2.2.2.2.2.2.2.2.1 z.2.2.2.2.2.2.2.2.2.2.1 z.2.2.2.2.2.2.2.2.2.2.2.1 z.2.2.2.2.2.2.2.2.2.2.2.2) (0,0,0,0,k,d1.2,d2.2,d3.2,d4.2,0,false,[],[])=some (.inr (false,0,0,0,0,[])):=j1
   rw[j1',an,Sum.elim_inr];refine⟨((0,0,0,0,[]),false),rfl,?_,.inl rfl⟩;cases hd:dd.2.2.1 with
   | true=>rfl
   | false =>
    have h11:dd.2.2.2.2.2.2.2.2.2.2.length=11:=by
     rcases j3 with h|h
     · rw[hd]at h;cases h
     · exact h
    have hpf:uF (dd.2.2.2.1,dd.2.2.2.2.1,dd.2.2.2.2.2.1,dd.2.2.2.2.2.2.1,dd.2.2.2.2.2.2.2.2.2.2)=false:=by
     unfold uF;rw[dF (show ¬((dd.2.2.2.2.2.2.2.2.2.2.length:Nat):Int)<=10 by omega),Bool.and_false,Bool.false_and]
    rw[hpf];simp only[cF,an];cases (dd.2.2.2.2.2.2.2.2.1 != (dd.2.2.2.2.2.2.2.1.length:Int))<;>rfl
 · have hdd:d=(d4.1.1,d4.1.2.1,false,k,d1.2,d2.2,d3.2,d4.2,(d4.2.length:Int),false,l'):=by
    have:some d=some (d4.1.1,d4.1.2.1,false,k,d1.2,d2.2,d3.2,d4.2,(d4.2.length:Int),false,l'):=s1.symm.trans j2;exact Option.some.inj this
   subst hdd;have j1':loop (λz:Int×Int×Int×Int×Int×Int×Int×Int×List Int×Int×Bool×List sB×List sB=>aC z.1 z.2.1 z.2.2.1 z.2.2.2.1 z.2.2.2.2.1 z.2.2.2.2.2.1 z.2.2.2.2.2.2.1 z.2.2.2.2.2.2.2.1 z.2.2.2.2.2.2.2.2.1 z.2.2.2.2.2.2.2.2.2.1 z.2.2.2.2.2.2.2.2.2.2.1 z.2.2.2.2.2.2.2.2.2.2.2.1 z.2.2.2.2.2.2.2.2.2.2.2.2) (0,0,0,0,k,d1.2,d2.2,d3.2,d4.2,0,false,[],[])=some (.inl (0,0,0,0,k,d1.2,d2.2,d3.2,d4.2,(d4.2.length:Int),false,[],l')):=j1
   rw[j1',an,Sum.elim_inl];have hpl:wM M (k,d1.2,d2.2,d3.2,l'):=wM.of (p:=(k,d1.2,d2.2,d3.2,l')) w2 (by show l'.length<=11;omega)
   have hbody:body=xl (k,d1.2,d2.2,d3.2,l'):=by
    rw[y4,w1];rfl
   simp only[Lf hpl,an,bne_self_eq_false,cF];cases hpp:uF (k,d1.2,d2.2,d3.2,l')with
   | false =>
    rw[if_neg (by simp)];exact⟨_,rfl,rfl,.inl rfl⟩
   | true =>
    have hal:(tF l').length<=250:=by rw[←w1];exact n4
    rw[if_pos ⟨rfl,hal,by rw[←hbody];exact hp.n⟩,←hbody,←u2];have hb1:((b.length:Int)==0)=false:=beq_eq_false_iff_ne.2 (by
     have:=HT k body;rw[←u2]at this;omega)
    rw[hb1,beq_self_eq_true];exact⟨_,rfl,rfl,.inr ⟨_,rfl,hpp,hpl⟩⟩

theorem Kv (w:List UInt8) {b:List Int} (hb:uu b) (hn:b.length<=M):∃r,bT w b=some r/\dV w b=some r/\wM M r.1/\(r.2=0->uF r.1=true):=by
 have hM:M=1048576:=rfl;have nil:wM M ((0,0,0,0,[]):tg):=⟨by show 0<=1048576;decide,λx hx=>by simp at hx⟩
 obtain⟨t,t1,t2,t3⟩:=Fq hb hn (i:=0) (by omega);have htb:t.2.1.length<=250/\uu t.2.1:=by
  rcases t3 with rfl|⟨k,body,next,rfl,h⟩
  · exact⟨by simp,yM⟩
  · exact⟨h.n,h.b⟩
 have h0:B3 (t.2.1,0,false):=⟨htb.2,by show t.2.1.length<=M;omega,by show (0:Int)<=0;omega,by show (0:Int)<=(t.2.1.length:Int);omega⟩;obtain⟨d1,a1,b1,c1,e1,f1,g1⟩:=JW h0;obtain⟨d2,a2,b2,c2,e2,m2,n2,k2,f2,g2⟩:=DS c1 4;have hlen:d2.1.1=t.2.1:=by rw[e2,e1]
 have hlo:=c2.lo;have hhi:=c2.hi
 rw[hlen]at hhi;obtain⟨j,hj⟩:∃j:Nat,d2.1.2.1=(j:Int):=⟨d2.1.2.1.toNat,by omega⟩;have hcut:cut t.2.1 d2.1.2.1 (t.2.1.length:Int)=some (t.2.1.drop j):=by
  rw[hj,wg (by omega) (Nat.le_refl _),take_length]
 obtain⟨g,p1,p2,p3⟩:=Ob (b:=t.2.1.drop j) (λx hx=>htb.2 x (mem_of_mem_drop hx)) (by rw[length_drop];omega);unfold bT dV;simp only[t1,t2,a1,b1,a2,b2,an,hcut,p1,p2];cases (!t.2.2.2)with
 | true=>exact⟨_,rfl,rfl,nil,λe=>(by cases e)⟩
 | false =>
 simp only[cF,an];cases (t.1 != 48)with
 | true=>exact⟨_,rfl,rfl,nil,λe=>(by cases e)⟩
 | false =>
 simp only[cF,an];cases (t.2.2.1 != (b.length:Int))with
 | true=>exact⟨_,rfl,rfl,nil,λe=>(by cases e)⟩
 | false =>
 simp only[cF,an];cases d2.1.2.2 with
 | true=>exact⟨_,rfl,rfl,nil,λe=>(by cases e)⟩
 | false =>
 simp only[cF,an];cases (d1.2 != 1)with
 | true=>exact⟨_,rfl,rfl,nil,λe=>(by cases e)⟩
 | false =>
 simp only[cF,an];cases (uf d2.2==w)with
 | false=>exact⟨_,rfl,rfl,nil,λe=>(by cases e)⟩
 | true =>
 simp only[Bool.not_true,cF];rcases p3 with rfl|⟨p,rfl,q1,q2⟩
 · exact⟨_,rfl,rfl,nil,λe=>(by cases e)⟩
 · exact⟨_,rfl,rfl,q2,λ_=>q1⟩

def xY (p:tg):List Int:=if uF p=true/\(tF p.2.2.2.2).length<=250/\(xl p).length<=250 then tP p.1 (xl p)else []
def uE (p:tg):Bool:=sC ((xY p).length:Int) 1 120
theorem DI {p:tg} (hp:wM M p):aN p=some (uE p):=by
 unfold aN;rw[Lf hp,an];show (ac ((xY p).length:Int) 1 120).bind _=_
 rw[wm,an];rfl
theorem AX {α β:Type} {l:List α} {g:α->β} {step:Int×List β->Option ((Int×List β)⊕List β)} (hn:l.length<=M)
 (h1:∀k (hk:k<l.length) (out:List β),out.length=k->step ((k:Int),out)=some (.inl (((k+1:Nat):Int),out++[g l[k]]))) (h2:∀out,step ((l.length:Int),out)=some (.inr out)):loop step (0,[])=some (l.map g):=by
 obtain⟨b,e1,rfl⟩:=sQ (step:=step) (λk z=>z=((k:Int),(l.take k).map g)) l.length (λb=>b=l.map g)
  (λk z hk e=>by
   subst e;refine .inl ⟨_,h1 k hk _ (by rw[length_map,length_take];omega),?_⟩;rw[take_add_one,List.getElem?_eq_getElem hk,map_append];rfl)
  (λz e=>by
   subst e;exact⟨_,h2 _,by rw[take_length]⟩) (x:=(0,[])) rfl
 exact e1
noncomputable def ul (b:sx) (o:List Int):sB:=(bt b o).getD ([],0,0,[],[])
noncomputable def AY (b:sx) (o:List Int):wl:=(bZ b o).getD (0,0,[],[])
theorem DJ {b:sx} (h:tW b) {o:List Int} (ho:o.length<=1000):bt b o=some (ul b o)/\((ul b o∈vz b/\o<(ul b o).1)\/(ul b o=(o,130,0,[],[])/\∀x∈vz b,¬o<x.1)):=by
 obtain⟨j,hj⟩:=PZ (M8 h) o;have e:=Q0 h ho hj
 unfold ul;rw[e];refine⟨rfl,?_⟩;by_cases hl:j<(vz b).length
 · rw[dif_pos hl];exact .inl ⟨getElem_mem hl,hj.yes j hl (Nat.le_refl _)⟩
 · rw[dif_neg hl];refine .inr ⟨rfl,λx hx=>?_⟩;obtain⟨i,hi,rfl⟩:=List.getElem_of_mem hx;exact hj.no i hi (by omega)
theorem LF {b:sx} (h:tW b) {o:List Int} (ho:o.length<9223372036854775807):bZ b o=some (AY b o)/\((∃x∈vz b,x.1=o/\AY b o=x.2)\/((∀x∈vz b,x.1≠o)/\AY b o=(128,0,[],[]))):=by
 obtain⟨v,e,hv⟩:=QK h ho;unfold AY;rw[e];exact⟨rfl,hv⟩
theorem Iq {o:List Int} (h:Nm o):vV o=true:=by
 have h1:=h.ok;rw[CF (by have:=h.n10;omega)]at h1;exact Option.some.inj h1
theorem Ir {v:wl} (h:Vl v):wq v=true:=by
 have h1:=h.ok;rw[Eq (by rw[h.o];show 0<=1048576;omega)]at h1;exact Option.some.inj h1
theorem xn {o:List Int} (h:vV o=true):o.length<=10:=(xF h).2.1
theorem Pl {b:sx} (h:tW b) {x:sB} (hx:x∈vz b):wE x=true:=by
 obtain⟨h1,h2⟩:=zN h x hx;unfold wE;rw[Iq h1,Ir h2];rfl
theorem C5 {b:sx} (h:tW b) {o:List Int} (ho:vV o=true):wE (ul b o)=true:=by
 obtain⟨_,h1⟩:=DJ h (o:=o) (by have:=xn ho;omega);rcases h1 with ⟨h1,_⟩|⟨h1,_⟩
 · exact Pl h h1
 · rw[h1];unfold wE;rw[ho];rfl
theorem vX {x:sB} (h:wE x=true):vV x.1=true:=by
 unfold wE at h;rw[aT]at h;exact h.1
theorem Ms {b:sx} (h:tW b) {o:List Int} (ho:o.length<9223372036854775807):wq (AY b o)=true:=by
 obtain⟨_,h1⟩:=LF h ho;rcases h1 with ⟨x,hx,_,e⟩|⟨_,e⟩
 · rw[e];exact Ir (zN h x hx).2
 · rw[e];rfl
def xZ (s:List sB×List (List Int)):Nat:=min s.2.length (10-s.1.length)
noncomputable def Ae (b:sx) (s:List sB×List (List Int)):List sB×List (List Int):=(s.1++(s.2.take (xZ s)).map (ul b),(s.2.take (xZ s)).map (λo=>(ul b o).1)++s.2.drop (xZ s))
noncomputable def zK (b:sx):Nat->List sB×List (List Int)->List sB×List (List Int)
 | 0,s=>s
 | k+1,s=>if 0<s.2.length/\s.1.length<10 then zK b k (Ae b s)else s
structure Dk (s:List sB×List (List Int)):Prop where
 o10:s.1.length<=10
 l10:s.2.length<=10
 oOk:∀x∈s.1,wE x=true
 lOk:∀o∈s.2,vV o=true
theorem Kw {b:sx} (h:tW b) {s:List sB×List (List Int)} (hs:Dk s):Dk (Ae b s):=by
 obtain⟨h1,h2,h3,h4⟩:=hs;refine⟨?_,?_,λx hx=>?_,λo ho=>?_⟩
 · show (s.1++_).length<=10;rw[length_append,length_map,length_take];unfold xZ;omega
 · show (_++s.2.drop (xZ s)).length<=10;rw[length_append,length_map,length_take,length_drop];unfold xZ;omega
 · rcases mem_append.1 hx with hx|hx
   · exact h3 x hx
   · obtain⟨o,ho,rfl⟩:=mem_map.1 hx;exact C5 h (h4 o (mem_of_mem_take ho))
 · rcases mem_append.1 ho with ho|ho
   · obtain⟨q,hq,rfl⟩:=mem_map.1 ho;exact vX (C5 h (h4 q (mem_of_mem_take hq)))
   · exact h4 o (mem_of_mem_drop ho)
theorem Qo {b:sx} (h:tW b) {s:List sB×List (List Int)} (hs:Dk s):loop (λz=>cE b s.2 z.1 z.2.1 z.2.2) (0,s.1,s.2)=some (Ae b s):=by
 obtain⟨out,l⟩:=s;obtain⟨h1,h2,h3,h4⟩:=hs;simp only at h1 h2 h3 h4;have hm:xZ (out,l)=min l.length (10-out.length):=rfl
 obtain⟨v,e1,rfl⟩:=sQ (step:=λz:Int×List sB×List (List Int)=>cE b l z.1 z.2.1 z.2.2) (λk z=>z=((k:Int),out++(l.take k).map (ul b),(l.take k).map (λo=>(ul b o).1)++l.drop k)) (xZ (out,l)) (λv=>v=Ae b (out,l))
  (λk z hk e=>by
   subst e;left;have hkl:k<l.length:=by omega
   have hlen:((l.take k).map (λo=>(ul b o).1)++l.drop k).length=l.length:=by rw[length_append,length_map,length_take,length_drop];omega
   have hol:(out++(l.take k).map (ul b)).length=out.length+k:=by rw[length_append,length_map,length_take];omega
   have hA:((l.take k).map (λo=>(ul b o).1)).length=k:=by rw[length_map,length_take];omega
   have hget:((l.take k).map (λo=>(ul b o).1)++l.drop k)[k]?=some l[k]:=by
    rw[List.getElem?_append_right (by omega),hA,Nat.sub_self,List.getElem?_drop,Nat.add_zero,List.getElem?_eq_getElem hkl]
   have hn:=(DJ h (o:=l[k]) (by have:=xn (h4 _ (getElem_mem hkl));omega)).1;refine⟨_,?_,rfl⟩;show cE b l (k:Int) _ _=_
   unfold cE;rw[tC (by omega),cT,hol,dF (by omega),cF,hlen,vI hkl];simp only[an,hget,hn];rw[sE (by rw[hol];show out.length+k+1<=_;omega),an,sK (by omega)];have t1:(l.take (k+1))=l.take k++[l[k]]:=by rw[take_add_one,List.getElem?_eq_getElem hkl];rfl
   have t2:((l.take k).map (λo=>(ul b o).1)++l.drop k).set k (ul b l[k]).1=(l.take (k+1)).map (λo=>(ul b o).1)++l.drop (k+1):=by
    rw[List.set_append_right _ _ (by omega),hA,Nat.sub_self,List.drop_eq_getElem_cons hkl,List.set_cons_zero,t1,map_append,List.append_assoc];rfl
   rw[t2,t1];simp only[map_append,List.map_cons,List.map_nil,List.append_assoc])
  (λz e=>by
   subst e;refine⟨_,?_,rfl⟩;show cE b l ((xZ (out,l):Nat):Int) _ _=_
   have hol:(out++(l.take (xZ (out,l))).map (ul b)).length=out.length+xZ (out,l):=by rw[length_append,length_map,length_take];omega
   unfold cE;rw[hol];by_cases hlt:((xZ (out,l):Nat):Int)<(l.length:Int)
   · rw[tC hlt,cT,dT (by omega),cT];rfl
   · rw[tk hlt,cF];rfl) (x:=(0,out,l)) (by simp)
 exact e1
theorem Is {b:sx} (h:tW b):∀(n:Nat) {s:List sB×List (List Int)},Dk s->Dk (zK b n s)
 | 0,s,hs=>hs
 | n+1,s,hs=>by
  unfold zK;split
  · exact Is h n (Kw h hs)
  · exact hs
theorem Mt {b:sx} (h:tW b) {p:tg} (hB:p.2.2.2.1<=1000):∀(n i:Nat) {s:List sB×List (List Int)},Dk s->((i+n:Nat):Int)=p.2.2.2.1->loop (λz=>bH b p z.1 z.2.1 z.2.2) ((i:Int),s.1,s.2)=some (zK b n s)
 | 0,i,s,hs,e=>by
  refine te ?_;show bH b p (i:Int) s.1 s.2=_
  unfold bH;rw[tk (by omega),cF,an,cF,an,cF];rfl
 | n+1,i,s,hs,e=>by
  by_cases hc:0<s.2.length/\s.1.length<10
  · refine sY (y:=(((i+1:Nat):Int),(Ae b s).1,(Ae b s).2)) ?_ ?_
    · show bH b p (i:Int) s.1 s.2=_;unfold bH;rw[tC (by omega),cT,dT (by omega),an,cT,tC (by omega),an,cT,Qo h hs,an,sK (by omega)]
    · have:=Mt h hB n (i+1) (Kw h hs) (by omega);rw[this,show zK b (n+1) s=zK b n (Ae b s)from if_pos hc]
  · refine te ?_;show bH b p (i:Int) s.1 s.2=_
    have e2:zK b (n+1) s=s:=if_neg hc;rw[e2];unfold bH;rw[tC (by omega),cT];by_cases h1:0<s.2.length
    · rw[dT (by omega),an,cT,tk (by omega),an,cF]
    · rw[dF (by omega),an,cF,an,cF]
def ub (p:tg):Nat:=min p.2.2.1.toNat p.2.2.2.2.length
noncomputable def Jp (b:sx) (p:tg):List sB×List (List Int):=zK b p.2.2.2.1.toNat ((p.2.2.2.2.take (ub p)).map (λx=>ul b x.1),(p.2.2.2.2.drop (ub p)).map (λx=>x.1))
noncomputable def wz (b:sx) (p:tg):List sB:=(Jp b p).1
theorem Mu {b:sx} (h:tW b) {p:tg} (hp:uF p=true):Dk ((p.2.2.2.2.take (ub p)).map (λx=>ul b x.1),(p.2.2.2.2.drop (ub p)).map (λx=>x.1)):=by
 obtain⟨h1,h2,_⟩:=va hp;refine⟨?_,?_,λx hx=>?_,λo ho=>?_⟩
 · rw[length_map,length_take];omega
 · rw[length_map,length_drop];omega
 · obtain⟨y,hy,rfl⟩:=mem_map.1 hx;exact C5 h (vX (h1 y (mem_of_mem_take hy)))
 · obtain⟨y,hy,rfl⟩:=mem_map.1 ho;exact vX (h1 y (mem_of_mem_drop hy))
theorem It {b:sx} (h:tW b) {p:tg} (hp:uF p=true):Dk (Jp b p):=Is h _ (Mu h hp)
theorem Pm {b:sx} (h:tW b) {p:tg} (hp:uF p=true):fS b p=some (wz b p):=by
 obtain⟨h1,h2,_,_,h5,h6⟩:=va hp;have hmin:min2 p.2.2.1 (p.2.2.2.2.length:Int)=((ub p:Nat):Int):=by
  unfold min2 ub;split<;>omega
 have hon:ub p<=p.2.2.2.2.length:=Nat.min_le_right _ _;unfold fS;show ((cut p.2.2.2.2 0 (min2 p.2.2.1 (p.2.2.2.2.length:Int))).bind _)=_
 rw[hmin];have c1:cut p.2.2.2.2 0 ((ub p:Nat):Int)=some (p.2.2.2.2.take (ub p)):=by
  have:=wg (l:=p.2.2.2.2) (a:=0) (b:=ub p) (by omega) hon;simpa using this
 have c2:cut p.2.2.2.2 ((ub p:Nat):Int) (p.2.2.2.2.length:Int)=some (p.2.2.2.2.drop (ub p)):=by
  have:=wg (l:=p.2.2.2.2) (a:=ub p) (b:=p.2.2.2.2.length) hon (Nat.le_refl _);rw[take_length]at this;exact this
 have l1:loop (λz:Int×List sB=>dL b (p.2.2.2.2.take (ub p)) z.1 z.2) (0,[])=some ((p.2.2.2.2.take (ub p)).map (λx=>ul b x.1)):=by
  refine AX (by show _<=1048576;rw[length_take];omega) (λk hk out ho=>?_) (λout=>?_)
  · have hx:=h1 _ (mem_of_mem_take (getElem_mem hk));have hk':=hk
    rw[length_take]at hk';show dL b _ (k:Int) out=_
    unfold dL;rw[tC (by omega),cT,sO hk,an,(DJ h (by have:=xn (vX hx);omega)).1,an,sE (by rw[ho];show k+1<=_;omega),an,sK (by omega)]
  · show dL b _ ((p.2.2.2.2.take (ub p)).length:Int) out=_;unfold dL;rw[tk (by omega),cF]
 have l2:loop (λz:Int×List (List Int)=>dM (p.2.2.2.2.drop (ub p)) z.1 z.2) (0,[])=some ((p.2.2.2.2.drop (ub p)).map (λx=>x.1)):=by
  refine AX (by show _<=1048576;rw[length_drop];omega) (λk hk out ho=>?_) (λout=>?_)
  · have hk':=hk;rw[length_drop]at hk';show dM _ (k:Int) out=_
    unfold dM;rw[tC (by omega),cT,sO hk,an,sE (by rw[ho];show k+1<=_;omega),an,sK (by omega)]
  · show dM _ ((p.2.2.2.2.drop (ub p)).length:Int) out=_;unfold dM;rw[tk (by omega),cF]
 rw[c1,an,l1,an,c2,an,l2,an];have:=Mt h (p:=p) (by omega) p.2.2.2.1.toNat 0 (Mu h hp) (by omega)
 have this:loop (λz=>bH b p z.1 z.2.1 z.2.2) (0,(p.2.2.2.2.take (ub p)).map (λx=>ul b x.1),(p.2.2.2.2.drop (ub p)).map (λx=>x.1))=_:=this;rw[this,an];rfl
def shr (f:List sB->Bool):Nat->List sB->Option (List sB)
 | 0,_=>none
 | n+1,l=>if f (l.take n)=true then some (l.take n)else shr f n (l.take n)
theorem Eh {α β γ δ:Type} {step:α->Option (α⊕(β⊕δ))} {x:α} {F:β->Option γ} {G:δ->Option γ} {R:Option γ} (h:∃d,step x=some (.inr (.inl d))) (k:∀d,F d=R):(loop step x).bind (Sum.elim F G)=R:=by
 obtain⟨d,h⟩:=h;rw[te h,an,Sum.elim_inl,k]
abbrev R6:=Int×List UInt8×Int×Int×Int×Int×Int×Int×Int×Int×Int×Int×List UInt8×Int×Int×Int×Int×Int×Int×Int×Int×Int×List sB×List Pt×List sD×List sM×List Int×List sB×List Pt×List sD×List sM×List Int
theorem Oc {p:tg} (h165:(p.1==165)=true) (b:sx) (j0:Int) (j1:List UInt8) (j2 j3 j4 j5 j6 j7 j8 j9 j10:Int) (k i a c:Int) (j11:List Pt) (j12:List sD) (j13:List sM) (j14:List Int) (j15:List sB):∀(n:Nat) (l:List sB),l.length=n->n<=10->(∀x∈l,E8 M x) ->
 ∃w,loop (λz:R6=>eU p z.1 z.2.1 z.2.2.1 z.2.2.2.1 z.2.2.2.2.1 z.2.2.2.2.2.1 z.2.2.2.2.2.2.1 z.2.2.2.2.2.2.2.1 z.2.2.2.2.2.2.2.2.1 z.2.2.2.2.2.2.2.2.2.1 z.2.2.2.2.2.2.2.2.2.2.1 z.2.2.2.2.2.2.2.2.2.2.2.1 z.2.2.2.2.2.2.2.2.2.2.2.2.1 z.2.2.2.2.2.2.2.2.2.2.2.2.2.1 z.2.2.2.2.2.2.2.2.2.2.2.2.2.2.1 z.2.2.2.2.2.2.2.2.2.2.2.2.2.2.2.1 z.2.2.2.2.2.2.2.2.2.2.2.2.2.2.2.2.1 z.2.2.2.2.2.2.2.2.2.2.2.2.2.2.2.2.2.1 z.2.2.2.2.2.2.2.2.2.2.2.2.2.2.2.2.2.2.1 z.2.2.2.2.2.2.2.2.2.2.2.2.2.2.2.2.2.2.2.1 z.2.2.2.2.2.2.2.2.2.2.2.2.2.2.2.2.2.2.2.2.1 z.2.2.2.2.2.2.2.2.2.2.2.2.2.2.2.2.2.2.2.2.2.1 z.2.2.2.2.2.2.2.2.2.2.2.2.2.2.2.2.2.2.2.2.2.2.1 z.2.2.2.2.2.2.2.2.2.2.2.2.2.2.2.2.2.2.2.2.2.2.2.1 z.2.2.2.2.2.2.2.2.2.2.2.2.2.2.2.2.2.2.2.2.2.2.2.2.1 z.2.2.2.2.2.2.2.2.2.2.2.2.2.2.2.2.2.2.2.2.2.2.2.2.2.1 z.2.2.2.2.2.2.2.2.2.2.2.2.2.2.2.2.2.2.2.2.2.2.2.2.2.2.1 z.2.2.2.2.2.2.2.2.2.2.2.2.2.2.2.2.2.2.2.2.2.2.2.2.2.2.2.1 z.2.2.2.2.2.2.2.2.2.2.2.2.2.2.2.2.2.2.2.2.2.2.2.2.2.2.2.2.1 z.2.2.2.2.2.2.2.2.2.2.2.2.2.2.2.2.2.2.2.2.2.2.2.2.2.2.2.2.2.1 z.2.2.2.2.2.2.2.2.2.2.2.2.2.2.2.2.2.2.2.2.2.2.2.2.2.2.2.2.2.2.1 z.2.2.2.2.2.2.2.2.2.2.2.2.2.2.2.2.2.2.2.2.2.2.2.2.2.2.2.2.2.2.2) (j0,j1,j2,j3,j4,j5,j6,j7,j8,j9,j10,b.1,b.2.1,b.2.2.2.2.2.2.1,b.2.2.2.2.2.2.2.1,b.2.2.2.2.2.2.2.2.1,b.2.2.2.2.2.2.2.2.2.1,b.2.2.2.2.2.2.2.2.2.2,k,i,a,c,l,j11,j12,j13,j14,j15,b.2.2.1,b.2.2.2.1,b.2.2.2.2.1,b.2.2.2.2.2.1)=some w/\(match shr (λt=>uE (k,i,a,c,t)) n l with|some t=>w=.inr (true,b.1,b.2.1,b.2.2.2.2.2.2.1,b.2.2.2.2.2.2.2.1,b.2.2.2.2.2.2.2.2.1,b.2.2.2.2.2.2.2.2.2.1,b.2.2.2.2.2.2.2.2.2.2,k,i,a,c,t,b.2.2.1,b.2.2.2.1,b.2.2.2.2.1,b.2.2.2.2.2.1)|none=>∃d,w=.inl d)
 | 0,l,hl,hn,hx=>by
  refine⟨_,te (b:=Sum.inl (j0,j1,j2,j3,j4,j5,j6,j7,j8,j9,j10,b.1,b.2.1,b.2.2.2.2.2.2.1,b.2.2.2.2.2.2.2.1,b.2.2.2.2.2.2.2.2.1,b.2.2.2.2.2.2.2.2.2.1,b.2.2.2.2.2.2.2.2.2.2,k,i,a,c,l,j11,j12,j13,j14,j15,b.2.2.1,b.2.2.2.1,b.2.2.2.2.1,b.2.2.2.2.2.1)) ?_,⟨_,rfl⟩⟩;dsimp only;unfold eU;rw[h165,cT,dF (by omega),an,cF]
 | n+1,l,hl,hn,hx=>by
  have hlt:(l.take n).length=n:=by rw[length_take];omega
  have hcut:cut l 0 (sy ((l.length:Int)-1))=some (l.take n):=by
   rw[sV (by omega) (by omega),show (l.length:Int)-1=(n:Int) by omega];have:=wg (l:=l) (a:=0) (b:=n) (by omega) (by omega)
   simpa using this
  have hp:wM M (k,i,a,c,l.take n):=⟨by show (l.take n).length<=1048576;omega,λx h=>hx x (mem_of_mem_take h)⟩;have hstep:∀q:Bool,uE (k,i,a,c,l.take n)=q->eU p j0 j1 j2 j3 j4 j5 j6 j7 j8 j9 j10 b.1 b.2.1 b.2.2.2.2.2.2.1 b.2.2.2.2.2.2.2.1 b.2.2.2.2.2.2.2.2.1 b.2.2.2.2.2.2.2.2.2.1 b.2.2.2.2.2.2.2.2.2.2 k i a c l j11 j12 j13 j14 j15 b.2.2.1 b.2.2.2.1 b.2.2.2.2.1 b.2.2.2.2.2.1=cond q (some (.inr (.inr (true,b.1,b.2.1,b.2.2.2.2.2.2.1,b.2.2.2.2.2.2.2.1,b.2.2.2.2.2.2.2.2.1,b.2.2.2.2.2.2.2.2.2.1,b.2.2.2.2.2.2.2.2.2.2,k,i,a,c,l.take n,b.2.2.1,b.2.2.2.1,b.2.2.2.2.1,b.2.2.2.2.2.1)))) (some (.inl (j0,j1,j2,j3,j4,j5,j6,j7,j8,j9,j10,b.1,b.2.1,b.2.2.2.2.2.2.1,b.2.2.2.2.2.2.2.1,b.2.2.2.2.2.2.2.2.1,b.2.2.2.2.2.2.2.2.2.1,b.2.2.2.2.2.2.2.2.2.2,k,i,a,c,l.take n,j11,j12,j13,j14,j15,b.2.2.1,b.2.2.2.1,b.2.2.2.2.1,b.2.2.2.2.2.1))):=by
   intro q hq;unfold eU;rw[h165,cT,dT (by omega),an,cT,hcut,an,DI hp,an,hq]
  by_cases hf:uE (k,i,a,c,l.take n)=true
  · have e:shr (λt=>uE (k,i,a,c,t)) (n+1) l=some (l.take n):=if_pos hf;rw[e];exact⟨_,te (hstep true hf),rfl⟩
  · have e:shr (λt=>uE (k,i,a,c,t)) (n+1) l=shr (λt=>uE (k,i,a,c,t)) n (l.take n):=if_neg hf;rw[e];obtain⟨w,h1,h2⟩:=Oc h165 b j0 j1 j2 j3 j4 j5 j6 j7 j8 j9 j10 k i a c j11 j12 j13 j14 j15 n (l.take n) hlt (by omega) (λx h=>hx x (mem_of_mem_take h));exact⟨w,sY (hstep false (by simpa using hf)) h1,h2⟩
noncomputable def BG (b:sx) (l:List sB):sx×Int×Int:=(dO b l).getD (b,0,0)
noncomputable def yq (b:sx) (p:tg):sx×tg :=
 cond (p.1==160) (b,162,p.2.1,0,0,p.2.2.2.2.map λx=>(x.1,AY b x.1))
  (cond (p.1==161) (b,162,p.2.1,0,0,p.2.2.2.2.map λx=>ul b x.1)
   (cond (p.1==165) (b,162,p.2.1,0,0,wz b p) ((BG b p.2.2.2.2).1,162,p.2.1,(BG b p.2.2.2.2).2.1,(BG b p.2.2.2.2).2.2,p.2.2.2.2)))
noncomputable def zW (b:sx) (p:tg):sx×tg :=
 match cond (p.1==165) (shr (λt=>uE (162,p.2.1,0,0,t)) (wz b p).length (wz b p)) none with
 | some t=>(b,162,p.2.1,0,0,t)
 | none=>(b,162,p.2.1,7,0,[])
noncomputable def xq (b:sx) (p:tg):sx×tg:=cond (uE (yq b p).2) (yq b p) (zW b p)
noncomputable def Dl (b:sx) (p:tg):Bool:=tI b&&(uF p&&(p.1 != 162))
noncomputable def vh (b:sx) (p:tg):sx×tg×Bool:=cond (Dl b p) ((xq b p).1,(xq b p).2,true) (b,(0,0,0,0,[]),false)
theorem EY {p:tg} (hp:uF p=true):B1 M p.2.2.2.2:=by
 obtain⟨h1,h2,_⟩:=va hp;exact⟨by show _<=1048576;omega,λx hx=>vD (h1 x hx)⟩
theorem Kx {b:sx} (h:wU b) (hb:yt M b) {p:tg} (hp:wM M p):cI b p=some (vh b p):=by
 unfold cI vh Dl;rw[xi hb,an,AB h,an];cases hbr:tI b with
 | false=>rw[Bool.not_false,cT,an,cT,an,cT];rfl
 | true =>
 rw[Bool.not_true,cF,Md hp,an,an];cases hpp:uF p with
 | false=>rw[Bool.not_false,cT,an,cT];rfl
 | true =>
 rw[Bool.not_true,cF,an];cases h162:(p.1==162)with
 | true =>
  have:(p.1 != 162)=false:=by rw[bne,h162];rfl
  rw[cT,this];rfl
 | false =>
 have hne:(p.1 != 162)=true:=by rw[bne,h162];rfl
 have hBO:=CR h hbr;obtain⟨x1,x2,x3,x4,x5,x6⟩:=va hpp;have hxs:=EY hpp
 rw[cF,hne,Bool.true_and,Bool.true_and,cT];unfold xq yq zW;cases h160:(p.1==160)with
 | true =>
  have h165:(p.1==165)=false:=by simp only[beq_iff_eq]at h160;rw[h160];rfl
  have e:loop (λz:Int×Int×Int×Int×Int×List sB=>eS b p z.1 z.2.1 z.2.2.1 z.2.2.2.1 z.2.2.2.2.1 z.2.2.2.2.2) (0,162,p.2.1,0,0,[])=some (162,p.2.1,0,0,p.2.2.2.2.map λx=>(x.1,AY b x.1)):=by
   obtain⟨v,e1,rfl⟩:=sQ (step:=λz:Int×Int×Int×Int×Int×List sB=>eS b p z.1 z.2.1 z.2.2.1 z.2.2.2.1 z.2.2.2.2.1 z.2.2.2.2.2) (λk z=>z=((k:Int),162,p.2.1,0,0,(p.2.2.2.2.take k).map λx=>(x.1,AY b x.1))) p.2.2.2.2.length (λv=>v=(162,p.2.1,0,0,p.2.2.2.2.map λx=>(x.1,AY b x.1)))
    (λk z hk e=>by
     subst e;refine .inl ⟨_,?_,rfl⟩;have hx:=xn (vX (x1 _ (getElem_mem hk)))
     dsimp only;unfold eS;rw[tC (by omega),cT,sO hk,an,CE (by show _<=1048576;omega),an,(LF hBO (by omega)).1,an,sE (by rw[length_map,length_take];show min k _+1<=_;omega),an,sK (by omega),
      take_add_one,List.getElem?_eq_getElem hk,map_append];rfl)
    (λz e=>by
     subst e;refine⟨_,?_,rfl⟩;dsimp only;unfold eS;rw[tk (by omega),cF,take_length]) (x:=(0,162,p.2.1,0,0,[])) rfl
   exact e1
  simp only[cT,cF];rw[e,an,DI ⟨by show (p.2.2.2.2.map _).length<=1048576;rw[length_map];omega,λx hx=>by
   obtain⟨y,hy,rfl⟩:=mem_map.1 hx;exact vD (by unfold wE;rw[vX (x1 y hy),Ms hBO (by have:=xn (vX (x1 y hy));omega)];rfl)⟩,an]
  cases uE (162,p.2.1,0,0,p.2.2.2.2.map λx=>(x.1,AY b x.1))with
  | true=>rfl
  | false =>
   simp only[cF];refine Eh ?_ λd=>?_
   · dsimp only;unfold kI;rw[h165,cF,an,cF];exact⟨_,rfl⟩
   · rw[an];simp only[h165,cF]
 | false =>
 cases h161:(p.1==161)with
 | true =>
  have h165:(p.1==165)=false:=by simp only[beq_iff_eq]at h161;rw[h161];rfl
  have e:loop (λz:Int×Int×Int×Int×Int×List sB=>eT b p z.1 z.2.1 z.2.2.1 z.2.2.2.1 z.2.2.2.2.1 z.2.2.2.2.2) (0,162,p.2.1,0,0,[])=some (162,p.2.1,0,0,p.2.2.2.2.map λx=>ul b x.1):=by
   obtain⟨v,e1,rfl⟩:=sQ (step:=λz:Int×Int×Int×Int×Int×List sB=>eT b p z.1 z.2.1 z.2.2.1 z.2.2.2.1 z.2.2.2.2.1 z.2.2.2.2.2) (λk z=>z=((k:Int),162,p.2.1,0,0,(p.2.2.2.2.take k).map λx=>ul b x.1)) p.2.2.2.2.length (λv=>v=(162,p.2.1,0,0,p.2.2.2.2.map λx=>ul b x.1))
    (λk z hk e=>by
     subst e;refine .inl ⟨_,?_,rfl⟩;have hx:=xn (vX (x1 _ (getElem_mem hk)))
     dsimp only;unfold eT;rw[tC (by omega),cT,sO hk,an,(DJ hBO (by omega)).1,an,sE (by rw[length_map,length_take];show min k _+1<=_;omega),an,sK (by omega),
      take_add_one,List.getElem?_eq_getElem hk,map_append];rfl)
    (λz e=>by
     subst e;refine⟨_,?_,rfl⟩;dsimp only;unfold eT;rw[tk (by omega),cF,take_length]) (x:=(0,162,p.2.1,0,0,[])) rfl
   exact e1
  simp only[cT,cF];rw[e,an,DI ⟨by show (p.2.2.2.2.map _).length<=1048576;rw[length_map];omega,λx hx=>by
   obtain⟨y,hy,rfl⟩:=mem_map.1 hx;exact vD (C5 hBO (vX (x1 y hy)))⟩,an]
  cases uE (162,p.2.1,0,0,p.2.2.2.2.map λx=>ul b x.1)with
  | true=>rfl
  | false =>
   simp only[cF];refine Eh ?_ λd=>?_
   · dsimp only;unfold kJ;rw[h165,cF,an,cF];exact⟨_,rfl⟩
   · rw[an];simp only[h165,cF]
 | false =>
 cases h165:(p.1==165)with
 | true =>
  have hbk:=It hBO hpp;have hbx:∀x∈wz b p,E8 M x:=λx hx=>vD (hbk.oOk x hx)
  have hbn:(wz b p).length<=10:=hbk.o10;simp only[cT,cF];rw[Pm hBO hpp,an,DI ⟨by show (wz b p).length<=1048576;omega,hbx⟩,an];cases uE (162,p.2.1,0,0,wz b p)with
  | true=>rfl
  | false =>
   simp only[cF];obtain⟨w,e1,e2⟩:=Oc h165 b 0 [] 0 0 0 0 0 0 0 0 0 162 p.2.1 0 0 [] [] [] [] [] _ (wz b p) rfl hbn hbx;rw[e1,an];cases hs:shr (λt=>uE (162,p.2.1,0,0,t)) (wz b p).length (wz b p)with
   | some t=>rw[hs]at e2;rw[e2];rfl
   | none =>
    rw[hs]at e2;obtain⟨d,rfl⟩:=e2;rw[Sum.elim_inl,an];try rfl
 | false =>
  obtain⟨r,r1,_,_,_⟩:=FR h hb hxs;have hr:BG b p.2.2.2.2=r:=by unfold BG;rw[r1];rfl
  simp only[cF];rw[r1,an,Dw hxs,an,hr,DI (p:=(162,p.2.1,r.2.1,r.2.2,p.2.2.2.2)) ⟨hxs.1,hxs.2⟩,an];cases uE (162,p.2.1,r.2.1,r.2.2,p.2.2.2.2)with
  | true=>rfl
  | false =>
   simp only[cF];refine Eh ?_ λd=>?_
   · dsimp only;unfold kK;rw[h165,cF,an,cF];exact⟨_,rfl⟩
   · rw[an]

def aW (a:sL):List UInt8:=a.2.2.2.2.2.2.2.2.2.2.2.1
def u9 (b:sx) (w:List UInt8) (l:List tQ) (lo la:Int):sL:=(b.1,b.2.1,b.2.2.1,b.2.2.2.1,b.2.2.2.2.1,b.2.2.2.2.2.1,b.2.2.2.2.2.2.1,b.2.2.2.2.2.2.2.1,b.2.2.2.2.2.2.2.2.1,b.2.2.2.2.2.2.2.2.2.1,b.2.2.2.2.2.2.2.2.2.2,w,l,lo,la)
def wA (id:Int) (m:List Int) (ph:Int) (p:tg) (s:sx) (at' tr:Int):tQ:=(id,m,ph,p.1,p.2.1,p.2.2.1,p.2.2.2.1,p.2.2.2.2,s.1,s.2.1,s.2.2.1,s.2.2.2.1,s.2.2.2.2.1,s.2.2.2.2.2.1,s.2.2.2.2.2.2.1,s.2.2.2.2.2.2.2.1,s.2.2.2.2.2.2.2.2.1,s.2.2.2.2.2.2.2.2.2.1,s.2.2.2.2.2.2.2.2.2.2,at',tr)
theorem Iu (a:sL):u9 (aB a) (aW a) (sA a) (tN a) (sZ a)=a:=rfl
theorem GI {b:sx} {w:List UInt8} {l:List tQ} {lo la:Int} {k:Nat} (hk:k<l.length) (hl:l.length<=M):bU (u9 b w l lo la) (k:Int)=some (u9 b w (l.eraseIdx k) lo la):=by
 have hM:M=1048576:=rfl;have c1:uG l.length 0 (k:Int)=some (0,k):=by
  unfold uG;rw[if_pos (by omega),if_pos (by omega),if_pos (by omega)];simp
 have c2:uG l.length (sy ((k:Int)+1)) (l.length:Int)=some (k+1,l.length):=by
  rw[sK (by omega)];unfold uG;rw[if_pos (by omega),if_pos (by omega),if_pos (by omega)];simp
 have c3:CV l 0 k (k+1) l.length=some (l.eraseIdx k):=by
  unfold CV;rw[if_pos (by omega),take_length,List.drop_zero,sE (by rw[length_take,length_drop];omega),←List.eraseIdx_eq_take_drop_succ]
 unfold bU u9;simp only[c1,an,c2,c3]
def FI (b:sx) (j:tQ):tQ:=wA j.1 j.2.1 1 (jP j) b 0 (tA j)
theorem Ky {b:sx} (hb:yt M b) {w:List UInt8} {l:List tQ} {lo la:Int} {k:Nat} (hk:k<l.length):eJ (u9 b w l lo la) (k:Int)=some (u9 b w (l.set k (FI b l[k])) lo la):=by
 have cb:=xi hb;unfold eJ u9;simp only[vI hk,an];have cb':ap (b.1,b.2.1,b.2.2.1,b.2.2.2.1,b.2.2.2.2.1,b.2.2.2.2.2.1,b.2.2.2.2.2.2.1,b.2.2.2.2.2.2.2.1,b.2.2.2.2.2.2.2.2.1,b.2.2.2.2.2.2.2.2.2.1,b.2.2.2.2.2.2.2.2.2.2)=some b:=cb
 simp only[cb',an,List.getElem?_eq_getElem hk,List.getElem?_set_self hk,set_set];rfl
def y9 (n:Int):Int:=min2 (sy (n+1)) 1000000
theorem DK (n:Int):aY n=some (y9 n):=rfl
def Bo (b:sx):sx:=(b.1,b.2.1,b.2.2.1,b.2.2.2.1,b.2.2.2.2.1,b.2.2.2.2.2.1,b.2.2.2.2.2.2.1,b.2.2.2.2.2.2.2.1,y9 b.2.2.2.2.2.2.2.2.1,b.2.2.2.2.2.2.2.2.2.1,b.2.2.2.2.2.2.2.2.2.2)
def A4 (b:sx):sx:=(b.1,b.2.1,b.2.2.1,b.2.2.2.1,b.2.2.2.2.1,b.2.2.2.2.2.1,b.2.2.2.2.2.2.1,y9 b.2.2.2.2.2.2.2.1,b.2.2.2.2.2.2.2.2.1,b.2.2.2.2.2.2.2.2.2.1,b.2.2.2.2.2.2.2.2.2.2)
noncomputable def tR (w:List UInt8) (m:List Int):tg×Int:=(bT w m).getD ((0,0,0,0,[]),0)
theorem Hy (w:List UInt8) {m:List Int} (hb:uu m) (hn:m.length<=M):bT w m=some (tR w m)/\dV w m=some (tR w m)/\wM M (tR w m).1/\((tR w m).2=0->uF (tR w m).1=true):=by
 obtain⟨r,h1,h2,h3,h4⟩:=Kv w hb hn;unfold tR;rw[h1];exact⟨rfl,h2,h3,h4⟩
noncomputable def yK (p:tg):tg:=cond (uE (162,p.2.1,6,1,p.2.2.2.2)) (162,p.2.1,6,1,p.2.2.2.2) (162,p.2.1,7,0,[])
theorem Pn {p:tg} (hp:wM M p):eV p=some (yK p):=by
 unfold eV yK;rw[Dw hp,an,DI (p:=(162,p.2.1,6,1,p.2.2.2.2)) hp,an];cases uE (162,p.2.1,6,1,p.2.2.2.2)<;>rfl
inductive Od where
 | stay (j:tQ)|gone (d:List vT)
noncomputable def xC (w:List UInt8) (b:sx) (j:tQ):sx×Od :=
 cond (j.2.2.1==0)
  (cond ((tR w j.2.1).2==3) (Bo b,.gone [])
   (cond ((tR w j.2.1).2 != 0||((tR w j.2.1).1.1==162)) (A4 b,.gone [])
    (b,.stay (wA j.1 j.2.1 1 (tR w j.2.1).1 b 0 (tA j)))))
  (cond (j.2.2.1==2)
   (cond (j.2.2.2.1 != 163) (b,.gone [(j.1,(vh (jB j) (jP j)).2.1)])
    (cond (b.2.2.2.2.2.2.2.2.2.2==(jB j).2.2.2.2.2.2.2.2.2.2) ((vh b (jP j)).1,.gone [(j.1,(vh b (jP j)).2.1)])
     (cond (decide (tA j>=3)) (b,.gone [(j.1,yK (jP j))])
      (b,.stay (wA j.1 j.2.1 1 (jP j) b 0 (sy (tA j+1)))))))
   (cond (decide (wB j<((jP j).2.2.2.2.length:Int))) (b,.stay (wA j.1 j.2.1 j.2.2.1 (jP j) (jB j) (sy (wB j+1)) (tA j)))
    (b,.stay (wA j.1 j.2.1 2 (jP j) (jB j) (wB j) (tA j)))))
noncomputable def tM (a:sL) (k:Nat) (j:tQ):sL×List vT :=
 match (xC (aW a) (aB a) j).2 with
 | .stay j'=>(u9 (xC (aW a) (aB a) j).1 (aW a) ((sA a).set k j') (tN a) (sZ a),[])
 | .gone d=>(u9 (xC (aW a) (aB a) j).1 (aW a) ((sA a).eraseIdx k) (tN a) (sZ a),d)
theorem Po {b:sx} (hb:yt M b) {w:List UInt8} {l:List tQ} {lo la:Int} {k:Nat} (hk:k<l.length) (hl:l.length<=M) (h1:uu l[k].2.1) (h2:l[k].2.1.length<=M) :
 eK (u9 b w l lo la) (k:Int)=some (cond ((tR w l[k].2.1).2==3) (u9 (Bo b) w (l.eraseIdx k) lo la)
  (cond ((tR w l[k].2.1).2 != 0||((tR w l[k].2.1).1.1==162)) (u9 (A4 b) w (l.eraseIdx k) lo la) (u9 b w (l.set k (wA l[k].1 l[k].2.1 1 (tR w l[k].2.1).1 b 0 (tA l[k]))) lo la))):=by
 obtain⟨m1,_,m3,_⟩:=Hy w h1 h2;unfold eK;have d1:=GI (b:=Bo b) (w:=w) (lo:=lo) (la:=la) hk hl
 have d2:=GI (b:=A4 b) (w:=w) (lo:=lo) (la:=la) hk hl;unfold Bo u9 at d1;unfold A4 u9 at d2;dsimp only[u9];simp only[vI hk,an,List.getElem?_eq_getElem hk,m1,DK];rw[d1,d2];cases ((tR w l[k].2.1).2==3)with
 | true=>rfl
 | false =>
  simp only[cF,an];cases ((tR w l[k].2.1).2 != 0)with
  | true=>rfl
  | false =>
   simp only[cF,an,Bool.false_or];cases ((tR w l[k].2.1).1.1==162)with
   | true=>rfl
   | false =>
    simp only[cF,an];have hs:k<(l.set k (wA l[k].1 l[k].2.1 l[k].2.2.1 (tR w l[k].2.1).1 (jB l[k]) (wB l[k]) (tA l[k]))).length:=by rw[length_set];exact hk
    have e:=Ky hb (w:=w) (lo:=lo) (la:=la) hs;unfold u9 at e;have e2:FI b (l.set k (wA l[k].1 l[k].2.1 l[k].2.2.1 (tR w l[k].2.1).1 (jB l[k]) (wB l[k]) (tA l[k])))[k]=wA l[k].1 l[k].2.1 1 (tR w l[k].2.1).1 b 0 (tA l[k]):=by
     rw[getElem_set_self];rfl
    rw[e2,set_set]at e;refine (congrArg (λo=>Option.bind o λt=>some t) e).trans ?_;rfl
theorem Nb {b:sx} (hw:wU b) (hb:yt M b) {w:List UInt8} {l:List tQ} {lo la:Int} {k:Nat} (hk:k<l.length) (hl:l.length<=M) (h1:IK l[k]) (h2:Ou M l[k]) :
 eW (u9 b w l lo la) (k:Int)=some (cond (l[k].2.2.2.1 != 163) (u9 b w (l.eraseIdx k) lo la,[(l[k].1,(vh (jB l[k]) (jP l[k])).2.1)])
  (cond (b.2.2.2.2.2.2.2.2.2.2==(jB l[k]).2.2.2.2.2.2.2.2.2.2) (u9 (vh b (jP l[k])).1 w (l.eraseIdx k) lo la,[(l[k].1,(vh b (jP l[k])).2.1)])
   (cond (decide (tA l[k]>=3)) (u9 b w (l.eraseIdx k) lo la,[(l[k].1,yK (jP l[k]))])
    (u9 b w (l.set k (wA l[k].1 l[k].2.1 1 (jP l[k]) b 0 (sy (tA l[k]+1)))) lo la,[])))):=by
 have r1:=Kx h1.b h2.2.2 h1.p;have r2:=Kx hw hb h1.p
 have r3:=Pn h1.p;have d1:=GI (b:=b) (w:=w) (lo:=lo) (la:=la) hk hl
 have d2:=GI (b:=(vh b (jP l[k])).1) (w:=w) (lo:=lo) (la:=la) hk hl;unfold eW;dsimp only[u9];simp only[vI hk,an,List.getElem?_eq_getElem hk];unfold u9 at d1;cases hkind:(l[k].2.2.2.1 != 163)with
 | true =>
  simp only[cT];rw[show cI (l[k].2.2.2.2.2.2.2.2.1,l[k].2.2.2.2.2.2.2.2.2.1,l[k].2.2.2.2.2.2.2.2.2.2.1,l[k].2.2.2.2.2.2.2.2.2.2.2.1,l[k].2.2.2.2.2.2.2.2.2.2.2.2.1,l[k].2.2.2.2.2.2.2.2.2.2.2.2.2.1,l[k].2.2.2.2.2.2.2.2.2.2.2.2.2.2.1,l[k].2.2.2.2.2.2.2.2.2.2.2.2.2.2.2.1,l[k].2.2.2.2.2.2.2.2.2.2.2.2.2.2.2.2.1,l[k].2.2.2.2.2.2.2.2.2.2.2.2.2.2.2.2.2.1,l[k].2.2.2.2.2.2.2.2.2.2.2.2.2.2.2.2.2.2.1) (l[k].2.2.2.1,l[k].2.2.2.2.1,l[k].2.2.2.2.2.1,l[k].2.2.2.2.2.2.1,l[k].2.2.2.2.2.2.2.1)=some (vh (jB l[k]) (jP l[k]))from r1,an,d1,an]
 | false =>
  simp only[cF];show cond (b.2.2.2.2.2.2.2.2.2.2==(jB l[k]).2.2.2.2.2.2.2.2.2.2) _ _=_
  cases hv:(b.2.2.2.2.2.2.2.2.2.2==(jB l[k]).2.2.2.2.2.2.2.2.2.2)with
  | true =>
   simp only[cT];rw[show cI (b.1,b.2.1,b.2.2.1,b.2.2.2.1,b.2.2.2.2.1,b.2.2.2.2.2.1,b.2.2.2.2.2.2.1,b.2.2.2.2.2.2.2.1,b.2.2.2.2.2.2.2.2.1,b.2.2.2.2.2.2.2.2.2.1,b.2.2.2.2.2.2.2.2.2.2) (l[k].2.2.2.1,l[k].2.2.2.2.1,l[k].2.2.2.2.2.1,l[k].2.2.2.2.2.2.1,l[k].2.2.2.2.2.2.2.1)=some (vh b (jP l[k]))from r2,an];unfold u9 at d2;rw[d2,an]
  | false =>
   simp only[cF];show cond (decide (tA l[k]>=3)) _ _=_
   cases hq:decide (tA l[k]>=3)with
   | true =>
    simp only[cT];rw[show eV (l[k].2.2.2.1,l[k].2.2.2.2.1,l[k].2.2.2.2.2.1,l[k].2.2.2.2.2.2.1,l[k].2.2.2.2.2.2.2.1)=some (yK (jP l[k]))from r3,an,d1,an]
   | false =>
    simp only[cF];have hs:k<(l.set k (wA l[k].1 l[k].2.1 l[k].2.2.1 (jP l[k]) (jB l[k]) (wB l[k]) (sy (tA l[k]+1)))).length:=by rw[length_set];exact hk
    have e:=Ky hb (w:=w) (lo:=lo) (la:=la) hs;unfold u9 at e;have e2:FI b (l.set k (wA l[k].1 l[k].2.1 l[k].2.2.1 (jP l[k]) (jB l[k]) (wB l[k]) (sy (tA l[k]+1))))[k]=wA l[k].1 l[k].2.1 1 (jP l[k]) b 0 (sy (tA l[k]+1)):=by
     rw[getElem_set_self];rfl
    rw[e2,set_set]at e;refine (congrArg (λo=>Option.bind o λt=>some (t,([]:List vT))) e).trans ?_;rfl
theorem Pp {a:sL} (hw:wU (aB a)) (hl:Do M a) {k:Nat} (hk:k<(sA a).length) (h1:IK (sA a)[k]) (h2:uu (sA a)[k].2.1):cJ a (k:Int)=some (tM a k (sA a)[k]):=by
 obtain⟨hb,_,hn,hj⟩:=hl;have hJ:=hj _ (getElem_mem hk)
 have hn:(sA a).length<=M:=hn;have e1:=Po hb (w:=aW a) (l:=sA a) (lo:=tN a) (la:=sZ a) hk hn h2 hJ.1
 have e2:=Nb hw hb (w:=aW a) (l:=sA a) (lo:=tN a) (la:=sZ a) hk hn h1 hJ;have c0:ix a.2.2.2.2.2.2.2.2.2.2.2.2.1.length (k:Int)=some k:=vI hk
 have c1:a.2.2.2.2.2.2.2.2.2.2.2.2.1[k]?=some (sA a)[k]:=List.getElem?_eq_getElem hk;have e1:eK a (k:Int)=_:=e1
 have e2:eW a (k:Int)=_:=e2;unfold cJ tM xC;rw[c0,an];simp only[c1,an];cases hp0:((sA a)[k].2.2.1==0)with
 | true =>
  rw[cT,e1,an];cases ((tR (aW a) (sA a)[k].2.1).2==3)with
  | true=>rfl
  | false =>
   cases ((tR (aW a) (sA a)[k].2.1).2 != 0||((tR (aW a) (sA a)[k].2.1).1.1==162))<;>rfl
 | false =>
  rw[cF];cases hp2:((sA a)[k].2.2.1==2)with
  | true =>
   rw[cT,e2,an];cases ((sA a)[k].2.2.2.1 != 163)with
   | true=>rfl
   | false =>
    cases ((aB a).2.2.2.2.2.2.2.2.2.2==(jB (sA a)[k]).2.2.2.2.2.2.2.2.2.2)with
    | true=>rfl
    | false=>cases decide (tA (sA a)[k]>=3)<;>rfl
  | false =>
   simp only[cF];show cond (decide (wB (sA a)[k]<((jP (sA a)[k]).2.2.2.2.length:Int))) _ _=_
   cases decide (wB (sA a)[k]<((jP (sA a)[k]).2.2.2.2.length:Int))<;>rfl

theorem DL {n:Int} (h:sC n 0 1000000=true):sC (y9 n) 0 1000000=true:=by
 obtain⟨r,h1,_,h3⟩:=GQ h;rw[DK]at h1;cases h1;exact h3
theorem zh {b:sx} (h:tI b=true):vd b=true/\∀c,vd (b.1,b.2.1,b.2.2.1,b.2.2.2.1,b.2.2.2.2.1,b.2.2.2.2.2.1,c)=true->tI (b.1,b.2.1,b.2.2.1,b.2.2.2.1,b.2.2.2.2.1,b.2.2.2.2.2.1,c)=true:=by
 unfold tI at h ⊢;simp only[aT]at h ⊢;obtain⟨h1,h2,h3,h4,h5,h6,h7⟩:=h;exact⟨h7,λc hc=>⟨h1,h2,h3,h4,h5,h6,hc⟩⟩
theorem EZ {b:sx} (h:tW b) {c:Int×Int×Int×Int×Int} (hc:vd (b.1,b.2.1,b.2.2.1,b.2.2.2.1,b.2.2.2.2.1,b.2.2.2.2.2.1,c)=true):tW (b.1,b.2.1,b.2.2.1,b.2.2.2.1,b.2.2.2.2.1,b.2.2.2.2.2.1,c) :=
 CR ⟨h.w.p,h.w.f,h.w.v,h.w.q,h.w.r⟩ ((zh h.ok).2 c hc)
theorem yr {b:sx} (h:vd b=true):sC b.2.2.2.2.2.2.1 0 1000000=true/\sC b.2.2.2.2.2.2.2.1 0 1000000=true/\sC b.2.2.2.2.2.2.2.2.1 0 1000000=true/\sC b.2.2.2.2.2.2.2.2.2.1 0 1000000=true/\sC b.2.2.2.2.2.2.2.2.2.2 0 1000000=true:=by
 unfold vd at h;simpa only[aT]using h
theorem LG {b:sx} (h:tW b):tW (Bo b):=by
 refine EZ h ?_;obtain⟨h1,h2,h3,h4,h5⟩:=yr (zh h.ok).1;unfold vd;simp only[aT];exact⟨h1,h2,DL h3,h4,h5⟩
theorem Kz {b:sx} (h:tW b):tW (A4 b):=by
 refine EZ h ?_;obtain⟨h1,h2,h3,h4,h5⟩:=yr (zh h.ok).1;unfold vd;simp only[aT];exact⟨h1,DL h2,h3,h4,h5⟩
theorem KA {b:sx} (h:xk b) (hl:yt M b):wU b:=by
 obtain⟨_,l2,l3,l4,l5⟩:=hl;have hM:M<9223372036854775807:=by decide
 exact⟨by omega,by omega,by omega,by omega,h.h⟩
theorem Qp {b:sx} (h:tW b) {l:List sB} (hl:B1 M l):dO b l=some (BG b l)/\tW (BG b l).1:=by
 obtain⟨r,r1,_,r3,r4,_⟩:=FR h.w h.le hl;unfold BG;rw[r1];obtain⟨k1,k2⟩:=r4 h.ok;exact⟨rfl,CR (KA k1 r3) k2⟩
theorem LH {b:sx} (h:tW b) {p:tg} (hp:uF p=true):tW (yq b p).1:=by
 unfold yq;cases (p.1==160)<;>cases (p.1==161)<;>cases (p.1==165)<;>first|exact h|exact (Qp h (EY hp)).2
theorem Nd (b:sx) (p:tg):(zW b p).1=b:=by
 unfold zW;split<;>rfl
theorem Jq {b:sx} (h:tW b) (p:tg):tW (vh b p).1:=by
 unfold vh;cases hq:Dl b p with
 | false=>exact h
 | true =>
  unfold Dl at hq;simp only[aT]at hq;rw[cT];unfold xq;cases uE (yq b p).2 with
  | true=>exact LH h hq.2.1
  | false=>rw[cF,Nd];exact h
theorem LI {p:tg} (hp:uF p=true):p.1=160\/p.1=161\/p.1=162\/p.1=163\/p.1=165:=by
 unfold uF at hp;by_cases h0:p.1=160;· exact .inl h0
 by_cases h1:p.1=161;· exact .inr (.inl h1)
 by_cases h2:p.1=162;· exact .inr (.inr (.inl h2))
 by_cases h3:p.1=163;· exact .inr (.inr (.inr (.inl h3)))
 by_cases h5:p.1=165;· exact .inr (.inr (.inr (.inr h5)))
 simp[h0,h1,h2,h3,h5]at hp
structure Ac (j:tQ):Prop where
 byt:uu j.2.1
 len:j.2.1.length<=M
 ph:sC j.2.2.1 0 2=true
 at':sC (wB j) 0 ((jP j).2.2.2.2.length:Int)=true
 tr:sC (tA j) 0 3=true
 ok:(j.2.2.1==0)=true\/(uF (jP j)=true/\((jP j).1 != 162)=true/\tW (jB j))
 pl:wM M (jP j)
 bw:wU (jB j)
 bl:yt M (jB j)
theorem Ac.jwf {j:tQ} (h:Ac j):IK j:=⟨h.pl,h.bw⟩
theorem Ac.jle {j:tQ} (h:Ac j):Ou M j:=⟨h.len,h.pl,h.bl⟩
structure u5 (a:sL):Prop where
 b:tW (aB a)
 w:(aW a).length<=20
 n:(sA a).length<=6
 lo:sC (tN a) 0 1000000=true
 la:sC (sZ a) 0 1000000=true
 ids:∀j∈sA a,sC j.1 1 (sZ a)=true
 up:(sA a).Pairwise λi j=>i.1<j.1
 j:∀j∈sA a,Ac j
theorem u5.ale {a:sL} (h:u5 a):Do M a:=⟨h.b.le,by have:=h.w;show (aW a).length<=1048576;omega,by have:=h.n;show (sA a).length<=1048576;omega,λx hx=>(h.j x hx).jle⟩
theorem u5.awf {a:sL} (h:u5 a):Fk a:=⟨h.b.w,by have:=h.n;omega,λx hx=>(h.j x hx).jwf⟩
theorem u5.ok {a:sL} (h:u5 a):xj a=true:=by
 have hn:=h.n;have hw:=h.w
 unfold xj;have h1:(List.range (sA a).length).any (BK (sA a) (sZ a))=false:=by
  rw[List.any_eq_false];intro k hk;have hk:=List.mem_range.1 hk
  unfold BK;have hj:=h.j _ (getElem_mem hk)
  have hp:z9 (sA a)[k]=true:=by
   unfold z9;simp only[aT,Bool.or_eq_true];refine⟨hj.ph,hj.at',hj.tr,hj.ok.imp (λe=>e) λ⟨k1,k2,k3⟩=>⟨k1,k2,k3.ok⟩⟩
  simp only[List.getElem?_eq_getElem hk,h.ids _ (getElem_mem hk),hp,Bool.and_self,Bool.not_true,Bool.false_or];by_cases h0:0<k
  · have:=List.pairwise_iff_getElem.1 h.up (k-1) k (by omega) hk (by omega);simp only[List.getElem?_eq_getElem (show k-1<(sA a).length by omega),aT,decide_eq_true_eq];omega
  · rw[dF h0];simp
 rw[h1];simp only[Bool.not_false,Bool.true_and,aT,decide_eq_true_eq];exact⟨h.b.ok,by show ((aW a).length:Int)<=20;omega,by omega,h.lo,h.la⟩
theorem Nf {a:sL} (h:Fk a) (hl:Do M a) (hb:∀j∈sA a,uu j.2.1) (hp:xj a=true):u5 a:=by
 unfold xj at hp;simp only[aT,Bool.not_eq_true',decide_eq_true_eq]at hp;obtain⟨h1,h2,h3,h4,h5,h6⟩:=hp;have key:∀k (hk:k<(sA a).length),sC (sA a)[k].1 1 (sZ a)=true/\z9 (sA a)[k]=true/\(∀h0:0<k,(sA a)[k-1].1<(sA a)[k].1):=by
  intro k hk;have:=List.any_eq_false.1 h1 k (List.mem_range.2 hk)
  unfold BK at this;simp only[List.getElem?_eq_getElem hk,Bool.or_eq_true,Bool.not_eq_true',Bool.and_eq_false_iff,not_or]at this;obtain⟨t1,t2⟩:=this;have e1:sC (sA a)[k].1 1 (sZ a)=true:=by
   cases e:sC (sA a)[k].1 1 (sZ a)with
   | true=>rfl
   | false=>exact absurd e t1.1
  have e2:z9 (sA a)[k]=true:=by
   cases e:z9 (sA a)[k]with
   | true=>rfl
   | false=>exact absurd e t1.2
  refine⟨e1,e2,λh0=>?_⟩;rw[dT h0]at t2;simp only[List.getElem?_eq_getElem (show k-1<(sA a).length by omega),Bool.true_and,decide_eq_true_eq]at t2;omega
 refine⟨CR h.b h2,by have:((aW a).length:Int)<=20:=h3;omega,by omega,h5,h6,λj hj=>?_,?_,λj hj=>?_⟩
 · obtain⟨k,hk,rfl⟩:=List.getElem_of_mem hj;exact (key k hk).1
 · exact CD (λa b c h k=>by omega) λk hk=>by
    have:=(key (k+1) hk).2.2 (by omega);simpa using this
 · have hjw:=h.j j hj;have hjl:=hl.2.2.2 j hj
   have hjb:=hb j hj;obtain⟨k,hk,rfl⟩:=List.getElem_of_mem hj;have hp:=(key k hk).2.1
   unfold z9 at hp;simp only[aT,Bool.or_eq_true]at hp;obtain⟨p1,p2,p3,p4⟩:=hp;exact⟨hjb,hjl.1,p1,p2,p3,p4.imp (λe=>e) λ⟨q1,q2,q3⟩=>⟨q1,q2,CR hjw.b q3⟩,hjw.p,hjw.b,hjl.2.2⟩
noncomputable def vK (b:sx) (j:tQ):Nat:=if (jP j).1=163/\b.2.2.2.2.2.2.2.2.2.2≠(jB j).2.2.2.2.2.2.2.2.2.2/\tA j<3 then (jP j).2.2.2.2.length+3 else 1
noncomputable def xP (w:List UInt8) (m:List Int):Bool:=(tR w m).2==0&&((tR w m).1.1 != 162)
noncomputable def uB (w:List UInt8) (j:tQ):Bool:=xP w j.2.1||decide (j.2.2.1>0)
noncomputable def uO (w:List UInt8) (b:sx) (j:tQ):Nat :=
 if j.2.2.1=2 then vK b j else if j.2.2.1=1 then (jP j).2.2.2.2.length-(wB j).toNat+1+vK b j
 else if xP w j.2.1=true then (tR w j.2.1).1.2.2.2.2.length+3 else 1
theorem Dm {b:sx} (h:tW b) {p:tg} (hp:uF p=true) (hk:(p.1 != 162)=true):Dl b p=true/\(vh b p).2.1=(xq b p).2/\(vh b p).1=(xq b p).1/\(xq b p).2.1=162/\(xq b p).2.2.1=p.2.1:=by
 have e:Dl b p=true:=by unfold Dl;rw[h.ok,hp,hk];rfl
 have e1:(yq b p).2.1=162/\(yq b p).2.2.1=p.2.1:=by
  unfold yq;cases (p.1==160)<;>cases (p.1==161)<;>cases (p.1==165)<;>exact⟨rfl,rfl⟩
 have e2:(zW b p).2.1=162/\(zW b p).2.2.1=p.2.1:=by
  unfold zW;split<;>exact⟨rfl,rfl⟩
 refine⟨e,?_,?_,?_⟩
 · unfold vh;rw[e,cT]
 · unfold vh;rw[e,cT]
 · unfold xq;cases uE (yq b p).2 with
   | true=>exact e1
   | false=>exact e2
theorem KB (p:tg):(yK p).1=162/\(yK p).2.1=p.2.1:=by
 unfold yK;cases uE (162,p.2.1,6,1,p.2.2.2.2)<;>exact⟨rfl,rfl⟩
theorem Ei {j:tQ} (h:Ac j):j.2.2.1=0\/j.2.2.1=1\/j.2.2.1=2:=by
 obtain⟨h1,h2⟩:=tT h.ph;omega
theorem Jr {w:List UInt8} {b:sx} {j:tQ} (h:j.2.2.1=1):uO w b j=(jP j).2.2.2.2.length-(wB j).toNat+1+vK b j:=by unfold uO;rw[if_neg (by omega),if_pos h]
theorem Mv {w:List UInt8} {b:sx} {j:tQ} (h:j.2.2.1=2):uO w b j=vK b j:=by unfold uO;rw[if_pos h]
def Oe (w:List UInt8) (b b':sx) (j:tQ):Od->Prop
 | .stay j'=>b'=b/\Ac j'/\j'.1=j.1/\uO w b j'+1=uO w b j/\uB w j'=uB w j
 | .gone d=>tW b'/\uO w b j=1/\(uB w j=false->d=[])/\(uB w j=true->∃p,d=[(j.1,p)]/\p.1=162)
theorem Ng (w:List UInt8) {b:sx} (hb:tW b) {j:tQ} (h:Ac j):Oe w b (xC w b j).1 j (xC w b j).2:=by
 obtain⟨m1,_,m3,m4⟩:=Hy w h.byt h.len;obtain⟨t1,t2⟩:=tT h.tr;obtain⟨a1,a2⟩:=tT h.at';rcases Ei h with hp|hp|hp
 ·
   have hne2:¬j.2.2.1=2:=by omega
   have hne1:¬j.2.2.1=1:=by omega
   unfold xC;rw[show (j.2.2.1==0)=true by rw[hp];rfl,cT];have hgood:∀q,xP w j.2.1=q->uB w j=q:=by
    intro q hq;unfold uB;rw[hq,dF (by omega),Bool.or_false]
   have hneed:xP w j.2.1=false->uO w b j=1:=by
    intro hq;unfold uO;rw[if_neg hne2,if_neg hne1,if_neg (by rw[hq];simp)]
   cases h3:((tR w j.2.1).2==3)with
   | true =>
    have hg:xP w j.2.1=false:=by
     unfold xP;simp only[beq_iff_eq]at h3;rw[h3];rfl
    exact⟨LG hb,hneed hg,λ_=>rfl,λha=>by rw[hgood _ hg]at ha;cases ha⟩
   | false =>
    cases h4:((tR w j.2.1).2 != 0||((tR w j.2.1).1.1==162))with
    | true =>
     have hg:xP w j.2.1=false:=by
      unfold xP;rw[bne]at h4 ⊢;cases e1:((tR w j.2.1).2==0)<;>cases e2:((tR w j.2.1).1.1==162)<;>simp[e1,e2]at h4 ⊢
     exact⟨Kz hb,hneed hg,λ_=>rfl,λha=>by rw[hgood _ hg]at ha;cases ha⟩
    | false =>
     simp only[Bool.or_eq_false_iff]at h4;have h0:(tR w j.2.1).2=0:=by simpa using h4.1
     have hk:((tR w j.2.1).1.1 != 162)=true:=by rw[bne,h4.2];rfl
     have hg:xP w j.2.1=true:=by unfold xP;rw[h0,hk];rfl
     refine⟨rfl,⟨h.byt,h.len,rfl,?_,h.tr,.inr ⟨m4 h0,hk,hb⟩,m3,hb.w,hb.le⟩,rfl,?_,?_⟩
     · unfold sC;rw[dT (by show (0:Int)<=0;omega),dT (by show (0:Int)<=_;omega)];rfl
     · have e1:uO w b j=(tR w j.2.1).1.2.2.2.2.length+3:=by unfold uO;rw[if_neg hne2,if_neg hne1,if_pos hg]
       rw[e1];show uO w b (wA j.1 j.2.1 1 (tR w j.2.1).1 b 0 (tA j))+1=_
       rw[Jr rfl];have e2:vK b (wA j.1 j.2.1 1 (tR w j.2.1).1 b 0 (tA j))=1:=by
        unfold vK;rw[if_neg (λhh=>hh.2.1 rfl)]
       rw[e2];show (tR w j.2.1).1.2.2.2.2.length-(0:Int).toNat+1+1+1=_
       simp
     · rw[hgood _ hg];unfold uB;rw[show decide ((wA j.1 j.2.1 1 (tR w j.2.1).1 b 0 (tA j)).2.2.1>0)=true from rfl,Bool.or_true]
 ·
   have hok:=h.ok.resolve_left (by rw[hp];simp);unfold xC;rw[show (j.2.2.1==0)=false by rw[hp];rfl,show (j.2.2.1==2)=false by rw[hp];rfl,cF,cF];have hn:uO w b j=(jP j).2.2.2.2.length-(wB j).toNat+1+vK b j:=by unfold uO;rw[if_neg (by omega),if_pos hp]
   have ha:uB w j=true:=by unfold uB;rw[dT (show j.2.2.1>0 by omega),Bool.or_true]
   by_cases hlt:wB j<((jP j).2.2.2.2.length:Int)
   · have hw1:sy (wB j+1)=wB j+1:=sV (by omega) (by
      have:=h.pl.1;have:(jP j).2.2.2.2.length<=1048576:=this
      omega)
     rw[dT hlt,cT,hw1];refine⟨rfl,⟨h.byt,h.len,h.ph,?_,h.tr,.inr hok,h.pl,h.bw,h.bl⟩,rfl,?_,?_⟩
     · show sC (wB j+1) 0 ((jP j).2.2.2.2.length:Int)=true;unfold sC;rw[dT (by omega),dT (by omega)];rfl
     · rw[hn];show uO w b (wA j.1 j.2.1 j.2.2.1 (jP j) (jB j) (wB j+1) (tA j))+1=_
       unfold uO;rw[show (wA j.1 j.2.1 j.2.2.1 (jP j) (jB j) (wB j+1) (tA j)).2.2.1=1 from hp,if_neg (by omega),if_pos rfl];have e2:vK b (wA j.1 j.2.1 j.2.2.1 (jP j) (jB j) (wB j+1) (tA j))=vK b j:=rfl
       rw[e2];show (jP j).2.2.2.2.length-(wB j+1).toNat+1+vK b j+1=_
       omega
     · rw[ha];unfold uB;rw[show decide ((wA j.1 j.2.1 j.2.2.1 (jP j) (jB j) (wB j+1) (tA j)).2.2.1>0)=true from dT (by show j.2.2.1>0;omega),Bool.or_true]
   · rw[dF hlt,cF];refine⟨rfl,⟨h.byt,h.len,rfl,h.at',h.tr,.inr hok,h.pl,h.bw,h.bl⟩,rfl,?_,?_⟩
     · rw[hn];show uO w b (wA j.1 j.2.1 2 (jP j) (jB j) (wB j) (tA j))+1=_
       rw[Mv rfl];have e2:vK b (wA j.1 j.2.1 2 (jP j) (jB j) (wB j) (tA j))=vK b j:=rfl
       rw[e2];omega
     · rw[ha];unfold uB;rw[show decide ((wA j.1 j.2.1 2 (jP j) (jB j) (wB j) (tA j)).2.2.1>0)=true from rfl,Bool.or_true]
 ·
   obtain⟨hpp,hk,hB⟩:=h.ok.resolve_left (by rw[hp];simp);unfold xC;rw[show (j.2.2.1==0)=false by rw[hp];rfl,show (j.2.2.1==2)=true by rw[hp];rfl,cF,cT];have hn:uO w b j=vK b j:=by unfold uO;rw[if_pos hp]
   have ha:uB w j=true:=by unfold uB;rw[dT (show j.2.2.1>0 by omega),Bool.or_true]
   cases h163:(j.2.2.2.1 != 163)with
   | true =>
    obtain⟨_,d2,_,d4,_⟩:=Dm hB hpp hk;refine⟨hb,?_,(λhf=>by rw[ha]at hf;cases hf),λ_=>⟨_,rfl,by rw[d2];exact d4⟩⟩;rw[hn];unfold vK;rw[if_neg (λhh=>by have e:j.2.2.2.1=163:=hh.1;rw[e]at h163;cases h163)]
   | false =>
    have e163:(jP j).1=163:=by
     have:¬j.2.2.2.1≠163:=by simpa using h163
     exact Classical.not_not.1 this
    cases hv:(b.2.2.2.2.2.2.2.2.2.2==(jB j).2.2.2.2.2.2.2.2.2.2)with
    | true =>
     obtain⟨_,d2,_,d4,_⟩:=Dm hb hpp hk;refine⟨Jq hb _,?_,(λhf=>by rw[ha]at hf;cases hf),λ_=>⟨_,rfl,by rw[d2];exact d4⟩⟩;rw[hn];unfold vK;rw[if_neg (λhh=>hh.2.1 (by simpa using hv))]
    | false =>
     by_cases ht:tA j>=3
     · rw[dT ht];refine⟨hb,?_,(λhf=>by rw[ha]at hf;cases hf),λ_=>⟨_,rfl,(KB _).1⟩⟩;rw[hn];unfold vK;rw[if_neg (λhh=>by have:=hh.2.2;omega)]
     · rw[dF ht,sV (by omega) (by omega)];refine⟨rfl,⟨h.byt,h.len,rfl,?_,?_,.inr ⟨hpp,hk,hb⟩,h.pl,hb.w,hb.le⟩,rfl,?_,?_⟩
       · show sC 0 0 ((jP j).2.2.2.2.length:Int)=true;unfold sC;rw[dT (by omega),dT (by omega)];rfl
       · show sC (tA j+1) 0 3=true;unfold sC;rw[dT (by omega),dT (by omega)];rfl
       · rw[hn];have e1:vK b j=(jP j).2.2.2.2.length+3:=by
          unfold vK;rw[if_pos ⟨e163,by simpa using hv,by omega⟩]
         rw[e1];show uO w b (wA j.1 j.2.1 1 (jP j) b 0 (tA j+1))+1=_
         rw[Jr rfl];have e2:vK b (wA j.1 j.2.1 1 (jP j) b 0 (tA j+1))=1:=by
          unfold vK;rw[if_neg (λhh=>hh.2.1 rfl)]
         rw[e2];show (jP j).2.2.2.2.length-(0:Int).toNat+1+1+1=_
         simp
       · rw[ha];unfold uB;rw[show decide ((wA j.1 j.2.1 1 (jP j) b 0 (tA j+1)).2.2.1>0)=true from rfl,Bool.or_true]

theorem Cx {a:sL} (h:u5 a) {k:Nat} (hk:k<(sA a).length) :
 (∃j',tM a k (sA a)[k]=(u9 (aB a) (aW a) ((sA a).set k j') (tN a) (sZ a),[])/\Ac j'/\j'.1=(sA a)[k].1/\uO (aW a) (aB a) j'+1=uO (aW a) (aB a) (sA a)[k]/\uB (aW a) j'=uB (aW a) (sA a)[k]) \/
 (∃b' d,tM a k (sA a)[k]=(u9 b' (aW a) ((sA a).eraseIdx k) (tN a) (sZ a),d)/\tW b'/\uO (aW a) (aB a) (sA a)[k]=1/\(uB (aW a) (sA a)[k]=false->d=[])/\(uB (aW a) (sA a)[k]=true->∃p,d=[((sA a)[k].1,p)]/\p.1=162)):=by
 have hs:=Ng (aW a) h.b (h.j _ (getElem_mem hk));unfold tM;cases hf:(xC (aW a) (aB a) (sA a)[k]).2 with
 | stay j' =>
  rw[hf]at hs;obtain⟨k1,k2,k3,k4,k5⟩:=hs;exact .inl ⟨j',by simp only[k1],k2,k3,k4,k5⟩
 | gone d =>
  rw[hf]at hs;obtain⟨k1,k2,k3,k4⟩:=hs;exact .inr ⟨_,d,rfl,k1,k2,k3,k4⟩
theorem Nh {a:sL} (h:u5 a) {k:Nat} (hk:k<(sA a).length) {j':tQ} (hj:Ac j') (hi:j'.1=(sA a)[k].1):u5 (u9 (aB a) (aW a) ((sA a).set k j') (tN a) (sZ a)):=by
 have hm:∀x∈(sA a).set k j',x∈sA a\/x=j':=λx hx=>List.mem_or_eq_of_mem_set hx;have hmap:((sA a).set k j').map (λj=>j.1)=(sA a).map (λj=>j.1):=by
  rw[List.map_set,hi];apply List.ext_getElem
  · simp
  · intro i h1 h2;rw[List.getElem_set];split
    · rename_i e;subst e;simp
    · rfl
 refine⟨h.b,h.w,?_,h.lo,h.la,λj hj'=>?_,?_,λj hj'=>?_⟩
 · show ((sA a).set k j').length<=6;rw[length_set];exact h.n
 · rcases hm j hj' with hj'|rfl
   · exact h.ids j hj'
   · show sC j.1 1 (sZ a)=true;rw[hi];exact h.ids _ (getElem_mem hk)
 · have:=h.up;show ((sA a).set k j').Pairwise λi j=>i.1<j.1
   rw[←List.pairwise_map (f:=λj:tQ=>j.1) (R:=λx y=>x<y)]at this ⊢;rw[hmap];exact this
 · rcases hm j hj' with hj'|rfl
   · exact h.j j hj'
   · exact hj
theorem LJ {a:sL} (h:u5 a) (k:Nat) {b':sx} (hb:tW b'):u5 (u9 b' (aW a) ((sA a).eraseIdx k) (tN a) (sZ a)):=by
 have hs:((sA a).eraseIdx k).Sublist (sA a):=List.eraseIdx_sublist _ _;refine⟨hb,h.w,Nat.le_trans hs.length_le h.n,h.lo,h.la,λj hj=>h.ids j (hs.subset hj),h.up.sublist hs,λj hj=>h.j j (hs.subset hj)⟩
theorem Ej {a:sL} (h:u5 a) {k:Nat} (hk:k<(sA a).length):u5 (tM a k (sA a)[k]).1/\(tM a k (sA a)[k]).2.length<=1:=by
 rcases Cx h hk with ⟨j',e,k1,k2,_⟩|⟨b',d,e,k1,_,k3,k4⟩
 · rw[e];exact⟨Nh h hk k1 k2,by simp⟩
 · rw[e];refine⟨LJ h k k1,?_⟩;cases ha:uB (aW a) (sA a)[k]with
   | false=>rw[k3 ha];simp
   | true=>obtain⟨p,rfl,_⟩:=k4 ha;simp
theorem Mw {a:sL} (h:u5 a) {k:Nat} (hk:k<(sA a).length):cJ a (k:Int)=some (tM a k (sA a)[k]) :=
 Pp h.b.w h.ale hk (h.j _ (getElem_mem hk)).jwf (h.j _ (getElem_mem hk)).byt
theorem Pq {a:sL} (h:u5 a) {k:Nat} (hk:k<(sA a).length):dW a (k:Int)=some (tM a k (sA a)[k]):=by
 have hn:=h.n;unfold dW;rw[yv h.ale,an,A6 h.awf,an,h.ok,Bool.not_true,cF];have hw:sy ((a.2.2.2.2.2.2.2.2.2.2.2.2.1.length:Int)-1)=((sA a).length:Int)-1:=sV (by show -9223372036854775808<=((sA a).length:Int)-1;omega) (by show ((sA a).length:Int)-1<=_;omega)
 rw[hw,wm,an,zl (by omega) (by omega),an,Bool.not_true,cF,Mw h hk,an]
theorem Of {a:sL} (h:u5 a) {k:Int} (hk:k<0\/((sA a).length:Int)<=k):dW a k=some (a,[]):=by
 have hn:=h.n;unfold dW;rw[yv h.ale,an,A6 h.awf,an,h.ok,Bool.not_true,cF];have hw:sy ((a.2.2.2.2.2.2.2.2.2.2.2.2.1.length:Int)-1)=((sA a).length:Int)-1:=sV (by show -9223372036854775808<=((sA a).length:Int)-1;omega) (by show ((sA a).length:Int)-1<=_;omega)
 have hp:sC k 0 (((sA a).length:Int)-1)=false:=by
  unfold sC;rcases hk with hk|hk
  · rw[dF (by omega)];rfl
  · rw[dF (show ¬k<=((sA a).length:Int)-1 by omega),Bool.and_false]
 rw[hw,wm,an,hp,an,Bool.not_false,cT]
noncomputable def wQ:Nat->sL->sL×List vT
 | 0,a=>(a,[])
 | n+1,a=>match sA a with
  | []=>(a,[])
  | j::_=>((wQ n (tM a 0 j).1).1,(tM a 0 j).2++(wQ n (tM a 0 j).1).2)
abbrev Qb:=Int×Int×List UInt8×Int×Int×Int×Int×Int×List UInt8×Int×Int×List vT×List Pt×List sD×List sM×List Int×List tQ
abbrev R7:=Int×List UInt8×Int×Int×Int×Int×Int×List UInt8×Int×Int×List vT×List Pt×List sD×List sM×List Int×List tQ
def Hz (i:Int) (a:sL) (all:List vT):Qb:=(i,a.1,a.2.1,a.2.2.2.2.2.2.1,a.2.2.2.2.2.2.2.1,a.2.2.2.2.2.2.2.2.1,a.2.2.2.2.2.2.2.2.2.1,a.2.2.2.2.2.2.2.2.2.2.1,a.2.2.2.2.2.2.2.2.2.2.2.1,a.2.2.2.2.2.2.2.2.2.2.2.2.2.1,a.2.2.2.2.2.2.2.2.2.2.2.2.2.2,all,a.2.2.1,a.2.2.2.1,a.2.2.2.2.1,a.2.2.2.2.2.1,a.2.2.2.2.2.2.2.2.2.2.2.2.1)
def Qq (a:sL) (all:List vT):R7:=(a.1,a.2.1,a.2.2.2.2.2.2.1,a.2.2.2.2.2.2.2.1,a.2.2.2.2.2.2.2.2.1,a.2.2.2.2.2.2.2.2.2.1,a.2.2.2.2.2.2.2.2.2.2.1,a.2.2.2.2.2.2.2.2.2.2.2.1,a.2.2.2.2.2.2.2.2.2.2.2.2.2.1,a.2.2.2.2.2.2.2.2.2.2.2.2.2.2,all,a.2.2.1,a.2.2.2.1,a.2.2.2.2.1,a.2.2.2.2.2.1,a.2.2.2.2.2.2.2.2.2.2.2.2.1)
theorem HA {n:Nat} (hn:n<=500):∀(m i:Nat) (a:sL) (all:List vT),u5 a->i+m=n->all.length+m<=1000->loop (λz:Qb=>eX (n:Int) z.1 z.2.1 z.2.2.1 z.2.2.2.1 z.2.2.2.2.1 z.2.2.2.2.2.1 z.2.2.2.2.2.2.1 z.2.2.2.2.2.2.2.1 z.2.2.2.2.2.2.2.2.1 z.2.2.2.2.2.2.2.2.2.1 z.2.2.2.2.2.2.2.2.2.2.1 z.2.2.2.2.2.2.2.2.2.2.2.1 z.2.2.2.2.2.2.2.2.2.2.2.2.1 z.2.2.2.2.2.2.2.2.2.2.2.2.2.1 z.2.2.2.2.2.2.2.2.2.2.2.2.2.2.1 z.2.2.2.2.2.2.2.2.2.2.2.2.2.2.2.1 z.2.2.2.2.2.2.2.2.2.2.2.2.2.2.2.2) (Hz (i:Int) a all)=some (Qq (wQ m a).1 (all++(wQ m a).2))
 | 0,i,a,all,h,hi,hl=>by
  refine te ?_;dsimp only[Hz];unfold eX;rw[tk (by omega),cF,an,cF];simp only[wQ,append_nil];rfl
 | m+1,i,a,all,h,hi,hl=>by
  by_cases hj:0<(sA a).length
  · obtain⟨j,r,hjr⟩:∃j r,sA a=j::r:=by
     cases he:sA a with
     | nil=>rw[he]at hj;simp at hj
     | cons j r=>exact⟨j,r,rfl⟩
    obtain⟨w1,w2⟩:=Ej h hj;have e0:(sA a)[0]=j:=by simp[hjr]
    rw[e0]at w1 w2;have hwk:=Mw h hj
    rw[e0]at hwk;have er:wQ (m+1) a=((wQ m (tM a 0 j).1).1,(tM a 0 j).2++(wQ m (tM a 0 j).1).2):=by
     show (match sA a with | []=>(a,[])|j::_=>((wQ m (tM a 0 j).1).1,(tM a 0 j).2++(wQ m (tM a 0 j).1).2))=_;rw[hjr]
    rw[er];refine sY (y:=Hz ((i+1:Nat):Int) (tM a 0 j).1 (all++(tM a 0 j).2)) ?_ ?_
    · dsimp only[Hz];unfold eX;have hjl:decide (((a.2.2.2.2.2.2.2.2.2.2.2.2.1.length:Nat):Int)>0)=true:=dT (by show ((sA a).length:Int)>0;omega)
      rw[tC (by omega),cT,hjl,an,cT];have hwk':cJ (a.1,a.2.1,a.2.2.1,a.2.2.2.1,a.2.2.2.2.1,a.2.2.2.2.2.1,a.2.2.2.2.2.2.1,a.2.2.2.2.2.2.2.1,a.2.2.2.2.2.2.2.2.1,a.2.2.2.2.2.2.2.2.2.1,a.2.2.2.2.2.2.2.2.2.2.1,a.2.2.2.2.2.2.2.2.2.2.2.1,a.2.2.2.2.2.2.2.2.2.2.2.2.1,a.2.2.2.2.2.2.2.2.2.2.2.2.2.1,a.2.2.2.2.2.2.2.2.2.2.2.2.2.2) 0=some (tM a 0 j):=hwk
      rw[hwk',an,sE (by omega),an,sK (by omega)]
    · have:=HA hn m (i+1) (tM a 0 j).1 (all++(tM a 0 j).2) w1 (by omega) (by rw[length_append];omega);rw[this,List.append_assoc]
  · have hj0:sA a=[]:=List.length_eq_zero_iff.1 (by omega);have er:wQ (m+1) a=(a,[]):=by
     show (match sA a with | []=>(a,[])|j::_=>((wQ m (tM a 0 j).1).1,(tM a 0 j).2++(wQ m (tM a 0 j).1).2))=_;rw[hj0]
    rw[er];refine te ?_;dsimp only[Hz];unfold eX;have hjl:decide (((a.2.2.2.2.2.2.2.2.2.2.2.2.1.length:Nat):Int)>0)=false:=dF (by show ¬((sA a).length:Int)>0;omega)
    rw[tC (by omega),cT,hjl,an,cF,append_nil];rfl
theorem LK {a:sL} (h:u5 a) {n:Nat} (hn:n<=500):eY a (n:Int)=some (wQ n a):=by
 unfold eY;rw[yv h.ale,an,A6 h.awf,an,h.ok,Bool.not_true,cF,wm,an,zl (by omega) (by omega),an,Bool.not_true,cF];have:=HA hn n 0 a [] h (by omega) (by simp;omega)
 refine (congrArg (λo=>Option.bind o _) this).trans ?_;rfl
theorem HB (w:List UInt8) (b:sx) (j:tQ):1<=uO w b j:=by
 have hl:1<=vK b j:=by unfold vK;split<;>omega
 unfold uO;split
 · exact hl
 · split
   · omega
   · split<;>omega
theorem Ni (w:List UInt8) (b:sx) {j:tQ} (h:Ac j):uO w b j<=26:=by
 rcases Ei h with hp|hp|hp
 · unfold uO;rw[if_neg (by omega),if_neg (by omega)];split
   · rename_i hg;unfold xP at hg;simp only[aT,beq_iff_eq]at hg;obtain⟨_,_,_,m4⟩:=Hy w h.byt h.len;have:=(va (m4 hg.1)).2.1
     omega
   · omega
 · obtain⟨hpp,_,_⟩:=h.ok.resolve_left (by rw[hp];simp);have:=(va hpp).2.1
   rw[Jr hp];unfold vK;split<;>omega
 · obtain⟨hpp,_,_⟩:=h.ok.resolve_left (by rw[hp];simp);have:=(va hpp).2.1
   rw[Mv hp];unfold vK;split<;>omega
noncomputable def yL (a:sL):Nat:=match sA a with | []=>0|j::r=>uO (aW a) (aB a) j+26*r.length
theorem F9 {a:sL} (h:u5 a):yL a<=26*(sA a).length:=by
 unfold yL;cases he:sA a with
 | nil=>simp
 | cons j r =>
  have:=Ni (aW a) (aB a) (h.j j (by rw[he];simp));simp only[List.length_cons];omega
theorem FJ:∀(n:Nat) (a:sL),u5 a->yL a<=n->∃b' d,wQ n a=(u9 b' (aW a) [] (tN a) (sZ a),d)/\tW b'/\d.map (λx=>x.1)=((sA a).filter (uB (aW a))).map (λj=>j.1)/\∀x∈d,x.2.1=162
 | 0,a,h,hn=>by
  have hj:sA a=[]:=by
   cases he:sA a with
   | nil=>rfl
   | cons j r =>
    unfold yL at hn;rw[he]at hn;have:=HB (aW a) (aB a) j
    simp only at hn;omega
  refine⟨aB a,[],?_,h.b,by rw[hj];rfl,by simp⟩;show (a,([]:List vT))=_
  have e:=Iu a;rw[hj]at e;rw[e]
 | n+1,a,h,hn=>by
  cases he:sA a with
  | nil =>
   refine⟨aB a,[],?_,h.b,rfl,by simp⟩;show (match sA a with | []=>(a,[])|j::_=>((wQ n (tM a 0 j).1).1,(tM a 0 j).2++(wQ n (tM a 0 j).1).2))=_
   have e:=Iu a;rw[he]at e ⊢;rw[e]
  | cons j r =>
   have er:wQ (n+1) a=((wQ n (tM a 0 j).1).1,(tM a 0 j).2++(wQ n (tM a 0 j).1).2):=by
    show (match sA a with | []=>(a,[])|j::_=>((wQ n (tM a 0 j).1).1,(tM a 0 j).2++(wQ n (tM a 0 j).1).2))=_;rw[he]
   have h0:0<(sA a).length:=by rw[he];simp
   have e0:(sA a)[0]=j:=by simp[he]
   have hnn:uO (aW a) (aB a) j+26*r.length<=n+1:=by
    unfold yL at hn;rw[he]at hn;exact hn
   have hnp:=HB (aW a) (aB a) j;obtain⟨w1,_⟩:=Ej h h0;have hc:=Cx h h0
   rw[e0]at w1 hc;rw[er];rcases hc with ⟨j',e,k1,k2,k3,k4⟩|⟨b',d,e,k1,k2,k3,k4⟩
   · have hj':sA (tM a 0 j).1=j'::r:=by rw[e];show (sA a).set 0 j'=_;rw[he];rfl
     have hn':yL (tM a 0 j).1<=n:=by
      unfold yL;rw[hj'];have:uO (aW (tM a 0 j).1) (aB (tM a 0 j).1) j'=uO (aW a) (aB a) j':=by rw[e];rfl
      simp only[this];omega
     obtain⟨b2,d2,f1,f2,f3,f4⟩:=FJ n _ w1 hn';refine⟨b2,d2,?_,f2,?_,f4⟩
     · rw[f1,e];rfl
     · rw[f3,hj'];have hwq:aW (tM a 0 j).1=aW a:=by rw[e];rfl
       rw[hwq,List.filter_cons,List.filter_cons,k4];cases uB (aW a) j with
       | true=>simp only[if_true,List.map_cons,k2]
       | false=>rfl
   · have hj':sA (tM a 0 j).1=r:=by rw[e];show (sA a).eraseIdx 0=_;rw[he];rfl
     have hn':yL (tM a 0 j).1<=n:=by
      have:=F9 w1;rw[hj']at this;omega
     obtain⟨b2,d2,f1,f2,f3,f4⟩:=FJ n _ w1 hn';have hwq:aW (tM a 0 j).1=aW a:=by rw[e];rfl
     have hd:(tM a 0 j).2=d:=by rw[e]
     rw[hj',hwq]at f3;refine⟨b2,d++d2,?_,f2,?_,λx hx=>?_⟩
     · rw[f1,hd,e];rfl
     · rw[map_append,f3,List.filter_cons];cases ha:uB (aW a) j with
       | true=>obtain⟨p,rfl,_⟩:=k4 ha;rfl
       | false=>rw[k3 ha];rfl
     · rcases mem_append.1 hx with hx|hx
       · cases ha:uB (aW a) j with
         | true =>
          obtain⟨p,rfl,hp⟩:=k4 ha;rw[mem_singleton.1 hx];exact hp
         | false=>rw[k3 ha]at hx;simp at hx
       · exact f4 x hx

theorem Pr {n:Int} (hn:-2147483648<=n/\n<=2147483647):∃x0 l,ut n=x0::l/\uu (x0::l)/\l.length<=3/\uo (vF x0) l=n:=by
 unfold ut;by_cases h1:sC n (-128) 127=true
 · rw[if_pos h1];obtain⟨a,b⟩:=tT h1;refine⟨n%256,[],rfl,λx hx=>?_,by simp,?_⟩
   · simp only[mem_singleton]at hx;subst hx;omega
   · show vF (n%256)=n;unfold vF;split<;>omega
 rw[if_neg h1];have h1':=Bv (Bool.eq_false_iff.2 h1)
 by_cases h2:sC n (-32768) 32767=true
 · rw[if_pos h2];obtain⟨a,b⟩:=tT h2;refine⟨n/256%256,[n%256],rfl,λx hx=>?_,by simp,?_⟩
   · simp only[mem_cons,not_mem_nil,or_false]at hx;rcases hx with rfl|rfl<;>omega
   · show vF (n/256%256)*256+n%256=n;unfold vF;split<;>omega
 rw[if_neg h2];by_cases h3:sC n (-8388608) 8388607=true
 · rw[if_pos h3];obtain⟨a,b⟩:=tT h3;refine⟨n/65536%256,[n/256%256,n%256],rfl,λx hx=>?_,by simp,?_⟩
   · simp only[mem_cons,not_mem_nil,or_false]at hx;rcases hx with rfl|rfl|rfl<;>omega
   · show (vF (n/65536%256)*256+n/256%256)*256+n%256=n;unfold vF;split<;>omega
 rw[if_neg h3];refine⟨n/16777216%256,[n/65536%256,n/256%256,n%256],rfl,λx hx=>?_,by simp,?_⟩
 · simp only[mem_cons,not_mem_nil,or_false]at hx;rcases hx with rfl|rfl|rfl|rfl<;>omega
 · show ((vF (n/16777216%256)*256+n/65536%256)*256+n/256%256)*256+n%256=n;unfold vF;split<;>omega
def AZ (w:List UInt8):List Int:=tP 2 (ut 1)++tP 4 (vl w)
def Dn (w:List UInt8) (p:tg):List Int:=if (xY p).length=0\/20<w.length then []else if (AZ w++xY p).length<=250 then tP 48 (AZ w++xY p)else []
theorem Nj (p:tg):(xY p).length<=260:=by
 unfold xY;split
 · rename_i h;have:=vj p.1 (body:=xl p)
   omega
 · simp
theorem Nk {p:tg} (hx:∀x∈p.2.2.2.2,wE x=true) (hn:p.2.2.2.2.length<=10) (hi:sC p.2.1 (-2147483648) 2147483647=true)
 (hk:(cond (p.1==162||p.1==165) (sC p.2.2.1 0 1000&&sC p.2.2.2.1 0 1000) (cond (p.1==160||(p.1==161||p.1==163)) (p.2.2.1==0&&p.2.2.2.1==0) false))=true):uF p=true:=by
 unfold uF;have h1:(List.range p.2.2.2.2.length).any (bX p.2.2.2.2)=false:=by
  rw[List.any_eq_false];intro k hk';have hk':=List.mem_range.1 hk'
  unfold bX;simp only[List.getElem?_eq_getElem hk',hx _ (getElem_mem hk')];simp
 rw[h1,dT (by omega),hk,hi];rfl

theorem zi {a b:List Int} (h:uu a) (k:uu b):uu (a++b):=λx hx=>(mem_append.1 hx).elim (h x) (k x)
theorem xD {t:Int} {body:List Int} (ht:sC t 0 255=true) (hb:uu body) (hn:body.length<=250):uu (tP t body):=by
 obtain⟨t0,t1⟩:=tT ht;intro x hx;unfold tP at hx;rcases mem_cons.1 hx with rfl|hx
 · omega
 · rcases mem_append.1 hx with hx|hx
   · split at hx
     · simp only[mem_cons,not_mem_nil,or_false]at hx;rcases hx with rfl|rfl<;>omega
     · simp only[mem_singleton]at hx;subst hx;omega
   · exact hb x hx
theorem C6 {n:Int} (hn:-2147483648<=n/\n<=2147483647):uu (ut n):=by
 obtain⟨x0,l,e,h,_⟩:=Pr hn;rw[e];exact h
theorem HC (s:List UInt8):uu (vl s):=by
 intro x hx;unfold vl at hx;obtain⟨b,_,rfl⟩:=mem_map.1 hx;have:=b.toNat_lt
 omega
theorem Nl {v:wl} (hv:wq v=true):uu (uZ v):=by
 unfold wq at hv;unfold uZ;by_cases h1:(v.1==5||(v.1==128||v.1==130))=true
 · simp only[Bool.or_eq_true,beq_iff_eq]at h1;rcases h1 with h|h|h<;>rw[h]<;>exact yM
 · rw[Bool.eq_false_iff.2 h1,cF]at hv;cases h2:(v.1==2)with
   | true =>
    rw[h2,cT,aT]at hv;rw[cT];exact C6 (tT hv.1)
   | false =>
    rw[h2,cF]at hv;rw[cF];cases h4:(v.1==4)with
    | true=>rw[cT];exact HC _
    | false =>
     rw[h4,cF]at hv;rw[cF];cases h6:(v.1==6)with
     | true =>
      rw[h6,cT,aT]at hv;rw[cT];exact Ew (xF hv.1).2.2
     | false=>rw[cF];exact yM
theorem Nn {x:sB} (hx:wE x=true):uu (Ad x):=by
 have hx':=hx;unfold wE at hx';rw[aT]at hx';obtain⟨o1,o2,o3⟩:=xF hx'.1;have hob:=yz (o:=x.1) λy hy=>(o3 y hy).2
 obtain⟨l1,l2,_,_⟩:=B4 hx'.2;exact zi (xD (by decide) (Ew o3) (by omega)) (xD l2 (Nl hx'.2) (by omega))
theorem Iv:∀{l:List sB},(∀x∈l,wE x=true)->uu (tF l)
 | [],_=>yM
 | x::l,h=>by
  have hx:=h x (by simp);have hb:=(A7 hx).1
  show uu (yd x++tF l);exact zi (xD (by decide) (Nn hx) (by omega)) (Iv λy hy=>h y (List.mem_cons_of_mem _ hy))
theorem Np (p:tg):uu (xY p):=by
 unfold xY;split
 · rename_i h;obtain⟨h1,h2,h3⟩:=h;obtain⟨k1,k2,k3,k4,k5,k6⟩:=va h1;have i1:=wk p.2.1
   have i2:=wk p.2.2.1;have i3:=wk p.2.2.2.1
   refine xD k3 ?_ h3;unfold xl;exact zi (zi (zi (xD (by decide) (C6 k4) (by omega)) (xD (by decide) (C6 ⟨by omega,by omega⟩) (by omega))) (xD (by decide) (C6 ⟨by omega,by omega⟩) (by omega))) (xD (by decide) (Iv k1) h2)
 · exact yM
theorem Nq (w:List UInt8) (p:tg):uu (Dn w p):=by
 unfold Dn;split
 · exact yM
 · rename_i h;simp only[not_or,Nat.not_lt]at h;split
   · rename_i hb;have hwl:(vl w).length=w.length:=by unfold vl;rw[length_map]
     have i1:=wk 1;refine xD (by decide) (zi ?_ (Np p)) hb;unfold AZ;exact zi (xD (by decide) (C6 ⟨by omega,by omega⟩) (by omega)) (xD (by decide) (HC w) (by omega))
   · exact yM
def LL (id:Int) (m:List Int):tQ:=(id,m,0,0,0,0,0,[],0,[],[],[],[],[],0,0,0,0,0,0,0)
theorem LM (id:Int) {m:List Int} (hb:uu m) (hn:m.length<=M):Ac (LL id m):=by
 have h0:(0:Nat)<=M:=by decide
 refine⟨hb,hn,rfl,rfl,rfl,.inl rfl,⟨h0,λx hx=>by cases hx⟩,⟨by show 0<9223372036854775807;decide,by show 0<9223372036854775807;decide,by show 0<9223372036854775807;decide,by show 0<9223372036854775807;decide,λr hr=>by cases hr⟩,⟨h0,h0,h0,h0,h0⟩⟩
theorem Nr {b:sx} (h:tW b) {w:List UInt8} (hw:w.length<=20):u5 (u9 b w [] 0 0) :=
 ⟨h,hw,(by show 0<=6;omega),rfl,rfl,(λj hj=>by cases hj),List.Pairwise.nil,(λj hj=>by cases hj)⟩
theorem Ns {a:sL} (h:u5 a) {m:List Int} (hn:m.length<=M) (h6:(sA a).length<6) (hl:sZ a<1000000):bo a m=some (u9 (aB a) (aW a) (sA a++[LL (sZ a+1) m]) (tN a) (sZ a+1)):=by
 have hla:=tT h.la;have e1:decide ((a.2.2.2.2.2.2.2.2.2.2.2.2.1.length:Int)>=6)=false:=dF (by show ¬((sA a).length:Int)>=6;omega)
 have e2:decide (a.2.2.2.2.2.2.2.2.2.2.2.2.2.2>=1000000)=false:=dF (by show ¬sZ a>=1000000;omega);have e3:sy (a.2.2.2.2.2.2.2.2.2.2.2.2.2.2+1)=sZ a+1:=sV (by show -9223372036854775808<=sZ a+1;omega) (by show sZ a+1<=_;omega)
 unfold bo;rw[yv h.ale,an,A6 h.awf,an,h.ok,Bool.not_true,cF,e1,cF,e2,an,cF,zm hn,an,e3];rw[sE (by show (sA a).length+1<=_;omega),an];rfl
theorem Nt {a:sL} (h:u5 a) {m:List Int} (hf:¬((sA a).length<6/\sZ a<1000000)):bo a m=some (u9 (aB a) (aW a) (sA a) (y9 (tN a)) (sZ a)):=by
 unfold bo;rw[yv h.ale,an,A6 h.awf,an,h.ok,Bool.not_true,cF];have key:(cond (decide ((a.2.2.2.2.2.2.2.2.2.2.2.2.1.length:Int)>=6)) (some true) (some (decide (a.2.2.2.2.2.2.2.2.2.2.2.2.2.2>=1000000))))=some true:=by
  by_cases h6:(sA a).length<6
  · have h7:¬sZ a<1000000:=λh7=>hf ⟨h6,h7⟩;rw[dF (by show ¬((sA a).length:Int)>=6;omega),cF,dT (by show sZ a>=1000000;omega)]
  · rw[dT (by show ((sA a).length:Int)>=6;omega),cT]
 rw[key,an,cT,DK,an];rfl
theorem Js {a:sL} (h:u5 a) {m:List Int} (hb:uu m) (hn:m.length<=M) (h6:(sA a).length<6) (hl:sZ a<1000000):u5 (u9 (aB a) (aW a) (sA a++[LL (sZ a+1) m]) (tN a) (sZ a+1)):=by
 have hla:=tT h.la;refine⟨h.b,h.w,?_,h.lo,?_,λj hj=>?_,?_,λj hj=>?_⟩
 · show (sA a++[_]).length<=6;rw[length_append];show (sA a).length+1<=6;omega
 · exact zl (by show 0<=sZ a+1;omega) (by show sZ a+1<=1000000;omega)
 · rcases mem_append.1 hj with hj|hj
   · obtain⟨k1,k2⟩:=tT (h.ids j hj);exact zl k1 (by show j.1<=sZ a+1;omega)
   · rw[mem_singleton]at hj;subst hj;exact zl (by show 1<=sZ a+1;omega) (by show sZ a+1<=sZ a+1;omega)
 · show (sA a++[_]).Pairwise λi j:tQ=>i.1<j.1;refine List.pairwise_append.2 ⟨h.up,List.pairwise_singleton _ _,λx hx y hy=>?_⟩;rw[mem_singleton]at hy;subst hy;have:=(tT (h.ids x hx)).2
   show x.1<sZ a+1;omega
 · rcases mem_append.1 hj with hj|hj
   · exact h.j j hj
   · rw[mem_singleton]at hj;subst hj;exact LM _ hb hn
theorem LN {a:sL} (h:u5 a):u5 (u9 (aB a) (aW a) (sA a) (y9 (tN a)) (sZ a)):=⟨h.b,h.w,h.n,DL h.lo,h.la,h.ids,h.up,h.j⟩
structure BH (p:tg):Prop where
 k:p.1=160\/p.1=161\/p.1=163\/p.1=165
 i:0<=p.2.1/\p.2.1<100
 ab:(p.1=165/\(0<=p.2.2.1/\p.2.2.1<=1000)/\(0<=p.2.2.2.1/\p.2.2.2.1<=1000))\/(p.1≠165/\p.2.2.1=0/\p.2.2.2.1=0)
 n:p.2.2.2.2.length<=3
 s:∀x∈p.2.2.2.2,yw x
 o:p.1≠163->∀x∈p.2.2.2.2,wE x=true
theorem BH.le {p:tg} (h:BH p):wM M p:=⟨by have:=h.n;show _<=1048576;omega,λx hx=>(h.s x hx).le⟩
theorem BH.ok {p:tg} (h:BH p) (hk:p.1≠163):uF p=true:=by
 have hi:=h.i;refine Nk (h.o hk) (by have:=h.n;omega) (zl (by omega) (by omega)) ?_;rcases h.ab with ⟨e,⟨a1,a2⟩,b1,b2⟩|⟨e,a1,b1⟩
 · rw[e,zl a1 a2,zl b1 b2];rfl
 · rw[a1,b1];rcases h.k with k|k|k|k
   · rw[k];rfl
   · rw[k];rfl
   · exact absurd k hk
   · exact absurd k e
theorem Mx {c:sN} (h:CW c) {b:sx} (hb:wU b) (hn:∀c,CW c->Dr Nm (ax c b)):Dr BH (bO c b):=by
 unfold bO;refine Dr.bind (Bu h (by decide)) λc x hc hx=>?_;refine Dr.bind (uL hc 100) λc i hc hi=>?_;have hi2:=hi.2 (by omega)
 have hx:x=160\/x=161\/x=163\/x=165:=by
  simp only[mem_cons,not_mem_nil,or_false]at hx;rcases hx with h|h|h|h|h
  · exact .inl h
  · exact .inr (.inl h)
  · exact .inr (.inr (.inl h))
  · exact .inr (.inr (.inl h))
  · exact .inr (.inr (.inr h))
 cases h3:(x==163)with
 | true =>
  have h3:x=163:=by simpa using h3
  subst h3;show Dr BH ((fC c b).bind λt18=>some (t18.1,((163:Int),i,0,0,t18.2)))
  refine Dr.bind (NV hc hb hn) λc l hc hl=>?_;exact Dr.some hc ⟨.inr (.inr (.inl rfl)),⟨hi.1,hi2⟩,.inr ⟨by show (163:Int)≠165;omega,rfl,rfl⟩,hl.1,hl.2,λhk=>absurd rfl hk⟩
 | false =>
  have h3:x≠163:=by simpa using h3
  obtain⟨c1,k,e1,w1,hk⟩:=uJ hc (n:=4) (by decide);have e1':aa c 4=some (c1,(k:Int)):=e1
  rw[cF];show Dr BH ((aa c 4).bind _)
  rw[e1',an];obtain⟨d,d1,d2,d3,d4,d5⟩:=sQ (step:=λz:Int×List Int×Int×Int×Int×Int×Int×Int×List sB=>dk b z.1 z.2.1 z.2.2.1 z.2.2.2.1 z.2.2.2.2.1 z.2.2.2.2.2.1 z.2.2.2.2.2.2.1 z.2.2.2.2.2.2.2.1 z.2.2.2.2.2.2.2.2)
   (λj z=>z.1=((k-j:Nat):Int)/\CW (z.2.1,z.2.2.1,z.2.2.2.1)/\(z.2.2.2.2.1=x/\z.2.2.2.2.2.1=i/\z.2.2.2.2.2.2.1=0/\z.2.2.2.2.2.2.2.1=0)/\z.2.2.2.2.2.2.2.2.length=j/\∀y∈z.2.2.2.2.2.2.2.2,yw y/\wE y=true) k
   (λd=>CW (d.1,d.2.1,d.2.2.1)/\(d.2.2.2.1=x/\d.2.2.2.2.1=i/\d.2.2.2.2.2.1=0/\d.2.2.2.2.2.2.1=0)/\d.2.2.2.2.2.2.2.length=k/\∀y∈d.2.2.2.2.2.2.2,yw y/\wE y=true)
   (λj z hj ⟨z1,z2,z3,z4,z5⟩=>by
    obtain⟨q,c0,c1,c2,r0,r1,r2,r3,out⟩:=z;simp only at z1 z2 z3 z4 z5;subst z1 z4;left;obtain⟨c',o,x1,x2,x3⟩:=hn _ z2;refine⟨_,by
     show dk b _ _ _ _ _ _ _ _ _=_;unfold dk;rw[dT (show ((k-out.length:Nat):Int)>0 by omega),cT,x1,an,sE (by show _+1<=_;omega),an],?_,x2,z3,by simp,?_⟩
    · show sy (((k-out.length:Nat):Int)-1)=_;rw[sV (by omega) (by omega)];omega
    · intro y hy;rcases mem_append.1 hy with hy|hy
      · exact z5 y hy
      · rw[mem_singleton]at hy;subst hy;have:=x3.n10
        refine⟨⟨by show o.length<=1000;omega,by show (0:Nat)<=100;omega,by show (0:Nat)<=1000;omega,Mk 5⟩,?_⟩;unfold wE;rw[Iq x3];rfl)
   (λz ⟨z1,z2,z3,z4,z5⟩=>by
    obtain⟨q,c0,c1,c2,r0,r1,r2,r3,out⟩:=z;simp only at z1 z2 z3 z4 z5;rw[Nat.sub_self]at z1;subst z1;refine⟨(c0,c1,c2,r0,r1,r2,r3,out),?_,z2,z3,z4,z5⟩;show dk b _ _ _ _ _ _ _ _ _=_
    unfold dk;rw[dF (show ¬((0:Nat):Int)>0 by decide),cF]) (x:=((k:Int),c1.1,c1.2.1,c1.2.2,x,i,0,0,[])) ⟨rfl,w1,⟨rfl,rfl,rfl,rfl⟩,rfl,by simp⟩
  show Dr BH ((loop (λz:Int×List Int×Int×Int×Int×Int×Int×Int×List sB=>dk b z.1 z.2.1 z.2.2.1 z.2.2.2.1 z.2.2.2.2.1 z.2.2.2.2.2.1 z.2.2.2.2.2.2.1 z.2.2.2.2.2.2.2.1 z.2.2.2.2.2.2.2.2) ((k:Int),c1.1,c1.2.1,c1.2.2,x,i,0,0,[])).bind _);rw[d1,an];obtain⟨q0,q1,q2,r0,r1,r2,r3,l⟩:=d;simp only at d2 d3 d4 d5 ⊢;obtain⟨rfl,rfl,rfl,rfl⟩:=d3;cases h5:(r0==165)with
  | true =>
   have h5:r0=165:=by simpa using h5
   rw[cT];refine Dr.bind (uL d2 3) λc s hc hs=>?_;refine Dr.bind (uL hc 5) λc t hc ht=>?_;have hs2:=hs.2 (by omega)
   have ht2:=ht.2 (by omega);exact Dr.some hc ⟨hx,⟨hi.1,hi2⟩,.inl ⟨h5,⟨hs.1,by show s<=1000;omega⟩,ht.1,by show t<=1000;omega⟩,by show l.length<=3;omega,λy hy=>(d5 y hy).1,λ_ y hy=>(d5 y hy).2⟩
  | false =>
   have h5:r0≠165:=by simpa using h5
   rw[cF];exact Dr.some d2 ⟨hx,⟨hi.1,hi2⟩,.inr ⟨h5,rfl,rfl⟩,by show l.length<=3;omega,λy hy=>(d5 y hy).1,λ_ y hy=>(d5 y hy).2⟩
def uH (e:sD):Option sD:=cond e.2.2.2.2 (some e) (cond (decide (e.2.2.2.1>=4)) none (some (e.1,e.2.1,e.2.2.1,sy (e.2.2.2.1+1),e.2.2.2.2)))
theorem Qr {l:List sD} (hn:l.length<=1000):hU l=some (l.filterMap uH):=by
 unfold hU;obtain⟨v,e1,rfl⟩:=sQ (step:=λz:Int×List sD=>cO l z.1 z.2) (λk z=>z=((k:Int),(l.take k).filterMap uH)) l.length (λv=>v=l.filterMap uH)
  (λk z hk e=>by
   subst e;refine .inl ⟨_,?_,rfl⟩;have hfl:((l.take k).filterMap uH).length<=k:=Nat.le_trans (List.length_filterMap_le _ _) (by rw[length_take];omega)
   have t1:l.take (k+1)=l.take k++[l[k]]:=by rw[take_add_one,List.getElem?_eq_getElem hk];rfl
   have t2:(l.take (k+1)).filterMap uH=(l.take k).filterMap uH++(match uH l[k]with|some y=>[y]|none=>[]):=by
    rw[t1,List.filterMap_append]
    congr 1
    cases hq:uH l[k]with
    | none=>rw[List.filterMap_cons_none hq];rfl
    | some y=>rw[List.filterMap_cons_some hq];rfl
   have ha:∀y:sD,sT ((l.take k).filterMap uH) [y]=some ((l.take k).filterMap uH++[y]):=λy=>sE (by show _+1<=_;omega);show cO l (k:Int) _=_
   unfold cO;rw[tC (by omega),cT,sO hk,an,sK (by omega),t2];cases hs:l[k].2.2.2.2 with
   | true =>
    have hq:uH l[k]=some l[k]:=by unfold uH;rw[hs];rfl
    rw[hq];simp only[Bool.not_true,cF,cT,ha,an]
   | false =>
    simp only[Bool.not_false,cT,cF];cases h4:decide (l[k].2.2.2.1>=4)with
    | true =>
     have hq:uH l[k]=none:=by unfold uH;rw[hs,h4];rfl
     rw[hq];simp only[cT,append_nil]
    | false =>
     have hq:uH l[k]=some (l[k].1,l[k].2.1,l[k].2.2.1,sy (l[k].2.2.2.1+1),false):=by unfold uH;rw[hs,h4];rfl
     rw[hq];simp only[cF,ha,an])
  (λz e=>by
   subst e;refine⟨_,?_,rfl⟩;show cO l (l.length:Int) _=_
   unfold cO;rw[tk (by omega),cF,take_length]) (x:=(0,[])) rfl
 have e1:loop (λz=>cO l z.1 z.2) (0,[])=some (l.filterMap uH):=e1;rw[e1,an]
theorem Ek {e y:sD} (h:vL e=true) (hy:uH e=some y):vL y=true/\y.1=e.1/\y.2.1=e.2.1:=by
 unfold uH at hy;cases hs:e.2.2.2.2 with
 | true=>rw[hs,cT]at hy;cases hy;exact⟨h,rfl,rfl⟩
 | false =>
  rw[hs,cF]at hy;by_cases h4:e.2.2.2.1>=4
  · rw[dT h4,cT]at hy;cases hy
  · rw[dF h4,cF]at hy;cases hy;unfold vL at h ⊢;simp only[aT]at h;obtain⟨f1,f2,f3,f4,f5⟩:=h;obtain⟨g1,g2⟩:=tT f4;refine⟨?_,rfl,rfl⟩;show (sC e.1 1 99&&(sC e.2.1 1 9999&&(sC e.2.2.1 0 7&&(sC (sy (e.2.2.2.1+1)) 0 4&&(!false||_)))))=true
    rw[f1,f2,f3,sV (by omega) (by omega),zl (by omega) (by omega)];rfl
theorem Og {l:List sD} (h:FB l):FB (l.filterMap uH):=by
 refine⟨λx hx=>?_,?_,Nat.le_trans (List.length_filterMap_le _ _) h.n⟩
 · obtain⟨e,he,hy⟩:=List.mem_filterMap.1 hx;exact (Ek (h.e e he) hy).1
 · refine List.pairwise_filterMap.2 ?_;refine List.Pairwise.imp_of_mem ?_ h.o;intro a b ha hb hab x hx y hy;obtain⟨_,a1,a2⟩:=Ek (h.e a ha) hx;obtain⟨_,b1,b2⟩:=Ek (h.e b hb) hy;unfold lt at hab ⊢;rw[a1,a2,b1,b2];exact hab
def GJ (b:sx):sx:=(b.1,b.2.1,b.2.2.1,b.2.2.2.1.filterMap uH,b.2.2.2.2.1,b.2.2.2.2.2.1,y9 b.2.2.2.2.2.2.1,b.2.2.2.2.2.2.2.1,b.2.2.2.2.2.2.2.2.1,b.2.2.2.2.2.2.2.2.2.1,b.2.2.2.2.2.2.2.2.2.2)
noncomputable def xr (b:sx):sx:=(bb b).getD b
noncomputable def Ap (b:sx):sx:=xr (GJ b)
theorem Ps {b:sx} (h:xk b) (hv:vU (b.2.2.2.2.1,b.2.2.2.2.2.1) (b.2.2.1.length:Int)=true):bb b=some (xr b)/\tW (xr b)/\(xr b).1=b.1/\(xr b).2.1=b.2.1/\(xr b).2.2.1=b.2.2.1/\(xr b).2.2.2.2.2.2.1=b.2.2.2.2.2.2.1/\(xr b).2.2.2.2.2.2.2.1=b.2.2.2.2.2.2.2.1/\(xr b).2.2.2.2.2.2.2.2.1=b.2.2.2.2.2.2.2.2.1/\(xr b).2.2.2.2.2.2.2.2.2.1=b.2.2.2.2.2.2.2.2.2.1/\(xr b).2.2.2.2.2.2.2.2.2.2=y9 b.2.2.2.2.2.2.2.2.2.2:=by
 obtain⟨r,r1,r2,r3,r4,r5,r6,q1,q2,q3,q4,q5,q6,q7⟩:=MN h;have e:xr b=r:=by unfold xr;rw[r1];rfl
 rw[e];have hok:tI r=true:=r3.ok (by rw[r4,r5,r6];exact hv)
 refine⟨r1,CR (KA r3 r3.le) hok,q1,q2,r4,q3,q4,q5,q6,?_⟩;rw[DK]at q7;exact (Option.some.inj q7).symm
theorem HD {b:sx} (h:tW b):xk (GJ b):=by
 have s:=h.sok;refine⟨s.id,s.name,s.n1,s.n6,s.p,(Og (GP s.f)).ok,?_,s.q,s.v,s.s,s.i,s.h⟩;obtain⟨h1,h2,h3,h4,h5⟩:=yr (zh h.ok).1;unfold vd;simp only[aT];exact⟨DL h1,h2,h3,h4,h5⟩
theorem Pu {b:sx} (h:tW b):l8 b=some (Ap b)/\tW (Ap b)/\(Ap b).2.1=b.2.1/\(Ap b).2.2.2.2.2.2.2.1=b.2.2.2.2.2.2.2.1/\(Ap b).2.2.2.2.2.2.2.2.1=b.2.2.2.2.2.2.2.2.1/\(Ap b).2.2.2.2.2.2.2.2.2.2=y9 b.2.2.2.2.2.2.2.2.2.2:=by
 obtain⟨t1,t2,t3,t4,t5,t6,t7,t8,t9,t10⟩:=Ps (HD h) h.v;have hf:=GP h.f
 unfold l8;rw[xi h.le,an,AB h.w,an,h.ok,cT,DK,an,Qr (by have:=hf.n;omega),an];have t1':bb (b.1,b.2.1,b.2.2.1,b.2.2.2.1.filterMap uH,b.2.2.2.2.1,b.2.2.2.2.2.1,y9 b.2.2.2.2.2.2.1,b.2.2.2.2.2.2.2.1,b.2.2.2.2.2.2.2.2.1,b.2.2.2.2.2.2.2.2.2.1,b.2.2.2.2.2.2.2.2.2.2)=some (xr (GJ b)):=t1
 rw[t1',an];exact⟨rfl,t2,t4,t7,t8,t10⟩

theorem v7 {α β:Type} {o:Option α} {a:α} {k:α->Option β} {r:Option β} (h:o=some a) (hk:k a=r):o.bind k=r:=by rw[h];exact hk
theorem Pv {a:sL} (h:u5 a) {b:sx} (hb:tW b):u5 (u9 b (aW a) (sA a) (tN a) (sZ a)):=⟨hb,h.w,h.n,h.lo,h.la,h.ids,h.up,h.j⟩
theorem xE {b:List Int} (t:Int) {body:List Int} (hb:b.length<=1200) (hn:body.length<=M):aq b t body=some (b++if sC t 0 255=true/\body.length<=250 then tP t body else []):=by
 have hM:M=1048576:=rfl;unfold aq;rw[vY (by omega),an,yu,an];cases hp:sC t 0 255 with
 | false=>rw[Bool.not_false,cT,an,cT,if_neg (λh=>by cases h.1),append_nil]
 | true =>
  rw[Bool.not_true,cF,an];by_cases h250:body.length<=250
  · have hw:IntKind.u8.wrap t=t:=by obtain⟨a,c⟩:=tT hp;rw[w8];omega
    have hl:IntKind.u8.wrap ((body.length:Int))=(body.length:Int):=by rw[w8];omega
    rw[dF (by omega),cF,hw,hl,if_pos ⟨rfl,h250⟩,sE (by show b.length+1<=_;omega),an];by_cases h127:(body.length:Int)>127
    · rw[dT h127,cT,sE (by rw[length_append];show b.length+1+1<=_;omega),an,sE (by simp only[length_append,length_singleton];omega),an,sE (by simp only[length_append,length_singleton];omega),an];unfold tP;rw[if_pos (by omega)];simp
    · rw[dF h127,cF,sE (by simp only[length_append,length_singleton];omega),an,sE (by simp only[length_append,length_singleton];omega),an];unfold tP;rw[if_neg (by omega)];simp
  · rw[dT (by omega),cT,if_neg (λh=>h250 h.2),append_nil]
theorem Iw {o:List Int} (h:vV o=true):ff o=some (tv o):=by
 obtain⟨o1,o2,o3⟩:=xF h;have hM:M=1048576:=rfl
 unfold ff;rw[HJ,CF (by omega),an,h,Bool.not_true,cF];obtain⟨v,e1,rfl⟩:=sQ (step:=λz:Int×List Int=>cU o z.1 z.2) (λk z=>z=((k:Int),tv (o.take k))) o.length (λv=>v=tv o)
  (λk z hk e=>by
   subst e;have hx:=o3 _ (getElem_mem hk)
   have hl:(tv (o.take k)).length<=3*(o.take k).length:=yz λx hx=>(o3 x (mem_of_mem_take hx)).2;rw[length_take]at hl;have hg:=FS o[k]
   refine .inl ⟨_,?_,rfl⟩;show cU o (k:Int) _=_
   unfold cU;rw[tC (by omega),cT,sO hk,an,Mm ⟨hx.1,by omega⟩,an,sE (by show (tv (o.take k)).length+(grp o[k]).length<=_;omega),an,sK (by omega),take_add_one,List.getElem?_eq_getElem hk];unfold tv;rw[List.flatMap_append];simp)
  (λz e=>by
   subst e;refine⟨_,?_,rfl⟩;show cU o (o.length:Int) _=_
   unfold cU;rw[tk (by omega),cF,take_length]) (x:=(0,[])) rfl
 have e1:loop (λz=>cU o z.1 z.2) (0,([]:List Int))=some (tv o):=e1;rw[e1];rfl
theorem Nu {b:List Int} (hb:b.length<=1000) {v:wl} (h:wq v=true):gw b v=some (b++tP v.1 (uZ v)):=by
 have hM:M=1048576:=rfl;obtain⟨l1,l2⟩:=B4 h;have hk:sC v.1 0 255=true:=by
  unfold wq at h;by_cases c1:(v.1==5||(v.1==128||v.1==130))=true
  · simp only[Bool.or_eq_true,beq_iff_eq]at c1;rcases c1 with c|c|c<;>rw[c]<;>rfl
  · rw[show (v.1==5||(v.1==128||v.1==130))=false by simpa using c1,cF]at h;by_cases c2:v.1=2
    · rw[c2];rfl
    · rw[beq_eq_false_iff_ne.2 c2,cF]at h;by_cases c4:v.1=4
      · rw[c4];rfl
      · rw[beq_eq_false_iff_ne.2 c4,cF]at h;by_cases c6:v.1=6
        · rw[c6];rfl
        · rw[beq_eq_false_iff_ne.2 c6,cF]at h;cases h
 have fin:∀body,uZ v=body->aq b v.1 body=some (b++tP v.1 (uZ v)):=λbody e=>by
  subst e;rw[xE _ (by omega) (by omega),if_pos ⟨hk,by omega⟩]
 have ho6:v.2.2.2.length<=M:=by
  unfold wq at h;by_cases c6:v.1=6
  · rw[c6]at h;simp only[show ((6:Int)==5)=false from rfl,show ((6:Int)==128)=false from rfl,show ((6:Int)==130)=false from rfl,Bool.or_self,cF,show ((6:Int)==2)=false from rfl,show ((6:Int)==4)=false from rfl,show ((6:Int)==6)=true from rfl,cT,aT]at h;have:=FU h.1
    omega
  · have:v.2.2.2.length=0:=by
     revert h
     cases (v.1==5||(v.1==128||v.1==130))with
     | true=>intro h;simp only[cT,aT,beq_iff_eq]at h;omega
     | false =>
      rw[cF];cases (v.1==2)with
      | true=>intro h;simp only[cT,aT,beq_iff_eq]at h;omega
      | false =>
       rw[cF];cases (v.1==4)with
       | true=>intro h;simp only[cT,aT,beq_iff_eq]at h;omega
       | false=>intro h;rw[cF,beq_eq_false_iff_ne.2 c6]at h;cases h
    omega
 unfold gw;rw[FP ho6,an,h,Bool.not_true,cF];by_cases h2:v.1=2
 · have e:uZ v=ut v.2.1:=by unfold uZ;rw[beq_iff_eq.2 h2];rfl
   have hr:-2147483648<=v.2.1/\v.2.1<=2147483647:=by
    unfold wq at h;rw[h2]at h;simp only[show ((2:Int)==5)=false from rfl,show ((2:Int)==128)=false from rfl,show ((2:Int)==130)=false from rfl,Bool.or_self,cF,show ((2:Int)==2)=true from rfl,cT,aT]at h;exact tT h.1
   rw[beq_iff_eq.2 h2,cT,AC,an,zn hr,fin _ e];rfl
 rw[beq_eq_false_iff_ne.2 h2,cF];by_cases h4:v.1=4
 · have e:uZ v=vl v.2.2.1:=by unfold uZ;rw[beq_eq_false_iff_ne.2 h2,beq_iff_eq.2 h4];rfl
   rw[beq_iff_eq.2 h4,cT,fin _ e];rfl
 rw[beq_eq_false_iff_ne.2 h4,cF];by_cases h6:v.1=6
 · have e:uZ v=tv v.2.2.2:=by unfold uZ;rw[beq_eq_false_iff_ne.2 h2,beq_eq_false_iff_ne.2 h4,beq_iff_eq.2 h6];rfl
   have ho:vV v.2.2.2=true:=by
    unfold wq at h;rw[h6]at h;simp only[show ((6:Int)==5)=false from rfl,show ((6:Int)==128)=false from rfl,show ((6:Int)==130)=false from rfl,Bool.or_self,cF,show ((6:Int)==2)=false from rfl,show ((6:Int)==4)=false from rfl,show ((6:Int)==6)=true from rfl,cT,aT]at h;exact h.1
   rw[beq_iff_eq.2 h6,cT,Iw ho,an,fin _ e];rfl
 · have e:uZ v=[]:=by unfold uZ;rw[beq_eq_false_iff_ne.2 h2,beq_eq_false_iff_ne.2 h4,beq_eq_false_iff_ne.2 h6];rfl
   rw[beq_eq_false_iff_ne.2 h6,cF,fin _ e];rfl
theorem Oh {l:List sB} (hx:∀x∈l,wE x=true) (hn:l.length<=10):gx l=some (tF l):=by
 have hM:M=1048576:=rfl;have hlen:∀k,(tF (l.take k)).length<=110*k:=λk=>by
  induction k with
  | zero=>simp[tF]
  | succ k ih =>
   rw[take_add_one];unfold tF at ih ⊢;rw[List.flatMap_append,length_append];cases hk:l[k]? with
   | none=>show (List.flatMap yd (l.take k)).length+0<=_;omega
   | some x =>
    have:=(A7 (hx x (List.mem_of_getElem? hk))).2;show (List.flatMap yd (l.take k)).length+(yd x++[]).length<=_
    rw[append_nil];omega
 unfold gx;obtain⟨v,e1,rfl⟩:=sQ (step:=λz:Int×List Int=>cV l z.1 z.2) (λk z=>z=((k:Int),tF (l.take k))) l.length (λv=>v=tF l)
  (λk z hk e=>by
   subst e;have hxk:=hx _ (getElem_mem hk)
   have hl:=hlen k;obtain⟨b1,b2⟩:=A7 hxk;have hxk':=hxk
   unfold wE at hxk';rw[aT]at hxk';obtain⟨o1,o2,o3⟩:=xF hxk'.1;have ho:=yz (o:=l[k].1) λy hy=>(o3 y hy).2
   have ht:=vj 6 (body:=tv l[k].1);refine .inl ⟨_,?_,rfl⟩;show cV l (k:Int) _=_
   unfold cV;rw[tC (by omega),cT,sO hk,an,Iw hxk'.1,an,xE _ (by simp) (by omega),if_pos ⟨by decide,by omega⟩,an,an,nil_append,Nu (by omega) hxk'.2,an,xE _ (by show (tF (l.take k)).length<=1200;omega) (by show (Ad l[k]).length<=_;omega),if_pos ⟨by decide,by show (Ad l[k]).length<=250;omega⟩,an,sK (by omega),take_add_one,List.getElem?_eq_getElem hk];unfold tF;rw[List.flatMap_append];simp[yd,Ad])
  (λz e=>by
   subst e;refine⟨_,?_,rfl⟩;show cV l (l.length:Int) _=_
   unfold cV;rw[tk (by omega),cF,take_length]) (x:=(0,[])) rfl
 have e1:loop (λz=>cV l z.1 z.2) (0,([]:List Int))=some (tF l):=e1;rw[e1];rfl
theorem Ix {p:tg} (hp:wM M p):ez p=some (xY p):=by
 have hM:M=1048576:=rfl;unfold ez xY;rw[JM hp,an];cases hk:uF p with
 | false=>rw[Bool.not_false,cT,if_neg (λh=>by cases h.1)]
 | true =>
  obtain⟨k1,k2,k3,k4,k5,k6⟩:=va hk;have i1:=wk p.2.1
  have i2:=wk p.2.2.1;have i3:=wk p.2.2.2.1
  have t1:=vj 2 (body:=ut p.2.1);have t2:=vj 2 (body:=ut p.2.2.1)
  have t3:=vj 2 (body:=ut p.2.2.2.1);rw[Bool.not_true,cF];unfold ii;rw[Oh k1 k2,an];by_cases ha:(tF p.2.2.2.2).length<=250
  · rw[dF (by omega),cF,AC,an,zn k4,xE _ (by simp) (by omega),if_pos ⟨by decide,by omega⟩,an,AC,an,zn (by omega),xE _ (by simp only[nil_append];omega) (by omega),if_pos ⟨by decide,by omega⟩,an,AC,an,zn (by omega),xE _ (by simp only[nil_append,length_append];omega) (by omega),if_pos ⟨by decide,by omega⟩,an,xE _ (by simp only[nil_append,length_append];omega) (by omega),if_pos ⟨by decide,ha⟩,an];have eb:([]++tP 2 (ut p.2.1)++tP 2 (ut p.2.2.1)++tP 2 (ut p.2.2.2.1)++tP 48 (tF p.2.2.2.2))=xl p:=by unfold xl;simp
    rw[eb];have t4:=vj 48 (body:=tF p.2.2.2.2)
    have hbl:(xl p).length<=400:=by unfold xl;simp only[length_append];omega
    by_cases hb:(xl p).length<=250
    · simp only[an,dT (show ((xl p).length:Int)<=250 by omega),Bool.not_true,cF];rw[xE _ (by simp) (by omega),if_pos ⟨k3,hb⟩,if_pos ⟨trivial,ha,hb⟩,an,nil_append]
    · simp only[an,dF (show ¬((xl p).length:Int)<=250 by omega),Bool.not_false,cT];rw[if_neg (λh=>hb h.2.2)]
  · rw[dT (by omega),cT,an,Bool.not_false,cT,if_neg (λh=>ha h.2.1)]
theorem DM (w:List UInt8) {p:tg} (hp:wM M p):cp w p=some (Dn w p):=by
 have hM:M=1048576:=rfl;have hpl:=Nj p
 unfold cp Dn;rw[Ix hp,an];by_cases h0:(xY p).length=0
 · rw[if_pos (Or.inl h0),show ((((xY p).length:Nat):Int)==0)=true by rw[h0];rfl];rfl
 · rw[beq_eq_false_iff_ne.2 (show (((xY p).length:Nat):Int)≠0 by omega),cF,an];by_cases hw:20<w.length
   · rw[if_pos (Or.inr hw),dT (by omega)];rfl
   · have hwl:(vl w).length=w.length:=by unfold vl;rw[length_map]
     have hi1:=wk 1;have ht1:=vj 2 (body:=ut 1)
     have ht2:=vj 4 (body:=vl w);have hhd:(AZ w).length<=40:=by unfold AZ;rw[length_append];omega
     rw[if_neg (by omega),dF (by omega),cF,AC,an,zn (by omega),xE _ (by simp) (by omega),if_pos ⟨by decide,by omega⟩,an,nil_append,xE _ (by omega) (by omega),if_pos ⟨by decide,by omega⟩,an];show ((sT (AZ w) (xY p)).bind _)=_
     rw[sE (by omega),an];by_cases hb:(AZ w++xY p).length<=250
     · rw[dF (by omega),cF,xE _ (by simp) (by omega),if_pos ⟨by decide,hb⟩,if_pos hb];rfl
     · rw[dT (by omega),cT,if_neg hb]

def KC (m:List Int):Prop:=uu m/\m.length<=1000
theorem Oi {c:sN} (h:CW c) {m:List Int} (hm:uu m) (hl:m.length<=900):Dr KC (fE c m):=by
 have no:∀c,CW c->Dr KC (some (c,m)):=λc hc=>Dr.some hc ⟨hm,by omega⟩;unfold fE;by_cases h0:(m.length:Int)=0
 · rw[beq_iff_eq.2 h0,cT];exact no c h
 rw[beq_eq_false_iff_ne.2 h0,cF];refine Dr.bind (uL h 5) λc t hc _=>?_;refine Dr.cond ?_ (Dr.cond ?_ (Dr.cond ?_ (no c hc)))
 · obtain⟨c1,k,e1,w1,hk⟩:=uJ hc (n:=m.length) (by omega);rw[e1,an];refine Dr.bind (Bu w1 (by decide)) λc x hc hx=>?_;rw[vI hk,an,List.getElem?_eq_getElem hk,an];refine Dr.some hc ⟨λy hy=>?_,by rw[length_set];omega⟩;rcases List.mem_or_eq_of_mem_set hy with hy|rfl
   · exact hm y hy
   · show 0<=IntKind.u8.wrap x/\IntKind.u8.wrap x<=255;rw[w8];omega
 · rw[sE (by show m.length+1<=_;omega),an];refine Dr.some hc ⟨zi hm (λy hy=>by rw[mem_singleton.1 hy];decide),by rw[length_append];show m.length+1<=1000;omega⟩
 · obtain⟨c1,k,e1,w1,hk⟩:=uJ hc (n:=m.length) (by omega);have hx:uG m.length 0 (k:Int)=some (0,k):=zP (a:=0) (Nat.zero_le _) (by omega)
   rw[e1,an];simp only;rw[hx,an];refine Dr.some w1 ⟨λy hy=>hm y (mem_of_mem_take (mem_of_mem_drop hy)),?_⟩;rw[length_drop,length_take];show min k m.length-0<=1000;omega
theorem LO {c:sN} (h:CW c) {n:Nat} (hn:n<=1000) (k i a b:Int):Dr (λp:tg=>p.2.2.2.2.length=n/\∀x∈p.2.2.2.2,yw x) ((loop (λz:Int×List Int×Int×Int×Int×Int×Int×Int×List sB=>co z.1 z.2.1 z.2.2.1 z.2.2.2.1 z.2.2.2.2.1 z.2.2.2.2.2.1 z.2.2.2.2.2.2.1 z.2.2.2.2.2.2.2.1 z.2.2.2.2.2.2.2.2) ((n:Int),c.1,c.2.1,c.2.2,k,i,a,b,[])).bind λd=>some ((d.1,d.2.1,d.2.2.1),d.2.2.2)):=by
 obtain⟨d,d1,d2,d3,d4⟩:=sQ (step:=λz:Int×List Int×Int×Int×Int×Int×Int×Int×List sB=>co z.1 z.2.1 z.2.2.1 z.2.2.2.1 z.2.2.2.2.1 z.2.2.2.2.2.1 z.2.2.2.2.2.2.1 z.2.2.2.2.2.2.2.1 z.2.2.2.2.2.2.2.2)
  (λj z=>z.1=((n-j:Nat):Int)/\CW (z.2.1,z.2.2.1,z.2.2.2.1)/\z.2.2.2.2.2.2.2.2.length=j/\∀y∈z.2.2.2.2.2.2.2.2,yw y) n
  (λd=>CW (d.1,d.2.1,d.2.2.1)/\d.2.2.2.2.2.2.2.length=n/\∀y∈d.2.2.2.2.2.2.2,yw y)
  (λj z hj ⟨z1,z2,z3,z4⟩=>by
   obtain⟨q,c0,c1,c2,r0,r1,r2,r3,out⟩:=z;simp only at z1 z2 z3 z4;subst z1 z3;obtain⟨c',o,x1,x2,x3⟩:=JR z2;obtain⟨c'',v,y1,y2,y3⟩:=JS x2;refine .inl ⟨_,by
    show co _ _ _ _ _ _ _ _ _=_;unfold co;rw[dT (show ((n-out.length:Nat):Int)>0 by omega),cT,x1,an,y1,an,sE (by show _+1<=_;omega),an],?_,y2,by simp,?_⟩
   · show sy (((n-out.length:Nat):Int)-1)=_;rw[sV (by omega) (by omega)];omega
   · intro y hy;rcases mem_append.1 hy with hy|hy
     · exact z4 y hy
     · rw[mem_singleton]at hy;subst hy;have:=x3.n10
       exact⟨by show o.length<=1000;omega,y3⟩)
  (λz ⟨z1,z2,z3,z4⟩=>by
   obtain⟨q,c0,c1,c2,r0,r1,r2,r3,out⟩:=z;simp only at z1 z2 z3 z4;rw[Nat.sub_self]at z1;subst z1;refine⟨(c0,c1,c2,r0,r1,r2,r3,out),?_,z2,z3,z4⟩;show co _ _ _ _ _ _ _ _ _=_
   unfold co;rw[dF (show ¬((0:Nat):Int)>0 by decide),cF]) (x:=((n:Int),c.1,c.2.1,c.2.2,k,i,a,b,[])) ⟨rfl,h,rfl,by simp⟩
 refine⟨_,_,v7 d1 rfl,d2,d3,d4⟩
theorem LP {c:sN} (h:CW c) {n:Nat} (hn:n<=1000) (k i a b:Int):Dr (λp:tg=>p.2.2.2.2.length=n/\∀x∈p.2.2.2.2,yw x) ((loop (λz:Int×List Int×Int×Int×Int×Int×Int×Int×List sB=>cm z.1 z.2.1 z.2.2.1 z.2.2.2.1 z.2.2.2.2.1 z.2.2.2.2.2.1 z.2.2.2.2.2.2.1 z.2.2.2.2.2.2.2.1 z.2.2.2.2.2.2.2.2) ((n:Int),c.1,c.2.1,c.2.2,k,i,a,b,[])).bind λd=>some ((d.1,d.2.1,d.2.2.1),d.2.2.2)):=by
 obtain⟨d,d1,d2,d3,d4⟩:=sQ (step:=λz:Int×List Int×Int×Int×Int×Int×Int×Int×List sB=>cm z.1 z.2.1 z.2.2.1 z.2.2.2.1 z.2.2.2.2.1 z.2.2.2.2.2.1 z.2.2.2.2.2.2.1 z.2.2.2.2.2.2.2.1 z.2.2.2.2.2.2.2.2)
  (λj z=>z.1=((n-j:Nat):Int)/\CW (z.2.1,z.2.2.1,z.2.2.2.1)/\z.2.2.2.2.2.2.2.2.length=j/\∀y∈z.2.2.2.2.2.2.2.2,yw y) n
  (λd=>CW (d.1,d.2.1,d.2.2.1)/\d.2.2.2.2.2.2.2.length=n/\∀y∈d.2.2.2.2.2.2.2,yw y)
  (λj z hj ⟨z1,z2,z3,z4⟩=>by
   obtain⟨q,c0,c1,c2,r0,r1,r2,r3,out⟩:=z;simp only at z1 z2 z3 z4;subst z1 z3;obtain⟨c',o,x1,x2,x3⟩:=JR z2;obtain⟨c'',v,y1,y2,y3⟩:=JS x2;refine .inl ⟨_,by
    show cm _ _ _ _ _ _ _ _ _=_;unfold cm;rw[dT (show ((n-out.length:Nat):Int)>0 by omega),cT,x1,an,y1,an,sE (by show _+1<=_;omega),an],?_,y2,by simp,?_⟩
   · show sy (((n-out.length:Nat):Int)-1)=_;rw[sV (by omega) (by omega)];omega
   · intro y hy;rcases mem_append.1 hy with hy|hy
     · exact z4 y hy
     · rw[mem_singleton]at hy;subst hy;have:=x3.n10
       exact⟨by show o.length<=1000;omega,y3⟩)
  (λz ⟨z1,z2,z3,z4⟩=>by
   obtain⟨q,c0,c1,c2,r0,r1,r2,r3,out⟩:=z;simp only at z1 z2 z3 z4;rw[Nat.sub_self]at z1;subst z1;refine⟨(c0,c1,c2,r0,r1,r2,r3,out),?_,z2,z3,z4⟩;show cm _ _ _ _ _ _ _ _ _=_
   unfold cm;rw[dF (show ¬((0:Nat):Int)>0 by decide),cF]) (x:=((n:Int),c.1,c.2.1,c.2.2,k,i,a,b,[])) ⟨rfl,h,rfl,by simp⟩
 refine⟨_,_,v7 d1 rfl,d2,d3,d4⟩
theorem LQ {c:sN} (h:CW c):Dr (λp:tg=>wM M p) (fD c):=by
 have hM:M=1048576:=rfl;have le:∀{n:Nat},n<=3->∀p:tg,(p.2.2.2.2.length=n/\∀x∈p.2.2.2.2,yw x)->wM M p:=λhn p hp=>⟨by show p.2.2.2.2.length<=1048576;omega,λx hx=>(hp.2 x hx).le⟩
 have up:∀{n:Nat} {o:Option (sN×tg)},n<=3->Dr (λp:tg=>p.2.2.2.2.length=n/\∀x∈p.2.2.2.2,yw x) o->Dr (λp:tg=>wM M p) o:=λhn ⟨c,p,e,w,hp⟩=>⟨c,p,e,w,le hn p hp⟩;unfold fD;refine Dr.bind (Bu h (by decide)) λc k hc _=>?_;refine Dr.bind (MR hc) λc x hc _=>?_;obtain⟨r,hr⟩:=MT x;rw[hr,an];have hkk:∃t,(cond (k==162) (some true) (some (k==165)))=some t:=by cases k==162<;>exact⟨_,rfl⟩
 obtain⟨t,ht⟩:=hkk;simp only;rw[ht,an];refine Dr.cond ?_ ?_
 · refine Dr.bind (uL hc 4) λc a hc _=>?_;refine Dr.bind (uL hc 5) λc b hc _=>?_;obtain⟨c1,n,e1,w1,hn⟩:=uJ hc (n:=4) (by decide);have e1':aa c 4=some (c1,(n:Int)):=e1
   simp only;rw[e1',an];exact up (by omega) (LO w1 (by omega) k r a b)
 · obtain⟨c1,n,e1,w1,hn⟩:=uJ hc (n:=4) (by decide);have e1':aa c 4=some (c1,(n:Int)):=e1
   rw[e1',an];exact up (by omega) (LP w1 (by omega) k r 0 0)
theorem Fa (w:List UInt8) (p:tg):KC (Dn w p)/\(Dn w p).length<=900:=by
 have h:(Dn w p).length<=300:=by
  unfold Dn;split
  · simp
  · split
    · have:=vj 48 (body:=AZ w++xY p);omega
    · simp
 exact⟨⟨Nq w p,by omega⟩,by omega⟩
theorem My {c:sN} (h:CW c) {b:sx} (hb:tW b):Dr KC (cq c b):=by
 have hq:∀c,CW c->Dr BH (bO c b):=λc hc=>Mx hc hb.w λc hc=>by obtain⟨c',o,e,w,h⟩:=ML hc hb;exact⟨c',o,e,w,h⟩
 unfold cq;refine Dr.bind (uL h 10) λc t hc _=>?_;refine Dr.cond ?_ (Dr.cond ?_ (Dr.cond ?_ ?_))
 · refine Dr.bind (hq c hc) λc p hc hp=>?_;simp only;rw[DM _ hp.le,an];obtain⟨m1,m2⟩:=Fa [121,97,114,100] p;exact Dr.bind (Oi hc m1.1 m2) λc m hc hm=>Dr.some hc hm
 · refine Dr.bind (hq c hc) λc p hc hp=>?_;simp only;rw[DM _ hp.le,an];exact Dr.some hc (Fa _ p).1
 · refine Dr.bind (LQ hc) λc p hc hp=>?_;simp only;rw[DM _ hp,an];exact Dr.some hc (Fa _ p).1
 · refine Dr.bind (hq c hc) λc p hc hp=>?_;simp only;rw[DM _ hp.le,an];exact Dr.some hc (Fa _ p).1
theorem y8 {code:List Int} (h:code.length<=1048576):∃k:Nat,bz code 36=some (k:Int)/\k<=36:=by
 unfold bz;have e:sy (3+(sy ((code.length:Int).tdiv 12)))=3+(code.length:Int)/12:=by
  rw[Int.tdiv_eq_ediv_of_nonneg (by omega),sV (n:=(code.length:Int)/12) (by omega) (by omega),sV (by omega) (by omega)]
 simp only[e];by_cases hk:3+(code.length:Int)/12>36
 · rw[dT hk,cT];exact⟨36,rfl,Nat.le_refl _⟩
 · rw[dF hk,cF];exact⟨(3+(code.length:Int)/12).toNat,by rw[Int.toNat_of_nonneg (by omega)],by omega⟩
theorem Mz {α β:Type} (l:List α) (i:Int) (f:α->Option β):((ix l.length i).bind λj=>(l[j]?).bind f)=(at? l i).bind f:=by
 unfold ix at?;by_cases h0:0<=i
 · rw[if_pos h0,if_pos h0];by_cases h1:i<(l.length:Int)
   · rw[if_pos h1,an]
   · rw[if_neg h1,List.getElem?_eq_none (by omega)];rfl
 · rw[if_neg h0,if_neg h0];rfl
theorem Oj:iA=eO:=rfl
theorem LR:cX=aF:=rfl
theorem Pw {b:sx} (h:wU b) (o:List Int):gK b o=bt b o:=by
 unfold gK bt;rw[Em h];cases bG b with
 | none=>rfl
 | some l =>
  have hs:(λz:Int×Int×Int×List UInt8×List Int×List Int=>iB o l z.1 z.2.1 z.2.2.1 z.2.2.2.1 z.2.2.2.2.1 z.2.2.2.2.2)=λz=>ca o l z.1 z.2.1 z.2.2.1 z.2.2.2.1 z.2.2.2.2.1 z.2.2.2.2.2:=by
   funext z
   unfold iB ca;simp only[Mz,Oj];cases at? l z.1<;>rfl
  rw[an,an,hs];unfold aX;simp only[Option.bind_assoc,an]
theorem Qs {b:sx} (h:wU b) (o:List Int):gM b o=bZ b o:=by
 unfold gM bZ;rw[Em h];cases bG b with
 | none=>rfl
 | some l =>
  have hs:(λz:Int×Int×Int×List UInt8×List Int=>iC o l z.1 z.2.1 z.2.2.1 z.2.2.2.1 z.2.2.2.2)=λz=>br o l z.1 z.2.1 z.2.2.1 z.2.2.2.1 z.2.2.2.2:=by
   funext z
   unfold iC br;simp only[Mz,LR];cases at? l z.1<;>rfl
  rw[an,an,hs]
def Cy (b:sx) (x:sB):Prop:=vV x.1=true/\(x.2.1=130->ul b x.1=x)
theorem KD {b:sx} (h:tW b) {o:List Int} (ho:vV o=true):Cy b (ul b o):=by
 refine⟨vX (C5 h ho),λhk=>?_⟩;obtain⟨_,h1⟩:=DJ h (o:=o) (by have:=xn ho;omega);rcases h1 with ⟨h1,_⟩|⟨h1,h2⟩
 · exfalso;have hv:∀v:wl,Vl v->v.1≠130:=λv hv=>by cases hv<;>simp
   exact hv _ (zN h _ h1).2 hk
 · rw[h1];exact h1
theorem Fb {b:sx} {o:List Int} (ho:vV o=true):Cy b (o,5,0,[],[]):=⟨ho,λhk=>by have hk:(5:Int)=130:=hk;omega⟩
noncomputable def u7 (b:sx) (l:List sB):List sB:=l.map λx=>ul b x.1
theorem KE {b:sx} {x:sB} (h:Cy b x):(cond (x.2.1==130) x (ul b x.1))=ul b x.1:=by
 cases hk:x.2.1==130 with
 | true=>rw[cT];exact (h.2 (by simpa using hk)).symm
 | false=>rfl
noncomputable def xt (b:sx):Nat->List sB×List sB->List sB×List sB
 | 0,s=>s
 | n+1,s=>if 0<s.2.length/\s.1.length<10 then xt b n (s.1++u7 b s.2,u7 b s.2)else s
theorem Jt {b:sx}:∀(n:Nat) {s:List sB×List sB},10<=s.1.length->xt b n s=s
 | 0,s,_=>rfl
 | n+1,s,h=>if_neg (by omega)
theorem KF {b:sx}:∀(n:Nat) {s:List sB×List (List Int)},10<=s.1.length->zK b n s=s
 | 0,s,_=>rfl
 | n+1,s,h=>if_neg (by omega)
theorem Fc {b:sx}:∀(n:Nat) (out T:List sB),out.length<=10->(zK b n (out,T.map λx=>x.1)).1=(xt b n (out,T)).1.take 10
 | 0,out,T,h=>(take_of_length_le h).symm
 | n+1,out,T,h=>by
  by_cases hc:0<T.length/\out.length<10
  · have e1:zK b (n+1) (out,T.map λx=>x.1)=zK b n (Ae b (out,T.map λx=>x.1)):=if_pos (by simpa using hc);have e2:xt b (n+1) (out,T)=xt b n (out++u7 b T,u7 b T):=if_pos hc
    rw[e1,e2];by_cases hle:out.length+T.length<=10
    · have hm:xZ (out,T.map λx=>x.1)=T.length:=by unfold xZ;simp only[length_map];omega
      have e3:Ae b (out,T.map λx=>x.1)=(out++u7 b T,(u7 b T).map λx=>x.1):=by
       unfold Ae u7;simp only[hm];rw[take_of_length_le (by simp),List.drop_of_length_le (by simp),append_nil,map_map,map_map,map_map];rfl
      rw[e3];exact Fc n _ _ (by rw[length_append];unfold u7;rw[length_map];omega)
    · have hm:xZ (out,T.map λx=>x.1)=10-out.length:=by unfold xZ;simp only[length_map];omega
      have hl1:(Ae b (out,T.map λx=>x.1)).1.length=10:=by
       show (out++((T.map λx=>x.1).take (xZ (out,T.map λx=>x.1))).map (ul b)).length=10;rw[hm,length_append,length_map,length_take,length_map];omega
      rw[KF n (by omega),Jt n (by show 10<=(out++u7 b T).length;rw[length_append];unfold u7;rw[length_map];omega)];show out++((T.map λx=>x.1).take (xZ (out,T.map λx=>x.1))).map (ul b)=(out++u7 b T).take 10
      rw[hm,List.take_append,take_of_length_le h];unfold u7;rw[←List.map_take,←List.map_take,map_map];rfl
  · have e1:zK b (n+1) (out,T.map λx=>x.1)=(out,T.map λx=>x.1):=if_neg (by simpa using hc);have e2:xt b (n+1) (out,T)=(out,T):=if_neg hc
    rw[e1,e2];exact (take_of_length_le h).symm

theorem Ju {p:tg} (hp:wM M p):e9 p=some (uE p):=by
 unfold e9;rw[Ix hp,an];show (ae ((xY p).length:Int) 1 120).bind _=_
 rw[yu,an];rfl
def named (l:List sB):List sB:=l.map λx=>(x.1,5,0,[],[])
theorem KG {l:List sB} (hn:l.length<=M):cZ l=some (named l):=by
 have hM:M=1048576:=rfl;unfold cZ named;refine v7 (AX (g:=λx:sB=>((x.1,5,0,[],[]):sB)) hn (λk hk out ho=>?_) (λout=>?_)) rfl
 · show fr l (k:Int) out=_;unfold fr;rw[tC (by omega),cT,sO hk,an,sE (by rw[ho];show k+1<=_;omega),an,sK (by omega)]
 · show fr l (l.length:Int) out=_;unfold fr;rw[tk (by omega),cF]
theorem HE {b:sx} (h:tW b) {l:List sB} (hn:l.length<=1000) (hT:∀x∈l,Cy b x):bx b l=some (u7 b l):=by
 unfold bx u7;refine v7 (AX (g:=λx:sB=>ul b x.1) (by show _<=1048576;omega) (λk hk out ho=>?_) (λout=>?_)) rfl
 · have hx:=hT _ (getElem_mem hk);have e:=KE hx
   show fq b l (k:Int) out=_;unfold fq;rw[tC (by omega),cT,sO hk,an,an,an,Pw h.w,(DJ h (by have:=xn hx.1;omega)).1,an,sK (by omega)];cases hk':l[k].2.1==130 with
   | true =>
    rw[hk',cT]at e;rw[cT,sE (by rw[ho];show k+1<=_;omega),an,←e]
   | false=>rw[cF,sE (by rw[ho];show k+1<=_;omega),an]
 · show fq b l (l.length:Int) out=_;unfold fq;rw[tk (by omega),cF]
theorem Jv {b:sx} (h:tW b) {l:List sB} (hT:∀x∈l,Cy b x):∀x∈u7 b l,Cy b x:=by
 intro x hx;obtain⟨y,hy,rfl⟩:=mem_map.1 hx;exact KD h (hT y hy).1
theorem MA {b:sx} (h:tW b) {p:tg} (hB:p.2.2.2.1<=1000):∀(n i:Nat) (out T:List sB),T.length<=10->out.length<=10+10*i->(∀x∈T,Cy b x)->((i+n:Nat):Int)=p.2.2.2.1->loop (λz=>bL b p z.1 z.2.1 z.2.2) (T,(i:Int),out)=some (xt b n (out,T)).1
 | 0,i,out,T,h1,h2,hT,e=>by
  refine te ?_;show bL b p T (i:Int) out=_
  unfold bL;rw[tk (by omega),cF,an,cF,an,cF];rfl
 | n+1,i,out,T,h1,h2,hT,e=>by
  by_cases hc:0<T.length/\out.length<10
  · have hnl:(u7 b T).length=T.length:=by unfold u7;rw[length_map]
    refine sY (y:=(u7 b T,((i+1:Nat):Int),out++u7 b T)) ?_ ?_
    · show bL b p T (i:Int) out=_;unfold bL;rw[tC (by omega),cT,dT (by omega),an,cT,tC (by omega),an,cT,HE h (by omega) hT,an,sE (by rw[hnl];omega),an,sK (by omega)]
    · rw[MA h hB n (i+1) _ _ (by rw[hnl];exact h1) (by rw[length_append,hnl];omega) (Jv h hT) (by omega),show xt b (n+1) (out,T)=xt b n (out++u7 b T,u7 b T)from if_pos hc]
  · refine te ?_;show bL b p T (i:Int) out=_
    have e2:xt b (n+1) (out,T)=(out,T):=if_neg hc;rw[e2];unfold bL;rw[tC (by omega),cT];by_cases h1:0<T.length
    · rw[dT (by omega),an,cT,tk (by omega),an,cF]
    · rw[dF (by omega),an,cF,an,cF]
theorem Gq {b:sx}:∀(n:Nat) (out T:List sB),T.length<=10->out.length<=20->(xt b n (out,T)).1.length<=20
 | 0,out,T,_,h=>h
 | n+1,out,T,hT,h=>by
  by_cases hc:0<T.length/\out.length<10
  · rw[show xt b (n+1) (out,T)=xt b n (out++u7 b T,u7 b T)from if_pos hc];have hnl:(u7 b T).length=T.length:=by unfold u7;rw[length_map]
    exact Gq n _ _ (by omega) (by rw[length_append,hnl];omega)
  · rw[show xt b (n+1) (out,T)=(out,T)from if_neg hc];exact h
theorem Ok {b:sx} (h:tW b) {p:tg} (hp:uF p=true):gL b p=some (wz b p):=by
 obtain⟨x1,x2,_,_,x5,x6⟩:=va hp;have hM:M=1048576:=rfl
 have hnl:(named p.2.2.2.2).length=p.2.2.2.2.length:=by unfold named;rw[length_map]
 have hTold:∀x∈named p.2.2.2.2,Cy b x:=by
  intro x hx;obtain⟨y,hy,rfl⟩:=mem_map.1 hx;exact Fb (vX (x1 y hy))
 have hon:ub p<=p.2.2.2.2.length:=Nat.min_le_right _ _;have hout:u7 b ((named p.2.2.2.2).take (ub p))=(p.2.2.2.2.take (ub p)).map (λx=>ul b x.1):=by
  unfold u7 named;rw[←List.map_take,map_map];rfl
 have hlast:((named p.2.2.2.2).drop (ub p)).map (λx=>x.1)=(p.2.2.2.2.drop (ub p)).map (λx=>x.1):=by
  unfold named;rw[←List.map_drop,map_map];rfl
 have hol:(u7 b ((named p.2.2.2.2).take (ub p))).length<=10:=by rw[hout,length_map,length_take];omega
 have hTl:((named p.2.2.2.2).drop (ub p)).length<=10:=by rw[length_drop];omega
 have hrun:=MA h (p:=p) (by omega) p.2.2.2.1.toNat 0 (u7 b ((named p.2.2.2.2).take (ub p))) ((named p.2.2.2.2).drop (ub p)) hTl (by omega) (λx hx=>hTold x (mem_of_mem_drop hx)) (by omega);have hv:wz b p=(xt b p.2.2.2.1.toNat (u7 b ((named p.2.2.2.2).take (ub p)),(named p.2.2.2.2).drop (ub p))).1.take 10:=by
  unfold wz Jp;rw[←hout,←hlast];exact Fc _ _ _ hol
 have hlen:=Gq (b:=b) p.2.2.2.1.toNat _ _ hTl (show (u7 b ((named p.2.2.2.2).take (ub p))).length<=20 by omega);have fin:∀k:Int,k=((ub p:Nat):Int)->((cZ p.2.2.2.2).bind λt22 =>
  (uG t22.length 0 k).bind λq =>
  (bx b ((t22.take q.2).drop q.1)).bind λt27 =>
  (cut t22 k (t22.length:Int)).bind λt30 =>
  (loop (λz=>bL b p z.1 z.2.1 z.2.2) (t30,0,t27)).bind λd =>
  cond (decide ((d.length:Int)>10))
   ((uG d.length 0 10).bind λp_1 =>
   some ((d.take p_1.2).drop p_1.1))
   (some d))=some (wz b p):=by
  rintro k rfl;rw[KG (by omega),an,show (0:Int)=((0:Nat):Int)from rfl,zP (by omega) (by rw[hnl];exact hon),an];show (bx b (((named p.2.2.2.2).take (ub p)).drop 0)).bind _=_
  rw[List.drop_zero,HE h (by rw[length_take];omega) (λx hx=>hTold x (mem_of_mem_take hx)),an,wg (by rw[hnl];exact hon) (Nat.le_refl _),an,take_length];refine v7 hrun ?_;rw[hv];generalize (xt b p.2.2.2.1.toNat (u7 b ((named p.2.2.2.2).take (ub p)),(named p.2.2.2.2).drop (ub p))).1=d at hlen;by_cases hd:(d.length:Int)>10
  · rw[dT hd,cT,show (10:Int)=((10:Nat):Int)from rfl,zP (by omega) (by omega),an];rfl
  · rw[dF hd,cF,take_of_length_le (by omega)]
 unfold gL;by_cases hc:p.2.2.1>(p.2.2.2.2.length:Int)
 · rw[dT hc,cT];exact fin _ (by unfold ub;omega)
 · rw[dF hc,cF];exact fin _ (by unfold ub;omega)
theorem KH (k i a c:Int) (bulk:Bool):∀(n:Nat) (l:List sB),l.length=n->n<=10->(∀x∈l,E8 M x) ->
 ∃t,loop (λz:tg=>cj bulk z.1 z.2.1 z.2.2.1 z.2.2.2.1 z.2.2.2.2) (k,i,a,c,l)=some (k,i,a,c,t)/\wM M (k,i,a,c,t) /\
  ((uE (k,i,a,c,l)=true/\t=l)\/(uE (k,i,a,c,l)=false/\((bulk=true/\uE (k,i,a,c,t)=true/\shr (λt=>uE (k,i,a,c,t)) n l=some t)\/(uE (k,i,a,c,t)=false/\(bulk=true->shr (λt=>uE (k,i,a,c,t)) n l=none)))))
 | n,l,hl,hn,hx=>by
  have hp:wM M (k,i,a,c,l):=⟨by show l.length<=1048576;omega,hx⟩;have hstep:∀q:Bool,uE (k,i,a,c,l)=q->cj bulk k i a c l=cond (bulk&&(!q&&decide ((l.length:Int)>0))) ((uG l.length 0 (sy ((l.length:Int)-1))).bind λp=>some (.inl (k,i,a,c,(l.take p.2).drop p.1))) (some (.inr (k,i,a,c,l))):=by
   intro q hq;unfold cj;rw[Ju hp,hq];cases bulk<;>cases q<;>rfl
  cases hf:uE (k,i,a,c,l)with
  | true =>
   refine⟨l,te ?_,hp,.inl ⟨rfl,rfl⟩⟩;show cj bulk k i a c l=_
   rw[hstep true hf];cases bulk<;>rfl
  | false =>
   cases hb:bulk with
   | false =>
    subst hb;refine⟨l,te ?_,hp,.inr ⟨rfl,.inr ⟨hf,(λh=>by cases h)⟩⟩⟩;show cj false k i a c l=_
    rw[hstep false hf];rfl
   | true =>
    subst hb
    match n,hl,hn with
    | 0,hl,hn =>
     refine⟨l,te ?_,hp,.inr ⟨rfl,.inr ⟨hf,λ_=>rfl⟩⟩⟩;show cj true k i a c l=_
     rw[hstep false hf,dF (by omega)];rfl
    | n+1,hl,hn =>
     have hlt:(l.take n).length=n:=by rw[length_take];omega
     have hs:cj true k i a c l=some (.inl (k,i,a,c,l.take n)):=by
      rw[hstep false hf,dT (by omega)];show ((uG l.length 0 (sy ((l.length:Int)-1))).bind _)=_
      rw[sV (by omega) (by omega),show (l.length:Int)-1=((n:Nat):Int) by omega,show (0:Int)=((0:Nat):Int)from rfl,zP (by omega) (by omega),an];rfl
     obtain⟨t,t1,t2,t3⟩:=KH k i a c true n (l.take n) hlt (by omega) (λx h=>hx x (mem_of_mem_take h));refine⟨t,sY hs t1,t2,.inr ⟨rfl,?_⟩⟩;rcases t3 with ⟨u1,rfl⟩|⟨u1,⟨_,u2,u3⟩|⟨u2,u3⟩⟩
     · exact .inl ⟨rfl,u1,if_pos u1⟩
     · exact .inl ⟨rfl,u2,by rw[show shr (λt=>uE (k,i,a,c,t)) (n+1) l=shr (λt=>uE (k,i,a,c,t)) n (l.take n)from if_neg (show ¬uE (k,i,a,c,l.take n)=true by rw[u1];simp)];exact u3⟩
     · exact .inr ⟨u2,λ_=>by rw[show shr (λt=>uE (k,i,a,c,t)) (n+1) l=shr (λt=>uE (k,i,a,c,t)) n (l.take n)from if_neg (show ¬uE (k,i,a,c,l.take n)=true by rw[u1];simp)];exact u3 rfl⟩
noncomputable def B0 (i a c:Int) (bulk:Bool) (l:List sB):tg :=
 cond (uE (162,i,a,c,l)) (162,i,a,c,l) (match cond bulk (shr (λt=>uE (162,i,a,c,t)) l.length l) none with|some t=>(162,i,a,c,t)|none=>(162,i,7,0,[]))
theorem HF (i a c:Int) (bulk:Bool) {l:List sB} (hn:l.length<=10) (hx:∀x∈l,E8 M x):cW (162,i,a,c,l) bulk=some (B0 i a c bulk l):=by
 obtain⟨t,t1,t2,t3⟩:=KH 162 i a c bulk l.length l rfl hn hx;unfold cW B0;refine v7 t1 ?_;rw[Ju t2,an];rcases t3 with ⟨u1,rfl⟩|⟨u1,⟨rfl,u2,u3⟩|⟨u2,u3⟩⟩
 · rw[u1,cT,cT]
 · rw[u1,u2,cT,cF,cT,u3]
 · rw[u1,u2,cF,cF];cases bulk with
   | true=>rw[cT,u3 rfl]
   | false=>rfl
theorem Px {b:sx} (h:tW b) {p:tg} (hp:uF p=true) (h163:(p.1==163)=false) (hk:(p.1 != 162)=true):∃l,gN b p=some l/\yq b p=(b,162,p.2.1,0,0,l)/\l.length<=10/\∀x∈l,E8 M x:=by
 obtain⟨x1,x2,_⟩:=va hp;have hM:M=1048576:=rfl
 unfold gN yq;cases h161:(p.1==161)with
 | true =>
  have h160:(p.1==160)=false:=by simp only[beq_iff_eq]at h161;rw[h161];rfl
  have hTold:∀x∈named p.2.2.2.2,Cy b x:=by
   intro x hx;obtain⟨y,hy,rfl⟩:=mem_map.1 hx;exact Fb (vX (x1 y hy))
  have he:u7 b (named p.2.2.2.2)=p.2.2.2.2.map λx=>ul b x.1:=by unfold u7 named;rw[map_map];rfl
  simp only[cT,cF,h160];rw[KG (by omega),an,HE h (by unfold named;rw[length_map];omega) hTold,an,he];refine⟨_,rfl,rfl,by rw[length_map];exact x2,λx hx=>?_⟩;obtain⟨y,hy,rfl⟩:=mem_map.1 hx;exact vD (C5 h (vX (x1 y hy)))
 | false =>
 cases h165:(p.1==165)with
 | true =>
  have h160:(p.1==160)=false:=by simp only[beq_iff_eq]at h165;rw[h165];rfl
  have hbk:=It h hp;simp only[cT,cF,h160];rw[Ok h hp,an];exact⟨_,rfl,rfl,hbk.o10,λx hx=>vD (hbk.oOk x hx)⟩
 | false =>
  have h160:(p.1==160)=true:=by
   rcases LI hp with e|e|e|e|e
   · rw[e];rfl
   · rw[e]at h161;cases h161
   · rw[e]at hk;cases hk
   · rw[e]at h163;cases h163
   · rw[e]at h165;cases h165
  simp only[cT,cF,h160];have e:loop (λz:Int×List sB=>ee b p z.1 z.2) (0,[])=some (p.2.2.2.2.map λx=>((x.1,AY b x.1):sB)):=by
   refine AX (by omega) (λk hk' out ho=>?_) (λout=>?_)
   · have hx:=xn (vX (x1 _ (getElem_mem hk')));show ee b p (k:Int) out=_
     unfold ee;rw[tC (by omega),cT,sO hk',an,sE (by show 0+_<=_;omega),an,an,Qs h.w,(LF h (by omega)).1,an,sE (by rw[ho];show k+1<=_;omega),an,sK (by omega)];rfl
   · show ee b p (p.2.2.2.2.length:Int) out=_;unfold ee;rw[tk (by omega),cF]
  rw[e,an];refine⟨_,rfl,rfl,by rw[length_map];exact x2,λx hx=>?_⟩;obtain⟨y,hy,rfl⟩:=mem_map.1 hx;exact vD (by unfold wE;rw[vX (x1 y hy),Ms h (by have:=xn (vX (x1 y hy));omega)];rfl)
theorem I8 {b:sx} {p:tg} {l:List sB} (ha:yq b p=(b,162,p.2.1,0,0,l)) (hl:(p.1==165)=true->l=wz b p):xq b p=(b,B0 p.2.1 0 0 (p.1==165) l):=by
 unfold xq zW B0;rw[ha];simp only;cases uE (162,p.2.1,0,0,l)with
 | true=>rfl
 | false =>
  rw[cF,cF];cases h165:(p.1==165)with
  | true=>rw[cT,cT,hl h165];cases shr (λt=>uE (162,p.2.1,0,0,t)) (wz b p).length (wz b p)<;>rfl
  | false=>rfl
theorem Ol {b:sx} (h:tW b) {p:tg} (hp:uF p=true) (h163:(p.1==163)=true):fo b p=some (xq b p):=by
 have hxs:=EY hp;have hM:M=1048576:=rfl
 have h10:=(va hp).2.1;obtain⟨r,r1,r2,_,_,r5⟩:=FR h.w h.le hxs;have hr:BG b p.2.2.2.2=r:=by unfold BG;rw[r1];rfl
 have h160:(p.1==160)=false:=by simp only[beq_iff_eq]at h163;rw[h163];rfl
 have h161:(p.1==161)=false:=by simp only[beq_iff_eq]at h163;rw[h163];rfl
 have h165:(p.1==165)=false:=by simp only[beq_iff_eq]at h163;rw[h163];rfl
 have ha:yq b p=(r.1,162,p.2.1,r.2.1,r.2.2,p.2.2.2.2):=by unfold yq;rw[h160,h161,h165,hr];rfl
 have hless:zW b p=(b,162,p.2.1,7,0,[]):=by unfold zW;rw[h165];rfl
 unfold fo xq;rw[As hxs,an,r2,an,Ju (p:=(162,p.2.1,r.2.1,r.2.2,p.2.2.2.2)) ⟨hxs.1,hxs.2⟩,an,ha,hless];simp only;have hb:∀q:Bool,uE (162,p.2.1,r.2.1,r.2.2,p.2.2.2.2)=q->((am b).bind λt36=>(cW (162,p.2.1,r.2.1,r.2.2,p.2.2.2.2) false).bind λt38=>some (t36,t38))=some (b,cond q (162,p.2.1,r.2.1,r.2.2,p.2.2.2.2) (162,p.2.1,7,0,[])):=by
  intro q hq;rw[vA h.le,an,HF _ _ _ _ h10 hxs.2,an];unfold B0;rw[hq];rfl
 cases hf:uE (162,p.2.1,r.2.1,r.2.2,p.2.2.2.2)with
 | false=>rw[Bool.not_false,cT,an,cT,hb false hf];rfl
 | true =>
  rw[Bool.not_true,cF,an];cases hc:(r.2.1 != 0)with
  | false=>rfl
  | true =>
   rw[cT,hb true hf];rcases r5 with ⟨r6,_⟩|⟨r6,_⟩
   · rw[r6]at hc;cases hc
   · rw[r6];rfl
theorem Om {b:sx} (h:wU b) (hb:yt M b) {p:tg} (hp:wM M p):gO b p=some (vh b p):=by
 unfold gO ig vh Dl;rw[zL h,an,vA hb];cases hbr:tI b with
 | false=>rfl
 | true =>
 rw[cT,JM hp,an,an];cases hpp:uF p with
 | false=>rfl
 | true =>
 cases hk:(p.1 != 162)with
 | false=>rfl
 | true =>
 have hBO:=CR h hbr;simp only[Bool.and_true,cT,an,Bool.not_true,cF];cases h163:(p.1==163)with
 | true=>rw[cT,Ol hBO hpp h163,an]
 | false =>
  obtain⟨l,e1,e2,e3,e4⟩:=Px hBO hpp h163 hk;have hl:(p.1==165)=true->l=wz b p:=by
   intro h165;have h160:(p.1==160)=false:=by simp only[beq_iff_eq]at h165;rw[h165];rfl
   have h161:(p.1==161)=false:=by simp only[beq_iff_eq]at h165;rw[h165];rfl
   have:yq b p=(b,162,p.2.1,0,0,wz b p):=by unfold yq;rw[h160,h161,h165];rfl
   rw[e2]at this;simpa using this
  rw[cF,e1,an,As ⟨by show l.length<=1048576;omega,e4⟩,an,HF _ _ _ _ e3 e4,an,I8 e2 hl]

theorem Jw {b:sx} {w:List UInt8} {l:List tQ} {lo la:Int} {k:Nat} (hk:k<l.length) (hl:l.length<=M):eh (u9 b w l lo la) (k:Int)=some (u9 b w (l.eraseIdx k) lo la):=by
 have hM:M=1048576:=rfl;have c1:uG l.length 0 (k:Int)=some (0,k):=by
  unfold uG;rw[if_pos (by omega),if_pos (by omega),if_pos (by omega)];simp
 have c2:uG l.length (sy ((k:Int)+1)) (l.length:Int)=some (k+1,l.length):=by
  rw[sK (by omega)];unfold uG;rw[if_pos (by omega),if_pos (by omega),if_pos (by omega)];simp
 have c3:sT ([]:List tQ) ((l.take k).drop 0)=some (l.take k):=by
  rw[List.drop_zero,sE (by rw[length_take];show 0+_<=_;omega)];rfl
 have c4:sT (l.take k) ((l.take l.length).drop (k+1))=some (l.eraseIdx k):=by
  rw[take_length,sE (by rw[length_take,length_drop];omega),←List.eraseIdx_eq_take_drop_succ]
 unfold eh u9;simp only[c1,an,c2,c3,c4]
theorem KI {b:sx} (hb:yt M b) {w:List UInt8} {l:List tQ} {lo la:Int} {k:Nat} (hk:k<l.length):fu (u9 b w l lo la) (k:Int)=some (u9 b w (l.set k (FI b l[k])) lo la):=by
 have cb:=vA hb;unfold fu u9;simp only[vI hk,an];have cb':am (b.1,b.2.1,b.2.2.1,b.2.2.2.1,b.2.2.2.2.1,b.2.2.2.2.2.1,b.2.2.2.2.2.2.1,b.2.2.2.2.2.2.2.1,b.2.2.2.2.2.2.2.2.1,b.2.2.2.2.2.2.2.2.2.1,b.2.2.2.2.2.2.2.2.2.2)=some b:=cb
 simp only[cb',an,List.getElem?_eq_getElem hk,length_set,vI hk,List.getElem?_set_self hk,set_set];rfl
theorem LS {n:Int} (h:sC n 0 1000000=true):bf n=some (y9 n):=by
 obtain⟨r,r1,r2,_⟩:=GQ h;rw[r2,←r1,DK]
theorem LT {b:sx} (hb:yt M b) (hc:vd b=true) {w:List UInt8} {l:List tQ} {lo la:Int} {k:Nat} (hk:k<l.length) (hl:l.length<=M) (h1:uu l[k].2.1) (h2:l[k].2.1.length<=M) :
 ei (u9 b w l lo la) (k:Int)=some (cond ((tR w l[k].2.1).2==3) (u9 (Bo b) w (l.eraseIdx k) lo la)
  (cond ((tR w l[k].2.1).2 != 0||((tR w l[k].2.1).1.1==162)) (u9 (A4 b) w (l.eraseIdx k) lo la) (u9 b w (l.set k (wA l[k].1 l[k].2.1 1 (tR w l[k].2.1).1 b 0 (tA l[k]))) lo la))):=by
 obtain⟨_,m1,m3,_⟩:=Hy w h1 h2;obtain⟨_,hp,hw,_⟩:=yr hc;unfold ei;have d1:=Jw (b:=Bo b) (w:=w) (lo:=lo) (la:=la) hk hl
 have d2:=Jw (b:=A4 b) (w:=w) (lo:=lo) (la:=la) hk hl;unfold Bo u9 at d1;unfold A4 u9 at d2;dsimp only[u9];simp only[vI hk,an,List.getElem?_eq_getElem hk,m1,LS hp,LS hw];rw[d1,d2];have hs:k<(l.set k (wA l[k].1 l[k].2.1 l[k].2.2.1 (tR w l[k].2.1).1 (jB l[k]) (wB l[k]) (tA l[k]))).length:=by rw[length_set];exact hk
 have e:=KI hb (w:=w) (lo:=lo) (la:=la) hs;unfold u9 at e;have e2:FI b (l.set k (wA l[k].1 l[k].2.1 l[k].2.2.1 (tR w l[k].2.1).1 (jB l[k]) (wB l[k]) (tA l[k])))[k]=wA l[k].1 l[k].2.1 1 (tR w l[k].2.1).1 b 0 (tA l[k]):=by
  rw[getElem_set_self];rfl
 rw[e2,set_set]at e;cases h0:((tR w l[k].2.1).2==0)with
 | true =>
  have h3:((tR w l[k].2.1).2==3)=false:=by
   have:(tR w l[k].2.1).2=0:=by simpa using h0
   rw[this];rfl
  have hn:((tR w l[k].2.1).2 != 0)=false:=by rw[bne,h0];rfl
  rw[h3,hn];simp only[cT,cF,an,Bool.false_or,bne];cases ((tR w l[k].2.1).1.1==162)with
  | true=>rfl
  | false =>
   simp only[Bool.not_false,cT,cF];refine (congrArg (λo=>Option.bind o λt=>some t) e).trans ?_;rfl
 | false =>
  have hn:((tR w l[k].2.1).2 != 0)=true:=by rw[bne,h0];rfl
  rw[hn];simp only[cT,cF,an,Bool.true_or];cases ((tR w l[k].2.1).2==3)<;>rfl
theorem LU {b:sx} {w:List UInt8} {l:List tQ} {lo la:Int} {k:Nat} (hk:k<l.length) (hl:l.length<=M) (p:tg):ej (u9 b w l lo la) (k:Int) p=some (u9 b w (l.eraseIdx k) lo la,[(l[k].1,p)]):=by
 have d:=Jw (b:=b) (w:=w) (lo:=lo) (la:=la) hk hl;have c0:ix (u9 b w l lo la).2.2.2.2.2.2.2.2.2.2.2.2.1.length (k:Int)=some k:=vI hk
 have c1:(u9 b w l lo la).2.2.2.2.2.2.2.2.2.2.2.2.1[k]?=some l[k]:=List.getElem?_eq_getElem hk;unfold ej;rw[c0,an,c1,an,d];rfl
theorem Jx (p:tg):B0 p.2.1 6 1 false p.2.2.2.2=yK p:=by
 unfold B0 yK;cases uE (162,p.2.1,6,1,p.2.2.2.2)<;>rfl
theorem Py {b:sx} (hB:tW b) {w:List UInt8} {l:List tQ} {lo la:Int} {k:Nat} (hk:k<l.length) (hl:l.length<=M) (hp:uF (jP l[k])=true) (h163:((jP l[k]).1==163)=true) :
 gS (u9 b w l lo la) (k:Int)=some (cond (b.2.2.2.2.2.2.2.2.2.2==(jB l[k]).2.2.2.2.2.2.2.2.2.2) (u9 (vh b (jP l[k])).1 w (l.eraseIdx k) lo la,[(l[k].1,(vh b (jP l[k])).2.1)])
  (cond (decide (tA l[k]>=3)) (u9 b w (l.eraseIdx k) lo la,[(l[k].1,yK (jP l[k]))])
   (u9 b w (l.set k (wA l[k].1 l[k].2.1 1 (jP l[k]) b 0 (sy (tA l[k]+1)))) lo la,[]))):=by
 have hk162:((jP l[k]).1 != 162)=true:=by
  have:(jP l[k]).1=163:=by simpa using h163
  rw[this];rfl
 obtain⟨_,r1,r2,_⟩:=Dm hB hp hk162;have hxs:=EY hp
 have h10:=(va hp).2.1;have s1:=Ol hB hp h163
 have c0:ix (u9 b w l lo la).2.2.2.2.2.2.2.2.2.2.2.2.1.length (k:Int)=some k:=vI hk;have c1:(u9 b w l lo la).2.2.2.2.2.2.2.2.2.2.2.2.1[k]?=some l[k]:=List.getElem?_eq_getElem hk
 unfold gS;rw[c0,an];simp only[c1,an];show cond (b.2.2.2.2.2.2.2.2.2.2==(jB l[k]).2.2.2.2.2.2.2.2.2.2) _ _=_
 cases hv:(b.2.2.2.2.2.2.2.2.2.2==(jB l[k]).2.2.2.2.2.2.2.2.2.2)with
 | true =>
  rw[cT,cT];refine v7 (a:=xq b (jP l[k])) s1 ?_;have e:=LU (b:=(xq b (jP l[k])).1) (w:=w) (lo:=lo) (la:=la) hk hl (xq b (jP l[k])).2
  rw[r1,r2];exact v7 e rfl
 | false =>
  rw[cF,cF];show cond (decide (tA l[k]>=3)) _ _=_
  cases hq:decide (tA l[k]>=3)with
  | true =>
   rw[cT,cT];refine v7 (As hxs) ?_;refine v7 (a:=yK (jP l[k])) ?_ ?_
   · have e:=HF (jP l[k]).2.1 6 1 false h10 hxs.2;rw[Jx]at e;exact e
   · exact v7 (LU (b:=b) (w:=w) (lo:=lo) (la:=la) hk hl (yK (jP l[k]))) rfl
  | false =>
   simp only[cF];have hs:k<(l.set k (wA l[k].1 l[k].2.1 l[k].2.2.1 (jP l[k]) (jB l[k]) (wB l[k]) (sy (tA l[k]+1)))).length:=by rw[length_set];exact hk
   have e:=KI hB.le (w:=w) (lo:=lo) (la:=la) hs;unfold u9 at e;have e2:FI b (l.set k (wA l[k].1 l[k].2.1 l[k].2.2.1 (jP l[k]) (jB l[k]) (wB l[k]) (sy (tA l[k]+1))))[k]=wA l[k].1 l[k].2.1 1 (jP l[k]) b 0 (sy (tA l[k]+1)):=by
    rw[getElem_set_self];rfl
   rw[e2,set_set]at e;refine (congrArg (λo=>Option.bind o λt=>some (t,([]:List vT))) e).trans ?_;rfl
theorem Pz {a:sL} (h:u5 a) {k:Nat} (hk:k<(sA a).length):gT a (k:Int)=some (tM a k (sA a)[k]):=by
 have hJ:=h.j _ (getElem_mem hk);have hn:(sA a).length<=M:=by have:=h.n;show _<=1048576;omega
 have e1:=LT h.b.le (zh h.b.ok).1 (w:=aW a) (l:=sA a) (lo:=tN a) (la:=sZ a) hk hn hJ.byt hJ.len;have c0:ix a.2.2.2.2.2.2.2.2.2.2.2.2.1.length (k:Int)=some k:=vI hk
 have c1:a.2.2.2.2.2.2.2.2.2.2.2.2.1[k]?=some (sA a)[k]:=List.getElem?_eq_getElem hk;have e1:ei a (k:Int)=_:=e1
 unfold gT tM xC;rw[c0,an];simp only[c1,an];rcases Ei hJ with hp|hp|hp
 · rw[hp];show ((ei a (k:Int)).bind _)=_
   rw[e1,an];cases ((tR (aW a) (sA a)[k].2.1).2==3)with
   | true=>rfl
   | false=>cases ((tR (aW a) (sA a)[k].2.1).2 != 0||((tR (aW a) (sA a)[k].2.1).1.1==162))<;>rfl
 · rw[hp];simp only[show ((1:Int)==0)=false from rfl,show ((1:Int)==1)=true from rfl,show ((1:Int)==2)=false from rfl,cT,cF,an];show cond (decide (wB (sA a)[k]<((jP (sA a)[k]).2.2.2.2.length:Int))) _ _=_
   cases hd:decide (wB (sA a)[k]<((jP (sA a)[k]).2.2.2.2.length:Int))with
   | true=>rw[cT];exact congrArg some (by simp only[cT];rfl)
   | false=>rw[cF];exact congrArg some (by simp only[cF];rfl)
 · obtain⟨q1,q2,q3⟩:=hJ.ok.resolve_left (by rw[hp];decide);rw[hp];simp only[show ((2:Int)==0)=false from rfl,show ((2:Int)==1)=false from rfl,show ((2:Int)==2)=true from rfl,cT,cF,an];show cond ((jP (sA a)[k]).1==163) _ _=_
   cases h163:((jP (sA a)[k]).1==163)with
   | true =>
    have hb:((sA a)[k].2.2.2.1 != 163)=false:=by rw[bne,show ((sA a)[k].2.2.2.1==163)=true from h163];rfl
    simp only[hb,cT,cF];refine v7 (Py (b:=aB a) h.b (w:=aW a) (lo:=tN a) (la:=sZ a) hk hn q1 h163) ?_;cases ((aB a).2.2.2.2.2.2.2.2.2.2==(jB (sA a)[k]).2.2.2.2.2.2.2.2.2.2)with
    | true=>rfl
    | false=>cases decide (tA (sA a)[k]>=3)<;>rfl
   | false =>
    have hb:((sA a)[k].2.2.2.1 != 163)=true:=by rw[bne,show ((sA a)[k].2.2.2.1==163)=false from h163];rfl
    simp only[hb,cT,cF];refine v7 (a:=vh (jB (sA a)[k]) (jP (sA a)[k])) (Om hJ.bw hJ.bl hJ.pl) ?_;exact v7 (LU (b:=aB a) (w:=aW a) (lo:=tN a) (la:=sZ a) hk hn (vh (jB (sA a)[k]) (jP (sA a)[k])).2.1) rfl
theorem On {a:sL} (h:u5 a) {k:Nat} (hk:k<(sA a).length):bh a (k:Int)=some (tM a k (sA a)[k]):=by
 have hn:=h.n;unfold bh;rw[Au h.ale,an,Fl h.awf,an,h.ok,Bool.not_true,cF];have hw:sy ((a.2.2.2.2.2.2.2.2.2.2.2.2.1.length:Int)-1)=((sA a).length:Int)-1:=sV (by show -9223372036854775808<=((sA a).length:Int)-1;omega) (by show ((sA a).length:Int)-1<=_;omega)
 rw[hw,yu,an,zl (by omega) (by omega),an,Bool.not_true,cF,Pz h hk,an]
theorem Nv {a:sL} (h:u5 a) {k:Int} (hk:k<0\/((sA a).length:Int)<=k):bh a k=some (a,[]):=by
 have hn:=h.n;unfold bh;rw[Au h.ale,an,Fl h.awf,an,h.ok,Bool.not_true,cF];have hw:sy ((a.2.2.2.2.2.2.2.2.2.2.2.2.1.length:Int)-1)=((sA a).length:Int)-1:=sV (by show -9223372036854775808<=((sA a).length:Int)-1;omega) (by show ((sA a).length:Int)-1<=_;omega)
 have hp:sC k 0 (((sA a).length:Int)-1)=false:=by
  unfold sC;rcases hk with hk|hk
  · rw[dF (by omega)];rfl
  · rw[dF (show ¬k<=((sA a).length:Int)-1 by omega),Bool.and_false]
 rw[hw,yu,an,hp,an,Bool.not_false,cT]
theorem KJ {a:sL} (hw:Fk a) (hl:Do M a) (hb:∀j∈sA a,uu j.2.1) (k:Int):∃r,dW a k=some r/\bh a k=some r/\(xj a=true->u5 r.1/\r.2.length<=1)/\(xj a=false->r=(a,[]))/\tN r.1=tN a/\sZ r.1=sZ a:=by
 cases hp:xj a with
 | false =>
  refine⟨(a,[]),?_,?_,(λh=>by cases h),λ_=>rfl,rfl,rfl⟩
  · unfold dW;rw[yv hl,an,A6 hw,an,hp];rfl
  · unfold bh;rw[Au hl,an,Fl hw,an,hp];rfl
 | true =>
  have h:=Nf hw hl hb hp;by_cases hk:0<=k/\k<((sA a).length:Int)
  · obtain⟨n,rfl⟩:∃n:Nat,k=(n:Int):=⟨k.toNat,by omega⟩;have hn:n<(sA a).length:=by omega
    obtain⟨w1,w2⟩:=Ej h hn;have hl:tN (tM a n (sA a)[n]).1=tN a/\sZ (tM a n (sA a)[n]).1=sZ a:=by
     rcases Cx h hn with ⟨j',e,_⟩|⟨b',d,e,_⟩<;>rw[e]<;>exact⟨rfl,rfl⟩
    exact⟨_,Pq h hn,On h hn,λ_=>⟨w1,w2⟩,(λh=>by cases h),hl⟩
  · have hk':k<0\/((sA a).length:Int)<=k:=by omega
    exact⟨_,Of h hk',Nv h hk',λ_=>⟨h,by simp⟩,(λh=>by cases h),rfl,rfl⟩

theorem HG {a:sL} (h:xj a=true):(sA a).length<=6/\sC (tN a) 0 1000000=true/\sC (sZ a) 0 1000000=true:=by
 unfold xj at h;simp only[aT,decide_eq_true_eq]at h;obtain⟨_,_,_,h4,h5,h6⟩:=h;exact⟨by omega,h5,h6⟩
theorem Nw {a:sL} (ha:Fk a) (hl:Do M a) {b:List Int} (hb:b.length<=M):∃r,bo a b=some r/\bg a b=some r/\Do M r:=by
 have hM:M=1048576:=rfl;unfold bo bg;rw[yv hl,Au hl,A6 ha,Fl ha];simp only[an];cases hp:xj a with
 | false=>exact⟨_,rfl,rfl,hl⟩
 | true =>
  obtain⟨h1,h2,h3⟩:=HG hp;obtain⟨m,m1,m2,_⟩:=GQ h2;have m1':aY a.2.2.2.2.2.2.2.2.2.2.2.2.2.1=some m:=m1
  have m2':bf a.2.2.2.2.2.2.2.2.2.2.2.2.2.1=some m:=m2;simp only[Bool.not_true,cF,an,m1',m2',zm hb,vY hb];have hn:(sA a).length<=1048576:=ha.n
  by_cases h6:((sA a).length:Int)>=6
  · have h6':decide ((a.2.2.2.2.2.2.2.2.2.2.2.2.1.length:Int)>=6)=true:=dT h6;rw[h6',cT,an,cT];exact⟨_,rfl,rfl,hl⟩
  · have h6':decide ((a.2.2.2.2.2.2.2.2.2.2.2.2.1.length:Int)>=6)=false:=dF h6;rw[h6',cF,an];cases decide (a.2.2.2.2.2.2.2.2.2.2.2.2.2.2>=1000000)with
    | true=>exact⟨_,rfl,rfl,hl⟩
    | false =>
     have hap:∀j:tQ,sT a.2.2.2.2.2.2.2.2.2.2.2.2.1 [j]=some (a.2.2.2.2.2.2.2.2.2.2.2.2.1++[j]):=λj=>sE (by show (sA a).length+1<=_;omega);simp only[cF,hap,an];refine⟨_,rfl,rfl,hl.1,hl.2.1,?_,?_⟩
     · show (sA a++[_]).length<=1048576;rw[length_append];show (sA a).length+1<=_;omega
     · intro j hj;rcases mem_append.1 hj with hj|hj
       · exact hl.2.2.2 j hj
       · simp only[mem_singleton]at hj;subst hj;exact⟨hb,⟨by show 0<=1048576;decide,λx hx=>by cases hx⟩,by show 0<=1048576;decide,by show 0<=1048576;decide,by show 0<=1048576;decide,by show 0<=1048576;decide,by show 0<=1048576;decide⟩
theorem Iy {a:sL} (h:u5 a) {m:List Int} (hm:m.length<=M):bg a m=bo a m:=by
 obtain⟨r,r1,r2,_⟩:=Nw h.awf h.ale hm;rw[r1,r2]
theorem FK {a:sL} (h:u5 a) {m:List Int} (hb:uu m) (hm:m.length<=M):∃r,bo a m=some r/\bg a m=some r/\u5 r/\tN r+sZ r<=tN a+sZ a+1:=by
 by_cases hc:(sA a).length<6/\sZ a<1000000
 · have e:=Ns h hm hc.1 hc.2;exact⟨_,e,(Iy h hm).trans e,Js h hb hm hc.1 hc.2,by show tN a+(sZ a+1)<=_;omega⟩
 · have e:=Nt h (m:=m) hc;refine⟨_,e,(Iy h hm).trans e,LN h,?_⟩;obtain⟨l1,l2⟩:=tT h.lo;show y9 (tN a)+sZ a<=_
   unfold y9 min2;rw[sV (by omega) (by omega)];split<;>omega
theorem KK {b:sx} (h:tW b) {w:List UInt8} (hw:w.length<=20):fG b w=some (u9 b w [] 0 0):=by
 unfold fG;rw[zL h.w,an,h.ok,Bool.not_true,cF,an,dF (by omega),cF,vA h.le,an];rfl
theorem Qt {l:List sD} (hn:l.length<=1000):cr l=some (l.filterMap uH):=by
 unfold cr;obtain⟨v,e1,rfl⟩:=sQ (step:=λz:Int×List sD=>aK l z.1 z.2) (λk z=>z=((k:Int),(l.take k).filterMap uH)) l.length (λv=>v=l.filterMap uH)
  (λk z hk e=>by
   subst e;refine .inl ⟨_,?_,rfl⟩;have hfl:((l.take k).filterMap uH).length<=k:=Nat.le_trans (List.length_filterMap_le _ _) (by rw[length_take];omega)
   have t1:l.take (k+1)=l.take k++[l[k]]:=by rw[take_add_one,List.getElem?_eq_getElem hk];rfl
   have t2:(l.take (k+1)).filterMap uH=(l.take k).filterMap uH++(match uH l[k]with|some y=>[y]|none=>[]):=by
    rw[t1,List.filterMap_append]
    congr 1
    cases hq:uH l[k]with
    | none=>rw[List.filterMap_cons_none hq];rfl
    | some y=>rw[List.filterMap_cons_some hq];rfl
   have ha:∀y:sD,sT ((l.take k).filterMap uH) [y]=some ((l.take k).filterMap uH++[y]):=λy=>sE (by show _+1<=_;omega);show aK l (k:Int) _=_
   unfold aK;rw[tC (by omega),cT,sO hk,an,sK (by omega),t2];cases hs:l[k].2.2.2.2 with
   | true =>
    have hq:uH l[k]=some l[k]:=by unfold uH;rw[hs];rfl
    rw[hq];simp only[cT,ha,an]
   | false =>
    simp only[cF];by_cases h4:l[k].2.2.2.1>=4
    · have hq:uH l[k]=none:=by unfold uH;rw[hs,dT h4];rfl
      rw[hq,tk (by omega)];simp only[cF,append_nil]
    · have hq:uH l[k]=some (l[k].1,l[k].2.1,l[k].2.2.1,sy (l[k].2.2.2.1+1),false):=by unfold uH;rw[hs,dF h4];rfl
      rw[hq,tC (by omega)];simp only[cT,ha,an])
  (λz e=>by
   subst e;refine⟨_,?_,rfl⟩;show aK l (l.length:Int) _=_
   unfold aK;rw[tk (by omega),cF,take_length]) (x:=(0,[])) rfl
 have e1:loop (λz=>aK l z.1 z.2) (0,[])=some (l.filterMap uH):=e1;rw[e1,an]
theorem Oo {b:sx} (h:tW b):dl b=some (Ap b):=by
 have hf:=GP h.f;obtain⟨r,r1,r2,_⟩:=MO (HD h);obtain⟨c1,_⟩:=yr (zh h.ok).1;have e:xr (GJ b)=r:=by unfold xr;rw[r1];rfl
 unfold dl Ap;rw[vA h.le,an,zL h.w,an,h.ok,Bool.not_true,cF,LS c1,an,Qt (by have:=hf.n;omega),an,e];have r2':bP (b.1,b.2.1,b.2.2.1,b.2.2.2.1.filterMap uH,b.2.2.2.2.1,b.2.2.2.2.2.1,y9 b.2.2.2.2.2.2.1,b.2.2.2.2.2.2.2.1,b.2.2.2.2.2.2.2.2.1,b.2.2.2.2.2.2.2.2.2.1,b.2.2.2.2.2.2.2.2.2.2)=some r:=r2
 rw[r2',an]
abbrev Qc:=Int×List Int×Int×Int×Int×List UInt8×Int×Int×Int×Int×Int×List UInt8×Int×Int×List Pt×List sD×List sM×List Int×List tQ
def BI (i:Int) (c:sN) (a:sL):Qc:=(i,c.1,c.2.1,c.2.2,a.1,a.2.1,a.2.2.2.2.2.2.1,a.2.2.2.2.2.2.2.1,a.2.2.2.2.2.2.2.2.1,a.2.2.2.2.2.2.2.2.2.1,a.2.2.2.2.2.2.2.2.2.2.1,a.2.2.2.2.2.2.2.2.2.2.2.1,a.2.2.2.2.2.2.2.2.2.2.2.2.2.1,a.2.2.2.2.2.2.2.2.2.2.2.2.2.2,a.2.2.1,a.2.2.2.1,a.2.2.2.2.1,a.2.2.2.2.2.1,a.2.2.2.2.2.2.2.2.2.2.2.2.1)
noncomputable def Cz (z:Qc):=fF z.1 z.2.1 z.2.2.1 z.2.2.2.1 z.2.2.2.2.1 z.2.2.2.2.2.1 z.2.2.2.2.2.2.1 z.2.2.2.2.2.2.2.1 z.2.2.2.2.2.2.2.2.1 z.2.2.2.2.2.2.2.2.2.1 z.2.2.2.2.2.2.2.2.2.2.1 z.2.2.2.2.2.2.2.2.2.2.2.1 z.2.2.2.2.2.2.2.2.2.2.2.2.1 z.2.2.2.2.2.2.2.2.2.2.2.2.2.1 z.2.2.2.2.2.2.2.2.2.2.2.2.2.2.1 z.2.2.2.2.2.2.2.2.2.2.2.2.2.2.2.1 z.2.2.2.2.2.2.2.2.2.2.2.2.2.2.2.2.1 z.2.2.2.2.2.2.2.2.2.2.2.2.2.2.2.2.2.1 z.2.2.2.2.2.2.2.2.2.2.2.2.2.2.2.2.2.2
theorem Nx {i:Int} (hi:i>0) {c:sN} (hc:CW c) {a:sL} (h:u5 a):∃c' a',Cz (BI i c a)=some (.inl (BI (sy (i-1)) c' a'))/\CW c'/\u5 a'/\tN a'+sZ a'<=tN a+sZ a+1:=by
 dsimp only[Cz,BI];unfold fF;rw[dT hi,cT];obtain⟨c1,r,e1,w1,_⟩:=uL hc 6;have e1':aa (c.1,c.2.1,c.2.2) 6=some (c1,r):=e1
 rw[e1',an];simp only;obtain⟨c2,m,e2,w2,hm⟩:=My w1 h.b;have hml:m.length<=M:=by have:=hm.2;show _<=1048576;omega
 obtain⟨x,_,x2,x3,x4⟩:=FK h hm.1 hml;have msg:∃c' a',((cq c1 (a.1,a.2.1,a.2.2.1,a.2.2.2.1,a.2.2.2.2.1,a.2.2.2.2.2.1,a.2.2.2.2.2.2.1,a.2.2.2.2.2.2.2.1,a.2.2.2.2.2.2.2.2.1,a.2.2.2.2.2.2.2.2.2.1,a.2.2.2.2.2.2.2.2.2.2.1)).bind λt38 =>
  (bg (a.1,a.2.1,a.2.2.1,a.2.2.2.1,a.2.2.2.2.1,a.2.2.2.2.2.1,a.2.2.2.2.2.2.1,a.2.2.2.2.2.2.2.1,a.2.2.2.2.2.2.2.2.1,a.2.2.2.2.2.2.2.2.2.1,a.2.2.2.2.2.2.2.2.2.2.1,a.2.2.2.2.2.2.2.2.2.2.2.1,a.2.2.2.2.2.2.2.2.2.2.2.2.1,a.2.2.2.2.2.2.2.2.2.2.2.2.2.1,a.2.2.2.2.2.2.2.2.2.2.2.2.2.2) t38.2).bind λt39 =>
  some (Sum.inl (β:=List Int×Int×Int×Int×List UInt8×Int×Int×Int×Int×Int×List UInt8×Int×Int×List Pt×List sD×List sM×List Int×List tQ) (sy (i-1),t38.1.1,t38.1.2.1,t38.1.2.2,t39.1,t39.2.1,t39.2.2.2.2.2.2.1,t39.2.2.2.2.2.2.2.1,t39.2.2.2.2.2.2.2.2.1,t39.2.2.2.2.2.2.2.2.2.1,t39.2.2.2.2.2.2.2.2.2.2.1,t39.2.2.2.2.2.2.2.2.2.2.2.1,t39.2.2.2.2.2.2.2.2.2.2.2.2.2.1,t39.2.2.2.2.2.2.2.2.2.2.2.2.2.2,t39.2.2.1,t39.2.2.2.1,t39.2.2.2.2.1,t39.2.2.2.2.2.1,t39.2.2.2.2.2.2.2.2.2.2.2.2.1)))=some (.inl (BI (sy (i-1)) c' a'))/\CW c'/\u5 a'/\tN a'+sZ a'<=tN a+sZ a+1:=by
  refine⟨c2,x,v7 (a:=(c2,m)) e2 (v7 (a:=x) x2 rfl),w2,x3,x4⟩
 have tick : ∃c' a', ((dl (a.1, a.2.1, a.2.2.1, a.2.2.2.1, a.2.2.2.2.1, a.2.2.2.2.2.1, a.2.2.2.2.2.2.1, a.2.2.2.2.2.2.2.1, a.2.2.2.2.2.2.2.2.1, a.2.2.2.2.2.2.2.2.2.1, a.2.2.2.2.2.2.2.2.2.2.1)).bind λt44 =>
         some (Sum.inl (β:=List Int×Int×Int×Int×List UInt8×Int×Int×Int×Int×Int×List UInt8×Int×Int×List Pt×List sD×List sM×List Int×List tQ) (sy (i-1),c1.1,c1.2.1,c1.2.2,t44.1,t44.2.1,t44.2.2.2.2.2.2.1,t44.2.2.2.2.2.2.2.1,t44.2.2.2.2.2.2.2.2.1,t44.2.2.2.2.2.2.2.2.2.1,t44.2.2.2.2.2.2.2.2.2.2,a.2.2.2.2.2.2.2.2.2.2.2.1,a.2.2.2.2.2.2.2.2.2.2.2.2.2.1,a.2.2.2.2.2.2.2.2.2.2.2.2.2.2,t44.2.2.1,t44.2.2.2.1,t44.2.2.2.2.1,t44.2.2.2.2.2.1,a.2.2.2.2.2.2.2.2.2.2.2.2.1)))=some (.inl (BI (sy (i-1)) c' a'))/\CW c'/\u5 a'/\tN a'+sZ a'<=tN a+sZ a+1:=by
  obtain⟨_,t2,_⟩:=Pu h.b;exact⟨c1,_,v7 (a:=Ap (aB a)) (Oo h.b) rfl,w1,Pv h t2,by show tN a+sZ a<=_;omega⟩
 have hn:=h.n;have work : ∃c' a', ((aa c1 (sy ((a.2.2.2.2.2.2.2.2.2.2.2.2.1.length : Int)+1))).bind λt27 =>
         (bh (a.1,a.2.1,a.2.2.1,a.2.2.2.1,a.2.2.2.2.1,a.2.2.2.2.2.1,a.2.2.2.2.2.2.1,a.2.2.2.2.2.2.2.1,a.2.2.2.2.2.2.2.2.1,a.2.2.2.2.2.2.2.2.2.1,a.2.2.2.2.2.2.2.2.2.2.1,a.2.2.2.2.2.2.2.2.2.2.2.1,a.2.2.2.2.2.2.2.2.2.2.2.2.1,a.2.2.2.2.2.2.2.2.2.2.2.2.2.1,a.2.2.2.2.2.2.2.2.2.2.2.2.2.2) t27.2).bind λt28 =>
         some (Sum.inl (β:=List Int×Int×Int×Int×List UInt8×Int×Int×Int×Int×Int×List UInt8×Int×Int×List Pt×List sD×List sM×List Int×List tQ) (sy (i-1),t27.1.1,t27.1.2.1,t27.1.2.2,t28.1.1,t28.1.2.1,t28.1.2.2.2.2.2.2.1,t28.1.2.2.2.2.2.2.2.1,t28.1.2.2.2.2.2.2.2.2.1,t28.1.2.2.2.2.2.2.2.2.2.1,t28.1.2.2.2.2.2.2.2.2.2.2.1,t28.1.2.2.2.2.2.2.2.2.2.2.2.1,t28.1.2.2.2.2.2.2.2.2.2.2.2.2.2.1,t28.1.2.2.2.2.2.2.2.2.2.2.2.2.2.2,t28.1.2.2.1,t28.1.2.2.2.1,t28.1.2.2.2.2.1,t28.1.2.2.2.2.2.1,t28.1.2.2.2.2.2.2.2.2.2.2.2.2.1)))=some (.inl (BI (sy (i-1)) c' a'))/\CW c'/\u5 a'/\tN a'+sZ a'<=tN a+sZ a+1:=by
  obtain⟨c3,k,e3,w3,_⟩:=uL w1 (sy ((a.2.2.2.2.2.2.2.2.2.2.2.2.1.length:Int)+1));obtain⟨y,_,y2,y3,_,y4,y5⟩:=KJ h.awf h.ale (λj hj=>(h.j j hj).byt) k;exact⟨c3,y.1,v7 (a:=(c3,k)) e3 (v7 (a:=y) y2 rfl),w3,(y3 h.ok).1,by rw[y4,y5];omega⟩
 cases r==0 with
 | true=>exact msg
 | false =>
  cases r==1 with
  | true=>exact msg
  | false =>
   cases r==2 with
   | true=>exact tick
   | false=>exact work
theorem Iz {c:sN} (hc:CW c) {most:Nat} (hm:most<=900):Dr (λa=>u5 a/\tN a+sZ a<=(most:Int)) (eA c (most:Int)):=by
 unfold eA;obtain⟨c1,b,e1,w1,hb,hp,_⟩:=FM hc;have hB:=CR hb hp
 rw[e1,an];simp only;rw[KK hB (by decide),an,sK (by omega)];obtain⟨c2,k,e2,w2,hk⟩:=uJ w1 (n:=most+1) (by omega);have e2':aa c1 ((most+1:Nat):Int)=some (c2,(k:Int)):=e2
 rw[e2',an];obtain⟨d,d1,c3,a3,d2,d3,rfl⟩:=sQ (step:=Cz) (λj z=>∃c a,z=BI ((k-j:Nat):Int) c a/\CW c/\u5 a/\tN a+sZ a<=(j:Int)) k (λd=>∃c a,CW c/\(u5 a/\tN a+sZ a<=(k:Int))/\d=(BI 0 c a).2)
  (λj z hj ⟨c,a,e,w,h,hbd⟩=>by
   subst e;left;obtain⟨c',a',f1,f2,f3,f4⟩:=Nx (i:=((k-j:Nat):Int)) (by omega) w h;refine⟨_,f1,c',a',?_,f2,f3,by omega⟩;rw[sV (by omega) (by omega),show ((k-j:Nat):Int)-1=((k-(j+1):Nat):Int) by omega])
  (λz ⟨c,a,e,w,h,hbd⟩=>by
   subst e;refine⟨_,?_,c,a,w,⟨h,hbd⟩,rfl⟩;dsimp only[Cz,BI];unfold fF;rw[Nat.sub_self,dF (show ¬((0:Nat):Int)>0 by decide),cF]) (x:=BI (k:Int) c2 (u9 b [121,97,114,100] [] 0 0)) ⟨c2,_,rfl,w2,Nr hB (by decide),by show (0:Int)+0<=_;omega⟩
 exact⟨c3,a3,v7 d1 rfl,d2,d3.1,by have:=d3.2;omega⟩
theorem MB {code:List Int} (h:code.length<=1048576) {m:Nat} (hm:m<=1000):∃k:Nat,bz code (m:Int)=some (k:Int)/\k<=m:=by
 unfold bz;have e:sy (3+(sy ((code.length:Int).tdiv 12)))=3+(code.length:Int)/12:=by
  rw[Int.tdiv_eq_ediv_of_nonneg (by omega),sV (n:=(code.length:Int)/12) (by omega) (by omega),sV (by omega) (by omega)]
 simp only[e];by_cases hk:3+(code.length:Int)/12>(m:Int)
 · rw[dT hk,cT];exact⟨m,rfl,Nat.le_refl _⟩
 · rw[dF hk,cF];exact⟨(3+(code.length:Int)/12).toNat,by rw[Int.toNat_of_nonneg (by omega)],by omega⟩
theorem Oq {code:List Int} (h:code.length<=1048576):∃a m,fH code=some (a,m)/\u5 a/\KC m/\tN a+sZ a<=900:=by
 obtain⟨c0,e0,w0⟩:=OF (code:=code) h;obtain⟨k,e1,hk⟩:=MB h (m:=14) (by omega);have e1:bz code 14=some (k:Int):=e1
 obtain⟨c2,a,e2,w2,ha⟩:=Iz w0 (most:=6+k) (by omega);obtain⟨c3,m,e3,w3,hm⟩:=My w2 ha.1.b;refine⟨a,m,?_,ha.1,hm,by have:=ha.2;omega⟩;unfold fH;have ew:sy (6+(k:Int))=((6+k:Nat):Int):=by rw[sV (by omega) (by omega)];omega
 rw[e0,an,e1,an,ew,e2,an];exact v7 (a:=(c3,m)) e3 rfl

theorem KL {α β:Type} {f g:α->Option (α⊕β)} (tz:Nat->α->Prop) (m:Nat) (h:∀k x,k<m->tz k x->∃y,f x=some (.inl y)/\g x=some (.inl y)/\tz (k+1) y) (he:∀x,tz m x->∃b,f x=some (.inr b)/\g x=some (.inr b)) {x:α} (h0:tz 0 x):∃b,loop f x=some b/\loop g x=some b:=by
 have key:∀n k x,k+n=m->tz k x->∃b,w9 f (n+1) x=some b/\w9 g (n+1) x=some b:=by
  intro n
  induction n with
  | zero =>
   intro k x hk hx;obtain rfl:k=m:=by omega
   obtain⟨b,h1,h2⟩:=he x hx;exact⟨b,by rw[ud,h1];rfl,by rw[ud,h2];rfl⟩
  | succ n ih =>
   intro k x hk hx;obtain⟨y,h1,h2,h3⟩:=h k x (by omega) hx;obtain⟨b,h4,h5⟩:=ih (k+1) y (by omega) h3;exact⟨b,by rw[ud,h1];exact h4,by rw[ud,h2];exact h5⟩
 obtain⟨b,h1,h2⟩:=key m 0 x (by omega) h0;exact⟨b,wX h1,wX h2⟩
theorem LV {a:sL} (hl:Do M a) (hb:∀j∈sA a,uu j.2.1):∃r,cK a=some r/\gt a=some r:=by
 have hn:(sA a).length<=1048576:=hl.2.2.1;unfold cK gt;obtain⟨b,h1,h2⟩:=KL (f:=λz:Int×Int=>bI a z.1 z.2) (g:=λz:Int×Int=>gq a z.1 z.2) (λk z=>z.2=(k:Int)) (sA a).length
  (λk z hk hz=>by
   obtain⟨n,i⟩:=z;simp only at hz;subst hz;unfold bI gq;have hlt:decide ((k:Int)<(a.2.2.2.2.2.2.2.2.2.2.2.2.1.length:Int))=true:=dT (by show (k:Int)<((sA a).length:Int);omega)
   have e0:at? a.2.2.2.2.2.2.2.2.2.2.2.2.1 (k:Int)=some (sA a)[k]:=sO hk;have hx:=hb _ (getElem_mem hk)
   have hx2:(sA a)[k].2.1.length<=M:=(hl.2.2.2 _ (getElem_mem hk)).1;simp only[hlt,cT,e0,an];generalize (sA a)[k]=x at hx hx2;obtain⟨g,g1,g2,_,_⟩:=Kv a.2.2.2.2.2.2.2.2.2.2.2.1 hx hx2;have hask:dP a x=some (g.1,cond (g.2==0) (g.1.1 != 162) false):=by
    unfold dP;rw[g1,an];cases (g.2==0)<;>rfl
   rw[hask,g2];simp only[an,sK (show k<9223372036854775807 by omega)];cases (g.2==0)<;>cases (g.1.1 != 162)<;>cases decide (x.2.2.1>0)<;>exact⟨_,rfl,rfl,rfl⟩)
  (λz hz=>by
   obtain⟨n,i⟩:=z;simp only at hz;subst hz;unfold bI gq;have hlt:decide (((sA a).length:Int)<(a.2.2.2.2.2.2.2.2.2.2.2.2.1.length:Int))=false:=dF (by show ¬((sA a).length:Int)<((sA a).length:Int);omega)
   simp only[hlt,cF];exact⟨_,rfl,rfl⟩) (x:=(0,0)) rfl
 rw[h1,h2];exact⟨_,rfl,rfl⟩
theorem Qu (a:sL) {j:tQ} (hb:uu j.2.1) (hn:j.2.1.length<=M):dP a j=some ((tR (aW a) j.2.1).1,xP (aW a) j.2.1):=by
 unfold dP xP;have e:bT a.2.2.2.2.2.2.2.2.2.2.2.1 j.2.1=some (tR (aW a) j.2.1):=(Hy (aW a) hb hn).1
 rw[e,an];cases (tR (aW a) j.2.1).2==0<;>rfl
theorem LW {a:sL} (hl:Do M a) (hb:∀j∈sA a,uu j.2.1):cK a=some ((((sA a).filter (uB (aW a))).length:Nat):Int):=by
 have hn:(sA a).length<=1048576:=hl.2.2.1;unfold cK;obtain⟨v,e1,rfl⟩:=sQ (step:=λz:Int×Int=>bI a z.1 z.2) (λk z=>z=(((((sA a).take k).filter (uB (aW a))).length:Int),(k:Int))) (sA a).length (λv=>v=((((sA a).filter (uB (aW a))).length:Nat):Int))
  (λk z hk e=>by
   subst e;left;have hlt:decide ((k:Int)<(a.2.2.2.2.2.2.2.2.2.2.2.2.1.length:Int))=true:=dT (by show (k:Int)<((sA a).length:Int);omega)
   have e0:at? a.2.2.2.2.2.2.2.2.2.2.2.2.1 (k:Int)=some (sA a)[k]:=sO hk;have hfl:(((sA a).take k).filter (uB (aW a))).length<=k:=Nat.le_trans (List.length_filter_le _ _) (by rw[length_take];omega)
   have ha:=Qu a (hb _ (getElem_mem hk)) (hl.2.2.2 _ (getElem_mem hk)).1;have t1:(sA a).take (k+1)=(sA a).take k++[(sA a)[k]]:=by rw[take_add_one,List.getElem?_eq_getElem hk];rfl
   refine⟨_,?_,rfl⟩;show bI a _ (k:Int)=_
   unfold bI;rw[hlt,cT,e0,an,ha,an,sK (by omega),sK (by omega),t1,List.filter_append,length_append];have hc:(cond (xP (aW a) (sA a)[k].2.1) (some true) (some (decide ((sA a)[k].2.2.1>0))))=some (uB (aW a) (sA a)[k]):=by
    unfold uB;cases xP (aW a) (sA a)[k].2.1<;>rfl
   simp only;rw[hc,an];cases hq:uB (aW a) (sA a)[k]with
   | true=>rw[List.filter_cons_of_pos (by rw[hq])];rfl
   | false=>rw[List.filter_cons_of_neg (by rw[hq];simp)];rfl)
  (λz e=>by
   subst e;refine⟨_,?_,rfl⟩;show bI a _ ((sA a).length:Int)=_
   unfold bI;have hlt:decide (((sA a).length:Int)<(a.2.2.2.2.2.2.2.2.2.2.2.2.1.length:Int))=false:=dF (by show ¬((sA a).length:Int)<((sA a).length:Int);omega)
   rw[hlt,cF,take_length]) (x:=(0,0)) rfl
 exact v7 e1 rfl

def LX (a:sL):Prop:=Fk a/\Do M a/\∀j∈sA a,uu j.2.1
theorem u5.any {a:sL} (h:u5 a):LX a:=⟨h.awf,h.ale,λj hj=>(h.j j hj).byt⟩
abbrev Ot:=Int×Int×List UInt8×Int×Int×Int×Int×Int×List UInt8×Int×Int×List Pt×List sD×List sM×List Int×List tQ
def Bp (i:Int) (a:sL):Ot:=(i,a.1,a.2.1,a.2.2.2.2.2.2.1,a.2.2.2.2.2.2.2.1,a.2.2.2.2.2.2.2.2.1,a.2.2.2.2.2.2.2.2.2.1,a.2.2.2.2.2.2.2.2.2.2.1,a.2.2.2.2.2.2.2.2.2.2.2.1,a.2.2.2.2.2.2.2.2.2.2.2.2.2.1,a.2.2.2.2.2.2.2.2.2.2.2.2.2.2,a.2.2.1,a.2.2.2.1,a.2.2.2.2.1,a.2.2.2.2.2.1,a.2.2.2.2.2.2.2.2.2.2.2.2.1)
noncomputable def DN (z:Ot):=gl z.1 z.2.1 z.2.2.1 z.2.2.2.1 z.2.2.2.2.1 z.2.2.2.2.2.1 z.2.2.2.2.2.2.1 z.2.2.2.2.2.2.2.1 z.2.2.2.2.2.2.2.2.1 z.2.2.2.2.2.2.2.2.2.1 z.2.2.2.2.2.2.2.2.2.2.1 z.2.2.2.2.2.2.2.2.2.2.2.1 z.2.2.2.2.2.2.2.2.2.2.2.2.1 z.2.2.2.2.2.2.2.2.2.2.2.2.2.1 z.2.2.2.2.2.2.2.2.2.2.2.2.2.2.1 z.2.2.2.2.2.2.2.2.2.2.2.2.2.2.2
theorem LY:uu [1]:=λx hx=>by rw[mem_singleton.1 hx];omega
theorem R8 {a:sL} (h:u5 a):∃b,loop (DN) (Bp 0 a)=some (Bp 0 b).2/\u5 b:=by
 obtain⟨d,d1,b,hb,rfl⟩:=sQ (step:=DN) (λj z=>∃a,z=Bp (j:Int) a/\u5 a) 6 (λd=>∃b,u5 b/\d=(Bp 0 b).2)
  (λj z hj ⟨a,e,h⟩=>by
   subst e;left;obtain⟨r,_,r2,r3,_⟩:=FK h LY (by decide);have r2':bg (a.1,a.2.1,a.2.2.1,a.2.2.2.1,a.2.2.2.2.1,a.2.2.2.2.2.1,a.2.2.2.2.2.2.1,a.2.2.2.2.2.2.2.1,a.2.2.2.2.2.2.2.2.1,a.2.2.2.2.2.2.2.2.2.1,a.2.2.2.2.2.2.2.2.2.2.1,a.2.2.2.2.2.2.2.2.2.2.2.1,a.2.2.2.2.2.2.2.2.2.2.2.2.1,a.2.2.2.2.2.2.2.2.2.2.2.2.2.1,a.2.2.2.2.2.2.2.2.2.2.2.2.2.2) ([1]:List Int)=some r:=r2
   refine⟨Bp ((j+1:Nat):Int) r,?_,r,rfl,r3⟩;dsimp only[DN,Bp];unfold gl;rw[dT (show (j:Int)<6 by omega),cT,r2',an,sK (by omega)])
  (λz ⟨a,e,h⟩=>by
   subst e;refine⟨_,?_,a,h,rfl⟩;dsimp only[DN,Bp];unfold gl;rw[dF (show ¬((6:Nat):Int)<6 by decide),cF]) (x:=Bp 0 a) ⟨a,rfl,h⟩
 exact⟨b,d1,hb⟩
theorem PA {c:sN} (hc:CW c) {most:Nat} (hm:most<=900):Dr LX (gm c (most:Int)):=by
 unfold gm;refine Dr.bind (Iz hc hm) λc a hc ha=>?_;have hA:=ha.1.any
 have hn:=ha.1.n;refine Dr.bind (uL hc 16) λc k hc _=>?_;refine Dr.cond ?_ (Dr.cond ?_ (Dr.cond ?_ (Dr.cond ?_ (Dr.cond ?_ ?_))))
 · obtain⟨c',b,e,w,h1,h2⟩:=QW hc;simp only;rw[e,an];exact Dr.some w ⟨⟨h1,hA.1.n,hA.1.j⟩,⟨h2,hA.2.1.2⟩,hA.2.2⟩
 · exact Dr.bind (Bu hc (by decide)) λc x hc _=>Dr.some hc ⟨⟨hA.1.b,hA.1.n,hA.1.j⟩,hA.2.1,hA.2.2⟩
 · exact Dr.bind (Bu hc (by decide)) λc x hc _=>Dr.some hc ⟨⟨hA.1.b,hA.1.n,hA.1.j⟩,hA.2.1,hA.2.2⟩
 · refine Dr.bind (uL hc 2) λc u hc _=>?_;refine Dr.bind (uL hc 4) λc v hc _=>?_;refine Dr.bind (uL hc 3) λc s hc _=>?_;refine Dr.bind (uL hc 5) λc t hc _=>?_;refine Dr.bind (Q:=BH) (Mx hc ha.1.b.w λc hc=>by obtain⟨c',o,e,w,h⟩:=ML hc ha.1.b;exact⟨c',o,e,w,h⟩) λc p hc hp=>?_;obtain⟨c',b,e,w,h1,h2,_⟩:=FM hc;simp only;rw[e,an];have hap:∀j:tQ,sT a.2.2.2.2.2.2.2.2.2.2.2.2.1 [j]=some (sA a++[j]):=λj=>sE (by show (sA a).length+1<=_;omega)
   simp only;rw[hap,an];refine Dr.some w ⟨⟨hA.1.b,?_,?_⟩,⟨hA.2.1.1,hA.2.1.2.1,?_,?_⟩,?_⟩
   · show (sA a++[_]).length<=1048576;rw[length_append];show (sA a).length+1<=_;omega
   · intro j hj;rcases mem_append.1 (show j∈sA a++[_]from hj)with hj|hj
     · exact hA.1.j j hj
     · rw[mem_singleton.1 hj];exact⟨hp.le,h1⟩
   · show (sA a++[_]).length<=1048576;rw[length_append];show (sA a).length+1<=_;omega
   · intro j hj;rcases mem_append.1 (show j∈sA a++[_]from hj)with hj|hj
     · exact hA.2.1.2.2.2 j hj
     · rw[mem_singleton.1 hj];exact⟨(by show 0<=1048576;decide),hp.le,(CR h1 h2).le⟩
   · intro j hj;rcases mem_append.1 (show j∈sA a++[_]from hj)with hj|hj
     · exact hA.2.2 j hj
     · rw[mem_singleton.1 hj];intro x hx;cases hx
 · obtain⟨b,l1,l2⟩:=R8 ha.1;simp only;exact⟨c,b,v7 l1 rfl,hc,l2.any⟩
 · exact Dr.some hc hA
theorem LZ {code:List Int} (h:code.length<=1048576):∃a,gn code=some a/\LX a:=by
 obtain⟨c0,e0,w0⟩:=OF (code:=code) h;obtain⟨k,e1,hk⟩:=MB h (m:=12) (by omega);have e1:bz code 12=some (k:Int):=e1
 obtain⟨c2,a,e2,w2,ha⟩:=PA w0 (most:=k) (by omega);refine⟨a,?_,ha⟩;unfold gn;rw[e0,an,e1,an,e2,an]

end Go.V.W

