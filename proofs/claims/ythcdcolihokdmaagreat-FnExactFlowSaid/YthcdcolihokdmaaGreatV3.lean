/- V: a run of the model's code over plain data, and that it is what the machine does. Part 3 of 4. No condition. -/
import Derived.Test.YthcdcolihokdmaaGreatV2
import Derived.LoopN
open List (all_cons all_eq_true append_assoc append_nil cons_append count_append count_pos_iff map_append mem_append mem_append_left mem_append_right mem_cons mem_cons_of_mem mem_cons_self mem_flatMap mem_map mem_map_of_mem mem_singleton nodup_append nodup_cons pairwise_append pairwise_cons)
set_option linter.unusedVariables false
set_option linter.unusedSimpArgs false
namespace Go.V
variable {G:o9} {uid rid:Nat} {ops:List Oper} {B:List Nat}

theorem xZ {D:mF->Prop} {tm:List (Nat×AV)} {en:List (mF×Entry)} (h:∀t,p4 D (St.tmp ⟨tm,en⟩ t)) {d:Nat} {x:AV} (hx:p4 D x):∀t,p4 D (St.tmp ⟨(d,x)::tm,en⟩ t):=λt=>by
 by_cases hd:d=t
 · subst hd;show p4 D (match mG ((d,x)::tm) d with|some v=>v|none=>.undef)
   rw[p7];exact hx
 · show p4 D (match mG ((d,x)::tm) t with|some v=>v|none=>.undef);rw[ni hd];exact h t
structure IU (G:o9) (rid:Nat) (ops:List Oper) (B:List Nat) (kn:List (Nat×Bool)) (grp:List (Nat×Oper)) (S S1:St) (D:List Ev) (t:Tmp) (x y:Operand) (b v:Bool):Prop where
 out:∃(E:List Ev) (S1a:St),Tr G rid ops E S1 S1a/\E.map (λp=>(p.1,p.2.1))=grp/\(∀p∈E,te rid B true p)/\E.Pairwise (PO B)/\(∀p∈D,∀q∈E,PO B p q) /\
  (∀p∈E,oU kn p.2.1.dst=true)/\(∀p∈E,∀n∈nl p.2.2,mG S.en n=none)/\S1a.tmp t=.cell (.bool b)/\cond b (S1a.eval x) (S1a.eval y)=.cell (.bool v)
theorem qX {E:List Ev} {grp:List (Nat×Oper)} (h:E.map (λp=>(p.1,p.2.1))=grp) {p:Ev} (hp:p∈E):(p.1,p.2.1)∈grp:=by
 rw[←h];exact mem_map.2 ⟨p,hp,rfl⟩
theorem Ci {grp:List (Nat×Oper)} {x:Operand} (h:yS grp x=true) {u:Tmp} (hx:x=.tmp u):∀p∈grp,p.2.dst≠some u:=by
 subst hx;intro p hp hd;have:=all_eq_true.1 h p hp
 rw[hd]at this;simp at this
theorem Ek {E:List Ev} {S S':St} {x:Operand} (hT:Tr G rid ops E S S') (h:∀u,x=.tmp u->∀p∈E,p.2.1.dst≠some u):S'.eval x=S.eval x:=by
 cases x with
 | tmp u=>exact hT.tmp (h u rfl)
 | _=>rfl
theorem El (hB:vh ops B) {f:Nat} (ih:IH G rid ops B f) {kn:List (Nat×Bool)} {grp l:List (Nat×Oper)} {S S1:St} {acc:pT} {Z:List Tmp} {FN:List mF} {D:List Ev} {j:Nat} {want:Bool} {t:Tmp} {b v:Bool} {x y:Operand}
 (hin:wQ rid ops B kn (grp++l) S S1 D acc Z FN) (hj:qd ops j=some t) (ht:S1.tmp t=.cell (.bool b)) (hok:okGroup ops j want t grp=true) (hkt:mG kn t=none) (hgu:∀p∈grp,oU kn p.2.dst=true)
 (hun:yS grp (cond want y x)=true)
 (hv:(cond b (cond want (oJ G rid ops (some B) true f ((t,want)::kn) grp S acc λS' _=>cond (re S.en S'.en) (rb (S'.eval (cond want x y))) none) (rb (S.eval (cond want y x))))
  (cond want (rb (S.eval (cond want y x))) (oJ G rid ops (some B) true f ((t,want)::kn) grp S acc λS' _=>cond (re S.en S'.en) (rb (S'.eval (cond want x y))) none)))=some v) :
 IU G rid ops B kn grp S S1 D t x y b v:=by
 have hdt:=z7 hok;by_cases hbw:b=want
 ·
   have hX:(oJ G rid ops (some B) true f ((t,want)::kn) grp S acc λS' _=>cond (re S.en S'.en) (rb (S'.eval (cond want x y))) none)=some v:=by
    subst hbw;cases b<;>exact hv
   have hin':wQ rid ops B ((t,want)::kn) grp S S1 D acc Z FN:=by
    refine⟨hin.sub,λu c hu=>?_,hin.log,hin.fn,λp hp=>hin.here p (mem_append_left _ hp),λp hp=>hin.read p (mem_append_left _ hp),λp hp q hq=>hin.asc p hp q (mem_append_left _ hq),(pairwise_append.1 hin.asc').1,hin.closed⟩;rw[mR]at hu;split at hu
    · rename_i e;subst e;cases hu;rw[ht,hbw]
    · exact hin.known u c hu
   obtain⟨E,S1',S',acc',Z',FN',nw,h1,h2,h3,h4,h5,h6,h7,h8,h9,h10,h11,h12⟩:=(ih true _ grp S acc _ v S1 Z FN D hX hin').out;have hfr:re S.en S'.en=true/\rb (S'.eval (cond want x y))=some v:=by
    cases hf:re S.en S'.en with
    | true=>rw[hf]at h1;exact⟨rfl,h1⟩
    | false=>rw[hf]at h1;cases h1
   have hEd:∀p∈E,p.2.1.dst≠some t:=λp hp=>hdt _ (qX h3 hp);have hside:=xY hfr.2
   have hside1:S1'.eval (cond want x y)=.cell (.bool v):=by
    cases hxy:cond want x y with
    | tmp u =>
     rw[hxy]at hside;rcases h4.1.tm u with h|⟨_,h⟩
     · exact h.symm.trans hside
     · have hside:S'.tmp u=_:=hside;rw[h]at hside;cases hside
    | const c=>rw[hxy]at hside;exact hside
    | global c=>rw[hxy]at hside;exact hside
    | func c=>rw[hxy]at hside;exact hside
   refine⟨E,S1',h2,h3,h7,h8,h9,λp hp=>hgu _ (qX h3 hp),λp hp n hn=>?_,by rw[h2.tmp hEd];exact ht,?_⟩
   · rcases h12 p hp n hn with h|h
     · have hfe:=hfr.1;unfold re at hfe;rw[h11.1,List.length_append,Nat.add_sub_cancel,List.take_left]at hfe;obtain⟨q,hq,rfl⟩:=mem_map.1 h;have:=all_eq_true.1 hfe q hq
       cases hf:mG S.en q.1 with
       | none=>rfl
       | some e=>rw[hf]at this;cases this
     · exact h
   · subst hbw;cases b<;>exact hside1
 ·
   have hbn:b=!want:=by cases b<;>cases want<;>simp_all
   have hD:rb (S.eval (cond want y x))=some v:=by
    subst hbn;cases want<;>exact hv
   obtain⟨S1a,hT⟩:=Bo (G:=G) (rid:=rid) hj hok (S1:=S1) (by rw[ht,hbn]) (by simp) (λp hp=>hin.here p (mem_append_left _ hp));have hmap:(grp.map λp=>((p.1,p.2,none):Ev)).map (λp=>(p.1,p.2.1))=grp:=by
    rw[List.map_map,show ((λp:Ev=>(p.1,p.2.1)) ∘ λp:Nat×Oper=>((p.1,p.2,none):Ev))=id from rfl,List.map_id]
   have hEd:∀p∈grp.map λp=>((p.1,p.2,none):Ev),p.2.1.dst≠some t:=λp hp=>hdt _ (qX hmap hp);have hidle:∀p∈grp.map λp=>((p.1,p.2,none):Ev),p.2.2=none:=λp hp=>by obtain⟨q,_,rfl⟩:=mem_map.1 hp;rfl
   refine⟨grp.map λp=>(p.1,p.2,none),S1a,hT,hmap,λp hp=>?_,?_,λp hp q hq=>.inr ?_,λp hp=>hgu _ (qX hmap hp),λp hp n hn=>?_,by rw[hT.tmp hEd];exact ht,?_⟩
   · rw[show p=(p.1,p.2.1,p.2.2)from rfl,hidle p hp];exact⟨by simp[pf],by simp[nl],by simp[nl]⟩
   · rw[List.pairwise_map];exact List.Pairwise.imp (λ_=>.inr (rg.of_idle_right rfl rfl)) (pairwise_append.1 hin.asc').1
   · rw[hidle q hq];exact rg.of_idle_right rfl rfl
   · rw[hidle p hp]at hn;simp[nl]at hn
   · have hs:=xY hD;have h1:S1.eval (cond want y x)=.cell (.bool v):=by
      cases hxy:cond want y x with
      | tmp u =>
       rw[hxy]at hs;rcases hin.sub.tm u with h|⟨_,h⟩
       · exact h.symm.trans hs
       · have hs:S.tmp u=_:=hs;rw[h]at hs;cases hs
      | const c=>rw[hxy]at hs;exact hs
      | global c=>rw[hxy]at hs;exact hs
      | func c=>rw[hxy]at hs;exact hs
     have h2:S1a.eval (cond want y x)=.cell (.bool v):=by
      rw[Ek hT (λu hu p hp=>Ci hun hu _ (qX hmap hp))];exact h1
     subst hbn;cases want<;>exact h2
theorem Ds (hB:vh ops B) {f:Nat} (ih:IH G rid ops B f) {A:Type} {gr:Bool} {kn:List (Nat×Bool)} {grp r':List (Nat×Oper)} {pi:Nat} {p:Oper} {S S1:St} {acc:pT} {k:St->pT->Option A} {r:A} {Z:List Tmp} {FN:List mF} {D:List Ev}
 {t d:Tmp} {b v:Bool} {x y:Operand} (hin:wQ rid ops B kn (grp++(pi,p)::r') S S1 D acc Z FN) (hg:IU G rid ops B kn grp S S1 D t x y b v) (hop:p.op=.pick (.tmp t) x y) (hd:p.dst=some d) (hpk:yP ops kn p=true)
 (hun:AZ ops grp r'=true) (hpd:oU kn p.dst=true)
 (hr:oJ G rid ops (some B) gr f kn r' ⟨(d,.cell (.bool v))::(p6 grp++S.tm),S.en⟩ ((pi,some ([],[]))::(grp.map λq=>(q.1,none))++acc) k=some r) :
 nC G rid ops B gr kn (grp++(pi,p)::r') S S1 D k r acc:=by
 obtain⟨E,S1a,h2,h3,h7,h8,h9,h10,h12,htb,hside⟩:=hg.out;have hEd:∀q∈E,∀u c,mG kn u=some c->q.2.1.dst≠some u:=λq hq u c hu he=>by
  have:=h10 q hq;rw[he]at this;exact u9 this hu
 have hstep:rf G rid ops S1a pi p (some (⟨.cell (.bool v),[]⟩,[])):=by
  refine⟨λi w hgd=>?_,?_⟩
  · unfold yP at hpk;rw[hgd]at hpk;simp only at hpk;cases hdi:qd ops i with
    | none=>rw[hdi]at hpk;cases hpk
    | some t' =>
     rw[hdi]at hpk;simp only at hpk;cases hk:mG kn t' with
     | none=>rw[hk]at hpk;cases hpk
     | some c =>
      rw[hk]at hpk;obtain rfl:=xL hpk;exact⟨t',rfl,by rw[h2.tmp λq hq=>hEd q hq t' c hk];exact hin.known t' c hk⟩
  · rw[hop];show (s3 (S1a.tmp t) (S1a.eval x) (S1a.eval y)).Runs _ _ _
    rw[htb];exact Ej hside
 let S1b:=S1a.act p (some (⟨.cell (.bool v),[]⟩,[]))
 let pe:Ev:=(pi,p,some (⟨.cell (.bool v),[]⟩,[]))
 have hasc:=pairwise_append.1 hin.asc';have hasc2:=pairwise_cons.1 hasc.2.1
 have hnm:∀n,n∈E.flatMap (λq=>nl q.2.2)↔∃q∈E,n∈nl q.2.2:=λn=>mem_flatMap;have hin2:wQ rid ops B kn r' ⟨(d,.cell (.bool v))::(p6 grp++S.tm),S.en⟩ S1b (D++E++[pe]) ((pi,some ([],[]))::(grp.map λq=>(q.1,none))++acc) (Z++su grp) (FN++E.flatMap λq=>nl q.2.2):=by
  refine⟨⟨λu=>?_,λn hn=>?_,λn hn=>?_⟩,λu c hu=>?_,λq hq=>?_,λn hn=>?_,λq hq=>hin.here q (by simp[hq]),λq hq u hu hl=>?_,λq hq q' hq'=>?_,hasc2.2,⟨λu=>?_,hin.closed.box⟩⟩
  ·
    by_cases hu:d=u
    · subst hu;left;show (match mG ((d,AV.cell (.bool v))::_) d with|some v=>v|none=>.undef)=_
      rw[p7];simp only[S1b,St.act,St.tmp_put,hd,if_true]
    · have e1:S1b.tmp u=S1a.tmp u:=St.tmp_act _ _ _ _ (by rw[hd];simpa using hu);have e2:St.tmp ⟨(d,.cell (.bool v))::(p6 grp++S.tm),S.en⟩ u=(match mG (p6 grp++S.tm) u with|some v=>v|none=>.undef):=by
       show (match mG ((d,AV.cell (.bool v))::_) u with|some v=>v|none=>.undef)=_;rw[ni hu]
      rw[e1,e2];by_cases hg:u∈su grp
      · right;rw[rh.1 hg];exact⟨mem_append_right _ hg,rfl⟩
      · rw[rh.2 hg];have e3:S1a.tmp u=S1.tmp u:=h2.tmp λq hq he=>hg (Bn.2 ⟨_,qX h3 hq,he⟩)
        rw[e3];rcases hin.sub.tm u with h|⟨h,h'⟩
        · exact .inl h
        · exact .inr ⟨mem_append_left _ h,h'⟩
  · simp only[mem_append,not_or]at hn;rw[show S1b=S1a.act p (some (⟨.cell (.bool v),[]⟩,[]))from rfl,St.en_act _ _ _ _ (by simp[nl]),h2.en λq hq hm=>hn.2 ((hnm n).2 ⟨q,hq,hm⟩)];exact hin.sub.en n hn.1
  · rcases mem_append.1 hn with hn|hn
    · exact hin.sub.no n hn
    · obtain⟨q,hq,hm⟩:=(hnm n).1 hn;exact h12 q hq n hm
  · rw[show S1b=S1a.act p (some (⟨.cell (.bool v),[]⟩,[]))from rfl,St.tmp_act _ _ _ _ (λhe=>by rw[he]at hpd;exact u9 hpd hu),h2.tmp λq hq=>hEd q hq u c hu];exact hin.known u c hu
  · simp only[mem_append,mem_singleton]at hq;rcases hq with (hq|hq)|rfl
    · exact (hin.log q hq).mono λz hz=>by simp[hz]
    · refine .inr ⟨(q.1,none),?_,rfl,.inl ⟨rfl,h7 q hq⟩⟩;have:=qX h3 hq
      simp only[cons_append,mem_cons,mem_append,mem_map];exact .inr (.inl ⟨_,this,rfl⟩)
    · exact .inl ⟨rfl,rfl⟩
  · rcases mem_append.1 hn with hn|hn
    · obtain⟨q,hq,h⟩:=hin.fn n hn;exact⟨q,by simp[hq],h⟩
    · obtain⟨q,hq,hm⟩:=(hnm n).1 hn;refine⟨(q.1,none),?_,rfl,(h7 q hq).own rfl n hm⟩;have:=qX h3 hq
      simp only[cons_append,mem_cons,mem_append,mem_map];exact .inr (.inl ⟨_,this,rfl⟩)
  · rcases mem_append.1 hu with hu|hu
    · exact hin.read q (by simp[hq]) u hu hl
    · obtain⟨g,hgm,hgd⟩:=Bn.1 hu;have:=all_eq_true.1 (all_eq_true.1 hun q hq) g hgm
      rw[hgd]at this;simp only[Bool.not_eq_true',List.contains_eq_mem,decide_eq_false_iff_not]at this;exact this (Bl hl)
  · simp only[mem_append,mem_singleton]at hq;rcases hq with (hq|hq)|rfl
    · exact hin.asc q hq q' (by simp[hq'])
    · exact hasc.2.2 _ (qX h3 hq) q' (mem_cons_of_mem _ hq')
    · exact hasc2.1 q' hq'
  · refine xZ (x:=.cell (.bool v)) (λu=>?_) (λn hn=>by simp[Cell.refs]at hn) u;show p4 _ (match mG (p6 grp++S.tm) u with|some v=>v|none=>.undef)
    by_cases hg:u∈su grp
    · rw[rh.1 hg];exact λn hn=>by simp[Cell.refs]at hn
    · rw[rh.2 hg];exact hin.closed.tmp u
 obtain⟨E',S1',S',acc',Z',FN',nw,g1,g2,g3,g4,g5,g6,g7,g8,g9,g10,g11,g12⟩:=(ih gr kn r' _ _ k r S1b _ _ _ hr hin2).out;refine⟨E++pe::E',S1',S',acc',Z',FN',nw,g1,h2.append ⟨hstep,g2⟩,by simp[h3,g3,pe],g4,λq hq=>g5 q (by simpa using hq),g6,λq hq=>?_,?_,λq hq q' hq'=>?_,λq hq=>?_,⟨g11.1,vL g11.2 ⟨(d,.cell (.bool v))::p6 grp,rfl⟩⟩,λq hq n hn=>?_⟩
 · rcases mem_append.1 hq with hq|hq
   · exact (h7 q hq).loose
   · rcases mem_cons.1 hq with rfl|hq
     · exact⟨by simp[pe,pf],by simp[pe,nl],by simp[pe,nl]⟩
     · exact g7 q hq
 · rw[pairwise_append,pairwise_cons];refine⟨h8,⟨λq hq=>g9 pe (by simp) q hq,g8⟩,λq hq q' hq'=>?_⟩;rcases mem_cons.1 hq' with rfl|hq'
   · exact .inr (rg.of_idle_right rfl rfl)
   · exact g9 q (by simp[hq]) q' hq'
 · rcases mem_append.1 hq' with hq'|hq'
   · exact h9 q hq q' hq'
   · rcases mem_cons.1 hq' with rfl|hq'
     · exact .inr (rg.of_idle_right rfl rfl)
     · exact g9 q (by simp[hq]) q' hq'
 · rcases mem_append.1 hq with hq|hq
   · exact h10 q hq
   · rcases mem_cons.1 hq with rfl|hq
     · exact hpd
     · exact g10 q hq
 · rcases mem_append.1 hq with hq|hq
   · exact .inr (h12 q hq n hn)
   · rcases mem_cons.1 hq with rfl|hq
     · simp[pe,nl]at hn
     · exact g12 q hq n hn
theorem Bp (hB:vh ops B):∀f,IH G rid ops B f
 | 0=>by intro grp kn l S acc k r S1 Z FN D h _;simp[oJ]at h
 | f+1=>by
  intro grp kn l S acc k r S1 Z FN D h hin;have ih:IH G rid ops B f:=Bp hB f
  cases l with
  | nil =>
   simp only[oJ]at h;exact⟨[],S1,S,acc,Z,FN,[],h,pg.refl _,rfl,⟨hin.sub,hin.closed⟩,by simpa using hin.log,hin.fn,by simp,List.Pairwise.nil,by simp,by simp,⟨rfl,[],rfl⟩,by simp⟩
  | cons io l =>
   obtain⟨i,o⟩:=io;simp only[oJ]at h;cases hu:oU kn o.dst with
   | false=>rw[hu]at h;cases h
   | true =>
    rw[hu]at h;simp only[cT]at h;cases hg:o.guard with
    | none =>
     rw[hg]at h;exact CG hB ih h hin (λj w hj=>by rw[hg]at hj;cases hj) hu
    | some q =>
     obtain⟨j,want⟩:=q;rw[hg]at h;simp only at h;cases hj:qd ops j with
     | none=>rw[hj]at h;cases h
     | some t =>
      rw[hj]at h;simp only at h;cases hk:mG kn t with
      | some c =>
       rw[hk]at h;simp only at h;have htc:=hin.known t c hk
       cases hb:w8 c want with
       | true =>
        rw[hb]at h;obtain rfl:=xL hb;exact CG hB ih h hin (λj' w' hj'=>by rw[hg]at hj';cases hj';exact⟨t,hj,htc⟩) hu
       | false =>
        rw[hb]at h;have:=Gy hb
        exact Ao hB ih h hin ⟨j,want,t,hg,hj,.inl (by rw[htc,this])⟩ hu
      | none =>
       rw[hk]at h;simp only at h;cases ht:S.tmp t with
       | agg _=>rw[ht]at h;cases h
       | tup _=>rw[ht]at h;cases h
       | cell c =>
        have hS1:c≠.undef->S1.tmp t=.cell c:=λhne=>by
         rcases hin.sub.tm t with h|⟨_,h⟩
         · exact h.symm.trans ht
         · rw[ht]at h;exact absurd (by cases h;rfl) hne
        rw[ht]at h;cases c<;>try (cases h;done)
        case void=>exact Ao hB ih h hin ⟨j,want,t,hg,hj,.inr (hS1 (by simp))⟩ hu
        case bool b =>
         have ht1:=hS1 (by simp);simp only at h;cases hs:qK t ((i,o)::l)with
         | none=>rw[hs]at h;cases h
         | some z =>
          obtain⟨g',⟨pi,p⟩,r'⟩:=z;rw[hs]at h;simp only at h;obtain⟨hl,x,y,hop⟩:=vM hs;cases hok:(okGroup ops j want t g'&&((g'.all λq=>Cw G S.eval q.2.op)&&B0 B g' r'))with
          | true =>
           rw[hok]at h;simp only[aT,cT]at hok h;rw[hop]at h;cases hd:p.dst with
           | none=>rw[hd]at h;cases h
           | some d =>
            rw[hd]at h;simp only at h;cases hc:(yP ops kn p&&AZ ops g' r'&&(yS g' (cond want y x)&&(g'.all (λq=>oU kn q.2.dst)&&oU kn (some d))))with
            | false=>rw[hc]at h;cases h
            | true =>
             rw[hc]at h;simp only[aT,cT]at hc h;obtain⟨⟨c1,c2⟩,c3,c4,c5⟩:=hc;rw[Option.bind_eq_some_iff]at h;obtain⟨v,hv,hr⟩:=h;rw[hl]at hin ⊢;exact Ds hB ih hin (El hB ih hin hj ht1 hok.1 hk (λq hq=>all_eq_true.1 c4 q hq) c3 hv) hop hd c1 c2 (by rw[hd];exact c5) hr
          | false =>
           rw[hok]at h;simp only[cF]at h;have key:∀c:Bool,b=c->oJ G rid ops (some B) grp f ((t,c)::kn) ((i,o)::l) ⟨(t,.cell (.bool c))::S.tm,S.en⟩ acc k=some r->nC G rid ops B grp kn ((i,o)::l) S S1 D k r acc:=by
            intro c hbc hrun;have hin':wQ rid ops B ((t,c)::kn) ((i,o)::l) ⟨(t,.cell (.bool c))::S.tm,S.en⟩ S1 D acc Z FN:=by
             refine⟨⟨λu=>?_,hin.sub.en,hin.sub.no⟩,λu c' hu'=>?_,hin.log,hin.fn,hin.here,hin.read,hin.asc,hin.asc',⟨λu=>?_,hin.closed.box⟩⟩
             · by_cases hu':t=u
               · subst hu';left;show (match mG ((t,AV.cell (.bool c))::S.tm) t with|some v=>v|none=>.undef)=_
                 rw[p7,ht1,hbc]
               · show (match mG ((t,AV.cell (.bool c))::S.tm) u with|some v=>v|none=>.undef)=_\/(_/\(match mG ((t,AV.cell (.bool c))::S.tm) u with|some v=>v|none=>.undef)=_);rw[ni hu'];exact hin.sub.tm u
             · rw[mR]at hu';split at hu'
               · rename_i e;subst e;cases hu';rw[ht1,hbc]
               · exact hin.known u c' hu'
             · exact xZ (x:=.cell (.bool c)) hin.closed.tmp (λn hn=>by simp[Cell.refs]at hn) u
            obtain⟨E,S1',S',acc',Z',FN',nw,g1,g2,g3,g4,g5,g6,g7,g8,g9,g10,g11,g12⟩:=(ih grp _ _ _ _ k r S1 Z FN D hrun hin').out;refine⟨E,S1',S',acc',Z',FN',nw,g1,g2,g3,g4,g5,g6,g7,g8,g9,λq hq=>?_,⟨g11.1,vL g11.2 ⟨[(t,.cell (.bool c))],rfl⟩⟩,g12⟩;have:=g10 q hq
            cases hdq:q.2.1.dst with
            | none=>rfl
            | some u =>
             rw[hdq]at this;simp only[oU,mR]at this ⊢;split at this
             · rename_i hh;split at hh
               · cases hh
               · rw[hh]
             · cases this
           cases b with
           | true=>exact key true rfl h
           | false=>exact key false rfl h
end Go.V
namespace Go.V
variable {G:o9} {uid rid:Nat} {ops:List Oper} {B:List Nat}

theorem z8 {A:Type} {grp:Bool} {kn:List (Nat×Bool)} {k:St->pT->Option A} {r:A} {acc:pT}:∀{f:Nat} {l:List (Nat×Oper)} {S:St},oJ G rid ops none grp f kn l S acc k=some r ->
 ∃E S',Tr G rid ops E S S'/\E.map (λp=>(p.1,p.2.1))=l/\k S' acc=some r/\(∃nw,S'.en=nw++S.en)/\∃nt,S'.tm=nt++S.tm
 | 0,l,S,h=>by simp[oJ]at h
 | f+1,[],S,h=>⟨[],S,pg.refl _,rfl,by simpa[oJ]using h,⟨[],rfl⟩,[],rfl⟩
 | f+1,(i,o)::l,S,h=>by
  simp only[oJ]at h;cases hu:oU kn o.dst with
  | false=>rw[hu]at h;cases h
  | true =>
   rw[hu]at h;simp only[cT]at h;cases hg:o.guard with
   | some q=>rw[hg]at h;cases h
   | none =>
    rw[hg]at h;obtain⟨e,L,h1,h2⟩:=Rd.run_some h;obtain⟨E,S',k1,k2,k3,⟨nw,k4⟩,k5⟩:=z8 h2;exact⟨(i,o,some (e,L))::E,S',⟨⟨(λj w hj=>by rw[hg]at hj;cases hj),h1⟩,k1⟩,by simp[k2],k3,⟨nw++e.ents,by rw[k4,St.en_put,append_assoc]⟩,vL k5 (Bm _ _ _)⟩

theorem s7 (b i:Nat):oW b i=b.testBit i:=by
 unfold oW Nat.testBit;show Nat.beq (1&&&(b >>> i)) 1=(1&&&(b >>> i) != 0)
 have h:1&&&(b >>> i)=(b >>> i)%2:=by rw[Nat.and_comm];exact Nat.and_one_is_mod _
 rw[h];rcases Nat.mod_two_eq_zero_or_one (b >>> i)with h|h<;>rw[h]<;>rfl
theorem y0:∀{l:List Nat} {i:Nat},tW i l=true->∀k b,l[k]?=some b->b<2^(i+k)
 | [],i,h,k,b,hk=>by simp at hk
 | c::l,i,h,0,b,hk=>by
  simp only[tW,aT]at h;simp at hk;subst hk;have:=Nat.le_of_ble_eq_true h.1
  rw[show Nat.shiftLeft 1 i=2^i from by show 1 <<< i=_;rw[Nat.shiftLeft_eq,Nat.one_mul]]at this;exact this
 | c::l,i,h,k+1,b,hk=>by
  simp only[tW,aT]at h;have:=y0 h.2 k b (by simpa using hk)
  rw[show i+(k+1)=i+1+k by omega];exact this
theorem vh.of (h1:ops.length<256) (h2:tW 0 B=true):vh ops B:=by
 refine⟨λk i hki=>?_,h1⟩;rw[s7];unfold oz;cases hk:B[k]? with
 | none=>simp
 | some b =>
  have:=y0 h2 k b hk;rw[Nat.zero_add]at this;exact Nat.testBit_lt_two_pow (Nat.lt_of_lt_of_le this (Nat.pow_le_pow_right (by omega) hki))
theorem Ap {acc:List Nat} {a:Nat}:∀(l:List Edge) (s:Nat),oW (l.foldl (λs e=>cond (Region.binds .any e) (Nat.lor (Nat.lor s (Nat.shiftLeft 1 e.on)) (oz acc e.on)) s) s) a=true ->
 oW s a=true\/∃e∈l,Region.binds .any e=true/\(e.on=a\/oW (oz acc e.on) a=true)
 | [],s,h=>.inl h
 | e::l,s,h=>by
  simp only[List.foldl_cons]at h;rcases Ap l _ h with h|⟨e',he,hb,k⟩
  · cases hb:Region.binds .any e with
    | false=>rw[hb]at h;exact .inl h
    | true =>
     rw[hb]at h;simp only[cT]at h;rw[s7]at h;have h:((s|||(1 <<< e.on))|||oz acc e.on).testBit a=true:=h
     rw[Nat.testBit_or,Nat.testBit_or,Bool.or_eq_true,Bool.or_eq_true]at h;rcases h with (h|h)|h
     · exact .inl (by rw[s7];exact h)
     · refine .inr ⟨e,mem_cons_self,hb,.inl ?_⟩;rw[Nat.one_shiftLeft,Nat.testBit_two_pow]at h;simpa using h
     · exact .inr ⟨e,mem_cons_self,hb,.inr (by rw[s7];exact h)⟩
  · exact .inr ⟨e',mem_cons_of_mem _ he,hb,k⟩
theorem y6:∀(l:List Oper) (acc:List Nat),∃r,rJ l acc=acc++r/\r.length=l.length
 | [],acc=>⟨[],by simp[rJ],rfl⟩
 | o::l,acc=>by
  obtain⟨r,h1,h2⟩:=y6 l (acc++[vz acc o]);exact⟨_::r,by rw[rJ,h1,append_assoc];rfl,by simp[h2]⟩
theorem Aq:∀(l:List Oper) (acc:List Nat) (k:Nat) (o:Oper),l[k]?=some o->∀a,oW (oz (rJ l acc) (acc.length+k)) a=true ->
 ∃e∈o.after.toList,Region.binds .any e=true/\(e.on=a\/oW (oz (rJ l acc) e.on) a=true)
 | [],acc,k,o,hk,a,h=>by simp at hk
 | p::l,acc,0,o,hk,a,h=>by
  simp at hk;subst hk;obtain⟨r,h1,h2⟩:=y6 l (acc++[vz acc p]);rw[rJ,h1]at h ⊢;have hat:((acc++[vz acc p])++r)[acc.length+0]?=some (vz acc p):=by
   rw[append_assoc,List.getElem?_append_right (by omega)];simp
  unfold oz at h;rw[hat]at h;rcases Ap _ _ h with h|⟨e,he,hb,k⟩
  · rw[s7]at h;simp at h
  · refine⟨e,he,hb,k.imp id λk=>?_⟩;unfold oz at k ⊢;cases hq:acc[e.on]? with
    | none=>rw[hq]at k;rw[s7]at k;simp at k
    | some b =>
     rw[hq]at k;have hlt:e.on<acc.length:=(List.getElem?_eq_some_iff.1 hq).1
     rw[append_assoc,List.getElem?_append_left hlt,hq];exact k
 | p::l,acc,k+1,o,hk,a,h=>by
  rw[rJ]at h ⊢;have:=Aq l (acc++[vz acc p]) k o (by simpa using hk) a
  rw[List.length_append,List.length_singleton,show acc.length+1+k=acc.length+(k+1) by omega]at this;exact this h
end Go.V
namespace Go.V
variable {P:Program} {G:o9} {rid:Nat} {ops:Array Oper} {B:List Nat} {Q:Exit->Act->World->Prop} {R:St->Act->World->Prop}

structure Dt (P:Program) (G:o9) (rid:Nat) (ops:Array Oper) (Q:Exit->Act->World->Prop) (R:St->Act->World->Prop):Prop where
 same:∀S S' a w,pg S S'->R S a w->R S' a w
 step:∀S i o r a w (K:Act->World->Prop),rf G rid ops.toList S i o r->ops.toList[i]?=some o->R S a w->(∀a' w',R (S.act o r) a' w'->K a' w')->wpOp P ops Q i K a w
def Je (ops:Array Oper) (B:List Nat) (p q:Ev):Prop:=oW (oz B q.1) p.1=true\/uC ops.toList p.2.1 q.2.1 p.2.2 q.2.2
theorem vi (hs:Dt P G rid ops Q R):∀{E:List Ev} {S S':St} {a:Act} {w:World},Tr G rid ops.toList E S S'->(∀p∈E,ops.toList[p.1]?=some p.2.1)->R S a w->(∀a w,R S' a w->Q .normal a w)->wpOps P ops Q (E.map (·.1)) a w
 | [],S,S',a,w,h,_,hR,hQ=>hQ a w (hs.same S S' a w h hR)
 | (i,o,r)::E,S,S',a,w,⟨h1,h2⟩,hh,hR,hQ=>by
  rw[List.map_cons,wpOps_cons];exact hs.step S i o r a w _ h1 (hh (i,o,r) mem_cons_self) hR λa' w' hR'=>vi hs h2 (λp hp=>hh p (mem_cons_of_mem _ hp)) hR' hQ
structure Ho (ops:Array Oper) (B:List Nat) (listed:Array Bool) (E:List Ev):Prop where
 size:listed.size=ops.size
 here:∀p∈E,ops.toList[p.1]?=some p.2.1
 mem:∀i,i<ops.size->(listed.getD i true=false↔∃p∈E,p.1=i)
 asc:E.Pairwise λp q=>p.1<q.1
 far:E.Pairwise (Je ops B)
 closed:∀i,i<ops.size->listed.getD i true=true->∀a,oW (oz B i) a=true->listed.getD a false=true
structure IX (ops:Array Oper) (B:List Nat):Prop where
 spec:∀i o,ops.toList[i]?=some o->∀a,oW (oz B i) a=true->∃e∈o.after.toList,Region.binds .any e=true/\(e.on=a\/oW (oz B e.on) a=true)
 forward:∀i o,ops.toList[i]?=some o->∀e∈o.after.toList,Region.binds .any e=true->e.on<i
theorem xb {listed:Array Bool} {i:Nat}:i∈Region.ready .any ops listed↔i<ops.size/\listed.getD i true=false/\∃o,ops[i]?=some o/\∀e∈o.after,Region.binds .any e=true->listed.getD e.on false=true:=by
 simp only[Region.ready,List.mem_filter,List.mem_range,aT,Bool.not_eq_true'];constructor
 · rintro⟨h1,h2,h3⟩;refine⟨h1,h2,ops[i],by simp[h1],λe he hb=>?_⟩;simp[h1]at h3;obtain⟨k,hk,rfl⟩:=Array.mem_iff_getElem.1 he;have:=h3 k hk
   rw[hb]at this;simpa using this
 · rintro⟨h1,h2,o,ho,h3⟩;refine⟨h1,h2,?_⟩;rw[ho];simp only[Option.map_some,Option.getD_some,Array.all_eq_true];intro k hk;cases hb:Region.binds .any o.after[k]with
   | false=>rfl
   | true=>simpa[hb]using h3 _ (Array.getElem_mem hk) hb
theorem zR {listed:Array Bool} {i:Nat} {d d':Bool} (h:i<listed.size):listed.getD i d=listed.getD i d':=by simp[Array.getD,h]
theorem Em (hs:Dt P G rid ops Q R) (hB:IX ops B):∀{n:Nat} {listed:Array Bool} {E:List Ev} {S S':St} {a:Act} {w:World},E.length=n->Tr G rid ops.toList E S S'->Ho ops B listed E->R S a w->(∀a w,R S' a w->Q .normal a w) ->
 wpAny P .any ops Q n listed a w:=by
 have dead:∀{listed:Array Bool} {E:List Ev},Ho ops B listed E->E≠[]->Region.ready .any ops listed≠[]:=by
  intro listed E hr hne;cases E with
  | nil=>exact absurd rfl hne
  | cons p E =>
   have hp:=hr.here p mem_cons_self;have hlt:p.1<ops.size:=by simpa using (List.getElem?_eq_some_iff.1 hp).1
   have:p.1∈Region.ready .any ops listed:=by
    rw[xb];refine⟨hlt,(hr.mem p.1 hlt).2 ⟨p,mem_cons_self,rfl⟩,p.2.1,by simpa using hp,λe he hb=>?_⟩;have hf:=hB.forward p.1 p.2.1 hp e (by simpa using he) hb
    have hel:e.on<ops.size:=by omega
    cases hl:listed.getD e.on true with
    | true=>rw[zR (d':=true) (by rw[hr.size];exact hel)];exact hl
    | false =>
     obtain⟨q,hq,hqe⟩:=(hr.mem e.on hel).1 hl;rcases mem_cons.1 hq with rfl|hq
     · omega
     · have:=(pairwise_cons.1 hr.asc).1 q hq;omega
   intro h0;rw[h0]at this;simp at this
 intro n
 induction n with
 | zero =>
  intro listed E S S' a w hn hT hr hR hQ;obtain rfl:=List.length_eq_zero_iff.1 hn;refine⟨?_,hQ a w (hs.same S S' a w hT hR)⟩;rw[List.eq_nil_iff_forall_not_mem];intro i hi;rw[xb]at hi;obtain⟨p,hp,_⟩:=(hr.mem i hi.1).1 hi.2.1;simp at hp
 | succ n ih =>
  intro listed E S S' a w hn hT hr hR hQ;have hne:E≠[]:=λh=>by rw[h]at hn;simp at hn
  refine⟨λh=>absurd h (dead hr hne),λi hi=>?_⟩;rw[xb]at hi;obtain⟨hlt,hun,o,ho,hrd⟩:=hi;obtain⟨p,hp,rfl⟩:=(hr.mem i hlt).1 hun;obtain⟨A,C,rfl⟩:=List.append_of_mem hp;obtain⟨j,y,ry⟩:=p;have hjo:=hr.here (j,y,ry) hp
  have hasc:=pairwise_append.1 hr.asc;have hasc2:=pairwise_cons.1 hasc.2.1
  have hfar:=pairwise_append.1 hr.far;have hoy:o=y:=by simpa[ho]using hjo
  subst hoy;have hdone:∀c,oW (oz B j) c=true->listed.getD c false=true:=by
   intro c hc;obtain⟨e,he,hb,k⟩:=hB.spec j o hjo c hc;have hl:=hrd e (by simpa using he) hb
   rcases k with rfl|k
   · exact hl
   · have hel:e.on<ops.size:=by have:=hB.forward j o hjo e he hb;omega
     exact hr.closed e.on hel (by rw[zR (d':=false) (by rw[hr.size];exact hel)];exact hl) c k
  have hind:∀q∈A,uC ops.toList q.2.1 o q.2.2 ry:=by
   intro q hq;rcases hfar.2.2 q hq (j,o,ry) mem_cons_self with h|h
   · have h1:=hdone q.1 h;have hq1:q.1<ops.size:=by simpa using (List.getElem?_eq_some_iff.1 (hr.here q (by simp[hq]))).1
     have h2:=(hr.mem q.1 hq1).2 ⟨q,by simp[hq],rfl⟩;rw[zR (d':=false) (by rw[hr.size];exact hq1),h1]at h2;cases h2
   · exact h
  obtain⟨k1,k2⟩:=Tr.bubble hind hT;refine hs.step S j o ry a w _ k1 hjo hR λa' w' hR'=>ih (by simp at hn ⊢;omega) k2 ?_ hR' hQ;have hget:∀c d,(listed.setIfInBounds j true).getD c d=if c=j then true else listed.getD c d:=by
   intro c d;by_cases hc:c=j
   · subst hc;simp[Array.getD,hr.size,hlt]
   · rw[if_neg hc];simp only[Array.getD,Array.size_setIfInBounds];split
     · rename_i h;show (listed.setIfInBounds j true)[c]'(by simpa using h)=listed[c]
       rw[Array.getElem_setIfInBounds (by simpa using h)];rw[if_neg (Ne.symm hc)]
     · rfl
  refine⟨by simpa using hr.size,λq hq=>hr.here q (by simp at hq ⊢;rcases hq with h|h<;>simp[h]),λc hc=>?_,?_,?_,λc hc hl x hx=>?_⟩
  · rw[hget];by_cases hcj:c=j
    · rw[if_pos hcj];refine⟨(λh=>by cases h),λ⟨q,hq,hqc⟩=>?_⟩;exfalso;rcases mem_append.1 hq with hq|hq
      · have:=hasc.2.2 q hq (j,o,ry) mem_cons_self;have:q.1<j:=this;omega
      · have:=hasc2.1 q hq;have:j<q.1:=this;omega
    · rw[if_neg hcj,hr.mem c hc];constructor
      · rintro⟨q,hq,rfl⟩;rcases mem_append.1 hq with hq|hq
        · exact⟨q,by simp[hq],rfl⟩
        · rcases mem_cons.1 hq with rfl|hq
          · exact absurd rfl hcj
          · exact⟨q,by simp[hq],rfl⟩
      · rintro⟨q,hq,rfl⟩;rcases mem_append.1 hq with hq|hq
        · exact⟨q,by simp[hq],rfl⟩
        · exact⟨q,by simp[hq],rfl⟩
  · exact pairwise_append.2 ⟨hasc.1,hasc2.2,λq hq q' hq'=>hasc.2.2 q hq q' (mem_cons_of_mem _ hq')⟩
  · exact pairwise_append.2 ⟨hfar.1,(pairwise_cons.1 hfar.2.1).2,λq hq q' hq'=>hfar.2.2 q hq q' (mem_cons_of_mem _ hq')⟩
  · rw[hget];rw[hget]at hl;by_cases hxj:x=j
    · rw[if_pos hxj]
    · rw[if_neg hxj];by_cases hcj:c=j
      · subst hcj;exact hdone x hx
      · rw[if_neg hcj]at hl;exact hr.closed c hc hl x hx
end Go.V
namespace Go.V
variable {w0:World} {T N:Nat->Prop} {g:Gh} {w:World} {a:Act} {en en1:List (mF×Entry)} {D D':mF->Prop}

theorem mJ.restrict {c:Cell} {v:Value} (h:mJ D g w c v) (hc:oN D' c):mJ D' g w c v:=by
 cases c with
 | own r=>exact⟨hc r (by simp[Cell.refs]),h.2⟩
 | win r lo hi=>exact⟨hc r (by simp[Cell.refs]),h.2⟩
 | box n off=>exact⟨hc n (by simp[Cell.refs]),h.2⟩
 | elem r i off=>exact⟨hc r (by simp[Cell.refs]),h.2⟩
 | sub r i j=>exact⟨hc r (by simp[Cell.refs]),h.2⟩
 | kid r j e xs=>exact⟨h.1,hc r (by simp[Cell.refs]),h.2.2⟩
 | fn f caps =>
  obtain⟨vs,e,k⟩:=h;refine⟨vs,e,?_⟩;have key:∀(l:List mF) (m:List Value),(∀n∈l,D' n)->mQ (λn u=>D n/\(∃b,g.loc n=.pointer (some ⟨b,0,none⟩))/\u=g.loc n) l m->mQ (λn u=>D' n/\(∃b,g.loc n=.pointer (some ⟨b,0,none⟩))/\u=g.loc n) l m:=by
   intro l
   induction l with
   | nil=>intro m _ h;cases m with
    | nil=>trivial
    | cons _ _=>exact h.elim
   | cons n l ih=>intro m hl h;cases m with
    | nil=>exact h.elim
    | cons u m=>exact⟨⟨hl n (by simp),h.1.2⟩,ih m (λk hk=>hl k (by simp[hk])) h.2⟩
  exact key caps _ hc k
 | undef=>exact h
 | void=>exact h
 | nil=>exact h
 | int _ _=>exact h
 | bool _=>exact h
 | str _=>exact h
 | err _=>exact h
 | sh _ _=>exact h
 | shel _ _ _=>exact h
theorem qG:∀{cs:List Cell} {vs:List Value},mQ (mJ D g w) cs vs->(∀c∈cs,oN D' c)->mQ (mJ D' g w) cs vs
 | [],[],_,_=>trivial
 | c::cs,v::vs,h,hc=>⟨h.1.restrict (hc c (by simp)),qG h.2 λd hd=>hc d (by simp[hd])⟩
theorem nV.restrict {x:AV} {v:Value} (h:nV D g w x v) (hx:pK D' x):nV D' g w x v:=by
 cases x with
 | cell c=>exact mJ.restrict h hx
 | agg cs=>obtain⟨vs,e,k⟩:=h;exact⟨vs,e,qG k hx⟩
 | tup _=>exact h
theorem nc.restrict {x:AV} {v:Value} (h:nc D g w x v) (hx:p4 D' x):nc D' g w x v:=by
 cases x with
 | cell c=>exact mJ.restrict h hx
 | agg cs=>obtain⟨vs,e,k⟩:=h;exact⟨vs,e,qG k hx⟩
 | tup l =>
  obtain⟨vs,e,k⟩:=h;refine⟨vs,e,?_⟩;have key:∀(l:List AV) (m:List Value),(∀v∈l,pK D' v)->mQ (nV D g w) l m->mQ (nV D' g w) l m:=by
   intro l
   induction l with
   | nil=>intro m _ h;cases m with
    | nil=>trivial
    | cons _ _=>exact h.elim
   | cons n l ih=>intro m hl h;cases m with
    | nil=>exact h.elim
    | cons u m=>exact⟨h.1.restrict (hl n (by simp)),ih m (λk hk=>hl k (by simp[hk])) h.2⟩
  exact key l _ hx k
theorem MS.drop (h:MS w0 T N en1 g w) (hs:∀n e,mG en n=some e->mG en1 n=some e) (hb:xK en):MS w0 T N en g w:=by
 have hd:∀n,dom en n->dom en1 n:=λn hn=>by
  cases hf:mG en n with
  | none=>exact absurd hf hn
  | some e=>unfold dom;rw[hs n e hf];simp
 refine⟨⟨λn e hn=>?_,λn m e f b hn hm=>h.mem.apart n m e f b (hs n e hn) (hs m f hm),λn e b hn=>h.mem.topI n e b (hs n e hn),λn m e f hn hm=>h.mem.nests n m e f (hs n e hn) (hs m f hm),h.mem.old,λn hn=>h.mem.one n (hd n hn),λn e b hn ht hb=>?_⟩,
  ⟨h.since.os,h.since.out,h.since.tape,h.since.size,h.since.mem,λn e b hn=>h.since.tops n e b (hs n e hn),λn e b hn=>h.since.nests n e b (hs n e hn),h.since.imm,λn e b hn=>h.since.born n e b (hs n e hn),h.since.soft⟩⟩
 rotate_left
 · obtain⟨k1,k2,k3⟩:=h.mem.wood n e b (hs n e hn) ht hb;exact⟨k1,λm f hm=>k2 m f (hs m f hm),λm f hmn hm=>k3 m f hmn (hs m f hm)⟩
 have hr:=h.mem.rep n e (hs n e hn);cases e with
 | gone=>exact hr
 | fwd _ _=>exact hr
 | root _ _ _=>exact hr
 | tree _ _=>exact hr
 | frz _ _=>exact hr
 | pop _ _=>exact hr
 | box cs=>obtain⟨b,us,h1,h2,h3,h4⟩:=hr;exact⟨b,us,h1,h2,h3,qG h4 (hb n cs hn)⟩
theorem nk.drop {Z:List Tmp} {FN:List mF} {S S1:St} (h:nk w0 T N S1 g w a) (hs:wP Z FN S S1) (hc:nE S):nk w0 T N S g w a:=by
 have hf:∀n e,mG S.en n=some e->mG S1.en n=some e:=λn e hn=>by
  by_cases hF:n∈FN
  · rw[hs.no n hF]at hn;cases hn
  · rw[←hs.en n hF];exact hn
 have hM:=MS.drop ⟨h.mem,h.since⟩ hf hc.box;refine⟨hM.mem,hM.since,λt=>?_,h.plain⟩;rcases hs.tm t with k|⟨_,k⟩
 · exact (show nc (dom S1.en) g w (S.tmp t) _ by rw[k];exact h.tmps t).restrict (hc.tmp t)
 · rw[k];exact trivial
end Go.V
namespace Go.V
variable {P:Program} {w0:World} {T N:Nat->Prop} {S:St} {g:Gh} {w w':World} {a:Act} {o:Oper} {G:o9} {uid rid:Nat} {en:List (mF×Entry)}

def rM:List AV->AV | [v]=>v|vs=>.tup vs
def tK (P:Program) (f:FuncId) (Fn':Fn):Prop :=
 (∃fn c, P.funcs[f]?=some fn/\(fn.name == "runtime.NumGoroutine")=false/\fn.body=some c) /\
 ∀(w0:World) (T N:Nat->Prop) (en:List (mF×Entry)) (g:Gh) (w:World) (uid:mF) (args:List AV) (vals:List Value) (b:w6 (mY Fn'.ps)) (L:List mF) (r:mI (nS Fn'.ps Fn'.rs)),
  MS w0 T N en g w->mQ (nc (dom en) g w) args vals->(nT (pG Fn'.ps Fn'.rs) Fn'.ps args).Runs (mG en) b L->(mP b.used&&b.ro.all λn=>(mG b.used n).isNone)=true->Fn'.den b.args=some r ->
  mP (mN uid Fn'.ps Fn'.rs b.ptrs r).news=true->(∀p∈(mN uid Fn'.ps Fn'.rs b.ptrs r).news,mG en p.1=none) ->
  Calls P f vals.toArray w fun
   | .returned v,w'=>∃g',MS w0 T N ((mN uid Fn'.ps Fn'.rs b.ptrs r).news++((mN uid Fn'.ps Fn'.rs b.ptrs r).upds++b.used)++en) g' w' /\
    Le (dom en) g w (dom ((mN uid Fn'.ps Fn'.rs b.ptrs r).news++((mN uid Fn'.ps Fn'.rs b.ptrs r).upds++b.used)++en)) g' w' /\
    nc (dom ((mN uid Fn'.ps Fn'.rs b.ptrs r).news++((mN uid Fn'.ps Fn'.rs b.ptrs r).upds++b.used)++en)) g' w' (rM (mN uid Fn'.ps Fn'.rs b.ptrs r).vals) v
   | _,_=>False
def xc (w:World):(ps:List nB)->mI (mY ps)->List Value->Prop
 | [],_,vs=>vs=[]
 | .val agg c false::ps,x,vs=>∃v vs' us F,vs=v::vs'/\isAgg agg v us/\Cs.Rep w c (mI.hd c (mY ps) x) us F/\xc w ps (mI.tl c (mY ps) x) vs'
 | .val _ _ true::_,_,_=>False
 | .ptr .. :: _,_,_=>False
def Bq (P:Program) (f:FuncId) (Fn':Fn):Prop :=
 (∃fn c, P.funcs[f]?=some fn/\(fn.name == "runtime.NumGoroutine")=false/\fn.body=some c) /\
 ∀(w:World) (uid:mF) (x:mI (mY Fn'.ps)) (vals:List Value) (r:mI (nS Fn'.ps Fn'.rs)),xc w Fn'.ps x vals->Fn'.den x=some r->mP (mN uid Fn'.ps Fn'.rs [] r).news=true ->
  Calls P f vals.toArray w fun
   | .returned v,w'=>∃g' T' N',(∀b,¬T' b)/\(∀b,b<w.heap.size->¬N' b)/\MS w T' N' (mN uid Fn'.ps Fn'.rs [] r).news g' w'/\nc (dom (mN uid Fn'.ps Fn'.rs [] r).news) g' w' (rM (mN uid Fn'.ps Fn'.rs [] r).vals) v
   | _,_=>False
def oC (P:Program) (f:FuncId) (M:q9):Prop :=
 (∃fn c, P.funcs[f]?=some fn/\(fn.name == "runtime.NumGoroutine")=false/\fn.body=some c) /\
 ∀(w:World) (v:Value) (us:List Value) (x x':M.cs.den) (F:List Nat) (R:List (List Value)) (k k':Int),isAgg M.agg v us->Cs.TRep w M.cs x us F R->F.Nodup->(∀b∈F,soft w b)->M.den x k=some (x',k') ->
  Calls P f #[v,.int .i64 k] w fun
   | .returned r,w'=>r=.int .i64 k'/\(∃F',Cs.TRep w' M.cs x' us F' R/\F'.Nodup/\∀b∈F',b∈F\/w.heap.size<=b)/\(∀b,b∈F\/w.heap.size<=b->soft w' b) /\
    w'.os=w.os/\w'.output=w.output/\w'.tape=w.tape/\w.heap.size<=w'.heap.size/\∀b,b<w.heap.size->b∉F->w'.heap[b]?=w.heap[b]?
   | _,_=>False
structure p5 (P:Program) (G:o9):Prop where
 tis:oG P G.ti
 eqs:Be P G.ti
 fns:∀f Fn',mG G.fns f=some Fn'->tK P f Fn'
 marks:∀f M,mG G.marks f=some M->oC P f M
 tfns:G.trees=true->∀f Fn',mG G.fns f=some Fn'->oo Fn'.ps=true->vv Fn'.rs=true->Bq P f Fn'
theorem nk.put (h:nk w0 T N S g w a) {e:nu} {v:Value} {g':Gh} (hM:MS w0 T N (e.ents++S.en) g' w') (hle:Le (dom S.en) g w (dom (e.ents++S.en)) g' w') (hv:nc (dom (e.ents++S.en)) g' w' e.val v) (hd:∀d,o.dst=some d->d<a.tmps.size) :
 nk w0 T N (S.put o.dst e) g' w' (a.put o.dst v):=by
 refine⟨hM.mem,hM.since,λt=>?_,?_⟩
 · rw[St.tmp_put,St.en_put];unfold Act.put;cases hdst:o.dst with
   | none=>simpa using nc.mono hle (h.tmps t)
   | some d =>
    simp only[Option.some.injEq];by_cases hdt:d=t
    · subst hdt;have hlt:=hd d hdst
      simpa[Array.getD,hlt]using hv
    · rw[if_neg hdt];have:(a.tmps.setIfInBounds d v).getD t undef=a.tmps.getD t undef:=by
       simp only[Array.getD,Array.size_setIfInBounds];split
       · rename_i hl;show (a.tmps.setIfInBounds d v)[t]'(by simpa using hl)=a.tmps[t]
         rw[Array.getElem_setIfInBounds (by simpa using hl),if_neg hdt]
       · rfl
      rw[this];exact nc.mono hle (h.tmps t)
 · unfold Act.put;cases o.dst<;>exact h.plain
theorem CH (h:nk w0 T N S g w a) {e:nu} (hf:nd P w0 T N S g w a o e) (hd:∀d,o.dst=some d->d<a.tmps.size) {K:Act->World->Prop} {Q:Exit->Act->World->Prop}
 (hK:∀v w' g',nk w0 T N (S.put o.dst e) g' w' (a.put o.dst v)->Le (dom S.en) g w (dom (e.ents++S.en)) g' w'->K (a.put o.dst v) w'):o.wp P a w K Q:=by
 obtain⟨v,w',g',hdo,hM,hle,hv⟩:=hf;have:=hK v w' g' (h.put hM hle hv hd) hle
 unfold Oper.wp;rcases hdo with hr|⟨rfl,hr⟩
 · rw[hr];exact this
 · rw[hr];exact this
end Go.V
namespace Go.V
variable {P:Program} {w0:World} {T N:Nat->Prop} {S:St} {g:Gh} {w w':World} {a:Act} {o:Oper} {G:o9} {uid rid:Nat} {en:List (mF×Entry)} {Q:Exit->Act->World->Prop}

theorem mI.hd_mk:∀(c:Cs) (r:List Cs) (x:c.den) (y:mI r),mI.hd c r (mI.mk c r x y)=x
 | _,[],_,_=>rfl
 | _,_::_,_,_=>rfl
theorem mI.tl_mk:∀(c:Cs) (r:List Cs) (x:c.den) (y:mI r),mI.tl c r (mI.mk c r x y)=y
 | _,[],_,_=>rfl
 | _,_::_,_,_=>rfl
theorem z9 {D:mF->Prop} {agg:Bool} {x:AV} {v:Value} (h:nc D g w x v) (ho:qM agg x=true):∃us,isAgg agg v us/\mQ (mJ D g w) x.cells us:=by
 cases x with
 | cell c=>cases agg with
  | true=>cases ho
  | false=>exact⟨[v],.inl ⟨rfl,rfl⟩,h,trivial⟩
 | agg cs=>cases agg with
  | false=>cases ho
  | true=>obtain⟨vs,rfl,k⟩:=h;exact⟨vs.toList,.inr ⟨rfl,rfl⟩,k⟩
 | tup l=>cases agg<;>cases ho
theorem Cj (hm:oA en g w) {e:Cs} {c:Cell} {v:Value} {xs:List e.den} {L:List mF} (hc:mJ (dom en) g w c v) (hr:(yN e c).Runs (mG en) xs L):∃F,CT.Rep w (.sl e) xs v F:=by
 unfold yN at hr;split at hr
 · rename_i f ys;split at hr
   · rename_i hfe _;obtain rfl:=hfe;obtain⟨rfl,_⟩:=hr;obtain⟨F,hF,_⟩:=hc;exact⟨F,hF⟩
   · exact hr.elim
 · obtain⟨rfl,_⟩:=hr;obtain rfl:=hc;exact⟨[],by simp only[CT.Rep];exact .inl ⟨⟨_,rfl⟩,rfl,rfl⟩⟩
 · rename_i r;obtain⟨L',_,hr⟩:=hr;dsimp only at hr;split at hr
   · rename_i f ys hn;split at hr
     · rename_i hfe _;obtain rfl:=hfe;obtain⟨rfl,_⟩:=hr;obtain⟨_,h2,_⟩:=hm.rep r _ hn;obtain⟨_,rfl⟩:=hc;exact⟨_,h2.slRep⟩
     · exact hr.elim
   · exact hr.elim
 · exact hr.elim
theorem CT.lend_sound (hm:oA en g w) {c:CT} {x:Cell} {v:Value} {y:c.den} {L:List mF} (hc:mJ (dom en) g w x v) (hr:(c.lend x).Runs (mG en) y L):∃F,CT.Rep w c y v F:=by
 cases c with
 | sl e=>exact Cj hm hc hr
 | int k=>obtain⟨F,h,_⟩:=CT.read_sound (c:=.int k) hm hc hr;exact⟨F,h⟩
 | bool=>obtain⟨F,h,_⟩:=CT.read_sound (c:=.bool) hm hc hr;exact⟨F,h⟩
 | str=>obtain⟨F,h,_⟩:=CT.read_sound (c:=.str) hm hc hr;exact⟨F,h⟩
 | err=>obtain⟨F,h,_⟩:=CT.read_sound (c:=.err) hm hc hr;exact⟨F,h⟩
theorem Cs.lend_sound (hm:oA en g w):∀{c:Cs} {xs:List Cell} {vs:List Value} {y:c.den} {L:List mF},mQ (mJ (dom en) g w) xs vs->(c.lend xs).Runs (mG en) y L->∃F,Cs.Rep w c y vs F
 | .one c,[x],[v],y,L,hc,hr=>by
  obtain⟨F,h⟩:=CT.lend_sound hm hc.1 hr;exact⟨F,by simp only[Cs.Rep];exact⟨v,rfl,h⟩⟩
 | .cons c r,x::xs,v::vs,y,L,hc,hr=>by
  simp only[Cs.lend]at hr;obtain⟨a,L1,L2,_,h1,hr⟩:=Rd.runs_bind hr;obtain⟨b,L3,L4,_,h2,hr⟩:=Rd.runs_bind hr;obtain⟨rfl,_⟩:=hr;obtain⟨F1,k1⟩:=CT.lend_sound hm hc.1 h1;obtain⟨F2,k2⟩:=Cs.lend_sound hm hc.2 h2;exact⟨F1++F2,by simp only[Cs.Rep];exact⟨v,vs,F1,F2,rfl,rfl,k1,k2⟩⟩
 | .one _,[],_,_,_,_,hr=>hr.elim
 | .one _,_::_::_,_,_,_,_,hr=>hr.elim
 | .cons _ _,[],_,_,_,_,hr=>hr.elim
 | .one _,[_],[],_,_,hc,_=>hc.elim
 | .one _,[_],_::_::_,_,_,hc,_=>hc.2.elim
 | .cons _ _,_::_,[],_,_,hc,_=>hc.elim
theorem y7 (hm:oA en g w):∀{ps:List nB} {args:List AV} {vals:List Value} {x:mI (mY ps)} {L:List mF},mQ (nc (dom en) g w) args vals->(w7 ps args).Runs (mG en) x L->xc w ps x vals
 | [],[],[],x,L,_,hr=>rfl
 | .val agg c false::ps,v::args,u::vals,x,L,ha,hr=>by
  simp only[w7]at hr;obtain⟨_,L5,L6,_,h0,hr⟩:=Rd.runs_bind hr;obtain⟨y,L1,L2,_,h1,hr⟩:=Rd.runs_bind hr;obtain⟨z,L3,L4,_,h2,hr⟩:=Rd.runs_bind hr;obtain⟨rfl,_⟩:=hr;obtain⟨us,hag,hcs⟩:=z9 ha.1 (Rd.runs_need h0).1;obtain⟨F,hF⟩:=Cs.lend_sound hm hcs h1;refine⟨u,vals,us,F,rfl,hag,?_,?_⟩
  · show Cs.Rep w c (mI.hd c (mY ps) (mI.mk c (mY ps) y z)) us F;rw[mI.hd_mk];exact hF
  · show xc w ps (mI.tl c (mY ps) (mI.mk c (mY ps) y z)) vals;rw[mI.tl_mk];exact y7 hm ha.2 h2
 | [],_::_,_,_,_,_,hr=>hr.elim
 | .val _ _ false::_,[],_,_,_,_,hr=>hr.elim
 | .val _ _ true::_,_,_,_,_,_,hr=>by cases ‹List AV› <;> exact hr.elim
 | .ptr _ _::_,_,_,_,_,_,hr=>by cases ‹List AV› <;> exact hr.elim
 | [],[],_::_,_,_,ha,_=>ha.elim
 | .val _ _ false::_,_::_,[],_,_,ha,_=>ha.elim

theorem pY (l:List (mF×Entry)):(nv l).map (·.1)=l.map (·.1):=by
 unfold nv;rw[List.map_map];rfl
theorem za:∀(l:List (mF×Entry)) (n:mF),mG (nv l) n=(mG l n).map Entry.plant
 | [],n=>rfl
 | (m,e)::l,n=>by
  show mG ((m,e.plant)::nv l) n=_;rw[mR,mR];split
  · rfl
  · exact za l n
theorem vN:∀{l m:List (mF×Entry)},l.map (·.1)=m.map (·.1)->mP l=mP m
 | [],[],_=>rfl
 | (n,e)::l,(k,f)::m,h=>by
  simp only[List.map_cons,List.cons.injEq]at h;obtain⟨rfl,h⟩:=h;simp only[mP];have:(l.any λp=>Nat.beq p.1 n)=m.any λp=>Nat.beq p.1 n:=by
   have e1:(l.any λp=>Nat.beq p.1 n)=(l.map (·.1)).any λp=>Nat.beq p n:=by rw[List.any_map];rfl
   have e2:(m.any λp=>Nat.beq p.1 n)=(m.map (·.1)).any λp=>Nat.beq p n:=by rw[List.any_map];rfl
   rw[e1,e2,h]
  rw[this,vN h]
 | [],_::_,h=>by cases h
 | _::_,[],h=>by cases h
theorem MS.adopt (h:MS w0 T N en g w) {T' N':Nat->Prop} {news:List (mF×Entry)} {g':Gh} (k:MS w T' N' news g' w') (hT':∀b,¬T' b) (hN':∀b,b<w.heap.size->¬N' b)
 (hroots:∀n e,mG news n=some e->∃c xs,e=.root c true xs) (hfresh:∀n,dom news n->mG en n=none) :
 ∃g'',MS w0 T N (nv news++en) g'' w'/\Le (dom en) g w (dom (nv news++en)) g'' w'/\∀n,dom news n->g''.loc n=g'.loc n:=by
 classical
 have hrows:∀n,∃rows:List Value,∀e xs,mG news n=some (.root e true xs)->pJ w' e xs (g'.loc n) (ol g' n) rows:=by
  intro n;cases hn:mG news n with
  | none=>exact⟨[],λe xs h=>by cases h⟩
  | some f =>
   obtain⟨c,xs,rfl⟩:=hroots n f hn;obtain⟨_,hr,_,_⟩:=k.mem.rep n _ hn;rcases hr with ⟨h1,h2,h3,h4⟩|⟨b,off,cap,us,vs,h1,h2,h3,h4,h5,h6,h7⟩
   · refine⟨[],λe ys he=>?_⟩;cases he;exact .inl ⟨⟨_,h1⟩,h2,by simp[ol,h3,h4]⟩
   · refine⟨vs,λe ys he=>?_⟩;cases he;obtain⟨c1,t1,lo,hi,hc1,rfl,_⟩:=id h4;exact .inr ⟨b,off,cap,vs,g'.nest n,h1,by simp[ol,h2],h3,⟨c1,t1,_,hc1,by simpa using h5⟩,h4.row_at h6,h7,λ_ _ _ _=>rfl⟩
 obtain⟨rows,hrows⟩:=Classical.skolem.1 hrows
 let g'':Gh:=⟨g.I,λn=>if dom news n then g'.loc n else g.loc n,λn=>if dom news n then g'.esz n else g.esz n,λn=>if dom news n then none else g.top n,λn=>if dom news n then ol g' n else g.nest n,λn=>if dom news n then rows n else g.rows n⟩
 have hsame:∀b,b<w.heap.size->w'.heap[b]?=w.heap[b]?:=λb hb=>k.since.mem b hb (hT' b);have hnew:∀n e b,mG news n=some e->b∈ol g' n->w.heap.size<=b:=by
  intro n e b hn hb;obtain⟨c,xs,rfl⟩:=hroots n e hn;rcases mem_append.1 hb with hb|hb
  · exact (k.since.tops n _ b hn rfl (by simpa using hb)).elim id λh=>absurd h (hT' b)
  · rcases k.since.nests n _ b hn rfl hb with h|h|h
    · exact h
    · exact absurd h (hT' b)
    · rcases Nat.lt_or_ge b w.heap.size with hl|hl
      · exact absurd h (hN' b hl)
      · exact hl
 have hnd:∀n,dom en n->¬dom news n:=λn hn hd=>hn (hfresh n hd);have hdn:∀n e,mG news n=some e->dom news n:=λn e hn=>by unfold dom;rw[hn];simp
 have hE:∀n f,mG (nv news++en) n=some f->(∃e xs,mG news n=some (.root e true xs)/\f=.tree e xs)\/(¬dom news n/\mG en n=some f):=by
  intro n f hf;by_cases hd:n∈(nv news).map (·.1)
  · rw[pw hd,za]at hf;cases hn:mG news n with
    | none=>rw[hn]at hf;cases hf
    | some e =>
     rw[hn]at hf;obtain⟨c,xs,rfl⟩:=hroots n e hn;cases hf;exact .inl ⟨c,xs,rfl,rfl⟩
  · rw[ne hd]at hf;refine .inr ⟨λh=>hd ?_,hf⟩;rw[pY];exact p9.2 h
 have hdE:∀n,dom en n->dom (nv news++en) n:=λn hn=>qp hn;have i1:∀n,dom news n->g''.loc n=g'.loc n/\g''.esz n=g'.esz n/\g''.nest n=ol g' n/\g''.rows n=rows n:=λn hn=>⟨if_pos hn,if_pos hn,if_pos hn,if_pos hn⟩
 have i2:∀n,¬dom news n->g''.loc n=g.loc n/\g''.esz n=g.esz n/\g''.top n=g.top n/\g''.nest n=g.nest n/\g''.rows n=g.rows n:=λn hn=>⟨if_neg hn,if_neg hn,if_neg hn,if_neg hn,if_neg hn⟩;have hle:Le (dom en) g w (dom (nv news++en)) g'' w' :=
  ⟨hdE,λn hn=>(i2 n (hnd n hn)).1,λn hn=>(i2 n (hnd n hn)).2.1,λ_ h=>h,λb hb=>hsame b (h.mem.old b hb),λn hn=>(i2 n (hnd n hn)).2.2.2.2⟩
 have alive:∀n f,mG (nv news++en) n=some f->f.alive=true\/f.deep=true->¬dom news n/\mG en n=some f:=by
  intro n f hf ha;rcases hE n f hf with ⟨e,xs,_,rfl⟩|h
  · rcases ha with ha|ha<;>cases ha
  · exact h
 have tlt:∀n f b,mG en n=some f->f.isTree=true->b∈g.nest n->b<w.heap.size:=λn f b hn ht hb=>qh (h.mem.rep n f hn) ht hb;refine⟨g'',⟨⟨λn f hf=>?_,λn m e f b hn hm he hf h1 h2=>?_,λn e b hn he hb=>?_,λn m e f hn hm he hf hnm b hb=>?_,λb hb=>Nat.lt_of_lt_of_le (h.mem.old b hb) k.since.size,λn hn=>?_,λn e b hn ht hb=>?_⟩,
  ⟨k.since.os.trans h.since.os,k.since.out.trans h.since.out,k.since.tape.trans h.since.tape,Nat.le_trans h.since.size k.since.size,λb hb hT=>(hsame b (Nat.lt_of_lt_of_le hb h.since.size)).trans (h.since.mem b hb hT),λn e b hn he hb=>?_,λn e b hn he hb=>?_,h.since.imm,λn e b hn ht hb=>?_,λb hb=>?_⟩⟩,hle,λn hn=>(i1 n hn).1⟩
 · rcases hE n f hf with ⟨e,xs,hn,rfl⟩|⟨hd,hn⟩
   · obtain⟨j1,j2,j3,j4⟩:=i1 n (hdn n _ hn);obtain⟨k1,_,kI,k4⟩:=k.mem.rep n _ hn;refine⟨j2.trans k1,by rw[j1,j3,j4];exact hrows n e xs hn,?_⟩;rw[j3];exact nR.1 (yU k.mem hn rfl)
   · obtain⟨j1,j2,j3,j4,j5⟩:=i2 n hd;exact (h.mem.rep n f hn).mono hle (by unfold dom;rw[hn];simp) j3 j4 (λha b hb=>hsame b ((h.mem.rep n f hn).top_lt ha hb)) λht b hb=>hsame b (tlt n f b hn ht hb)
 · obtain⟨d1,k1⟩:=alive n e hn (.inl he);obtain⟨d2,k2⟩:=alive m f hm (.inl hf);rw[(i2 n d1).2.2.1]at h1;rw[(i2 m d2).2.2.1]at h2;exact h.mem.apart n m e f b k1 k2 he hf h1 h2
 · obtain⟨d1,k1⟩:=alive n e hn (.inl he);rw[(i2 n d1).2.2.1]at hb;exact h.mem.topI n e b k1 he hb
 · obtain⟨d1,k1⟩:=alive n e hn (.inr he);obtain⟨d2,k2⟩:=alive m f hm (.inr hf);rw[(i2 n d1).2.2.2.1]at hb;rw[(i2 m d2).2.2.2.1];exact h.mem.nests n m e f k1 k2 he hf hnm b hb
 · by_cases hd:dom news n
   · rw[(i1 n hd).1];exact k.mem.one n hd
   · rw[(i2 n hd).1];refine h.mem.one n λh0=>hn ?_;rw[ne (by rw[pY];exact λh=>hd (p9.1 h))];exact h0
 · rcases hE n e hn with ⟨c,xs,hn',rfl⟩|⟨hd,hn'⟩
   · rw[(i1 n (hdn n _ hn')).2.2.1]at hb;have hge:=hnew n _ b hn' hb
     refine⟨λhI=>by have:=h.mem.old b hI;omega,λm f hm hf ht=>?_,λm f hmn hm hf hbm=>?_⟩
     · obtain⟨d2,k2⟩:=alive m f hm (.inl hf);rw[(i2 m d2).2.2.1]at ht;have:=(h.mem.rep m f k2).top_lt hf ht;omega
     · rcases hE m f hm with ⟨c2,ys,hm',rfl⟩|⟨hd2,hm'⟩
       · rw[(i1 m (hdn m _ hm')).2.2.1]at hbm;exact wa k.mem hn' rfl hm' rfl (Ne.symm hmn) hb hbm
       · rw[(i2 m hd2).2.2.2.1]at hbm;have:=tlt m f b hm' hf hbm;omega
   · rw[(i2 n hd).2.2.2.1]at hb;obtain⟨k1,k2,k3⟩:=h.mem.wood n e b hn' ht hb;have hlt:=tlt n e b hn' ht hb
     refine⟨k1,λm f hm hf ht'=>?_,λm f hmn hm hf hbm=>?_⟩
     · obtain⟨d2,k4⟩:=alive m f hm (.inl hf);rw[(i2 m d2).2.2.1]at ht';exact k2 m f k4 hf ht'
     · rcases hE m f hm with ⟨c2,ys,hm',rfl⟩|⟨hd2,hm'⟩
       · rw[(i1 m (hdn m _ hm')).2.2.1]at hbm;have:=hnew m _ b hm' hbm;omega
       · rw[(i2 m hd2).2.2.2.1]at hbm;exact k3 m f hmn hm' hf hbm
 · obtain⟨d1,k1⟩:=alive n e hn (.inl he);rw[(i2 n d1).2.2.1]at hb;exact h.since.tops n e b k1 he hb
 · obtain⟨d1,k1⟩:=alive n e hn (.inr he);rw[(i2 n d1).2.2.2.1]at hb;exact h.since.nests n e b k1 he hb
 · rcases hE n e hn with ⟨c,xs,hn',rfl⟩|⟨hd,hn'⟩
   · rw[(i1 n (hdn n _ hn')).2.2.1]at hb;exact .inl (Nat.le_trans h.since.size (hnew n _ b hn' hb))
   · rw[(i2 n hd).2.2.2.1]at hb;exact h.since.born n e b hn' ht hb
 · rcases Nat.lt_or_ge b w.heap.size with hl|hl
   · exact (h.since.soft b hb).of_same (hsame b hl)
   · exact k.since.soft b (.inl hl)
def Cell.easy:Cell->Bool | .own _=>true | .int _ _=>true | .bool _=>true | .str _=>true | .err _=>true|_=>false
theorem Br {D D':mF->Prop} {g':Gh} (hD:∀n,D n->D' n/\g'.loc n=g.loc n) {c:Cell} {v:Value} (he:c.easy=true) (h:mJ D g w c v):mJ D' g' w' c v:=by
 cases c with
 | own n=>exact⟨(hD n h.1).1,h.2.trans (hD n h.1).2.symm⟩
 | int _ _=>exact h
 | bool _=>exact h
 | str _=>exact h
 | err _=>exact h
 | _=>cases he
theorem Ar {D D':mF->Prop} {g':Gh} (hD:∀n,D n->D' n/\g'.loc n=g.loc n):∀{l:List Cell} {vs:List Value},l.all Cell.easy=true->mQ (mJ D g w) l vs->mQ (mJ D' g' w') l vs
 | [],[],_,_=>trivial
 | c::l,v::vs,he,h=>by
  simp only[all_cons,aT]at he;exact⟨Br hD he.1 h.1,Ar hD he.2 h.2⟩
 | [],_::_,_,h=>h.elim
 | _::_,[],_,h=>h.elim
theorem zS {D D':mF->Prop} {g':Gh} (hD:∀n,D n->D' n/\g'.loc n=g.loc n) {x:AV} {v:Value} (he:x.cells.all Cell.easy=true) (h:nV D g w x v):nV D' g' w' x v:=by
 cases x with
 | cell c=>exact Br hD (by simpa[AV.cells]using he) h
 | agg cs=>obtain⟨vs,h1,h2⟩:=h;exact⟨vs,h1,Ar hD he h2⟩
 | tup _=>exact h.elim
theorem CT.give_easy {n:mF} {c:CT} {x:c.den}:(c.give true n x).1.easy=true:=by cases c<;>rfl
theorem Cs.give_easy:∀{c:Cs} {n:mF} {x:c.den},(Cs.give true n c x).1.all Cell.easy=true
 | .one c,n,x=>by simp[Cs.give,CT.give_easy]
 | .cons c r,n,x=>by simp[Cs.give,CT.give_easy,Cs.give_easy (c:=r)]
theorem Cs.cells_easy:∀{c:Cs} {x:c.den},c.hasSl=false->(c.cells x).all Cell.easy=true
 | .one c,x,h=>by cases c<;>first|rfl | (simp[Cs.hasSl,CT.isSl]at h)
 | .cons c r,x,h=>by
  simp only[Cs.hasSl,Bool.or_eq_false_iff]at h;have h1:(c.cell x.1).easy=true:=by cases c<;>first|rfl | (simp[CT.isSl]at h)
  simp[Cs.cells,h1,Cs.cells_easy h.2]
theorem Du {agg:Bool} {l:List Cell}:(pb agg l).cells=l:=by
 cases agg with
 | true=>cases l<;>rfl
 | false=>match l with
  | []=>rfl
  | [c]=>rfl
  | c::d::l=>rfl
theorem Cs.give_flat {mm:Bool}:∀{c:Cs} {n:mF} {x:c.den},c.hasSl=false->(Cs.give mm n c x).1.all Cell.easy=true/\(Cs.give mm n c x).2=[]
 | .one c,n,x,h=>by
  cases c with
  | sl e=>simp[Cs.hasSl,CT.isSl]at h
  | _=>exact⟨by simp[Cs.give,CT.give,CT.cell,Cell.easy],rfl⟩
 | .cons c r,n,x,h=>by
  simp only[Cs.hasSl,Bool.or_eq_false_iff]at h;obtain⟨k1,k2⟩:=Cs.give_flat (mm:=mm) (c:=r) (n:=n+1) (x:=x.2) h.2;cases c with
  | sl e=>simp[CT.isSl]at h
  | _=>exact⟨by simp only[Cs.give,all_cons,k1,Bool.and_true];rfl,by simp only[Cs.give,k2,append_nil];rfl⟩
theorem y8:∀(rs:List ob) (n:mF) (x:mI (nr rs)),vv rs=true->(∀v∈(mZ n rs x).vals,v.cells.all Cell.easy=true/\∀l,v≠.tup l)/\∀p∈(mZ n rs x).news,∃c xs,p.2=.root c true xs
 | [],n,x,_=>⟨by simp[mZ],by simp[mZ]⟩
 | .val agg c own::rs,n,x,h=>by
  simp only[vv,all_cons,aT]at h;obtain⟨k1,k2⟩:=y8 rs (n+64) (mI.tl c (nr rs) x) h.2;have hroot:∀{c:Cs} {n:mF} {y:c.den},∀p∈(Cs.give true n c y).2,∃c xs,p.2=.root c true xs:=by
   have h1:∀{c:CT} {n:mF} {y:c.den},∀p∈(c.give true n y).2,∃c xs,p.2=.root c true xs:=by
    intro c n y p hp;cases c with
    | sl e=>simp[CT.give]at hp;subst hp;exact⟨e,y,rfl⟩
    | _=>simp[CT.give]at hp
   intro c
   induction c using Cs.rec (motive_1:=λ_=>True)with
   | one c _=>intro n y p hp;exact h1 p hp
   | cons c r _ ih=>intro n y p hp;exact (mem_append.1 hp).elim (h1 p) (ih p)
   | _=>trivial
  refine⟨λv hv=>?_,λp hp=>?_⟩
  · rcases mem_cons.1 hv with rfl|hv
    · rw[Du];refine⟨?_,λl hl=>?_⟩
      · match own,h.1 with
        | some true,_=>exact Cs.give_easy
        | none,h1=>exact Cs.cells_easy (by simpa[sf]using h1)
        | some false,h1=>exact (Cs.give_flat (by simpa[sf]using h1)).1
      · cases agg with
        | true=>cases hc:(oL own n c (mI.hd c (nr rs) x)).1<;>(rw[hc]at hl;cases hl)
        | false=>match hc:(oL own n c (mI.hd c (nr rs) x)).1 with
         | []=>rw[hc]at hl;cases hl
         | [_]=>rw[hc]at hl;cases hl
         | _::_::_=>rw[hc]at hl;cases hl
    · exact k1 v hv
  · rcases mem_append.1 hp with hp|hp
    · match own,h.1,hp with
      | some true,_,hp=>exact hroot p hp
      | none,_,hp=>simp[oL]at hp
      | some false,h1,hp =>
       have hp:p∈(Cs.give false n c (mI.hd c (nr rs) x)).2:=hp;rw[(Cs.give_flat (by simpa[sf]using h1)).2]at hp;exact absurd hp (by simp)
    · exact k2 p hp
 | .ptr c own::rs,n,x,h=>by simp[vv]at h
theorem y9:∀(ps:List nB) (rs:List ob) (n:mF) (x:mI (nS ps rs)),oo ps=true->vv rs=true->(∀v∈(mN n ps rs [] x).vals,v.cells.all Cell.easy=true/\∀l,v≠.tup l)/\∀p∈(mN n ps rs [] x).news,∃c xs,p.2=.root c true xs
 | [],rs,n,x,_,h=>y8 rs n x h
 | .val _ _ false::ps,rs,n,x,hl,h=>y9 ps rs n x (by simpa[oo]using hl) h
 | .val _ _ true::_,_,_,_,hl,_=>by simp[oo]at hl
 | .ptr _ _::_,_,_,_,hl,_=>by simp[oo]at hl
theorem En {D D':mF->Prop} {g':Gh} (hD:∀n,D n->D' n/\g'.loc n=g.loc n) {l:List AV} {v:Value} (he:∀x∈l,x.cells.all Cell.easy=true/\∀l,x≠.tup l) (h:nc D g w (rM l) v):nc D' g' w' (rM l) v:=by
 have h0:∀{l:List AV} {vs:List Value},(∀x∈l,x.cells.all Cell.easy=true/\∀l,x≠.tup l)->mQ (nV D g w) l vs->mQ (nV D' g' w') l vs:=by
  intro l
  induction l with
  | nil=>intro vs _ h;cases vs with
   | nil=>trivial
   | cons _ _=>exact h.elim
  | cons x l ih=>intro vs he h;cases vs with
   | nil=>exact h.elim
   | cons u vs=>exact⟨zS hD (he x mem_cons_self).1 h.1,ih (λy hy=>he y (mem_cons_of_mem _ hy)) h.2⟩
 match l,he,h with
 | [],he,h=>obtain⟨vs,h1,h2⟩:=h;exact⟨vs,h1,h0 (by simp) h2⟩
 | [x],he,h =>
  cases x with
  | cell c=>exact zS (x:=.cell c) hD (he _ mem_cons_self).1 h
  | agg cs=>exact zS (x:=.agg cs) hD (he _ mem_cons_self).1 h
  | tup k=>exact absurd rfl ((he _ mem_cons_self).2 k)
 | x::y::l,he,h=>obtain⟨vs,h1,h2⟩:=h;exact⟨vs,h1,h0 he h2⟩
end Go.V
namespace Go.V
variable {P:Program} {w0:World} {T N:Nat->Prop} {S:St} {g:Gh} {w w':World} {a:Act} {o:Oper} {G:o9} {uid rid:Nat} {en:List (mF×Entry)} {Q:Exit->Act->World->Prop}

def CT.Slot (E:List (mF×Entry)) (g:Gh):(c:CT)->Cell->Value->List (List Value)->Prop
 | .sl e,x,v,R=>∃r,x=.own r/\(mG E r=some .gone\/mG E r=none)/\g.loc r=v/\g.esz r=e.len/\R=[g.rows r]
 | _,_,_,R=>R=[]
def Cs.Slot (E:List (mF×Entry)) (g:Gh):(c:Cs)->List Cell->List Value->List (List Value)->Prop
 | .one c,xs,vs,R=>∃x v,xs=[x]/\vs=[v]/\CT.Slot E g c x v R
 | .cons c r,xs,vs,R=>∃x v xs' vs' R1 R2,xs=x::xs'/\vs=v::vs'/\R=R1++R2/\CT.Slot E g c x v R1/\Cs.Slot E g r xs' vs' R2
def AP (w0:World) (T:Nat->Prop) (E:List (mF×Entry)) (g:Gh) (F:List Nat):Prop :=
 ∀b∈F,¬g.I b/\(∀m f,mG E m=some f->f.alive=true->g.top m≠some b)/\(∀m f,mG E m=some f->f.isTree=true->b∉g.nest m)/\(w0.heap.size<=b\/T b)
structure zT (E E':List (mF×Entry)) (g g':Gh) (F:List Nat):Prop where
 imm:g'.I=g.I
 tops:∀m f,mG E' m=some f->f.alive=true->mG E m=some f/\g'.top m=g.top m
 trees:∀m f b,mG E' m=some f->f.isTree=true->b∈g'.nest m->b∈F\/∃f',mG E m=some f'/\f'.isTree=true/\b∈g.nest m
theorem pJ.one {e:Cs} {xs:List e.den} {v:Value} {F:List Nat} {rows:List Value} (h:pJ w e xs v F rows):v.oneCell'=true:=by
 obtain⟨a,c,rfl⟩:=pO h.slRep;rfl
theorem CT.held_put {E:List (mF×Entry)} {c:CT} {x:Cell} {v:Value} {y:c.den} {F:List Nat} {R:List (List Value)} (h:MS w0 T N E g w) (hr:CT.TRep w c y v F R) (hn:F.Nodup) (hb:AP w0 T E g F) (hs:CT.Slot E g c x v R) :
 ∃g',MS w0 T N (c.held x y++E) g' w/\Le (dom E) g w (dom (c.held x y++E)) g' w/\zT E (c.held x y++E) g g' F/\(∀n,g'.loc n=g.loc n/\g'.esz n=g.esz n/\g'.rows n=g.rows n):=by
 have none:c.isSl=false->∃g',MS w0 T N (c.held x y++E) g' w/\Le (dom E) g w (dom (c.held x y++E)) g' w/\zT E (c.held x y++E) g g' F/\(∀n,g'.loc n=g.loc n/\g'.esz n=g.esz n/\g'.rows n=g.rows n):=by
  intro hc;have:c.held x y=[]:=by cases c<;>first|rfl | (simp[CT.isSl]at hc)
  rw[this];exact⟨g,h,Le.refl _ _ _,⟨rfl,λm f hm _=>⟨hm,rfl⟩,λm f b hm ht hb=>.inr ⟨f,hm,ht,hb⟩⟩,λn=>⟨rfl,rfl,rfl⟩⟩
 cases c with
 | sl e =>
  obtain⟨r,rfl,hg,hl,he,rfl⟩:=hs;obtain⟨rows,hR,ht⟩:=hr;obtain rfl:g.rows r=rows:=by simpa using hR
  subst hl;have hne:∀m f,mG E m=some f->f.alive=true\/f.isTree=true->m≠r:=λm f hm ha e=>by
   subst e;rcases hg with h0|h0<;>rw[h0]at hm<;>cases hm
   rcases ha with ha|ha<;>cases ha
  obtain⟨h1,l1⟩:=h.put (n:=r) (e:=.tree e y) (i:=⟨g.loc r,g.esz r,g.top r,F⟩) (λ_=>⟨rfl,rfl⟩) ht.one
   ⟨by simpa[Gh.set]using he,by simpa[Gh.set]using ht,by simpa[Gh.set]using hn⟩ (λha=>by cases ha) (λhd=>by cases hd)
   (λ_ b hbF=>by
    obtain⟨k1,k2,k3,k4⟩:=hb b hbF;exact⟨k1,λm f _=>k2 m f,λm f _=>k3 m f,k4⟩)
  refine⟨_,h1,l1,⟨rfl,λm f hm ha=>?_,λm f b hm ht' hbm=>?_⟩,λn=>?_⟩
  · have hm:mG ((r,Entry.tree e y)::E) m=some f:=hm;rw[mR]at hm;split at hm
    · cases hm;cases ha
    · rename_i hmr;exact⟨hm,by simp[Gh.set,Ne.symm hmr]⟩
  · have hm:mG ((r,Entry.tree e y)::E) m=some f:=hm;rw[mR]at hm;split at hm
    · rename_i hmr;subst hmr;exact .inl (by simpa[Gh.set]using hbm)
    · rename_i hmr;exact .inr ⟨f,hm,ht',by simpa[Gh.set,Ne.symm hmr]using hbm⟩
  · refine⟨?_,?_,rfl⟩
    · show (if n=r then g.loc r else g.loc n)=g.loc n;split
      · rename_i e;rw[e]
      · rfl
    · show (if n=r then g.esz r else g.esz n)=g.esz n;split
      · rename_i e;rw[e]
      · rfl
 | _=>exact none rfl
theorem CT.Slot.mono {E E':List (mF×Entry)} {g':Gh} (hg:∀n,g'.loc n=g.loc n/\g'.esz n=g.esz n/\g'.rows n=g.rows n) {c:CT} {x:Cell} {v:Value} {R:List (List Value)} {y:c.den} (hE:∀n∈(c.held x y).map (·.1),mG E' n=mG E n) (h:CT.Slot E g c x v R):CT.Slot E' g' c x v R:=by
 cases c with
 | sl e =>
  obtain⟨r,rfl,h1,h2,h3,h4⟩:=h;refine⟨r,rfl,?_,by rw[(hg r).1];exact h2,by rw[(hg r).2.1];exact h3,by rw[(hg r).2.2];exact h4⟩;rw[hE r (by simp[CT.held])];exact h1
 | _=>exact h
theorem Cs.held_put:∀{c:Cs} {E:List (mF×Entry)} {g:Gh} {xs:List Cell} {vs:List Value} {y:c.den} {F:List Nat} {R:List (List Value)},MS w0 T N E g w->Cs.TRep w c y vs F R->F.Nodup->AP w0 T E g F->Cs.Slot E g c xs vs R->mP (c.held xs y)=true ->
 ∃g',MS w0 T N (c.held xs y++E) g' w/\Le (dom E) g w (dom (c.held xs y++E)) g' w/\zT E (c.held xs y++E) g g' F/\(∀n,g'.loc n=g.loc n/\g'.esz n=g.esz n/\g'.rows n=g.rows n)
 | .one c,E,g,xs,vs,y,F,R,h,hr,hn,hb,hs,hd=>by
  obtain⟨x,v,rfl,rfl,hs⟩:=hs;obtain⟨v',hv,hr⟩:=hr;cases hv;exact CT.held_put h hr hn hb hs
 | .cons c r,E,g,xs,vs,y,F,R,h,hr,hn,hb,hs,hd=>by
  obtain⟨x,v,xs',vs',R1,R2,rfl,rfl,rfl,hs1,hs2⟩:=hs;obtain⟨v',vs'',F1,F2,S1,S2,hv,rfl,hS,hr1,hr2⟩:=hr;cases hv;have hlen:∀{c:CT} {y:c.den} {v:Value} {F:List Nat} {R S:List (List Value)} {x:Cell},CT.TRep w c y v F S->CT.Slot E g c x v R->R.length=S.length:=by
   intro c y v F R S x h1 h2;cases c with
   | sl e=>obtain⟨_,_,_,_,_,rfl⟩:=h2;obtain⟨_,rfl,_⟩:=h1;rfl
   | _=>rw[show R=[]from h2,h1.1]
  obtain⟨rfl,rfl⟩:=List.append_inj hS (hlen hr1 hs1);obtain⟨d1,d2,d3⟩:=nH (l:=c.held x y.1) (m:=r.held xs' y.2) hd;obtain⟨n1,n2,n3⟩:=nodup_append.1 hn;obtain⟨g1,h1,l1,p1,q1⟩:=Cs.held_put (c:=r) h hr2 n2 (λb hb'=>hb b (mem_append_right _ hb')) hs2 d2;have hs1':CT.Slot (r.held xs' y.2++E) g1 c x v R1:=CT.Slot.mono q1 (y:=y.1) (λn hn=>ne (d3 n hn)) hs1
  have hb1:AP w0 T (r.held xs' y.2++E) g1 F1:=by
   intro b hb';obtain⟨k1,k2,k3,k4⟩:=hb b (mem_append_left _ hb');refine⟨by rw[p1.imm];exact k1,λm f hm ha ht=>?_,λm f hm ht hbm=>?_,k4⟩
   · obtain⟨j1,j2⟩:=p1.tops m f hm ha;rw[j2]at ht;exact k2 m f j1 ha ht
   · rcases p1.trees m f b hm ht hbm with j|⟨f',j1,j2,j3⟩
     · exact n3 b hb' b j rfl
     · exact k3 m f' j1 j2 j3
  obtain⟨g2,h2,l2,p2,q2⟩:=CT.held_put h1 hr1 n1 hb1 hs1';have e:Cs.held (.cons c r) (x::xs') y++E=c.held x y.1++(r.held xs' y.2++E):=append_assoc _ _ _
  rw[e];refine⟨g2,h2,l1.trans l2,⟨p2.imm.trans p1.imm,λm f hm ha=>?_,λm f b hm ht hbm=>?_⟩,λn=>⟨(q2 n).1.trans (q1 n).1,(q2 n).2.1.trans (q1 n).2.1,(q2 n).2.2.trans (q1 n).2.2⟩⟩
  · obtain⟨j1,j2⟩:=p2.tops m f hm ha;obtain⟨j3,j4⟩:=p1.tops m f j1 ha;exact⟨j3,j2.trans j4⟩
  · rcases p2.trees m f b hm ht hbm with j|⟨f',j1,j2,j3⟩
    · exact .inl (mem_append_left _ j)
    · rcases p1.trees m f' b j1 j2 j3 with j|j
      · exact .inl (mem_append_right _ j)
      · exact .inr j

theorem CT.hold_sound (hm:oA en g w) {c:CT} {x:Cell} {v:Value} {y:c.den} {L:List mF} (hc:mJ (dom en) g w x v) (hr:(c.hold x).Runs (mG en) y L) :
 ∃ns:List mF,CT.TRep w c y v (ns.flatMap g.nest) (ns.map g.rows)/\(∀z,(c.held x z).map (·.1)=ns)/\(∀n∈ns,∃e xs,mG en n=some (.tree e xs)) /\
  ∀E,(∀n∈ns,mG E n=some .gone)->CT.Slot E g c x v (ns.map g.rows):=by
 have scalar:c.isSl=false->(∃F,CT.Rep w c y v F)->∃ns:List mF,CT.TRep w c y v (ns.flatMap g.nest) (ns.map g.rows)/\(∀z,(c.held x z).map (·.1)=ns)/\(∀n∈ns,∃e xs,mG en n=some (.tree e xs)) /\
  ∀E,(∀n∈ns,mG E n=some .gone)->CT.Slot E g c x v (ns.map g.rows):=by
  intro hs ⟨F,hF⟩;have hF0:=CT.rep_foot hs hF
  subst hF0;refine⟨[],?_,λz=>?_,by simp,λE _=>?_⟩
  · cases c<;>first|exact⟨rfl,hF⟩ | (simp[CT.isSl]at hs)
  · cases c<;>first|rfl | (simp[CT.isSl]at hs)
  · cases c<;>first|rfl | (simp[CT.isSl]at hs)
 cases c with
 | sl e =>
  replace hr:(D3 e x).Runs (mG en) y L:=hr;unfold D3 at hr;split at hr
  · rename_i r;obtain⟨L',_,hr⟩:=hr;dsimp only at hr;split at hr
    · rename_i f ys hn;split at hr
      · rename_i hfe _;obtain rfl:=hfe;obtain⟨rfl,_⟩:=hr;obtain⟨k1,k2,k3⟩:=hm.rep r _ hn;obtain⟨hd,rfl⟩:=hc;refine⟨[r],⟨g.rows r,rfl,by simpa using k2⟩,λz=>rfl,λn hn'=>?_,λE hE=>⟨r,rfl,.inl (hE r (by simp)),rfl,k1,rfl⟩⟩;obtain rfl:n=r:=by simpa using hn'
        exact⟨f,_,hn⟩
      · exact hr.elim
    · exact hr.elim
  · exact hr.elim
 | int k=>obtain⟨F,h,_⟩:=CT.read_sound (c:=.int k) hm hc hr;exact scalar rfl ⟨F,h⟩
 | bool=>obtain⟨F,h,_⟩:=CT.read_sound (c:=.bool) hm hc hr;exact scalar rfl ⟨F,h⟩
 | str=>obtain⟨F,h,_⟩:=CT.read_sound (c:=.str) hm hc hr;exact scalar rfl ⟨F,h⟩
 | err=>obtain⟨F,h,_⟩:=CT.read_sound (c:=.err) hm hc hr;exact scalar rfl ⟨F,h⟩
theorem Cs.hold_sound (hm:oA en g w):∀{c:Cs} {xs:List Cell} {vs:List Value} {y:c.den} {L:List mF},mQ (mJ (dom en) g w) xs vs->(c.hold xs).Runs (mG en) y L ->
 ∃ns:List mF,Cs.TRep w c y vs (ns.flatMap g.nest) (ns.map g.rows)/\(∀z,(c.held xs z).map (·.1)=ns)/\(∀n∈ns,∃e xs,mG en n=some (.tree e xs)) /\
  ∀E,(∀n∈ns,mG E n=some .gone)->Cs.Slot E g c xs vs (ns.map g.rows)
 | .one c,[x],[v],y,L,hc,hr=>by
  obtain⟨ns,k1,k2,k3,k4⟩:=CT.hold_sound hm hc.1 hr;exact⟨ns,⟨v,rfl,k1⟩,k2,k3,λE hE=>⟨x,v,rfl,rfl,k4 E hE⟩⟩
 | .cons c r,x::xs,v::vs,y,L,hc,hr=>by
  simp only[Cs.hold]at hr;obtain⟨a,L1,L2,_,h1,hr⟩:=Rd.runs_bind hr;obtain⟨b,L3,L4,_,h2,hr⟩:=Rd.runs_bind hr;obtain⟨rfl,_⟩:=hr;obtain⟨ns,k1,k2,k3,k4⟩:=CT.hold_sound hm hc.1 h1;obtain⟨ms,j1,j2,j3,j4⟩:=Cs.hold_sound hm hc.2 h2;refine⟨ns++ms,⟨v,vs,_,_,_,_,rfl,List.flatMap_append,map_append,k1,j1⟩,λz=>?_,λn hn=>(mem_append.1 hn).elim (k3 n) (j3 n),λE hE=>?_⟩
  · simp only[Cs.held,map_append,k2 z.1,j2 z.2]
  · exact⟨x,v,xs,vs,_,_,rfl,rfl,map_append,k4 E λn hn=>hE n (mem_append_left _ hn),j4 E λn hn=>hE n (mem_append_right _ hn)⟩
 | .one _,[],_,_,_,_,hr=>hr.elim
 | .one _,_::_::_,_,_,_,_,hr=>hr.elim
 | .cons _ _,[],_,_,_,_,hr=>hr.elim
 | .one _,[_],[],_,_,hc,_=>hc.elim
 | .one _,[_],_::_::_,_,_,hc,_=>hc.2.elim
 | .cons _ _,_::_,[],_,_,hc,_=>hc.elim
theorem wg (hm:oA en g w):∀{ns:List mF},ns.Nodup->(∀n∈ns,∃e xs,mG en n=some (.tree e xs))->(ns.flatMap g.nest).Nodup
 | [],_,_=>by simp
 | n::ns,hd,ht=>by
  obtain⟨h1,h2⟩:=nodup_cons.1 hd;obtain⟨e,xs,hn⟩:=ht n (by simp);rw[List.flatMap_cons,nodup_append];refine⟨(hm.rep n _ hn).2.2,wg hm h2 λm hm'=>ht m (by simp[hm']),λb hb c hc hbc=>?_⟩;subst hbc;obtain⟨m,hmn,hbm⟩:=mem_flatMap.1 hc;obtain⟨f,ys,hm'⟩:=ht m (by simp[hmn]);exact (hm.wood n _ b hn rfl hb).2.2 m _ (λe=>h1 (e▸hmn)) hm' rfl hbm
theorem sO:∀{l:List (mF×Entry)},mP l=true->(l.map (·.1)).Nodup
 | [],_=>by simp
 | (n,e)::l,h=>by
  obtain⟨h1,h2⟩:=o0 h;exact nodup_cons.2 ⟨h1,sO h2⟩
theorem zb {ns:List mF} {n:mF} (h:n∈ns) (E:List (mF×Entry)):mG ((ns.map λn=>(n,Entry.gone))++E) n=some .gone:=by
 induction ns with
 | nil=>simp at h
 | cons m ns ih =>
  show mG ((m,Entry.gone)::((ns.map λn=>(n,Entry.gone))++E)) n=_;rw[mR];split
  · rfl
  · rename_i hmn;exact ih ((mem_cons.1 h).resolve_left λe=>hmn e.symm)
theorem zc {ns:List mF} {n:mF} (h:n∉ns) (E:List (mF×Entry)):mG ((ns.map λn=>(n,Entry.gone))++E) n=mG E n:=by
 rw[ne];simpa using h
theorem MS.retrees (h:MS w0 T N en g w) {c:Cs} {xs:List Cell} {vs:List Value} {y:c.den} {F:List Nat} {ns:List mF} (hns:(c.held xs y).map (·.1)=ns) (hd:ns.Nodup) (ht:∀n∈ns,∃e xs,mG en n=some (.tree e xs))
 (hslot:∀E,(∀n∈ns,mG E n=some .gone)->Cs.Slot E g c xs vs (ns.map g.rows)) (hr:Cs.TRep w' c y vs F (ns.map g.rows)) (hn:F.Nodup)
 (hF:∀b∈F,b∈ns.flatMap g.nest\/w.heap.size<=b) (hsoft:∀b,b∈ns.flatMap g.nest\/w.heap.size<=b->Go.V.soft w' b)
 (hos:w'.os=w.os) (hout:w'.output=w.output) (htape:w'.tape=w.tape) (hsize:w.heap.size<=w'.heap.size) (hmem:∀b,b<w.heap.size->b∉ns.flatMap g.nest->w'.heap[b]?=w.heap[b]?) :
 ∃g',MS w0 T N (c.held xs y++en) g' w'/\Le (dom en) g w (dom (c.held xs y++en)) g' w':=by
 have hdn:∀n∈ns,dom en n:=λn hn=>by obtain⟨e,xs,h⟩:=ht n hn;unfold dom;rw[h];simp
 obtain⟨h1,l1⟩:=h.useGone (used:=ns.map λn=>(n,Entry.gone)) (λp hp=>by
  obtain⟨n,hn,rfl⟩:=mem_map.1 hp;exact⟨hdn n hn,rfl⟩)
 have hE:∀m f,mG ((ns.map λn=>(n,Entry.gone))++en) m=some f->f≠.gone->m∉ns/\mG en m=some f:=λm f hm hf=>by
  by_cases hmn:m∈ns
  · rw[zb hmn]at hm;cases hm;exact absurd rfl hf
  · rw[zc hmn]at hm;exact⟨hmn,hm⟩
 have al:∀f:Entry,f.alive=true->f≠.gone:=λf ha e=>by subst e;cases ha
 have tr:∀f:Entry,f.isTree=true->f≠.gone:=λf ha e=>by subst e;cases ha
 have hw:∀b∈ns.flatMap g.nest,∃n∈ns,∃e xs,mG en n=some (.tree e xs)/\b∈g.nest n:=λb hb=>by
  obtain⟨n,hn,hb⟩:=mem_flatMap.1 hb;obtain⟨e,xs,h⟩:=ht n hn;exact⟨n,hn,e,xs,h,hb⟩
 obtain⟨h2,l2⟩:=h1.world (w':=w') (λb hb=>hmem b (h.mem.old b hb) λhbn=>by
  obtain⟨n,_,e,xs,hn,hbn⟩:=hw b hbn;exact (h.mem.wood n _ b hn rfl hbn).1 hb)
  (λm f b hm ha hb=>by
   obtain⟨_,hm'⟩:=hE m f hm (al f ha);refine hmem b ((h.mem.rep m f hm').top_lt ha hb) λhbn=>?_;obtain⟨n,_,e,xs,hn,hbn⟩:=hw b hbn;exact (h.mem.wood n _ b hn rfl hbn).2.1 m f hm' ha hb)
  hos hout htape hsize
  (λb hb hT=>hmem b (Nat.lt_of_lt_of_le hb h.since.size) λhbn=>by
   obtain⟨n,_,e,xs,hn,hbn⟩:=hw b hbn;exact (h.since.born n _ b hn rfl hbn).elim (λk=>by omega) hT)
  (λm f b hm ht' hb=>by
   obtain⟨hmn,hm'⟩:=hE m f hm (tr f ht');refine hmem b (qh (h.mem.rep m f hm') ht' hb) λhbn=>?_;obtain⟨n,hnn,e,xs,hn,hbn⟩:=hw b hbn;exact (h.mem.wood n _ b hn rfl hbn).2.2 m f (λe=>hmn (e▸hnn)) hm' ht' hb)
  (λb hb=>by
   by_cases hbn:b∈ns.flatMap g.nest
   · exact hsoft b (.inl hbn)
   · rcases Nat.lt_or_ge b w.heap.size with hl|hl
     · exact (h.since.soft b hb).of_same (hmem b hl hbn)
     · exact hsoft b (.inr hl))
 have hblank:AP w0 T ((ns.map λn=>(n,Entry.gone))++en) g F:=by
  intro b hb;rcases hF b hb with hbn|hbl
  · obtain⟨n,hnn,e,xs,hn,hbn⟩:=hw b hbn;obtain⟨k1,k2,k3⟩:=h.mem.wood n _ b hn rfl hbn;exact⟨k1,λm f hm ha=>k2 m f (hE m f hm (al f ha)).2 ha,λm f hm ht'=>k3 m f (λe=>(hE m f hm (tr f ht')).1 (e▸hnn)) (hE m f hm (tr f ht')).2 ht',h.since.born n _ b hn rfl hbn⟩
  · exact⟨λhI=>by have:=h.mem.old b hI;omega,λm f hm ha ht'=>by have:=(h.mem.rep m f (hE m f hm (al f ha)).2).top_lt ha ht';omega,
     λm f hm ht' hbm=>by have:=qh (h.mem.rep m f (hE m f hm (tr f ht')).2) ht' hbm;omega,.inl (Nat.le_trans h.since.size hbl)⟩
 obtain⟨g',h3,l3,_,_⟩:=Cs.held_put h2 hr hn hblank (hslot _ λn hn=>zb hn _) (by
  have:mP (c.held xs y)=true:=by
   have key:∀{l:List (mF×Entry)},(l.map (·.1)).Nodup->mP l=true:=by
    intro l
    induction l with
    | nil=>intro _;rfl
    | cons p l ih =>
     intro hl;obtain⟨n,e⟩:=p;obtain⟨k1,k2⟩:=nodup_cons.1 hl;simp only[mP];have:(l.any λp=>Nat.beq p.1 n)=false:=by
      rw[List.any_eq_false];intro p hp he;exact k1 (mem_map.2 ⟨p,hp,Nat.eq_of_beq_eq_true he⟩)
     rw[this];exact ih k2
   exact key (by rw[hns];exact hd)
  exact this)
 have hc:∀m,mG (c.held xs y++((ns.map λn=>(n,Entry.gone))++en)) m=mG (c.held xs y++en) m:=by
  intro m;by_cases hm:m∈(c.held xs y).map (·.1)
  · rw[pw hm,pw hm]
  · rw[ne hm,ne hm,zc (by rw[←hns];exact hm)]
 refine⟨g',h3.congr hc,?_⟩;rw[←pD hc];exact (l1.trans l2).trans l3

theorem Cs.slice_focus {e:Cs}:∀{f:Cs} {j:Nat} {x:f.den} {us:List Value} {G:List Nat} {ys:List e.den},Cs.Rep w f x us G->Cs.slice e f j x=some ys ->
 ∃v H1 H H2,us[j]?=some v/\f.slAt j=true/\G=H1++H++H2/\CT.Rep w (.sl e) ys v H /\
  ∀(w':World) (zs:List e.den) (H':List Nat) (x':f.den),(∀b∈H1++H2,w'.heap[b]?=w.heap[b]?)->CT.Rep w' (.sl e) zs v H'->Cs.setSlice e f j x zs=some x'->Cs.Rep w' f x' us (H1++H'++H2)
 | .one (.sl e'),0,x,us,G,ys,h,hs=>by
  simp only[Cs.Rep]at h;obtain⟨v,rfl,h⟩:=h;simp only[Cs.slice]at hs;split at hs
  · rename_i hh _;subst hh;cases hs;refine⟨v,[],G,[],rfl,rfl,by simp,h,λw' zs H' x' _ hz hx=>?_⟩;simp only[Cs.setSlice]at hx;split at hx
    · cases hx;simp only[Cs.Rep];exact⟨v,rfl,by rw[Aa];simpa using hz⟩
    · cases hx
  · cases hs
 | .cons (.sl e') r,0,x,us,G,ys,h,hs=>by
  simp only[Cs.Rep]at h;obtain⟨v,vs',F1,F2,rfl,rfl,h1,h2⟩:=h;simp only[Cs.slice]at hs;split at hs
  · rename_i hh _;subst hh;cases hs;refine⟨v,[],F1,F2,rfl,rfl,by simp,h1,λw' zs H' x' hb hz hx=>?_⟩;simp only[Cs.setSlice]at hx;split at hx
    · cases hx;simp only[Cs.Rep];exact⟨v,vs',H',F2,rfl,by simp,by rw[Aa];exact hz,Cs.Rep.of_same (λb hb'=>hb b (by simpa using hb')) h2⟩
    · cases hx
  · cases hs
 | .cons c r,j+1,x,us,G,ys,h,hs=>by
  simp only[Cs.Rep]at h;obtain⟨v,vs',F1,F2,rfl,rfl,h1,h2⟩:=h;have hs:Cs.slice e r j x.2=some ys:=by simpa only[Cs.slice]using hs
  obtain⟨u,H1,H,H2,k1,k2,rfl,k3,k4⟩:=Cs.slice_focus (f:=r) h2 hs;refine⟨u,F1++H1,H,H2,by simpa using k1,by simpa[Cs.slAt]using k2,by simp,k3,λw' zs H' x' hb hz hx=>?_⟩;cases hx':Cs.setSlice e r j x.2 zs with
  | none=>simp only[Cs.setSlice,hx']at hx;cases hx
  | some y =>
   simp only[Cs.setSlice,hx']at hx;cases hx;simp only[Cs.Rep];exact⟨v,vs',F1,H1++H'++H2,rfl,by simp,CT.Rep.of_same (λb hb'=>hb b (by simp[hb'])) h1,k4 w' zs H' y (λb hb'=>hb b (by
    simp only[mem_append]at hb' ⊢;rcases hb' with h|h<;>simp[h])) hz hx'⟩
 | .one (.int _),_,_,_,_,_,_,hs=>by simp[Cs.slice]at hs
 | .one .bool,_,_,_,_,_,_,hs=>by simp[Cs.slice]at hs
 | .one .str,_,_,_,_,_,_,hs=>by simp[Cs.slice]at hs
 | .one .err,_,_,_,_,_,_,hs=>by simp[Cs.slice]at hs
 | .one (.sl _),_+1,_,_,_,_,_,hs=>by simp[Cs.slice]at hs
 | .cons (.int _) _,0,_,_,_,_,_,hs=>by simp[Cs.slice]at hs
 | .cons .bool _,0,_,_,_,_,_,hs=>by simp[Cs.slice]at hs
 | .cons .str _,0,_,_,_,_,_,hs=>by simp[Cs.slice]at hs
 | .cons .err _,0,_,_,_,_,_,hs=>by simp[Cs.slice]at hs
theorem Ck {e:Cs} {xs:List e.den} {v:Value} {F:List Nat} (h:CT.Rep w (.sl e) xs v F):∃rows,pJ w e xs v F rows:=by
 simp only[CT.Rep]at h;rcases h with h|⟨b,off,cap,vs,F',h1,h2,h3,h4,h5,h6⟩
 · exact⟨[],.inl h⟩
 · exact⟨vs,.inr ⟨b,off,cap,vs,F',h1,h2,h3,h4,h5,h6,λ_ _ _ _=>rfl⟩⟩

theorem Cl {f:FuncId} {M:q9} (hM:oC P f M) (h:MS w0 T N en g w) {args:List AV} {vals:List Value} (ha:mQ (nc (dom en) g w) args vals) {e:nu} {L:List mF} (hr:(tP M args).Runs (mG en) e L) :
 Calls P f vals.toArray w fun
  | .returned v,w'=>∃g',MS w0 T N (e.ents++en) g' w'/\Le (dom en) g w (dom (e.ents++en)) g' w'/\nc (dom (e.ents++en)) g' w' e.val v
  | _,_=>False:=by
 unfold tP at hr;split at hr
 · rename_i r i j n
   match vals,ha with
   | [v,u],ha =>
   obtain⟨hv,hu,_⟩:=ha;have hu:u=.int .i64 n:=hu
   subst hu;split at hr
   · rename_i el den;obtain⟨L',_,hr⟩:=hr;dsimp only at hr;split at hr
     · rename_i fc xs hn;obtain⟨x,hx,hr⟩:=hr;obtain⟨ys,hys,hr⟩:=hr;obtain⟨z,hz,hr⟩:=hr;obtain⟨x',hx',hr⟩:=hr;obtain⟨rfl,_⟩:=hr;obtain⟨hd,hrow,hone⟩:=hv;obtain⟨he,htr,hnd⟩:=h.mem.rep r _ hn;have hi:i<xs.length:=(List.getElem?_eq_some_iff.1 hx).1
       rcases htr with ⟨_,rfl,_⟩|⟨b,off,cap,vs,F0,e1,e2,e3,e4,e5,e6,e7⟩
       · simp at hi
       · obtain⟨G1,Gi,G2,hF,hri,hset⟩:=e6.set2 hx;obtain⟨v1,H1,H,H2,k1,k2,rfl,k3,k4⟩:=Cs.slice_focus hri hys;have hjl:=Cs.slAt_lt k2
         have hv1:v1=v:=by
          rw[List.getElem?_take_of_lt hjl,List.getElem?_drop,e7 i j hi k2]at k1;rw[he]at hrow;rw[k1]at hrow;exact Option.some.inj hrow
         subst hv1;obtain⟨rows,hrows⟩:=Ck k3;have hHn:∀c∈H,c∈g.nest r:=λc hc=>by rw[e2,hF];simp[hc]
         have hF0:F0.Nodup/\b∉F0:=by have:=hnd;rw[e2]at this;exact⟨(nodup_cons.1 this).2,(nodup_cons.1 this).1⟩
         have hHnd:H.Nodup:=by
          have:=hF0.1;rw[hF]at this;have h1:=(nodup_append.1 (nodup_append.1 this).1).2.1
          exact (nodup_append.1 (nodup_append.1 h1).1).2.1
         have hsoft:∀c∈H,soft w c:=λc hc=>h.since.soft c (h.since.born r _ c hn rfl (hHn c hc));refine Calls.mono (hM.2 w v1 [v1] ys z.1 H [rows] n z.2 (.inl ⟨rfl,rfl⟩) ⟨v1,rfl,rows,rfl,hrows⟩ hHnd hsoft hz) λen' w' hpost=>?_;cases en' with
         | panicked _=>exact hpost.elim
         | outgrown=>exact hpost.elim
         | returned rv =>
          obtain⟨rfl,⟨H',⟨v2,hv2,rows',hrw',ht'⟩,hnd',hsub'⟩,hsf,hos,hout,htape,hsize,hmem⟩:=hpost;cases hv2;have hdis:∀c,c∈G1++(H1++H2)++G2->c∉H:=by
           intro c hc hcH;have:=hF0.1
           rw[hF]at this;have:=(nR.2 this) c
           have h1:=count_pos_iff.2 hcH;simp only[mem_append]at hc;simp only[pE]at this;rcases hc with (hc|hc|hc)|hc<;>(have h2:=count_pos_iff.2 hc;omega)
          have hltF:∀c∈F0,c<w.heap.size:=λc hc=>qh (h.mem.rep r _ hn) rfl (by rw[e2];simp[hc]);have hbl:b<w.heap.size:=qh (h.mem.rep r _ hn) rfl (by rw[e2];simp)
          have hbH:b∉H:=λhc=>hF0.2 (by rw[hF];simp[hc]);have hsame:∀c,c∈G1++(H1++H2)++G2->w'.heap[c]?=w.heap[c]?:=λc hc=>hmem c (hltF c (by
           rw[hF];simp only[mem_append]at hc ⊢;rcases hc with (hc|hc|hc)|hc<;>simp[hc])) (hdis c hc)
          have hx2:=k4 w' z.1 H' x' (λc hc=>hsame c (by simp only[mem_append]at hc ⊢;rcases hc with hc|hc<;>simp[hc])) ht'.slRep hx';have hL:=hset (Cs.Rep w' fc) x' (H1++H'++H2) (λy u G hG hy=>Cs.Rep.of_same (λc hc=>hsame c (by have:=hG c hc;simp only[mem_append]at this ⊢;rcases this with h|h<;>simp[h])) hy) hx2
          have hcnt:(G1++(H1++H'++H2)++G2).Nodup:=by
           rw[←nR];intro c;have h0:=(nR.2 hF0.1) c
           rw[hF]at h0;have h1:=(nR.2 hnd') c
           simp only[pE]at h0 ⊢;by_cases hc:c∈H'
           · rcases hsub' c hc with hcH|hcl
             · have:=count_pos_iff.2 hcH;omega
             · have hz:∀l:List Nat,(∀d∈l,d∈F0)->l.count c=0:=λl hl=>List.count_eq_zero.2 λhm=>by have:=hltF c (hl c hm);omega
               rw[hz G1 (λd hd=>by rw[hF];simp[hd]),hz H1 (λd hd=>by rw[hF];simp[hd]),hz H2 (λd hd=>by rw[hF];simp[hd]),hz G2 (λd hd=>by rw[hF];simp[hd])];omega
           · rw[List.count_eq_zero.2 hc];omega
          have hmemF:∀c∈G1++(H1++H'++H2)++G2,c∈F0\/w.heap.size<=c:=by
           intro c hc;simp only[mem_append]at hc;rcases hc with (hc | (hc|hc)|hc)|hc
           · exact .inl (by rw[hF];simp[hc])
           · exact .inl (by rw[hF];simp[hc])
           · rcases hsub' c hc with h|h
             · exact .inl (by rw[hF];simp[h])
             · exact .inr h
           · exact .inl (by rw[hF];simp[hc])
           · exact .inl (by rw[hF];simp[hc])
          obtain⟨hM2,hle2⟩:=h.retree (w':=w') (ys:=xs.set i x') (F:=b::(G1++(H1++H'++H2)++G2)) hn hos hout htape hsize
           (λc hc hcn=>hmem c hc λhcH=>hcn (hHn c hcH))
           (λc hc=>by
            by_cases hcH:c∈H
            · exact hsf c (.inl hcH)
            · rcases hc with hc|hc
              · have hlt:=qh (h.mem.rep r _ hn) rfl hc;exact (h.since.soft c (h.since.born r _ c hn rfl hc)).of_same (hmem c hlt hcH)
              · exact hsf c (.inr hc))
           (.inr ⟨b,off,cap,vs,_,by simpa using e1,rfl,by simpa using e3,e4.of_same (hmem b hbl hbH),e5.of_same (hmem b hbl hbH),hL,by simpa using e7⟩)
           (nodup_cons.2 ⟨λhm=>(hmemF b hm).elim hF0.2 λh=>by omega,hcnt⟩)
           (λc hc=>by
            rcases mem_cons.1 hc with rfl|hc
            · exact .inl (by rw[e2];simp)
            · exact (hmemF c hc).imp (λh=>by rw[e2];simp[h]) id)
          exact⟨_,hM2,hle2,rfl⟩
     · exact hr.elim
   · exact hr.elim
 · rename_i v n _
   match vals,ha with
   | [u,u'],ha =>
   obtain⟨hv,hu,_⟩:=ha;have hu:u'=.int .i64 n:=hu
   subst hu;obtain⟨_,L1,L2,_,h0,hr⟩:=Rd.runs_bind hr;obtain⟨x,L3,L4,_,h1,hr⟩:=Rd.runs_bind hr;obtain⟨z,hz,hr⟩:=hr;obtain⟨_,L5,L6,_,h2,hr⟩:=Rd.runs_bind hr;obtain⟨rfl,_⟩:=hr;obtain⟨us,hag,hcs⟩:=z9 hv (Rd.runs_need h0).1;obtain⟨ns,k1,k2,k3,k4⟩:=Cs.hold_sound h.mem hcs h1;have hnd:ns.Nodup:=by rw[←k2 z.1];exact sO (Rd.runs_need h2).1
   have hw:=wg h.mem hnd k3;have hsoft:∀b∈ns.flatMap g.nest,soft w b:=λb hb=>by
    obtain⟨m,hm,hb⟩:=mem_flatMap.1 hb;obtain⟨e,ys,hf⟩:=k3 m hm;exact h.since.soft b (h.since.born m _ b hf rfl hb)
   refine Calls.mono (hM.2 w u us x z.1 _ _ n z.2 hag k1 hw hsoft hz) λen' w' hpost=>?_;cases en' with
   | panicked _=>exact hpost.elim
   | outgrown=>exact hpost.elim
   | returned rv =>
    obtain⟨rfl,⟨F',ht',hnd',hsub'⟩,hsf,hos,hout,htape,hsize,hmem⟩:=hpost;obtain⟨g',h3,l3⟩:=h.retrees (k2 z.1) hnd k3 k4 ht' hnd' hsub' hsf hos hout htape hsize hmem;exact⟨g',h3,l3,rfl⟩
 · exact hr.elim
theorem Cm {f:FuncId} {F:Fn} (hM:Bq P f F) (h:MS w0 T N en g w) {args:List AV} {vals:List Value} (ha:mQ (nc (dom en) g w) args vals) {e:nu} {L:List mF} (hr:(tT uid F args).Runs (mG en) e L) :
 Calls P f vals.toArray w fun
  | .returned v,w'=>∃g',MS w0 T N (e.ents++en) g' w'/\Le (dom en) g w (dom (e.ents++en)) g' w'/\nc (dom (e.ents++en)) g' w' e.val v
  | _,_=>False:=by
 unfold tT at hr;cases hk:(oo F.ps&&vv F.rs)with
 | false=>rw[hk]at hr;exact hr.elim
 | true =>
  rw[hk]at hr;simp only[aT]at hk;obtain⟨x,L1,L2,_,h1,hr⟩:=Rd.runs_bind hr;obtain⟨r,hden,hr⟩:=hr;obtain⟨rfl,hdist,hnew⟩:=p8 hr;have hdist:mP (nv (mN uid F.ps F.rs [] r).news)=true:=hdist
  rw[vN (pY _)]at hdist;obtain⟨c1,c2⟩:=y9 F.ps F.rs uid r hk.1 hk.2;refine Calls.mono (hM.2 w uid x vals r (y7 h.mem ha h1) hden hdist) λen' w' hpost=>?_;cases en' with
  | panicked _=>exact hpost.elim
  | outgrown=>exact hpost.elim
  | returned rv =>
   obtain⟨g',T',N',t1,t2,hM',hv⟩:=hpost;obtain⟨g'',k1,k2,k3⟩:=h.adopt hM' t1 t2 (λn e hn=>c2 (n,e) (nz hn)) (λn hn=>by
    have hm:n∈(nv (mN uid F.ps F.rs [] r).news).map (·.1):=by rw[pY];exact p9.2 hn
    obtain⟨p,hp,rfl⟩:=mem_map.1 hm;exact hnew p hp)
   have e0:nv (mN uid F.ps F.rs [] r).news++[]++en=nv (mN uid F.ps F.rs [] r).news++en:=by rw[append_nil]
   have hval:(match (mN uid F.ps F.rs [] r).vals with | [v]=>v|vs=>AV.tup vs)=rM (mN uid F.ps F.rs [] r).vals:=rfl;show ∃g',MS w0 T N (nv (mN uid F.ps F.rs [] r).news++[]++en) g' w'/\Le (dom en) g w (dom (nv (mN uid F.ps F.rs [] r).news++[]++en)) g' w'/\nc (dom (nv (mN uid F.ps F.rs [] r).news++[]++en)) g' w' _ rv
   rw[e0];refine⟨g'',k1,k2,?_⟩;show nc _ g'' w' (rM (mN uid F.ps F.rs [] r).vals) rv
   exact En (λn hn=>⟨pz (by
    rw[qF,pY];exact p9.2 hn),k3 n hn⟩) c1 hv
end Go.V
namespace Go.V
variable {P:Program} {w0:World} {T N:Nat->Prop} {g:Gh} {w:World} {en:List (mF×Entry)}

theorem Rd.bind_runs {α β:Type} {F:mF->Option Entry} {f:α->Rd β} {a:α} {b:β}:∀{x:Rd α} {L1 L2:List mF},x.Runs F a L1->(f a).Runs F b L2->(x.bind f).Runs F b (L1++L2)
 | .ret a',L1,L2,⟨h1,h2⟩,k=>by subst h1;subst h2;exact k
 | .fail,_,_,h,_=>h.elim
 | .get n g,L1,L2,⟨L',h1,h2⟩,k=>by subst h1;exact⟨L'++L2,rfl,Rd.bind_runs h2 k⟩
 | .opt o g,L1,L2,⟨b',h1,h2⟩,k=>⟨b',h1,Rd.bind_runs h2 k⟩
theorem MS.shutTrees (h:MS w0 T N en g w):∀{olds:List (mF×Entry)},(∀p∈olds,∃e xs,mG en p.1=some (.tree e xs)/\p.2=.fwd e xs)->mP olds=true ->
 ∃g',MS w0 T N (olds++en) g' w/\Le (dom en) g w (dom (olds++en)) g' w
 | [],_,_=>⟨g,h,Le.refl _ _ _⟩
 | (n,E)::olds,hu,hd=>by
  obtain⟨h1,h2⟩:=o0 hd;obtain⟨g1,hM,hle⟩:=h.shutTrees (olds:=olds) (λp hp=>hu p (mem_cons_of_mem _ hp)) h2;obtain⟨e,xs,hn,he⟩:=hu (n,E) mem_cons_self;obtain rfl:E=.fwd e xs:=he;obtain⟨g2,hM2,hle2,_⟩:=hM.shutTree (n:=n) ((ne h1).trans hn);exact⟨g2,hM2,hle.trans hle2⟩
theorem zd {olds:List (mF×Entry)} (hu:∀p∈olds,∃e xs,mG en p.1=some (.tree e xs)/\p.2=.fwd e xs) {c:CT} {x:Cell} {y:c.den} {L:List mF} (hc:∀r,x=.own r->r∈olds.map (·.1)) (hr:(c.lend x).Runs (mG en) y L) :
 (∃L',(c.into false true x).Runs (mG (olds++en)) (y,[]) L')/\∃L',(c.read x).Runs (mG (olds++en)) y L':=by
 have flat:c.isSl=false->(∃L',(c.read x).Runs (mG (olds++en)) y L')->(∃L',(c.into false true x).Runs (mG (olds++en)) (y,[]) L')/\∃L',(c.read x).Runs (mG (olds++en)) y L':=λhs h=>by
  refine⟨?_,h⟩;obtain⟨L',h⟩:=h;refine⟨L'++[],?_⟩;cases c with
  | sl e=>simp[CT.isSl]at hs
  | int=>exact Rd.bind_runs h ⟨rfl,rfl⟩
  | bool=>exact Rd.bind_runs h ⟨rfl,rfl⟩
  | str=>exact Rd.bind_runs h ⟨rfl,rfl⟩
  | err=>exact Rd.bind_runs h ⟨rfl,rfl⟩
 cases c with
 | sl e =>
  replace hr:(yN e x).Runs (mG en) y L:=hr;cases x<;>try exact hr.elim
  case sh f ys =>
   simp only[yN]at hr;split at hr
   · rename_i hfe hse;subst hfe;obtain⟨rfl,_⟩:=hr;refine⟨⟨[],?_⟩,[],?_⟩
     · show (tB _ (.sh _ _)).Runs _ _ _;simp only[tB];rw[hse];exact⟨rfl,rfl⟩
     · show (sc _ (.sh _ _)).Runs _ _ _;simp only[sc];rw[hse];exact⟨rfl,rfl⟩
   · exact hr.elim
  case nil =>
   obtain⟨rfl,_⟩:=hr;exact⟨⟨[],rfl,rfl⟩,[],rfl,rfl⟩
  case own r =>
   obtain⟨L',_,hr⟩:=hr;dsimp only at hr;split at hr
   · rename_i f ys hn;split at hr
     · rename_i hfe hse;subst hfe;obtain⟨rfl,_⟩:=hr;have hm:=hc r rfl
       obtain⟨E,hE,hEm⟩:∃E,mG (olds++en) r=some E/\(r,E)∈olds:=by
        rw[pw hm];cases hf:mG olds r with
        | none=>exact absurd hf (p9.1 hm)
        | some E=>exact⟨E,rfl,nz hf⟩
       obtain⟨e',xs',k1,k2⟩:=hu _ hEm;have k2:E=.fwd e' xs':=k2
       have k1:mG en r=some (.tree e' xs'):=k1;rw[hn]at k1;cases k1;subst k2;refine⟨⟨[r],?_⟩,[r],?_⟩
       · show (tB _ (.own r)).Runs _ _ _;refine⟨[],rfl,?_⟩;rw[hE];simp only;rw[hse];exact⟨rfl,rfl⟩
       · show (sc _ (.own r)).Runs _ _ _;refine⟨[],rfl,?_⟩;rw[hE];simp only;rw[hse];exact⟨rfl,rfl⟩
     · exact hr.elim
   · exact hr.elim
 | int k =>
  refine flat rfl ⟨[],?_⟩;cases x<;>try exact hr.elim
  rename_i j n;replace hr:(CT.read (.int k) (.int j n)).Runs (mG en) y L:=hr;simp only[CT.read]at hr ⊢;cases hk:Nat.beq (nK j) (nK k)with
  | false=>rw[hk]at hr;exact hr.elim
  | true=>rw[hk]at hr;obtain⟨rfl,_⟩:=hr;exact⟨rfl,rfl⟩
 | bool =>
  refine flat rfl ⟨[], ?_⟩;cases x<;>try exact hr.elim
  obtain⟨rfl,_⟩:=hr;exact⟨rfl,rfl⟩
 | str =>
  refine flat rfl ⟨[], ?_⟩;cases x<;>try exact hr.elim
  obtain⟨rfl,_⟩:=hr;exact⟨rfl,rfl⟩
 | err =>
  refine flat rfl ⟨[], ?_⟩;cases x<;>try exact hr.elim
  obtain⟨rfl,_⟩:=hr;exact⟨rfl,rfl⟩
theorem ya {olds:List (mF×Entry)} (hu:∀p∈olds,∃e xs,mG en p.1=some (.tree e xs)/\p.2=.fwd e xs):∀{c:Cs} {xs:List Cell} {y:c.den} {L:List mF},(∀r,Cell.own r∈xs->r∈olds.map (·.1))->(c.lend xs).Runs (mG en) y L ->
 (∃L',(c.into false true xs).Runs (mG (olds++en)) (y,[]) L')/\∃L',(c.read xs).Runs (mG (olds++en)) y L'
 | .one c,[x],y,L,hc,hr=>zd hu (λr hx=>hc r (by rw[hx];simp)) hr
 | .cons c r,x::xs,y,L,hc,hr=>by
  simp only[Cs.lend]at hr;obtain⟨a,L1,L2,_,h1,hr⟩:=Rd.runs_bind hr;obtain⟨b,L3,L4,_,h2,hr⟩:=Rd.runs_bind hr;obtain⟨rfl,_⟩:=hr;obtain⟨⟨M1,k1⟩,M2,k2⟩:=zd hu (λr hx=>hc r (by rw[hx];simp)) h1;obtain⟨⟨M3,k3⟩,M4,k4⟩:=ya hu (c:=r) (λr hx=>hc r (mem_cons_of_mem _ hx)) h2;exact⟨⟨_,Rd.bind_runs k1 (Rd.bind_runs k3 ⟨rfl,rfl⟩)⟩,_,Rd.bind_runs k2 (Rd.bind_runs k4 ⟨rfl,rfl⟩)⟩
 | .one _,[],_,_,_,hr=>hr.elim
 | .one _,_::_::_,_,_,_,hr=>hr.elim
 | .cons _ _,[],_,_,_,hr=>hr.elim
theorem ze {olds:List (mF×Entry)} (hu:∀p∈olds,∃e xs,mG en p.1=some (.tree e xs)/\p.2=.fwd e xs) (sl:Bool):∀{ps:List nB} {args:List AV} {x:mI (mY ps)} {L:List mF},(∀r,Cell.own r∈args.flatMap AV.cells->r∈olds.map (·.1))->(w7 ps args).Runs (mG en) x L ->
 ∃b L',(nT sl ps args).Runs (mG (olds++en)) b L'/\b.args=x/\b.used=[]/\b.ptrs=[]
 | [],[],x,L,_,hr=>⟨_,_,⟨rfl,rfl⟩,rfl,rfl,rfl⟩
 | .val agg c false::ps,v::args,x,L,hc,hr=>by
  simp only[w7]at hr;obtain⟨u,L5,L6,_,h0,hr⟩:=Rd.runs_bind hr;obtain⟨y,L1,L2,_,h1,hr⟩:=Rd.runs_bind hr;obtain⟨z,L3,L4,_,h2,hr⟩:=Rd.runs_bind hr;obtain⟨rfl,_⟩:=hr;obtain⟨⟨M1,k1⟩,M2,k2⟩:=ya hu (c:=c) (xs:=v.cells) (λr hx=>hc r (by rw[List.flatMap_cons];exact mem_append_left _ hx)) h1;obtain⟨b,M3,k3,e1,e2,e3⟩:=ze hu sl (ps:=ps) (args:=args) (λr hx=>hc r (by rw[List.flatMap_cons];exact mem_append_right _ hx)) h2;have hok:=(Rd.runs_need h0).1
  have hn:(Rd.need (qM agg v)).Runs (mG (olds++en)) () []:=by rw[hok];exact⟨rfl,rfl⟩
  cases sl with
  | true=>exact⟨_,_,Rd.bind_runs hn (Rd.bind_runs k1 (Rd.bind_runs k3 ⟨rfl,rfl⟩)),by rw[e1],by rw[e2];rfl,e3⟩
  | false=>exact⟨_,_,Rd.bind_runs hn (Rd.bind_runs (Rd.bind_runs k2 ⟨rfl,rfl⟩) (Rd.bind_runs k3 ⟨rfl,rfl⟩)),by rw[e1],by rw[e2];rfl,e3⟩
 | [],_::_,_,_,_,hr=>hr.elim
 | .val _ _ false::_,[],_,_,_,hr=>hr.elim
 | .val _ _ true::_,_,_,_,_,hr=>by cases ‹List AV› <;> exact hr.elim
 | .ptr _ _::_,_,_,_,_,hr=>by cases ‹List AV› <;> exact hr.elim
theorem Cn {f:FuncId} {F:Fn} (hM:tK P f F) (h:MS w0 T N en g w) {args:List AV} {vals:List Value} (ha:mQ (nc (dom en) g w) args vals) {uid:mF} {e:nu} {L:List mF} (hr:(tU uid F args).Runs (mG en) e L) :
 Calls P f vals.toArray w fun
  | .returned v,w'=>∃g',MS w0 T N (e.ents++en) g' w'/\Le (dom en) g w (dom (e.ents++en)) g' w'/\nc (dom (e.ents++en)) g' w' e.val v
  | _,_=>False:=by
 unfold tU at hr;cases hk:(oo F.ps&&He F.rs)with
 | false=>rw[hk]at hr;exact hr.elim
 | true =>
  rw[hk]at hr;obtain⟨x,L1,L2,_,h1,hr⟩:=Rd.runs_bind hr;obtain⟨olds,L3,L4,_,h2,hr⟩:=Rd.runs_bind hr;obtain⟨_,L5,L6,_,h3,hr⟩:=Rd.runs_bind hr;obtain⟨r,hden,hr⟩:=hr;obtain⟨rfl,hdist,hnew⟩:=p8 hr;have hdo:=(Rd.runs_need h3).1
  obtain⟨hu,hc⟩:=tJ h2;obtain⟨g1,hM1,hle1⟩:=h.shutTrees hu hdo;obtain⟨b,M1,k1,e1,e2,e3⟩:=ze hu (pG F.ps F.rs) hc h1;have hro:∀n∈b.ro,mG b.used n=none:=λn _=>by rw[e2];rfl
  have hnew':∀p∈(mN uid F.ps F.rs b.ptrs r).news,mG (olds++en) p.1=none:=by
   rw[e3];intro p hp;have hp0:=hnew p hp
   rw[ne]
   · exact hp0
   · intro hm;obtain⟨q,hq,he⟩:=mem_map.1 hm;obtain⟨f,ys,hf,_⟩:=hu q hq;rw[he,hp0]at hf;cases hf
  have key:=hM.2 w0 T N (olds++en) g1 w uid args vals b M1 r hM1 (mQ.imp (λ_ _=>nc.mono hle1) ha) k1 (by
   rw[e2];simp[mP,mG]) (by rw[e1];exact hden) (by rw[e3];exact hdist) hnew'
  refine key.mono λen' w' hpost=>?_;cases en' with
  | panicked _=>exact hpost.elim
  | outgrown=>exact hpost.elim
  | returned rv =>
   obtain⟨g',k4,k5,k6⟩:=hpost;rw[e3,e2,wO]at k4 k5 k6;simp only[append_nil]at k4 k5 k6;have e0:(mN uid F.ps F.rs [] r).news++olds++en=(mN uid F.ps F.rs [] r).news++(olds++en):=append_assoc _ _ _
   show ∃g',MS w0 T N ((mN uid F.ps F.rs [] r).news++olds++en) g' w'/\Le (dom en) g w (dom ((mN uid F.ps F.rs [] r).news++olds++en)) g' w'/\nc (dom ((mN uid F.ps F.rs [] r).news++olds++en)) g' w' _ rv;rw[e0];exact⟨g',k4,hle1.trans k5,k6⟩
end Go.V
namespace Go.V
variable {P:Program} {w0:World} {T N:Nat->Prop} {S:St} {g:Gh} {w w':World} {a:Act} {o:Oper} {G:o9} {uid rid:Nat} {en:List (mF×Entry)} {Q:Exit->Act->World->Prop}

theorem xd {f : FuncId} {fn : Func} {c : Code} (hf : P.funcs[f]?=some fn) (hn : (fn.name == "runtime.NumGoroutine")=false) (hb : fn.body=some c) (args : Array Value) : (callFunc f args).run P w=.ok (.enter f args) w := by
 simp only[callFunc,Sem.run_bind,run_program,Result.andThen,hf,hn];simp[hb]
theorem ua (h:nk w0 T N S g w a):∀(xs:List Operand),mQ (nc (dom S.en) g w) (xs.map S.eval) (xs.map a.eval)
 | []=>trivial
 | x::xs=>⟨nx h x,ua h xs⟩
theorem GA (h:nk w0 T N S g w a) (hG:p5 P G) {f:Operand} {args:Array Operand} {c:Call} (hc:c.callee=.value f) (hargs:c.args=args) (ho:o.op=.call c) {e:nu} {L:List mF}
 (hr:(match S.eval f with
  | .cell (.fn g caps)=>(match mG G.fns g with
   | some F=>cond G.trees (match caps with | []=>tV uid F (args.toList.map S.eval)|_=>.fail) (vu uid F (args.toList.map S.eval++caps.map λn=>AV.cell (.box n 0)))
   | none=>match mG G.marks g,caps with|some M,[]=>tP M (args.toList.map S.eval)|_,_=>.fail)
  | _=>.fail:Rd nu).Runs (mG S.en) e L) (hd:∀d,o.dst=some d->d<a.tmps.size) {K:Act->World->Prop}
 (hK:∀v w' g',nk w0 T N (S.put o.dst e) g' w' (a.put o.dst v)->Le (dom S.en) g w (dom (e.ents++S.en)) g' w'->K (a.put o.dst v) w'):o.wp P a w K Q:=by
 split at hr
 · rename_i fid caps e1;have hfv:=s5 h e1
   obtain⟨cvs,hfv,hcaps⟩:=hfv;have plain : ∀{fn : Func} {cd : Code}, P.funcs[fid]?=some fn->(fn.name == "runtime.NumGoroutine")=false->fn.body=some cd->caps=[] ->
    (Calls P fid (args.toList.map a.eval).toArray w fun
     | .returned v,w'=>∃g',MS w0 T N (e.ents++S.en) g' w'/\Le (dom S.en) g w (dom (e.ents++S.en)) g' w'/\nc (dom (e.ents++S.en)) g' w' e.val v
     | _,_=>False)->o.wp P a w K Q:=by
    intro fn cd hf hn hb hcaps0 hcalls;subst hcaps0;have hcv:cvs.toList=[]:=by
     cases hq:cvs.toList with
     | nil=>rfl
     | cons u l=>rw[hq]at hcaps;exact hcaps.elim
    unfold Oper.wp;have hrun:(execOp a.eval o).run P w=.ok (.enter fid (args.toList.map a.eval).toArray) w:=by
     simp only[execOp,ho,resolve,hc,hargs,hfv,Deferred.ofValue,Sem.run_bind,Sem.run_pure,Result.andThen,invoke];rw[xd hf hn hb]
     congr 2
     apply Array.ext';simp[hcv]
    rw[hrun,Oper.upon_enter];refine Calls.mono hcalls λen' w' he=>?_;cases en' with
    | returned v =>
     obtain⟨g',hM,hle,hv⟩:=he;exact hK v w' g' (h.put hM hle hv hd) hle
    | panicked _=>exact he.elim
    | outgrown=>exact he.elim
   split at hr
   · rename_i F hF;cases ht:G.trees with
     | true =>
      rw[ht]at hr;simp only[cT]at hr;split at hr
      · unfold tV at hr;cases hk:(oo F.ps&&vv F.rs)with
        | true =>
         rw[hk]at hr;simp only[aT]at hk;have hmt:=hG.tfns ht fid F hF hk.1 hk.2
         obtain⟨fn,cd,hf,hn,hb⟩:=hmt.1;exact plain hf hn hb rfl (Cm hmt h.ms (ua h args.toList) hr)
        | false =>
         rw[hk]at hr;have hmt:=hG.fns fid F hF
         obtain⟨fn,cd,hf,hn,hb⟩:=hmt.1;exact plain hf hn hb rfl (Cn hmt h.ms (ua h args.toList) hr)
      · exact hr.elim
     | false =>
     rw[ht]at hr;simp only[cF]at hr;obtain⟨⟨fn,cd,hf,hn,hb⟩,hmeets⟩:=hG.fns fid F hF;unfold vu at hr;obtain⟨b,L1,L2,_,h1,hr⟩:=Rd.runs_bind hr;obtain⟨_,L3,L4,_,h2,hr⟩:=Rd.runs_bind hr;obtain⟨r,hden,hr⟩:=hr;obtain⟨rfl,hdist,hnew⟩:=p8 hr;have hcs:mQ (nc (dom S.en) g w) (caps.map λn=>AV.cell (.box n 0)) cvs.toList:=by
      have key:∀(l:List mF) (m:List Value),mQ (λn u=>dom S.en n/\(∃b,g.loc n=.pointer (some ⟨b,0,none⟩))/\u=g.loc n) l m->mQ (nc (dom S.en) g w) (l.map λn=>AV.cell (.box n 0)) m:=by
       intro l
       induction l with
       | nil=>intro m h;cases m with
        | nil=>trivial
        | cons _ _=>exact h.elim
       | cons n l ih=>intro m h;cases m with
        | nil=>exact h.elim
        | cons u m =>
         obtain⟨⟨hdn,⟨b,hb⟩,hu⟩,h'⟩:=h;exact⟨⟨hdn,b,hb,hu.trans hb⟩,ih m h'⟩
      exact key caps _ hcaps
     have hcalls:=hmeets w0 T N S.en g w uid _ _ b L1 r h.ms ((ua h args.toList).append hcs) h1 (Rd.runs_need h2).1 hden hdist hnew;unfold Oper.wp;have hrun:(execOp a.eval o).run P w=.ok (.enter fid (args.toList.map a.eval++cvs.toList).toArray) w:=by
      simp only[execOp,ho,resolve,hc,hargs,hfv,Deferred.ofValue,Sem.run_bind,Sem.run_pure,Result.andThen,invoke];rw[xd hf hn hb]
      congr 2
      apply Array.ext';simp
     rw[hrun,Oper.upon_enter];refine Calls.mono hcalls λen' w' he=>?_;cases en' with
     | returned v =>
      obtain⟨g',hM,hle,hv⟩:=he;exact hK v w' g' (h.put hM hle hv hd) hle
     | panicked _=>exact he.elim
     | outgrown=>exact he.elim
   · split at hr
     · rename_i M hM;have hmk:=hG.marks fid M hM
       obtain⟨fn,cd,hf,hn,hb⟩:=hmk.1;exact plain hf hn hb rfl (Cl hmk h.ms (ua h args.toList) hr)
     · exact hr.elim
 · exact hr.elim
end Go.V
namespace Go.V
variable {P:Program} {w0:World} {T N:Nat->Prop} {S:St} {g:Gh} {w w':World} {a:Act} {o:Oper} {G:o9} {uid rid:Nat} {en:List (mF×Entry)} {Q:Exit->Act->World->Prop}

theorem Hp (h:nk w0 T N S g w a) (hG:p5 P G) {op:Op} (ho:o.op=op) (hp:∀c x y,op≠.pick c x y) {e:nu} {L:List mF} (hr:(pc G uid S.eval op).Runs (mG S.en) e L) (hd:∀d,o.dst=some d->d<a.tmps.size) {K:Act->World->Prop}
 (hK:∀v w' g',nk w0 T N (S.put o.dst e) g' w' (a.put o.dst v)->Le (dom S.en) g w (dom (e.ents++S.en)) g' w'->K (a.put o.dst v) w'):o.wp P a w K Q:=by
 have fin:nd P w0 T N S g w a o e->o.wp P a w K Q:=λhf=>CH h hf hd hK;have hr0:=hr
 unfold pc at hr;split at hr
 case h_1=>obtain⟨rfl,_⟩:=hr;exact fin (Cz h (.inl ho))
 case h_2=>obtain⟨rfl,_⟩:=hr;exact fin (Cz h (.inr ho))
 case h_3=>exact absurd rfl (hp _ _ _)
 case h_4=>exact fin (Fb h hG.tis ho hr0)
 case h_5=>exact fin (Hk h hG.tis ho hr0)
 case h_6=>exact fin (Fc h hG.tis ho hr0)
 case h_7=>exact fin (AF h hG.tis ho hr0)
 case h_8=>exact fin (Gv h hG.tis ho hr0)
 case h_9=>exact fin (Fa h hG.tis ho hr0)
 case h_10=>exact fin (C4 h ho hr0)
 case h_11 =>
  replace hr:=np hr;obtain⟨i,hi,hr⟩:=hr;exact fin (Hi h hG.tis ho hi (λxs ys hx hy e L hr=>Hm h hG.tis hG.eqs ho hi hx hy hr) hr)
 case h_12=>exact fin (Hg h ho hr0)
 case h_13=>exact fin (Hh h ho hr0)
 case h_14=>exact fin (Dl h hG.tis ho hr0)
 case h_15=>exact fin (B8 h hG.tis ho hr0)
 case h_16=>exact fin (EY h hG.tis ho hr0)
 case h_17=>exact fin (B3 h hG.tis ho hr0)
 case h_18=>exact fin (B4 h hG.tis ho hr0)
 case h_19=>exact fin (EX h hG.tis ho hr0)
 case h_20=>exact fin (D5 h ho hr0)
 case h_21=>exact fin (C5 h ho hr0)
 case h_22 x t =>
  replace hr:=np hr;obtain⟨i,hi,hr⟩:=hr;cases hk:yL i (S.eval x)with
  | false=>rw[hk]at hr;exact hr.elim
  | true=>rw[hk]at hr;exact fin (Hj h ho hG.tis hi hk hr)
 case h_23=>exact fin (E9 h hG.tis ho hr0)
 case h_24=>exact fin (Ab h .min (.inl rfl) ho hr)
 case h_25=>exact fin (Ab h .max (.inr rfl) ho hr)
 case h_26=>exact GA h hG rfl rfl ho hr hd hK
 all_goals exact hr.elim
end Go.V
namespace Go.V
variable {P:Program} {w0:World} {T N:Nat->Prop} {S:St} {g:Gh} {w w':World} {a:Act} {o:Oper} {G:o9} {uid rid:Nat} {en:List (mF×Entry)} {Q:Exit->Act->World->Prop} {ops:Array Oper}

theorem Fp (h:nk w0 T N S g w a) (hG:p5 P G) {e:nu} {L:List mF} (hr:(sU G uid S.eval o.op).Runs (mG S.en) e L) (hd:∀d,o.dst=some d->d<a.tmps.size) {K:Act->World->Prop}
 (hK:∀v w' g',nk w0 T N (S.put o.dst e) g' w' (a.put o.dst v)->Le (dom S.en) g w (dom (e.ents++S.en)) g' w'->K (a.put o.dst v) w'):o.wp P a w K Q:=by
 by_cases hp:∃c x y,o.op=.pick c x y
 · obtain⟨c,x,y,hp⟩:=hp;rw[hp]at hr;exact CH h (Gt h hp hr) hd hK
 · rw[Bj λc x y he=>hp ⟨c,x,y,he⟩]at hr;exact Hp h hG rfl (λc x y he=>hp ⟨c,x,y,he⟩) hr hd hK
theorem xe (h:nk w0 T N S g w a) {j:Nat} {t:Tmp} {b:Bool} (hj:qd ops.toList j=some t) (ht:S.tmp t=.cell (.bool b)):yielded ops a.tmps j=some b:=by
 have hv:=h.tmps t;rw[ht]at hv;have hv:a.tmps.getD t undef=.bool b:=hv
 unfold qd at hj;unfold yielded;cases ho:ops[j]? with
 | none=>simp[ho]at hj
 | some p =>
  simp[ho]at hj;simp only[Option.bind_some,hj];have:a.tmps[t]?=some (.bool b):=by
   unfold Array.getD at hv;split at hv
   · rename_i hlt;rw[Array.getElem?_eq_getElem hlt];exact congrArg some hv
   · cases hv
  rw[this]
theorem Bs (h:nk w0 T N S g w a) {j:Nat} {t:Tmp} (hj:qd ops.toList j=some t) (ht:S.tmp t=.cell .void):yielded ops a.tmps j=none:=by
 have hv:=h.tmps t;rw[ht]at hv;have hv:a.tmps.getD t undef=undef:=hv
 unfold qd at hj;unfold yielded;cases ho:ops[j]? with
 | none=>simp
 | some p =>
  simp[ho]at hj;simp only[Option.bind_some,hj];cases hq:a.tmps[t]? with
  | none=>rfl
  | some v =>
   have:v=undef:=by
    have hlt:=(Array.getElem?_eq_some_iff.1 hq).1;have he:=(Array.getElem?_eq_some_iff.1 hq).2
    rw[←he];simpa[Array.getD,hlt]using hv
   rw[this];rfl
theorem GB (h:nk w0 T N S g w a) (hG:p5 P G) {i:Nat} {r:rI} (hs:rf G rid ops.toList S i o r) (hi:ops.toList[i]?=some o) (hd:∀d,o.dst=some d->d<a.tmps.size) {K:Act->World->Prop}
 (hK:∀v w' g',nk w0 T N (S.act o r) g' w' (a.put o.dst v)->Le (dom S.en) g w (dom (S.act o r).en) g' w'->K (a.put o.dst v) w'):wpOp P ops Q i K a w:=by
 have hi':ops[i]?=some o:=by simpa using hi
 unfold wpOp;simp only[hi'];cases r with
 | none =>
  obtain⟨j,want,t,hg,hj,ht⟩:=hs;have hw:Region.wanted o (yielded ops a.tmps)=false:=by
   simp only[Region.wanted,hg];rcases ht with ht|ht
   · rw[xe h hj ht];cases want<;>rfl
   · rw[Bs h hj ht];rfl
  rw[hw];simp only[Bool.false_eq_true,if_false];exact hK undef w g (h.put (e:=⟨.cell .void,[]⟩) h.ms (Le.refl _ _ _) rfl hd) (Le.refl _ _ _)
 | some r =>
  obtain⟨e,L⟩:=r;obtain⟨hwn,hr⟩:=hs;have hw:Region.wanted o (yielded ops a.tmps)=true:=by
   unfold Region.wanted;cases hg:o.guard with
   | none=>rfl
   | some q =>
    obtain⟨j,want⟩:=q;obtain⟨t,hj,ht⟩:=hwn j want hg;simp only[xe h hj ht];cases want<;>rfl
  rw[hw];simp only[if_true];exact .inl (Fp h hG hr hd hK)
end Go.V
namespace Go.V
variable {P:Program} {w0:World} {T N:Nat->Prop} {S S':St} {g:Gh} {w w':World} {a:Act} {G:o9} {rid:Nat} {Q:Exit->Act->World->Prop} {ops:Array Oper} {B:List Nat}

theorem ri:∀{l:List Oper} {i:Nat} {p:Nat×Oper},p∈oH i l->i<=p.1/\l[p.1-i]?=some p.2
 | [],i,p,h=>by simp[oH]at h
 | o::l,i,p,h=>by
  rw[oH]at h;rcases mem_cons.1 h with rfl|h
  · exact⟨Nat.le_refl _,by simp⟩
  · obtain⟨h1,h2⟩:=ri h;refine⟨by omega,?_⟩;rw[show p.1-i=(p.1-(i+1))+1 by omega];simpa using h2
theorem ub:∀(l:List Oper) (i:Nat),(oH i l).map (·.1)=List.range' i l.length
 | [],i=>rfl
 | o::l,i=>by rw[oH,List.map_cons,ub l (i+1)];rfl
theorem uc:∀(l:List Oper) (i:Nat),(oH i l).Pairwise λp q=>p.1<q.1
 | [],i=>List.Pairwise.nil
 | o::l,i=>by
  rw[oH];exact pairwise_cons.2 ⟨λq hq=>by have:=(ri hq).1;show i<q.1;omega,uc l (i+1)⟩
theorem wR:∀{l:List (Nat×Oper)},w9 ops B l=true->l.Pairwise λp q=>oW (oz B q.1) p.1=true\/Oper.apart ops p.2 q.2=true
 | [],h=>List.Pairwise.nil
 | (i,x)::l,h=>by
  simp only[w9,aT]at h;refine pairwise_cons.2 ⟨λq hq=>?_,wR h.2⟩;simpa using all_eq_true.1 h.1 q hq
def At (w0:World) (T N:Nat->Prop) (nt:Nat) (D0:mF->Prop) (g0:Gh) (w1:World) (S:St) (a:Act) (w:World):Prop :=
 ∃g,nk w0 T N S g w a/\nt<=a.tmps.size/\Le D0 g0 w1 (dom S.en) g w
theorem nk.same (h:nk w0 T N S g w a) (hs:pg S S'):nk w0 T N S' g w a:=by
 have hM:=h.ms.congr hs.en;refine⟨hM.mem,hM.since,λt=>?_,h.plain⟩;rw[←hs.tm t,←pD hs.en];exact h.tmps t
theorem Fq (a:Act) (d:Option Tmp) (v:Value):(a.put d v).tmps.size=a.tmps.size:=by
 unfold Act.put;cases d<;>simp
theorem At.sound (hG:p5 P G) {nt:Nat} (hb:∀(i:Nat) o,ops.toList[i]?=some o->∀d,o.dst=some d->d<nt) {D0:mF->Prop} {g0:Gh} {w1:World}:Dt P G rid ops Q (At w0 T N nt D0 g0 w1):=by
 refine⟨λS S' a w hs ⟨g,h1,h2,h3⟩=>⟨g,h1.same hs,h2,by rw[←pD hs.en];exact h3⟩,λS i o r a w K hst hi ⟨g,h1,h2,h3⟩ hK=>?_⟩;exact GB h1 hG hst hi (λd hd=>Nat.lt_of_lt_of_le (hb i o hi d hd) h2) λv w' g' hI hle=>hK _ _ ⟨g',hI,by rw[Fq];exact h2,h3.trans hle⟩
theorem rf.closed {i:Nat} {o:Oper} {r:rI} {l:List Oper} (h:nE S) (hs:rf G rid l S i o r):nE (S.act o r):=by
 cases r with
 | none=>exact h.put _ (mW.pure (x:=.cell .void) (mX rfl))
 | some r=>exact h.put _ (Bk (λx=>h.eval x) h.box hs.2)
theorem nE.same (h:nE S) (hs:pg S S'):nE S':=by
 have hd:=pD hs.en;refine⟨λt=>by rw[←hs.tm t,←hd];exact h.tmp t,λn cs hn c hc=>?_⟩;rw[←hd];exact h.box n cs ((hs.en n).trans hn) c hc
theorem Tr.closed {l:List Oper}:∀{E:List Ev} {S S':St},nE S->Tr G rid l E S S'->nE S'
 | [],S,S',h,k=>h.same k
 | (i,o,r)::E,S,S',h,⟨k1,k2⟩=>Tr.closed (k1.closed h) k2
theorem Tr.dom {l:List Oper}:∀{E:List Ev} {S S':St},Tr G rid l E S S'->∀n,dom S.en n->dom S'.en n
 | [],S,S',k,n,hn=>by rw[←pD (show pg S S' from k).en];exact hn
 | (i,o,r)::E,S,S',⟨k1,k2⟩,n,hn=>by
  refine Tr.dom k2 n ?_;cases r with
  | none=>exact hn
  | some r=>exact pd _ _ n hn
theorem yb {l:List Oper} {o:Oper} {t:Tmp} (h:t∉o.looksAt l.toArray):¬uB l o t:=λk=>h (Bl k)
theorem At.drop {nt:Nat} {D0:mF->Prop} {g0:Gh} {w1:World} {Z:List Tmp} {FN:List mF} {S1:St} (h:At w0 T N nt D0 g0 w1 S1 a w) (hs:wP Z FN S S1) (hc:nE S) (hd:∀n,D0 n->Go.V.dom S.en n):At w0 T N nt D0 g0 w1 S a w:=by
 obtain⟨g,h1,h2,h3⟩:=h;exact⟨g,h1.drop hs hc,h2,⟨hd,h3.loc,h3.esz,h3.imm,h3.mem,h3.rows⟩⟩

structure rN (S S':St):Prop where
 en:∃nw,S'.en=nw++S.en
 tm:∃nt,S'.tm=nt++S.tm
theorem Eo {A:Type} (hG:p5 P G) (hm:P.follows .mixedOrders=true) {nt:Nat} {draw:Bool} (hb:qe nt (.region rid ops draw)=true) (h:nk w0 T N S g w a) (hn:nt<=a.tmps.size) (hc:nE S) {ann:List (Nat×mO)} {K:tD A} {r:A}
 (hr:qg G ann (.region rid ops draw) S K=some r)
 (hQ:∀S' a' w',nE S'->rN S S'->At w0 T N nt (dom S.en) g w S' a' w'->K.n S'=some r->Q .normal a' w'):(Code.region rid ops draw).wp P Q a w:=by
 have hbel:∀(i:Nat) o,ops.toList[i]?=some o->∀d,o.dst=some d->d<nt:=by
  intro i o ho d hd;have:=all_eq_true.1 hb o (List.mem_of_getElem? ho)
  rw[hd]at this;exact Nat.lt_of_lt_of_le (Nat.lt_succ_self d) (Nat.le_of_ble_eq_true this)
 have hs:=At.sound (rid:=rid) (w0:=w0) (T:=T) (N:=N) (Q:=Q) (D0:=dom S.en) (g0:=g) (w1:=w) hG hbel;have hhere:∀{E:List Ev},E.map (λp=>(p.1,p.2.1))=oH 0 ops.toList->∀p∈E,ops.toList[p.1]?=some p.2.1:=by
  intro E hE p hp;have:=ri (qX hE hp)
  simpa using this.2
 have hfst:∀{E:List Ev},E.map (λp=>(p.1,p.2.1))=oH 0 ops.toList->E.map (·.1)=List.range ops.size:=by
  intro E hE;rw[show E.map (·.1)=(E.map (λp=>(p.1,p.2.1))).map (·.1) by rw[List.map_map];rfl,hE,ub,←List.range_eq_range'];rfl
 rw[qg]at hr;cases hcase:(draw||ops.toList.any Cx)with
 | false =>
  rw[hcase]at hr;simp only[cF]at hr;simp only[Bool.or_eq_false_iff]at hcase;obtain⟨E,S',h1,h2,h3,h4,h5⟩:=z8 hr;rw[hcase.1];refine wp_region ?_;rw[←hfst h2];exact vi hs h1 (hhere h2) ⟨g,h,hn,Le.refl _ _ _⟩ λa' w' hR=>hQ S' a' w' (Tr.closed hc h1) ⟨h4,h5⟩ hR h3
 | true =>
  rw[hcase]at hr;simp only[cT]at hr;cases hck:(Nat.blt ops.toList.length 256&&(tW 0 (cond draw (rJ ops.toList []) (yR ops.toList.length))&&cond draw (AY ops (rJ ops.toList [])) true))with
  | false=>rw[hck]at hr;cases hr
  | true =>
   rw[hck]at hr;simp only[aT,cT]at hck hr;obtain⟨c1,c2,c3⟩:=hck;have hB:vh ops.toList (cond draw (rJ ops.toList []) (yR ops.toList.length)):=vh.of (Nat.lt_of_lt_of_le (Nat.lt_succ_self _) (Nat.le_of_ble_eq_true c1)) c2
   have hin:wQ rid ops.toList (cond draw (rJ ops.toList []) (yR ops.toList.length)) [] (oH 0 ops.toList) S S [] [] [] [] :=
    ⟨⟨λt=>.inl rfl,λn _=>rfl,λn hn=>by simp at hn⟩,λt c ht=>by simp[mG]at ht,λp hp=>by simp at hp,λn hn=>by simp at hn,
     λp hp=>by simpa using (ri hp).2,λp hp t ht=>by simp at ht,λp hp=>by simp at hp,uc _ _,hc⟩
   obtain⟨E,S1',S',acc',Z',FN',nw,k1,k2,k3,⟨k4,k4'⟩,k5,k6,k7,k8,k9,k10,k11,k12⟩:=(Bp hB _ _ _ _ _ _ _ _ _ _ _ _ hr hin).out;have hend:∀a' w',At w0 T N nt (dom S.en) g w S1' a' w'->Q .normal a' w':=λa' w' hR =>
    hQ S' a' w' k4' ⟨⟨nw,k11.1⟩,k11.2⟩ (hR.drop k4 k4' λn hn=>by rw[k11.1];exact pd _ _ n hn) k1
   cases draw with
   | false =>
    refine wp_region ?_;rw[←hfst k3];exact vi hs k2 (hhere k3) ⟨g,h,hn,Le.refl _ _ _⟩ hend
   | true =>
    simp only[cT]at c3 hB k8;simp only[AY,aT]at c3;obtain⟨⟨d1,d2⟩,d3⟩:=c3;refine wp_region_any hm ?_;obtain⟨hM,hle⟩:=h.ms.drew;have hI:nk w0 T N S g w.drew a:=⟨hM.mem,hM.since,λt=>nc.mono hle (h.tmps t),h.plain⟩
    have hlen:E.length=ops.size:=by
     have:=congrArg List.length (hfst k3);simpa using this
    refine Em hs (B:=rJ ops.toList []) ⟨λi o ho b hb'=>?_,λi o ho e he heb=>?_⟩ hlen k2 ⟨by simp,hhere k3,λi hi=>?_,?_,?_,λi hi hl=>?_⟩ ⟨g,hI,hn,hle⟩ hend
    · exact Aq ops.toList [] i o ho b (by simpa using hb')
    · have hmem:(i,o)∈oH 0 ops.toList:=by
       have hi:i∈(oH 0 ops.toList).map (·.1):=by
        rw[ub,←List.range_eq_range'];exact List.mem_range.2 (List.getElem?_eq_some_iff.1 ho).1
       obtain⟨p,hp,rfl⟩:=mem_map.1 hi;have:=(ri hp).2
       rw[Nat.sub_zero,ho]at this;cases this;exact hp
      have:=all_eq_true.1 (all_eq_true.1 d2 _ hmem) e he;rw[heb]at this;simp only[Bool.not_true,Bool.false_or]at this;exact Nat.lt_of_lt_of_le (Nat.lt_succ_self _) (Nat.le_of_ble_eq_true this)
    · have:(Array.replicate ops.size false).getD i true=false:=by simp[Array.getD,hi]
      refine⟨λ_=>?_,λ_=>this⟩;have hi':i∈E.map (·.1):=by rw[hfst k3];exact List.mem_range.2 hi
      obtain⟨p,hp,he⟩:=mem_map.1 hi';exact⟨p,hp,he⟩
    · have:=uc ops.toList 0;rw[←k3,List.pairwise_map]at this;exact this
    · have hap:=wR d3;rw[←k3,List.pairwise_map]at hap;refine (hap.and k8).imp λ{p q} ⟨h1,h2⟩=>?_;rcases h1 with h1|h1
      · exact .inl h1
      · rcases h2 with h2|h2
        · exact .inl h2
        · obtain⟨e1,e2,e3⟩:=Oper.apart_spec h1;have harr:ops.toList.toArray=ops:=by simp
          exact .inr ⟨λd hd=>yb (by rw[harr];exact e1 d hd),λd hd=>yb (by rw[harr];exact e3 d hd),e2,h2.wr,h2.rw,h2.ww⟩
    · simp[Array.getD,hi]at hl
end Go.V
namespace Go.V

theorem Rd.plain_some {α:Type} {S:mF->Option Entry} {a:α}:∀{x:Rd α},x.plain S=some a->∃L,x.Runs S a L
 | .ret b,h=>by simp only[Rd.plain,Option.some.injEq]at h;exact⟨[],h.symm,rfl⟩
 | .fail,h=>by simp[Rd.plain]at h
 | .get n k,h=>by
  simp only[Rd.plain]at h;obtain⟨L,hL⟩:=Rd.plain_some h;exact⟨n::L,L,rfl,hL⟩
 | .opt _ _,h=>by simp[Rd.plain]at h
def ud (S:St) (σ:List (mF×Cell)):nZ->Cell->Cell->Prop
 | .dat c,x,y=>∃a,c.quiet S.ent x=some a/\y=c.cell a
 | .own n,x,y=>y=.own n/\(n,x)∈σ/\((∃r,x=.own r)\/(∃r lo hi,x=.win r lo hi)\/x=.nil)
 | .same n,x,y=>x=.own n/\y=x
 | .box n o,x,y=>x=.box n o/\y=x
 | .nil,x,y=>x=.nil/\y=x
 | .undef,_,y=>y=.undef
 | .fn f cs,x,y=>x=.fn f cs/\y=x
 | .kid r j e,x,y=>∃xs,x=.kid r j e xs/\y=x
def rS (S:St) (σ:List (mF×Cell)):List nZ->List Cell->List Cell->Prop
 | [],[],[]=>True
 | s::l,x::xs,y::ys=>ud S σ s x y/\rS S σ l xs ys
 | _,_,_=>False
variable {S:St} {σ:List (mF×Cell)}
theorem rj {α:Type} {z:α} {A:Prop} (h:(none:Option α)=some z):A:=by cases h
theorem AH {c:CT} {l:List nZ} {R:List Cs} {x:Cell} {xs:List Cell} {y:Option (mI R)}:nQ S (.dat c::l) R (x::xs) y =
 (match c.quiet S.ent x,nQ S l R xs y with|some a,some b=>some (mI.mk (.one c) (nI l R) a b)|_,_=>none):=rfl
theorem xf {r:mF} {j:Nat} {e:Cs} {x:Cell} {a:List e.den} (h:vA r j e x=some a):x=.kid r j e a:=by
 unfold vA at h;split at h
 · rename_i s k f xs;cases hk:(Nat.beq r s&&Nat.beq j k)with
   | false=>rw[hk]at h;cases h
   | true =>
    rw[hk]at h;simp only[aT]at hk;obtain rfl:=Nat.eq_of_beq_eq_true hk.1;obtain rfl:=Nat.eq_of_beq_eq_true hk.2;simp only[cT]at h;split at h
    · rename_i hh _;subst hh;cases h;rfl
    · cases h
 · cases h
theorem AI {r:mF} {j:Nat} {e:Cs} {l:List nZ} {R:List Cs} {x:Cell} {xs:List Cell} {y:Option (mI R)}:nQ S (.kid r j e::l) R (x::xs) y =
 (match vA r j e x,nQ S l R xs y with|some a,some b=>some (mI.mk (.one (.sl e)) (nI l R) a b)|_,_=>none):=rfl
theorem uD:∀(l:List nZ) (R:List Cs) (xs:List Cell) (y:Option (mI R)) (z:mI (nI l R)),nQ S l R xs y=some z->(∀p∈rq l xs,p∈σ) ->
 ∃y',y=some y'/\rS S σ l xs (nA l R z).1/\(nA l R z).2=y':=by
 intro l
 induction l with
 | nil =>
  intro R xs y z h _;cases xs with
  | nil=>exact⟨z,h,trivial,rfl⟩
  | cons _ _=>exact rj (show (none:Option (mI (nI [] R)))=some z from h)
 | cons s l ih =>
  intro R xs y z h hσ;cases xs with
  | nil=>cases s<;>exact rj (show (none:Option (mI (nI _ R)))=some z from h)
  | cons x xs =>
   cases s with
   | dat c =>
    rw[AH]at h;cases h1:c.quiet S.ent x with
    | none=>rw[h1]at h;cases h
    | some a =>
     cases h2:nQ S l R xs y with
     | none=>rw[h1,h2]at h;cases h
     | some b =>
      rw[h1,h2]at h;have h:mI.mk (.one c) (nI l R) a b=z:=Option.some.inj h
      subst h;obtain⟨y',e1,e2,e3⟩:=ih R xs y b h2 (λp hp=>hσ p hp);refine⟨y',e1,?_,?_⟩
      · show ud S σ (.dat c) x (c.cell (mI.hd (.one c) (nI l R) _))/\rS S σ l xs (nA l R (mI.tl (.one c) (nI l R) _)).1;rw[mI.tl_mk,mI.hd_mk];exact⟨⟨a,h1,rfl⟩,e2⟩
      · show (nA l R (mI.tl (.one c) (nI l R) _)).2=y';rw[mI.tl_mk];exact e3
   | kid r j c =>
    rw[AI]at h;cases h1:vA r j c x with
    | none=>rw[h1]at h;cases h
    | some a =>
     cases h2:nQ S l R xs y with
     | none=>rw[h1,h2]at h;cases h
     | some b =>
      rw[h1,h2]at h;have h:mI.mk (.one (.sl c)) (nI l R) a b=z:=Option.some.inj h
      subst h;obtain⟨y',e1,e2,e3⟩:=ih R xs y b h2 (λp hp=>hσ p hp);refine⟨y',e1,?_,?_⟩
      · show ud S σ (.kid r j c) x (.kid r j c (mI.hd (.one (.sl c)) (nI l R) _))/\rS S σ l xs (nA l R (mI.tl (.one (.sl c)) (nI l R) _)).1;rw[mI.tl_mk,mI.hd_mk];exact⟨⟨a,xf h1,(xf h1).symm⟩,e2⟩
      · show (nA l R (mI.tl (.one (.sl c)) (nI l R) _)).2=y';rw[mI.tl_mk];exact e3
   | own n =>
    have key:∀(hx:(∃r,x=.own r)\/(∃r lo hi,x=.win r lo hi)\/x=.nil) (h:nQ S l R xs y=some z),∃y',y=some y'/\rS S σ (.own n::l) (x::xs) (nA (.own n::l) R z).1/\(nA (.own n::l) R z).2=y':=by
     intro hx h;obtain⟨y',e1,e2,e3⟩:=ih R xs y z h (λp hp=>hσ p (mem_cons_of_mem _ hp));exact⟨y',e1,⟨⟨rfl,hσ _ mem_cons_self,hx⟩,e2⟩,e3⟩
    cases x<;>first
     | exact rj (show (none:Option (mI (nI _ R)))=some z from h)
     | exact key (.inl ⟨_,rfl⟩) h
     | exact key (.inr (.inl ⟨_,_,_,rfl⟩)) h
     | exact key (.inr (.inr rfl)) h
   | same n =>
    cases x<;>try exact rj (show (none:Option (mI (nI _ R)))=some z from h)
    rename_i m;have h':cond (Nat.beq n m) (nQ S l R xs y) none=some z:=h
    cases hnm:Nat.beq n m with
    | false=>rw[hnm]at h';cases h'
    | true =>
     rw[hnm]at h';clear h;obtain rfl:=Nat.eq_of_beq_eq_true hnm;obtain⟨y',e1,e2,e3⟩:=ih R xs y z h' (λp hp=>hσ p hp);exact⟨y',e1,⟨⟨rfl,rfl⟩,e2⟩,e3⟩
   | box n o =>
    cases x<;>try exact rj (show (none:Option (mI (nI _ R)))=some z from h)
    rename_i m p;have h':cond (Nat.beq n m&&Nat.beq o p) (nQ S l R xs y) none=some z:=h
    cases hnm:(Nat.beq n m&&Nat.beq o p)with
    | false=>rw[hnm]at h';cases h'
    | true =>
     rw[hnm]at h';clear h;simp only[aT]at hnm;obtain rfl:=Nat.eq_of_beq_eq_true hnm.1;obtain rfl:=Nat.eq_of_beq_eq_true hnm.2;obtain⟨y',e1,e2,e3⟩:=ih R xs y z h' (λp hp=>hσ p hp);exact⟨y',e1,⟨⟨rfl,rfl⟩,e2⟩,e3⟩
   | nil =>
    cases x<;>try exact rj (show (none:Option (mI (nI _ R)))=some z from h)
    obtain⟨y',e1,e2,e3⟩:=ih R xs y z h (λp hp=>hσ p hp);exact⟨y',e1,⟨⟨rfl,rfl⟩,e2⟩,e3⟩
   | undef =>
    obtain⟨y',e1,e2,e3⟩:=ih R xs y z h (λp hp=>hσ p hp);exact⟨y',e1,⟨rfl,e2⟩,e3⟩
   | fn f cs =>
    cases x<;>try exact rj (show (none:Option (mI (nI _ R)))=some z from h)
    rename_i g ds;have h':cond (Nat.beq f g&&(cs==ds)) (nQ S l R xs y) none=some z:=h
    cases hnm:(Nat.beq f g&&(cs==ds))with
    | false=>rw[hnm]at h';cases h'
    | true =>
     rw[hnm]at h';clear h;simp only[aT]at hnm;obtain rfl:=Nat.eq_of_beq_eq_true hnm.1;obtain rfl:=eq_of_beq hnm.2;obtain⟨y',e1,e2,e3⟩:=ih R xs y z h' (λp hp=>hσ p hp);exact⟨y',e1,⟨⟨rfl,rfl⟩,e2⟩,e3⟩
def vO (S:St) (σ:List (mF×Cell)) (l:List (Nat×Bool×List nZ)) (tm:List (Nat×AV)) (t:Nat):Prop :=
 match mG l t with
 | none=>mG tm t=none
 | some (agg,ss)=>qM agg (S.tmp t)=true/\∃cs,mG tm t=some (pb agg cs)/\rS S σ ss (S.tmp t).cells cs
theorem wS:∀{l:List (Nat×Bool×List nZ)} {R:List Cs} {y:Option (mI R)} {z:mI (rQ l R)},tQ S l R y=some z->(∀p∈sg S l,p∈σ) ->
 ∃y',y=some y'/\(∀t,vO S σ l (pH l R z).1 t)/\(pH l R z).2=y'
 | [],R,y,z,h,_=>⟨z,h,λt=>rfl,rfl⟩
 | (t,agg,ss)::l,R,y,z,h,hσ=>by
  have h':cond (qM agg (S.tmp t)) (nQ S ss (rQ l R) (S.tmp t).cells (tQ S l R y)) none=some z:=h;cases hag:qM agg (S.tmp t)with
  | false=>rw[hag]at h';cases h'
  | true =>
   rw[hag]at h';clear h;have h:nQ S ss (rQ l R) (S.tmp t).cells (tQ S l R y)=some z:=h'
   obtain⟨y1,e1,e2,e3⟩:=uD _ _ _ _ _ h (λp hp=>hσ p (mem_append_left _ hp));obtain⟨y2,k1,k2,k3⟩:=wS e1 (λp hp=>hσ p (mem_append_right _ hp));refine⟨y2,k1,λu=>?_,?_⟩
   · unfold vO;simp only[pH];rw[mR,mR];by_cases htu:t=u
     · subst htu;simp only[if_true];exact⟨hag,_,rfl,e2⟩
     · simp only[if_neg htu];have:=k2 u
       unfold vO at this;rw[e3];exact this
   · simp only[pH];rw[e3];exact k3
def qH (S:St) (σ:List (mF×Cell)) (l:List (mF×pq)) (en:List (mF×Entry)) (n:mF):Prop :=
 match mG l n with
 | none=>mG en n=none
 | some (.root e m)=>∃x xs,mG σ n=some x/\pu S e m x=some xs/\mG en n=some (.root e m xs)
 | some (.keep e m)=>∃xs,pu S e m (.own n)=some xs/\mG en n=some (.root e m xs)
 | some (.box ss)=>∃cs cs',mG S.en n=some (.box cs)/\mG en n=some (.box cs')/\rS S σ ss cs cs'
 | some (.tree e)=>∃xs,mG S.en n=some (.tree e xs)/\mG en n=some (.tree e xs)
 | some (.pop e)=>∃ys,mG S.en n=some (.pop e ys)/\mG en n=some (.pop e ys)
theorem wT {e:Cs} {n:mF} {xs:List e.den} (h:tX S e n=some xs):mG S.en n=some (.tree e xs):=by
 unfold tX at h;split at h
 · rename_i f ys hn;split at h
   · rename_i hh _;subst hh;cases h;exact hn
   · cases h
 · cases h
theorem Bt {e:Cs} {n:mF} {ys:List (Bool×e.den)} (h:zO S e n=some ys):mG S.en n=some (.pop e ys):=by
 unfold zO at h;split at h
 · rename_i f zs hn;split at h
   · rename_i hh _;subst hh;cases h;exact hn
   · cases h
 · cases h
theorem pZ:∀{l:List (mF×pq)} {z:mI (nP l)},pv S σ l=some z->(∀p∈qw S l,p∈σ)->∀n,qH S σ l (oQ l z) n
 | [],z,h,_,n=>rfl
 | (m,.root e d)::l,z,h,hσ,n=>by
  simp only[pv]at h;split at h
  · rename_i x hx;split at h
    · rename_i a b h1 h2;cases h;have ih:=pZ h2 hσ n
      unfold qH at ih ⊢;simp only[oQ];rw[mR,mR,mI.tl_mk,mI.hd_mk];by_cases hmn:m=n
      · subst hmn;simp only[if_true];exact⟨x,a,hx,h1,rfl⟩
      · simp only[if_neg hmn];exact ih
    · cases h
  · cases h
 | (m,.keep e d)::l,z,h,hσ,n=>by
  simp only[pv]at h;split at h
  · rename_i a b h1 h2;cases h;have ih:=pZ h2 hσ n
    unfold qH at ih ⊢;simp only[oQ];rw[mR,mR,mI.tl_mk,mI.hd_mk];by_cases hmn:m=n
    · subst hmn;simp only[if_true];exact⟨a,h1,rfl⟩
    · simp only[if_neg hmn];exact ih
  · cases h
 | (m,.tree e)::l,z,h,hσ,n=>by
  simp only[pv]at h;split at h
  · rename_i a b h1 h2;cases h;have ih:=pZ h2 hσ n
    unfold qH at ih ⊢;simp only[oQ];rw[mR,mR,mI.tl_mk,mI.hd_mk];by_cases hmn:m=n
    · subst hmn;simp only[if_true];exact⟨a,wT h1,rfl⟩
    · simp only[if_neg hmn];exact ih
  · cases h
 | (m,.pop e)::l,z,h,hσ,n=>by
  simp only[pv]at h;split at h
  · rename_i a b h1 h2;cases h;have ih:=pZ h2 hσ n
    unfold qH at ih ⊢;simp only[oQ];rw[mR,mR,mI.tl_mk,mI.hd_mk];by_cases hmn:m=n
    · subst hmn;simp only[if_true];exact⟨a,Bt h1,rfl⟩
    · simp only[if_neg hmn];exact ih
  · cases h
 | (m,.box ss)::l,z,h,hσ,n=>by
  simp only[pv]at h;cases hcs:S.ent m with
  | none=>rw[hcs]at h;cases h
  | some ec =>
  rw[hcs]at h;cases ec with
  | tree=>cases h
  | frz=>cases h
  | pop=>cases h
  | gone=>cases h
  | fwd _ _=>cases h
  | root _ _ _=>cases h
  | box cs =>
   simp only at h;obtain⟨y',e1,e2,e3⟩:=uD _ _ _ _ _ h (λp hp=>hσ p (by
    simp only[qw];rw[hcs];exact mem_append_left _ hp))
   have ih:=pZ e1 (λp hp=>hσ p (mem_append_right _ hp)) n;unfold qH at ih ⊢;simp only[oQ];rw[mR,mR,e3];by_cases hmn:m=n
   · subst hmn;simp only[if_true];exact⟨cs,_,hcs,rfl,e2⟩
   · simp only[if_neg hmn];exact ih
theorem ue:∀{l:List (mF×Cell)},pI l=true->l.Pairwise λp q=>(q.1=p.1->xG p.2 q.2=true)/\(q.1≠p.1->qN p.2 q.2=true)
 | [],_=>List.Pairwise.nil
 | (n,x)::l,h=>by
  simp only[pI,aT]at h;refine pairwise_cons.2 ⟨λq hq=>?_,ue h.2⟩;have:=all_eq_true.1 h.1 q hq
  cases hb:Nat.beq q.1 n with
  | true =>
   rw[hb]at this;exact⟨λ_=>this,λhne=>absurd (Nat.eq_of_beq_eq_true hb) hne⟩
  | false =>
   rw[hb]at this;exact⟨λhe=>by subst he;simp at hb,λ_=>this⟩
theorem Dv {x y:Cell} (h:xG x y=true):∃r,x=.own r/\y=.own r:=by
 cases x<;>cases y<;>simp[xG]at h;exact⟨_,rfl,by rw[h]⟩
theorem zf:∀{l:List (mF×Cell)},pI l=true->∀{n:mF} {x:Cell},(n,x)∈l->∃y,mG l n=some y/\(x=y\/∃r,x=.own r/\y=.own r)
 | [],_,n,x,h=>by simp at h
 | (m,y)::l,hs,n,x,h=>by
  rw[mR];by_cases hmn:m=n
  · subst hmn;rw[if_pos rfl];rcases mem_cons.1 h with h|h
    · cases h;exact⟨_,rfl,.inl rfl⟩
    · obtain⟨r,e1,e2⟩:=Dv (((pairwise_cons.1 (ue hs)).1 (m,x) h).1 rfl);exact⟨y,rfl,.inr ⟨r,e2,e1⟩⟩
  · rw[if_neg hmn];rcases mem_cons.1 h with h|h
    · cases h;exact absurd rfl hmn
    · simp only[pI,aT]at hs;exact zf hs.2 h
theorem uE {x y:Cell} (h:qN x y=true) {r:mF} (hx:pt x=some r):pt y≠some r:=by
 intro hy;simp[qN,hx,hy]at h
theorem zg {x y:Cell} (h:qN x y=true):qN y x=true:=by
 have e:∀a b,qN a b=(match pt a,pt b with|some r,some s=>!(Nat.beq r s)|_,_=>true):=λa b=>rfl;rw[e]at h ⊢;cases hx:pt x with
 | none=>cases pt y<;>rfl
 | some r=>cases hy:pt y with
  | none=>rfl
  | some s =>
   rw[hx,hy]at h;simp only[Bool.not_eq_true']at h ⊢;cases hb:Nat.beq s r with
   | false=>rfl
   | true=>rw[Nat.eq_of_beq_eq_true hb]at h;simp at h
theorem vj:∀{l:List (mF×Cell)},pI l=true->∀{n m:mF} {x y:Cell},(n,x)∈l->(m,y)∈l->n≠m->∀r,pt x=some r->pt y≠some r
 | [],_,n,m,x,y,h,_,_,r,_=>by simp at h
 | (k,z)::l,hs,n,m,x,y,h1,h2,hnm,r,hr=>by
  have hp:=pairwise_cons.1 (ue hs);simp only[pI,aT]at hs;rcases mem_cons.1 h1 with e1|h1<;>rcases mem_cons.1 h2 with e2|h2
  · cases e1;cases e2;exact absurd rfl hnm
  · cases e1;exact uE ((hp.1 (m,y) h2).2 (Ne.symm hnm)) hr
  · cases e2;exact uE (zg ((hp.1 (n,x) h1).2 hnm)) hr
  · exact vj hs.2 h1 h2 hnm r hr
end Go.V
namespace Go.V
variable {w0:World} {T N:Nat->Prop} {en en':List (mF×Entry)} {S S':St} {g g':Gh} {w:World} {a:Act} {s:nN} {M:List (mF×Entry)} {W:List (Nat×AV)}

theorem MS.rename (h:MS w0 T N en g w) (hI:g'.I=g.I) (hrep:∀n e,mG en' n=some e->qT (dom en') g' w n e) (nD:mF->mF->Prop)
 (hφ:∀n e,mG en' n=some e->e.alive=true\/e.deep=true->(g'.top n=none/\g'.nest n=[])\/∃k f,mG en k=some f/\(e.alive=true->f.alive=true)/\(e.deep=true->f.deep=true)/\g'.top n=g.top k/\(∀b∈g'.nest n,b∈g.nest k)/\nD n k)
 (htree:∀n e,mG en' n=some e->e.isTree=true->(∃f,mG en n=some f/\f.isTree=true)/\g'.nest n=g.nest n) (inj:∀n m k,nD n k->nD m k->n=m) (hone:∀n,dom en' n->(g'.loc n).oneCell'=true):MS w0 T N en' g' w:=by
 have ht:∀n e b,mG en' n=some e->e.alive=true->g'.top n=some b->∃k f,mG en k=some f/\f.alive=true/\g.top k=some b/\nD n k:=by
  intro n e b hn ha hb;rcases hφ n e hn (.inl ha)with ⟨h1,_⟩|⟨k,f,h1,h2,_,h4,_,h6⟩
  · rw[h1]at hb;cases hb
  · exact⟨k,f,h1,h2 ha,h4▸hb,h6⟩
 have hs:∀n e b,mG en' n=some e->e.deep=true->b∈g'.nest n->∃k f,mG en k=some f/\f.deep=true/\b∈g.nest k/\nD n k:=by
  intro n e b hn hd hb;rcases hφ n e hn (.inr hd)with ⟨_,h1⟩|⟨k,f,h1,h2,h3,_,h5,h6⟩
  · rw[h1]at hb;simp at hb
  · exact⟨k,f,h1,h3 hd,h5 b hb,h6⟩
 refine⟨⟨hrep,λn m e f b hn hm he hf h1 h2=>?_,λn e b hn he hb=>?_,λn m e f hn hm he hf hnm b hb hb'=>?_,λb hb=>h.mem.old b (hI▸hb),hone,λn e b hn he hb=>?_⟩,
  ⟨h.since.os,h.since.out,h.since.tape,h.since.size,h.since.mem,λn e b hn he hb=>?_,λn e b hn he hb=>?_,λb hb=>h.since.imm b (hI▸hb),λn e b hn he hb=>?_,h.since.soft⟩⟩
 · obtain⟨k,f1,k1,k2,k3,k4⟩:=ht n e b hn he h1;obtain⟨k',f2,l1,l2,l3,l4⟩:=ht m f b hm hf h2;obtain rfl:=h.mem.apart k k' f1 f2 b k1 l1 k2 l2 k3 l3;exact inj n m k k4 l4
 · obtain⟨k,f1,k1,k2,k3,k4⟩:=ht n e b hn he hb;rw[hI];exact h.mem.topI k f1 b k1 k2 k3
 · obtain⟨k,f1,k1,k2,k3,k4⟩:=hs n e b hn he hb;obtain⟨k',f2,l1,l2,l3,l4⟩:=hs m f b hm hf hb';by_cases hkk:k=k'
   · subst hkk;exact hnm (inj n m k k4 l4)
   · exact h.mem.nests k k' f1 f2 k1 l1 k2 l2 hkk b k3 l3
 · obtain⟨⟨f,k1,k2⟩,k3⟩:=htree n e hn he;rw[k3]at hb;obtain⟨l1,l2,l3⟩:=h.mem.wood n f b k1 k2 hb;refine⟨by rw[hI];exact l1,λm f' hm hf' hb'=>?_,λm f' hmn hm hf'=>?_⟩
   · obtain⟨k,f1,j1,j2,j3,_⟩:=ht m f' b hm hf' hb';exact l2 k f1 j1 j2 j3
   · obtain⟨⟨f2,j1,j2⟩,j3⟩:=htree m f' hm hf';rw[j3];exact l3 m f2 hmn j1 j2
 · obtain⟨k,f1,k1,k2,k3,k4⟩:=ht n e b hn he hb;exact h.since.tops k f1 b k1 k2 k3
 · obtain⟨k,f1,k1,k2,k3,k4⟩:=hs n e b hn he hb;exact h.since.nests k f1 b k1 k2 k3
 · obtain⟨⟨f,k1,k2⟩,k3⟩:=htree n e hn he;rw[k3]at hb;exact h.since.born n f b k1 k2 hb

theorem AJ {e:Cs} {m:Bool} {x:Cell} {xs:List e.den} (h:pu S e m x=some xs) :
 ∃q us L,(zL e x).Runs (mG S.en) (xs,q,us) L/\(∀m',q=some m'->m=true->m'=true)/\(∀r E,us=[(r,E)]->pt x=some r):=by
 cases x<;>try (exfalso;cases h;done)
 case nil =>
  simp only[pu,Option.some.injEq]at h;subst h;exact⟨none,[],[],⟨rfl,rfl⟩,(λm' h=>by cases h),λr E h=>by cases h⟩
 case own r =>
  simp only[pu]at h;split at h
  · rename_i f m' ys hr;cases hm:A8 m m' with
    | false=>rw[hm]at h;cases h
    | true =>
     rw[hm]at h;simp only[cT]at h;split at h
     · rename_i hfe hsame;cases h;refine⟨some m',[(r,.gone)],[r],⟨[],rfl,?_⟩,(λm'' h hm1=>?_),λr' E h=>by cases h;rfl⟩
       · rw[show mG S.en r=some (.root f m' ys)from hr];simp only[hsame];exact⟨rfl,rfl⟩
       · cases h;subst hm1;simpa[A8]using hm
     · cases h
  · cases h
 case win r lo hi =>
  simp only[pu]at h;split at h
  · rename_i f m' ys hr;cases hm:A8 m m' with
    | false=>rw[hm]at h;cases h
    | true =>
     rw[hm]at h;simp only[cT]at h;split at h
     · rename_i hfe hsame;cases h;refine⟨some m',[(r,.gone)],[r],⟨[],rfl,?_⟩,(λm'' h hm1=>?_),λr' E h=>by cases h;rfl⟩
       · rw[show mG S.en r=some (.root f m' ys)from hr];simp only[hsame];exact⟨rfl,rfl⟩
       · cases h;subst hm1;simpa[A8]using hm
     · cases h
  · cases h
structure yo (w:World) (S:St) (g:Gh) (e:Cs) (m:Bool) (x:Cell) (xs:List e.den) (i:NI):Prop where
 esz:i.esz=e.len
 loc:∀v,mJ (dom S.en) g w x v->v=i.loc
 rep:oD w e xs i.loc i.top i.nest
 imm:∀b∈i.nest,g.I b
 nod:m=true->i.nest.Nodup
 one:i.loc.oneCell'=true
 old:(i.top=none/\i.nest=[])\/∃r m' ys,pt x=some r/\mG S.en r=some (.root e m' ys)/\i.top=g.top r/\(∀b∈i.nest,b∈g.nest r)/\(m=true->m'=true)
theorem yd {e:Cs} {xs:List e.den} {v:Value} {tp:Option Nat} {F:List Nat} (h:oD w e xs v tp F):v.oneCell'=true:=by
 obtain⟨x,c,rfl⟩:=h.shape;rfl
theorem Fr (hm:oA S.en g w) {e:Cs} {m:Bool} {x:Cell} {xs:List e.den} (h:pu S e m x=some xs) {v:Value} (hv:mJ (dom S.en) g w x v):∃i,yo w S g e m x xs i:=by
 have huni:∀u,mJ (dom S.en) g w x u->u=v:=by
  intro u hu;cases x<;>try (exfalso;cases h;done)
  case nil=>exact (show u=_ from hu).trans (show v=_ from hv).symm
  case own r=>exact hu.2.trans hv.2.symm
  case win r lo hi =>
   obtain⟨_,_,a1,l1,c1,e1,_,rfl⟩:=hu;obtain⟨_,_,a2,l2,c2,e2,_,rfl⟩:=hv;rw[e1]at e2;cases e2;rfl
 obtain⟨q,us,L,h1,h2,h3⟩:=AJ h;rcases x8 hm hv h1 with ⟨rfl,h4⟩|⟨ys,r,m',F,h4,hD⟩
 · cases h4;exact⟨⟨.slice none 0 0,e.len,none,[]⟩,rfl,huni,.inl ⟨rfl,rfl,rfl,rfl⟩,by simp,by simp,rfl,.inl ⟨rfl,rfl⟩⟩
 · cases h4;obtain⟨⟨zs,hent⟩,hrep,hcnt⟩:=hD;obtain⟨_,_,hI,hnd⟩:=nX hm hent;have hsub:∀b∈F,b∈g.nest r:=λb hb=>by
    have h0:=hcnt b;have h1:0<F.count b:=count_pos_iff.2 hb
    exact count_pos_iff.1 (by omega)
   refine⟨⟨v,e.len,g.top r,F⟩,rfl,huni,hrep,λb hb=>hI b (hsub b hb),λhm1=>?_,yd hrep,.inr ⟨r,m',zs,h3 r _ rfl,hent,rfl,hsub,h2 m' rfl⟩⟩;rw[←nR];intro b;have:=hcnt b
   have h6:=nR.2 (hnd (h2 m' rfl hm1)) b;show F.count b<=1
   omega
end Go.V
namespace Go.V
variable {w0:World} {T N:Nat->Prop} {en en':List (mF×Entry)} {S S':St} {g g':Gh} {w:World} {a:Act} {s:nN} {M:List (mF×Entry)} {W:List (Nat×AV)}

theorem qy:∀{l:List (mF×pq)},vB l=true->∀{n:mF} {e:pq},(n,e)∈l->mG l n=some e
 | [],_,n,e,h=>by simp at h
 | (m,f)::l,hl,n,e,h=>by
  simp only[vB,aT]at hl;rw[mR];rcases mem_cons.1 h with h|h
  · cases h;rw[if_pos rfl]
  · by_cases hmn:m=n
    · subst hmn;have:=all_eq_true.1 hl.1 _ h
      simp at this
    · rw[if_neg hmn];exact qy hl.2 h
theorem ye {l:List (mF×pq)} (hl:vB l=true) {n:mF} (h:B1 l n=true):∃e m,mG l n=some (.root e m):=by
 obtain⟨p,hp,hq⟩:=List.any_eq_true.1 h;simp only[aT]at hq;obtain⟨k,f⟩:=p;obtain rfl:=Nat.eq_of_beq_eq_true hq.1;cases f with
 | root e m=>exact⟨e,m,qy hl hp⟩
 | keep e m=>cases hq.2
 | box ss=>cases hq.2
 | tree e=>cases hq.2
 | pop e=>cases hq.2
theorem xg {l:List (mF×pq)} (hl:vB l=true) {n:mF} (h:qB l n=true):∃x,mG l n=some x/\∀e m,x≠.root e m:=by
 obtain⟨p,hp,hq⟩:=List.any_eq_true.1 h;simp only[aT]at hq;obtain⟨k,f⟩:=p;obtain rfl:=Nat.eq_of_beq_eq_true hq.1;refine⟨f,qy hl hp,λe m he=>?_⟩;subst he;cases hq.2
theorem uF:∀{l:List (mF×pq)} {n:mF} {x:pq},mG l n=some x->(∀e m,x≠.root e m)->qB l n=true:=by
 intro l n x h hx;refine List.any_eq_true.2 ⟨(n,x),nz h,?_⟩;cases x with
 | root e m=>exact absurd rfl (hx e m)
 | keep e m=>simp
 | tree e=>simp
 | pop e=>simp
 | box ss=>simp
theorem ph:∀{l:List (mF×pq)},pB S l=true->∀{n:mF} {e:Cs} {m:Bool},(n,pq.root e m)∈l->mG S.en n=none
 | [],_,n,e,m,h=>by simp at h
 | (k,x)::l,hf,n,e,m,h=>by
  rcases mem_cons.1 h with h'|h'
  · obtain⟨rfl,rfl⟩:=Prod.mk.inj h';simp only[pB,aT]at hf;cases hn:mG S.en n with
    | none=>rfl
    | some y=>rw[show S.ent n=some y from hn]at hf;cases hf.1
  · cases x with
    | root e' m'=>simp only[pB,aT]at hf;exact ph hf.2 h'
    | keep e' m'=>simp only[pB]at hf;exact ph hf h'
    | box ss=>simp only[pB]at hf;exact ph hf h'
    | tree e'=>simp only[pB]at hf;exact ph hf h'
    | pop e'=>simp only[pB]at hf;exact ph hf h'
theorem vk {D:mF->Prop}:∀{l:List nZ} {xs:List Cell} {vs:List Value},mQ (mJ D g w) xs vs->∀p∈rq l xs,∃v,mJ D g w p.2 v
 | [],xs,vs,_,p,hp=>by cases xs<;>simp[rq]at hp
 | s::l,[],[],_,p,hp=>by cases s<;>simp[rq]at hp
 | s::l,x::xs,v::vs,h,p,hp=>by
  have ih:=vk (l:=l) h.2 p;cases s with
  | own n =>
   rcases mem_cons.1 hp with rfl|hp
   · exact⟨v,h.1⟩
   · exact ih hp
  | _=>exact ih hp
theorem Bu {D:mF->Prop} {x:AV} {v:Value} (h:nc D g w x v):∃vs,mQ (mJ D g w) x.cells vs:=by
 cases x with
 | cell c=>exact⟨[v],h,trivial⟩
 | agg cs=>obtain⟨vs,_,k⟩:=h;exact⟨_,k⟩
 | tup l=>exact⟨[],trivial⟩
theorem Ep (hI:nk w0 T N S' g w a):∀p∈s.sigma S',∃v,mJ (dom S'.en) g w p.2 v:=by
 intro p hp;rcases mem_append.1 hp with hp|hp
 · have key:∀(l:List (Nat×Bool×List nZ)),p∈sg S' l->∃v,mJ (dom S'.en) g w p.2 v:=by
    intro l
    induction l with
    | nil=>intro h;simp[sg]at h
    | cons q l ih =>
     intro h;obtain⟨t,ag,ss⟩:=q;rcases mem_append.1 h with h|h
     · obtain⟨vs,hv⟩:=Bu (hI.tmps t);exact vk hv p h
     · exact ih h
   exact key _ hp
 · have key:∀(l:List (mF×pq)),p∈qw S' l->∃v,mJ (dom S'.en) g w p.2 v:=by
    intro l
    induction l with
    | nil=>intro h;simp[qw]at h
    | cons q l ih =>
     intro h;obtain⟨n,x⟩:=q;cases x with
     | box ss =>
      rcases mem_append.1 h with h|h
      · cases hn:S'.ent n with
        | none=>rw[hn]at h;simp at h
        | some e =>
         rw[hn]at h;cases e with
         | box cs =>
          obtain⟨b,us,_,_,_,h4⟩:=hI.mem.rep n _ hn;exact vk h4 p h
         | gone=>simp at h
         | fwd _ _=>simp at h
         | root _ _ _=>simp at h
         | tree _ _=>simp at h
         | frz _ _=>simp at h
         | pop _ _=>simp at h
      · exact ih h
     | root e m=>exact ih h
     | keep e m=>exact ih h
     | tree e=>exact ih h
     | pop e=>exact ih h
   exact key _ hp
structure tL (S S':St) (M:List (mF×Entry)) (W:List (Nat×AV)) (s:nN):Prop where
 gone:∀n e,mG M n=some e->e=.gone
 undef:∀t v,mG W t=some v->v=.undef
 dom:∀n,dom S.en n->Go.V.dom S'.en n
 en:∀n,mG M n=none->Go.V.dom S.en n->mG S'.en n=mG S.en n
 tm:∀t,mG W t=none->S'.tmp t=S.tmp t
 kept:∀n,qB s.en n=true->mG M n≠none
 ok:s.okAt S=true
 freed:freed S M (s.sigma S')=true
def vP (S':St) (g:Gh) (w:World) (s:nN) (n:mF) (i:NI):Prop :=
 match mG s.en n with
 | some (.root e m)=>∃x xs,mG (s.sigma S') n=some x/\pu S' e m x=some xs/\yo w S' g e m x xs i
 | _=>(dom S'.en n->i.loc=g.loc n/\i.esz=g.esz n/\i.top=g.top n/\i.nest=g.nest n)/\(¬dom S'.en n->i.loc=.slice none 0 0)
theorem nN.read_spec {d:s.den} (h:s.read S'=some d):pI (s.sigma S'++tY s.en)=true/\(∀t,vO S' (s.sigma S') s.tm (s.st d).tm t)/\(∀n,qH S' (s.sigma S') s.en (s.st d).en n):=by
 unfold nN.read at h;cases hs:pI (s.sigma S'++tY s.en)with
 | false=>rw[hs]at h;cases h
 | true =>
  rw[hs]at h;have h:tQ S' s.tm (nP s.en) (pv S' (s.sigma S') s.en)=some d:=h
  obtain⟨y',e1,e2,e3⟩:=wS h (σ:=s.sigma S') (λp hp=>mem_append_left _ hp);refine⟨rfl,e2,?_⟩;have:=pZ e1 (λp hp=>mem_append_right _ hp)
  show ∀n,qH S' (s.sigma S') s.en (oQ s.en (pH s.tm (nP s.en) d).2) n;rw[e3];exact this
theorem uf:∀{l m:List (mF×Cell)},pI (l++m)=true->pI l=true
 | [],m,_=>rfl
 | (n,x)::l,m,h=>by
  simp only[cons_append,pI,aT,List.all_append]at h ⊢;exact⟨h.1.1,uf h.2⟩
theorem rD:∀{l:List (mF×pq)} {n:mF} {e:Cs} {m:Bool},(n,pq.keep e m)∈l->(n,Cell.own n)∈tY l
 | [],n,e,m,h=>by simp at h
 | (k,x)::l,n,e,m,h=>by
  rcases mem_cons.1 h with h'|h'
  · obtain⟨rfl,rfl⟩:=Prod.mk.inj h';exact mem_cons_self
  · cases x with
    | keep e' m'=>exact mem_cons_of_mem _ (rD h')
    | root e' m'=>exact rD (l:=l) h'
    | box ss=>exact rD (l:=l) h'
    | tree e'=>exact rD (l:=l) h'
    | pop e'=>exact rD (l:=l) h'
theorem Ie (hI:nk w0 T N S' g w a) {d:s.den} (hr:s.read S'=some d):∃f:mF->NI,∀n,vP S' g w s n (f n):=by
 apply Classical.skolem.1;intro n;obtain⟨hσ,_,hen⟩:=nN.read_spec hr;have hn:=hen n
 unfold qH at hn;unfold vP;cases hf:mG s.en n with
 | none =>
  by_cases hd:dom S'.en n
  · exact⟨⟨g.loc n,g.esz n,g.top n,g.nest n⟩,λ_=>⟨rfl,rfl,rfl,rfl⟩,λh=>absurd hd h⟩
  · exact⟨⟨.slice none 0 0,0,none,[]⟩,λh=>absurd h hd,λ_=>rfl⟩
 | some x =>
  cases x with
  | root e m =>
   rw[hf]at hn;obtain⟨x,xs,h1,h2,_⟩:=hn;obtain⟨v,hv⟩:=Ep (s:=s) hI (n,x) (nz h1);obtain⟨i,hi⟩:=Fr hI.mem h2 hv;exact⟨i,x,xs,h1,h2,hi⟩
  | keep e m =>
   by_cases hd:dom S'.en n
   · exact⟨⟨g.loc n,g.esz n,g.top n,g.nest n⟩,λ_=>⟨rfl,rfl,rfl,rfl⟩,λh=>absurd hd h⟩
   · exact⟨⟨.slice none 0 0,0,none,[]⟩,λh=>absurd h hd,λ_=>rfl⟩
  | box ss =>
   by_cases hd:dom S'.en n
   · exact⟨⟨g.loc n,g.esz n,g.top n,g.nest n⟩,λ_=>⟨rfl,rfl,rfl,rfl⟩,λh=>absurd hd h⟩
   · exact⟨⟨.slice none 0 0,0,none,[]⟩,λh=>absurd h hd,λ_=>rfl⟩
  | tree e =>
   by_cases hd:dom S'.en n
   · exact⟨⟨g.loc n,g.esz n,g.top n,g.nest n⟩,λ_=>⟨rfl,rfl,rfl,rfl⟩,λh=>absurd hd h⟩
   · exact⟨⟨.slice none 0 0,0,none,[]⟩,λh=>absurd h hd,λ_=>rfl⟩
  | pop e =>
   by_cases hd:dom S'.en n
   · exact⟨⟨g.loc n,g.esz n,g.top n,g.nest n⟩,λ_=>⟨rfl,rfl,rfl,rfl⟩,λh=>absurd hd h⟩
   · exact⟨⟨.slice none 0 0,0,none,[]⟩,λh=>absurd h hd,λ_=>rfl⟩
def Gh.all (g:Gh) (f:mF->NI):Gh:=⟨g.I,λn=>(f n).loc,λn=>(f n).esz,λn=>(f n).top,λn=>(f n).nest,g.rows⟩
end Go.V
namespace Go.V
variable {w0:World} {T N:Nat->Prop} {en en':List (mF×Entry)} {S S':St} {g g':Gh} {w:World} {a:Act} {s:nN} {M:List (mF×Entry)} {W:List (Nat×AV)}

theorem Bv {e:Cs} {m:Bool} {n:mF} {xs:List e.den} (h:pu S e m (.own n)=some xs):∃m',mG S.en n=some (.root e m' xs)/\(m=true->m'=true):=by
 simp only[pu]at h;split at h
 · rename_i f m' ys hr;cases hm:A8 m m' with
   | false=>rw[hm]at h;cases h
   | true =>
    rw[hm]at h;simp only[cT]at h;split at h
    · rename_i hfe _;cases h;subst hfe;exact⟨m',hr,λhm1=>by subst hm1;simpa[A8]using hm⟩
    · cases h
 · cases h
theorem uG {σ:List (mF×Cell)} {D D':mF->Prop} {ok:nZ->Bool} (h1:∀c x y v,ud S σ c x y->ok c=true->mJ D g w x v->mJ D' g' w y v) :
 ∀{ss:List nZ} {xs ys:List Cell} {vs:List Value},rS S σ ss xs ys->ss.all ok=true->mQ (mJ D g w) xs vs->mQ (mJ D' g' w) ys vs
 | [],[],[],[],_,_,_=>trivial
 | c::ss,x::xs,y::ys,v::vs,h,ho,hv=>by
  simp only[all_cons,aT]at ho;exact⟨h1 c x y v h.1 ho.1 hv.1,uG h1 h.2 ho.2 hv.2⟩
theorem yp {σ:List (mF×Cell)} {D':mF->Prop} {ok:nZ->Bool} (h1:∀c x y,ud S σ c x y->ok c=true->oN D' y) :
 ∀{ss:List nZ} {xs ys:List Cell},rS S σ ss xs ys->ss.all ok=true->∀y∈ys,oN D' y
 | [],[],[],_,_,y,hy=>by simp at hy
 | c::ss,x::xs,z::ys,h,ho,y,hy=>by
  simp only[all_cons,aT]at ho;rcases mem_cons.1 hy with rfl|hy
  · exact h1 c x y h.1 ho.1
  · exact yp h1 h.2 ho.2 y hy
theorem xh {σ:List (mF×Cell)}:∀{ss:List nZ} {xs ys:List Cell},rS S σ ss xs ys->ys.length=xs.length
 | [],[],[],_=>rfl
 | c::ss,x::xs,z::ys,h=>by simp[xh h.2]
def nD (S S':St) (M:List (mF×Entry)) (s:nN) (n k:mF):Prop :=
 (∃e m x e' m' ys,mG s.en n=some (.root e m)/\mG (s.sigma S') n=some x/\pt x=some k/\mG S'.en k=some (.root e' m' ys)) \/
 (n=k/\∃e m,mG s.en n=some (.keep e m)) \/
 (n=k/\∃ss cs,mG s.en n=some (.box ss)/\mG S'.en n=some (.box cs)) \/
 (n=k/\mG s.en n=none/\mG M n=none/\dom S.en n) \/
 (n=k/\∃c ys,mG s.en n=some (.pop c)/\mG S'.en n=some (.pop c ys))
theorem nD.inj (hσ:pI (s.sigma S'++tY s.en)=true) (hfr:freed S M (s.sigma S')=true) {n m k:mF} (h:nD S S' M s n k) (h':nD S S' M s m k):n=m:=by
 have hroot:∀{n m k:mF},(∃e m x e' m' ys,mG s.en n=some (.root e m)/\mG (s.sigma S') n=some x/\pt x=some k/\mG S'.en k=some (.root e' m' ys))->nD S S' M s m k->n=m:=by
  intro n m k ⟨e,d,x,e',d',ys,h1,h2,h3,h4⟩ h';have hx:=nz h2
  rcases h' with ⟨_,_,y,_,_,_,k1,k2,k3,k4⟩|⟨rfl,e2,m2,k1⟩|⟨rfl,ss,cs,k1,k2⟩|⟨rfl,k1,k2,k3⟩|⟨rfl,c,zs,k1,k2⟩
  · by_cases hnm:n=m
    · exact hnm
    · exact absurd k3 (vj (uf hσ) hx (nz k2) hnm k h3)
  · by_cases hnm:n=m
    · exact hnm
    · exact absurd rfl (vj hσ (mem_append_left _ hx) (mem_append_right _ (rD (nz k1))) hnm m h3)
  · rw[h4]at k2;cases k2
  · have:=all_eq_true.1 hfr _ hx;simp only[h3]at this;cases hd:mG S.en m with
    | none=>exact absurd hd k3
    | some y =>
     rw[hd]at this;simp only at this;rw[k2]at this;cases this
  · rw[h4]at k2;cases k2
 rcases h with h|h
 · exact hroot h h'
 · rcases h' with h'|h'
   · exact (hroot h' (.inr h)).symm
   · have e1:n=k:=by rcases h with ⟨e,_⟩|⟨e,_⟩|⟨e,_⟩|⟨e,_⟩<;>exact e
     have e2:m=k:=by rcases h' with ⟨e,_⟩|⟨e,_⟩|⟨e,_⟩|⟨e,_⟩<;>exact e
     exact e1.trans e2.symm
theorem wh (hI:nk w0 T N S' g w a) (hcS:nE S) (hT:tL S S' M W s) {d:s.den} (hr:s.read S'=some d) :
 ∃g',nk w0 T N (s.over ⟨W++S.tm,M++S.en⟩ d) g' w a/\Le (dom S.en) g w (dom (s.over ⟨W++S.tm,M++S.en⟩ d).en) g' w/\nE (s.over ⟨W++S.tm,M++S.en⟩ d):=by
 obtain⟨hσ,htm,hen⟩:=nN.read_spec hr;obtain⟨f,hf⟩:=Ie hI hr;have hok:=hT.ok
 simp only[nN.okAt,aT]at hok;obtain⟨hfr,hnd,hokt,hoke⟩:=hok;have hEd:(s.over ⟨W++S.tm,M++S.en⟩ d).en=(s.st d).en++(M++S.en):=rfl
 have hTd:(s.over ⟨W++S.tm,M++S.en⟩ d).tm=(s.st d).tm++(W++S.tm):=rfl;generalize hE:(s.over ⟨W++S.tm,M++S.en⟩ d).en=E at hEd;have hnr:∀n,dom S.en n->∀e m,mG s.en n≠some (.root e m):=λn hn e m h=>hn (ph hfr (nz h))
 have hold:∀n,dom S'.en n->(∀e m,mG s.en n≠some (.root e m))->(f n).loc=g.loc n/\(f n).esz=g.esz n/\(f n).top=g.top n/\(f n).nest=g.nest n:=by
  intro n hn hne;have:=hf n
  unfold vP at this;split at this
  · rename_i e m h;exact absurd h (hne e m)
  · exact this.1 hn
 have hdomS:∀n,dom S.en n->dom E n:=λn hn=>by
  rw[hEd];exact pd _ _ n (pd _ _ n hn)
 have hdome:∀n x,mG s.en n=some x->dom E n:=by
  intro n x hx;have:=hen n
  unfold qH at this;rw[hx]at this;rw[hEd];cases x with
  | root e m=>obtain⟨_,_,_,_,h⟩:=this;exact pz (by unfold dom;rw[h];simp)
  | keep e m=>obtain⟨_,_,h⟩:=this;exact pz (by unfold dom;rw[h];simp)
  | box ss=>obtain⟨_,_,_,h,_⟩:=this;exact pz (by unfold dom;rw[h];simp)
  | tree e=>obtain⟨_,_,h⟩:=this;exact pz (by unfold dom;rw[h];simp)
  | pop e=>obtain⟨_,_,h⟩:=this;exact pz (by unfold dom;rw[h];simp)
 have hle:Le (dom S.en) g w (dom E) (g.all f) w:=⟨hdomS,λn hn=>(hold n (hT.dom n hn) (hnr n hn)).1,λn hn=>(hold n (hT.dom n hn) (hnr n hn)).2.1,λ_ h=>h,λ_ _=>rfl,λ_ _=>rfl⟩;have hdm:∀n,((mG S.en n).isSome||qB s.en n)=true->dom S'.en n->dom E n/\(f n).loc=g.loc n/\(f n).esz=g.esz n:=by
  intro n h hd;rw[Bool.or_eq_true]at h;rcases h with h|h
  · have hS:dom S.en n:=by intro h0;rw[h0]at h;cases h
    exact⟨hdomS n hS,(hold n hd (hnr n hS)).1,(hold n hd (hnr n hS)).2.1⟩
  · obtain⟨x,hx,hxr⟩:=xg hnd h;have hne:∀e m,mG s.en n≠some (.root e m):=λe m h=>by rw[hx]at h;exact hxr e m (Option.some.inj h)
    exact⟨hdome n x hx,(hold n hd hne).1,(hold n hd hne).2.1⟩
 have hdmE:∀n,((mG S.en n).isSome||qB s.en n)=true->dom E n:=by
  intro n h;rw[Bool.or_eq_true]at h;rcases h with h|h
  · exact hdomS n (by intro h0;rw[h0]at h;cases h)
  · obtain⟨x,hx,_⟩:=xg hnd h;exact hdome n x hx
 let ok:=nZ.okIn (λn=>(mG S.en n).isSome||qB s.en n) (B1 s.en)
 have g1:∀c x y v,ud S' (s.sigma S') c x y->ok c=true->mJ (dom S'.en) g w x v->mJ (dom E) (g.all f) w y v:=by
  intro c x y v h ho hv;cases c with
  | dat c =>
   obtain⟨b,hq,rfl⟩:=h;unfold CT.quiet at hq;split at hq
   · rename_i b' hb;cases hq;obtain⟨L,hL⟩:=Rd.plain_some hb;obtain⟨⟨F,hF,hFI⟩,_⟩:=CT.into_shared hI.mem hv hL;refine CT.cell_rep hF λq hq=>(hFI q hq).elim id λ⟨k,hk,_⟩=>?_;simp at hk
   · cases hq
  | own n =>
   obtain⟨rfl,hm,_⟩:=h;obtain⟨e,m,hx⟩:=ye hnd ho;have:=hf n
   unfold vP at this;rw[hx]at this;obtain⟨x0,xs,h1,h2,h3⟩:=this;obtain⟨z,hz,hz'⟩:=zf (uf hσ) hm;rw[h1]at hz;cases hz;have : x=x0 := by
    rcases hz' with h|⟨r, h, h'⟩
    · exact h
    · exact h.trans h'.symm
   subst this;exact⟨hdome n _ hx,h3.loc v hv⟩
  | same n =>
   obtain⟨rfl,rfl⟩:=h;obtain⟨hd,rfl⟩:=hv;obtain⟨h1,h2,_⟩:=hdm n ho hd;exact⟨h1,h2.symm⟩
  | box n o =>
   obtain⟨rfl,rfl⟩:=h;obtain⟨hd,b,hb,e⟩:=hv;obtain⟨h1,h2,_⟩:=hdm n ho hd;exact⟨h1,b,h2.trans hb,e⟩
  | nil=>obtain⟨rfl,rfl⟩:=h;exact hv
  | kid r j e =>
   obtain⟨xs,rfl,rfl⟩:=h;obtain⟨hsh,hd,b,o,len,cap,i,k1,k2,k3,k4⟩:=hv;obtain⟨h1,h2,h3⟩:=hdm r ho hd;exact⟨hsh,h1,b,o,len,cap,i,h2.trans k1,k2,k3,by rw[show (g.all f).esz r=g.esz r from h3];exact k4⟩
  | undef=>obtain rfl:=h;trivial
  | fn q cs =>
   obtain⟨rfl,rfl⟩:=h;obtain⟨vs,e,k⟩:=hv;refine⟨vs,e,?_⟩;have key:∀(l:List mF) (m:List Value),(∀n∈l,((mG S.en n).isSome||qB s.en n)=true)->mQ (λn u=>dom S'.en n/\(∃b,g.loc n=.pointer (some ⟨b,0,none⟩))/\u=g.loc n) l m ->
    mQ (λn u=>dom E n/\(∃b,(g.all f).loc n=.pointer (some ⟨b,0,none⟩))/\u=(g.all f).loc n) l m:=by
    intro l
    induction l with
    | nil=>intro m _ h;cases m with
     | nil=>trivial
     | cons _ _=>exact h.elim
    | cons n l ih=>intro m hl h;cases m with
     | nil=>exact h.elim
     | cons u m =>
      obtain⟨hd,⟨b,hb⟩,hu⟩:=h.1;obtain⟨h1,h2,_⟩:=hdm n (hl n (by simp)) hd;exact⟨⟨h1,⟨b,h2.trans hb⟩,hu.trans h2.symm⟩,ih m (λk hk=>hl k (by simp[hk])) h.2⟩
   exact key cs _ (λn hn=>all_eq_true.1 ho n hn) k
 have g2:∀c x y,ud S' (s.sigma S') c x y->ok c=true->oN (dom E) y:=by
  intro c x y h ho;cases c with
  | dat c=>obtain⟨b,_,rfl⟩:=h;exact CT.cell_in c b
  | own n =>
   obtain⟨rfl,_,_⟩:=h;obtain⟨e,m,hx⟩:=ye hnd ho;intro k hk;simp[Cell.refs]at hk;subst hk;exact hdome k _ hx
  | same n=>obtain⟨rfl,rfl⟩:=h;intro k hk;simp[Cell.refs]at hk;subst hk;exact hdmE k ho
  | box n o=>obtain⟨rfl,rfl⟩:=h;intro k hk;simp[Cell.refs]at hk;subst hk;exact hdmE k ho
  | nil=>obtain⟨rfl,rfl⟩:=h;exact mX rfl
  | kid r j e=>obtain⟨xs,rfl,rfl⟩:=h;intro k hk;simp[Cell.refs]at hk;subst hk;exact hdmE k ho
  | undef=>obtain rfl:=h;exact mX rfl
  | fn q cs=>obtain⟨rfl,rfl⟩:=h;intro k hk;exact hdmE k (all_eq_true.1 ho k hk)
 have hokbox:∀n ss,mG s.en n=some (.box ss)->ss.all ok=true:=λn ss h=>by
  have:=all_eq_true.1 hoke _ (nz h);exact this
 have hlook:∀n e,mG E n=some e ->
  (∃c m x xs,mG s.en n=some (.root c m)/\e=.root c m xs/\mG (s.sigma S') n=some x/\pu S' c m x=some xs/\yo w S' g c m x xs (f n)) \/
  (∃c m m' xs,mG s.en n=some (.keep c m)/\e=.root c m xs/\mG S'.en n=some (.root c m' xs)/\(m=true->m'=true)) \/
  (∃ss cs cs',mG s.en n=some (.box ss)/\e=.box cs'/\mG S'.en n=some (.box cs)/\rS S' (s.sigma S') ss cs cs') \/
  (mG s.en n=none/\((mG M n≠none/\e=.gone)\/(mG M n=none/\mG S.en n=some e/\mG S'.en n=some e))) \/
  (∃c xs,mG s.en n=some (.tree c)/\e=.tree c xs/\mG S'.en n=some (.tree c xs)) \/
  (∃c ys,mG s.en n=some (.pop c)/\e=.pop c ys/\mG S'.en n=some (.pop c ys)):=by
  intro n e he;rw[hEd,nq]at he;have h0:=hen n
  unfold qH at h0;cases hs:mG s.en n with
  | none =>
   rw[hs]at h0;simp only at h0;rw[h0]at he;refine .inr (.inr (.inr (.inl ⟨rfl,?_⟩)));rw[nq]at he;cases hM:mG M n with
   | some y=>rw[hM]at he;cases he;exact .inl ⟨(λh=>by cases h),hT.gone n e hM⟩
   | none =>
    rw[hM]at he;have he:mG S.en n=some e:=he
    exact .inr ⟨rfl,he,(hT.en n hM (by unfold dom;rw[he];simp)).trans he⟩
  | some x =>
   rw[hs]at h0;cases x with
   | root c m =>
    obtain⟨x,xs,h1,h2,h3⟩:=h0;rw[h3]at he;cases he;have:=hf n
    unfold vP at this;rw[hs]at this;obtain⟨x',xs',k1,k2,k3⟩:=this;rw[h1]at k1;cases k1;rw[h2]at k2;cases k2;exact .inl ⟨c,m,x,xs,rfl,rfl,h1,h2,k3⟩
   | keep c m =>
    obtain⟨xs,h2,h3⟩:=h0;rw[h3]at he;cases he;obtain⟨m',k1,k2⟩:=Bv h2;exact .inr (.inl ⟨c,m,m',xs,rfl,rfl,k1,k2⟩)
   | box ss =>
    obtain⟨cs,cs',h1,h2,h3⟩:=h0;rw[h2]at he;cases he;exact .inr (.inr (.inl ⟨ss,cs,cs',rfl,rfl,h1,h3⟩))
   | tree c =>
    obtain⟨xs,h1,h2⟩:=h0;rw[h2]at he;cases he;exact .inr (.inr (.inr (.inr (.inl ⟨c,xs,rfl,rfl,h1⟩))))
   | pop c =>
    obtain⟨ys,h1,h2⟩:=h0;rw[h2]at he;cases he;exact .inr (.inr (.inr (.inr (.inr ⟨c,ys,rfl,rfl,h1⟩))))
 have hbox_old:∀n cs,mG S.en n=some (.box cs)->∀c∈cs,oN (dom S.en) c:=hcS.box;have hMS:MS w0 T N E (g.all f) w:=by
  refine MS.rename (en:=S'.en) hI.ms rfl (λn e he=>?_) (nD S S' M s) (λn e he ha=>?_) (λn e he ht=>?_) (λn m k h h'=>nD.inj hσ hT.freed h h') (λn hn=>?_)
  · rcases hlook n e he with ⟨c,m,x,xs,h1,rfl,h2,h3,h4⟩|⟨c,m,m',xs,h1,rfl,h2,h3⟩|⟨ss,cs,cs',h1,rfl,h2,h3⟩|⟨h1,h2⟩|⟨c,xs,h1,rfl,h2⟩|⟨c,ys,h1,rfl,h2⟩
    · exact⟨h4.esz,h4.rep,h4.imm,h4.nod⟩
    · obtain⟨k1,k2,k3,k4⟩:=nX hI.mem h2;obtain⟨e1,e2,e3,e4⟩:=hold n (by unfold dom;rw[h2];simp) (λe m h=>by rw[h1]at h;cases h);refine⟨e2.trans k1,?_,?_,λhm=>?_⟩
      · show oD w c xs (f n).loc (f n).top (f n).nest;rw[e1,e3,e4];exact k2
      · show ∀b∈(f n).nest,g.I b;rw[e4];exact k3
      · show (f n).nest.Nodup;rw[e4];exact k4 (h3 hm)
    · obtain⟨b,us,k1,k2,k3,k4⟩:=hI.mem.rep n _ h2;obtain⟨e1,e2,e3,e4⟩:=hold n (by unfold dom;rw[h2];simp) (λe m h=>by rw[h1]at h;cases h);exact⟨b,us,e3.trans k1,e1.trans k2,k3,uG g1 h3 (hokbox n ss h1) k4⟩
    · rcases h2 with ⟨_,rfl⟩|⟨_,h3,h4⟩
      · trivial
      · have hrep:=hI.mem.rep n e h4;obtain⟨e1,e2,e3,e4⟩:=hold n (by unfold dom;rw[h4];simp) (λe m h=>by rw[h1]at h;cases h);cases e with
        | gone=>trivial
        | fwd c xs=>show sk _ w (.sl c) xs (f n).loc;rw[e1];exact hrep
        | root c m xs =>
         obtain⟨k1,k2,k3,k4⟩:=hrep;refine⟨e2.trans k1,?_,?_,λhm=>?_⟩
         · show oD w c xs (f n).loc (f n).top (f n).nest;rw[e1,e3,e4];exact k2
         · show ∀b∈(f n).nest,g.I b;rw[e4];exact k3
         · show (f n).nest.Nodup;rw[e4];exact k4 hm
        | box cs =>
         obtain⟨b,us,k1,k2,k3,k4⟩:=hrep;refine⟨b,us,e3.trans k1,e1.trans k2,k3,?_⟩;exact mQ.imp (λ_ _ h=>h.mono hle) (qG k4 (hbox_old n cs h3))
        | frz c xs =>
         obtain⟨k1,k2,k3,k4,k5⟩:=hrep;refine⟨e2.trans k1,e3.trans k2,?_,?_,?_⟩
         · show CT.Rep w (.sl c) xs (f n).loc (f n).nest;rw[e1,e4];exact k3
         · show ∀b∈(f n).nest,g.I b;rw[e4];exact k4
         · show (f n).nest.Nodup;rw[e4];exact k5
        | pop c ys =>
         obtain⟨k1,k2,⟨F,k3,k4,k5⟩,k6⟩:=hrep;exact⟨e2.trans k1,e3.trans k2,⟨F,by show slRep w c.len (vb w c) ys (f n).loc F;rw[e1];exact k3,k4,by show F.tail=(f n).nest;rw[e4];exact k5⟩,by show (f n).nest.Nodup;rw[e4];exact k6⟩
        | tree c xs =>
         obtain⟨k1,k2,k3⟩:=hrep;refine⟨e2.trans k1,?_,?_⟩
         · show pJ w c xs (f n).loc (f n).nest (g.rows n);rw[e1,e4];exact k2
         · show (f n).nest.Nodup;rw[e4];exact k3
    · obtain⟨k1,k2,k3⟩:=hI.mem.rep n _ h2;obtain⟨e1,e2,e3,e4⟩:=hold n (by unfold dom;rw[h2];simp) (λe m h=>by rw[h1]at h;cases h);refine⟨e2.trans k1,?_,?_⟩
      · show pJ w c xs (f n).loc (f n).nest (g.rows n);rw[e1,e4];exact k2
      · show (f n).nest.Nodup;rw[e4];exact k3
    · obtain⟨k1,k2,⟨F,k3,k4,k5⟩,k6⟩:=hI.mem.rep n _ h2;obtain⟨e1,e2,e3,e4⟩:=hold n (by unfold dom;rw[h2];simp) (λe m h=>by rw[h1]at h;cases h);exact⟨e2.trans k1,e3.trans k2,⟨F,by show slRep w c.len (vb w c) ys (f n).loc F;rw[e1];exact k3,k4,by show F.tail=(f n).nest;rw[e4];exact k5⟩,by show (f n).nest.Nodup;rw[e4];exact k6⟩
  · have hkeep:∀{k:mF} {e':Entry},mG S'.en n=some e'->(e.alive=true->e'.alive=true)->(e.deep=true->e'.deep=true)->(∀e m,mG s.en n≠some (.root e m))->nD S S' M s n n ->
     ((g.all f).top n=none/\(g.all f).nest n=[])\/∃k f',mG S'.en k=some f'/\(e.alive=true->f'.alive=true)/\(e.deep=true->f'.deep=true)/\(g.all f).top n=g.top k/\(∀b∈(g.all f).nest n,b∈g.nest k)/\nD S S' M s n k:=by
     intro _ e' h1 h2 h3 h4 h5;obtain⟨e1,e2,e3,e4⟩:=hold n (by unfold dom;rw[h1];simp) h4;exact .inr ⟨n,e',h1,h2,h3,e3,λb hb=>by rw[←e4];exact hb,h5⟩
    rcases hlook n e he with ⟨c,m,x,xs,h1,rfl,h2,h3,h4⟩|⟨c,m,m',xs,h1,rfl,h2,h3⟩|⟨ss,cs,cs',h1,rfl,h2,h3⟩|⟨h1,h2⟩|⟨c,xs,h1,rfl,h2⟩|⟨c,ys,h1,rfl,h2⟩
    · rcases h4.old with ⟨k1,k2⟩|⟨r,m',ys,k1,k2,k3,k4,k5⟩
      · exact .inl ⟨k1,k2⟩
      · exact .inr ⟨r,_,k2,λ_=>rfl,k5,k3,k4,.inl ⟨c,m,x,c,m',ys,h1,h2,k1,k2⟩⟩
    · exact hkeep (k:=n) h2 (λ_=>rfl) h3 (λe m h=>by rw[h1]at h;cases h) (.inr (.inl ⟨rfl,c,m,h1⟩))
    · exact hkeep (k:=n) h2 (λ_=>rfl) (λh=>by cases h) (λe m h=>by rw[h1]at h;cases h) (.inr (.inr (.inl ⟨rfl,ss,cs,h1,h2⟩)))
    · rcases h2 with ⟨_,rfl⟩|⟨hM,h3,h4⟩
      · rcases ha with ha|ha<;>cases ha
      · exact hkeep (k:=n) h4 id id (λe m h=>by rw[h1]at h;cases h) (.inr (.inr (.inr (.inl ⟨rfl,h1,hM,by unfold dom;rw[h3];simp⟩))))
    · rcases ha with ha|ha<;>cases ha
    · exact hkeep (k:=n) h2 (λh=>by cases h) (λ_=>rfl) (λe m h=>by rw[h1]at h;cases h) (.inr (.inr (.inr (.inr ⟨rfl,c,ys,h1,h2⟩))))
  · rcases hlook n e he with ⟨c,m,x,xs,h1,rfl,h2,h3,h4⟩|⟨c,m,m',xs,h1,rfl,h2,h3⟩|⟨ss,cs,cs',h1,rfl,h2,h3⟩|⟨h1,h2⟩|⟨c,xs,h1,rfl,h2⟩|⟨c,ys,h1,rfl,h2⟩
    · cases ht
    · cases ht
    · cases ht
    · rcases h2 with ⟨_,rfl⟩|⟨hM,h3,h4⟩
      · cases ht
      · exact⟨⟨e,h4,ht⟩,(hold n (by unfold dom;rw[h4];simp) (λe m h=>by rw[h1]at h;cases h)).2.2.2⟩
    · exact⟨⟨_,h2,rfl⟩,(hold n (by unfold dom;rw[h2];simp) (λe m h=>by rw[h1]at h;cases h)).2.2.2⟩
    · cases ht
  · show ((f n).loc).oneCell'=true;have:=hf n
    unfold vP at this;split at this
    · obtain⟨x,xs,_,_,h⟩:=this;exact h.one
    · by_cases hd:dom S'.en n
      · rw[(this.1 hd).1];exact hI.mem.one n hd
      · rw[this.2 hd];rfl
 have htmv:∀t,(∃agg ss cs,mG s.tm t=some (agg,ss)/\qM agg (S'.tmp t)=true/\(s.over ⟨W++S.tm,M++S.en⟩ d).tmp t=pb agg cs/\rS S' (s.sigma S') ss (S'.tmp t).cells cs) \/
  (s.over ⟨W++S.tm,M++S.en⟩ d).tmp t=.undef\/(S'.tmp t=S.tmp t/\(s.over ⟨W++S.tm,M++S.en⟩ d).tmp t=S.tmp t):=by
  intro t;have h0:=htm t
  unfold vO at h0;unfold St.tmp;rw[hTd,nq];cases hs:mG s.tm t with
  | some q =>
   obtain⟨agg,ss⟩:=q;rw[hs]at h0;obtain⟨h1,cs,h2,h3⟩:=h0;rw[h2];exact .inl ⟨agg,ss,cs,rfl,h1,rfl,h3⟩
  | none =>
   rw[hs]at h0;simp only at h0;rw[h0,nq];cases hW:mG W t with
   | some v=>obtain rfl:=hT.undef t v hW;exact .inr (.inl rfl)
   | none=>exact .inr (.inr ⟨hT.tm t hW,rfl⟩)
 have hoktm:∀t agg ss,mG s.tm t=some (agg,ss)->ss.all ok=true:=λt agg ss h=>by
  have:=all_eq_true.1 hokt _ (nz h);exact this
 refine⟨g.all f,⟨by rw[hE];exact hMS.mem,by rw[hE];exact hMS.since,λt=>?_,hI.plain⟩,hle,⟨λt=>?_,?_⟩⟩
 · rw[hE];rcases htmv t with ⟨agg,ss,cs,h1,h2,h3,h4⟩|h|⟨h1,h2⟩
   · rw[h3];have hv:=hI.tmps t
     have hal:=hoktm t agg ss h1;cases hx:S'.tmp t with
     | cell c =>
      rw[hx]at h2 h4 hv;cases agg with
      | true=>cases h2
      | false =>
       have hl:=xh h4;have:=uG (vs:=[a.tmps.getD t undef]) g1 h4 hal (show mQ _ [c] _ from⟨hv,trivial⟩)
       cases cs with
       | nil=>simp[AV.cells]at hl
       | cons y ys=>cases ys with
        | nil=>exact this.1
        | cons _ _=>simp[AV.cells]at hl
     | agg ds =>
      rw[hx]at h2 h4 hv;cases agg with
      | false=>cases h2
      | true =>
       obtain⟨vs,e,k⟩:=hv;have:=uG g1 h4 hal k
       have hav:pb true cs=.agg cs:=by cases cs<;>rfl
       rw[hav];exact⟨vs,e,this⟩
     | tup l=>rw[hx]at h2;cases agg<;>cases h2
   · rw[h];exact trivial
   · rw[h2];have hv:=hI.tmps t
     rw[h1]at hv;exact (hv.restrict (hcS.tmp t)).mono hle
 · rw[hE];rcases htmv t with ⟨agg,ss,cs,h1,h2,h3,h4⟩|h|⟨h1,h2⟩
   · rw[h3];have hin:=yp g2 h4 (hoktm t agg ss h1)
     have:=vJ (agg:=agg) hin;cases hav:pb agg cs with
     | cell c=>rw[hav]at this;exact this
     | agg ds=>rw[hav]at this;exact this
     | tup l=>rw[hav]at this;exact this.elim
   · rw[h];exact mX rfl
   · rw[h2];exact (hcS.tmp t).mono hdomS
 · intro n cs hn c hc;rw[hE]at hn ⊢;rcases hlook n _ hn with ⟨_,_,_,_,_,h,_⟩|⟨_,_,_,_,_,h,_⟩|⟨ss,cs1,cs',h1,h,h2,h3⟩|⟨h1,h2⟩|⟨_,_,_,h,_⟩|⟨_,_,_,h,_⟩
   · cases h
   · cases h
   · cases h;exact yp g2 h3 (hokbox n ss h1) c hc
   · rcases h2 with ⟨_,h⟩|⟨_,h3,_⟩
     · cases h
     · exact (hbox_old n cs h3 c hc).mono hdomS
   · cases h
   · cases h
end Go.V
namespace Go.V
variable {P:Program} {w0:World} {T N:Nat->Prop} {S S' S1 S2:St} {g g1:Gh} {w w1 w':World} {a a':Act} {G:o9} {nt:Nat} {ann:List (Nat×mO)}

theorem rN.refl (S:St):rN S S:=⟨⟨[],rfl⟩,⟨[],rfl⟩⟩
theorem rN.trans (h:rN S S1) (k:rN S1 S2):rN S S2:=by
 obtain⟨⟨x,hx⟩,hy⟩:=h;obtain⟨⟨z,hz⟩,ht⟩:=k;exact⟨⟨z++x,by rw[hz,hx,append_assoc]⟩,vL ht hy⟩
theorem At.trans {D0:mF->Prop} {g0:Gh} {w00:World} (hle:Le D0 g0 w00 (dom S.en) g w) (h:At w0 T N nt (dom S.en) g w S' a' w'):At w0 T N nt D0 g0 w00 S' a' w':=by
 obtain⟨g',h1,h2,h3⟩:=h;exact⟨g',h1,h2,hle.trans h3⟩
theorem xi {α β:Type} {step:α->Option (α⊕β)} {x:α} {y:β} (h:loop step x=some y):∃k,pr step k x=some y:=by
 unfold loop at h;split at h
 · exact⟨_,h⟩
 · cases h

theorem po:∀{l:List (mF×pq)} {n:mF} {e:Entry},mG (ot l) n=some e->e=.gone
 | [],n,e,h=>by cases h
 | (k,.box ss)::l,n,e,h=>by
  simp only[ot,mR]at h;split at h
  · cases h;rfl
  · exact po h
 | (k,.keep c m)::l,n,e,h=>by
  simp only[ot,mR]at h;split at h
  · cases h;rfl
  · exact po h
 | (k,.root c m)::l,n,e,h=>po (l:=l) h
 | (k,.tree c)::l,n,e,h=>by
  simp only[ot,mR]at h;split at h
  · cases h;rfl
  · exact po h
 | (k,.pop c)::l,n,e,h=>by
  simp only[ot,mR]at h;split at h
  · cases h;rfl
  · exact po h
theorem sv:∀{l:List (mF×Cell)} {n:mF} {e:Entry},mG (ql l) n=some e->e=.gone
 | [],n,e,h=>by cases h
 | (k,x)::l,n,e,h=>by
  simp only[ql]at h;split at h
  · rw[mR]at h;split at h
    · cases h;rfl
    · exact sv h
  · exact sv h
theorem As {L:mO} {n:mF} {e:Entry} (h:mG (L.mods S) n=some e):e=.gone:=by
 unfold mO.mods at h;rw[nq]at h;split at h
 · rename_i hx;cases h;exact po hx
 · rw[nq]at h;split at h
   · rename_i hx;cases h;exact po hx
   · rw[nq]at h;split at h
     · rename_i hx;cases h;cases hb:L.back with
       | none=>rw[hb]at hx;cases hx
       | some s=>rw[hb]at hx;exact po hx
     · exact sv h
theorem AK {l:List (mF×pq)} {n:mF} (h:qB l n=true):n∈(ot l).map (·.1):=by
 induction l with
 | nil=>cases h
 | cons p l ih =>
  obtain⟨k,x⟩:=p;simp only[qB,List.any_cons,Bool.or_eq_true,aT]at h;rcases h with ⟨h1,h2⟩|h
  · obtain rfl:=Nat.eq_of_beq_eq_true h1;cases x with
    | root c m=>cases h2
    | keep c m=>simp[ot]
    | tree c=>simp[ot]
    | pop c=>simp[ot]
    | box ss=>simp[ot]
  · have:=ih h;cases x with
    | root c m=>exact this
    | keep c m=>exact mem_cons_of_mem _ this
    | tree c=>exact mem_cons_of_mem _ this
    | pop c=>exact mem_cons_of_mem _ this
    | box ss=>exact mem_cons_of_mem _ this
theorem zU {l:List (mF×Cell)} {p:mF×Cell} {r:mF} (hp:p∈l) (hr:pt p.2=some r):r∈(ql l).map (·.1):=by
 induction l with
 | nil=>simp at hp
 | cons q l ih =>
  obtain⟨k,x⟩:=q;simp only[ql];rcases mem_cons.1 hp with rfl|hp
  · simp only at hr;rw[hr];simp
  · split
    · exact mem_cons_of_mem _ (ih hp)
    · exact ih hp
theorem wi {L:mO} {n:mF} (h:n∈(ot L.head.en).map (·.1)\/n∈(ot L.out.en).map (·.1)\/n∈(A9 L.back).map (·.1)\/n∈(ql (L.head.sigma S)).map (·.1)):mG (L.mods S) n≠none:=by
 rw[←p9];unfold mO.mods;simp only[map_append,mem_append];rcases h with h|h|h|h
 · exact .inl h
 · exact .inr (.inl h)
 · exact .inr (.inr (.inl h))
 · exact .inr (.inr (.inr h))
theorem zh:∀{c:Code} {t:Nat} {v:AV},(t,v)∈rK c->v=.undef:=by
 have hf:∀(l:List (Nat×Oper)) (t:Nat) (v:AV),(t,v)∈p6 l->v=.undef:=by
  intro l
  induction l with
  | nil=>intro t v h;simp[p6]at h
  | cons p l ih =>
   intro t v h;obtain⟨i,o⟩:=p;simp only[p6]at h;split at h
   · rcases mem_cons.1 h with h|h
     · exact (Prod.mk.inj h).2
     · exact ih t v h
   · exact ih t v h
 intro c
 induction c with
 | region id ops draw=>intro t v h;exact hf _ t v h
 | seq x y ihx ihy=>intro t v h;exact (mem_append.1 h).elim ihx ihy
 | cond o x y ihx ihy=>intro t v h;exact (mem_append.1 h).elim ihx ihy
 | block i x ih=>intro t v h;exact ih h
 | loop x ih=>intro t v h;exact ih h
 | _=>intro t v h;simp[rK]at h
theorem q8:∀(l:List (mF×pq)) (z:mI (nP l)),(oQ l z).map (·.1)=l.map (·.1)
 | [],z=>rfl
 | (n,.root e m)::l,z=>congrArg (n :: ·) (q8 l _)
 | (n,.keep e m)::l,z=>congrArg (n :: ·) (q8 l _)
 | (n,.box ss)::l,z=>congrArg (n :: ·) (q8 l _)
 | (n,.tree e)::l,z=>congrArg (n :: ·) (q8 l _)
 | (n,.pop e)::l,z=>congrArg (n :: ·) (q8 l _)
theorem wU:∀(l:List (Nat×Bool×List nZ)) (R:List Cs) (z:mI (rQ l R)),(pH l R z).1.map (·.1)=l.map (·.1)
 | [],R,z=>rfl
 | (t,agg,ss)::l,R,z=>congrArg (t :: ·) (wU l R _)
theorem vQ {α:Type} {old nw:List (Nat×α)}:xH old (nw++old)=nw:=by
 unfold xH;rw[List.length_append,Nat.add_sub_cancel,List.take_left]
theorem zi {α:Type} {l:List (Nat×α)} {n:Nat} (h:∀p∈l,p.1≠n):mG l n=none:=by
 cases hf:mG l n with
 | none=>rfl
 | some x=>exact absurd rfl (h _ (nz hf))
def mO.has (L:mO) (s:nN):Prop:=s=L.head\/s=L.out\/L.back=some s
theorem mO.has_ok {L:mO} {s:nN} {body:Code} (h:L.has s) (hk:L.okAt body S=true):s.okAt S=true:=by
 simp only[mO.okAt,aT]at hk;obtain⟨h1,h2,h3,h4⟩:=hk;rcases h with rfl|rfl|h
 · exact h1
 · exact h2
 · rw[h]at h4;exact h4
theorem mO.has_kept {L:mO} {s:nN} (h:L.has s) {n:mF} (hn:qB s.en n=true):mG (L.mods S) n≠none:=by
 have:=AK hn;rcases h with rfl|rfl|h
 · exact wi (.inl this)
 · exact wi (.inr (.inl this))
 · exact wi (.inr (.inr (.inl (by rw[h];exact this))))
theorem tL.entry {L:mO} {body:Code} (hk:L.okAt body S=true):tL S S (L.mods S) (rK body) L.head:=by
 refine⟨λn e h=>As h,λt v h=>zh (nz h),λn h=>h,λn _ _=>rfl,λt _=>rfl,λn h=>mO.has_kept (.inl rfl) h,mO.has_ok (.inl rfl) hk,?_⟩;refine all_eq_true.2 λp hp=>?_;split
 · rfl
 · rename_i r hr;split
   · rfl
   · have:=wi (L:=L) (S:=S) (.inr (.inr (.inr (zU hp hr))));cases h:mG (L.mods S) r with
     | none=>exact absurd h this
     | some _=>rfl
theorem tL.behind {L:mO} {body:Code} {d:L.head.den} {s:nN} (hk:L.okAt body S=true) (hs:L.has s) (hx:rN (L.head.over (L.base body S) d) S') (hn:L.okNew body S (L.head.over (L.base body S) d) S'=true) (hf:Go.V.freed S (L.mods S) (s.sigma S')=true) :
 tL S S' (L.mods S) (rK body) s:=by
 obtain⟨⟨nw,hen⟩,nt,htm⟩:=hx;have hE:S'.en=nw++((L.head.st d).en++(L.mods S++S.en)):=hen
 have hT:S'.tm=nt++((L.head.st d).tm++(rK body++S.tm)):=htm;have hk':=hk
 simp only[mO.okAt,aT]at hk';have hk1:=hk'.1
 simp only[nN.okAt,aT]at hk1;simp only[mO.okNew,aT]at hn;rw[hen,htm,vQ,vQ]at hn;refine⟨λn e h=>As h,λt v h=>zh (nz h),λn h=>?_,λn hm hd=>?_,λt ht=>?_,λn h=>mO.has_kept hs h,mO.has_ok hs hk,hf⟩
 · rw[hE];exact pd _ _ _ (pd _ _ _ (pd _ _ _ h))
 · rw[hE,nq,zi λp hp he=>?_]
   · simp only;rw[nq];have:mG (L.head.st d).en n=none:=by
      cases hf:mG (L.head.st d).en n with
      | none=>rfl
      | some y =>
       exfalso;have h1:n∈(oQ L.head.en (pH L.head.tm (nP L.head.en) d).2).map (·.1):=p9.2 (by rw[show mG (oQ L.head.en (pH L.head.tm (nP L.head.en) d).2) n=some y from hf];simp)
       rw[q8]at h1;obtain⟨p,hp,rfl⟩:=mem_map.1 h1;obtain⟨k,x⟩:=p;cases x with
       | root e m=>exact hd (ph hk1.1 hp)
       | keep e m=>exact mO.has_kept (S:=S) (L:=L) (.inl rfl) (uF (qy hk1.2.1 hp) (by simp)) hm
       | tree e=>exact mO.has_kept (S:=S) (L:=L) (.inl rfl) (uF (qy hk1.2.1 hp) (by simp)) hm
       | pop e=>exact mO.has_kept (S:=S) (L:=L) (.inl rfl) (uF (qy hk1.2.1 hp) (by simp)) hm
       | box ss=>exact mO.has_kept (S:=S) (L:=L) (.inl rfl) (uF (qy hk1.2.1 hp) (by simp)) hm
     rw[this];simp only;rw[nq,hm]
   · have:=all_eq_true.1 hn.1 p hp;rw[he]at this;split at this
     · rename_i h;exact hd h
     · rw[hm]at this;cases this
 · unfold St.tmp;rw[hT,nq,zi λp hp he=>?_]
   · simp only;rw[nq];have:mG (L.head.st d).tm t=none:=by
      cases hf:mG (L.head.st d).tm t with
      | none=>rfl
      | some y =>
       exfalso;have h1:t∈(pH L.head.tm (nP L.head.en) d).1.map (·.1):=p9.2 (by rw[show mG (pH L.head.tm (nP L.head.en) d).1 t=some y from hf];simp)
       have h1:t∈L.head.tm.map (·.1):=(wU L.head.tm (nP L.head.en) d)▸h1;obtain⟨p,hp,rfl⟩:=mem_map.1 h1;have:=all_eq_true.1 hk'.2.2.1 p hp
       rw[ht]at this;cases this
     rw[this];simp only;rw[nq,ht]
   · have:=all_eq_true.1 hn.2 p hp;rw[he,ht]at this;cases this
theorem tM {A:Type} {L:mO} {body:Code} {H:St} {s:nN} {k:s.den->Option A} {r:A} (h:L.leave body S H s S' k=some r) :
 mP (s.seals S')=true/\L.okNew body S H (s.shut S')=true/\freed S (L.mods S) (s.sigma (s.shut S'))=true/\∃d,s.read (s.shut S')=some d/\k d=some r:=by
 unfold mO.leave at h;cases hc:(mP (s.seals S')&&(L.okNew body S H (s.shut S')&&freed S (L.mods S) (s.sigma (s.shut S'))))with
 | false=>rw[hc]at h;cases h
 | true =>
  rw[hc]at h;simp only[aT,cT]at hc h;cases hd:s.read (s.shut S')with
  | none=>rw[hd]at h;cases h
  | some d=>rw[hd]at h;exact⟨hc.1,hc.2.1,hc.2.2,d,rfl,h⟩
theorem yq {s:nN} {L:mO} {body:Code} {d:s.den}:rN S (s.over (L.base body S) d):=by
 refine⟨⟨(s.st d).en++L.mods S,?_⟩,⟨(s.st d).tm++rK body,?_⟩⟩
 · show (s.st d).en++(L.mods S++S.en)=_;rw[append_assoc]
 · show (s.st d).tm++(rK body++S.tm)=_;rw[append_assoc]
end Go.V
namespace Go.V
variable {P:Program} {w0:World} {T N:Nat->Prop} {S S' S1 S2:St} {g g1:Gh} {w w1 w':World} {a a':Act} {G:o9} {nt:Nat} {ann:List (Nat×mO)}

structure Dw (w0:World) (T N:Nat->Prop) (nt:Nat) (S:St) (g:Gh) (w:World) {A:Type} (K:tD A) (r:A) (Q:Exit->Act->World->Prop):Prop where
 n:∀S' a' w',nE S'->rN S S'->At w0 T N nt (dom S.en) g w S' a' w'->K.n S'=some r->Q .normal a' w'
 x:∀i S' a' w',nE S'->rN S S'->At w0 T N nt (dom S.en) g w S' a' w'->K.x i S'=some r->Q (.exit i) a' w'
 r:∀S' a' w',nE S'->rN S S'->At w0 T N nt (dom S.en) g w S' a' w'->K.r S'=some r->Q .ret a' w'
def rE (P:Program) (G:o9) (ann:List (Nat×mO)) (nt:Nat) (c:Code):Prop :=
 ∀{A:Type} {w0:World} {T N:Nat->Prop} {S:St} {K:tD A} {r:A} {g:Gh} {w:World} {a:Act} {Q:Exit->Act->World->Prop},qe nt c=true->nk w0 T N S g w a->nt<=a.tmps.size->nE S->qg G ann c S K=some r ->
  Dw w0 T N nt S g w K r Q->c.wp P Q a w
theorem nW {α β:Type} (step:α->Option (α⊕β)) (k:Nat) (x:α):pr step (k+1) x=(step x).bind (Sum.elim (pr step k) some):=by
 show (step x).bind _=_
 congr 1
 funext v
 cases v<;>rfl
theorem to {S:St}:∀{l:List nZ} {xs:List Cell},nb S.en false true (qO S l xs)
 | [],xs=>by intro p hp;cases xs<;>simp[qO]at hp
 | s::l,[]=>by intro p hp;cases s<;>simp[qO]at hp
 | s::l,x::xs=>by
  have ih:=to (S:=S) (l:=l) (xs:=xs);have key:∀{c:CT} {x:Cell},nb S.en false true (qO S (.dat c::l) (x::xs)):=by
   intro c x;cases c with
   | sl e=>cases x with
    | own r =>
     intro p hp;simp only[qO]at hp;rcases mem_append.1 hp with hp|hp
     · split at hp
       · rename_i e' m ys hr;obtain rfl:=mem_singleton.1 hp;exact .inl ⟨e',m,ys,hr,(λh=>by cases h),rfl⟩
       · simp at hp
     · exact ih p hp
    | _=>exact ih
   | _=>exact ih
  cases s with
  | dat c=>exact key
  | _=>exact ih
theorem wj {s:nN} {S:St}:nb S.en false true (s.seals S):=by
 refine nb.append (λp hp=>?_) (λp hp=>?_)
 · obtain⟨q,_,hp⟩:=mem_flatMap.1 hp;exact to p hp
 · obtain⟨q,_,hp⟩:=mem_flatMap.1 hp;split at hp
   · split at hp
     · exact to p hp
     · simp at hp
   · simp at hp
theorem zj {en l:List (mF×Entry)} {deep:Bool} (hu:nb en deep true l) (n:mF) (cs:List Cell):(n,Entry.box cs)∉l:=λh=>by
 rcases hu _ h with ⟨_,_,_,_,_,he⟩|⟨_,_,_,_,he⟩<;>cases he
def zk (en l:List (mF×Entry)):Prop:=∀p∈l,∃e xs,mG en p.1=some (.root e true xs)/\(p.2=.frz e xs\/p.2=.pop e (xs.map λx=>(true,x)))
theorem CI {S:St} {l:List mF}:zk S.en (S.cold l):=by
 intro p hp;obtain⟨r,_,hp⟩:=mem_flatMap.1 hp;split at hp
 · rename_i e xs hn;obtain rfl:=mem_singleton.1 hp;exact⟨e,xs,hn,.inl rfl⟩
 · simp at hp
theorem GC {S:St} {l:List mF}:zk S.en (S.pops l):=by
 intro p hp;obtain⟨r,_,hp⟩:=mem_flatMap.1 hp;split at hp
 · rename_i e xs hn;obtain rfl:=mem_singleton.1 hp;exact⟨e,xs,hn,.inr rfl⟩
 · simp at hp
theorem MS.coldAll {en:List (mF×Entry)} (h:MS w0 T N en g w):∀{l:List (mF×Entry)},zk en l->mP l=true->∃g',MS w0 T N (l++en) g' w/\Le (dom en) g w (dom (l++en)) g' w
 | [],_,_=>⟨g,h,Le.refl _ _ _⟩
 | (n,E)::l,hu,hd=>by
  obtain⟨h1,h2⟩:=o0 hd;obtain⟨g1,hM,hle⟩:=h.coldAll (l:=l) (λp hp=>hu p (mem_cons_of_mem _ hp)) h2;obtain⟨e,xs,hn,he⟩:=hu (n,E) mem_cons_self;have he:E=.frz e xs\/E=.pop e (xs.map λx=>(true,x)):=he
  rcases he with rfl|rfl
  · obtain⟨g2,hM2,hle2,_⟩:=hM.frz (n:=n) ((ne h1).trans hn);exact⟨g2,hM2,hle.trans hle2⟩
  · obtain⟨g2,hM2,hle2⟩:=hM.pop (n:=n) ((ne h1).trans hn);exact⟨g2,hM2,hle.trans hle2⟩
theorem CJ {c:Code} {l:List (mF×Entry)} {A:Type} {K:tD A} {r:A} {Q:Exit->Act->World->Prop} {a:Act} (hI:nk w0 T N S g w a) (hcS:nE S) (hg:Dw w0 T N nt S g w K r Q)
 (hm:∃g1,MS w0 T N (l++S.en) g1 w/\Le (dom S.en) g w (dom (l++S.en)) g1 w) (hnb:∀n cs,(n,Entry.box cs)∉l)
 (k:∀g1,nk w0 T N (S.more l) g1 w a->nE (S.more l)->Dw w0 T N nt (S.more l) g1 w K r Q->c.wp P Q a w):c.wp P Q a w:=by
 obtain⟨g1,hM,hle⟩:=hm;have hdom:∀n,dom S.en n->dom (S.more l).en n:=λn h=>qp h
 have hI1:nk w0 T N (S.more l) g1 w a:=⟨hM.mem,hM.since,λt=>(hI.tmps t).mono hle,hI.plain⟩;have hc1:nE (S.more l):=⟨λt=>(hcS.tmp t).mono hdom,λn cs h=>by
  have h:mG (l++S.en) n=some (.box cs):=h;rw[nq]at h;split at h
  · rename_i y hy;cases h;exact absurd (nz hy) (hnb n cs)
  · exact λc hc=>(hcS.box n cs h c hc).mono hdom⟩
 have hx:rN S (S.more l):=⟨⟨_,rfl⟩,⟨[],rfl⟩⟩;exact k g1 hI1 hc1 ⟨λS' a' w' h1 h2 h3 h4=>hg.n S' a' w' h1 (hx.trans h2) (At.trans hle h3) h4,λi S' a' w' h1 h2 h3 h4=>hg.x i S' a' w' h1 (hx.trans h2) (At.trans hle h3) h4,λS' a' w' h1 h2 h3 h4=>hg.r S' a' w' h1 (hx.trans h2) (At.trans hle h3) h4⟩
theorem Bw {l:List (mF×Entry)} {D:mF->Prop} {H:St} (hu:nb S'.en false true l) (hd:mP l=true) (hc:nE S') (he:rN H S') (hat:At w0 T N nt D g w S' a' w') :
 nE (S'.more l)/\rN H (S'.more l)/\At w0 T N nt D g w (S'.more l) a' w':=by
 obtain⟨g1,hI,hn,hle0⟩:=hat;obtain⟨g2,hM,hle,_⟩:=hI.ms.useAll hu hd;have hdom:∀n,dom S'.en n->dom (S'.more l).en n:=λn h=>qp h
 refine⟨⟨λt=>(hc.tmp t).mono hdom,λn cs h=>?_⟩,he.trans ⟨⟨_,rfl⟩,⟨[],rfl⟩⟩,g2,⟨hM.mem,hM.since,λt=>(hI.tmps t).mono hle,hI.plain⟩,hn,hle0.trans hle⟩;have h:mG (l++S'.en) n=some (.box cs):=h
 rw[nq]at h;split at h
 · rename_i y hy;cases h;exact absurd (nz hy) (zj hu n cs)
 · exact λc hc'=>(hc.box n cs h c hc').mono hdom
theorem xj {L:mO} {body:Code} (hb:rE P G ann nt body) (hbel:qe nt body=true) (hk:L.okAt body S=true) (hcS:nE S) {β:Type} {KX:L.head.den->Nat->St->Option (L.head.den⊕β)} {KR:L.head.den->St->Option (L.head.den⊕β)} {y:β}
 {Q:Exit->Act->World->Prop} {step:L.head.den->Option (L.head.den⊕β)}
 (hstep:∀d,step d=qg G ann body (L.head.over (L.base body S) d) ⟨λS'=>L.leave body S (L.head.over (L.base body S) d) L.head S' λd=>some (.inl d),KX d,KR d⟩)
 (hx:∀d i S' a' w' v,nE S'->rN (L.head.over (L.base body S) d) S'->At w0 T N nt (dom S.en) g w S' a' w'->KX d i S'=some v->(∀d',v≠.inl d')/\(v=.inr y->Q (.exit i) a' w'))
 (hr:∀d S' a' w' v,nE S'->rN (L.head.over (L.base body S) d) S'->At w0 T N nt (dom S.en) g w S' a' w'->KR d S'=some v->(∀d',v≠.inl d')/\(v=.inr y->Q .ret a' w'))
 (hkx:True):∀(k:Nat) (d:L.head.den) (a':Act) (w':World),pr step k d=some y->nE (L.head.over (L.base body S) d)->At w0 T N nt (dom S.en) g w (L.head.over (L.base body S) d) a' w'->Code.rounds P body Q k a' w'
 | 0,d,a',w',h,_,_=>by cases h
 | k+1,d,a',w',h,hc,hat=>by
  rw[nW]at h;rw[Option.bind_eq_some_iff]at h;obtain⟨v,hv,hgo⟩:=h;rw[hstep]at hv;obtain⟨g1,hI,hn,hle⟩:=hat;rw[rounds_succ];refine hb hbel hI hn hc hv ⟨λS' a2 w2 hc' he hat' hkn=>?_,λi S' a2 w2 hc' he hat' hkx=>?_,λS' a2 w2 hc' he hat' hkr=>?_⟩
  · obtain⟨hd1,hn1,hf1,d',hd',hinl⟩:=tM hkn;cases hinl;obtain⟨_,he,g2,hI2,hn2,hle2⟩:=Bw wj hd1 hc' he hat';have hT:=tL.behind hk (.inl rfl) he hn1 hf1
    obtain⟨g3,k1,k2,k3⟩:=wh hI2 hcS hT hd';refine xj hb hbel hk hcS hstep hx hr hkx k d' a2 w2 hgo k3 ⟨g3,k1,hn2,?_⟩;have hle3:=hle.trans hle2
    exact⟨k2.dom,λn hn=>(k2.loc n hn).trans (hle3.loc n hn),λn hn=>(k2.esz n hn).trans (hle3.esz n hn),λb hb=>k2.imm b (hle3.imm b hb),hle3.mem,λn hn=>(k2.rows n hn).trans (hle3.rows n hn)⟩
  · obtain⟨h1,h2⟩:=hx d i S' a2 w2 v hc' he (At.trans hle hat') hkx;cases v with
    | inl d'=>exact absurd rfl (h1 d')
    | inr b=>cases hgo;exact h2 rfl
  · obtain⟨h1,h2⟩:=hr d S' a2 w2 v hc' he (At.trans hle hat') hkr;cases v with
    | inl d'=>exact absurd rfl (h1 d')
    | inr b=>cases hgo;exact h2 rfl
theorem zV {L:mO} {body:Code} {s:nN} {d:L.head.den} {d':s.den} (hk:L.okAt body S=true) (hs:L.has s) (hcS:nE S) (hc':nE S') (he:rN (L.head.over (L.base body S) d) S') (hat:At w0 T N nt (dom S.en) g w S' a' w')
 (h0:mP (s.seals S')=true) (h1:L.okNew body S (L.head.over (L.base body S) d) (s.shut S')=true) (h2:freed S (L.mods S) (s.sigma (s.shut S'))=true) (h3:s.read (s.shut S')=some d') :
 nE (s.over (L.base body S) d')/\At w0 T N nt (dom S.en) g w (s.over (L.base body S) d') a' w':=by
 obtain⟨_,he,g2,hI2,hn2,hle2⟩:=Bw wj h0 hc' he hat;obtain⟨g3,k1,k2,k3⟩:=wh hI2 hcS (tL.behind hk hs he h1 h2) h3;exact⟨k3,g3,k1,hn2,⟨k2.dom,λn hn=>(k2.loc n hn).trans (hle2.loc n hn),λn hn=>(k2.esz n hn).trans (hle2.esz n hn),λb hb=>k2.imm b (hle2.imm b hb),hle2.mem,λn hn=>(k2.rows n hn).trans (hle2.rows n hn)⟩⟩
theorem Dx {A:Type} {id:Nat} {b:Code} {S:St} {K:tD A} (h:∀c,b≠.loop c):qg G ann (.block id b) S K=qg G ann b S ⟨K.n,λi S'=>cond (Nat.beq i id) (K.n S') (K.x i S'),K.r⟩:=by
 cases b with
 | loop c=>exact absurd rfl (h c)
 | _=>rfl
theorem rX {id:Nat} {b:Code} (hb:rE P G ann nt b) (h:∀c,b≠.loop c):rE P G ann nt (.block id b):=by
 intro A w0 T N S K r g w a Q hbel hI hn hc hr hg;rw[Dx h]at hr;refine wp_block (hb hbel hI hn hc hr ⟨hg.n,λi S' a' w' hc' he hat hk=>?_,hg.r⟩);show if i=id then Q .normal a' w' else Q (.exit i) a' w'
 have hk:cond (Nat.beq i id) (K.n S') (K.x i S')=some r:=hk;by_cases hid:i=id
 · subst hid;rw[show Nat.beq i i=true from Nat.beq_refl i]at hk;rw[if_pos rfl];exact hg.n S' a' w' hc' he hat hk
 · have hb:Nat.beq i id=false:=by cases hbb:Nat.beq i id with
    | false=>rfl
    | true=>exact absurd (Nat.eq_of_beq_eq_true hbb) hid
   rw[hb]at hk;rw[if_neg hid];exact hg.x i S' a' w' hc' he hat hk
theorem Ft {id:Nat} {body:Code} (hb:rE P G ann nt body) {A:Type} {w0:World} {T N:Nat->Prop} {S:St} {K:tD A} {r:A} {g:Gh} {w:World} {a:Act} {Q:Exit->Act->World->Prop} (hbel:qe nt body=true) (hI:nk w0 T N S g w a) (hn:nt<=a.tmps.size) (hcS:nE S)
 (hr:yj ann id body (λS K=>qg G ann body S K) S K=some r) (hg:Dw w0 T N nt S g w K r Q):(Code.block id (.loop body)).wp P Q a w:=by
 cases hL:mG ann id with
 | none =>
  have hr:(match mG ann id with|none=>none|some L=>_:Option A)=some r:=hr;rw[hL]at hr;cases hr
 | some L =>
  obtain⟨head,out,bk⟩:=L;cases bk with
  | none =>
   have hr:(match mG ann id with
    | none=>none
    | some L=>cond (L.okAt body S) (match L.head.read S with
     | none=>none
     | some d=>match L with
      | ⟨head,out,none⟩=>(loop (λd:head.den=>let H:=head.over (mO.base ⟨head,out,none⟩ body S) d
       qg G ann body H ⟨λS'=>mO.leave ⟨head,out,none⟩ body S H head S' λd=>some (.inl d),
        λi S'=>cond (Nat.beq i id) (mO.leave ⟨head,out,none⟩ body S H out S' λd=>some (.inr d)) none,λ_=>none⟩) d).bind
       λd=>K.n (out.over (mO.base ⟨head,out,none⟩ body S) d)
      | ⟨head,out,some back⟩=>_) none:Option A)=some r:=hr
   rw[hL]at hr;simp only at hr;cases hk:mO.okAt ⟨head,out,none⟩ body S with
   | false=>rw[hk]at hr;cases hr
   | true =>
    rw[hk]at hr;simp only[cT]at hr;cases hd:head.read S with
    | none=>rw[hd]at hr;cases hr
    | some d0 =>
     rw[hd]at hr;simp only at hr;rw[Option.bind_eq_some_iff]at hr;obtain⟨y,hy,hend⟩:=hr;obtain⟨k,hit⟩:=xi hy;obtain⟨g3,k1,k2,k3⟩:=wh hI hcS (tL.entry hk) hd;refine wp_block (wp_loop_rounds k (xj (L:=⟨head,out,none⟩) hb hbel hk hcS (w0:=w0) (T:=T) (N:=N) (g:=g) (w:=w) (β:=out.den) (KX:=λd i S'=>cond (Nat.beq i id) (mO.leave ⟨head,out,none⟩ body S (head.over (mO.base ⟨head,out,none⟩ body S) d) out S' λd=>some (.inr d)) none) (KR:=λ_ _=>none) (λd=>rfl) (λd i S' a' w' v hc' he hat hkx=>?_) (λd S' a' w' v hc' he hat hkr=>by cases hkr) trivial k d0 a w hit k3 ⟨g3,k1,hn,k2⟩));have hkx:cond (Nat.beq i id) (mO.leave ⟨head,out,none⟩ body S (head.over (mO.base ⟨head,out,none⟩ body S) d) out S' λd=>some (.inr d)) none=some v:=hkx
     cases hid:Nat.beq i id with
     | false=>rw[hid]at hkx;cases hkx
     | true =>
      have hkx':mO.leave ⟨head,out,none⟩ body S (head.over (mO.base ⟨head,out,none⟩ body S) d) out S' (λd=>some (.inr d))=some v:=by rw[hid]at hkx;exact hkx
      obtain rfl:=Nat.eq_of_beq_eq_true hid;obtain⟨e0,e1,e2,d',e3,e4⟩:=tM (L:=⟨head,out,none⟩) hkx';cases e4;refine⟨(λd h=>by cases h),λhv=>?_⟩;cases hv;obtain⟨f1,f2⟩:=zV (L:=⟨head,out,none⟩) hk (.inr (.inl rfl)) hcS hc' he hat e0 e1 e2 e3;show if i=i then Q .normal a' w' else _
      rw[if_pos rfl];exact hg.n _ a' w' f1 yq f2 hend
  | some back =>
   have hr:(match mG ann id with
    | none=>none
    | some L=>cond (L.okAt body S) (match L.head.read S with
     | none=>none
     | some d=>match L with
      | ⟨head,out,none⟩=>_
      | ⟨head,out,some back⟩=>(loop (β:=out.den⊕back.den) (λd:head.den=>let H:=head.over (mO.base ⟨head,out,some back⟩ body S) d
       qg G ann body H ⟨λS'=>mO.leave ⟨head,out,some back⟩ body S H head S' λd=>some (.inl d),
        λi S'=>cond (Nat.beq i id) (mO.leave ⟨head,out,some back⟩ body S H out S' λd=>some (.inr (.inl d))) none,
        λS'=>mO.leave ⟨head,out,some back⟩ body S H back S' λd=>some (.inr (.inr d))⟩) d).bind
       (Sum.elim (λd=>K.n (out.over (mO.base ⟨head,out,some back⟩ body S) d)) (λd=>K.r (back.over (mO.base ⟨head,out,some back⟩ body S) d)))) none:Option A)=some r:=hr
   rw[hL]at hr;simp only at hr;cases hk:mO.okAt ⟨head,out,some back⟩ body S with
   | false=>rw[hk]at hr;cases hr
   | true =>
    rw[hk]at hr;simp only[cT]at hr;cases hd:head.read S with
    | none=>rw[hd]at hr;cases hr
    | some d0 =>
     rw[hd]at hr;simp only at hr;rw[Option.bind_eq_some_iff]at hr;obtain⟨y,hy,hend⟩:=hr;obtain⟨k,hit⟩:=xi hy;obtain⟨g3,k1,k2,k3⟩:=wh hI hcS (tL.entry hk) hd;refine wp_block (wp_loop_rounds k (xj (L:=⟨head,out,some back⟩) hb hbel hk hcS (w0:=w0) (T:=T) (N:=N) (g:=g) (w:=w) (β:=out.den⊕back.den) (KX:=λd i S'=>cond (Nat.beq i id) (mO.leave ⟨head,out,some back⟩ body S (head.over (mO.base ⟨head,out,some back⟩ body S) d) out S' λd=>some (Sum.inr (Sum.inl d))) none) (KR:=λd S'=>mO.leave ⟨head,out,some back⟩ body S (head.over (mO.base ⟨head,out,some back⟩ body S) d) back S' λd=>some (Sum.inr (Sum.inr d))) (λd=>rfl) (λd i S' a' w' v hc' he hat hkx=>?_) (λd S' a' w' v hc' he hat hkr=>?_) trivial k d0 a w hit k3 ⟨g3,k1,hn,k2⟩))
     · have hkx:cond (Nat.beq i id) (mO.leave ⟨head,out,some back⟩ body S (head.over (mO.base ⟨head,out,some back⟩ body S) d) out S' λd=>some (.inr (.inl d))) none=some v:=hkx;cases hid:Nat.beq i id with
       | false=>rw[hid]at hkx;cases hkx
       | true =>
        have hkx':mO.leave ⟨head,out,some back⟩ body S (head.over (mO.base ⟨head,out,some back⟩ body S) d) out S' (λd=>some (Sum.inr (Sum.inl d)))=some v:=by rw[hid]at hkx;exact hkx
        obtain rfl:=Nat.eq_of_beq_eq_true hid;obtain⟨e0,e1,e2,d',e3,e4⟩:=tM (L:=⟨head,out,some back⟩) hkx';cases e4;refine⟨(λd h=>by cases h),λhv=>?_⟩;cases hv;obtain⟨f1,f2⟩:=zV (L:=⟨head,out,some back⟩) hk (.inr (.inl rfl)) hcS hc' he hat e0 e1 e2 e3;show if i=i then Q .normal a' w' else _
        rw[if_pos rfl];exact hg.n _ a' w' f1 yq f2 hend
     · obtain⟨e0,e1,e2,d',e3,e4⟩:=tM (L:=⟨head,out,some back⟩) hkr;cases e4;refine⟨(λd h=>by cases h),λhv=>?_⟩;cases hv;obtain⟨f1,f2⟩:=zV (L:=⟨head,out,some back⟩) hk (.inr (.inr rfl)) hcS hc' he hat e0 e1 e2 e3;exact hg.r _ a' w' f1 yq f2 hend
theorem Dy {S:St} {id:Nat}:nb S.en false true (uy ann id S):=by
 unfold uy;split
 · exact wj
 · intro p hp;simp at hp
theorem Bx {S:St} {id:Nat}:zk S.en (rr ann id S):=by
 unfold rr;split
 · exact λp hp=>(mem_append.1 hp).elim (CI p) (GC p)
 · intro p hp;simp at hp
theorem GD {id:Nat} {body:Code} (hb:rE P G ann nt body):rE P G ann nt (.block id (.loop body)):=by
 intro A w0 T N S K r g w a Q hbel hI hn hcS hr hg;have hr:cond (mP (rr ann id S)) (cond (mP (uy ann id (S.more (rr ann id S)))) (yj ann id body (λS K=>qg G ann body S K) ((S.more (rr ann id S)).more (uy ann id (S.more (rr ann id S)))) K) none) none=some r:=hr
 cases hd0:mP (rr ann id S)with
 | false=>rw[hd0]at hr;cases hr
 | true =>
 rw[hd0,cT]at hr;generalize hS1:S.more (rr ann id S)=S1 at hr;refine CJ (l:=rr ann id S) hI hcS hg (hI.ms.coldAll Bx hd0) (λn cs h=>by obtain⟨_,_,_,he⟩:=Bx _ h;rcases he with he|he<;>cases he) λg1 hI1 hc1 hg1=>?_;rw[hS1]at hI1 hc1 hg1;cases hd:mP (uy ann id S1)with
 | false=>rw[hd]at hr;cases hr
 | true =>
  rw[hd,cT]at hr;have hu:=Dy (ann:=ann) (S:=S1) (id:=id)
  obtain⟨g2,hM,hle,_⟩:=hI1.ms.useAll hu hd;refine CJ (l:=uy ann id S1) hI1 hc1 hg1 ⟨g2,hM,hle⟩ (zj hu) λg3 hI3 hc3 hg3=>?_;exact Ft hb hbel hI3 hn hc3 hr hg3

theorem Hq {x y:Code} (hx:rE P G ann nt x) (hy:rE P G ann nt y):rE P G ann nt (.seq x y):=by
 intro A w0 T N S K r g w a Q hb hI hn hc hr hg;have hb:(qe nt x&&qe nt y)=true:=hb
 rw[aT]at hb;have hr:qg G ann x S ⟨λS'=>qg G ann y S' K,K.x,K.r⟩=some r:=hr
 refine wp_seq (hx hb.1 hI hn hc hr ⟨λS1 a1 w1 hc1 he1 hat1 hk1=>?_,λi S1 a1 w1 hc1 he1 hat1 hk1=>hg.x i S1 a1 w1 hc1 he1 hat1 hk1,λS1 a1 w1 hc1 he1 hat1 hk1=>hg.r S1 a1 w1 hc1 he1 hat1 hk1⟩);obtain⟨g1,hI1,hn1,hle1⟩:=hat1;exact hy hb.2 hI1 hn1 hc1 hk1 ⟨λS2 a2 w2 hc2 he2 hat2 hk2=>hg.n S2 a2 w2 hc2 (he1.trans he2) (At.trans hle1 hat2) hk2,
  λi S2 a2 w2 hc2 he2 hat2 hk2=>hg.x i S2 a2 w2 hc2 (he1.trans he2) (At.trans hle1 hat2) hk2,
  λS2 a2 w2 hc2 he2 hat2 hk2=>hg.r S2 a2 w2 hc2 (he1.trans he2) (At.trans hle1 hat2) hk2⟩
theorem GE {c:Operand} {x y:Code} (hx:rE P G ann nt x) (hy:rE P G ann nt y):rE P G ann nt (.cond c x y):=by
 intro A w0 T N S K r g w a Q hb hI hn hc hr hg;have hb:(qe nt x&&qe nt y)=true:=hb
 rw[aT]at hb;have hr:(match S.eval c with | .cell (.bool t)=>cond t (qg G ann x S K) (qg G ann y S K)|_=>none:Option A)=some r:=hr
 split at hr
 · rename_i t he;have hv:a.eval c=.bool t:=s5 hI he
   refine wp_cond hv ?_;cases t with
   | true=>exact hx hb.1 hI hn hc hr hg
   | false=>exact hy hb.2 hI hn hc hr hg
 · cases hr
theorem pL (hG:p5 P G) (hm:P.follows .mixedOrders=true):∀c,rE P G ann nt c
 | .skip=>λ_ hI hn hc hr hg=>wp_skip (hg.n _ _ _ hc (rN.refl _) ⟨_,hI,hn,Le.refl _ _ _⟩ hr)
 | .region id ops draw=>λhb hI hn hc hr hg=>Eo hG hm hb hI hn hc hr λS' a' w' hc' he hat hk=>hg.n S' a' w' hc' he hat hk
 | .seq x y=>Hq (pL hG hm x) (pL hG hm y)
 | .cond c x y=>GE (pL hG hm x) (pL hG hm y)
 | .block id (.loop body)=>GD (pL hG hm body)
 | .block id .skip=>rX (pL hG hm .skip) (λc h=>by cases h)
 | .block id (.region i o d)=>rX (pL hG hm (.region i o d)) (λc h=>by cases h)
 | .block id (.seq x y)=>rX (pL hG hm (.seq x y)) (λc h=>by cases h)
 | .block id (.cond c x y)=>rX (pL hG hm (.cond c x y)) (λc h=>by cases h)
 | .block id (.block i x)=>rX (pL hG hm (.block i x)) (λc h=>by cases h)
 | .block id (.exit i)=>rX (pL hG hm (.exit i)) (λc h=>by cases h)
 | .block id .ret=>rX (pL hG hm .ret) (λc h=>by cases h)
 | .block id (.scope x)=>λ_ _ _ _ hr _=>by cases hr
 | .block id (.label l)=>λ_ _ _ _ hr _=>by cases hr
 | .block id (.goto l)=>λ_ _ _ _ hr _=>by cases hr
 | .exit id=>λ_ hI hn hc hr hg=>wp_exit (hg.x id _ _ _ hc (rN.refl _) ⟨_,hI,hn,Le.refl _ _ _⟩ hr)
 | .ret=>λ_ hI hn hc hr hg=>wp_ret (hg.r _ _ _ hc (rN.refl _) ⟨_,hI,hn,Le.refl _ _ _⟩ hr)
 | .loop _=>λ_ _ _ _ hr _=>by cases hr
 | .scope _=>λ_ _ _ _ hr _=>by cases hr
 | .label _=>λ_ _ _ _ hr _=>by cases hr
 | .goto _=>λ_ _ _ _ hr _=>by cases hr
 | .block id (.rangeFunc ..)=>λ_ _ _ _ hr _=>by cases hr
 | .block id (.refuse ..)=>λ_ _ _ _ hr _=>by cases hr
 | .rangeFunc ..=>λ_ _ _ _ hr _=>by cases hr
 | .refuse ..=>λ_ _ _ _ hr _=>by cases hr
end Go.V
namespace Go.V
variable {w0:World} {T N:Nat->Prop} {en en':List (mF×Entry)} {g g':Gh} {w:World}

def CT.Gifts (I:Nat->Prop) (w:World):(c:CT)->c.den->Value->List Nat->List Nat->Prop
 | .sl e,xs,v,ts,ns=>∃tp:Option Nat,ts=tp.toList/\oD w e xs v tp ns/\∀b∈ns,I b
 | c,x,v,ts,ns=>ts=[]/\ns=[]/\CT.Rep w c x v []
def Cs.Gifts (I:Nat->Prop) (w:World):(e:Cs)->e.den->List Value->List Nat->List Nat->Prop
 | .one c,x,vs,ts,ns=>∃v,vs=[v]/\CT.Gifts I w c x v ts ns
 | .cons c r,x,vs,ts,ns=>∃v vs' t1 t2 n1 n2,vs=v::vs'/\ts=t1++t2/\ns=n1++n2/\CT.Gifts I w c x.1 v t1 n1/\Cs.Gifts I w r x.2 vs' t2 n2
structure oE (w0:World) (T N:Nat->Prop) (en:List (mF×Entry)) (g:Gh) (ts ns:List Nat):Prop where
 t1:so ts
 n1:so ns
 tf:∀b∈ts,¬g.I b/\(∀m f,mG en m=some f->f.alive=true->g.top m≠some b)/\(w0.heap.size<=b\/T b)
 nf:∀b∈ns,(∀m f,mG en m=some f->f.deep=true->b∉g.nest m)/\(w0.heap.size<=b\/T b\/N b)
 tw:∀b∈ts,∀m f,mG en m=some f->f.isTree=true->b∉g.nest m
theorem sw {l m:List Nat} {b:Nat} (h:l.count b<=m.count b) (hb:b∈l):b∈m:=by
 have:=count_pos_iff.2 hb;exact count_pos_iff.1 (by omega)
theorem oE.mono {ts ns ts' ns':List Nat} (h:oE w0 T N en g ts ns) (ht:∀b,ts'.count b<=ts.count b) (hn:∀b,ns'.count b<=ns.count b):oE w0 T N en g ts' ns' :=
 ⟨λb=>Nat.le_trans (ht b) (h.t1 b),λb=>Nat.le_trans (hn b) (h.n1 b),λb hb=>h.tf b (sw (ht b) hb),λb hb=>h.nf b (sw (hn b) hb),λb hb=>h.tw b (sw (ht b) hb)⟩
structure ov (w0:World) (T N:Nat->Prop) (en:List (mF×Entry)) (g:Gh) (w:World) (new:List (mF×Entry)) (g':Gh) (ts ns:List Nat):Prop where
 ms:MS w0 T N (new++en) g' w
 le:Le (dom en) g w (dom (new++en)) g' w
 imm:g'.I=g.I
 giv:oE w0 T N (new++en) g' ts ns
theorem ov.refl (h:MS w0 T N en g w) {ts ns:List Nat} (hv:oE w0 T N en g ts ns):ov w0 T N en g w [] g ts ns:=⟨h,Le.refl _ _ _,rfl,hv⟩
theorem CT.give_put (h:MS w0 T N en g w) {mm:Bool} {c:CT} {x:c.den} {v:Value} {ts ns ts' ns':List Nat} {n:mF} (hg:CT.Gifts g.I w c x v ts ns) (hv:oE w0 T N en g (ts++ts') (cond mm ns []++ns')) (hn:mG en n=none) :
 ∃g',ov w0 T N en g w (c.give mm n x).2 g' ts' ns'/\mJ (dom ((c.give mm n x).2++en)) g' w (c.give mm n x).1 v:=by
 have hmono:oE w0 T N en g ts' ns':=hv.mono (λb=>by rw[count_append];omega) (λb=>by rw[count_append];omega);cases c with
 | sl e =>
  obtain⟨tp,rfl,hrep,hI⟩:=hg;have hnd:mm=true->ns.Nodup:=by rintro rfl;rw[←nR];intro b;have:=hv.n1 b;rw[cT,count_append]at this;omega
  have hi1:(g.set n ⟨v,e.len,tp,ns⟩).top n=tp:=by simp[Gh.set]
  have hi2:(g.set n ⟨v,e.len,tp,ns⟩).nest n=ns:=by simp[Gh.set]
  have ho1:∀m,m≠n->(g.set n ⟨v,e.len,tp,ns⟩).top m=g.top m:=λm hm=>by simp[Gh.set,hm]
  have ho2:∀m,m≠n->(g.set n ⟨v,e.len,tp,ns⟩).nest m=g.nest m:=λm hm=>by simp[Gh.set,hm]
  obtain⟨hM,hle⟩:=h.put (n:=n) (e:=.root e mm x) (i:=⟨v,e.len,tp,ns⟩) (λhd=>absurd hn hd) (yd hrep)
   ⟨by simp[Gh.set],by rw[hi1,hi2];show oD w e x (if n=n then v else g.loc n) tp ns;rw[if_pos rfl];exact hrep,by rw[hi2];exact hI,λhm=>by rw[hi2];exact hnd hm⟩
   (λ_ b hb=>by
    obtain⟨k1,k2,k3⟩:=hv.tf b (mem_append_left _ (by simpa using hb));exact⟨k1,λm f _ hm ha=>k2 m f hm ha,k3,λm f _ hm ht=>hv.tw b (mem_append_left _ (by simpa using hb)) m f hm ht⟩)
   (λhdp b hb=>by
    obtain rfl:mm=true:=hdp;obtain⟨k1,k2⟩:=hv.nf b (mem_append_left _ hb);exact⟨λm f _ hm hd=>k1 m f hm hd,k2⟩)
  refine⟨_,⟨hM,hle,rfl,hmono.t1,hmono.n1,λb hb=>?_,λb hb=>?_,λb hb m f hm ht=>?_⟩,nJ.2 (.inl rfl),?_⟩
  rotate_left 2
  · have hmn:m≠n:=λe=>by
     subst e;have hm:mG ((m,Entry.root _ mm x)::en) m=some f:=hm
     rw[p7]at hm;cases hm;cases ht
    rw[ho2 m hmn];exact hmono.tw b hb m f (by simpa[CT.give,ni (Ne.symm hmn)]using hm) ht
  rotate_left
  · obtain⟨k1,k2,k3⟩:=hmono.tf b hb;refine⟨k1,λm f hm ha=>?_,k3⟩;by_cases hmn:m=n
    · subst hmn;rw[hi1];intro htp;have:=hv.t1 b
      rw[count_append,htp]at this;have h2:=count_pos_iff.2 hb
      simp at this;omega
    · rw[ho1 m hmn];exact k2 m f (by simpa[CT.give,ni (Ne.symm hmn)]using hm) ha
  · obtain⟨k1,k2⟩:=hmono.nf b hb;refine⟨λm f hm hd=>?_,k2⟩;by_cases hmn:m=n
    · subst hmn;obtain rfl:mm=true:=by
       have hm:mG ((m,Entry.root _ mm x)::en) m=some f:=hm;rw[p7]at hm;cases hm;exact hd
      rw[hi2];intro hbn;have:=hv.n1 b
      rw[cT,count_append]at this;have h2:=count_pos_iff.2 hb
      have h3:=count_pos_iff.2 hbn;omega
    · rw[ho2 m hmn];exact k1 m f (by simpa[CT.give,ni (Ne.symm hmn)]using hm) hd
  · show v=(if n=n then v else g.loc n);rw[if_pos rfl]
 | int k=>obtain⟨rfl,rfl,hr⟩:=hg;exact⟨g,ov.refl h hmono,CT.cell_rep (c:=.int k) hr (by simp)⟩
 | bool=>obtain⟨rfl,rfl,hr⟩:=hg;exact⟨g,ov.refl h hmono,CT.cell_rep (c:=.bool) hr (by simp)⟩
 | str=>obtain⟨rfl,rfl,hr⟩:=hg;exact⟨g,ov.refl h hmono,CT.cell_rep (c:=.str) hr (by simp)⟩
 | err=>obtain⟨rfl,rfl,hr⟩:=hg;exact⟨g,ov.refl h hmono,CT.cell_rep (c:=.err) hr (by simp)⟩
theorem ov.trans {new new':List (mF×Entry)} {g1 g2:Gh} {ts ns ts' ns':List Nat} (h:ov w0 T N en g w new g1 ts ns) (k:ov w0 T N (new++en) g1 w new' g2 ts' ns'):ov w0 T N en g w (new'++new) g2 ts' ns':=by
 have e:new'++new++en=new'++(new++en):=append_assoc _ _ _;exact⟨by rw[e];exact k.ms,by rw[e];exact h.le.trans k.le,k.imm.trans h.imm,by rw[e];exact k.giv⟩
theorem CT.give_name {mm:Bool} {n:mF} {c:CT} {x:c.den}:∀p∈(c.give mm n x).2,p.1=n:=by cases c<;>simp[CT.give]
theorem Cs.Gifts.imm {I I':Nat->Prop} (hI:∀b,I b->I' b):{c:Cs}->{x:c.den}->{vs:List Value}->{ts ns:List Nat}->Cs.Gifts I w c x vs ts ns->Cs.Gifts I' w c x vs ts ns:=by
 have hc:∀{c:CT} {x:c.den} {v:Value} {ts ns:List Nat},CT.Gifts I w c x v ts ns->CT.Gifts I' w c x v ts ns:=by
  intro c x v ts ns h;cases c with
  | sl e=>obtain⟨tp,h1,h2,h3⟩:=h;exact⟨tp,h1,h2,λb hb=>hI b (h3 b hb)⟩
  | _=>exact h
 intro c
 induction c using Cs.rec (motive_1:=λ_=>True)with
 | one c _=>intro x vs ts ns h;obtain⟨v,h1,h2⟩:=h;exact⟨v,h1,hc h2⟩
 | cons c r _ ih=>intro x vs ts ns h;obtain⟨v,vs',t1,t2,n1,n2,h1,h2,h3,h4,h5⟩:=h;exact⟨v,vs',t1,t2,n1,n2,h1,h2,h3,hc h4,ih h5⟩
 | _=>trivial
theorem Cs.give_put {mm:Bool}:{c:Cs}->{x:c.den}->{vs:List Value}->{ts ns ts' ns':List Nat}->{n:mF}->{en:List (mF×Entry)}->{g:Gh}->(h:MS w0 T N en g w)->(hg:Cs.Gifts g.I w c x vs ts ns)->(hv:oE w0 T N en g (ts++ts') (cond mm ns []++ns')) ->
 (hn:∀p∈(Cs.give mm n c x).2,mG en p.1=none)->(hd:mP (Cs.give mm n c x).2=true)->∃g',ov w0 T N en g w (Cs.give mm n c x).2 g' ts' ns'/\mQ (mJ (dom ((Cs.give mm n c x).2++en)) g' w) (Cs.give mm n c x).1 vs
 | .one c,x,vs,ts,ns,ts',ns',n,en,g,h,hg,hv,hn,hd=>by
  obtain⟨v,rfl,hg⟩:=hg;cases hs:(c.give mm n x).2 with
  | nil =>
   cases c with
   | sl e=>simp[CT.give]at hs
   | int k=>obtain⟨rfl,rfl,hr⟩:=hg;exact⟨g,ov.refl h (by cases mm<;>simpa using hv),CT.cell_rep (c:=.int k) hr (by simp),trivial⟩
   | bool=>obtain⟨rfl,rfl,hr⟩:=hg;exact⟨g,ov.refl h (by cases mm<;>simpa using hv),CT.cell_rep (c:=.bool) hr (by simp),trivial⟩
   | str=>obtain⟨rfl,rfl,hr⟩:=hg;exact⟨g,ov.refl h (by cases mm<;>simpa using hv),CT.cell_rep (c:=.str) hr (by simp),trivial⟩
   | err=>obtain⟨rfl,rfl,hr⟩:=hg;exact⟨g,ov.refl h (by cases mm<;>simpa using hv),CT.cell_rep (c:=.err) hr (by simp),trivial⟩
  | cons p l =>
   have hp:mG en n=none:=by
    have h1:=hn p (by show p∈(c.give mm n x).2;rw[hs];simp);have h2:=CT.give_name (mm:=mm) (n:=n) (c:=c) (x:=x) p (by rw[hs];simp)
    rw[←h2];exact h1
   obtain⟨g',k1,k2⟩:=CT.give_put h hg hv hp;exact⟨g',k1,k2,trivial⟩
 | .cons c r,x,vs,ts,ns,ts',ns',n,en,g,h,hg,hv,hn,hd=>by
  obtain⟨v,vs',t1,t2,n1,n2,rfl,rfl,rfl,hg1,hg2⟩:=hg;obtain⟨d1,d2,d3⟩:=nH (l:=(c.give mm n x.1).2) (m:=(Cs.give mm (n+1) r x.2).2) hd;obtain⟨g1,k1,k2⟩:=Cs.give_put (n:=n+1) (ts':=t1++ts') (ns':=cond mm n1 []++ns') h hg2 (hv.mono (λb=>by simp only[count_append];omega) (λb=>by cases mm<;>simp only[cT,cF,List.nil_append,count_append]<;>omega)) (λp hp=>hn p (mem_append_right _ hp)) d2;have hg1':CT.Gifts g1.I w c x.1 v t1 n1:=by rw[k1.imm];exact hg1
  cases hs:(c.give mm n x.1).2 with
  | nil =>
   have e:(Cs.give mm n (.cons c r) x).2=(Cs.give mm (n+1) r x.2).2:=by show (c.give mm n x.1).2++_=_;rw[hs];rfl
   have hsc:t1=[]/\n1=[]/\mJ (dom ((Cs.give mm (n+1) r x.2).2++en)) g1 w (c.give mm n x.1).1 v:=by
    cases c with
    | sl e=>simp[CT.give]at hs
    | int k=>obtain⟨rfl,rfl,hr⟩:=hg1;exact⟨rfl,rfl,CT.cell_rep (c:=.int k) hr (by simp)⟩
    | bool=>obtain⟨rfl,rfl,hr⟩:=hg1;exact⟨rfl,rfl,CT.cell_rep (c:=.bool) hr (by simp)⟩
    | str=>obtain⟨rfl,rfl,hr⟩:=hg1;exact⟨rfl,rfl,CT.cell_rep (c:=.str) hr (by simp)⟩
    | err=>obtain⟨rfl,rfl,hr⟩:=hg1;exact⟨rfl,rfl,CT.cell_rep (c:=.err) hr (by simp)⟩
   obtain⟨rfl,rfl,hcr⟩:=hsc;rw[e];exact⟨g1,by cases mm<;>simpa using k1,hcr,k2⟩
  | cons p l =>
   have hpn:=CT.give_name (mm:=mm) (n:=n) (c:=c) (x:=x.1) p (by rw[hs];simp);have hp:mG ((Cs.give mm (n+1) r x.2).2++en) n=none:=by
    rw[ne]
    · rw[←hpn];exact hn p (mem_append_left _ (by rw[hs];simp))
    · intro hm;exact d3 p.1 (mem_map_of_mem (by rw[hs];simp)) (hpn.symm▸hm)
   obtain⟨g2,k3,k4⟩:=CT.give_put k1.ms hg1' k1.giv hp;have e:(Cs.give mm n (.cons c r) x).2++en=(c.give mm n x.1).2++((Cs.give mm (n+1) r x.2).2++en):=append_assoc _ _ _
   refine⟨g2,k1.trans k3,?_,?_⟩
   · rw[e];exact k4
   · rw[e];exact mQ.imp (λ_ _=>mJ.mono k3.le) k2
theorem CT.giveF_put (h:MS w0 T N en g w) {c:CT} {x:c.den} {v:Value} {F ts' ns':List Nat} {n:mF} (hg:CT.Rep w c x v F) (hI:∀b∈F,g.I b) (hv:oE w0 T N en g ts' (F++ns')) (hn:mG en n=none) :
 ∃g',ov w0 T N en g w (c.giveF n x).2 g' ts' ns'/\mJ (dom ((c.giveF n x).2++en)) g' w (c.giveF n x).1 v:=by
 have hmono:oE w0 T N en g ts' ns':=hv.mono (λb=>Nat.le_refl _) (λb=>by rw[count_append];omega);cases c with
 | sl e =>
  have hnd:F.Nodup:=by rw[←nR];intro b;have:=hv.n1 b;rw[count_append]at this;omega
  have hi1:(g.set n ⟨v,e.len,none,F⟩).top n=none:=by simp[Gh.set]
  have hi2:(g.set n ⟨v,e.len,none,F⟩).nest n=F:=by simp[Gh.set]
  have ho1:∀m,m≠n->(g.set n ⟨v,e.len,none,F⟩).top m=g.top m:=λm hm=>by simp[Gh.set,hm]
  have ho2:∀m,m≠n->(g.set n ⟨v,e.len,none,F⟩).nest m=g.nest m:=λm hm=>by simp[Gh.set,hm]
  have hone:v.oneCell'=true:=by obtain⟨ad,cap,rfl⟩:=pO hg;rfl
  obtain⟨hM,hle⟩:=h.put (n:=n) (e:=.frz e x) (i:=⟨v,e.len,none,F⟩) (λhd=>absurd hn hd) hone
   ⟨by simp[Gh.set],hi1,by rw[hi2];show CT.Rep w (.sl e) x (if n=n then v else g.loc n) F;rw[if_pos rfl];exact hg,by rw[hi2];exact hI,by rw[hi2];exact hnd⟩
   (λha=>by cases ha)
   (λhdp b hb=>by
    obtain⟨k1,k2⟩:=hv.nf b (mem_append_left _ hb);exact⟨λm f _ hm hd=>k1 m f hm hd,k2⟩)
  refine⟨_,⟨hM,hle,rfl,hmono.t1,hmono.n1,λb hb=>?_,λb hb=>?_,λb hb m f hm ht=>?_⟩,nJ.2 (.inl rfl),?_⟩
  rotate_left 2
  · have hmn:m≠n:=λe=>by
     subst e;have hm:mG ((m,Entry.frz _ x)::en) m=some f:=hm
     rw[p7]at hm;cases hm;cases ht
    rw[ho2 m hmn];exact hmono.tw b hb m f (by simpa[CT.giveF,ni (Ne.symm hmn)]using hm) ht
  rotate_left
  · obtain⟨k1,k2,k3⟩:=hmono.tf b hb;refine⟨k1,λm f hm ha=>?_,k3⟩;by_cases hmn:m=n
    · subst hmn;rw[hi1];intro htp;cases htp
    · rw[ho1 m hmn];exact k2 m f (by simpa[CT.giveF,ni (Ne.symm hmn)]using hm) ha
  · obtain⟨k1,k2⟩:=hmono.nf b hb;refine⟨λm f hm hd=>?_,k2⟩;by_cases hmn:m=n
    · subst hmn;rw[hi2];intro hbn;have:=hv.n1 b
      rw[count_append]at this;have h2:=count_pos_iff.2 hb
      have h3:=count_pos_iff.2 hbn;omega
    · rw[ho2 m hmn];exact k1 m f (by simpa[CT.giveF,ni (Ne.symm hmn)]using hm) hd
  · show v=(if n=n then v else g.loc n);rw[if_pos rfl]
 | int k=>exact⟨g,ov.refl h hmono,CT.cell_rep (c:=.int k) hg hI⟩
 | bool=>exact⟨g,ov.refl h hmono,CT.cell_rep (c:=.bool) hg hI⟩
 | str=>exact⟨g,ov.refl h hmono,CT.cell_rep (c:=.str) hg hI⟩
 | err=>exact⟨g,ov.refl h hmono,CT.cell_rep (c:=.err) hg hI⟩
theorem CT.giveF_any (h:MS w0 T N en g w) {c:CT} {x:c.den} {v:Value} {F ts' ns':List Nat} {n:mF} (hg:CT.Rep w c x v F) (hI:∀b∈F,g.I b) (hv:oE w0 T N en g ts' (F++ns')) (hn:∀p∈(c.giveF n x).2,mG en p.1=none) :
 ∃g',ov w0 T N en g w (c.giveF n x).2 g' ts' ns'/\mJ (dom ((c.giveF n x).2++en)) g' w (c.giveF n x).1 v:=by
 have hmono:oE w0 T N en g ts' ns':=hv.mono (λb=>Nat.le_refl _) (λb=>by rw[count_append];omega);cases c with
 | sl e=>exact CT.giveF_put h hg hI hv (hn (n,.frz e x) (by simp[CT.giveF]))
 | int k=>exact⟨g,ov.refl h hmono,CT.cell_rep (c:=.int k) hg hI⟩
 | bool=>exact⟨g,ov.refl h hmono,CT.cell_rep (c:=.bool) hg hI⟩
 | str=>exact⟨g,ov.refl h hmono,CT.cell_rep (c:=.str) hg hI⟩
 | err=>exact⟨g,ov.refl h hmono,CT.cell_rep (c:=.err) hg hI⟩
theorem Cs.giveF_put:{c:Cs}->{x:c.den}->{vs:List Value}->{F ts' ns':List Nat}->{n:mF}->{en:List (mF×Entry)}->{g:Gh}->(h:MS w0 T N en g w)->(hg:Cs.Rep w c x vs F)->(hI:∀b∈F,g.I b)->(hv:oE w0 T N en g ts' (F++ns')) ->
 (hn:∀p∈(Cs.giveF n c x).2,mG en p.1=none)->(hd:mP (Cs.giveF n c x).2=true)->∃g',ov w0 T N en g w (Cs.giveF n c x).2 g' ts' ns'/\mQ (mJ (dom ((Cs.giveF n c x).2++en)) g' w) (Cs.giveF n c x).1 vs
 | .one c,x,vs,F,ts',ns',n,en,g,h,hg,hI,hv,hn,hd=>by
  simp only[Cs.Rep]at hg;obtain⟨v,rfl,hg⟩:=hg;obtain⟨g',k1,k2⟩:=CT.giveF_any h hg hI hv hn;exact⟨g',k1,k2,trivial⟩
 | .cons c r,x,vs,F,ts',ns',n,en,g,h,hg,hI,hv,hn,hd=>by
  simp only[Cs.Rep]at hg;obtain⟨v,vs',F1,F2,rfl,rfl,hg1,hg2⟩:=hg;obtain⟨d1,d2,d3⟩:=nH (l:=(c.giveF n x.1).2) (m:=(Cs.giveF (n+1) r x.2).2) hd;obtain⟨g1,k1,k2⟩:=Cs.giveF_put (n:=n+1) (ts':=ts') (ns':=F1++ns') h hg2 (λb hb=>hI b (mem_append_right _ hb)) (hv.mono (λb=>Nat.le_refl _) (λb=>by simp only[count_append];omega)) (λp hp=>hn p (mem_append_right _ hp)) d2;obtain⟨g2,k3,k4⟩:=CT.giveF_any (n:=n) k1.ms hg1 (λb hb=>by rw[k1.imm];exact hI b (mem_append_left _ hb)) k1.giv (λp hp=>by
   rw[ne (d3 p.1 (mem_map_of_mem hp))];exact hn p (mem_append_left _ hp))
  have e:(Cs.giveF n (.cons c r) x).2++en=(c.giveF n x.1).2++((Cs.giveF (n+1) r x.2).2++en):=append_assoc _ _ _;refine⟨g2,k1.trans k3,?_,?_⟩
  · rw[e];exact k4
  · rw[e];exact mQ.imp (λ_ _=>mJ.mono k3.le) k2
theorem zW (h:MS w0 T N en g w) {n:mF} {b:Nat} {us:List Value} {cs:List Cell} {ts ns:List Nat} (hb:nG w b us) (hc:mQ (mJ (dom en) g w) cs us) (hv:oE w0 T N en g (b::ts) ns) (hn:dom en n->g.loc n=.pointer (some ⟨b,0,none⟩)) (hf:∀e,mG en n=some e->e.alive=false) :
 ∃g',ov w0 T N en g w [(n,.box cs)] g' ts ns/\g'.loc n=.pointer (some ⟨b,0,none⟩):=by
 have hi1:(g.set n ⟨.pointer (some ⟨b,0,none⟩),g.esz n,some b,[]⟩).top n=some b:=by simp[Gh.set]
 have hi2:(g.set n ⟨.pointer (some ⟨b,0,none⟩),g.esz n,some b,[]⟩).nest n=[]:=by simp[Gh.set]
 have ho1:∀m,m≠n->(g.set n ⟨.pointer (some ⟨b,0,none⟩),g.esz n,some b,[]⟩).top m=g.top m:=λm hm=>by simp[Gh.set,hm]
 have ho2:∀m,m≠n->(g.set n ⟨.pointer (some ⟨b,0,none⟩),g.esz n,some b,[]⟩).nest m=g.nest m:=λm hm=>by simp[Gh.set,hm]
 have hle0:=Gh.set_le (en:=en) (g:=g) (w:=w) (n:=n) (.box cs) ⟨.pointer (some ⟨b,0,none⟩),g.esz n,some b,[]⟩ (λhd=>⟨(hn hd).symm,rfl⟩);obtain⟨hM,hle⟩:=h.put (n:=n) (e:=.box cs) (i:=⟨.pointer (some ⟨b,0,none⟩),g.esz n,some b,[]⟩) (λhd=>⟨(hn hd).symm,rfl⟩) rfl
  ⟨b,us,hi1,by simp[Gh.set],hb,mQ.imp (λ_ _=>mJ.mono hle0) hc⟩
  (λ_ b' hb'=>by
   cases hb';obtain⟨k1,k2,k3⟩:=hv.tf b mem_cons_self;exact⟨k1,λm f _ hm ha=>k2 m f hm ha,k3,λm f _ hm ht=>hv.tw b mem_cons_self m f hm ht⟩)
  (λhd=>by cases hd)
 have hmono:oE w0 T N en g ts ns:=hv.mono (λc=>by rw[List.count_cons];omega) (λ_=>Nat.le_refl _);refine⟨_,⟨hM,hle,rfl,hmono.t1,hmono.n1,λc hc=>?_,λc hc=>?_,λc hc m f hm ht=>?_⟩,by simp[Gh.set]⟩
 rotate_left 2
 · have hmn:m≠n:=λe=>by
    subst e;have hm:mG ((m,Entry.box cs)::en) m=some f:=hm
    rw[p7]at hm;cases hm;cases ht
   rw[ho2 m hmn];exact hmono.tw c hc m f (by simpa[ni (Ne.symm hmn)]using hm) ht
 · obtain⟨k1,k2,k3⟩:=hmono.tf c hc;refine⟨k1,λm f hm ha=>?_,k3⟩;by_cases hmn:m=n
   · subst hmn;rw[hi1];intro he;cases he;have:=hv.t1 b
     rw[List.count_cons_self]at this;have h2:=count_pos_iff.2 hc
     omega
   · rw[ho1 m hmn];exact k2 m f (by simpa[ni (Ne.symm hmn)]using hm) ha
 · obtain⟨k1,k2⟩:=hmono.nf c hc;refine⟨λm f hm hd=>?_,k2⟩;by_cases hmn:m=n
   · subst hmn;rw[hi2];simp
   · rw[ho2 m hmn];exact k1 m f (by simpa[ni (Ne.symm hmn)]using hm) hd
end Go.V
namespace Go.V
variable {w0:World} {T N:Nat->Prop} {en en':List (mF×Entry)} {g g':Gh} {w:World}

def FR:Bool->Option Bool|true=>some true|false=>none
def qP (I:Nat->Prop) (w:World) (own:Option Bool) (c:Cs) (x:c.den) (us:List Value) (ts ns:List Nat):Prop :=
 (∃m ns',own=some m/\Cs.Gifts I w c x us ts ns'/\(m=true->ns'=ns))\/(own=none/\ts=[]/\ns=[]/\∃F,Cs.Rep w c x us F/\∀b∈F,I b)
def qq (I:Nat->Prop) (w:World):(ps:List nB)->mI (mY ps)->List Value->List Nat->List Nat->Prop
 | [],_,vs,ts,ns=>vs=[]/\ts=[]/\ns=[]
 | .val agg c mv::ps,x,vs,ts,ns=>∃v vs' us t1 t2 n1 n2,vs=v::vs'/\isAgg agg v us/\ts=t1++t2/\ns=n1++n2/\qP I w (FR mv) c (mI.hd c (mY ps) x) us t1 n1/\qq I w ps (mI.tl c (mY ps) x) vs' t2 n2
 | .ptr c own::ps,x,vs,ts,ns=>∃b vs' us t1 t2 n1 n2,vs=.pointer (some ⟨b,0,none⟩)::vs'/\nG w b us/\ts=b::(t1++t2)/\ns=n1++n2/\qP I w own c (mI.hd c (mY ps) x) us t1 n1/\qq I w ps (mI.tl c (mY ps) x) vs' t2 n2
theorem sP {D:mF->Prop} {agg:Bool} {cs:List Cell} {v:Value} {us:List Value} (h:mQ (mJ D g w) cs us) (ha:isAgg agg v us):nc D g w (pb agg cs) v:=by
 rcases ha with ⟨rfl,rfl⟩|⟨rfl,rfl⟩
 · cases cs with
   | nil=>exact h.elim
   | cons c cs=>cases cs with
    | nil=>exact h.1
    | cons _ _=>exact h.2.elim
 · have:pb true cs=.agg cs:=by cases cs<;>rfl
   rw[this];exact⟨_,rfl,h⟩
theorem tg {own:Option Bool} {c:Cs} {x:c.den} {vs:List Value} {ts ns ts' ns':List Nat} {n:mF} (h:MS w0 T N en g w) (hg:qP g.I w own c x vs ts ns) (hv:oE w0 T N en g (ts++ts') (ns++ns'))
 (hn:∀p∈(oL own n c x).2,mG en p.1=none) (hd:mP (oL own n c x).2=true):∃g',ov w0 T N en g w (oL own n c x).2 g' ts' ns'/\mQ (mJ (dom ((oL own n c x).2++en)) g' w) (oL own n c x).1 vs:=by
 rcases hg with ⟨m,ns1,rfl,hg,hm⟩|⟨rfl,rfl,rfl,F,hF,hI⟩
 · refine Cs.give_put h hg ?_ hn hd;cases m with
   | true=>rw[hm rfl];exact hv
   | false=>exact hv.mono (λb=>Nat.le_refl _) (λb=>by simp only[cF,List.nil_append,count_append];omega)
 · exact⟨g,ov.refl h (by simpa using hv),Cs.cells_rep hF hI⟩
def tq (D:mF->Prop) (g:Gh):Nat->List nB->List Value->Prop
 | _,[],_=>True
 | _,_::_,[]=>False
 | i,.val .. :: ps,_::vs=>tq D g (i+1) ps vs
 | i,.ptr .. :: ps,v::vs=>(D (64*i+1)/\g.loc (64*i+1)=v)/\tq D g (i+1) ps vs
theorem tq.mono {D D':mF->Prop} {w':World} (h:Le D g w D' g' w'):∀{i:Nat} {ps:List nB} {vs:List Value},tq D g i ps vs->tq D' g' i ps vs
 | _,[],_,_=>trivial
 | i,.val .. :: ps,v::vs,k=>tq.mono (ps:=ps) (vs:=vs) h k
 | i,.ptr .. :: ps,v::vs,⟨⟨k1,k2⟩,k⟩=>⟨⟨h.dom _ k1,(h.loc _ k1).trans k2⟩,tq.mono h k⟩
 | _,.val .. :: _,[],k=>k
 | _,.ptr .. :: _,[],k=>k
def zl (D:mF->Prop) (g:Gh) (w:World) (tm:List (Nat×AV)) (i:Nat) (vs:List Value):Prop :=
 ∀t,mG tm t=none\/∃k v x,t=i+k/\vs[k]?=some v/\mG tm t=some x/\nc D g w x v
theorem zl.cons {D D':mF->Prop} {tm:List (Nat×AV)} {i:Nat} {vs:List Value} {v:Value} {x:AV} (h:zl D g w tm (i+1) vs) (hle:Le D g w D' g' w) (hx:nc D' g' w x v):zl D' g' w ((i,x)::tm) i (v::vs):=by
 intro t;rw[mR];by_cases hit:i=t
 · subst hit;exact .inr ⟨0,v,x,rfl,rfl,by rw[if_pos rfl],hx⟩
 · rw[if_neg hit];rcases h t with h|⟨k,u,y,h1,h2,h3,h4⟩
   · exact .inl h
   · exact .inr ⟨k+1,u,y,by omega,by simpa using h2,h3,h4.mono hle⟩
theorem Au {i:Nat} {agg:Bool} {c:Cs} {mv:Bool} {ps:List nB} {x:mI (mY (.val agg c mv::ps))} :
 entry i (.val agg c mv::ps) x=((i,pb agg (oL (FR mv) (64*i+1) c (mI.hd c (mY ps) x)).1)::(entry (i+1) ps (mI.tl c (mY ps) x)).1,(oL (FR mv) (64*i+1) c (mI.hd c (mY ps) x)).2++(entry (i+1) ps (mI.tl c (mY ps) x)).2):=by
 cases mv<;>rfl
theorem Av {i:Nat} {c:Cs} {own:Option Bool} {ps:List nB} {x:mI (mY (.ptr c own::ps))} :
 entry i (.ptr c own::ps) x=((i,.cell (.box (64*i+1) 0))::(entry (i+1) ps (mI.tl c (mY ps) x)).1,(64*i+1,.box (oL own (64*i+2) c (mI.hd c (mY ps) x)).1)::((oL own (64*i+2) c (mI.hd c (mY ps) x)).2++(entry (i+1) ps (mI.tl c (mY ps) x)).2)):=rfl
theorem ov.to_nil {new:List (mF×Entry)} {ts ns:List Nat} (h:ov w0 T N [] g w new g' ts ns):MS w0 T N new g' w:=by have:=h.ms;rwa [append_nil]at this
theorem qP.imm {I I':Nat->Prop} (hI:∀b,I b->I' b) {own:Option Bool} {c:Cs} {x:c.den} {us:List Value} {ts ns:List Nat} (h:qP I w own c x us ts ns):qP I' w own c x us ts ns:=by
 rcases h with ⟨m,ns',h1,h2,h3⟩|⟨h1,h2,h3,F,h4,h5⟩
 · exact .inl ⟨m,ns',h1,h2.imm hI,h3⟩
 · exact .inr ⟨h1,h2,h3,F,h4,λb hb=>hI b (h5 b hb)⟩
theorem wk (h0:MS w0 T N [] g w):∀(ps:List nB) (i:Nat) (x:mI (mY ps)) (vs:List Value) (ts ns ts' ns':List Nat),oE w0 T N [] g (ts++ts') (ns++ns')->qq g.I w ps x vs ts ns->mP (entry i ps x).2=true ->
 ∃g',ov w0 T N [] g w (entry i ps x).2 g' ts' ns'/\zl (dom (entry i ps x).2) g' w (entry i ps x).1 i vs/\tq (dom (entry i ps x).2) g' i ps vs
 | [],i,x,vs,ts,ns,ts',ns',hv,ha,hd=>by
  obtain⟨rfl,rfl,rfl⟩:=ha;exact⟨g,ov.refl h0 (by simpa using hv),λt=>.inl rfl,trivial⟩
 | .val agg c mv::ps,i,x,vs,ts,ns,ts',ns',hv,ha,hd=>by
  obtain⟨v,vs',us,t1,t2,n1,n2,rfl,hag,rfl,rfl,hin,ha⟩:=ha;rw[Au]at hd ⊢;obtain⟨d1,d2,d3⟩:=nH hd;obtain⟨g1,k1,k2,k3⟩:=wk h0 ps (i+1) (mI.tl c (mY ps) x) vs' t2 n2 (t1++ts') (n1++ns') (hv.mono (λb=>by simp only[count_append];omega) (λb=>by simp only[count_append];omega)) ha d2;obtain⟨g2,k4,k5⟩:=tg (n:=64*i+1) k1.ms (hin.imm λb hb=>by rw[k1.imm];exact hb) k1.giv (λp hp=>by
   rw[append_nil];cases hf:mG (entry (i+1) ps (mI.tl c (mY ps) x)).2 p.1 with
   | none=>rfl
   | some y=>exact absurd (p9.2 (by rw[hf];simp)) (d3 p.1 (mem_map_of_mem hp))) d1
  have kle:=k4.le;simp only[append_nil]at kle k5;refine⟨g2,k1.trans k4,k2.cons kle (sP k5 hag),?_⟩;exact tq.mono (ps:=ps) (vs:=vs') kle k3
 | .ptr c own::ps,i,x,vs,ts,ns,ts',ns',hv,ha,hd=>by
  obtain⟨b,vs',us,t1,t2,n1,n2,rfl,hob,rfl,rfl,hin,ha⟩:=ha;rw[Av]at hd ⊢;obtain⟨d0,hd⟩:=o0 hd;obtain⟨d1,d2,d3⟩:=nH hd;obtain⟨g1,k1,k2,k3⟩:=wk h0 ps (i+1) (mI.tl c (mY ps) x) vs' t2 n2 (t1++(b::ts')) (n1++ns') (hv.mono (λb'=>by simp only[count_append,List.count_cons,cons_append];omega) (λb'=>by simp only[count_append];omega)) ha d2;obtain⟨g2,k4,k5⟩:=tg (n:=64*i+2) k1.ms (hin.imm λb hb=>by rw[k1.imm];exact hb) k1.giv (λp hp=>by
   rw[append_nil];cases hf:mG (entry (i+1) ps (mI.tl c (mY ps) x)).2 p.1 with
   | none=>rfl
   | some y=>exact absurd (p9.2 (by rw[hf];simp)) (d3 p.1 (mem_map_of_mem hp))) d1
  have kle:=k4.le;have k6:=k1.trans k4
  have hfree:mG ((oL own (64*i+2) c (mI.hd c (mY ps) x)).2++(entry (i+1) ps (mI.tl c (mY ps) x)).2++[]) (64*i+1)=none:=by
   rw[append_nil];cases hf:mG ((oL own (64*i+2) c (mI.hd c (mY ps) x)).2++(entry (i+1) ps (mI.tl c (mY ps) x)).2) (64*i+1)with
   | none=>rfl
   | some y=>exact absurd (p9.2 (by rw[hf];simp)) d0
  obtain⟨g3,k7,k8⟩:=zW k6.ms hob (by simpa using k5) k6.giv (λhd=>absurd hfree hd) (λe he=>by rw[hfree]at he;cases he);have kle2:=k7.le
  simp only[append_nil]at kle kle2;refine⟨g3,k6.trans k7,zl.cons k2 (kle.trans kle2) ⟨nJ.2 (.inl rfl),b,k8,rfl⟩,⟨nJ.2 (.inl rfl),k8⟩,?_⟩;exact tq.mono (ps:=ps) (vs:=vs') (kle.trans kle2) k3
end Go.V

