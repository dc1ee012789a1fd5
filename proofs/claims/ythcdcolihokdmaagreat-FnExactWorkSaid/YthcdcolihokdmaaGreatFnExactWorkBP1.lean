/- The law FnExactWork: part of the proof that for every input it returns true. No condition. -/
import Derived.KernelRfl
import Derived.Test.YthcdcolihokdmaaGreatFnExactWork
import Derived.Test.YthcdcolihokdmaaGreatFnExactWorkM
open List (any_eq_false any_eq_true append_assoc cons_lt_cons_iff drop_eq_getElem_cons drop_zero getElem_mem getElem_of_mem length_append length_cons length_drop length_map length_nil length_set length_take map_append mem_append mem_cons mem_cons_of_mem mem_flatMap mem_map mem_range not_mem_nil pairwise_append pairwise_cons range_succ take_add_one take_append_drop take_length take_succ_cons)
set_option linter.unusedVariables false
set_option linter.unusedSimpArgs false
namespace Go.V.W
theorem tN {α β:Type} (a:α) (f:α->Option β):(some a).bind f=f a:=rfl
abbrev M:Nat:=1048576
abbrev In (left:Int):Prop:=0<=left/\left<=1048576
theorem In.next {left r:Int} (h:In left) (h1:0<=r) (h2:r<=left):In r:=⟨h1,by have:=h.2;omega⟩
theorem xK {n:Nat} (h:n<=M):n<=4294967295:=Nat.le_trans h (by decide)
theorem K9 {a:List Int} {left:Int} (hl:In left) (h:a.length<=maxLen):wY left (ei a left) (a.length<=M):=AJ hl h
theorem Qc {a:List Int} {left:Int} (hl:In left) (h:a.length<=maxLen):wY left (hC a left) (a.length<=M):=AJ hl h
theorem SJ {a:List Pt} {left:Int} (hl:In left) (h:a.length<=maxLen):wY left (gW a left) (a.length<=M):=AJ hl h
theorem Qd {a:List tZ} {left:Int} (hl:In left) (h:a.length<=maxLen):wY left (gX a left) (a.length<=M):=AJ hl h
theorem Qe {a:List ua} {left:Int} (hl:In left) (h:a.length<=maxLen):wY left (gY a left) (a.length<=M):=AJ hl h
theorem RC {a:ve} {left:Int} (hl:In left) (h:a.1.length<=maxLen/\a.2.length<=maxLen):wY left (gZ a left) (a.1.length<=M/\a.2.length<=M/\True) :=
 wA (Qe hl h.1) λr h1 h2=>wA (K9 (hl.next h1 h2) h.2) λr h1 h2=>zx h1
def yF (n:Nat) (b:tO):Prop:=b.2.1.length<=n/\b.2.2.1.length<=n/\b.2.2.2.1.length<=n/\b.2.2.2.2.1.length<=n/\b.2.2.2.2.2.1.length<=n
theorem Ka {b:tO} {left:Int} (hl:In left) (h:yF maxLen b):wY left (fN b left) (yF M b):=by
 obtain⟨h1,h2,h3,h4,h5⟩:=h;refine zy (C5 hl h1 λr k1 k2=>wA (SJ (hl.next k1 k2) h2) λr' k3 k4=>wA (Qd ((hl.next k1 k2).next k3 k4) h3) λr'' k5 k6=>wA (RC (a:=(b.2.2.2.2.1,b.2.2.2.2.2.1)) (((hl.next k1 k2).next k3 k4).next k5 k6) ⟨h4,h5⟩) λr3 k7 k8=>zx k7) ?_;rintro⟨a1,a2,a3,⟨a4,a5,_⟩,_⟩;exact⟨a1,a2,a3,a4,a5⟩
def LB (n:Nat) (v:wJ):Prop:=v.2.2.1.length<=n/\v.2.2.2.length<=n
theorem SK {v:wJ} {left:Int} (hl:In left) (h:LB maxLen v):wY left (hN v left) (LB M v) :=
 zy (C5 hl h.1 λr k1 k2=>wA (K9 (hl.next k1 k2) h.2) λr' k3 k4=>zx k3) λ⟨a,b,_⟩=>⟨a,b⟩
def Bg (n:Nat) (x:tQ):Prop:=x.1.length<=n/\LB n x.2
theorem RD {x:tQ} {left:Int} (hl:In left) (h:Bg maxLen x):wY left (fO x left) (Bg M x) :=
 zy (wA (K9 hl h.1) λr k1 k2=>wA (SK (hl.next k1 k2) h.2) λr' k3 k4=>zx k3) λ⟨a,b,_⟩=>⟨a,b⟩
def A9 (n:Nat) (l:List tQ):Prop:=l.length<=n/\∀x∈l,Bg n x
theorem Qf {l:List tQ} {left:Int} (hl:In left) (h:A9 maxLen l):wY left (hO l left) (A9 M l):=by
 have hn:l.length<=9223372036854775807:=h.1;show wY left (let l1:=tP (left-(l.length:Int));cond (decide (l1<0)) (some (-1)) ((loop (λz=>lq l z.1 z.2) (l1,0)).bind (Sum.elim (λd=>some d) (λr=>some r)))) _
 by_cases hle:l.length<=M
 · exact zy (C5 hl h.1 λr k1 k2=>IQ (f:=fO) (Q:=Bg M) (λx hx l' h1 h2=>RD ⟨h1,h2⟩ (h.2 x hx)) (xK hle) (hl.next k1 k2)) λ⟨a,b⟩=>⟨a,b⟩
 · refine⟨-1,?_,.inl rfl⟩;show cond (decide (tP (left-(l.length:Int))<0)) _ _=_
   have:M<l.length:=by omega
   have hM:(1048576:Int)<(l.length:Int):=by have:1048576<l.length:=this;omega
   have:=hl.2;rw[uE (by omega) (by omega),ux (by omega),cT]
def wu (n:Nat) (p:um):Prop:=A9 n p.2.2.2.2
theorem SL {p:um} {left:Int} (hl:In left) (h:wu maxLen p):wY left (hU p left) (wu M p) :=
 zy (wA (Qf hl h) λr k1 k2=>zx k1) λ⟨a,_⟩=>a
def jP (j:ur):um:=(j.2.2.2.1,j.2.2.2.2.1,j.2.2.2.2.2.1,j.2.2.2.2.2.2.1,j.2.2.2.2.2.2.2.1)
def jB (a0:ur):tO:=(a0.2.2.2.2.2.2.2.2.1,a0.2.2.2.2.2.2.2.2.2.1,a0.2.2.2.2.2.2.2.2.2.2.1,a0.2.2.2.2.2.2.2.2.2.2.2.1,a0.2.2.2.2.2.2.2.2.2.2.2.2.1,a0.2.2.2.2.2.2.2.2.2.2.2.2.2.1,a0.2.2.2.2.2.2.2.2.2.2.2.2.2.2.1,a0.2.2.2.2.2.2.2.2.2.2.2.2.2.2.2.1,a0.2.2.2.2.2.2.2.2.2.2.2.2.2.2.2.2.1,a0.2.2.2.2.2.2.2.2.2.2.2.2.2.2.2.2.2.1,a0.2.2.2.2.2.2.2.2.2.2.2.2.2.2.2.2.2.2.1)
def Gg (n:Nat) (j:ur):Prop:=j.2.1.length<=n/\wu n (jP j)/\yF n (jB j)
theorem SM {j:ur} {left:Int} (hl:In left) (h:Gg maxLen j):wY left (fP j left) (Gg M j) :=
 zy (wA (Qc hl h.1) λr k1 k2=>wA (SL (p:=jP j) (hl.next k1 k2) h.2.1) λr' k3 k4=>wA (Ka (b:=jB j) ((hl.next k1 k2).next k3 k4) h.2.2) λr'' k5 k6=>zx k5) λ⟨a,b,c,_⟩=>⟨a,b,c⟩
def Kb (n:Nat) (l:List ur):Prop:=l.length<=n/\∀x∈l,Gg n x
theorem RE {l:List ur} {left:Int} (hl:In left) (h:Kb maxLen l):wY left (hZ l left) (Kb M l):=by
 have hn:l.length<=9223372036854775807:=h.1;show wY left (let l1:=tP (left-(l.length:Int));cond (decide (l1<0)) (some (-1)) ((loop (λz=>lw l z.1 z.2) (l1,0)).bind (Sum.elim (λd=>some d) (λr=>some r)))) _
 by_cases hle:l.length<=M
 · exact zy (C5 hl h.1 λr k1 k2=>IQ (f:=fP) (Q:=Gg M) (λx hx l' h1 h2=>SM ⟨h1,h2⟩ (h.2 x hx)) (xK hle) (hl.next k1 k2)) λ⟨a,b⟩=>⟨a,b⟩
 · refine⟨-1,?_,.inl rfl⟩;show cond (decide (tP (left-(l.length:Int))<0)) _ _=_
   have:M<l.length:=by omega
   have hM:(1048576:Int)<(l.length:Int):=by have:1048576<l.length:=this;omega
   have:=hl.2;rw[uE (by omega) (by omega),ux (by omega),cT]
def aB (a0:ue):tO:=(a0.1,a0.2.1,a0.2.2.1,a0.2.2.2.1,a0.2.2.2.2.1,a0.2.2.2.2.2.1,a0.2.2.2.2.2.2.1,a0.2.2.2.2.2.2.2.1,a0.2.2.2.2.2.2.2.2.1,a0.2.2.2.2.2.2.2.2.2.1,a0.2.2.2.2.2.2.2.2.2.2.1)
def Bh (n:Nat) (a:ue):Prop:=yF n (aB a)/\a.2.2.2.2.2.2.2.2.2.2.2.1.length<=n/\Kb n a.2.2.2.2.2.2.2.2.2.2.2.2.1
theorem Qg {a:ue} {left:Int} (hl:In left) (h:Bh maxLen a):wY left (gV a left) (Bh M a) :=
 zy (wA (Ka (b:=aB a) hl h.1) λr k1 k2=>C5 (hl.next k1 k2) h.2.1 λr' k3 k4=>wA (RE ((hl.next k1 k2).next k3 k4) h.2.2) λr'' k5 k6=>zx k5) λ⟨a,b,c,_⟩=>⟨a,b,c⟩
theorem Kc {a:List Int} (h:a.length<=M):eL a=some a:=C6 (xK h) (JX (xK h) 0)
theorem Qh {a:List Int} (h:a.length<=M):iL a=some a:=C6 (xK h) (JX (xK h) 0)
theorem SN {a:List Pt} (h:a.length<=M):iG a=some a:=C6 (xK h) (BH (f:=iF) (λ_ _=>rfl) (xK h) _)
theorem Qi {a:List tZ} (h:a.length<=M):iI a=some a:=C6 (xK h) (BH (f:=iH) (λ_ _=>rfl) (xK h) _)
theorem Qj {a:List ua} (h:a.length<=M):iK a=some a:=C6 (xK h) (BH (f:=iJ) (λ_ _=>rfl) (xK h) _)
theorem RF {a:ve} (h:a.1.length<=M/\a.2.length<=M):gE a=some a:=by
 unfold gE;rw[Qj h.1,tN,Kc h.2,tN]
theorem Kd {b:tO} (h:yF M b):eM b=some b:=by
 obtain⟨h1,h2,h3,h4,h5⟩:=h;unfold eM;rw[SN h2,tN,Qi h3,tN,RF ⟨h4,h5⟩,tN]
theorem SO {v:wJ} (h:LB M v):gF v=some v:=by
 unfold gF;rw[Kc h.2,tN]
theorem RG {x:tQ} (h:Bg M x):eN x=some x:=by
 unfold eN;rw[Kc h.1,tN,SO h.2,tN]
theorem Qk {l:List tQ} (h:A9 M l):iM l=some l:=C6 (xK h.1) (BH (f:=eN) (λx hx=>RG (h.2 x hx)) (xK h.1) _)
theorem SP {p:um} (h:wu M p):eO p=some p:=by
 unfold eO;rw[Qk h,tN]
theorem SQ {j:ur} (h:Gg M j):eP j=some j:=by
 unfold eP;rw[Qh h.1,tN,show eO (j.2.2.2.1,j.2.2.2.2.1,j.2.2.2.2.2.1,j.2.2.2.2.2.2.1,j.2.2.2.2.2.2.2.1)=some (jP j)from SP h.2.1,tN];have:=Kd h.2.2
 unfold jB at this;rw[this,tN];rfl
theorem RH {l:List ur} (h:Kb M l):iN l=some l:=C6 (xK h.1) (BH (f:=eP) (λx hx=>SQ (h.2 x hx)) (xK h.1) _)
theorem Ql {a:ue} (h:Bh M a):ca a=some a:=by
 unfold ca;have:=Kd h.1
 unfold aB at this;rw[this,tN,RH h.2.2,tN]
theorem SR (v:zz):fk v v=some true:=by unfold fk;simp
theorem TB (v:Pt):dM v v=some true:=by unfold dM;simp[SR]
theorem RI (v:tZ):dN v v=some true:=by unfold dN;simp
theorem RJ (v:ua):dO v v=some true:=by unfold dO;simp
theorem Ke {a:List Int} (h:a.length<=M):dP a a=some true:=zY (Ea (xK h))
theorem Qm {a:List Int} (h:a.length<=M):gQ a a=some true:=zY (Ea (xK h))
theorem SS {a:List Pt} (h:a.length<=M):gN a a=some true:=zY (AU (g:=dM) (λx _=>TB x) (xK h))
theorem Qn {a:List tZ} (h:a.length<=M):gO a a=some true:=zY (AU (g:=dN) (λx _=>RI x) (xK h))
theorem Qo {a:List ua} (h:a.length<=M):gP a a=some true:=zY (AU (g:=dO) (λx _=>RJ x) (xK h))
theorem RK {a:ve} (h:a.1.length<=M/\a.2.length<=M):fm a a=some true:=by
 unfold fm;simp[Qo h.1,Ke h.2]
theorem Kf {b:tO} (h:yF M b):dQ b b=some true:=by
 obtain⟨h1,h2,h3,h4,h5⟩:=h;unfold dQ;simp[SS h2,Qn h3,RK (a:=(b.2.2.2.2.1,b.2.2.2.2.2.1)) ⟨h4,h5⟩]
theorem ST {v:wJ} (h:LB M v):fo v v=some true:=by
 unfold fo;simp[Ke h.2]
theorem RL {x:tQ} (h:Bg M x):dR x x=some true:=by
 unfold dR;simp[Ke h.1,ST h.2]
theorem Qp {l:List tQ} (h:A9 M l):gR l l=some true:=zY (AU (g:=dR) (λx hx=>RL (h.2 x hx)) (xK h.1))
theorem Px {p:um} (h:wu M p):dU p p=some true:=by
 unfold dU;simp[Qp (l:=p.2.2.2.2) h]
theorem SU {j:ur} (h:Gg M j):dV j j=some true:=by
 have h2:=Px h.2.1;have h3:=Kf h.2.2
 unfold jP at h2;unfold jB at h3;unfold dV;simp[Qm h.1,h2,h3]
theorem RM {l:List ur} (h:Kb M l):gS l l=some true:=zY (AU (g:=dV) (λx hx=>SU (h.2 x hx)) (xK h.1))
theorem LC {a:ue} (h:Bh M a):bW a a=some true:=by
 have h1:=Kf h.1;unfold aB at h1;unfold bW;simp[h1,RM h.2.2]

theorem HK {α β:Type} {f g:α->Option (α⊕β)} (uC:α->Prop) (h:∀x,uC x->f x=g x) (hi:∀x y,uC x->f x=some (.inl y)->uC y) {x:α} (h0:uC x):loop f x=loop g x:=by
 have key:∀k x,uC x->wU f k x=wU g k x:=by
  intro k
  induction k with
  | zero=>intro x _;rfl
  | succ k ih =>
   intro x hx;rw[vc,vc,←h x hx];cases hf:f x with
   | none=>rfl
   | some v=>cases v with
    | inl y=>exact ih y (hi x y hx hf)
    | inr b=>rfl
 have hex:(∃k,(wU f k x).isSome)↔∃k,(wU g k x).isSome:=by
  constructor<;>rintro⟨k,hk⟩<;>exact⟨k,by first|rwa [←key k x h0]|rwa [key k x h0]⟩
 by_cases hc:∃k,(wU f k x).isSome
 · obtain⟨k,hk⟩:=hc;cases hv:wU f k x with
   | none=>rw[hv]at hk;cases hk
   | some b=>rw[yn hv,yn ((key k x h0)▸hv)]
 · have hc':¬ ∃k,(wU g k x).isSome:=λh=>hc (hex.2 h);unfold loop;rw[dif_neg hc,dif_neg hc']
theorem wv {α β:Type} {f g:α->Option (α⊕β)} (h:∀x,f x=g x) (x:α):loop f x=loop g x:=by rw[funext h]
def tV (x a b:Int):Bool:=decide (x>=a)&&decide (x<=b)
theorem xt (x a b:Int):aa x a b=some (tV x a b):=by
 unfold aa tV;cases decide (x>=a)<;>rfl
theorem AL (x a b:Int):ac x a b=some (tV x a b):=xt x a b
def Kg (v:zz):Bool:=tV v.1 1 99&&(tV v.2.1 0 100000&&(tV v.2.2.1 0 10&&(tV v.2.2.2.1 1 99&&tV v.2.2.2.2 0 7)))
theorem OY (v:zz):bR v=some (Kg v):=by
 unfold bR Kg;simp only[xt,tN];cases tV v.1 1 99<;>cases tV v.2.1 0 100000<;>cases tV v.2.2.1 0 10<;>cases tV v.2.2.2.1 1 99<;>rfl
theorem TC:eo=bR:=rfl
def EB (p:Pt):Bool:=tV p.2.1 1 1000&&(!(p.2.2.1&&!p.1)&&(cond p.2.2.1 (Kg p.2.2.2) (p.2.2.2.1==0&&(p.2.2.2.2.1==0&&(p.2.2.2.2.2.1==0&&(p.2.2.2.2.2.2.1==0&&(p.2.2.2.2.2.2.2==0)))))))
theorem U0 (p:Pt):eR p=some (EB p):=by
 obtain⟨up,cost,heard,v⟩:=p;unfold eR EB;simp only[xt,OY,tN];cases tV cost 1 1000<;>cases up<;>cases heard<;>rfl
theorem U1 (p:Pt):ep p=some (EB p):=by
 obtain⟨up,cost,heard,v⟩:=p;unfold ep EB;simp only[AL,TC,OY,tN];cases tV cost 1 1000<;>cases up<;>cases heard<;>rfl
theorem xL {n:Nat} {c:Int->Option Bool} {b:Nat->Bool} (hn:n<9223372036854775807) (hc:∀k,k<n->c (k:Int)=some (b k)) :
 loop (λi:Int=>cond (decide (i<(n:Int))) ((c i).bind λt=>cond t (some (.inr (.inr false))) (some (.inl (tP (i+1))))) (some (.inr (.inl ())))) 0=some (cond ((List.range n).any b) (Sum.inr false) (Sum.inl ()):Unit⊕Bool):=by
 obtain⟨v,h1,h2⟩:=uw (β:=Unit⊕Bool) (step:=λi:Int=>cond (decide (i<(n:Int))) ((c i).bind λt=>cond t (some (.inr (.inr false))) (some (.inl (tP (i+1))))) (some (.inr (.inl ()))))
  (λk i=>i=(k:Int)/\(List.range k).any b=false) n (λv=>v=cond ((List.range n).any b) (Sum.inr false) (Sum.inl ()))
  (λk i hk ⟨e,ha⟩=>by
   subst e;have hs:(cond (decide ((k:Int)<(n:Int))) ((c (k:Int)).bind λt=>cond t (some (.inr (.inr false))) (some (.inl (tP ((k:Int)+1))))) (some (.inr (.inl ()))):Option (Int⊕(Unit⊕Bool)))=cond (b k) (some (.inr (.inr false))) (some (.inl ((k+1:Nat):Int))):=by
    rw[ux (by omega),cT,hc k hk,tN,u7 (by omega)]
   cases hb:b k with
   | true =>
    refine .inr ⟨.inr false,by rw[hs,hb];rfl,?_⟩;have:(List.range n).any b=true:=any_eq_true.2 ⟨k,mem_range.2 hk,hb⟩
    rw[this];rfl
   | false =>
    refine .inl ⟨_,by rw[hs,hb];rfl,rfl,?_⟩;rw[range_succ,List.any_append,ha];simp[hb])
  (λi ⟨e,ha⟩=>by
   subst e;exact⟨.inl (),by rw[ui (by omega),cF],by rw[ha];rfl⟩) (x:=0) ⟨rfl,rfl⟩
 rw[h1,h2]
def Eg (e:tZ):Bool:=tV e.1 1 99&&(tV e.2.1 1 9999&&(tV e.2.2.1 0 7&&(tV e.2.2.2.1 0 4&&(!e.2.2.2.2||e.2.2.2.1==0))))
theorem Py (e:tZ):dj e=some (Eg e):=by
 unfold dj Eg;simp only[xt,tN];cases tV e.1 1 99<;>cases tV e.2.1 1 9999<;>cases tV e.2.2.1 0 7<;>cases tV e.2.2.2.1 0 4<;>cases e.2.2.2.2<;>rfl
theorem SV:fT=dj:=rfl
def Am (e:tZ) (tag mac:Int):Bool:=decide (e.1>tag)||(e.1==tag&&decide (e.2.1>mac))
theorem Qq (e:tZ) (tag mac:Int):eS e tag mac=some (Am e tag mac):=by
 unfold eS Am;cases decide (e.1>tag)<;>cases (e.1==tag)<;>rfl
theorem RN (p e:tZ):eq p e.1 e.2.1=some (Am e p.1 p.2.1):=by
 unfold eq Am;by_cases h:p.1=e.1
 · simp[h]
 · have h':¬e.1=p.1:=λk=>h k.symm;have e1:(p.1 != e.1)=true:=by simpa using h
   have e2:(e.1==p.1)=false:=by simpa using h'
   rw[e1,e2,cT,Bool.false_and,Bool.or_false]
def zk (l:List tZ) (k:Nat):Bool:=match l[k]? with
 | some e=>!(Eg e)||(decide (0<k)&&(match l[k-1]? with|some p=>!(Am e p.1 p.2.1)|none=>false))
 | none=>false
def zA (l:List tZ):Bool:=!((List.range l.length).any (zk l))&&decide ((l.length:Int)<=12)
theorem BI {α:Type} {l:List α} {k:Nat} (h:k<l.length) (hk:0<k) (hn:l.length<9223372036854775807):at? l (tP ((k:Int)-1))=some l[k-1]:=by
 rw[uE (by omega) (by omega),show (k:Int)-1=((k-1:Nat):Int) by omega,ud (by omega)]
theorem TD {l:List tZ} (hn:l.length<9223372036854775807):gI l=some (zA l):=by
 unfold gI zA;have h:=xL (n:=l.length) (c:=λi=>(at? l i).bind λx10=>(dj x10).bind λt13=>(cond (!t13) (some true) ((cond (decide (i>0)) ((at? l (tP (i-1))).bind λx23=>(at? l (tP (i-1))).bind λx29=>(eS x10 x23.1 x29.2.1).bind λt32=>some (!t32)) (some false)).bind λt34=>some t34)).bind λt=>some t) (b:=zk l) hn (λk hk=>by
  simp only[ud hk,tN,Py,zk,List.getElem?_eq_getElem hk];cases Eg l[k]with
  | false=>rfl
  | true =>
   by_cases h0:0<k
   · have hd:decide ((k:Int)>0)=true:=dT (by omega);simp only[hd,BI hk h0 hn,tN,Qq,dT h0,List.getElem?_eq_getElem (show k-1<l.length by omega)];rfl
   · have hd:decide ((k:Int)>0)=false:=dF (by omega);simp only[hd,dF h0];rfl)
 have e:(loop (λz=>iO l z) 0)=some (cond ((List.range l.length).any (zk l)) (Sum.inr false) (Sum.inl ())):=by
  rw[←h];refine wv (λi=>?_) 0;unfold iO;simp only[Option.bind_assoc,tN]
 rw[e,tN];cases (List.range l.length).any (zk l)<;>rfl
theorem TE {l:List tZ} (hn:l.length<9223372036854775807):fU l=some (zA l):=by
 unfold fU zA;have h:=xL (n:=l.length) (c:=λi=>(at? l i).bind λx12=>(fT x12).bind λt14=>(cond (!t14) (some true) ((cond (decide (i>0)) ((at? l (tP (i-1))).bind λx23=>(at? l i).bind λx27=>(at? l i).bind λx32=>(eq x23 x27.1 x32.2.1).bind λt35=>some (!t35)) (some false)).bind λt37=>some t37)).bind λt=>some t) (b:=zk l) hn (λk hk=>by
  simp only[ud hk,tN,SV,Py,zk,List.getElem?_eq_getElem hk];cases Eg l[k]with
  | false=>rfl
  | true =>
   by_cases h0:0<k
   · have hd:decide ((k:Int)>0)=true:=dT (by omega);simp only[hd,BI hk h0 hn,tN,RN,dT h0,List.getElem?_eq_getElem (show k-1<l.length by omega)];rfl
   · have hd:decide ((k:Int)>0)=false:=dF (by omega);simp only[hd,dF h0];rfl)
 have e:(loop (λz=>i0 l z) 0)=some (cond ((List.range l.length).any (zk l)) (Sum.inr false) (Sum.inl ())):=by
  rw[←h];refine wv (λi=>?_) 0;unfold i0;simp only[Option.bind_assoc,tN]
 rw[e,tN];cases (List.range l.length).any (zk l)<;>rfl

theorem O4 {v:ve} (hn:v.1.length<9223372036854775807) (id:Int):∃r,ar v id=some r:=by
 unfold ar;obtain⟨b,h1,_⟩:=uw (β:=Unit⊕Int) (step:=λz=>aY v id z) (λk i=>i=(k:Int)) v.1.length (λ_=>True)
  (λk i hk h=>by
   subst h;unfold aY;rw[ux (by omega),cT,ud hk,tN];cases (v.1[k].1==id)with
   | true=>exact .inr ⟨_,rfl,trivial⟩
   | false=>exact .inl ⟨_,rfl,u7 (by omega)⟩)
  (λi h=>by
   subst h;unfold aY;rw[ui (by omega)];exact⟨_,rfl,trivial⟩) (x:=0) rfl
 rw[h1,tN];cases b with
 | inl _=>exact⟨_,rfl⟩
 | inr r=>exact⟨r,rfl⟩
def AY (i:Int):Int:=(2:Int)^i.toNat-1
theorem Kh {i:Int} (h:tV i 1 6=true):i=1\/i=2\/i=3\/i=4\/i=5\/i=6:=by
 unfold tV at h;simp only[aT,decide_eq_true_eq]at h;omega
theorem IT {i:Int} (h:tV i 1 6=true):dC i=some (AY i):=by
 rcases Kh h with rfl|rfl|rfl|rfl|rfl|rfl<;>rfl
theorem RO {i:Int} (h:tV i 1 6=true):∃t,shl .i64 1 (IntKind.u64.wrap i)=some t/\tP (t-1)=AY i:=by
 rcases Kh h with rfl|rfl|rfl|rfl|rfl|rfl<;>exact⟨_,rfl,rfl⟩
theorem ME {i:Int} (h:tV i 1 6=true):1<=AY i/\AY i<=63:=by
 rcases Kh h with rfl|rfl|rfl|rfl|rfl|rfl<;>decide
theorem HL (x:BitVec 64):IntKind.i64.wrap (x.toNat:Int)=x.toInt:=by
 have hx:=x.isLt;rw[BitVec.toInt_eq_toNat_cond];show (let m:=(x.toNat:Int)%18446744073709551616;if (true&&decide (m>=9223372036854775808))=true then m-18446744073709551616 else m)=_
 simp only[Bool.true_and,decide_eq_true_eq];have h1:(x.toNat:Int)%18446744073709551616=(x.toNat:Int):=by omega
 rw[h1];split<;>split<;>omega
theorem B7 {b:Int} (h1:-9223372036854775808<=b) (h2:b<=9223372036854775807):(BitVec.ofInt 64 b).toInt=b:=by
 rw[BitVec.toInt_ofInt];unfold Int.bmod;simp only;split<;>omega
theorem Pz (a b:Int):yJ .i64 a b=(BitVec.ofInt 64 a&&&BitVec.ofInt 64 b).toInt:=HL _
theorem SW (a b:Int):EE .i64 a b=(BitVec.ofInt 64 a &&& ~~~ BitVec.ofInt 64 b).toInt:=HL _
theorem LD (x y:BitVec 64):x&&&y=x↔x &&& ~~~ y=0:=by
 constructor
 · intro h;apply BitVec.eq_of_getLsbD_eq;intro i hi;have:=congrArg (λz=>z.getLsbD i) h
   simp only[BitVec.getLsbD_and]at this;simp only[BitVec.getLsbD_and,BitVec.getLsbD_not,BitVec.getLsbD_zero,hi,decide_true,Bool.true_and];cases hx:x.getLsbD i<;>cases hy:y.getLsbD i<;>simp_all
 · intro h;apply BitVec.eq_of_getLsbD_eq;intro i hi;have:=congrArg (λz=>z.getLsbD i) h
   simp only[BitVec.getLsbD_and,BitVec.getLsbD_not,BitVec.getLsbD_zero,hi,decide_true,Bool.true_and]at this;simp only[BitVec.getLsbD_and];cases hx:x.getLsbD i<;>cases hy:y.getLsbD i<;>simp_all
theorem IU {b m:Int} (h1:-9223372036854775808<=b) (h2:b<=9223372036854775807):(yJ .i64 b m != b)=(EE .i64 b m != 0):=by
 rw[Pz,SW];have e:((BitVec.ofInt 64 b&&&BitVec.ofInt 64 m).toInt=b)↔((BitVec.ofInt 64 b &&& ~~~ BitVec.ofInt 64 m).toInt=0):=by
  constructor
  · intro h;have:BitVec.ofInt 64 b&&&BitVec.ofInt 64 m=BitVec.ofInt 64 b:=BitVec.eq_of_toInt_eq (by rw[h,B7 h1 h2])
    rw[(LD _ _).1 this];rfl
  · intro h;have:BitVec.ofInt 64 b &&& ~~~ BitVec.ofInt 64 m=0:=BitVec.eq_of_toInt_eq (by rw[h];rfl)
    rw[(LD _ _).2 this,B7 h1 h2]
 by_cases h:(BitVec.ofInt 64 b&&&BitVec.ofInt 64 m).toInt=b
 · have h':=e.1 h;simp[h,h']
 · have h':¬(BitVec.ofInt 64 b &&& ~~~ BitVec.ofInt 64 m).toInt=0:=λk=>h (e.2 k);rw[bne_iff_ne.2 h,bne_iff_ne.2 h']
theorem LE {b m t:Int} (h1:-9223372036854775808<=b) (h2:b<=9223372036854775807) (hm:tV m 0 t=true) (ht:t<=63) (h:(yJ .i64 b m != b)=false):tV b 0 t=true:=by
 unfold tV at hm ⊢;simp only[aT,decide_eq_true_eq]at hm ⊢;have h:yJ .i64 b m=b:=by simpa using h
 rw[Pz]at h;have e:BitVec.ofInt 64 b&&&BitVec.ofInt 64 m=BitVec.ofInt 64 b:=BitVec.eq_of_toInt_eq (by rw[h,B7 h1 h2])
 have hM:(BitVec.ofInt 64 m).toNat=m.toNat:=by
  rw[BitVec.toNat_ofInt];omega
 have hle:(BitVec.ofInt 64 b).toNat<=m.toNat:=by
  rw[←e,BitVec.toNat_and,hM];exact Nat.and_le_right
 have hb:(BitVec.ofInt 64 b).toInt=((BitVec.ofInt 64 b).toNat:Int):=by
  rw[BitVec.toInt_eq_toNat_cond];split<;>omega
 rw[B7 h1 h2]at hb;omega
def Bm (v:ve) (i:Int) (k:Nat):Bool:=match v.1[k]? with
 | some r=>!(tV r.1 1 99)||((decide (0<k)&&(match v.1[k-1]? with|some p=>decide (p.1>=r.1)|none=>false))||(!(tV r.2.1 0 (AY i))||(EE .i64 r.2.2 r.2.1 != 0)))
 | none=>false
noncomputable def Eh (v:ve) (k:Nat):Bool:=match v.2[k]? with
 | some x=>(match ar v x with|some t=>decide (t<0)|none=>false)
 | none=>false
noncomputable def yj (v:ve) (i:Int):Bool:=!(!(tV i 1 6)||((v.2.length:Int) != i||decide ((v.1.length:Int)>6)))&&(!((List.range v.1.length).any (Bm v i))&&!((List.range v.2.length).any (Eh v)))
theorem O5 {v:ve} {i:Int} (hi:tV i 1 6=true) (hn:v.1.length<9223372036854775807):loop (λz=>iP v i z) 0=some (cond ((List.range v.1.length).any (Bm v i)) (Sum.inr false) (Sum.inl ())):=by
 rw[←xL (n:=v.1.length) (c:=λt28=>(at? v.1 t28).bind λx31 =>
  (aa x31.1 1 99).bind λt35 =>
  (cond (!t35) (some true) ((cond (decide (t28>0)) ((at? v.1 (tP (t28-1))).bind λx45=>some (decide (x45.1>=x31.1))) (some false)).bind λt51=>some t51)).bind λt52 =>
  (cond t52 (some true) ((dC i).bind λt57=>(aa x31.2.1 0 t57).bind λt58=>some (!t58))).bind λt60 =>
  (cond t60 (some true) (some ((EE .i64 x31.2.2 x31.2.1) != 0))).bind λt=>some t) (b:=Bm v i) hn (λk hk=>by
   simp only[ud hk,tN,xt,Bm,List.getElem?_eq_getElem hk,IT hi];cases tV v.1[k].1 1 99 with
   | false=>rfl
   | true =>
    by_cases h0:0<k
    · have hd:decide ((k:Int)>0)=true:=dT (by omega);simp only[hd,BI hk h0 hn,tN,dT h0,List.getElem?_eq_getElem (show k-1<v.1.length by omega)];cases decide (v.1[k-1].1>=v.1[k].1)<;>cases tV v.1[k].2.1 0 (AY i)<;>rfl
    · have hd:decide ((k:Int)>0)=false:=dF (by omega);simp only[hd,dF h0];cases tV v.1[k].2.1 0 (AY i)<;>rfl)]
 refine wv (λi=>?_) 0;unfold iP;simp only[Option.bind_assoc,tN]
theorem MF {v:ve} {i t:Int} (hi:tV i 1 6=true) (ht:tP (t-1)=AY i) (hn:v.1.length<9223372036854775807) (hw:∀r∈v.1,-9223372036854775808<=r.2.2/\r.2.2<=9223372036854775807):loop (λz=>ia v t z) 0=some (cond ((List.range v.1.length).any (Bm v i)) (Sum.inr false) (Sum.inl ())):=by
 rw[←xL (n:=v.1.length) (c:=λt6=>(at? v.1 t6).bind λx39 =>
  (ac x39.1 1 99).bind λt43 =>
  (cond (!t43) (some true) ((ac x39.2.1 0 (tP (t-1))).bind λt49=>some (!t49))).bind λt51 =>
  (cond t51 (some true) ((ac x39.2.2 0 (tP (t-1))).bind λt56=>some (!t56))).bind λt58 =>
  (cond t58 (some true) (some ((yJ .i64 x39.2.2 x39.2.1) != x39.2.2))).bind λt68 =>
  (cond t68 (some true) ((cond (decide (t6>0)) ((at? v.1 (tP (t6-1))).bind λx77=>some (decide (x77.1>=x39.1))) (some false)).bind λt83=>some t83)).bind λt=>some t) (b:=Bm v i) hn (λk hk=>by
   obtain⟨w1,w2⟩:=hw _ (getElem_mem hk);have hs:=IU (m:=v.1[k].2.1) w1 w2
   have hin:=LE (m:=v.1[k].2.1) (t:=AY i) w1 w2;have ht2:=(ME hi).2
   simp only[ud hk,tN,AL,Bm,List.getElem?_eq_getElem hk,ht];rw[←hs];cases h1:tV v.1[k].1 1 99 with
   | false=>rfl
   | true =>
    cases h2:tV v.1[k].2.1 0 (AY i)with
    | false =>
     by_cases h0:0<k
     · simp only[dT h0,List.getElem?_eq_getElem (show k-1<v.1.length by omega)];cases decide (v.1[k-1].1>=v.1[k].1)<;>rfl
     · simp only[dF h0];rfl
    | true =>
     cases h3:(yJ .i64 v.1[k].2.2 v.1[k].2.1 != v.1[k].2.2)with
     | true =>
      by_cases h0:0<k
      · simp only[dT h0,List.getElem?_eq_getElem (show k-1<v.1.length by omega)];cases decide (v.1[k-1].1>=v.1[k].1)<;>cases tV v.1[k].2.2 0 (AY i)<;>rfl
      · simp only[dF h0];cases tV v.1[k].2.2 0 (AY i)<;>rfl
     | false =>
      have h4:=hin h2 ht2 h3;rw[h4];by_cases h0:0<k
      · have hd:decide ((k:Int)>0)=true:=dT (by omega);simp only[hd,BI hk h0 hn,tN,dT h0,List.getElem?_eq_getElem (show k-1<v.1.length by omega)];cases decide (v.1[k-1].1>=v.1[k].1)<;>rfl
      · have hd:decide ((k:Int)>0)=false:=dF (by omega);simp only[hd,dF h0];rfl)]
 refine wv (λi=>?_) 0;unfold ia;simp only[Option.bind_assoc,tN]
theorem IV {v:ve} (hn:v.1.length<9223372036854775807) (hn2:v.2.length<9223372036854775807):loop (λz=>gJ v z) 0=some (cond ((List.range v.2.length).any (Eh v)) (Sum.inr false) (Sum.inl ())):=by
 rw[←xL (n:=v.2.length) (c:=λt73=>(at? v.2 t73).bind λx75=>(ar v x75).bind λt79=>some (decide (t79<0))) (b:=Eh v) hn2 (λk hk=>by
  obtain⟨r,hr⟩:=O4 hn v.2[k];simp only[ud hk,tN,Eh,List.getElem?_eq_getElem hk,hr])]
 refine wv (λi=>?_) 0;unfold gJ;simp only[Option.bind_assoc,tN]
theorem SX:lO=gJ:=rfl
theorem PA {v:ve} (i:Int) (hn:v.1.length<9223372036854775807) (hn2:v.2.length<9223372036854775807):cJ v i=some (yj v i):=by
 unfold cJ yj;simp only[xt,tN];cases hi:tV i 1 6 with
 | false=>rfl
 | true =>
  rw[O5 hi hn,IV hn hn2];cases ((v.2.length:Int) != i)<;>cases decide ((v.1.length:Int)>6)<;>cases (List.range v.1.length).any (Bm v i)<;>cases (List.range v.2.length).any (Eh v)<;>rfl
theorem PB {v:ve} (i:Int) (hn:v.1.length<9223372036854775807) (hn2:v.2.length<9223372036854775807) (hw:∀r∈v.1,-9223372036854775808<=r.2.2/\r.2.2<=9223372036854775807):cR v i=some (yj v i):=by
 unfold cR yj;simp only[AL,tN,SX];cases hi:tV i 1 6 with
 | false=>rfl
 | true =>
  obtain⟨t,h1,h2⟩:=RO hi;rw[h1,tN,MF hi h2 hn hw,IV hn hn2];cases ((v.2.length:Int) != i)<;>cases decide ((v.1.length:Int)>6)<;>cases (List.range v.1.length).any (Bm v i)<;>cases (List.range v.2.length).any (Eh v)<;>rfl
def EC (l:List Pt) (k:Nat):Bool:=match l[k]? with|some p=>!(EB p)|none=>false
def wC (b:tO):Bool:=tV b.2.2.2.2.2.2.1 0 1000000&&(tV b.2.2.2.2.2.2.2.1 0 1000000&&(tV b.2.2.2.2.2.2.2.2.1 0 1000000&&(tV b.2.2.2.2.2.2.2.2.2.1 0 1000000&&tV b.2.2.2.2.2.2.2.2.2.2 0 1000000)))
noncomputable def v8 (b:tO):Bool:=!((List.range b.2.2.1.length).any (EC b.2.2.1))&&(tV b.1 1 99&&(!(decide ((b.2.1.length:Int)>10))&&(tV (b.2.2.1.length:Int) 1 6&&(zA b.2.2.2.1&&(yj (b.2.2.2.2.1,b.2.2.2.2.2.1) (b.2.2.1.length:Int)&&wC b)))))
structure zl (b:tO):Prop where
 p:b.2.2.1.length<9223372036854775807
 f:b.2.2.2.1.length<9223372036854775807
 v:b.2.2.2.2.1.length<9223372036854775807
 q:b.2.2.2.2.2.1.length<9223372036854775807
 r:∀r∈b.2.2.2.2.1,-9223372036854775808<=r.2.2/\r.2.2<=9223372036854775807
theorem MG {b:tO} (h:zl b):loop (λz=>iQ b z) 0=some (cond ((List.range b.2.2.1.length).any (EC b.2.2.1)) (Sum.inr false) (Sum.inl ())):=by
 rw[←xL (n:=b.2.2.1.length) (c:=λt8=>(at? b.2.2.1 t8).bind λx10=>(eR x10).bind λt13=>some (!t13)) (b:=EC b.2.2.1) h.p (λk hk=>by
  simp only[ud hk,tN,EC,List.getElem?_eq_getElem hk,U0])]
 refine wv (λi=>?_) 0;unfold iQ;simp only[Option.bind_assoc,tN]
theorem KQ {b:tO} (h:zl b):loop (λz=>ib b z) 0=some (cond ((List.range b.2.2.1.length).any (EC b.2.2.1)) (Sum.inr false) (Sum.inl ())):=by
 rw[←xL (n:=b.2.2.1.length) (c:=λt8=>(at? b.2.2.1 t8).bind λx10=>(ep x10).bind λt13=>some (!t13)) (b:=EC b.2.2.1) h.p (λk hk=>by
  simp only[ud hk,tN,EC,List.getElem?_eq_getElem hk,U1])]
 refine wv (λi=>?_) 0;unfold ib;simp only[Option.bind_assoc,tN]
theorem Qr (b:tO):fV b=some (wC b):=by
 unfold fV wC;simp only[AL,tN];cases tV b.2.2.2.2.2.2.1 0 1000000<;>cases tV b.2.2.2.2.2.2.2.1 0 1000000<;>cases tV b.2.2.2.2.2.2.2.2.1 0 1000000<;>cases tV b.2.2.2.2.2.2.2.2.2.1 0 1000000<;>rfl
theorem O6 (n:Int):aN n=some (tV n 0 1000000):=by unfold aN;rw[xt,tN]
theorem DM {b:tO} (h:zl b):aM b=some (v8 b):=by
 unfold aM v8 wC;rw[MG h,tN];cases (List.range b.2.2.1.length).any (EC b.2.2.1)with
 | true=>rfl
 | false =>
  simp only[cF,Sum.elim_inl,xt,TD h.f,PA (v:=(b.2.2.2.2.1,b.2.2.2.2.2.1)) _ h.v h.q,O6,tN];cases tV b.1 1 99<;>cases decide ((b.2.1.length:Int)>10)<;>cases tV (b.2.2.1.length:Int) 1 6<;>cases zA b.2.2.2.1<;>cases yj (b.2.2.2.2.1,b.2.2.2.2.2.1) (b.2.2.1.length:Int) <;>
   cases tV b.2.2.2.2.2.2.1 0 1000000<;>cases tV b.2.2.2.2.2.2.2.1 0 1000000<;>cases tV b.2.2.2.2.2.2.2.2.1 0 1000000<;>cases tV b.2.2.2.2.2.2.2.2.2.1 0 1000000<;>rfl
theorem DN {b:tO} (h:zl b):bn b=some (v8 b):=by
 unfold bn v8;rw[KQ h,tN];cases (List.range b.2.2.1.length).any (EC b.2.2.1)with
 | true=>rfl
 | false =>
  have e:decide ((b.2.1.length:Int)<=10)=!(decide ((b.2.1.length:Int)>10)):=by
   by_cases hh:(b.2.1.length:Int)>10
   · rw[dT hh,dF (by omega)];rfl
   · rw[dF hh,dT (by omega)];rfl
  simp only[cF,Sum.elim_inl,AL,TE h.f,PB (v:=(b.2.2.2.2.1,b.2.2.2.2.2.1)) _ h.v h.q h.r,Qr,tN,e];cases tV b.1 1 99<;>cases decide ((b.2.1.length:Int)>10)<;>cases tV (b.2.2.1.length:Int) 1 6<;>cases zA b.2.2.2.1<;>cases yj (b.2.2.2.2.1,b.2.2.2.2.2.1) (b.2.2.1.length:Int)<;>cases wC b<;>rfl
theorem PC:gg=cA:=rfl
theorem PD (a b:zz):∃r,cA a b=some r:=by
 unfold cA;cases (a.1 != b.1)<;>cases (a.2.1 != b.2.1)<;>cases (a.2.2.2.1 != b.2.2.2.1)<;>exact⟨_,rfl⟩
theorem SY:ij=dv:=rfl
theorem SZ (v:zz) (c:Int):∃r,dv v c=some r:=by
 unfold dv;simp only[OY,xt,tN];cases Kg v<;>cases tV c 1 1000<;>first|exact⟨_,rfl⟩|skip
 generalize Kg (v.1,tP (v.2.1+c),tP (v.2.2.1+1),v.2.2.2.1,v.2.2.2.2)=q;cases q<;>exact⟨_,rfl⟩
theorem T0 (p0:Int) (l:List Pt) (t8 t9 b0 b1 b2 b3 b4 c0 c1 c2 c3 c4:Int):il p0 l t8 t9 b0 b1 b2 b3 b4 c0 c1 c2 c3 c4=cB p0 l t8 t9 b0 b1 b2 b3 b4 c0 c1 c2 c3 c4:=by
 unfold il cB;rw[SY,PC];cases h:at? l t9 with
 | none=>rfl
 | some x=>simp only[tN]
theorem PE:eB=bc:=by
 funext p0 l
 unfold eB bc;rw[wv (λz=>T0 p0 l _ _ _ _ _ _ _ _ _ _ _ _)]
theorem T1 (p0:Int) {l:List Pt} (hn:l.length<9223372036854775807):∃r,bc p0 l=some r:=by
 unfold bc;obtain⟨b,h1,_⟩:=uw (step:=λz:Int×Int×Int×Int×Int×Int×Int×Int×Int×Int×Int×Int=>cB p0 l z.1 z.2.1 z.2.2.1 z.2.2.2.1 z.2.2.2.2.1 z.2.2.2.2.2.1 z.2.2.2.2.2.2.1 z.2.2.2.2.2.2.2.1 z.2.2.2.2.2.2.2.2.1 z.2.2.2.2.2.2.2.2.2.1 z.2.2.2.2.2.2.2.2.2.2.1 z.2.2.2.2.2.2.2.2.2.2.2)
  (λk z=>z.2.1=(k:Int)) l.length (λ_=>True)
  (λk z hk h=>by
   left;obtain⟨t7,t18,b0,b1,b2,b3,b4,c0,c1,c2,c3,c4⟩:=z;obtain rfl:t18=(k:Int):=h;unfold cB;simp only[ux (show (k:Int)<(l.length:Int) by omega),cT,ud hk,tN];rw[show tP ((k:Int)+1)=((k+1:Nat):Int)from u7 (by omega)];generalize l[k]=x;have e:(cond (!x.1) (some true) (some (!x.2.2.1)):Option Bool)=some (cond (!x.1) true (!x.2.2.1)):=by cases x.1<;>rfl
   rw[e,tN];cases (cond (!x.1) true (!x.2.2.1))with
   | true=>exact⟨_,rfl,rfl⟩
   | false =>
    obtain⟨r,hr⟩:=SZ x.2.2.2 x.2.1;obtain⟨q,hq⟩:=PD r.1 (c0,c1,c2,c3,c4);rw[cF,hr,tN,hq];cases r.2<;>cases decide (r.1.1<p0)<;>cases decide (t7<0)<;>cases q<;>exact⟨_,rfl,rfl⟩)
  (λz h=>by
   obtain⟨t7,t18,b0,b1,b2,b3,b4,c0,c1,c2,c3,c4⟩:=z;obtain rfl:t18=(l.length:Int):=h;unfold cB;simp only[ui (show ¬(l.length:Int)<(l.length:Int) by omega),cF];exact⟨_,rfl,trivial⟩) (x:=((-1),0,p0,0,0,p0,0,0,0,0,0,0)) rfl
 rw[h1,tN];exact⟨_,rfl⟩
theorem TF:gh=dw:=by
 funext id l p
 unfold gh dw;rw[PE]
theorem PF:eC=aD:=by
 funext id l p
 unfold eC aD;rw[PE,TF,PC];rfl
theorem MH (id:Int) {l:List Pt} (hn:l.length<9223372036854775807) (p:Int):∃r,aD id l p=some r:=by
 obtain⟨v,hv⟩:=T1 id hn;unfold aD dw;simp only[xt,tN,hv];rw[show tP ((l.length:Int)-1)=(l.length:Int)-1 from uE (by omega) (by omega)];cases hp:tV p 0 ((l.length:Int)-1)with
 | false=>exact⟨_,rfl⟩
 | true =>
  unfold tV at hp;simp only[aT,decide_eq_true_eq]at hp;obtain⟨k,rfl⟩:∃k:Nat,p=(k:Int):=⟨p.toNat,by omega⟩;simp only[ud (show k<l.length by omega),tN];generalize l[k]'(by omega)=x;obtain⟨q,hq⟩:=PD (v.1.1,v.1.2.1,v.1.2.2.1,v.1.2.2.2.1,(k:Int)) x.2.2.2;rw[hq];cases x.1<;>cases (v.2==(k:Int))<;>cases x.2.2.1<;>cases q<;>exact⟨_,rfl⟩
theorem T2 (b:tO) (c p:Int):gx b c p=bz b c p:=by
 unfold gx bz dx;rw[PF];cases at? b.2.2.1 p with
 | none=>rfl
 | some x=>simp only[tN];cases x.1<;>rfl
theorem GM {α:Type} (out:List tQ) (name:List Int) (n:Int) (f:List tQ->Option α):((aI n).bind λv=>(ay v name).bind λt=>(ut out [t]).bind f)=(af out name n).bind f:=by
 unfold aI ay af co iv;simp only[tN,Option.bind_assoc]
theorem OZ (b:tO) (c i:Int) (out:List tQ):iy b c i out=bf b c i out:=by
 unfold iy bf;simp only[T2,GM]
theorem TG {r:ua} {c:Int} (h:1<=c/\c<=3):((ix [1,r.2.1,r.2.2].length (tP (c-1))).bind λj=>([1,r.2.1,r.2.2][j]?).bind λx=>some x)=iw r c:=by
 have:c=1\/c=2\/c=3:=by omega
 rcases this with rfl|rfl|rfl<;>rfl
theorem Qs (b:tO) {c:Int} (h:1<=c/\c<=3) (i:Int) (out:List tQ):iA b c i out=bg b c i out:=by
 unfold iA bg;cases hr:at? b.2.2.2.2.1 i with
 | none=>rfl
 | some r =>
  simp only[tN,←TG (r:=r) h,Option.bind_assoc,GM]
theorem RP (b:tO) (i:Int) (out:List tQ):iB b i out=aP b i out:=by
 unfold iB aP;cases hr:at? b.2.2.2.1 i with
 | none=>rfl
 | some r=>simp only[tN,GM]
theorem T3 (b:tO) (c:Int) (out:List tQ):iz b c out=bA b c out:=by
 unfold iz bA;rw[wv (λz=>OZ b c _ _)]
theorem T4 (b:tO) {c:Int} (h:1<=c) (out:List tQ):eI b c out=bB b c out:=by
 unfold eI bB;by_cases h3:c<=3
 · rw[wv (λz=>Qs b ⟨h,h3⟩ _ _)]
 · rw[dF h3];rfl
theorem MI (b:tO) {c:Int} {out:List tQ} {y:Int×List tQ} (h:1<=c) (e:eI b c out=some (.inl y)):1<=y.1:=by
 unfold eI at e;by_cases h3:c<=3
 · rw[dT h3,cT,Option.bind_eq_some_iff]at e;obtain⟨d,_,e⟩:=e;cases e;show 1<=tP (c+1)
   rw[uE (by omega) (by omega)];omega
 · rw[dF h3]at e;cases e
def Aa (b:tO):List tQ:=[([1,3,1,1,1],4,0,b.2.1,[]),([1,3,1,1,2],2,b.2.2.2.2.2.2.1,[],[]),([1,3,1,1,3],2,b.2.2.2.2.2.2.2.1,[],[]),([1,3,1,1,4],2,b.2.2.2.2.2.2.2.2.1,[],[]),([1,3,1,1,5],2,b.2.2.2.2.2.2.2.2.2.1,[],[])]
theorem TH (b:tO):ay (4,0,b.2.1,[]) ([1,1]:List Int)=some ([1,3,1,1,1],4,0,b.2.1,[]):=by kernel_rfl
theorem TI (b:tO):wU (λz=>jI b z.1 z.2) 5 (0,[([1,3,1,1,1],4,0,b.2.1,[])])=some (Aa b):=by kernel_rfl
theorem TJ (b:tO):((co ([1,1]:List Int)).bind λt14=>(af ([(t14,4,0,b.2.1,[])]) ([1,2]:List Int) b.2.2.2.2.2.2.1).bind λt24=>(af t24 ([1,3]:List Int) b.2.2.2.2.2.2.2.1).bind λt29 =>
 (af t29 ([1,4]:List Int) b.2.2.2.2.2.2.2.2.1).bind λt34=>(af t34 ([1,5]:List Int) b.2.2.2.2.2.2.2.2.2.1))=some (Aa b):=by kernel_rfl
noncomputable def FM (b:tO) (l:List tQ):Option (List tQ) :=
 (loop (λz=>bA b z.1 z.2) (1,l)).bind λd_2 =>
  (loop (λz=>bB b z.1 z.2) (1,d_2)).bind λd_4 =>
  (loop (λz=>aP b z.1 z.2) (0,d_4)).bind λd_5 =>
  some d_5
theorem RQ {b:tO} (h:zl b):bh b=cond (!(v8 b)) (some []) (FM b (Aa b)):=by
 unfold bh;rw[DM h,tN,TH,tN,yn (TI b),tN];rfl
theorem TK {b:tO} (h:zl b):de b=cond (!(v8 b)) (some []) (FM b (Aa b)):=by
 unfold de;rw[DN h,tN];have hc:=TJ b
 have e:∀{α:Type} (f:List tQ->Option α),((co ([1,1]:List Int)).bind λt14=>(af ([(t14,4,0,b.2.1,[])]) ([1,2]:List Int) b.2.2.2.2.2.2.1).bind λt24=>(af t24 ([1,3]:List Int) b.2.2.2.2.2.2.2.1).bind λt29 =>
  (af t29 ([1,4]:List Int) b.2.2.2.2.2.2.2.2.1).bind λt34=>(af t34 ([1,5]:List Int) b.2.2.2.2.2.2.2.2.2.1).bind f)=f (Aa b):=by
  intro α f;have:((co ([1,1]:List Int)).bind λt14=>(af ([(t14,4,0,b.2.1,[])]) ([1,2]:List Int) b.2.2.2.2.2.2.1).bind λt24=>(af t24 ([1,3]:List Int) b.2.2.2.2.2.2.2.1).bind λt29 =>
   (af t29 ([1,4]:List Int) b.2.2.2.2.2.2.2.2.1).bind λt34=>(af t34 ([1,5]:List Int) b.2.2.2.2.2.2.2.2.2.1)).bind f=f (Aa b):=by rw[hc,tN]
  rw[←this];simp only[Option.bind_assoc]
 rw[e]
 congr 1
 unfold FM;rw[wv (λz=>T3 b _ _)]
 congr 1
 funext d
 rw[HK (λz:Int×List tQ=>1<=z.1) (λz hz=>T4 b hz _) (λz y hz e=>MI b hz e) (show (1:Int)<=1 by omega)]
 congr 1
 funext d
 rw[wv (λz=>RP b _ _)]
theorem Ki {b:tO} (h:zl b):de b=bh b:=by rw[TK h,RQ h]

theorem T5 {b:tO} (h:zl b) (c:Int) {k:Nat} (hk:k<b.2.2.1.length) (hq:b.2.2.1.length=b.2.2.2.2.2.1.length):∃n,bz b c (k:Int)=some n:=by
 obtain⟨r,hr⟩:=MH b.1 h.p (k:Int);unfold bz dx;rw[ud hk,ud (show k<b.2.2.2.2.2.1.length by omega),hr];simp only[tN];cases (c==1)<;>cases (c==2)<;>cases (c==3)<;>cases (b.2.2.1[k]).1<;>exact⟨_,rfl⟩
theorem Qt {α:Type} {xs ys:List α} (h:xs.length+ys.length<=4294967296):ut xs ys=some (xs++ys):=by
 unfold ut;rw[if_pos (show xs.length+ys.length<=D7 from h)]
noncomputable def zm (id:Int) (l:List Pt) (p:Int):Int:=(aD id l p).getD 0
theorem Ei (id:Int) {l:List Pt} (hn:l.length<9223372036854775807) (p:Int):aD id l p=some (zm id l p):=by
 obtain⟨r,hr⟩:=MH id hn p;unfold zm;rw[hr];rfl
def MJ (l:List Int) (x:Int):Bool:=decide (x∈l)
def B8 (b:Nat->Bool) (m:Nat):List Int:=((List.range m).filter b).map λ(k:Nat)=>(k:Int)
theorem P0 (b:Nat->Bool) (m:Nat):(B8 b m).length<=m:=by
 unfold B8;rw[length_map];exact Nat.le_trans (List.length_filter_le _ _) (by simp)
theorem MK (b:Nat->Bool) (m:Nat):B8 b (m+1)=cond (b m) (B8 b m++[(m:Int)]) (B8 b m):=by
 unfold B8;rw[range_succ,List.filter_append,map_append];cases h:b m<;>simp[h]
theorem zF {n:Nat} {c:Int->Option Bool} {b:Nat->Bool} (hn:n<=1048576) (hc:∀k,k<n->c (k:Int)=some (b k)) :
 loop (λz:Int×List Int=>cond (decide (z.1<(n:Int))) ((c z.1).bind λt=>cond t ((ut z.2 [z.1]).bind λzs=>some (.inl (tP (z.1+1),zs))) (some (.inl (tP (z.1+1),z.2)))) (some (.inr z.2))) (0,([]:List Int))=some (B8 b n):=by
 obtain⟨v,h1,rfl⟩:=uw (step:=λz:Int×List Int=>cond (decide (z.1<(n:Int))) ((c z.1).bind λt=>cond t ((ut z.2 [z.1]).bind λzs=>some (.inl (tP (z.1+1),zs))) (some (.inl (tP (z.1+1),z.2)))) (some (.inr z.2))) (λk z=>z.1=(k:Int)/\z.2=B8 b k) n (λl=>l=B8 b n)
  (λk z hk ⟨e1,e2⟩=>by
   obtain⟨i,l⟩:=z;simp only at e1 e2;subst e1 e2;left;have hle:=P0 b k
   refine⟨(tP ((k:Int)+1),B8 b (k+1)),?_,u7 (by omega),rfl⟩;simp only[ux (show (k:Int)<(n:Int) by omega),cT,hc k hk,tN];rw[MK];cases b k with
   | false=>rfl
   | true=>rw[cT,Qt (by simp;omega)];rfl)
  (λz ⟨e1,e2⟩=>by
   obtain⟨i,l⟩:=z;simp only at e1 e2;subst e1 e2;exact⟨_,by simp only[ui (show ¬(n:Int)<(n:Int) by omega),cF],rfl⟩) (x:=(0,[])) ⟨rfl,rfl⟩
 exact h1
def LF (l:List Bool):Nat:=l.count true
theorem RR (l:List Bool):LF l<=l.length:=List.count_le_length
theorem Qu {l:List Bool} {i:Nat} (h:l[i]?=some false):LF (l.set i true)=LF l+1:=by
 obtain⟨hi,he⟩:=List.getElem?_eq_some_iff.1 h;unfold LF;rw[List.count_set hi,he];simp
theorem RS {n k:Nat} (h:k<n):tV (k:Int) 0 ((n:Int)-1)=true:=by
 unfold tV;rw[dT (by omega),dT (by omega)];rfl
structure Kj (X:List Int) (l:List Bool):Prop where
 r:∀x∈X,∃k:Nat,k<l.length/\x=(k:Int)
 m:∀k,k<l.length->l[k]?=some (MJ X (k:Int))
 c:X.length=LF l
theorem Kj.len {X:List Int} {l:List Bool} (h:Kj X l):X.length<=l.length:=by rw[h.c];exact RR l
theorem Kj.add {X:List Int} {l:List Bool} (h:Kj X l) {i:Nat} (hi:l[i]?=some false):Kj (X++[(i:Int)]) (l.set i true):=by
 obtain⟨hi',he⟩:=List.getElem?_eq_some_iff.1 hi;refine⟨λx hx=>?_,λk hk=>?_,?_⟩
 · rw[length_set];rcases mem_append.1 hx with hx|hx
   · exact h.r x hx
   · simp at hx;exact⟨i,hi',hx⟩
 · rw[length_set]at hk;rw[List.getElem?_set];split
   · rename_i e;subst e;rw[show MJ (X++[(i:Int)]) (i:Int)=true from dT (by simp)]
   · rename_i e;rw[h.m k hk]
     congr 1
     unfold MJ;apply decide_eq_decide.2;rw[mem_append,List.mem_singleton];constructor
     · exact .inl
     · rintro (h|h)
       · exact h
       · omega
 · rw[length_append,Qu hi,h.c];rfl
theorem Kj.in {X:List Int} {l:List Bool} (h:Kj X l) {x:Int} (hx:MJ X x=true):tV x 0 ((l.length:Int)-1)=true:=by
 obtain⟨k,hk,rfl⟩:=h.r x (of_decide_eq_true hx);exact RS hk
def start (n:Nat) (b:Nat):List Bool:=(List.replicate n false).set b true
theorem T6 (id:Int) {l:List Pt} (hn:l.length<9223372036854775807) (p:Int):1<=zm id l p:=by
 have h:=Ei id hn p
 revert h
 generalize zm id l p=v;unfold aD;rw[xt,tN];intro h;have key:∀(o:Option Bool) (f:Bool->Option Int),(∀t x,f t=some x->1<=x)->o.bind f=some v->1<=v:=by
  intro o f hf h;cases o with
  | none=>cases h
  | some t=>exact hf t v h
 refine key _ _ (λt x hx=>?_) h;cases t with
 | true=>cases hx;decide
 | false =>
  rw[cF]at hx;cases hbv:bc id l with
  | none=>rw[hbv]at hx;cases hx
  | some w =>
   rw[hbv,tN]at hx;cases hw:w.2==p with
   | true=>rw[hw]at hx;cases hx;decide
   | false =>
    rw[hw,cF]at hx;cases ha:at? l p with
    | none=>rw[ha]at hx;cases hx
    | some y =>
     rw[ha,tN]at hx
     revert hx
     generalize (cond (!y.2.2.1) _ _:Option Bool)=o;intro hx;cases o with
     | none=>cases hx
     | some t=>cases t<;>(cases hx;decide)
theorem HM {k:Nat} (h:k<64):IntKind.u64.wrap (k:Int)=(k:Int):=by
 show ((k:Int)%18446744073709551616)=_;omega
theorem T7:∀b:Fin 64,∀p:Fin 6,∃t c,shl .i64 1 (p.1:Int)=some t/\B9 .i64 (b.1:Int) t=(c:Int)/\0<=c/\c<64:=by
 intro b p;have h:∀b:Fin 64,∀p:Fin 6,(decide (0<=B9 .i64 (b.1:Int) (2^p.1))&&decide (B9 .i64 (b.1:Int) (2^p.1)<64))=true:=by decide
 have h1:=h b p;simp only[aT,decide_eq_true_eq]at h1;have h2:∀p:Fin 6,shl .i64 1 (p.1:Int)=some (2^p.1):=by decide
 exact⟨_,_,h2 p,rfl,h1.1,h1.2⟩
theorem RT {r:Int} (h:1<=r):decide (r<=2)=(r==1||r==2):=by
 by_cases h2:r<=2
 · rw[dT h2];rcases (show r=1\/r=2 by omega)with rfl|rfl<;>rfl
 · rw[dF h2,beq_eq_false_iff_ne.2 (show r≠1 by omega),beq_eq_false_iff_ne.2 (show r≠2 by omega)];rfl
theorem HN (id:Int) {l:List Pt} (hn:l.length<9223372036854775807) (z:Int×Int) (hz:0<=z.2):eD id l z.1 z.2=aL id l z.1 z.2:=by
 unfold eD aL;rw[PF,Ei id hn,tN];have hr:=T6 id hn z.2
 by_cases h1:z.2<(l.length:Int)
 · rw[ux h1,cT];by_cases h2:z.2<6
   · rw[ux h2,tN,tN,cT,cT,tN,RT hr];obtain⟨k,hk⟩:∃k:Nat,z.2=(k:Int):=⟨z.2.toNat,by omega⟩;rw[hk,HM (by omega)];cases zm id l (k:Int)==1<;>cases zm id l (k:Int)==2<;>rfl
   · rw[ui h2];rfl
 · rw[ui h1];rfl
theorem RU (id:Int) {l:List Pt} (hn:l.length<9223372036854775807):∃c:Nat,c<64/\f8 id l=some (c:Int)/\gi id l=some (c:Int):=by
 obtain⟨v,h1,c,h2,rfl⟩:=uw (step:=λz:Int×Int=>aL id l z.1 z.2) (λk z=>z.2=(k:Int)/\∃c:Nat,c<64/\z.1=(c:Int)) (min l.length 6) (λv=>∃c:Nat,c<64/\v=(c:Int))
  (λk z hk ⟨e1,c,e2,e3⟩=>by
   obtain⟨b,i⟩:=z;simp only at e1 e3;subst e1 e3;left;have k6:k<6:=by omega
   obtain⟨t,d,b1,b2,b3,b4⟩:=T7 ⟨c,e2⟩ ⟨k,k6⟩;have hs:aL id l (c:Int) (k:Int)=cond (zm id l (k:Int)==1||zm id l (k:Int)==2) (some (.inl ((d:Int),((k+1:Nat):Int)))) (some (.inl ((c:Int),((k+1:Nat):Int)))):=by
    unfold aL;rw[ux (show (k:Int)<(l.length:Int) by omega),ux (show (k:Int)<6 by omega),cT,tN,cT,Ei id hn,tN,b1,tN,b2,u7 (by omega)];cases zm id l (k:Int)==1<;>cases zm id l (k:Int)==2<;>rfl
   show ∃y,aL id l (c:Int) (k:Int)=_/\_;rw[hs];cases (zm id l (k:Int)==1||zm id l (k:Int)==2)with
   | true=>exact⟨_,rfl,rfl,d.toNat,by omega,by show d=_;omega⟩
   | false=>exact⟨_,rfl,rfl,c,e2,rfl⟩)
  (λz ⟨e1,c,e2,e3⟩=>by
   obtain⟨b,i⟩:=z;simp only at e1 e3;subst e1 e3;refine⟨(c:Int),?_,c,e2,rfl⟩;show aL id l _ _=_
   unfold aL;by_cases h:l.length<=6
   · rw[Nat.min_eq_left h,ui (by omega)];rfl
   · rw[Nat.min_eq_right (by omega),ux (by omega),ui (show ¬(((6:Nat):Int)<6) by omega)];rfl) (x:=(0,0)) ⟨rfl,0,by omega,rfl⟩
 refine⟨c,h2,by unfold f8;rw[h1];rfl,?_⟩;unfold gi;rw[HK (f:=λz:Int×Int=>eD id l z.1 z.2) (g:=λz:Int×Int=>aL id l z.1 z.2) (λz=>0<=z.2/\z.2<=9223372036854775806) (λz hz=>HN id hn z hz.1) (λz y hz hy=>by
  have hy':eD id l z.1 z.2=some (.inl y):=hy;rw[HN id hn z hz.1]at hy';unfold aL at hy';by_cases h1:z.2<(l.length:Int)
  · by_cases h2:z.2<6
    · rw[ux h1,ux h2,cT,tN,cT,Ei id hn,tN]at hy';have hw:tP (z.2+1)=z.2+1:=uE (by omega) (by omega)
      rw[hw]at hy'
      revert hy'
      generalize (cond (zm id l z.2==1) (some true) (some (zm id l z.2==2)))=o;intro hy';cases o with
      | none=>cases hy'
      | some t =>
       rw[tN]at hy';cases t with
       | false=>cases hy';exact⟨by show 0<=z.2+1;omega,by show z.2+1<=_;omega⟩
       | true =>
        rw[cT]at hy';cases hs:shl .i64 1 z.2 with
        | none=>rw[hs]at hy';cases hy'
        | some q=>rw[hs]at hy';cases hy';exact⟨by show 0<=z.2+1;omega,by show z.2+1<=_;omega⟩
    · rw[ux h1,ui h2]at hy';cases hy'
  · rw[ui h1]at hy';cases hy') (x:=(0,0)) ⟨by decide,by decide⟩,h1]
 rfl
abbrev U2 (x:Int):Prop:=-9223372036854775808<=x/\x<=9223372036854775807
structure VT (v:ve) (n:Nat):Prop where
 p:yj v (n:Int)=true
 r:∀r∈v.1,U2 r.2.2
theorem VT.len {v:ve} {n:Nat} (h:VT v n):1<=n/\n<=6/\v.2.length=n/\v.1.length<=6:=by
 have hp:=h.p;unfold yj tV at hp;simp only[aT,Bool.not_eq_true',Bool.or_eq_false_iff,Bool.not_eq_false',aT,decide_eq_true_eq,decide_eq_false_iff_not,bne_eq_false_iff_eq]at hp;obtain⟨⟨h1,h2,h3⟩,_⟩:=hp;omega
theorem yf {α:Type} {l:List α} {a b:Nat} (h1:a<=b) (h2:b<=l.length):cut l (a:Int) (b:Int)=some ((l.take b).drop a):=by
 unfold cut;rw[if_pos (by omega),if_pos (by omega),if_pos (by omega)];simp
theorem u6 {α:Type} {xs ys:List α} (h:xs.length+ys.length<=4294967296):ut xs ys=some (xs++ys):=by
 unfold ut;rw[if_pos (show xs.length+ys.length<=D7 from h)]
def lt (a b:tZ):Prop:=a.1<b.1\/(a.1=b.1/\a.2.1<b.2.1)
def same (a b:tZ):Prop:=a.1=b.1/\a.2.1=b.2.1
theorem lt_trans {a b c:tZ} (h:lt a b) (k:lt b c):lt a c:=by unfold lt at *;omega
structure FB (l:List tZ):Prop where
 e:∀x∈l,Eg x=true
 o:l.Pairwise lt
 n:l.length<=12
theorem FB.ok {l:List tZ} (h:FB l):zA l=true:=by
 unfold zA;have hn:=h.n
 rw[dT (show (l.length:Int)<=12 by omega),Bool.and_true,Bool.not_eq_true'];apply Bool.eq_false_iff.2;intro ha;obtain⟨k,hk,hx⟩:=any_eq_true.1 ha;have hk:=mem_range.1 hk
 unfold zk at hx;simp only[List.getElem?_eq_getElem hk,h.e _ (getElem_mem hk),Bool.not_true,Bool.false_or,aT,decide_eq_true_eq]at hx;obtain⟨h0,hx⟩:=hx;simp only[List.getElem?_eq_getElem (show k-1<l.length by omega),Bool.not_eq_true']at hx;have hl:=List.pairwise_iff_getElem.1 h.o (k-1) k (by omega) hk (by omega)
 unfold Am at hx;simp only[Bool.or_eq_false_iff,Bool.and_eq_false_iff,decide_eq_false_iff_not,bF]at hx;unfold lt at hl;omega
theorem Kk {α β:Type} (l:List α) (i:Int) (f:α->Option β):((ix l.length i).bind λj=>(l[j]?).bind f)=(at? l i).bind f:=by
 unfold ix at?;by_cases h0:0<=i
 · rw[if_pos h0,if_pos h0];by_cases h1:i<(l.length:Int)
   · rw[if_pos h1,tN]
   · rw[if_neg h1,List.getElem?_eq_none (by omega)];rfl
 · rw[if_neg h0,if_neg h0];rfl
noncomputable def Ej (b:tO) (c p:Int):Int:=(bz b c p).getD 0
def num (name:List Int) (n:Int):tQ:=([1,3,1]++name,2,n,[],[])
def Fk (r:ua) (c:Nat):Int:=match c with|0=>1|1=>r.2.1|_=>r.2.2
noncomputable def wI (b:tO) (c:Nat):List tQ:=(List.range b.2.2.1.length).map λk=>num [2,((c+1:Nat):Int),((k+1:Nat):Int)] (Ej b ((c+1:Nat):Int) (k:Int))
def xU (b:tO) (c:Nat):List tQ:=b.2.2.2.2.1.map λr=>num [3,((c+1:Nat):Int),r.1] (Fk r c)
def Di (b:tO):List tQ:=b.2.2.2.1.map λe=>num [4,1,e.1,e.2.1] (tP (e.2.2.1+1))
noncomputable def wK (b:tO):List tQ:=Aa b++(List.range 4).flatMap (wI b)++(List.range 3).flatMap (xU b)++Di b
theorem GN {out:List tQ} (name:List Int) (n i:Int) (h1:out.length<=900) (h2:name.length<=900):((aI n).bind λv=>(ay v name).bind λt=>(ut out [t]).bind λzs=>some (Sum.inl (tP (i+1),zs):(Int×List tQ)⊕List tQ))=some (Sum.inl (tP (i+1),out++[num name n])):=by
 unfold aI ay;rw[tN,u6 (by show 3+name.length<=_;omega),tN,tN,u6 (by show out.length+1<=_;omega),tN];rfl
theorem T8 {b:tO} (h:zl b) (hq:b.2.2.1.length=b.2.2.2.2.2.1.length) (h6:b.2.2.1.length<=6) (c:Nat) (out:List tQ) (ho:out.length<=500):loop (λz=>bf b ((c+1:Nat):Int) z.1 z.2) (0,out)=some (out++wI b c):=by
 obtain⟨v,h1,rfl⟩:=uw (step:=λz:Int×List tQ=>bf b ((c+1:Nat):Int) z.1 z.2) (λk z=>z.1=(k:Int)/\z.2=out++(List.range k).map λk=>num [2,((c+1:Nat):Int),((k+1:Nat):Int)] (Ej b ((c+1:Nat):Int) (k:Int))) b.2.2.1.length (λv=>v=out++wI b c)
  (λk z hk ⟨e1,e2⟩=>by
   obtain⟨i,l⟩:=z;simp only at e1 e2;subst e1;left;obtain⟨n,hn⟩:=T5 h ((c+1:Nat):Int) hk hq;have hv:Ej b ((c+1:Nat):Int) (k:Int)=n:=by unfold Ej;rw[hn];rfl
   have hl:l.length<=900:=by rw[e2];simp;omega
   refine⟨(((k+1:Nat):Int),l++[num [2,((c+1:Nat):Int),((k+1:Nat):Int)] n]),?_,rfl,?_⟩
   · show bf b ((c+1:Nat):Int) (k:Int) l=_;unfold bf;rw[ux (by omega),cT,hn,tN,GN _ _ _ hl (by simp),u7 (by omega)]
   · show l++[num _ n]=_;rw[e2,range_succ,map_append,←append_assoc,List.map_singleton,hv])
  (λz ⟨e1,e2⟩=>by
   obtain⟨i,l⟩:=z;simp only at e1 e2;subst e1;refine⟨l,?_,e2⟩;show bf b ((c+1:Nat):Int) _ l=_
   unfold bf;rw[ui (by omega),cF]) (x:=(0,out)) ⟨rfl,by simp⟩
 exact h1
theorem RV {b:tO} (h:zl b) (hq:b.2.2.1.length=b.2.2.2.2.2.1.length) (h6:b.2.2.1.length<=6) (out:List tQ) (ho:out.length<=100):loop (λz=>bA b z.1 z.2) (1,out)=some (out++(List.range 4).flatMap (wI b)):=by
 have hg:∀c,(wI b c).length<=6:=λc=>by unfold wI;rw[length_map,List.length_range];exact h6
 obtain⟨v,h1,rfl⟩:=uw (step:=λz:Int×List tQ=>bA b z.1 z.2) (λk z=>z.1=((k+1:Nat):Int)/\z.2=out++(List.range k).flatMap (wI b)/\z.2.length<=100+6*k) 4 (λv=>v=out++(List.range 4).flatMap (wI b))
  (λk z hk ⟨e1,e2,e3⟩=>by
   obtain⟨i,l⟩:=z;simp only at e1 e2 e3;subst e1;left;have hg':=hg k
   refine⟨(((k+1+1:Nat):Int),l++wI b k),?_,rfl,?_,by show (l++wI b k).length<=_;rw[length_append];omega⟩
   · show bA b ((k+1:Nat):Int) l=_;unfold bA;rw[dT (show ((k+1:Nat):Int)<=4 by omega),cT,T8 h hq h6 k l (by omega),tN,u7 (by omega)]
   · show l++wI b k=_;rw[e2,range_succ,List.flatMap_append,←append_assoc];simp)
  (λz ⟨e1,e2,e3⟩=>by
   obtain⟨i,l⟩:=z;simp only at e1 e2 e3;subst e1;exact⟨l,rfl,e2⟩) (x:=(1,out)) ⟨rfl,by simp,by show out.length<=_;omega⟩
 exact h1
theorem TL {b:tO} (h6:b.2.2.2.2.1.length<=6) {c:Nat} (hc:c<3) (out:List tQ) (ho:out.length<=500):loop (λz=>bg b ((c+1:Nat):Int) z.1 z.2) (0,out)=some (out++xU b c):=by
 obtain⟨v,h1,rfl⟩:=uw (step:=λz:Int×List tQ=>bg b ((c+1:Nat):Int) z.1 z.2) (λk z=>z.1=(k:Int)/\z.2=out++(b.2.2.2.2.1.take k).map λr=>num [3,((c+1:Nat):Int),r.1] (Fk r c)) b.2.2.2.2.1.length (λv=>v=out++xU b c)
  (λk z hk ⟨e1,e2⟩=>by
   obtain⟨i,l⟩:=z;simp only at e1 e2;subst e1;left;have hl:l.length<=900:=by rw[e2];simp;omega
   refine⟨(((k+1:Nat):Int),l++[num [3,((c+1:Nat):Int),b.2.2.2.2.1[k].1] (Fk b.2.2.2.2.1[k] c)]),?_,rfl,?_⟩
   · show bg b ((c+1:Nat):Int) (k:Int) l=_;unfold bg;rw[ux (by omega),cT,ud hk,tN];generalize b.2.2.2.2.1[k]=r;have hw:tP (((c+1:Nat):Int)-1)=(c:Int):=by rw[uE (by omega) (by omega)];omega
     have hx:(ix [1,r.2.1,r.2.2].length (tP (((c+1:Nat):Int)-1))).bind (λj91=>([1,r.2.1,r.2.2][j91]?).bind λx92=>(aI x92).bind λt93=>(ay t93 [3,((c+1:Nat):Int),r.1]).bind λt98=>(ut l [t98]).bind λzs100=>some (Sum.inl (tP ((k:Int)+1),zs100):(Int×List tQ)⊕List tQ))=(aI (Fk r c)).bind λt93=>(ay t93 [3,((c+1:Nat):Int),r.1]).bind λt98=>(ut l [t98]).bind λzs100=>some (Sum.inl (tP ((k:Int)+1),zs100)):=by
      rw[hw,wi (show c<[1,r.2.1,r.2.2].length from hc),tN];rcases (show c=0\/c=1\/c=2 by omega)with rfl|rfl|rfl<;>rfl
     rw[hx,GN _ _ _ hl (by simp),u7 (by omega)]
   · show l++[num _ _]=_;rw[e2,take_add_one,List.getElem?_eq_getElem hk,map_append,←append_assoc];rfl)
  (λz ⟨e1,e2⟩=>by
   obtain⟨i,l⟩:=z;simp only at e1 e2;subst e1;rw[take_length]at e2;refine⟨l,?_,e2⟩;show bg b ((c+1:Nat):Int) _ l=_
   unfold bg;rw[ui (by omega),cF]) (x:=(0,out)) ⟨rfl,by simp⟩
 exact h1
theorem T9 {b:tO} (h6:b.2.2.2.2.1.length<=6) (out:List tQ) (ho:out.length<=200):loop (λz=>bB b z.1 z.2) (1,out)=some (out++(List.range 3).flatMap (xU b)):=by
 have hg:∀c,(xU b c).length<=6:=λc=>by unfold xU;rw[length_map];exact h6
 obtain⟨v,h1,rfl⟩:=uw (step:=λz:Int×List tQ=>bB b z.1 z.2) (λk z=>z.1=((k+1:Nat):Int)/\z.2=out++(List.range k).flatMap (xU b)/\z.2.length<=200+6*k) 3 (λv=>v=out++(List.range 3).flatMap (xU b))
  (λk z hk ⟨e1,e2,e3⟩=>by
   obtain⟨i,l⟩:=z;simp only at e1 e2 e3;subst e1;left;have hg':=hg k
   refine⟨(((k+1+1:Nat):Int),l++xU b k),?_,rfl,?_,by show (l++xU b k).length<=_;rw[length_append];omega⟩
   · show bB b ((k+1:Nat):Int) l=_;unfold bB;rw[dT (show ((k+1:Nat):Int)<=3 by omega),cT,TL h6 hk l (by omega),tN,u7 (by omega)]
   · show l++xU b k=_;rw[e2,range_succ,List.flatMap_append,←append_assoc];simp)
  (λz ⟨e1,e2,e3⟩=>by
   obtain⟨i,l⟩:=z;simp only at e1 e2 e3;subst e1;exact⟨l,rfl,e2⟩) (x:=(1,out)) ⟨rfl,by simp,by show out.length<=_;omega⟩
 exact h1
theorem TM {b:tO} (h12:b.2.2.2.1.length<=12) (out:List tQ) (ho:out.length<=500):loop (λz=>aP b z.1 z.2) (0,out)=some (out++Di b):=by
 obtain⟨v,h1,rfl⟩:=uw (step:=λz:Int×List tQ=>aP b z.1 z.2) (λk z=>z.1=(k:Int)/\z.2=out++(b.2.2.2.1.take k).map λe=>num [4,1,e.1,e.2.1] (tP (e.2.2.1+1))) b.2.2.2.1.length (λv=>v=out++Di b)
  (λk z hk ⟨e1,e2⟩=>by
   obtain⟨i,l⟩:=z;simp only at e1 e2;subst e1;left;have hl:l.length<=900:=by rw[e2];simp;omega
   refine⟨(((k+1:Nat):Int),l++[num [4,1,b.2.2.2.1[k].1,b.2.2.2.1[k].2.1] (tP (b.2.2.2.1[k].2.2.1+1))]),?_,rfl,?_⟩
   · show aP b (k:Int) l=_;unfold aP;rw[ux (by omega),cT,ud hk,tN,GN _ _ _ hl (by simp),u7 (by omega)]
   · show l++[num _ _]=_;rw[e2,take_add_one,List.getElem?_eq_getElem hk,map_append,←append_assoc];rfl)
  (λz ⟨e1,e2⟩=>by
   obtain⟨i,l⟩:=z;simp only at e1 e2;subst e1;rw[take_length]at e2;refine⟨l,?_,e2⟩;show aP b _ l=_
   unfold aP;rw[ui (by omega),cF]) (x:=(0,out)) ⟨rfl,by simp⟩
 exact h1
structure vj (b:tO):Prop where
 w:zl b
 ok:v8 b=true
 p:∀x∈b.2.2.1,EB x=true
 id:tV b.1 1 99=true
 name:b.2.1.length<=10
 n1:1<=b.2.2.1.length
 n6:b.2.2.1.length<=6
 f:zA b.2.2.2.1=true
 v:yj (b.2.2.2.2.1,b.2.2.2.2.2.1) (b.2.2.1.length:Int)=true
 c:wC b=true
theorem HO {b:tO} (h:zl b) (hb:v8 b=true):vj b:=by
 have hb':=hb;unfold v8 at hb;simp only[aT,Bool.not_eq_true',decide_eq_false_iff_not]at hb;obtain⟨h1,h2,h3,h4,h5,h6,h7⟩:=hb;refine⟨h,hb',λx hx=>?_,h2,by omega,?_,?_,h5,h6,h7⟩
 · obtain⟨k,hk,rfl⟩:=getElem_of_mem hx;cases hp:EB b.2.2.1[k]with
   | true=>rfl
   | false =>
    have:=any_eq_false.1 h1 k (mem_range.2 hk);unfold EC at this;simp only[List.getElem?_eq_getElem hk,hp]at this;exact absurd rfl this
 · unfold tV at h4;simp only[aT,decide_eq_true_eq]at h4;omega
 · unfold tV at h4;simp only[aT,decide_eq_true_eq]at h4;omega
theorem vj.vt {b:tO} (h:vj b):VT (b.2.2.2.2.1,b.2.2.2.2.2.1) b.2.2.1.length:=⟨h.v,h.w.r⟩
theorem vj.f12 {b:tO} (h:vj b):b.2.2.2.1.length<=12:=by
 have hf:=h.f;unfold zA at hf;simp only[aT,decide_eq_true_eq]at hf;omega
theorem RW {b:tO} (h:vj b):bh b=some (wK b):=by
 obtain⟨v1,v2,v3,v4⟩:=h.vt.len;have v3':b.2.2.2.2.2.1.length=b.2.2.1.length:=v3
 have v4':b.2.2.2.2.1.length<=6:=v4;have hp:((List.range 4).flatMap (wI b)).length<=24:=by
  have hg:∀c,(wI b c).length<=6:=λc=>by unfold wI;rw[length_map,List.length_range];exact h.n6
  have h0:=hg 0;have h1:=hg 1;have h2:=hg 2;have h3:=hg 3
  show (wI b 0++(wI b 1++(wI b 2++(wI b 3++[])))).length<=24;simp only[length_append,length_nil];omega
 have hr:((List.range 3).flatMap (xU b)).length<=18:=by
  have hg:∀c,(xU b c).length<=6:=λc=>by unfold xU;rw[length_map];exact v4'
  have h0:=hg 0;have h1:=hg 1;have h2:=hg 2
  show (xU b 0++(xU b 1++(xU b 2++[]))).length<=18;simp only[length_append,length_nil];omega
 have k5:(Aa b).length=5:=rfl;rw[RQ h.w,h.ok,Bool.not_true,cF];unfold FM;rw[RV h.w v3'.symm h.n6 (Aa b) (by omega),tN,T9 v4' _ (by rw[length_append];omega),tN,TM h.f12 _ (by rw[length_append,length_append];omega),tN];rfl

theorem Ek {α:Type} {R:α->α->Prop} (tr:∀a b c,R a b->R b c->R a c) {l:List α} (h:∀k (hk:k+1<l.length),R l[k] l[k+1]):l.Pairwise R:=by
 rw[List.pairwise_iff_getElem];intro i j hi hj hij
 induction j with
 | zero=>omega
 | succ j ih =>
  by_cases e:i=j
  · subst e;exact h i hj
  · exact tr _ _ _ (ih (by omega) (by omega)) (h j hj)
def GO (g c:Int) (x:tQ):Prop:=∃t,x.1=1::3::1::g::c::t
theorem AZ {g c g' c':Int} {x y:tQ} (hx:GO g c x) (hy:GO g' c' y) (h:g<g'\/(g=g'/\c<c')):x.1<y.1:=by
 obtain⟨t,ht⟩:=hx;obtain⟨s,hs⟩:=hy;rw[ht,hs];simp only[cons_lt_cons_iff,Int.lt_irrefl,false_or,true_and];rcases h with h|⟨h,k⟩
 · exact .inl h
 · exact .inr ⟨h,.inl k⟩
theorem BC {b:tO} {c:Nat} {x:tQ} (h:x∈wI b c):GO 2 ((c+1:Nat):Int) x:=by
 unfold wI at h;obtain⟨k,_,rfl⟩:=mem_map.1 h;exact⟨_,rfl⟩
theorem D2 {b:tO} {c:Nat} {x:tQ} (h:x∈xU b c):GO 3 ((c+1:Nat):Int) x:=by
 unfold xU at h;obtain⟨k,_,rfl⟩:=mem_map.1 h;exact⟨_,rfl⟩
theorem Fl {b:tO} {x:tQ} (h:x∈Di b):GO 4 1 x:=by
 unfold Di at h;obtain⟨k,_,rfl⟩:=mem_map.1 h;exact⟨_,rfl⟩
theorem Fm {b:tO} {x:tQ} (h:x∈Aa b):∃c,GO 1 c x:=by
 unfold Aa at h;simp only[mem_cons,not_mem_nil,or_false]at h;rcases h with rfl|rfl|rfl|rfl|rfl<;>exact⟨_,_,rfl⟩
theorem ML (b:tO) (c:Nat):(wI b c).Pairwise λx y=>x.1<y.1:=by
 unfold wI;rw[List.pairwise_map];refine List.Pairwise.imp ?_ List.pairwise_lt_range;intro i j h;show (1::3::1::2::((c+1:Nat):Int)::((i+1:Nat):Int)::[])<(1::3::1::2::((c+1:Nat):Int)::((j+1:Nat):Int)::[])
 simp only[cons_lt_cons_iff,Int.lt_irrefl,false_or,true_and];exact .inl (by omega)
theorem IW {b:tO} (h:vj b):b.2.2.2.2.1.Pairwise λr s=>r.1<s.1:=by
 refine Ek (R:=λ(r s:ua)=>r.1<s.1) (λ_ _ _ h k=>Int.lt_trans h k) λk hk=>?_;have hv:=h.v
 unfold yj at hv;simp only[aT,Bool.not_eq_true']at hv;have hx:=any_eq_false.1 hv.2.1 (k+1) (mem_range.2 hk)
 unfold Bm at hx;simp only[List.getElem?_eq_getElem hk,Nat.add_sub_cancel,List.getElem?_eq_getElem (show k<b.2.2.2.2.1.length by omega),Bool.or_eq_true,aT,decide_eq_true_eq,not_or,not_and]at hx;have:=hx.2.1 (by omega)
 omega
theorem O7 {b:tO} (h:vj b) (c:Nat):(xU b c).Pairwise λx y=>x.1<y.1:=by
 unfold xU;rw[List.pairwise_map];refine List.Pairwise.imp ?_ (IW h);intro r s h;show (1::3::1::3::((c+1:Nat):Int)::r.1::[])<(1::3::1::3::((c+1:Nat):Int)::s.1::[])
 simp only[cons_lt_cons_iff,Int.lt_irrefl,false_or,true_and];exact .inl h
theorem P3 {b:tO} (h:vj b):b.2.2.2.1.Pairwise lt:=by
 refine Ek (R:=lt) (λ_ _ _=>lt_trans) λk hk=>?_;have hv:=h.f
 unfold zA at hv;simp only[aT,Bool.not_eq_true']at hv;have hx:=any_eq_false.1 hv.1 (k+1) (mem_range.2 hk)
 unfold zk at hx;simp only[List.getElem?_eq_getElem hk,Nat.add_sub_cancel,List.getElem?_eq_getElem (show k<b.2.2.2.1.length by omega),Bool.or_eq_true,aT,decide_eq_true_eq,not_or,not_and,Bool.not_eq_true',Bool.not_eq_false]at hx;have hp:=hx.2 (by omega)
 unfold Am at hp;simp only[Bool.or_eq_true,aT,decide_eq_true_eq,beq_iff_eq]at hp;unfold lt;omega
theorem P4 {b:tO} (h:vj b):(Di b).Pairwise λx y=>x.1<y.1:=by
 unfold Di;rw[List.pairwise_map];refine List.Pairwise.imp ?_ (P3 h);intro r s h;show (1::3::1::4::1::r.1::r.2.1::[])<(1::3::1::4::1::s.1::s.2.1::[])
 unfold lt at h;simp only[cons_lt_cons_iff,Int.lt_irrefl,false_or,true_and];rcases h with h|⟨h,k⟩
 · exact .inl h
 · exact .inr ⟨h,.inl k⟩
theorem O8 (b:tO):(Aa b).Pairwise λx y=>x.1<y.1:=by
 unfold Aa;simp only[pairwise_cons,mem_cons,not_mem_nil,or_false,forall_eq_or_imp,forall_eq,List.Pairwise.nil,and_true,false_imp_iff,implies_true,cons_lt_cons_iff,Int.lt_irrefl,false_or,true_and];refine⟨⟨.inl (by decide),.inl (by decide),.inl (by decide),.inl (by decide)⟩,⟨.inl (by decide),.inl (by decide),.inl (by decide)⟩,⟨.inl (by decide),.inl (by decide)⟩,.inl (by decide)⟩
theorem Ta {α:Type} (f:Nat->List α):(List.range 4).flatMap f=f 0++(f 1++(f 2++(f 3++[]))):=rfl
theorem Tb {α:Type} (f:Nat->List α):(List.range 3).flatMap f=f 0++(f 1++(f 2++[])):=rfl
theorem HP {n:Nat} {f:Nat->List tQ} {g:Int} (hp:∀c,(f c).Pairwise λx y=>x.1<y.1) (hh:∀c x,x∈f c->GO g ((c+1:Nat):Int) x):((List.range n).flatMap f).Pairwise λx y=>x.1<y.1:=by
 induction n with
 | zero=>exact List.Pairwise.nil
 | succ n ih =>
  rw[range_succ,List.flatMap_append,pairwise_append];refine⟨ih,by simp;exact hp n,λx hx y hy=>?_⟩;obtain⟨c,hc,hx⟩:=mem_flatMap.1 hx;have hc:=mem_range.1 hc
  simp at hy;exact AZ (hh c x hx) (hh n y hy) (.inr ⟨rfl,by omega⟩)
theorem P5 {b:tO} (h:vj b):(wK b).Pairwise λx y=>x.1<y.1:=by
 unfold wK;rw[pairwise_append,pairwise_append,pairwise_append];refine⟨⟨⟨O8 b,HP (ML b) (λc x=>BC),λx hx y hy=>?_⟩,HP (O7 h) (λc x=>D2),λx hx y hy=>?_⟩,P4 h,λx hx y hy=>?_⟩
 · obtain⟨c,hc⟩:=Fm hx;obtain⟨d,_,hy⟩:=mem_flatMap.1 hy;exact AZ hc (BC hy) (.inl (by decide))
 · obtain⟨d,_,hy⟩:=mem_flatMap.1 hy;rcases mem_append.1 hx with hx|hx
   · obtain⟨c,hc⟩:=Fm hx;exact AZ hc (D2 hy) (.inl (by decide))
   · obtain⟨e,_,hx⟩:=mem_flatMap.1 hx;exact AZ (BC hx) (D2 hy) (.inl (by decide))
 · rcases mem_append.1 hx with hx|hx
   · rcases mem_append.1 hx with hx|hx
     · obtain⟨c,hc⟩:=Fm hx;exact AZ hc (Fl hy) (.inl (by decide))
     · obtain⟨e,_,hx⟩:=mem_flatMap.1 hx;exact AZ (BC hx) (Fl hy) (.inl (by decide))
   · obtain⟨e,_,hx⟩:=mem_flatMap.1 hx;exact AZ (D2 hx) (Fl hy) (.inl (by decide))
theorem RX (p s t:List Int) {x y:Int} (h:x≠y):(p++x::s<p++y::t)↔x<y:=by
 induction p with
 | nil =>
  simp only[List.nil_append,cons_lt_cons_iff];exact⟨λk=>k.elim id λk=>absurd k.1 h,.inl⟩
 | cons a p ih=>simp only[List.cons_append,cons_lt_cons_iff,ih,Int.lt_irrefl,false_or,true_and]
theorem Qv (p:List Int) {s:List Int} (h:s≠[]):p<p++s:=by
 induction p with
 | nil=>cases s with
  | nil=>exact absurd rfl h
  | cons a s=>exact List.nil_lt_cons a s
 | cons a p ih=>simp only[List.cons_append,cons_lt_cons_iff,Int.lt_irrefl,false_or,true_and];exact ih
theorem Qw (p s:List Int):¬p++s<p:=by
 induction p with
 | nil=>exact List.not_lt_nil s
 | cons a p ih=>simp only[List.cons_append,cons_lt_cons_iff,Int.lt_irrefl,false_or,true_and];exact ih
theorem PG {a b:List Int} (h:b.length<9223372036854775807):dy a b=some (decide (a<b)):=by
 have hsplit:∀k,a.take k=b.take k->∀(ha:k<a.length) (hb:k<b.length),a=a.take k++a[k]::a.drop (k+1)/\b=a.take k++b[k]::b.drop (k+1):=by
  intro k e ha hb;refine⟨?_,?_⟩
  · rw[←drop_eq_getElem_cons ha,take_append_drop]
  · rw[e,←drop_eq_getElem_cons hb,take_append_drop]
 obtain⟨v,h1,h2⟩:=uw (step:=λz=>cC a b z) (λk i=>i=(k:Int)/\a.take k=b.take k) (min a.length b.length) (λv=>(v=.inr (decide (a<b)))\/(v=.inl ()/\decide ((a.length:Int)<(b.length:Int))=decide (a<b)))
  (λk i hk ⟨e,ht⟩=>by
   subst e;have ha:k<a.length:=by omega
   have hb:k<b.length:=by omega
   have hs:cC a b (k:Int)=cond (a[k] != b[k]) (some (.inr (.inr (decide (a[k]<b[k]))))) (some (.inl ((k+1:Nat):Int))):=by
    unfold cC;rw[ux (show (k:Int)<(a.length:Int) by omega),ux (show (k:Int)<(b.length:Int) by omega),cT,tN,cT,ud ha,tN,ud hb,tN,u7 (by omega),tN,tN]
   obtain⟨s1,s2⟩:=hsplit k ht ha hb;by_cases hne:a[k]=b[k]
   · refine .inl ⟨_,by rw[hs,show (a[k] != b[k])=false by simp[hne]];rfl,rfl,?_⟩;rw[take_add_one,take_add_one,List.getElem?_eq_getElem ha,List.getElem?_eq_getElem hb,ht,hne]
   · refine .inr ⟨_,by rw[hs,show (a[k] != b[k])=true from bne_iff_ne.2 hne];rfl,.inl ?_⟩
     congr 1
     apply decide_eq_decide.2;have:=RX (a.take k) (a.drop (k+1)) (b.drop (k+1)) hne
     rw[←s1,←s2]at this;exact this.symm)
  (λi ⟨e,ht⟩=>by
   subst e;refine⟨.inl (),?_,.inr ⟨rfl,?_⟩⟩
   · show cC a b _=_;unfold cC;by_cases h:a.length<=b.length
     · rw[Nat.min_eq_left h,ui (by omega)];rfl
     · rw[Nat.min_eq_right (by omega),ux (by omega),ui (show ¬(b.length:Int)<(b.length:Int) by omega)];rfl
   · apply decide_eq_decide.2;by_cases h:a.length<=b.length
     · rw[Nat.min_eq_left h,take_length]at ht;have hb:b=a++b.drop a.length:=by
        have:=take_append_drop a.length b;rw[←ht]at this;exact this.symm
       constructor
       · intro hlt;have hd:b.drop a.length≠[]:=by
          intro h0;have:=congrArg List.length h0
          rw[length_drop]at this;simp at this;omega
         have:=Qv a hd;rw[←hb]at this;exact this
       · intro hlt;by_cases he:a.length=b.length
         · have hd:b.drop a.length=[]:=List.drop_eq_nil_of_le (by omega);rw[hd,List.append_nil]at hb;rw[hb]at hlt;exact absurd hlt (List.lt_irrefl _)
         · omega
     · rw[Nat.min_eq_right (by omega),take_length]at ht;have ha:a=b++a.drop b.length:=by
        have:=take_append_drop b.length a;rw[ht]at this;exact this.symm
       constructor
       · intro hlt;omega
       · intro hlt;have:=Qw b (a.drop b.length)
         rw[←ha]at this;exact absurd hlt this) (x:=0) ⟨rfl,by simp⟩
 unfold dy;rw[h1,tN];rcases h2 with rfl|⟨rfl,h2⟩
 · rfl
 · show some (decide _)=_;rw[h2]

theorem D3 {a b:List Int} (h:b.length<9223372036854775807):az a b=some (a==b):=by
 unfold az;by_cases hl:a.length=b.length
 · have e:((a.length:Int) != (b.length:Int))=false:=by rw[hl];simp
   rw[e,cF];obtain⟨v,h1,rfl⟩:=uw (step:=λz=>dk a b z) (λk i=>i=(k:Int)/\a.take k=b.take k) a.length (λv=>v=cond (a==b) (.inl ()) (.inr false))
    (λk i hk ⟨e,ht⟩=>by
     subst e;have hb:k<b.length:=by omega
     have hs:dk a b (k:Int)=cond (a[k] != b[k]) (some (.inr (.inr false))) (some (.inl ((k+1:Nat):Int))):=by
      unfold dk;rw[ux (by omega),cT,ud hk,tN,ud hb,tN,u7 (by omega)]
     by_cases hne:a[k]=b[k]
     · refine .inl ⟨_,by rw[hs,show (a[k] != b[k])=false by simp[hne]];rfl,rfl,?_⟩;rw[take_add_one,take_add_one,List.getElem?_eq_getElem hk,List.getElem?_eq_getElem hb,ht,hne]
     · refine .inr ⟨_,by rw[hs,show (a[k] != b[k])=true from bne_iff_ne.2 hne];rfl,?_⟩;have:(a==b)=false:=by
        apply beq_eq_false_iff_ne.2;intro hab;subst hab;exact hne rfl
       rw[this];rfl)
    (λi ⟨e,ht⟩=>by
     subst e;have hab:a=b:=by
      rw[take_length,List.take_of_length_le (by omega)]at ht;exact ht
     exact⟨.inl (),by show dk a b _=_;unfold dk;rw[ui (by omega),cF],by rw[show (a==b)=true from beq_iff_eq.2 hab];rfl⟩) (x:=0) ⟨rfl,by simp⟩
   rw[h1,tN];cases (a==b)<;>rfl
 · have e:((a.length:Int) != (b.length:Int))=true:=by simp;omega
   have hne:(a==b)=false:=beq_eq_false_iff_ne.2 λh=>hl (by rw[h]);rw[e,cT,hne]
structure Nm (o:List Int):Prop where
 n1:1<=o.length
 n10:o.length<=10
 e:∀x∈o,tV x 0 100000=true
theorem Nm.ok {o:List Int} (h:Nm o):ah o=some true:=by
 have h10:=h.n10;have h1:=h.n1
 unfold ah;obtain⟨v,e,rfl⟩:=uw (step:=λz=>aH o z) (λk i=>i=(k:Int)) o.length (λv=>v=.inl ())
  (λk i hk e=>by
   subst e;refine .inl ⟨((k+1:Nat):Int),?_,rfl⟩;show aH o (k:Int)=_
   unfold aH;rw[ux (by omega),cT,ud hk,tN,xt,tN,h.e _ (getElem_mem hk),u7 (by omega)];rfl)
  (λi e=>by
   subst e;exact⟨.inl (),by show aH o _=_;unfold aH;rw[ui (by omega),cF],rfl⟩) (x:=0) rfl
 rw[e,tN];show ((aa (o.length:Int) 1 10).bind λt=>some t)=_
 rw[xt,tN];unfold tV;rw[dT (by omega),dT (by omega)];rfl
inductive Vl:wJ->Prop
 | num {n:Int} (h:tV n (-2147483648) 2147483647=true):Vl (2,n,[],[])
 | word {s:List UInt8} (h:s.length<=20):Vl (4,0,s,[])
theorem Vl.ok {v:wJ} (h:Vl v):ai v=some true:=by
 cases h with
 | num h =>
  unfold ai av aZ;simp only[xt,h,tN,D3 (show ([]:List Int).length<9223372036854775807 by decide)];simp
 | word h =>
  rename_i s;have hd:decide ((s.length:Int)<=20)=true:=dT (by omega)
  unfold ai aZ;simp only[hd,tN,D3 (show ([]:List Int).length<9223372036854775807 by decide)];simp
theorem Vl.k {v:wJ} (h:Vl v):(v.1==128)=false:=by cases h<;>rfl
theorem Vl.o {v:wJ} (h:Vl v):v.2.2.2=[]:=by cases h<;>rfl
theorem Fo {n:Int} (h1:0<=n) (h2:n<=2147483647):tV n (-2147483648) 2147483647=true:=by unfold tV;rw[dT (by omega),dT (by omega)];rfl
theorem Bp {n a c:Int} (h1:a<=n) (h2:n<=c):tV n a c=true:=by unfold tV;rw[dT (by omega),dT (by omega)];rfl
theorem ED {n a c:Int} (h:tV n a c=true):a<=n/\n<=c:=by
 unfold tV at h;simp only[aT,decide_eq_true_eq]at h;exact h
theorem RY {v:ve} (hn:v.1.length<9223372036854775807) {id r:Int} (h:ar v id=some r) (h0:¬r<0):∃x∈v.1,x.1=id:=by
 unfold ar at h;obtain⟨b,h1,h2⟩:=uw (β:=Unit⊕Int) (step:=λz=>aY v id z) (λk i=>i=(k:Int)) v.1.length (λb=>∀r,b=.inr r->∃x∈v.1,x.1=id)
  (λk i hk h=>by
   subst h;unfold aY;rw[ux (by omega),cT,ud hk,tN];cases hb:(v.1[k].1==id)with
   | true=>exact .inr ⟨_,rfl,λr hr=>⟨_,getElem_mem hk,eq_of_beq hb⟩⟩
   | false=>exact .inl ⟨_,rfl,u7 (by omega)⟩)
  (λi h=>by
   subst h;unfold aY;rw[ui (by omega)];exact⟨_,rfl,λr hr=>by cases hr⟩) (x:=0) rfl
 rw[h1,tN]at h;cases b with
 | inl _=>cases h;exact absurd (by decide) h0
 | inr r'=>exact h2 r' rfl
theorem Qx {id:Int} {l:List Pt} {p v:Int} (h:aD id l p=some v):1<=v/\v<=4:=by
 unfold aD at h;rw[xt,tN]at h;have key:∀(o:Option Bool) (f:Bool->Option Int),(∀t x,f t=some x->1<=x/\x<=4)->o.bind f=some v->1<=v/\v<=4:=by
  intro o f hf h;cases o with
  | none=>cases h
  | some t=>exact hf t v h
 refine key _ _ (λt x hx=>?_) h;cases t with
 | true=>cases hx;decide
 | false =>
  rw[cF]at hx;cases hbv:bc id l with
  | none=>rw[hbv]at hx;cases hx
  | some w =>
   rw[hbv,tN]at hx;cases hw:w.2==p with
   | true=>rw[hw]at hx;cases hx;decide
   | false =>
    rw[hw,cF]at hx;cases ha:at? l p with
    | none=>rw[ha]at hx;cases hx
    | some y =>
     rw[ha,tN]at hx
     revert hx
     generalize (cond (!y.2.2.1) _ _:Option Bool)=o;intro hx;cases o with
     | none=>cases hx
     | some t=>cases t<;>(cases hx;decide)
theorem LG {b:tO} (h:vj b) {r:ua} (hr:r∈b.2.2.2.2.1):(1<=r.1/\r.1<=99)/\(0<=r.2.1/\r.2.1<=63)/\(0<=r.2.2/\r.2.2<=63):=by
 obtain⟨k,hk,rfl⟩:=getElem_of_mem hr;have hv:=h.v
 unfold yj at hv;simp only[aT,Bool.not_eq_true',Bool.or_eq_false_iff,Bool.not_eq_false']at hv;have hx:=any_eq_false.1 hv.2.1 k (mem_range.2 hk)
 unfold Bm at hx;simp only[List.getElem?_eq_getElem hk,Bool.or_eq_true,Bool.not_eq_true',not_or,Bool.not_eq_false]at hx;obtain⟨x1,_,x3,x4⟩:=hx;have ht:=ME (i:=(b.2.2.1.length:Int)) hv.1.1
 have y1:=ED x1;have y3:=ED x3
 have x4:(EE .i64 b.2.2.2.2.1[k].2.2 b.2.2.2.2.1[k].2.1 != 0)=false:=by simpa using x4
 refine⟨y1,by omega,?_⟩;have hI:=h.w.r _ (getElem_mem hk)
 have hband:=ED (LE hI.1 hI.2 x3 ht.2 (by rw[IU hI.1 hI.2];exact x4));omega
theorem Qy {b:tO} (h:vj b) {x:Int} (hx:x∈b.2.2.2.2.2.1):1<=x/\x<=99:=by
 obtain⟨k,hk,rfl⟩:=getElem_of_mem hx;have hv:=h.v
 have hn:b.2.2.2.2.1.length<9223372036854775807:=h.w.v;unfold yj at hv;simp only[aT,Bool.not_eq_true']at hv;have hq:=any_eq_false.1 hv.2.2 k (mem_range.2 hk)
 unfold Eh at hq;simp only[List.getElem?_eq_getElem hk]at hq;obtain⟨r,hr⟩:=O4 (v:=(b.2.2.2.2.1,b.2.2.2.2.2.1)) hn b.2.2.2.2.2.1[k];rw[hr]at hq;simp only[decide_eq_true_eq]at hq;obtain⟨y,hy,e⟩:=RY (v:=(b.2.2.2.2.1,b.2.2.2.2.2.1)) hn hr hq;have:=(LG h (r:=y) hy).1
 rw[e]at this;exact this
theorem P6 {b:tO} (h:vj b) (c:Int) {k:Nat} (hk:k<b.2.2.1.length):0<=Ej b c (k:Int)/\Ej b c (k:Int)<=1000:=by
 have v3:b.2.2.2.2.2.1.length=b.2.2.1.length:=h.vt.len.2.2.1;have hkq:k<b.2.2.2.2.2.1.length:=by omega
 obtain⟨r,hr⟩:=MH b.1 h.w.p (k:Int);have hr2:=Qx hr
 have hp:=h.p _ (getElem_mem hk);unfold EB at hp;simp only[aT]at hp;have hc:=ED hp.1
 have hq:=Qy h (getElem_mem hkq);unfold Ej bz dx;rw[ud hk,ud hkq,hr];simp only[tN];cases (c==1)with
 | true =>
  cases b.2.2.1[k].1 with
  | true=>show (0:Int)<=1/\(1:Int)<=1000;decide
  | false=>show (0:Int)<=0/\(0:Int)<=1000;decide
 | false =>
  cases (c==2)with
  | true=>show 0<=b.2.2.1[k].2.1/\b.2.2.1[k].2.1<=1000;omega
  | false =>
   cases (c==3)with
   | true=>show 0<=r/\r<=1000;omega
   | false=>show 0<=b.2.2.2.2.2.1[k]/\b.2.2.2.2.2.1[k]<=1000;omega
theorem RZ {b:tO} (h:vj b) {e:tZ} (he:e∈b.2.2.2.1):(1<=e.1/\e.1<=99)/\(1<=e.2.1/\e.2.1<=9999)/\(0<=e.2.2.1/\e.2.2.1<=7):=by
 obtain⟨k,hk,rfl⟩:=getElem_of_mem he;have hv:=h.f
 unfold zA at hv;simp only[aT,Bool.not_eq_true']at hv;have hx:=any_eq_false.1 hv.1 k (mem_range.2 hk)
 unfold zk at hx;simp only[List.getElem?_eq_getElem hk,Bool.or_eq_true,Bool.not_eq_true',not_or,Bool.not_eq_false]at hx;have hf:=hx.1
 unfold Eg at hf;simp only[aT]at hf;exact⟨ED hf.1,ED hf.2.1,ED hf.2.2.1⟩
theorem O9 {b:tO} (h:vj b):(0<=b.2.2.2.2.2.2.1/\b.2.2.2.2.2.2.1<=1000000)/\(0<=b.2.2.2.2.2.2.2.1/\b.2.2.2.2.2.2.2.1<=1000000)/\(0<=b.2.2.2.2.2.2.2.2.1/\b.2.2.2.2.2.2.2.2.1<=1000000)/\(0<=b.2.2.2.2.2.2.2.2.2.1/\b.2.2.2.2.2.2.2.2.2.1<=1000000)/\(0<=b.2.2.2.2.2.2.2.2.2.2/\b.2.2.2.2.2.2.2.2.2.2<=1000000):=by
 have hc:=h.c;unfold wC at hc;simp only[aT]at hc;exact⟨ED hc.1,ED hc.2.1,ED hc.2.2.1,ED hc.2.2.2.1,ED hc.2.2.2.2⟩
theorem Oa {a b:Int} (ha:0<=a/\a<=100000) (hb:0<=b/\b<=100000):Nm [1,3,1,a,b]:=⟨by simp,by simp,λx hx=>by
 simp only[mem_cons,not_mem_nil,or_false]at hx;rcases hx with rfl|rfl|rfl|rfl|rfl
 · decide
 · decide
 · decide
 · exact Bp ha.1 ha.2
 · exact Bp hb.1 hb.2⟩
theorem Tm {a b c:Int} (ha:0<=a/\a<=100000) (hb:0<=b/\b<=100000) (hc:0<=c/\c<=100000):Nm [1,3,1,a,b,c]:=⟨by simp,by simp,λx hx=>by
 simp only[mem_cons,not_mem_nil,or_false]at hx;rcases hx with rfl|rfl|rfl|rfl|rfl|rfl
 · decide
 · decide
 · decide
 · exact Bp ha.1 ha.2
 · exact Bp hb.1 hb.2
 · exact Bp hc.1 hc.2⟩
theorem U3 {a b c d:Int} (ha:0<=a/\a<=100000) (hb:0<=b/\b<=100000) (hc:0<=c/\c<=100000) (hd:0<=d/\d<=100000):Nm [1,3,1,a,b,c,d]:=⟨by simp,by simp,λx hx=>by
 simp only[mem_cons,not_mem_nil,or_false]at hx;rcases hx with rfl|rfl|rfl|rfl|rfl|rfl|rfl
 · decide
 · decide
 · decide
 · exact Bp ha.1 ha.2
 · exact Bp hb.1 hb.2
 · exact Bp hc.1 hc.2
 · exact Bp hd.1 hd.2⟩
theorem Cq {b:tO} (h:vj b):∀x∈wK b,Nm x.1/\Vl x.2:=by
 intro x hx;obtain⟨t1,t2,t3,t4,_⟩:=O9 h;have hn6:=h.n6
 unfold wK at hx;simp only[mem_append]at hx;rcases hx with ((hx|hx)|hx)|hx
 · unfold Aa at hx;simp only[mem_cons,not_mem_nil,or_false]at hx;have hname:=h.name
   rcases hx with rfl|rfl|rfl|rfl|rfl
   · exact⟨Oa (by decide) (by decide),.word (by omega)⟩
   · exact⟨Oa (by decide) (by decide),.num (Fo t1.1 (by omega))⟩
   · exact⟨Oa (by decide) (by decide),.num (Fo t2.1 (by omega))⟩
   · exact⟨Oa (by decide) (by decide),.num (Fo t3.1 (by omega))⟩
   · exact⟨Oa (by decide) (by decide),.num (Fo t4.1 (by omega))⟩
 · obtain⟨c,hc,hx⟩:=mem_flatMap.1 hx;have hc:=mem_range.1 hc
   unfold wI at hx;obtain⟨k,hk,rfl⟩:=mem_map.1 hx;have hk:=mem_range.1 hk
   have hp:=P6 h ((c+1:Nat):Int) hk;exact⟨Tm (by decide) (by omega) (by omega),.num (Fo hp.1 (by omega))⟩
 · obtain⟨c,hc,hx⟩:=mem_flatMap.1 hx;have hc:=mem_range.1 hc
   unfold xU at hx;obtain⟨r,hr,rfl⟩:=mem_map.1 hx;obtain⟨r1,r2,r3⟩:=LG h hr;refine⟨Tm (by decide) (by omega) (by omega),.num ?_⟩;unfold Fk;split
   · decide
   · exact Fo r2.1 (by omega)
   · exact Fo r3.1 (by omega)
 · unfold Di at hx;obtain⟨e,he,rfl⟩:=mem_map.1 hx;obtain⟨e1,e2,e3⟩:=RZ h he;refine⟨U3 (by decide) (by decide) (by omega) (by omega),.num ?_⟩;rw[uE (by omega) (by omega)];exact Fo (by omega) (by omega)
theorem Qz {b:tO} (h:vj b):(wK b).length=5+4*b.2.2.1.length+3*b.2.2.2.2.1.length+b.2.2.2.1.length:=by
 have hp:∀c,(wI b c).length=b.2.2.1.length:=λc=>by unfold wI;rw[length_map,List.length_range]
 have hr:∀c,(xU b c).length=b.2.2.2.2.1.length:=λc=>by unfold xU;rw[length_map]
 have hf:(Di b).length=b.2.2.2.1.length:=by unfold Di;rw[length_map]
 have k5:(Aa b).length=5:=rfl;unfold wK;rw[Ta,Tb];simp only[length_append,length_nil,hp,hr,hf,k5];omega
theorem Ob {b:tO} (h:vj b):(wK b).length<=59:=by
 have h1:=Qz h;have h2:=h.n6
 have h3:b.2.2.2.2.1.length<=6:=h.vt.len.2.2.2;have h4:=h.f12
 omega
theorem TN {b:tO} (h:vj b) {o:List Int} (ho:o.length<9223372036854775807):∃v,bC b o=some v/\((∃x∈wK b,x.1=o/\v=x.2)\/((∀x∈wK b,x.1≠o)/\v=(128,0,[],[]))):=by
 have hle:=Ob h;obtain⟨v,h1,h2⟩:=uw (step:=λz:Int×Int×Int×List UInt8×List Int=>aQ o (wK b) z.1 z.2.1 z.2.2.1 z.2.2.2.1 z.2.2.2.2) (λk z=>z=((k:Int),0,0,[],[])/\∀x∈(wK b).take k,x.1≠o) (wK b).length (λv=>(∃x∈wK b,x.1=o/\v=.inr x.2)\/((∀x∈wK b,x.1≠o)/\∃u,v=.inl u))
  (λk z hk ⟨e,hx⟩=>by
   subst e;have hs:aQ o (wK b) (k:Int) 0 0 [] []=cond ((wK b)[k].1==o) (some (.inr (.inr (wK b)[k].2))) (some (.inl (((k+1:Nat):Int),0,0,[],[]))):=by
    unfold aQ;rw[ux (by omega),cT]
    try rw[Kk]
    rw[ud hk,tN,D3 ho,tN,u7 (by omega)]
   show (∃y,aQ o (wK b) (k:Int) 0 0 [] []=_/\_)\/(∃v,aQ o (wK b) (k:Int) 0 0 [] []=_/\_);rw[hs];cases hb:((wK b)[k].1==o)with
   | true=>exact .inr ⟨_,rfl,.inl ⟨_,getElem_mem hk,eq_of_beq hb,rfl⟩⟩
   | false =>
    refine .inl ⟨_,rfl,rfl,λx hx'=>?_⟩;rw[take_add_one,List.getElem?_eq_getElem hk,mem_append]at hx';rcases hx' with hx'|hx'
    · exact hx x hx'
    · simp at hx';subst hx';exact beq_eq_false_iff_ne.1 hb)
  (λz ⟨e,hx⟩=>by
   subst e;rw[take_length]at hx;refine⟨.inl (0,0,[],[]),?_,.inr ⟨hx,_,rfl⟩⟩;show aQ o (wK b) _ 0 0 [] []=_
   unfold aQ;rw[ui (by omega),cF]) (x:=(0,0,0,[],[])) ⟨rfl,by simp⟩
 unfold bC;rw[RW h,tN,h1,tN];rcases h2 with ⟨x,hx,e,rfl⟩|⟨hx,u,rfl⟩
 · exact⟨_,rfl,.inl ⟨x,hx,e,rfl⟩⟩
 · exact⟨_,rfl,.inr ⟨hx,rfl⟩⟩

structure At (m:List tQ) (o:List Int) (j:Nat):Prop where
 le:j<=m.length
 no:∀i (hi:i<m.length),i<j->¬o<m[i].1
 yes:∀i (hi:i<m.length),j<=i->o<m[i].1
theorem Td {m:List tQ} (hp:m.Pairwise λx y=>x.1<y.1) (o:List Int):∃j,At m o j:=by
 have hp:=List.pairwise_iff_getElem.1 hp;have key:∀n,n<=m.length->(∀i (hi:i<m.length),i<n->¬o<m[i].1)\/∃j,At m o j:=by
  intro n
  induction n with
  | zero=>exact λ_=>.inl λi hi h=>by omega
  | succ n ih =>
   intro hn;rcases ih (by omega)with h|h
   · by_cases hlt:o<m[n].1
     · refine .inr ⟨n,by omega,h,λi hi hni=>?_⟩;by_cases e:i=n
       · subst e;exact hlt
       · exact List.lt_trans hlt (hp n i (by omega) hi (by omega))
     · refine .inl λi hi hin=>?_;by_cases e:i=n
       · subst e;exact hlt
       · exact h i hi (by omega)
   · exact .inr h
 rcases key m.length (Nat.le_refl _)with h|h
 · exact⟨m.length,Nat.le_refl _,λi hi _=>h i hi hi,λi hi h=>by omega⟩
 · exact h
theorem S0 {b:tO} (h:vj b) {o:List Int} (ho:o.length<=1048576) {j:Nat} (hj:At (wK b) o j):aJ b o=some (if h:j<(wK b).length then (wK b)[j]else (o,130,0,[],[])):=by
 have hle:=Ob h;have hjl:=hj.le
 obtain⟨v,h1,h2⟩:=uw (step:=λz:Int×Int×Int×List UInt8×List Int×List Int=>bD o (wK b) z.1 z.2.1 z.2.2.1 z.2.2.2.1 z.2.2.2.2.1 z.2.2.2.2.2) (λk z=>z=((k:Int),0,0,[],[],[])) j (λv=>if h:j<(wK b).length then v=.inr (wK b)[j]else ∃u,v=.inl u)
  (λk z hk e=>by
   subst e;have hkl:k<(wK b).length:=by omega
   have hn:=(Cq h _ (getElem_mem hkl)).1.n10;refine .inl ⟨(((k+1:Nat):Int),0,0,[],[],[]),?_,rfl⟩;show bD o (wK b) (k:Int) 0 0 [] [] []=_
   unfold bD;rw[ux (by omega),cT]
   try rw[Kk]
   rw[ud hkl,tN,PG (by omega),dF (hj.no k hkl hk),tN,cF,u7 (by omega)])
  (λz e=>by
   subst e;show ∃v,bD o (wK b) (j:Int) 0 0 [] [] []=_/\_
   unfold bD;by_cases hjn:j<(wK b).length
   · have hn:=(Cq h _ (getElem_mem hjn)).1.n10;rw[ux (by omega),cT]
     try rw[Kk]
     rw[ud hjn,tN,PG (by omega),dT (hj.yes j hjn (Nat.le_refl _)),tN,cT];exact⟨_,rfl,by rw[dif_pos hjn]⟩
   · rw[ui (by omega),cF];exact⟨_,rfl,by rw[dif_neg hjn];exact⟨_,rfl⟩⟩) (x:=(0,0,0,[],[],[])) rfl
 unfold aJ;rw[RW h,tN,h1,tN];by_cases hjn:j<(wK b).length
 · rw[dif_pos hjn]at h2;rw[dif_pos hjn,h2];rfl
 · rw[dif_neg hjn]at h2;obtain⟨u,rfl⟩:=h2;rw[dif_neg hjn];show ((aK o).bind _)=_
   unfold aK;rw[u6 (by show 0+o.length<=_;omega)];rfl
theorem Te {b:tO} (h:vj b) {o:List Int} (ho:o.length<=1000) {j:Nat} (hj:At (wK b) o j):aJ b o=some (if h:j<(wK b).length then (wK b)[j]else (o,130,0,[],[])):=S0 h (by omega) hj
theorem xk {α:Type} {ys:List α} (h:ys.length<=M):ut [] ys=some ys:=by
 unfold ut;rw[if_pos (by show 0+ys.length<=4294967296;have h':ys.length<=1048576:=h;omega)];rfl
theorem El {l:List Int} (h:l.length<=M):aK l=some l:=by unfold aK;rw[xk h];rfl
theorem D4 {l:List Int} (h:l.length<=M):bt l=some l:=by unfold bt;rw[xk h];rfl
theorem QA {l:List tZ} (h:l.length<=M):gG l=some l:=by unfold gG;rw[xk h];rfl
theorem P7 {l:List tZ} (h:l.length<=M):fQ l=some l:=by unfold fQ;rw[xk h];rfl
theorem GP {v:ve} (h:v.1.length<=M/\v.2.length<=M):cH v=some v:=by
 unfold cH;rw[xk h.1,tN,El h.2];rfl
theorem Oc {v:ve} (h:v.1.length<=M/\v.2.length<=M):fR v=some v:=by
 unfold fR;rw[xk h.1,tN,xk h.2];rfl
theorem z9 {b:tO} (h:yF M b):aj b=some b:=by
 obtain⟨h1,h2,h3,h4,h5⟩:=h;unfold aj;rw[xk h2,tN,QA h3,tN,GP ⟨h4,h5⟩];rfl
theorem xm {b:tO} (h:yF M b):ak b=some b:=by
 obtain⟨h1,h2,h3,h4,h5⟩:=h;unfold ak;rw[xk h2,tN,P7 h3,tN,Oc ⟨h4,h5⟩];rfl
theorem QB {x:tQ} (h:Cs.wf u5 x):Bg maxLen x:=by
 simp only[u5,Cs.wf,CT.wf]at h;exact⟨h.1.1,h.2.2.2.1,h.2.2.2.2.1⟩
theorem S3 {j:ur} (h:Cs.wf vU j):Gg maxLen j:=by
 simp only[vU,Cs.wf,CT.wf]at h;obtain⟨_,h1,_,_,_,_,_,h2,_,h3,h4,h5,h6,h7,_⟩:=h;refine⟨h1.1,⟨h2.1,λx hx=>QB ?_⟩,⟨h3,h4.1,h5.1,h6.1,h7.1⟩⟩;have:=h2.2 x hx
 simpa only[u5,Cs.wf,CT.wf]using this
theorem P8 {a:ue} (h:Cs.wf uN a):Bh maxLen a:=by
 simp only[uN,Cs.wf,CT.wf]at h;obtain⟨_,h1,h2,h3,h4,h5,_,_,_,_,_,h6,h7,_⟩:=h;refine⟨⟨h1,h2.1,h3.1,h4.1,h5.1⟩,h6,h7.1,λx hx=>S3 ?_⟩;have:=h7.2 x hx
 simpa only[vU,Cs.wf,CT.wf]using this

def Ii (o:List Int) (k:Nat):Bool:=match o[k]? with|some x=>!(tV x 0 100000)|none=>false
def x8 (o:List Int):Bool:=!((List.range o.length).any (Ii o))&&tV (o.length:Int) 1 10
theorem Em {o:List Int} (h:o.length<9223372036854775807):ah o=some (x8 o):=by
 unfold ah x8;have e:loop (λz=>aH o z) 0=some (cond ((List.range o.length).any (Ii o)) (Sum.inr false) (Sum.inl ())):=by
  rw[←xL (n:=o.length) (c:=λi=>(at? o i).bind λx=>(aa x 0 100000).bind λt=>some (!t)) (b:=Ii o) h (λk hk=>by
   simp only[ud hk,tN,Ii,List.getElem?_eq_getElem hk,xt])]
  refine wv (λi=>?_) 0;unfold aH;simp only[Option.bind_assoc,tN]
 rw[e,tN];cases (List.range o.length).any (Ii o)with
 | true=>rfl
 | false=>simp only[cF,Sum.elim_inl,xt,tN,Bool.not_false,Bool.true_and]
theorem Kl:bo=ah:=rfl
theorem PH (n:Int):∃c,aS n=some c/\(c==n)=tV n (-2147483648) 2147483647:=by
 unfold aS tV;by_cases h1:n>2147483647
 · refine⟨_,by rw[dT h1];rfl,?_⟩;rw[dF (show ¬n<=2147483647 by omega),Bool.and_false];exact beq_eq_false_iff_ne.2 (by omega)
 · by_cases h2:n < -2147483648
   · refine⟨_,by rw[dF h1,dT h2];rfl,?_⟩;rw[dF (show ¬n >= -2147483648 by omega),Bool.false_and];exact beq_eq_false_iff_ne.2 (by omega)
   · refine⟨_,by rw[dF h1,dF h2];rfl,?_⟩;rw[dT (show n >= -2147483648 by omega),dT (show n<=2147483647 by omega),beq_self_eq_true];rfl
theorem QC (l:List Int):az l []=some ((l.length:Int)==0):=by
 cases l with
 | nil=>exact zY (n:=0) (Ea (a:=[]) (by decide))
 | cons x l =>
  unfold az;have e:(((x::l).length:Int) != (([]:List Int).length:Int))=true:=by simp;omega
  rw[e,cT,beq_eq_false_iff_ne.2 (by simp;omega)]
theorem P9 {l:List Int} (h:l.length<=M):az l l=some true:=zY (Ea (xK h))
def xV (v:wJ):Bool :=
 cond (v.1==5||(v.1==128||v.1==130)) (v.2.1==0&&(v.2.2.1==[]&&((v.2.2.2.length:Int)==0)))
  (cond (v.1==2) (tV v.2.1 (-2147483648) 2147483647&&(v.2.2.1==[]&&((v.2.2.2.length:Int)==0)))
   (cond (v.1==4) (decide ((v.2.2.1.length:Int)<=20)&&(v.2.1==0&&((v.2.2.2.length:Int)==0)))
    (cond (v.1==6) (x8 v.2.2.2&&(v.2.1==0&&(v.2.2.1==[]))) false)))
theorem GQ {v:wJ} (h:v.2.2.2.length<=M):ai v=some (xV v):=by
 obtain⟨k,n,s,o⟩:=v;have h':o.length<=1048576:=h
 have ho:o.length<=M:=h;have hb:o.length<9223372036854775807:=by omega
 unfold ai xV aZ av;simp only[xt,QC,P9 ho,Em hb,tN];by_cases h2:k=2
 · subst h2;cases tV n (-2147483648) 2147483647<;>cases s==[]<;>cases (o.length:Int)==0<;>simp
 by_cases h4:k=4
 · subst h4;cases decide ((s.length:Int)<=20)<;>cases n==0<;>cases (o.length:Int)==0<;>simp
 by_cases h6:k=6
 · subst h6;cases x8 o<;>cases n==0<;>cases s==[]<;>simp
 rw[beq_eq_false_iff_ne.2 h2,beq_eq_false_iff_ne.2 h4,beq_eq_false_iff_ne.2 h6];by_cases h5:k=5
 · subst h5;cases n==0<;>cases s==[]<;>cases (o.length:Int)==0<;>simp
 by_cases h128:k=128
 · subst h128;cases n==0<;>cases s==[]<;>cases (o.length:Int)==0<;>simp
 by_cases h130:k=130
 · subst h130;cases n==0<;>cases s==[]<;>cases (o.length:Int)==0<;>simp
 rw[beq_eq_false_iff_ne.2 h5,beq_eq_false_iff_ne.2 h128,beq_eq_false_iff_ne.2 h130];rfl
theorem Ij {v:wJ} (h:v.2.2.2.length<=M):aU v=some (xV v):=by
 obtain⟨k,n,s,o⟩:=v;have h':o.length<=1048576:=h
 have hb:o.length<9223372036854775807:=by omega
 obtain⟨c,hc,hc2⟩:=PH n;unfold aU xV;simp only[Kl,Em hb,hc,hc2,tN];by_cases h5:k=5
 · subst h5;cases n==0<;>cases s==[]<;>cases (o.length:Int)==0<;>simp
 by_cases h128:k=128
 · subst h128;cases n==0<;>cases s==[]<;>cases (o.length:Int)==0<;>simp
 by_cases h130:k=130
 · subst h130;cases n==0<;>cases s==[]<;>cases (o.length:Int)==0<;>simp
 rw[beq_eq_false_iff_ne.2 h5,beq_eq_false_iff_ne.2 h128,beq_eq_false_iff_ne.2 h130];by_cases h2:k=2
 · subst h2;cases tV n (-2147483648) 2147483647<;>cases s==[]<;>cases (o.length:Int)==0<;>simp
 by_cases h4:k=4
 · subst h4;cases decide ((s.length:Int)<=20)<;>cases n==0<;>cases (o.length:Int)==0<;>simp
 by_cases h6:k=6
 · subst h6;cases x8 o<;>cases n==0<;>cases s==[]<;>simp
 rw[beq_eq_false_iff_ne.2 h2,beq_eq_false_iff_ne.2 h4,beq_eq_false_iff_ne.2 h6];rfl
def yS (x:tQ):Bool:=x8 x.1&&xV x.2
def bX (l:List tQ) (k:Nat):Bool:=match l[k]? with|some x=>!(yS x)|none=>false
def vJ (p:um):Bool :=
 (!((List.range p.2.2.2.2.length).any (bX p.2.2.2.2))&&decide ((p.2.2.2.2.length:Int)<=10)) &&
 (cond (p.1==162||p.1==165) (tV p.2.2.1 0 1000&&tV p.2.2.2.1 0 1000)
  (cond (p.1==160||(p.1==161||p.1==163)) (p.2.2.1==0&&p.2.2.2.1==0) false)&&tV p.2.1 (-2147483648) 2147483647)
theorem S4 {n:Nat} {f g:Nat->Bool}:(List.range n).any (λk=>f k||g k)=((List.range n).any f||(List.range n).any g):=by
 generalize List.range n=l
 induction l with
 | nil=>rfl
 | cons a l ih=>simp only[List.any_cons,ih];cases f a<;>cases g a<;>simp
theorem QD (n:Nat):(List.range n).any (λk=>decide ((k:Int)>=10))=!(decide ((n:Int)<=10)):=by
 by_cases h:(n:Int)<=10
 · rw[dT h];refine Bool.eq_false_iff.2 λha=>?_;obtain⟨k,h1,h2⟩:=any_eq_true.1 ha;have:=mem_range.1 h1
   have:=of_decide_eq_true h2;omega
 · rw[dF h];exact any_eq_true.2 ⟨10,mem_range.2 (by omega),by decide⟩
theorem Pa {p:um} (h:wu M p):loop (λz=>eT p z) 0=some (cond (!(decide ((p.2.2.2.2.length:Int)<=10))||(List.range p.2.2.2.2.length).any (bX p.2.2.2.2)) (Sum.inr false) (Sum.inl ())):=by
 obtain⟨k,i,e,x,l⟩:=p;have h':A9 M l:=h
 have hl:l.length<=1048576:=h'.1;show loop (λz=>eT (k,i,e,x,l) z) 0=some (cond (!(decide ((l.length:Int)<=10))||(List.range l.length).any (bX l)) (Sum.inr false) (Sum.inl ()))
 rw[←QD,←S4,←xL (n:=l.length) (c:=λi=>(at? l i).bind λx=>(cond (decide (i>=10)) (some true) ((ah x.1).bind λt=>some (!t))).bind λt=>(cond t (some true) ((ai x.2).bind λt=>some (!t)))) (b:=λk=>decide ((k:Int)>=10)||bX l k) (by omega) (λk hk=>by
  have hx:Bg M l[k]:=h'.2 _ (getElem_mem hk);have h1:l[k].1.length<=1048576:=hx.1
  have h2:l[k].2.2.2.2.length<=M:=hx.2.2;simp only[ud hk,tN,bX,List.getElem?_eq_getElem hk,Em (show l[k].1.length<9223372036854775807 by omega),GQ (v:=l[k].2) h2,yS];cases decide ((k:Int)>=10)<;>cases x8 l[k].1<;>cases xV l[k].2<;>rfl)]
 refine wv (λi=>?_) 0;unfold eT;simp only[Option.bind_assoc,tN]
theorem Od {p:um} (h:wu M p):loop (λz=>fW p z) 0=some (cond ((List.range p.2.2.2.2.length).any (bX p.2.2.2.2)) (Sum.inr false) (Sum.inl ())):=by
 obtain⟨k,i,e,x,l⟩:=p;have h':A9 M l:=h
 have hl:l.length<=1048576:=h'.1;show loop (λz=>fW (k,i,e,x,l) z) 0=some (cond ((List.range l.length).any (bX l)) (Sum.inr false) (Sum.inl ()))
 rw[←xL (n:=l.length) (c:=λi=>(at? l i).bind λx=>(bo x.1).bind λt=>(cond (!t) (some true) ((at? l i).bind λx=>(aU x.2).bind λt=>some (!t)))) (b:=bX l) (by omega) (λk hk=>by
  have hx:Bg M l[k]:=h'.2 _ (getElem_mem hk);have h1:l[k].1.length<=1048576:=hx.1
  have h2:l[k].2.2.2.2.length<=M:=hx.2.2;simp only[ud hk,tN,bX,List.getElem?_eq_getElem hk,Kl,Em (show l[k].1.length<9223372036854775807 by omega),Ij (v:=l[k].2) h2,yS];cases x8 l[k].1<;>cases xV l[k].2<;>rfl)]
 refine wv (λi=>?_) 0;unfold fW;simp only[Option.bind_assoc,tN]
theorem Pb {p:um} (h:wu M p):bL p=some (vJ p):=by
 have e0:=Pa h;have e1:loop (λz=>iR p z) 0=_:=e0
 have e2:loop (λz=>iS p z) 0=_:=e0;have e3:loop (λz=>iT p z) 0=_:=e0
 have e4:loop (λz=>iU p z) 0=_:=e0;have e5:loop (λz=>iV p z) 0=_:=e0
 have e6:loop (λz=>iW p z) 0=_:=e0;have e7:loop (λz=>iX p z) 0=_:=e0
 have e8:loop (λz=>iY p z) 0=_:=e0;unfold bL vJ av;rw[e0,e1,e2,e3,e4,e5,e6,e7,e8];simp only[xt,tN];generalize (List.range p.2.2.2.2.length).any (bX p.2.2.2.2)=u;generalize decide ((p.2.2.2.2.length:Int)<=10)=w;generalize tV p.2.1 (-2147483648) 2147483647=x;generalize p.2.2.1=e;generalize p.2.2.2.1=i;generalize p.1=k;by_cases h0:k=160
 · subst h0;have b1:(e != 0)=!(e==0):=rfl
   have b2:(i != 0)=!(i==0):=rfl;rw[b1,b2];cases e==0<;>cases i==0<;>cases u<;>cases w<;>cases x<;>rfl
 by_cases h1:k=161
 · subst h1;have b1:(e != 0)=!(e==0):=rfl
   have b2:(i != 0)=!(i==0):=rfl;rw[b1,b2];cases e==0<;>cases i==0<;>cases u<;>cases w<;>cases x<;>rfl
 by_cases h3:k=163
 · subst h3;have b1:(e != 0)=!(e==0):=rfl
   have b2:(i != 0)=!(i==0):=rfl;rw[b1,b2];cases e==0<;>cases i==0<;>cases u<;>cases w<;>cases x<;>rfl
 by_cases h2:k=162
 · subst h2;cases tV e 0 1000<;>cases tV i 0 1000<;>cases u<;>cases w<;>cases x<;>rfl
 by_cases h5:k=165
 · subst h5;cases tV e 0 1000<;>cases tV i 0 1000<;>cases u<;>cases w<;>cases x<;>rfl
 rw[beq_eq_false_iff_ne.2 h0,beq_eq_false_iff_ne.2 h1,beq_eq_false_iff_ne.2 h2,beq_eq_false_iff_ne.2 h3,beq_eq_false_iff_ne.2 h5];cases u<;>cases w<;>rfl
theorem MM {p:um} (h:wu M p):bp p=some (vJ p):=by
 obtain⟨c,hc,hc2⟩:=PH p.2.1;unfold bp vJ ic;rw[Od h];simp only[AL,hc,hc2,tN];generalize (List.range p.2.2.2.2.length).any (bX p.2.2.2.2)=u;generalize decide ((p.2.2.2.2.length:Int)<=10)=w;generalize tV p.2.1 (-2147483648) 2147483647=x;generalize p.2.2.1=e;generalize p.2.2.2.1=i;generalize p.1=k;have b1:(e != 0)=!(e==0):=rfl
 have b2:(i != 0)=!(i==0):=rfl;rw[b1,b2];have z1:(e==0)=true->tV e 0 1000=true:=λh=>by rw[eq_of_beq h];rfl
 have z2:(i==0)=true->tV i 0 1000=true:=λh=>by rw[eq_of_beq h];rfl
 by_cases h2:k=162
 · subst h2;cases tV e 0 1000<;>cases tV i 0 1000<;>cases u<;>cases w<;>cases x<;>rfl
 by_cases h5:k=165
 · subst h5;cases tV e 0 1000<;>cases tV i 0 1000<;>cases u<;>cases w<;>cases x<;>rfl
 have n2:(k != 162)=true:=bne_iff_ne.2 h2;have n5:(k != 165)=true:=bne_iff_ne.2 h5
 rw[n2,n5,beq_eq_false_iff_ne.2 h2,beq_eq_false_iff_ne.2 h5];cases he:e==0 with
 | false=>cases hi:i==0<;>cases u<;>cases w<;>cases x<;>cases k==160<;>cases k==161<;>cases k==163<;>rfl
 | true =>
  rw[z1 he];cases hi:i==0 with
  | false=>cases u<;>cases w<;>cases x<;>cases k==160<;>cases k==161<;>cases k==163<;>rfl
  | true =>
   rw[z2 hi];cases u<;>cases w<;>cases x<;>cases k==160<;>cases k==161<;>cases k==163<;>rfl
def uy (j:ur):Int:=j.2.2.2.2.2.2.2.2.2.2.2.2.2.2.2.2.2.2.2.2
def xu (j:ur):Int:=j.2.2.2.2.2.2.2.2.2.2.2.2.2.2.2.2.2.2.2.1
noncomputable def Ab (j:ur):Bool:=tV j.2.2.1 0 2&&(tV (xu j) 0 (j.2.2.2.2.2.2.2.1.length:Int)&&(tV (uy j) 0 3&&(j.2.2.1==0||(vJ (jP j)&&((j.2.2.2.1 != 162)&&v8 (jB j))))))
structure Km (j:ur):Prop where
 p:wu M (jP j)
 b:zl (jB j)
theorem TO {j:ur} (h:Km j):dl j=some (Ab j):=by
 have hp:bL (j.2.2.2.1,j.2.2.2.2.1,j.2.2.2.2.2.1,j.2.2.2.2.2.2.1,j.2.2.2.2.2.2.2.1)=some (vJ (jP j)):=Pb h.p;have hb:=DM h.b
 unfold jB at hb;unfold dl Ab;rw[hp,hb];simp only[xt,tN,xu,uy];cases tV j.2.2.1 0 2<;>cases tV j.2.2.2.2.2.2.2.2.2.2.2.2.2.2.2.2.2.2.2.1 0 (j.2.2.2.2.2.2.2.1.length:Int)<;>cases tV j.2.2.2.2.2.2.2.2.2.2.2.2.2.2.2.2.2.2.2.2 0 3<;>cases j.2.2.1==0<;>cases vJ (jP j)<;>cases j.2.2.2.1 != 162<;>rfl
theorem TP {j:ur} (h:Km j) (last:Int):eu j last=some (tV j.1 1 last&&Ab j):=by
 have hp:bp (j.2.2.2.1,j.2.2.2.2.1,j.2.2.2.2.2.1,j.2.2.2.2.2.2.1,j.2.2.2.2.2.2.2.1)=some (vJ (jP j)):=MM h.p;have hb:=DN h.b
 unfold jB at hb;unfold eu ie Ab;rw[hp,hb];simp only[AL,tN,xu,uy];cases tV j.1 1 last<;>cases tV j.2.2.1 0 2<;>cases tV j.2.2.2.2.2.2.2.2.2.2.2.2.2.2.2.2.2.2.2.1 0 (j.2.2.2.2.2.2.2.1.length:Int)<;>cases tV j.2.2.2.2.2.2.2.2.2.2.2.2.2.2.2.2.2.2.2.2 0 3<;>cases j.2.2.1==0<;>cases vJ (jP j)<;>cases j.2.2.2.1 != 162<;>rfl
def tS (a:ue):List ur:=a.2.2.2.2.2.2.2.2.2.2.2.2.1
def vr (a:ue):Int:=a.2.2.2.2.2.2.2.2.2.2.2.2.2.2
def xW (a:ue):Int:=a.2.2.2.2.2.2.2.2.2.2.2.2.2.1
noncomputable def Dj (l:List ur) (last:Int) (k:Nat):Bool:=match l[k]? with
 | some j=>!(tV j.1 1 last&&Ab j)||(decide (0<k)&&(match l[k-1]? with|some p=>decide (p.1>=j.1)|none=>false))
 | none=>false
noncomputable def zc (a:ue):Bool:=!((List.range (tS a).length).any (Dj (tS a) (vr a)))&&(v8 (aB a)&&(decide ((a.2.2.2.2.2.2.2.2.2.2.2.1.length:Int)<=20)&&(decide (((tS a).length:Int)<=6)&&(tV (xW a) 0 1000000&&tV (vr a) 0 1000000))))
structure HQ (a:ue):Prop where
 b:zl (aB a)
 n:(tS a).length<=1048576
 j:∀x∈tS a,Km x
theorem MN {a:ue} (h:HQ a):loop (λz=>gK a z) 0=some (cond ((List.range (tS a).length).any (Dj (tS a) (vr a))) (Sum.inr false) (Sum.inl ())):=by
 have hn:=h.n;rw[←xL (n:=(tS a).length) (c:=λi=>(at? (tS a) i).bind λx=>(aa x.1 1 (vr a)).bind λt=>(cond (!t) (some true) ((cond (decide (i>0)) ((at? (tS a) (tP (i-1))).bind λy=>some (decide (y.1>=x.1))) (some false)).bind λt=>some t)).bind λt=>(cond t (some true) ((dl x).bind λt=>some (!t))).bind λt=>some t) (b:=Dj (tS a) (vr a)) (by omega) (λk hk=>by
  simp only[ud hk,tN,xt,TO (h.j _ (getElem_mem hk)),Dj,List.getElem?_eq_getElem hk];by_cases h0:0<k
  · have hd:decide ((k:Int)>0)=true:=dT (by omega);simp only[hd,BI hk h0 (by omega),tN,dT h0,List.getElem?_eq_getElem (show k-1<(tS a).length by omega),cT];cases tV (tS a)[k].1 1 (vr a)<;>cases decide ((tS a)[k-1].1>=(tS a)[k].1)<;>cases Ab (tS a)[k]<;>rfl
  · have hd:decide ((k:Int)>0)=false:=dF (by omega);simp only[hd,dF h0];cases tV (tS a)[k].1 1 (vr a)<;>cases Ab (tS a)[k]<;>rfl)]
 refine wv (λi=>?_) 0;unfold gK tS vr;simp only[Option.bind_assoc,tN]
theorem KS {a:ue} (h:HQ a):loop (λz=>ig a z) 0=some (cond ((List.range (tS a).length).any (Dj (tS a) (vr a))) (Sum.inr false) (Sum.inl ())):=by
 have hn:=h.n;rw[←xL (n:=(tS a).length) (c:=λi=>(at? (tS a) i).bind λx=>(eu x (vr a)).bind λt=>(cond (!t) (some true) ((cond (decide (i>0)) ((at? (tS a) (tP (i-1))).bind λy=>(at? (tS a) i).bind λx=>some (decide (y.1>=x.1))) (some false)).bind λt=>some t))) (b:=Dj (tS a) (vr a)) (by omega) (λk hk=>by
  simp only[ud hk,tN,TP (h.j _ (getElem_mem hk)),Dj,List.getElem?_eq_getElem hk];by_cases h0:0<k
  · have hd:decide ((k:Int)>0)=true:=dT (by omega);simp only[hd,BI hk h0 (by omega),tN,dT h0,List.getElem?_eq_getElem (show k-1<(tS a).length by omega),cT];cases tV (tS a)[k].1 1 (vr a)<;>cases decide ((tS a)[k-1].1>=(tS a)[k].1)<;>cases Ab (tS a)[k]<;>rfl
  · have hd:decide ((k:Int)>0)=false:=dF (by omega);simp only[hd,dF h0];cases tV (tS a)[k].1 1 (vr a)<;>cases Ab (tS a)[k]<;>rfl)]
 refine wv (λi=>?_) 0;unfold ig tS vr;simp only[Option.bind_assoc,tN]
theorem Tf (n m:Int):decide (n>m)=!(decide (n<=m)):=by
 by_cases h:n<=m
 · rw[dT h,dF (by omega)];rfl
 · rw[dF h,dT (by omega)];rfl
theorem Kn {a:ue} (h:HQ a):eU a=some (zc a):=by
 have hb:aM (a.1,a.2.1,a.2.2.1,a.2.2.2.1,a.2.2.2.2.1,a.2.2.2.2.2.1,a.2.2.2.2.2.2.1,a.2.2.2.2.2.2.2.1,a.2.2.2.2.2.2.2.2.1,a.2.2.2.2.2.2.2.2.2.1,a.2.2.2.2.2.2.2.2.2.2.1)=some (v8 (aB a)):=DM h.b;unfold eU zc;rw[MN h,hb];simp only[O6,tN,Tf,xW,vr];generalize (List.range (tS a).length).any _=u;show _=some (!u&&(v8 (aB a)&&(_&&(decide ((a.2.2.2.2.2.2.2.2.2.2.2.2.1.length:Int)<=6)&&(_)))))
 cases u<;>cases v8 (aB a)<;>cases decide ((a.2.2.2.2.2.2.2.2.2.2.2.1.length:Int)<=20)<;>cases decide ((a.2.2.2.2.2.2.2.2.2.2.2.2.1.length:Int)<=6)<;>cases tV a.2.2.2.2.2.2.2.2.2.2.2.2.2.1 0 1000000<;>cases tV a.2.2.2.2.2.2.2.2.2.2.2.2.2.2 0 1000000<;>rfl
theorem Ko {a:ue} (h:HQ a):fX a=some (zc a):=by
 have hb:bn (a.1,a.2.1,a.2.2.1,a.2.2.2.1,a.2.2.2.2.1,a.2.2.2.2.2.1,a.2.2.2.2.2.2.1,a.2.2.2.2.2.2.2.1,a.2.2.2.2.2.2.2.2.1,a.2.2.2.2.2.2.2.2.2.1,a.2.2.2.2.2.2.2.2.2.2.1)=some (v8 (aB a)):=DN h.b;unfold fX zc;rw[KS h,hb];simp only[AL,tN,xW,vr];generalize (List.range (tS a).length).any _=u;show _=some (!u&&(v8 (aB a)&&(_&&(decide ((a.2.2.2.2.2.2.2.2.2.2.2.2.1.length:Int)<=6)&&(_)))))
 cases u<;>cases v8 (aB a)<;>cases decide ((a.2.2.2.2.2.2.2.2.2.2.2.1.length:Int)<=20)<;>cases decide ((a.2.2.2.2.2.2.2.2.2.2.2.2.1.length:Int)<=6)<;>cases tV a.2.2.2.2.2.2.2.2.2.2.2.2.2.1 0 1000000<;>cases tV a.2.2.2.2.2.2.2.2.2.2.2.2.2.2 0 1000000<;>rfl
theorem QE {j:ur} (h:Cs.wf vU j) (hl:Gg M j):Km j:=by
 obtain⟨_,l1,l2⟩:=hl;refine⟨l1,?_⟩;obtain⟨_,l2,l3,l4,l5⟩:=l2;have hM:M<9223372036854775807:=by decide
 refine⟨by omega,by omega,by omega,by omega,λr hr=>?_⟩;simp only[vU,Cs.wf,CT.wf]at h;obtain⟨_,_,_,_,_,_,_,_,_,_,_,_,h4,_⟩:=h;exact (h4.2 r hr).2.2
theorem Oe {a:ue} (h:Cs.wf uN a) (hl:Bh M a):HQ a:=by
 obtain⟨⟨_,l2,l3,l4,l5⟩,l6,l7⟩:=hl;have hM:M<9223372036854775807:=by decide
 simp only[uN,Cs.wf,CT.wf]at h;obtain⟨_,_,_,_,h4,_,_,_,_,_,_,_,h7,_⟩:=h;refine⟨⟨by omega,by omega,by omega,by omega,λr hr=>(h4.2 r hr).2.2⟩,l7.1,λx hx=>QE ?_ (l7.2 x hx)⟩;have:=h7.2 x hx
 simpa only[vU,Cs.wf,CT.wf]using this
theorem Fp {α:Type} {l:List α} {step:Int×List α->Option ((Int×List α)⊕List α)} (hn:l.length<=M)
 (hs:∀k (hk:k<l.length) out,step ((k:Int),out)=(ut out [l[k]]).bind λzs=>some (.inl (((k+1:Nat):Int),zs)))
 (he:∀out,step ((l.length:Int),out)=some (.inr out)):loop step (0,[])=some l:=by
 have hn':l.length<=1048576:=hn;obtain⟨b,h1,rfl⟩:=uw (step:=step) (λk z=>z=((k:Int),l.take k)) l.length (λb=>b=l)
  (λk z hk e=>by
   subst e;left;refine⟨_,by rw[hs k hk,u6 (by rw[length_take];show _+1<=_;omega),tN],?_⟩;rw[take_add_one,List.getElem?_eq_getElem hk];rfl)
  (λz e=>by
   subst e;exact⟨_,he _,by rw[take_length]⟩) (x:=(0,[])) rfl
 exact h1
theorem QF {v:wJ} (h:LB M v):gH v=some v:=by unfold gH;rw[El h.2];rfl
theorem Fq {l:List tQ} (h:A9 M l):cK l=some l:=by
 have hn:l.length<=1048576:=h.1;unfold cK;rw[Fp (step:=λz=>dg l z.1 z.2) h.1 (λk hk out=>by
  show dg l (k:Int) out=_;unfold dg;have hx:=h.2 _ (getElem_mem hk)
  rw[ux (by omega),cT,ud hk,tN,El hx.1,tN,QF hx.2,tN,u7 (by omega)]) (λout=>by
  show dg l (l.length:Int) out=_;unfold dg;rw[ui (by omega),cF])];rfl
theorem BD {l:List tQ} (h:A9 M l):cc l=some l:=by
 have hn:l.length<=1048576:=h.1;unfold cc;rw[Fp (step:=λz=>cQ l z.1 z.2) h.1 (λk hk out=>by
  show cQ l (k:Int) out=_;unfold cQ;have hx:=h.2 _ (getElem_mem hk)
  rw[ux (by omega),cT,ud hk,tN,xk hx.2.2,tN,tN,xk hx.1,tN,u7 (by omega)]) (λout=>by
  show cQ l (l.length:Int) out=_;unfold cQ;rw[ui (by omega),cF])];rfl
theorem QG {p:um} (h:wu M p):eQ p=some p:=by unfold eQ;rw[Fq h];rfl
theorem Pc {p:um} (h:wu M p):ej p=some p:=by unfold ej;rw[BD h];rfl
theorem Fr {a:ue} (h:Bh M a):fj a=some a:=by
 obtain⟨h1,h2,h3,h4⟩:=h;have hn:(tS a).length<=1048576:=h3
 unfold fj;have hb:aj (a.1,a.2.1,a.2.2.1,a.2.2.2.1,a.2.2.2.2.1,a.2.2.2.2.2.1,a.2.2.2.2.2.2.1,a.2.2.2.2.2.2.2.1,a.2.2.2.2.2.2.2.2.1,a.2.2.2.2.2.2.2.2.2.1,a.2.2.2.2.2.2.2.2.2.2.1)=some (aB a):=z9 h1
 rw[hb,tN,Fp (l:=tS a) (step:=λz=>dh a z.1 z.2) h3 (λk hk out=>by
  show dh a (k:Int) out=_;unfold dh;obtain⟨hx1,hx2,hx3⟩:=h4 _ (getElem_mem hk);have e0:at? a.2.2.2.2.2.2.2.2.2.2.2.2.1 (k:Int)=some (tS a)[k]:=ud hk
  rw[ux (show (k:Int)<(a.2.2.2.2.2.2.2.2.2.2.2.2.1.length:Int) by show (k:Int)<((tS a).length:Int);omega),cT,e0,tN];generalize (tS a)[k]=x at hx1 hx2 hx3;have e1:eQ (x.2.2.2.1,x.2.2.2.2.1,x.2.2.2.2.2.1,x.2.2.2.2.2.2.1,x.2.2.2.2.2.2.2.1)=some (jP x):=QG hx2
  have e2:aj (x.2.2.2.2.2.2.2.2.1,x.2.2.2.2.2.2.2.2.2.1,x.2.2.2.2.2.2.2.2.2.2.1,x.2.2.2.2.2.2.2.2.2.2.2.1,x.2.2.2.2.2.2.2.2.2.2.2.2.1,x.2.2.2.2.2.2.2.2.2.2.2.2.2.1,x.2.2.2.2.2.2.2.2.2.2.2.2.2.2.1,x.2.2.2.2.2.2.2.2.2.2.2.2.2.2.2.1,x.2.2.2.2.2.2.2.2.2.2.2.2.2.2.2.2.1,x.2.2.2.2.2.2.2.2.2.2.2.2.2.2.2.2.2.1,x.2.2.2.2.2.2.2.2.2.2.2.2.2.2.2.2.2.2.1)=some (jB x):=z9 hx3;rw[D4 hx1,tN,e1,tN,e2,tN,u7 (by omega)];rfl) (λout=>by
  show dh a ((tS a).length:Int) out=_;unfold dh;rw[ui (show ¬((tS a).length:Int)<(a.2.2.2.2.2.2.2.2.2.2.2.2.1.length:Int) by show ¬((tS a).length:Int)<((tS a).length:Int);omega),cF])]
 rfl
theorem En {a:ue} (h:Bh M a):fS a=some a:=by
 obtain⟨h1,h2,h3,h4⟩:=h;have hn:(tS a).length<=1048576:=h3
 unfold fS;have hb:ak (a.1,a.2.1,a.2.2.1,a.2.2.2.1,a.2.2.2.2.1,a.2.2.2.2.2.1,a.2.2.2.2.2.2.1,a.2.2.2.2.2.2.2.1,a.2.2.2.2.2.2.2.2.1,a.2.2.2.2.2.2.2.2.2.1,a.2.2.2.2.2.2.2.2.2.2.1)=some (aB a):=xm h1
 rw[hb,tN];obtain⟨d,d1,rfl⟩:=uw (step:=λz:Int×Int×List UInt8×Int×Int×Int×Int×Int×List UInt8×Int×Int×List ur=>em a z.1 z.2.1 z.2.2.1 z.2.2.2.1 z.2.2.2.2.1 z.2.2.2.2.2.1 z.2.2.2.2.2.2.1 z.2.2.2.2.2.2.2.1 z.2.2.2.2.2.2.2.2.1 z.2.2.2.2.2.2.2.2.2.1 z.2.2.2.2.2.2.2.2.2.2.1 z.2.2.2.2.2.2.2.2.2.2.2)
  (λk z=>z=((k:Int),a.1,a.2.1,a.2.2.2.2.2.2.1,a.2.2.2.2.2.2.2.1,a.2.2.2.2.2.2.2.2.1,a.2.2.2.2.2.2.2.2.2.1,a.2.2.2.2.2.2.2.2.2.2.1,a.2.2.2.2.2.2.2.2.2.2.2.1,a.2.2.2.2.2.2.2.2.2.2.2.2.2.1,a.2.2.2.2.2.2.2.2.2.2.2.2.2.2,(tS a).take k)) (tS a).length
  (λd=>d=(a.1,a.2.1,a.2.2.2.2.2.2.1,a.2.2.2.2.2.2.2.1,a.2.2.2.2.2.2.2.2.1,a.2.2.2.2.2.2.2.2.2.1,a.2.2.2.2.2.2.2.2.2.2.1,a.2.2.2.2.2.2.2.2.2.2.2.1,a.2.2.2.2.2.2.2.2.2.2.2.2.2.1,a.2.2.2.2.2.2.2.2.2.2.2.2.2.2,tS a))
  (λk z hk e=>by
   subst e;left;simp only;unfold em;obtain⟨hx1,hx2,hx3⟩:=h4 _ (getElem_mem hk);have e0:at? a.2.2.2.2.2.2.2.2.2.2.2.2.1 (k:Int)=some (tS a)[k]:=ud hk
   have et:(tS a).take (k+1)=(tS a).take k++[(tS a)[k]]:=by rw[take_add_one,List.getElem?_eq_getElem hk];rfl
   rw[ux (show (k:Int)<(a.2.2.2.2.2.2.2.2.2.2.2.2.1.length:Int) by show (k:Int)<((tS a).length:Int);omega),cT,e0,tN,et];generalize (tS a)[k]=x at hx1 hx2 hx3;have e1:ej (x.2.2.2.1,x.2.2.2.2.1,x.2.2.2.2.2.1,x.2.2.2.2.2.2.1,x.2.2.2.2.2.2.2.1)=some (jP x):=Pc hx2
   have e2:ak (x.2.2.2.2.2.2.2.2.1,x.2.2.2.2.2.2.2.2.2.1,x.2.2.2.2.2.2.2.2.2.2.1,x.2.2.2.2.2.2.2.2.2.2.2.1,x.2.2.2.2.2.2.2.2.2.2.2.2.1,x.2.2.2.2.2.2.2.2.2.2.2.2.2.1,x.2.2.2.2.2.2.2.2.2.2.2.2.2.2.1,x.2.2.2.2.2.2.2.2.2.2.2.2.2.2.2.1,x.2.2.2.2.2.2.2.2.2.2.2.2.2.2.2.2.1,x.2.2.2.2.2.2.2.2.2.2.2.2.2.2.2.2.2.1,x.2.2.2.2.2.2.2.2.2.2.2.2.2.2.2.2.2.2.1)=some (jB x):=xm hx3;rw[xk hx1,tN,e1,tN,e2,tN,u6 (by rw[length_take];show _+1<=_;omega),tN,u7 (by omega)];exact⟨_,rfl,rfl⟩)
  (λz e=>by
   subst e;simp only;unfold em;rw[ui (show ¬((tS a).length:Int)<(a.2.2.2.2.2.2.2.2.2.2.2.2.1.length:Int) by show ¬((tS a).length:Int)<((tS a).length:Int);omega),cF,take_length];exact⟨_,rfl,rfl⟩) (x:=(0,a.1,a.2.1,a.2.2.2.2.2.2.1,a.2.2.2.2.2.2.2.1,a.2.2.2.2.2.2.2.2.1,a.2.2.2.2.2.2.2.2.2.1,a.2.2.2.2.2.2.2.2.2.2.1,a.2.2.2.2.2.2.2.2.2.2.2.1,a.2.2.2.2.2.2.2.2.2.2.2.2.2.1,a.2.2.2.2.2.2.2.2.2.2.2.2.2.2,[])) rfl
 have d1':loop (λz:Int×Int×List UInt8×Int×Int×Int×Int×Int×List UInt8×Int×Int×List ur=>em a z.1 z.2.1 z.2.2.1 z.2.2.2.1 z.2.2.2.2.1 z.2.2.2.2.2.1 z.2.2.2.2.2.2.1 z.2.2.2.2.2.2.2.1 z.2.2.2.2.2.2.2.2.1 z.2.2.2.2.2.2.2.2.2.1 z.2.2.2.2.2.2.2.2.2.2.1 z.2.2.2.2.2.2.2.2.2.2.2) (0,(aB a).1,(aB a).2.1,(aB a).2.2.2.2.2.2.1,(aB a).2.2.2.2.2.2.2.1,(aB a).2.2.2.2.2.2.2.2.1,(aB a).2.2.2.2.2.2.2.2.2.1,(aB a).2.2.2.2.2.2.2.2.2.2,a.2.2.2.2.2.2.2.2.2.2.2.1,a.2.2.2.2.2.2.2.2.2.2.2.2.2.1,a.2.2.2.2.2.2.2.2.2.2.2.2.2.2,[])=_:=d1;rw[d1'];rfl

def wj (l:List ua) (id:Int):Int:=match l.findIdx? (λr=>r.1==id)with|some k=>(k:Int)|none=>-1
theorem Ft {v:ve} (hn:v.1.length<9223372036854775807) (id:Int):ar v id=some (wj v.1 id):=by
 unfold ar wj;obtain⟨b,h1,rfl⟩:=uw (β:=Unit⊕Int) (step:=λz=>aY v id z) (λk i=>i=(k:Int)/\∀j (hj:j<k),∀(hl:j<v.1.length),¬((v.1[j].1==id)=true)) v.1.length (λb=>b=match v.1.findIdx? (λr=>r.1==id)with|some k=>.inr (k:Int)|none=>.inl ())
  (λk i hk ⟨h,hy⟩=>by
   subst h;unfold aY;rw[ux (by omega),cT,ud hk,tN];cases hb:(v.1[k].1==id)with
   | true =>
    refine .inr ⟨_,rfl,?_⟩;rw[List.findIdx?_eq_some_iff_getElem.2 ⟨hk,hb,λj hj=>hy j hj (by omega)⟩]
   | false =>
    refine .inl ⟨_,rfl,u7 (by omega),λj hj hl=>?_⟩;by_cases hjk:j=k
    · subst hjk;rw[hb];simp
    · exact hy j (by omega) hl)
  (λi ⟨h,hy⟩=>by
   subst h;refine⟨.inl (),by unfold aY;rw[ui (by omega),cF],?_⟩;rw[List.findIdx?_eq_none_iff.2 λx hx=>by
    obtain⟨j,hj,rfl⟩:=getElem_of_mem hx;have:=hy j hj hj
    simpa using this]) (x:=0) ⟨rfl,λj hj=>by omega⟩
 rw[h1,tN];cases v.1.findIdx? (λr=>r.1==id)<;>rfl
theorem QH {v:ve} (hn:v.1.length<9223372036854775807) (id:Int):ce v id=some (wj v.1 id):=Ft hn id
theorem BE {l:List ua} {id:Int} (h:0<=wj l id):∃k,∃hk:k<l.length,wj l id=(k:Int)/\l[k].1=id:=by
 unfold wj at h ⊢;cases hf:l.findIdx? (λr=>r.1==id)with
 | none=>rw[hf]at h;simp at h
 | some k =>
  obtain⟨hk,h1,_⟩:=List.findIdx?_eq_some_iff_getElem.1 hf;exact⟨k,hk,rfl,by simpa using h1⟩
theorem MO {l:List ua} {id:Int} (h:wj l id<0):∀x∈l,x.1≠id:=by
 unfold wj at h;cases hf:l.findIdx? (λr=>r.1==id)with
 | some k=>rw[hf]at h;simp at h;omega
 | none =>
  intro x hx;have:=List.findIdx?_eq_none_iff.1 hf x hx
  simpa using this
def FO (l:List tZ) (tag mac:Int):Int:=match l.findIdx? (λe=>e.1==tag&&e.2.1==mac)with|some k=>(k:Int)|none=>-1
theorem S5 {l:List tZ} (hn:l.length<9223372036854775807) (tag mac:Int):fg l tag mac=some (FO l tag mac):=by
 unfold fg FO;obtain⟨b,h1,rfl⟩:=uw (β:=Unit⊕Int) (step:=λz=>bT l tag mac z) (λk i=>i=(k:Int)/\∀j (hj:j<k),∀(hl:j<l.length),¬((l[j].1==tag&&l[j].2.1==mac)=true)) l.length (λb=>b=match l.findIdx? (λe=>e.1==tag&&e.2.1==mac)with|some k=>.inr (k:Int)|none=>.inl ())
  (λk i hk ⟨h,hy⟩=>by
   subst h;have hs:bT l tag mac (k:Int)=cond (l[k].1==tag&&l[k].2.1==mac) (some (.inr (.inr (k:Int)))) (some (.inl ((k+1:Nat):Int))):=by
    unfold bT;simp only[ux (show (k:Int)<(l.length:Int) by omega),cT,ud hk,tN,u7 (show k<9223372036854775807 by omega)];cases l[k].1==tag<;>rfl
   show (∃y,bT l tag mac (k:Int)=some (.inl y)/\_)\/∃b,bT l tag mac (k:Int)=some (.inr b)/\_;rw[hs];cases hb:(l[k].1==tag&&l[k].2.1==mac)with
   | true =>
    refine .inr ⟨_,rfl,?_⟩;rw[List.findIdx?_eq_some_iff_getElem.2 ⟨hk,hb,λj hj=>hy j hj (by omega)⟩]
   | false =>
    refine .inl ⟨_,rfl,rfl,λj hj hl=>?_⟩;by_cases hjk:j=k
    · subst hjk;rw[hb];simp
    · exact hy j (by omega) hl)
  (λi ⟨h,hy⟩=>by
   subst h;refine⟨.inl (),by unfold bT;rw[ui (by omega),cF],?_⟩;rw[List.findIdx?_eq_none_iff.2 λx hx=>by
    obtain⟨j,hj,rfl⟩:=getElem_of_mem hx;have:=hy j hj hj
    simpa using this]) (x:=0) ⟨rfl,λj hj=>by omega⟩
 rw[h1,tN];cases l.findIdx? (λe=>e.1==tag&&e.2.1==mac)<;>rfl
theorem QI {l:List tZ} (hn:l.length<9223372036854775807) (tag mac:Int):gn l tag mac=some (FO l tag mac):=by
 unfold gn FO;obtain⟨b,h1,rfl⟩:=uw (β:=Unit⊕Int) (step:=λz=>cm l tag mac z) (λk i=>i=(k:Int)/\∀j (hj:j<k),∀(hl:j<l.length),¬((l[j].1==tag&&l[j].2.1==mac)=true)) l.length (λb=>b=match l.findIdx? (λe=>e.1==tag&&e.2.1==mac)with|some k=>.inr (k:Int)|none=>.inl ())
  (λk i hk ⟨h,hy⟩=>by
   subst h;have hs:cm l tag mac (k:Int)=cond (l[k].1==tag&&l[k].2.1==mac) (some (.inr (.inr (k:Int)))) (some (.inl ((k+1:Nat):Int))):=by
    unfold cm;simp only[ux (show (k:Int)<(l.length:Int) by omega),cT,ud hk,tN,u7 (show k<9223372036854775807 by omega)];cases l[k].1==tag<;>rfl
   show (∃y,cm l tag mac (k:Int)=some (.inl y)/\_)\/∃b,cm l tag mac (k:Int)=some (.inr b)/\_;rw[hs];cases hb:(l[k].1==tag&&l[k].2.1==mac)with
   | true =>
    refine .inr ⟨_,rfl,?_⟩;rw[List.findIdx?_eq_some_iff_getElem.2 ⟨hk,hb,λj hj=>hy j hj (by omega)⟩]
   | false =>
    refine .inl ⟨_,rfl,rfl,λj hj hl=>?_⟩;by_cases hjk:j=k
    · subst hjk;rw[hb];simp
    · exact hy j (by omega) hl)
  (λi ⟨h,hy⟩=>by
   subst h;refine⟨.inl (),by unfold cm;rw[ui (by omega),cF],?_⟩;rw[List.findIdx?_eq_none_iff.2 λx hx=>by
    obtain⟨j,hj,rfl⟩:=getElem_of_mem hx;have:=hy j hj hj
    simpa using this]) (x:=0) ⟨rfl,λj hj=>by omega⟩
 rw[h1,tN];cases l.findIdx? (λe=>e.1==tag&&e.2.1==mac)<;>rfl

def wd (o:List Int) (lo hi:Int) (head:List Int):Bool:=(o.length==head.length+4)&&((o.take (head.length+3)==[1,3,1]++head)&&(match o[head.length+3]? with|some x=>tV x lo hi|none=>false))
theorem Eo {o:List Int} (lo hi:Int) {head:List Int} (ho:o.length<=M) (hh:head.length<=100):aE o lo hi head=some (wd o lo hi head):=by
 have ho':o.length<=1048576:=ho;have hw:tP ((head.length:Int)+4)=((head.length+4:Nat):Int):=by rw[uE (by omega) (by omega)];omega
 unfold aE wd;rw[hw];by_cases hl:o.length=head.length+4
 · have hw2:tP ((o.length:Int)-1)=((head.length+3:Nat):Int):=by rw[uE (by omega) (by omega)];omega
   have hc:cut o 0 ((head.length+3:Nat):Int)=some (o.take (head.length+3)):=by
    rw[show (0:Int)=((0:Nat):Int)from rfl,yf (Nat.zero_le _) (by omega),drop_zero]
   have hlt:head.length+3<o.length:=by omega
   rw[show ((o.length:Int)==((head.length+4:Nat):Int))=true from beq_iff_eq.2 (by omega),cT,hw2,hc,tN,u6 (by show 3+head.length<=_;omega),tN,D3 (by rw[length_append];show 3+head.length<_;omega),tN,ud hlt,tN,xt,tN,List.getElem?_eq_getElem hlt];rw[show (o.length==head.length+4)=true from beq_iff_eq.2 hl];cases (o.take (head.length+3)==[1,3,1]++head)<;>rfl
 · rw[show ((o.length:Int)==((head.length+4:Nat):Int))=false from beq_eq_false_iff_ne.2 (by omega),cF,show (o.length==head.length+4)=false from beq_eq_false_iff_ne.2 hl];rfl
abbrev wQ (b:tO):Int:=(b.2.2.1.length:Int)
abbrev yk (b:tO):List ua:=b.2.2.2.2.1
def MP (b:tO) (o:List Int):Bool:=wd o 1 1 [1]||(wd o 1 (wQ b) [2,2]||(wd o 1 (wQ b) [2,4]||(wd o 1 99 [3,1]||((wd o 1 99 [3,2]||wd o 1 99 [3,3])&&(match o[5]? with|some x=>decide (wj (yk b) x>=0)|none=>false)))))
theorem Kp {o:List Int} {lo hi:Int} {head:List Int} (h:wd o lo hi head=true):o.length=head.length+4:=by
 unfold wd at h;simp only[aT,beq_iff_eq]at h;exact h.1
theorem TQ {b:tO} (hb:yF M b) {o:List Int} (ho:o.length<=M):fb b o=some (MP b o):=by
 have hr:b.2.2.2.2.1.length<9223372036854775807:=by have:b.2.2.2.2.1.length<=1048576:=hb.2.2.2.1;omega
 unfold fb MP;rw[Eo 1 1 ho (by decide),Eo 1 _ ho (by decide),Eo 1 _ ho (by decide),Eo 1 99 ho (by decide),Eo 1 99 ho (by decide),Eo 1 99 ho (by decide)];simp only[tN];cases wd o 1 1 [1]with
 | true=>rfl
 | false =>
 cases wd o 1 (wQ b) [2,2]with
 | true=>rfl
 | false =>
 cases wd o 1 (wQ b) [2,4]with
 | true=>rfl
 | false =>
 cases wd o 1 99 [3,1]with
 | true=>rfl
 | false =>
 have key:o.length=6->((at? o 5).bind λx41=>(ar (b.2.2.2.2.1,b.2.2.2.2.2.1) x41).bind λt43=>some (decide (t43>=0)))=some (match o[5]? with|some x=>decide (wj (yk b) x>=0)|none=>false):=by
  intro h6;have h5:5<o.length:=by omega
  rw[show (5:Int)=((5:Nat):Int)from rfl,ud h5,tN,Ft hr,tN,List.getElem?_eq_getElem h5]
 cases h2:wd o 1 99 [3,2]with
 | true =>
  simp only[cF,cT,tN,Bool.false_or,Bool.true_or,Bool.true_and];rw[key (Kp h2)];rfl
 | false =>
  cases h3:wd o 1 99 [3,3]with
  | true =>
   simp only[cF,cT,tN,Bool.false_or,Bool.or_true,Bool.true_and];rw[key (Kp h3)];rfl
  | false=>rfl
def Jb (b:tO) (o:List Int):Bool:=wd o 2 5 [1]||(wd o 1 (wQ b) [2,1]||(wd o 1 (wQ b) [2,3]||(((o.length==7)&&(o.take 5==[1,3,1,4,1]))&&(match o[5]?,o[6]? with|some x,some y=>decide (FO b.2.2.2.1 x y>=0)|_,_=>false))))
theorem Tg {b:tO} (hb:yF M b) {o:List Int} (ho:o.length<=M):fh b o=some (Jb b o):=by
 have hr:b.2.2.2.1.length<9223372036854775807:=by have:b.2.2.2.1.length<=1048576:=hb.2.2.1;omega
 unfold fh Jb;rw[Eo 2 5 ho (by decide),Eo 1 _ ho (by decide),Eo 1 _ ho (by decide)];simp only[tN];cases wd o 2 5 [1]with
 | true=>rfl
 | false =>
 cases wd o 1 (wQ b) [2,1]with
 | true=>rfl
 | false =>
 cases wd o 1 (wQ b) [2,3]with
 | true=>rfl
 | false =>
 by_cases h7:o.length=7
 · have h5:5<o.length:=by omega
   have h6:6<o.length:=by omega
   have hc:cut o 0 5=some (o.take 5):=by
    rw[show (0:Int)=((0:Nat):Int)from rfl,show (5:Int)=((5:Nat):Int)from rfl,yf (Nat.zero_le _) (by omega),drop_zero]
   rw[show ((o.length:Int)==7)=true from beq_iff_eq.2 (by omega),show (o.length==7)=true from beq_iff_eq.2 h7];simp only[cF,cT,tN,hc,D3 (show ([1,3,1,4,1]:List Int).length<9223372036854775807 by decide),Bool.false_or,Bool.true_and];cases (o.take 5==[1,3,1,4,1])with
   | false=>rfl
   | true =>
    rw[show (5:Int)=((5:Nat):Int)from rfl,show (6:Int)=((6:Nat):Int)from rfl];simp only[cT,ud h5,ud h6,tN,S5 hr,List.getElem?_eq_getElem h5,List.getElem?_eq_getElem h6,Bool.true_and]
 · rw[show ((o.length:Int)==7)=false from beq_eq_false_iff_ne.2 (by omega),show (o.length==7)=false from beq_eq_false_iff_ne.2 h7];rfl

def B0 (o:List Int):Bool:=decide (o.length>3)&&(o.take 3==[1,3,1])
theorem S6 {o:List Int} (ho:o.length<=M):eE o=some (cond (B0 o) (o.drop 3,true) ([],false)):=by
 have ho':o.length<=1048576:=ho;unfold eE ip B0;by_cases h:o.length>3
 · have hc:cut o 0 ((([1,3,1]:List Int).length:Nat):Int)=some (o.take 3):=by
    rw[show (0:Int)=((0:Nat):Int)from rfl,yf (Nat.zero_le _) (by show 3<=_;omega),drop_zero];rfl
   have hc2:cut o 3 (o.length:Int)=some (o.drop 3):=by
    rw[show (3:Int)=((3:Nat):Int)from rfl,yf (by omega) (Nat.le_refl _),take_length]
   have hs:cl (o.take 3) [1,3,1]=some (o.take 3==[1,3,1]):=D3 (a:=o.take 3) (b:=[1,3,1]) (by decide);rw[dT (show (o.length:Int)>(([1,3,1]:List Int).length:Int) by show (o.length:Int)>3;omega),cT,hc,tN,hs,dT h];simp only[tN,Bool.true_and];cases (o.take 3==[1,3,1])with
   | false=>rfl
   | true=>simp only[Bool.not_true,cF,cT,hc2,tN]
 · rw[dF (show ¬(o.length:Int)>(([1,3,1]:List Int).length:Int) by show ¬(o.length:Int)>3;omega),dF h];rfl
def GR (b:tO) (o:List Int):Bool:=B0 o&&(match o.drop 3 with
 | [a,c]=>a==1&&c==1
 | [a,c,p]=>(a==2&&((c==2||c==4)&&tV p 1 (wQ b)))||(a==3&&((c==1&&tV p 1 99)||((c==2||c==3)&&decide (wj (yk b) p>=0))))
 | _=>false)
theorem TR {b:tO} (hb:yF M b) {o:List Int} (ho:o.length<=M):gm b o=some (GR b o):=by
 have hr:b.2.2.2.2.1.length<9223372036854775807:=by have:b.2.2.2.2.1.length<=1048576:=hb.2.2.2.1;omega
 unfold gm GR;rw[S6 ho,tN];cases B0 o with
 | false=>rfl
 | true =>
  simp only[cT,Bool.not_true,cF,Bool.true_and]
  match o.drop 3 with
  | []=>rfl
  | [a]=>rfl
  | [a,c] =>
   rw[show (([a,c].length:Int)==2)=true from rfl,cT,show at? [a,c] 0=some a from rfl,show at? [a,c] 1=some c from rfl];simp only[tN];cases a==1<;>rfl
  | [a,c,p] =>
   rw[show (([a,c,p].length:Int)==2)=false from rfl,cF,show (([a,c,p].length:Int) != 3)=false from rfl,cF,show at? [a,c,p] 0=some a from rfl,show at? [a,c,p] 1=some c from rfl,show at? [a,c,p] 2=some p from rfl];simp only[tN,AL,QH (v:=(b.2.2.2.2.1,b.2.2.2.2.2.1)) hr];by_cases h2:a=2
   · subst h2;cases c==2<;>cases c==4<;>simp
   · by_cases h3:a=3
     · subst h3;cases c==1<;>cases c==2<;>cases c==3<;>cases tV p 1 99<;>simp
     · rw[show (a==2)=false from beq_eq_false_iff_ne.2 h2,show (a==3)=false from beq_eq_false_iff_ne.2 h3];rfl
  | a::c::p::q::l =>
   simp only[length_cons];rw[show ((((l.length+1+1+1+1:Nat):Int))==2)=false from beq_eq_false_iff_ne.2 (by omega),show ((((l.length+1+1+1+1:Nat):Int)) != 3)=true from bne_iff_ne.2 (by omega)];rfl
def HR (b:tO) (o:List Int):Bool:=B0 o&&(match o.drop 3 with
 | [a,c]=>a==1&&tV c 2 5
 | [a,c,p]=>a==2&&((c==1||c==3)&&tV p 1 (wQ b))
 | [a,c,p,q]=>(a==4&&c==1)&&decide (FO b.2.2.2.1 p q>=0)
 | _=>false)
theorem Th {b:tO} (hb:yF M b) {o:List Int} (ho:o.length<=M):gp b o=some (HR b o):=by
 have hr:b.2.2.2.1.length<9223372036854775807:=by have:b.2.2.2.1.length<=1048576:=hb.2.2.1;omega
 unfold gp HR;rw[S6 ho,tN];cases B0 o with
 | false=>rfl
 | true =>
  simp only[cT,Bool.not_true,cF,Bool.true_and]
  match o.drop 3 with
  | []=>rfl
  | [a]=>rfl
  | [a,c] =>
   rw[show (([a,c].length:Int)==2)=true from rfl,cT,show at? [a,c] 0=some a from rfl,show at? [a,c] 1=some c from rfl];simp only[tN,AL];cases a==1<;>rfl
  | [a,c,p] =>
   rw[show (([a,c,p].length:Int)==2)=false from rfl,cF,show (([a,c,p].length:Int)==3)=true from rfl,cT,show at? [a,c,p] 0=some a from rfl,show at? [a,c,p] 1=some c from rfl,show at? [a,c,p] 2=some p from rfl];simp only[tN,AL];cases a==2<;>cases c==1<;>cases c==3<;>simp
  | [a,c,p,q] =>
   rw[show (([a,c,p,q].length:Int)==2)=false from rfl,cF,show (([a,c,p,q].length:Int)==3)=false from rfl,cF,show (([a,c,p,q].length:Int)==4)=true from rfl,cT,show at? [a,c,p,q] 0=some a from rfl,show at? [a,c,p,q] 1=some c from rfl,show at? [a,c,p,q] 2=some p from rfl,show at? [a,c,p,q] 3=some q from rfl];simp only[tN,QI hr];cases a==4<;>cases c==1<;>simp
  | a::c::p::q::r::l =>
   simp only[length_cons];rw[show ((((l.length+1+1+1+1+1:Nat):Int))==2)=false from beq_eq_false_iff_ne.2 (by omega),show ((((l.length+1+1+1+1+1:Nat):Int))==3)=false from beq_eq_false_iff_ne.2 (by omega),show ((((l.length+1+1+1+1+1:Nat):Int))==4)=false from beq_eq_false_iff_ne.2 (by omega)];rfl

structure yT (b:tO):Prop where
 id:tV b.1 1 99=true
 name:b.2.1.length<=10
 n1:1<=b.2.2.1.length
 n6:b.2.2.1.length<=6
 p:∀x∈b.2.2.1,EB x=true
 f:zA b.2.2.2.1=true
 c:wC b=true
 q:b.2.2.2.2.2.1.length=b.2.2.1.length
 v:b.2.2.2.2.1.length<=6
 s:b.2.2.2.2.1.Pairwise λr s=>r.1<s.1
 i:∀r∈b.2.2.2.2.1,tV r.1 1 99=true
 h:∀r∈b.2.2.2.2.1,-9223372036854775808<=r.2.2/\r.2.2<=9223372036854775807
theorem yT.f12 {b:tO} (h:yT b):b.2.2.2.1.length<=12:=by
 have hf:=h.f;unfold zA at hf;simp only[aT,decide_eq_true_eq]at hf;omega
theorem yT.le {b:tO} (h:yT b):yF M b:=by
 have h1:=h.name;have h2:=h.n6;have h3:=h.f12;have h4:=h.v;have h5:=h.q
 have hM:M=1048576:=rfl;exact⟨by omega,by omega,by omega,by omega,by omega⟩
theorem vj.sok {b:tO} (h:vj b):yT b:=by
 obtain⟨v1,v2,v3,v4⟩:=h.vt.len;refine⟨h.id,h.name,h.n1,h.n6,h.p,h.f,h.c,v3,v4,IW h,λr hr=>?_,h.w.r⟩;obtain⟨k,hk,rfl⟩:=getElem_of_mem hr;have hv:=h.v
 unfold yj at hv;simp only[aT,Bool.not_eq_true']at hv;have hx:=any_eq_false.1 hv.2.1 k (mem_range.2 hk)
 unfold Bm at hx;simp only[List.getElem?_eq_getElem hk]at hx;cases hq:tV b.2.2.2.2.1[k].1 1 99 with
 | true=>rfl
 | false=>rw[hq]at hx;simp at hx
theorem zd {o:List Int} (h:o.length<=2):(∀lo hi head,wd o lo hi head=false)/\B0 o=false:=by
 refine⟨λlo hi head=>?_,?_⟩
 · unfold wd;rw[beq_eq_false_iff_ne.2 (by omega),Bool.false_and]
 · unfold B0;rw[dF (by omega),Bool.false_and]
theorem MQ {x y z:Int} {t:List Int} (h:¬(x=1/\y=3/\z=1)):(∀lo hi head,wd (x::y::z::t) lo hi head=false)/\B0 (x::y::z::t)=false:=by
 refine⟨λlo hi head=>?_,?_⟩
 · unfold wd;have:((x::y::z::t).take (head.length+3)==[1,3,1]++head)=false:=by
    rw[bF];intro e;rw[take_succ_cons,take_succ_cons,take_succ_cons]at e;simp at e;exact h ⟨e.1,e.2.1,e.2.2.1⟩
   rw[this,Bool.false_and,Bool.and_false]
 · unfold B0;have:((x::y::z::t).take 3==[1,3,1])=false:=by
    rw[bF];intro e;simp at e;exact h e
   rw[this,Bool.and_false]
theorem S7 (t:List Int) (lo hi c:Int):wd (1::3::1::t) lo hi [c]=match t with | [a,x]=>a==c&&tV x lo hi|_=>false:=by
 match t with
 | []=>simp[wd]
 | [a]=>simp[wd]
 | [a,x]=>simp[wd]
 | a::x::y::t=>simp[wd]
theorem S8 (t:List Int) (lo hi c d:Int):wd (1::3::1::t) lo hi [c,d]=match t with | [a,b,x]=>(a==c&&b==d)&&tV x lo hi|_=>false:=by
 match t with
 | []=>simp[wd]
 | [a]=>simp[wd]
 | [a,x]=>simp[wd]
 | [a,b,x]=>simp[wd]
 | a::b::x::y::t=>simp[wd]
theorem S9 (t:List Int):B0 (1::3::1::t)=decide (0<t.length):=by
 unfold B0;rw[show ((1::3::1::t).take 3==[1,3,1])=true from rfl,Bool.and_true];simp
theorem Tn (c:Int):tV c 1 1=(c==1):=by
 unfold tV;by_cases h:c=1
 · subst h;rfl
 · rw[beq_eq_false_iff_ne.2 h];simp only[Bool.and_eq_false_iff,decide_eq_false_iff_not];omega
theorem QJ {b:tO} (h:yT b) (o:List Int):MP b o=GR b o:=by
 unfold MP GR
 match o with
 | []=>simp only[(zd (o:=[]) (by simp)).1,(zd (o:=[]) (by simp)).2];rfl
 | [x]=>simp only[(zd (o:=[x]) (by simp)).1,(zd (o:=[x]) (by simp)).2];rfl
 | [x,y]=>simp only[(zd (o:=[x,y]) (by simp)).1,(zd (o:=[x,y]) (by simp)).2];rfl
 | x::y::z::t =>
  by_cases h3:x=1/\y=3/\z=1
  · obtain⟨rfl,rfl,rfl⟩:=h3;simp only[S7,S8,S9,Tn]
    match t with
    | []=>rfl
    | [a]=>simp
    | [a,c]=>simp
    | [a,c,p] =>
     have hp:decide (wj (yk b) p>=0)=true->tV p 1 99=true:=by
      intro e;obtain⟨k,hk,_,e2⟩:=BE (of_decide_eq_true e);rw[←e2];exact h.i _ (getElem_mem hk)
     have e5:(1::3::1::[a,c,p])[5]?=some p:=rfl;rw[e5];rw[show decide (0<[a,c,p].length)=true from rfl,Bool.true_and];show (((false:Bool)||((((a==2)&&(c==2))&&tV p 1 (wQ b))||((((a==2)&&(c==4))&&tV p 1 (wQ b))||((((a==3)&&(c==1))&&tV p 1 99)||(((((a==3)&&(c==2))&&tV p 1 99)||(((a==3)&&(c==3))&&tV p 1 99))&&decide (wj (yk b) p>=0)))))))=((a==2)&&(((c==2)||(c==4))&&tV p 1 (wQ b))||(a==3)&&((c==1)&&tV p 1 99||((c==2)||(c==3))&&decide (wj (yk b) p>=0)))
     revert hp
     generalize (a==2)=a2;generalize (a==3)=a3;generalize (c==1)=c1;generalize (c==2)=c2;generalize (c==3)=c3;generalize (c==4)=c4;generalize tV p 1 (wQ b)=pn;generalize tV p 1 99=pg;generalize decide (wj (yk b) p>=0)=R;clear e5
     revert a2 a3 c1 c2 c3 c4 pn pg R
     decide
    | a::c::p::q::l=>simp
  · simp only[(MQ (t:=t) h3).1,(MQ (t:=t) h3).2];rfl
theorem Of {b:tO} (h:yT b) (o:List Int):Jb b o=HR b o:=by
 unfold Jb HR
 match o with
 | []=>simp only[(zd (o:=[]) (by simp)).1,(zd (o:=[]) (by simp)).2];rfl
 | [x]=>simp only[(zd (o:=[x]) (by simp)).1,(zd (o:=[x]) (by simp)).2];rfl
 | [x,y]=>simp only[(zd (o:=[x,y]) (by simp)).1,(zd (o:=[x,y]) (by simp)).2];rfl
 | x::y::z::t =>
  by_cases h3:x=1/\y=3/\z=1
  · obtain⟨rfl,rfl,rfl⟩:=h3;simp only[S7,S8,S9,Tn]
    match t with
    | []=>rfl
    | [a]=>simp
    | [a,c]=>simp
    | [a,c,p] =>
     have e7:((1::3::1::[a,c,p]).length==7)=false:=rfl;rw[e7,Bool.false_and,Bool.false_and,Bool.false_or];show ((a==2&&c==1)&&tV p 1 (wQ b)||((a==2&&c==3)&&tV p 1 (wQ b)||false))=(true&&(a==2&&((c==1||c==3)&&tV p 1 (wQ b))))
     cases (a==2)<;>cases (c==1)<;>cases (c==3)<;>simp
    | [a,c,p,q]=>simp
    | a::c::p::q::r::l=>simp
  · simp only[(MQ (t:=t) h3).1,(MQ (t:=t) h3).2];rw[Bool.false_or,Bool.false_or,Bool.false_or,Bool.false_and];have:((x::y::z::t).take 5==[1,3,1,4,1])=false:=by
     rw[bF];intro e;simp at e;exact h3 ⟨e.1,e.2.1,e.2.2.1⟩
    rw[this,Bool.and_false,Bool.false_and]
def vE (r:ua):Bool->List ua->List ua
 | false,[]=>[r]
 | true,[]=>[]
 | false,x::t=>if x.1>=r.1 then r::(if x.1 != r.1 then x::vE r true t else vE r true t)else x::vE r false t
 | true,x::t=>if x.1 != r.1 then x::vE r true t else vE r true t
theorem D5 {r:ua}:∀{l:List ua},(∀x∈l,x.1≠r.1)->vE r true l=l
 | [],_=>rfl
 | x::t,h=>by
  unfold vE;rw[if_pos (bne_iff_ne.2 (h x (by simp))),D5 λy hy=>h y (mem_cons_of_mem _ hy)]
theorem GS {r:ua}:∀{l:List ua} {k:Nat} (hk:k<l.length),l.Pairwise (λr s=>r.1<s.1)->l[k].1=r.1->vE r false l=l.set k r
 | x::t,0,_,hp,e=>by
  have e':x.1=r.1:=e;unfold vE;rw[if_pos (by omega),if_neg (by simp[e']),D5 λy hy=>by have:=(pairwise_cons.1 hp).1 y hy;omega];rfl
 | x::t,k+1,hk,hp,e=>by
  have e':(t[k]'(by simpa using hk)).1=r.1:=e;have:=(pairwise_cons.1 hp).1 _ (getElem_mem (by simpa using hk:k<t.length))
  unfold vE;rw[if_neg (by omega),GS (by simpa using hk) (pairwise_cons.1 hp).2 e'];rfl
theorem LH {r:ua}:∀{l:List ua} {d:Nat},l.Pairwise (λr s=>r.1<s.1)->(∀x∈l,x.1≠r.1)->(∀x∈l.take d,x.1<=r.1)->(∀x,l[d]?=some x->¬x.1<=r.1)->vE r false l=l.take d++r::l.drop d
 | [],d,_,_,_,_=>by simp[vE]
 | x::t,0,hp,hn,_,h2=>by
  have:=h2 x rfl;unfold vE;rw[if_pos (by omega),if_pos (bne_iff_ne.2 (hn x (by simp))),D5 λy hy=>hn y (mem_cons_of_mem _ hy)];rfl
 | x::t,d+1,hp,hn,h1,h2=>by
  have a1:=h1 x (by simp);have a2:=hn x (by simp)
  unfold vE;rw[if_neg (by omega),LH (d:=d) (pairwise_cons.1 hp).2 (λy hy=>hn y (mem_cons_of_mem _ hy)) (λy hy=>h1 y (by rw[take_succ_cons];exact mem_cons_of_mem _ hy)) (λy hy=>h2 y (by simpa using hy))];rfl
theorem Sa {v:ve} (r:ua) (h1:v.1.length<=1000) (h2:v.2.length<=1000):cn v r=some (vE r false v.1,v.2):=by
 unfold cn;rw[u6 (by show 0+v.2.length<=_;omega),tN];obtain⟨b,e1,e2⟩:=uw (β:=Bool×List ua) (step:=λz:Bool×Int×List ua=>gq v r z.1 z.2.1 z.2.2)
  (λk z=>z.2.1=(k:Int)/\z.2.2++vE r z.1 (v.1.drop k)=vE r false v.1/\z.2.2.length<=2*k) v.1.length
  (λz=>z.2++vE r z.1 []=vE r false v.1/\z.2.length<=2000)
  (λk z hk ⟨z1,z2,z3⟩=>by
   obtain⟨dn,i,out⟩:=z;simp only at z1 z2 z3;subst z1;left;have hd:v.1.drop k=v.1[k]::v.1.drop (k+1):=drop_eq_getElem_cons hk
   have hw:tP ((k:Int)+1)=((k+1:Nat):Int):=u7 (by omega);have ha:∀(x:ua),ut out [x]=some (out++[x]):=λx=>u6 (by show _+1<=_;omega)
   have hb:∀(x y:ua),ut (out++[x]) [y]=some (out++[x]++[y]):=λx y=>u6 (by simp only[length_append,length_cons,length_nil];omega);rw[hd]at z2;generalize hG:vE r false v.1=G at z2 ⊢;unfold gq;simp only[ux (show (k:Int)<(v.1.length:Int) by omega),cT,ud hk,tN,ha,hb,hw];cases dn with
   | true =>
    simp only[Bool.not_true,cF,tN];unfold vE at z2;cases hq:(v.1[k].1 != r.1)with
    | true =>
     rw[hq]at z2;exact⟨_,rfl,rfl,by simpa using z2,by simp;omega⟩
    | false =>
     rw[hq]at z2;exact⟨_,rfl,rfl,by simpa using z2,by simp;omega⟩
   | false =>
    simp only[Bool.not_false,cT,tN];unfold vE at z2;by_cases hg:v.1[k].1>=r.1
    · rw[if_pos hg]at z2;simp only[dT hg,cT];cases hq:(v.1[k].1 != r.1)with
      | true =>
       rw[hq]at z2;exact⟨_,rfl,rfl,by simpa using z2,by simp;omega⟩
      | false =>
       rw[hq]at z2;exact⟨_,rfl,rfl,by simpa using z2,by simp;omega⟩
    · rw[if_neg hg]at z2;simp only[dF hg,cF,bne_iff_ne.2 (show v.1[k].1≠r.1 by omega),cT];exact⟨_,rfl,rfl,by simpa using z2,by simp;omega⟩)
  (λz ⟨z1,z2,z3⟩=>by
   obtain⟨dn,i,out⟩:=z;simp only at z1 z2 z3;subst z1;rw[List.drop_length]at z2;refine⟨(dn,out),?_,z2,by show out.length<=2000;have:out.length<=2*v.1.length:=z3;omega⟩;unfold gq;rw[ui (by omega),cF]) (x:=(false,0,[])) ⟨rfl,rfl,by simp⟩
 rw[e1,tN];obtain⟨dn,out⟩:=b;simp only at e2 ⊢;cases dn with
 | true =>
  rw[Bool.not_true,cF,←e2.1];simp[vE]
 | false =>
  rw[Bool.not_false,cT,u6 (by show _+1<=_;omega),tN,←e2.1];rfl
theorem Pd {v:ve} (r:ua) (h1:v.1.length<=1000) (h2:v.2.length<=1000) (hp:v.1.Pairwise λr s=>r.1<s.1):dz v r=some (vE r false v.1,v.2):=by
 unfold dz;have hM:M=1048576:=rfl
 rw[GP ⟨by omega,by omega⟩,tN,Ft (by omega),tN];by_cases hr:wj v.1 r.1>=0
 · obtain⟨k,hk,e1,e2⟩:=BE hr;have hx:ix v.1.length (k:Int)=some k:=by unfold ix;rw[if_pos (by omega),if_pos (by omega),Int.toNat_natCast]
   rw[dT hr,cT,e1,hx,tN,List.getElem?_eq_getElem hk,tN,GS hk hp e2]
 · rw[dF hr,cF];have hn:=MO (by omega:wj v.1 r.1<0)
   obtain⟨d,e1,k,hk,rfl,e3,e4⟩:=uw (β:=Int) (step:=λz=>fe v r z)
    (λk z=>z=(k:Int)/\∀x∈v.1.take k,x.1<=r.1) v.1.length
    (λz=>∃k:Nat,k<=v.1.length/\z=(k:Int)/\(∀x∈v.1.take k,x.1<=r.1)/\(∀x,v.1[k]?=some x->¬x.1<=r.1))
    (λk z hk ⟨z1,z2⟩=>by
     subst z1;unfold fe;simp only[ux (show (k:Int)<(v.1.length:Int) by omega),cT,ud hk,tN];by_cases hq:v.1[k].1<=r.1
     · refine .inl ⟨_,by rw[dT hq,cT],u7 (by omega),λx hx=>?_⟩;rw[take_add_one,List.getElem?_eq_getElem hk,mem_append]at hx;rcases hx with hx|hx
       · exact z2 x hx
       · simp at hx;subst hx;exact hq
     · refine .inr ⟨_,by rw[dF hq,cF],k,by omega,rfl,z2,λx hx=>?_⟩;rw[List.getElem?_eq_getElem hk]at hx;cases hx;exact hq)
    (λz ⟨z1,z2⟩=>by
     subst z1;refine⟨(v.1.length:Int),?_,v.1.length,Nat.le_refl _,rfl,z2,λx hx=>?_⟩
     · unfold fe;rw[ui (by omega),cF];rfl
     · rw[List.getElem?_eq_none (Nat.le_refl _)]at hx;cases hx) (x:=0) ⟨rfl,by simp⟩
   rw[e1,tN,show (0:Int)=((0:Nat):Int)from rfl,yf (Nat.zero_le _) hk,tN,drop_zero];have hl:(v.1.take k).length<=1000:=by rw[length_take];omega
   rw[u6 (by simp only[length_nil];omega),tN,List.nil_append,u6 (by simp only[length_cons,length_nil];omega),tN,yf hk (Nat.le_refl _),tN,take_length,u6 (by simp only[length_append,length_cons,length_nil,length_drop];omega),tN,LH hp hn e3 e4];simp

def Sb (b:tO) (m s:Option (tO×Int)):Prop:=∃r,m=some r/\s=some r/\yT r.1/\(r.2≠0->r.1=b)
theorem Cr {n a b:Nat} (h1:a<=b) (h2:b<=n):vC n (a:Int) (b:Int)=some (a,b):=by
 unfold vC;rw[if_pos (by omega),if_pos (by omega),if_pos (by omega)];simp
theorem Pe {v:ve} (id:Int) (h1:v.1.length<=1000) (h2:v.2.length<=1000) {k:Nat} (hk:k<v.1.length) (e:wj v.1 id=(k:Int)):dA v id=some (v.1.eraseIdx k,v.2):=by
 unfold dA;have hM:M=1048576:=rfl
 have hw:tP ((k:Int)+1)=((k+1:Nat):Int):=u7 (by omega);rw[GP ⟨by omega,by omega⟩,tN,Ft (by omega),tN,e,dT (by omega),cT,hw,show (0:Int)=((0:Nat):Int)from rfl,yf (Nat.zero_le _) (by omega),tN,u6 (by simp only[length_nil,length_drop,length_take];omega),tN,yf (by omega) (Nat.le_refl _),tN,u6 (by simp only[length_append,length_nil,length_drop,length_take];omega),tN,List.eraseIdx_eq_take_drop_succ];simp
theorem Ik {r:ua} {l:List ua} (hs:l.Pairwise λr s=>r.1<s.1) (hi:∀x∈l,tV x.1 1 99=true) (hh:∀x∈l,-9223372036854775808<=x.2.2/\x.2.2<=9223372036854775807)
 (ri:tV r.1 1 99=true) (rh:-9223372036854775808<=r.2.2/\r.2.2<=9223372036854775807) :
 (vE r false l).Pairwise (λr s=>r.1<s.1)/\(∀x∈vE r false l,tV x.1 1 99=true)/\(∀x∈vE r false l,-9223372036854775808<=x.2.2/\x.2.2<=9223372036854775807):=by
 have hm:∀{dn:Bool} {l:List ua},∀x∈vE r dn l,x=r\/x∈l:=by
  intro dn l
  induction l generalizing dn with
  | nil=>intro x hx;cases dn<;>simp[vE]at hx;exact .inl hx
  | cons y t ih =>
   intro x hx;cases dn with
   | true =>
    unfold vE at hx;split at hx
    · rcases mem_cons.1 hx with rfl|hx
      · exact .inr (by simp)
      · rcases ih x hx with e|e
        · exact .inl e
        · exact .inr (mem_cons_of_mem _ e)
    · rcases ih x hx with e|e
      · exact .inl e
      · exact .inr (mem_cons_of_mem _ e)
   | false =>
    unfold vE at hx;split at hx
    · rcases mem_cons.1 hx with rfl|hx
      · exact .inl rfl
      · split at hx
        · rcases mem_cons.1 hx with rfl|hx
          · exact .inr (by simp)
          · rcases ih x hx with e|e
            · exact .inl e
            · exact .inr (mem_cons_of_mem _ e)
        · rcases ih x hx with e|e
          · exact .inl e
          · exact .inr (mem_cons_of_mem _ e)
    · rcases mem_cons.1 hx with rfl|hx
      · exact .inr (by simp)
      · rcases ih x hx with e|e
        · exact .inl e
        · exact .inr (mem_cons_of_mem _ e)
 have hp:∀{l:List ua},l.Pairwise (λr s=>r.1<s.1)->(vE r false l).Pairwise (λr s=>r.1<s.1):=by
  intro l
  induction l with
  | nil=>intro _;simp[vE]
  | cons y t ih =>
   intro h;have h1:=(pairwise_cons.1 h).1
   have h2:=(pairwise_cons.1 h).2;unfold vE;split
   · next hy =>
     have ht:vE r true t=t:=D5 λz hz=>by have:=h1 z hz;omega
     rw[ht];split
     · next hq =>
       have hq:=bne_iff_ne.1 hq;refine pairwise_cons.2 ⟨λz hz=>?_,h⟩;rcases mem_cons.1 hz with rfl|hz
       · omega
       · have:=h1 z hz;omega
     · next hq =>
       have hq:y.1=r.1:=by simpa using hq
       refine pairwise_cons.2 ⟨λz hz=>?_,h2⟩;have:=h1 z hz;omega
   · next hy =>
     refine pairwise_cons.2 ⟨λz hz=>?_,ih h2⟩;rcases hm z hz with rfl|hz
     · omega
     · exact h1 z hz
 refine⟨hp hs,λx hx=>?_,λx hx=>?_⟩
 · rcases hm x hx with rfl|hx
   · exact ri
   · exact hi x hx
 · rcases hm x hx with rfl|hx
   · exact rh
   · exact hh x hx
theorem Pf {r:ua} {dn:Bool} {l:List ua}:(vE r dn l).length<=l.length+1:=by
 induction l generalizing dn with
 | nil=>cases dn<;>simp[vE]
 | cons x t ih =>
  have h1:=ih (dn:=true);have h2:=ih (dn:=false)
  have h3:(vE r true t).length<=t.length:=by
   clear ih h1 h2
   induction t with
   | nil=>simp[vE]
   | cons y t ih=>unfold vE;split<;>simp<;>omega
  cases dn<;>unfold vE<;>split<;>(try split)<;>simp<;>omega
theorem yT.rows {b:tO} (h:yT b) {R:List ua} (h1:R.length<=6) (h2:R.Pairwise λr s=>r.1<s.1) (h3:∀x∈R,tV x.1 1 99=true) (h4:∀x∈R,-9223372036854775808<=x.2.2/\x.2.2<=9223372036854775807) :
 yT (b.1,b.2.1,b.2.2.1,b.2.2.2.1,R,b.2.2.2.2.2.1,b.2.2.2.2.2.2.1,b.2.2.2.2.2.2.2.1,b.2.2.2.2.2.2.2.2.1,b.2.2.2.2.2.2.2.2.2.1,b.2.2.2.2.2.2.2.2.2.2) :=
 ⟨h.id,h.name,h.n1,h.n6,h.p,h.f,h.c,h.q,h1,h2,h3,h4⟩
theorem HS {b:tO} (h:yT b):tV (b.2.2.1.length:Int) 1 6=true:=by
 have h1:=h.n1;have h2:=h.n6
 unfold tV;rw[dT (by omega),dT (by omega)];rfl
theorem QK {b:tO} (h:yT b) (c id n:Int) (hc:(c=1/\tV id 1 99=true)\/((c=2\/c=3)/\wj (yk b) id>=0)):Sb b (ff b c id n) (gt b c id n):=by
 have hv:=h.v;have hq:b.2.2.2.2.2.1.length<=6:=by have:=h.q;have:=h.n6;omega
 have hr:∀(id:Int),ar (b.2.2.2.2.1,b.2.2.2.2.2.1) id=some (wj (yk b) id):=λid=>Ft (v:=(b.2.2.2.2.1,b.2.2.2.2.2.1)) (by show b.2.2.2.2.1.length<_;omega) id;have hrs:∀(id:Int),ce (b.2.2.2.2.1,b.2.2.2.2.2.1) id=some (wj (yk b) id):=hr
 have hw:∀(r:ua),dz (b.2.2.2.2.1,b.2.2.2.2.2.1) r=some (vE r false b.2.2.2.2.1,b.2.2.2.2.2.1):=λr=>Pd (v:=(b.2.2.2.2.1,b.2.2.2.2.2.1)) r (by show b.2.2.2.2.1.length<=_;omega) (by show b.2.2.2.2.2.1.length<=_;omega) h.s;have hws:∀(r:ua),cn (b.2.2.2.2.1,b.2.2.2.2.2.1) r=some (vE r false b.2.2.2.2.1,b.2.2.2.2.2.1):=λr=>Sa (v:=(b.2.2.2.2.1,b.2.2.2.2.2.1)) r (by show b.2.2.2.2.1.length<=_;omega) (by show b.2.2.2.2.2.1.length<=_;omega)
 unfold ff gt;rw[hr,tN];by_cases h1:c=1
 · subst h1;have hid:tV id 1 99=true:=by rcases hc with hc|hc;exact hc.2;rcases hc.1 with e|e<;>cases e
   unfold ir;rw[hrs];simp only[show ((1:Int)==1)=true from rfl,cT,tN,hw,hws];by_cases hp:wj (yk b) id>=0
   · have hp':¬wj (yk b) id<0:=by omega
     simp only[dT hp,dF hp'];have e4:cond (n==4) (some false) (some false)=some false:=by cases (n==4)<;>rfl
     rw[e4];simp only[tN,cF];cases hn:(n==6)with
     | false =>
      simp only[cF,tN];exact⟨_,rfl,rfl,h,λ_=>rfl⟩
     | true =>
      obtain⟨k,hk,e1,e2⟩:=BE hp;simp only[cT,tN];have hk':k<b.2.2.2.2.1.length:=hk
      have hw64:tP (wj (yk b) id+1)=((k+1:Nat):Int):=by rw[e1];exact u7 (by omega)
      have hwo:dA (b.2.2.2.2.1,b.2.2.2.2.2.1) id=some (b.2.2.2.2.1.eraseIdx k,b.2.2.2.2.2.1):=Pe (v:=(b.2.2.2.2.1,b.2.2.2.2.2.1)) id (by show b.2.2.2.2.1.length<=_;omega) (by show b.2.2.2.2.2.1.length<=_;omega) hk e1;have hso:(vC b.2.2.2.2.1.length 0 (wj (yk b) id)).bind (λp=>(ut ([]:List ua) ((b.2.2.2.2.1.take p.2).drop p.1)).bind λzs47=>(vC b.2.2.2.2.1.length (tP (wj (yk b) id+1)) (b.2.2.2.2.1.length:Int)).bind λp_1=>(ut zs47 ((b.2.2.2.2.1.take p_1.2).drop p_1.1)).bind λzs54=>some ((b.1,b.2.1,b.2.2.1,b.2.2.2.1,zs54,b.2.2.2.2.2.1,b.2.2.2.2.2.2.1,b.2.2.2.2.2.2.2.1,b.2.2.2.2.2.2.2.2.1,b.2.2.2.2.2.2.2.2.2.1,b.2.2.2.2.2.2.2.2.2.2),(0:Int)))
       = some ((b.1,b.2.1,b.2.2.1,b.2.2.2.1,b.2.2.2.2.1.eraseIdx k,b.2.2.2.2.2.1,b.2.2.2.2.2.2.1,b.2.2.2.2.2.2.2.1,b.2.2.2.2.2.2.2.2.1,b.2.2.2.2.2.2.2.2.2.1,b.2.2.2.2.2.2.2.2.2.2),0):=by
       rw[hw64,e1,show (0:Int)=((0:Nat):Int)from rfl,Cr (Nat.zero_le _) (by omega),tN,u6 (by simp only[length_nil,length_drop,length_take];omega),tN,Cr (by omega) (Nat.le_refl _),tN,u6 (by simp only[length_append,length_nil,length_drop,length_take];omega),tN,List.eraseIdx_eq_take_drop_succ];simp
      rw[hwo];refine⟨_,rfl,by rw[hso];rfl,h.rows ?_ ?_ ?_ ?_,λe=>absurd rfl e⟩
      · rw[List.length_eraseIdx];split<;>omega
      · exact h.s.sublist (List.eraseIdx_sublist _ _)
      · exact λx hx=>h.i x (List.mem_of_mem_eraseIdx hx)
      · exact λx hx=>h.h x (List.mem_of_mem_eraseIdx hx)
   · have hp':wj (yk b) id<0:=by omega
     simp only[dF hp,dT hp'];have e6:cond (n==6) (some false) (some false)=some false:=by cases (n==6)<;>rfl
     rw[e6];cases hn:(n==4)with
     | false =>
      simp only[cF,tN];exact⟨_,rfl,rfl,h,λ_=>rfl⟩
     | true =>
      simp only[cT,tN];by_cases h6:(b.2.2.2.2.1.length:Int)<6
      · simp only[dT h6,cT];obtain⟨g1,g2,g3⟩:=Ik (r:=(id,0,0)) h.s h.i h.h hid ⟨by show (-9223372036854775808:Int)<=0;decide,by show (0:Int)<=9223372036854775807;decide⟩;have:=Pf (r:=(id,0,0)) (dn:=false) (l:=b.2.2.2.2.1)
        exact⟨_,rfl,rfl,h.rows (by omega) g1 g2 g3,λe=>absurd rfl e⟩
      · simp only[dF h6,cF,tN];exact⟨_,rfl,rfl,h,λ_=>rfl⟩
 · have h23:c=2\/c=3:=by rcases hc with hc|hc;exact absurd hc.1 h1;exact hc.1
   have hp:wj (yk b) id>=0:=by rcases hc with hc|hc;exact absurd hc.1 h1;exact hc.2
   obtain⟨k,hk,e1,e2⟩:=BE hp;have hk':k<b.2.2.2.2.1.length:=hk
   obtain⟨t,q1,q2⟩:=RO (HS h);rw[show (c==1)=false from beq_eq_false_iff_ne.2 h1];simp only[cF,IT (HS h),q1,tN,xt,AL,q2];cases hn:tV n 0 (AY (b.2.2.1.length:Int))with
   | false=>exact⟨_,rfl,rfl,h,λ_=>rfl⟩
   | true =>
    have ht:=(ME (HS h)).2;have hnr:-9223372036854775808<=n/\n<=9223372036854775807:=by
     unfold tV at hn;simp only[aT,decide_eq_true_eq]at hn;omega
    have hx:ix b.2.2.2.2.1.length (k:Int)=some k:=wi hk';rw[hrs];simp only[Bool.not_true,cF,tN,e1,hx,List.getElem?_eq_getElem hk',hws];have hin:∀(r:ua),r.1=b.2.2.2.2.1[k].1->vE r false b.2.2.2.2.1=b.2.2.2.2.1.set k r:=λr e=>GS hk' h.s e.symm
    have hki:=h.i _ (getElem_mem hk');have hkh:=h.h _ (getElem_mem hk')
    have hlen:∀(r:ua),r.1=b.2.2.2.2.1[k].1->(vE r false b.2.2.2.2.1).length<=6:=λr e=>by rw[hin r e,length_set];exact hv
    rcases h23 with rfl|rfl
    · simp only[show ((2:Int)==2)=true from rfl,cT];obtain⟨g1,g2,g3⟩:=Ik (r:=(b.2.2.2.2.1[k].1,n,b.2.2.2.2.1[k].2.2)) h.s h.i h.h hki hkh;refine⟨_,rfl,?_,?_,λe=>absurd rfl e⟩
      · rw[hin (b.2.2.2.2.1[k].1,n,b.2.2.2.2.1[k].2.2) rfl]
      · rw[←hin (b.2.2.2.2.1[k].1,n,b.2.2.2.2.1[k].2.2) rfl];exact h.rows (hlen _ rfl) g1 g2 g3
    · simp only[show ((3:Int)==2)=false from rfl,cF];obtain⟨g1,g2,g3⟩:=Ik (r:=(b.2.2.2.2.1[k].1,b.2.2.2.2.1[k].2.1,n)) h.s h.i h.h hki hnr;refine⟨_,rfl,?_,?_,λe=>absurd rfl e⟩
      · rw[hin (b.2.2.2.2.1[k].1,b.2.2.2.2.1[k].2.1,n) rfl]
      · rw[←hin (b.2.2.2.2.1[k].1,b.2.2.2.2.1[k].2.1,n) rfl];exact h.rows (hlen _ rfl) g1 g2 g3
theorem Og {b:tO} {o:List Int} (h:GR b o=true):o=[1,3,1,1,1]\/(∃c p,o=[1,3,1,2,c,p]/\(c=2\/c=4)/\tV p 1 (wQ b)=true)\/(∃c p,o=[1,3,1,3,c,p]/\((c=1/\tV p 1 99=true)\/((c=2\/c=3)/\wj (yk b) p>=0))):=by
 unfold GR at h;rw[aT]at h;obtain⟨h1,h2⟩:=h;unfold B0 at h1;simp only[aT,decide_eq_true_eq,beq_iff_eq]at h1;have ho:o=[1,3,1]++o.drop 3:=by rw[←h1.2,take_append_drop]
 match hd:o.drop 3,h2 with
 | [a,c],h2 =>
  simp only[aT,beq_iff_eq]at h2;rw[hd]at ho;exact .inl (by rw[ho,h2.1,h2.2];rfl)
 | [a,c,p],h2 =>
  rw[hd]at ho;simp only[Bool.or_eq_true,aT,beq_iff_eq,decide_eq_true_eq]at h2;rcases h2 with ⟨rfl,h3,h4⟩|⟨rfl,h3⟩
  · exact .inr (.inl ⟨c,p,ho,h3,h4⟩)
  · exact .inr (.inr ⟨c,p,ho,h3⟩)
theorem Sc {b:tO} {p:Int} (h:tV p 1 (wQ b)=true) (hn:b.2.2.1.length<=6):∃k,k<b.2.2.1.length/\tP (p-1)=(k:Int):=by
 unfold tV wQ at h;simp only[aT,decide_eq_true_eq]at h;exact⟨(p-1).toNat,by omega,by rw[uE (by omega) (by omega)];omega⟩
theorem QL {p:Pt} {n:Int} (hn:tV n 1 1000=true) (h:EB p=true):EB (p.1,n,p.2.2.1,p.2.2.2.1,p.2.2.2.2.1,p.2.2.2.2.2.1,p.2.2.2.2.2.2.1,p.2.2.2.2.2.2.2)=true:=by
 unfold EB at h ⊢;rw[aT]at h ⊢;exact⟨hn,h.2⟩
theorem Sd {b:tO} (h:yT b) {x:tQ} (hx:x.1.length<=M):Sb b (bU b x) (eF b x):=by
 unfold bU eF;rw[TQ h.le hx,tN,xm h.le,tN,TR h.le hx,tN,QJ h];cases hm:GR b x.1 with
 | false =>
  rw[cF,Bool.not_false,cT,Tg h.le hx,Th h.le hx,tN,tN,Of h];cases HR b x.1 with
  | true=>exact⟨_,rfl,rfl,h,λ_=>rfl⟩
  | false=>exact⟨_,rfl,rfl,h,λ_=>rfl⟩
 | true =>
  obtain⟨o,kd,n,w,vo⟩:=x;rw[cT,Bool.not_true,cF];simp only;unfold gM;rcases Og hm with ho|⟨c,p,ho,hc,hp⟩|⟨c,p,ho,hc⟩
  · simp only at ho;subst ho;rw[show at? [1,3,1,1,1] 3=some (1:Int)from rfl,show cut [1,3,1,1,1] 3 (([1,3,1,1,1]:List Int).length:Int)=some ([1,1]:List Int)from rfl];simp only[tN,show at? [1,1] 0=some (1:Int)from rfl,show ((1:Int)==1)=true from rfl,cT,Bool.not_true,cF];cases (kd != 4)with
    | true=>exact⟨_,rfl,rfl,h,λ_=>rfl⟩
    | false =>
     simp only[cF,tN];by_cases hw:(w.length:Int)>10
     · simp only[dT hw,cT];exact⟨_,rfl,rfl,h,λ_=>rfl⟩
     · simp only[dF hw,cF];exact⟨_,rfl,rfl,⟨h.id,by show w.length<=10;omega,h.n1,h.n6,h.p,h.f,h.c,h.q,h.v,h.s,h.i,h.h⟩,λe=>absurd rfl e⟩
  · simp only at ho;subst ho;rw[show at? [1,3,1,2,c,p] 3=some (2:Int)from rfl,show at? [1,3,1,2,c,p] 4=some c from rfl,show at? [1,3,1,2,c,p] 5=some p from rfl,show cut [1,3,1,2,c,p] 3 (([1,3,1,2,c,p]:List Int).length:Int)=some ([2,c,p]:List Int)from rfl];simp only[tN,show at? [2,c,p] 0=some (2:Int)from rfl,show at? [2,c,p] 1=some c from rfl,show at? [2,c,p] 2=some p from rfl,show ((2:Int)==1)=false from rfl,show ((2:Int)==2)=true from rfl,show ((2:Int)==3)=false from rfl,cT,Bool.not_false,cF];cases (kd != 2)with
    | true=>exact⟨_,rfl,rfl,h,λ_=>rfl⟩
    | false =>
     obtain⟨k,hk,ek⟩:=Sc hp h.n6;simp only[cF,tN,ek];unfold iq;have hx1:ix b.2.2.1.length (k:Int)=some k:=wi hk
     have hx2:ix b.2.2.2.2.2.1.length (k:Int)=some k:=wi (by rw[h.q];exact hk);have hk2:k<b.2.2.2.2.2.1.length:=by rw[h.q];exact hk
     simp only[xt,AL,tN,hx1,hx2,List.getElem?_eq_getElem hk,List.getElem?_eq_getElem hk2];rcases hc with rfl|rfl
     · simp only[show ((2:Int)==2)=true from rfl,cT];cases hn:tV n 1 1000 with
       | false=>exact⟨_,rfl,rfl,h,λ_=>rfl⟩
       | true =>
        exact⟨_,rfl,rfl,⟨h.id,h.name,by simp only[length_set];exact h.n1,by simp only[length_set];exact h.n6,λy hy=>by
         rcases List.mem_or_eq_of_mem_set hy with e|rfl
         · exact h.p y e
         · exact QL hn (h.p _ (getElem_mem hk)),h.f,h.c,by simp only[length_set];exact h.q,h.v,h.s,h.i,h.h⟩,λe=>absurd rfl e⟩
     · simp only[show ((4:Int)==2)=false from rfl,cF];exact⟨_,rfl,rfl,⟨h.id,h.name,h.n1,h.n6,h.p,h.f,h.c,by simp only[length_set];exact h.q,h.v,h.s,h.i,h.h⟩,λe=>absurd rfl e⟩
  · simp only at ho;subst ho;rw[show at? [1,3,1,3,c,p] 3=some (3:Int)from rfl,show at? [1,3,1,3,c,p] 4=some c from rfl,show at? [1,3,1,3,c,p] 5=some p from rfl,show cut [1,3,1,3,c,p] 3 (([1,3,1,3,c,p]:List Int).length:Int)=some ([3,c,p]:List Int)from rfl];simp only[tN,show at? [3,c,p] 0=some (3:Int)from rfl,show at? [3,c,p] 1=some c from rfl,show at? [3,c,p] 2=some p from rfl,show ((3:Int)==1)=false from rfl,show ((3:Int)==2)=false from rfl,show ((3:Int)==3)=true from rfl,cT,Bool.not_false,cF];cases (kd != 2)with
    | true=>exact⟨_,rfl,rfl,h,λ_=>rfl⟩
    | false =>
     simp only[cF,tN];obtain⟨r,r1,r2,r3,r4⟩:=QK h c p n hc;exact⟨r,by rw[r1];rfl,by rw[r2];rfl,r3,r4⟩

theorem GT {α β:Type} {step t:α->Option (α⊕β)} (uC:Nat->α->Prop) (m:Nat) (R:β->Prop)
 (h:∀k x,k<m->uC k x->(∃y,step x=some (.inl y)/\t x=some (.inl y)/\uC (k+1) y)\/∃b,step x=some (.inr b)/\t x=some (.inr b)/\R b)
 (he:∀x,uC m x->∃b,step x=some (.inr b)/\t x=some (.inr b)/\R b) {x:α} (h0:uC 0 x):∃b,loop step x=some b/\loop t x=some b/\R b:=by
 have key:∀n k x,k+n=m->uC k x->∃b,wU step (n+1) x=some b/\wU t (n+1) x=some b/\R b:=by
  intro n
  induction n with
  | zero =>
   intro k x hk hx;obtain rfl:k=m:=by omega
   obtain⟨b,h1,h3,h2⟩:=he x hx;exact⟨b,by rw[vc,h1];rfl,by rw[vc,h3];rfl,h2⟩
  | succ n ih =>
   intro k x hk hx;rcases h k x (by omega) hx with ⟨y,h1,h5,h2⟩|⟨b,h1,h5,h2⟩
   · obtain⟨b,h3,h6,h4⟩:=ih (k+1) y (by omega) h2;exact⟨b,by rw[vc,h1];exact h3,by rw[vc,h5];exact h6,h4⟩
   · exact⟨b,by rw[vc,h1];rfl,by rw[vc,h5];rfl,h2⟩
 obtain⟨b,h1,h3,h2⟩:=key m 0 x (by omega) h0;exact⟨b,yn h1,yn h3,h2⟩
theorem Ti {l:List tZ} (h:zA l=true):FB l:=by
 unfold zA at h;simp only[aT,Bool.not_eq_true',decide_eq_true_eq]at h;refine⟨λx hx=>?_,Ek (R:=lt) (λ_ _ _=>lt_trans) λk hk=>?_,by omega⟩
 · obtain⟨k,hk,rfl⟩:=getElem_of_mem hx;have hx:=any_eq_false.1 h.1 k (mem_range.2 hk)
   unfold zk at hx;simp only[List.getElem?_eq_getElem hk,Bool.or_eq_true,not_or,Bool.not_eq_true',Bool.not_eq_false]at hx;exact hx.1
 · have hx:=any_eq_false.1 h.1 (k+1) (mem_range.2 hk);unfold zk at hx;simp only[List.getElem?_eq_getElem hk,Nat.add_sub_cancel,List.getElem?_eq_getElem (show k<l.length by omega),Bool.or_eq_true,aT,decide_eq_true_eq,not_or,not_and,Bool.not_eq_true',Bool.not_eq_false]at hx;have hp:=hx.2 (by omega)
   unfold Am at hp;simp only[Bool.or_eq_true,aT,decide_eq_true_eq,beq_iff_eq]at hp;unfold lt;omega
theorem FB.sub {l m:List tZ} (h:FB l) (hs:m.Sublist l):FB m :=
 ⟨λx hx=>h.e x (hs.subset hx),h.o.sublist hs,Nat.le_trans hs.length_le h.n⟩
def zZ (l:List tZ) (p:Int):List tZ:=l.filter λe=>e.2.2.2.2||e.2.2.1 != p
theorem HT {l:List tZ} (p:Int) (hn:l.length<=1000) (step:Int×List tZ->Option ((Int×List tZ)⊕List tZ))
 (hs:∀k (hk:k<l.length) out,step ((k:Int),out)=cond (l[k].2.2.2.2||l[k].2.2.1 != p) ((ut out [l[k]]).bind λzs=>some (.inl (((k+1:Nat):Int),zs))) (some (.inl (((k+1:Nat):Int),out))))
 (he:∀out,step ((l.length:Int),out)=some (.inr out)):loop step (0,[])=some (zZ l p):=by
 obtain⟨b,h1,rfl⟩:=uw (step:=step) (λk z=>z.1=(k:Int)/\z.2=zZ (l.take k) p) l.length (λb=>b=zZ l p)
  (λk z hk ⟨z1,z2⟩=>by
   obtain⟨i,out⟩:=z;simp only at z1 z2;subst z1 z2;left;have hl:(zZ (l.take k) p).length<=k:=by
    have:=(List.filter_sublist (p:=λe:tZ=>e.2.2.2.2||e.2.2.1 != p) (l:=l.take k)).length_le;rw[length_take]at this;show (List.filter _ _).length<=k
    omega
   have ht:zZ (l.take (k+1)) p=zZ (l.take k) p++cond (l[k].2.2.2.2||l[k].2.2.1 != p) [l[k]] []:=by
    unfold zZ;rw[take_add_one,List.getElem?_eq_getElem hk,List.filter_append];rw[Option.toList_some,List.filter_cons,List.filter_nil];cases (l[k].2.2.2.2||l[k].2.2.1 != p)<;>rfl
   rw[hs k hk];cases hc:(l[k].2.2.2.2||l[k].2.2.1 != p)with
   | true =>
    rw[hc]at ht;exact⟨_,by rw[cT,u6 (by show _+1<=_;omega)];rfl,rfl,by rw[ht];rfl⟩
   | false =>
    rw[hc]at ht;exact⟨_,rfl,rfl,by rw[ht];simp⟩)
  (λz ⟨z1,z2⟩=>by
   obtain⟨i,out⟩:=z;simp only at z1 z2;subst z1 z2;exact⟨_,he _,by rw[take_length]⟩) (x:=(0,[])) ⟨rfl,rfl⟩
 exact h1
theorem Se {l:List tZ} (p:Int) (hn:l.length<=1000):f9 l p=some (zZ l p):=by
 unfold f9;rw[HT p hn (λz=>cG l p z.1 z.2) (λk hk out=>by
  show cG l p (k:Int) out=_;unfold cG;rw[ux (by omega),cT,ud hk,tN,u7 (by omega)];cases l[k].2.2.2.2<;>rfl) (λout=>by
  show cG l p (l.length:Int) out=_;unfold cG;rw[ui (by omega),cF])];rfl
theorem QM {l:List tZ} (p:Int) (hn:l.length<=1000):gk l p=some (zZ l p):=by
 unfold gk;rw[HT p hn (λz=>da l p z.1 z.2) (λk hk out=>by
  show da l p (k:Int) out=_;unfold da;rw[ux (by omega),cT,ud hk,tN,tN,tN,u7 (by omega)];cases l[k].2.2.2.2<;>rfl) (λout=>by
  show da l p (l.length:Int) out=_;unfold da;rw[ui (by omega),cF])];rfl
theorem Oh:∀k:Nat,k<6->tV (k:Int) 0 62=true/\tV (k:Int) 0 7=true:=by
 intro k hk;unfold tV;constructor<;>(rw[dT (by omega),dT (by omega)];rfl)
theorem TS (c:Int) {k:Nat} (hk:k<6):∃t,shr .i64 c (k:Int)=some t:=by
 unfold shr;rw[if_neg (by omega)];exact⟨_,rfl⟩
theorem TT (c:Int) {k:Nat} (hk:k<6):∃t,f0 c (k:Int)=some t/\gj c (k:Int)=some t:=by
 obtain⟨t,h⟩:=TS c hk;unfold f0 gj;rw[xt,AL,tN,tN,(Oh k hk).1,(Oh k hk).2,cT,cT,HM (by omega),h];exact⟨_,rfl,rfl⟩
theorem MR {n:Int} (h:tV n 0 1000000=true):∃r,bb n=some r/\cf n=some r/\tV r 0 1000000=true:=by
 unfold tV at h;simp only[aT,decide_eq_true_eq]at h;unfold bb cf tV min2;rw[uE (by omega) (by omega)];by_cases hn:n>=1000000
 · rw[dT hn,cT];refine⟨n,?_,rfl,?_⟩
   · simp only;split<;>first|rfl | (congr 1;omega)
   · simp only[aT,decide_eq_true_eq];omega
 · rw[dF hn,cF];refine⟨n+1,?_,rfl,?_⟩
   · simp only;split<;>first|rfl | (congr 1;omega)
   · simp only[aT,decide_eq_true_eq];omega
theorem yT.ok {b:tO} (h:yT b) (hv:yj (b.2.2.2.2.1,b.2.2.2.2.2.1) (b.2.2.1.length:Int)=true):v8 b=true:=by
 unfold v8;have h1:(List.range b.2.2.1.length).any (EC b.2.2.1)=false:=by
  rw[any_eq_false];intro k hk;have hk:=mem_range.1 hk
  unfold EC;simp[List.getElem?_eq_getElem hk,h.p _ (getElem_mem hk)]
 have h2:=h.name;rw[h1,h.id,h.f,hv,h.c,HS h,dF (show ¬(b.2.1.length:Int)>10 by omega)];rfl
theorem Tj {b:tO} (h:yT b):∃r,bE b=some r/\dc b=some r/\yT r/\r.2.2.1=b.2.2.1/\r.2.2.2.2.1=b.2.2.2.2.1/\r.2.2.2.2.2.1=b.2.2.2.2.2.1/\r.1=b.1/\r.2.1=b.2.1/\r.2.2.2.2.2.2.1=b.2.2.2.2.2.2.1/\r.2.2.2.2.2.2.2.1=b.2.2.2.2.2.2.2.1/\r.2.2.2.2.2.2.2.2.1=b.2.2.2.2.2.2.2.2.1/\r.2.2.2.2.2.2.2.2.2.1=b.2.2.2.2.2.2.2.2.2.1/\bb b.2.2.2.2.2.2.2.2.2.2=some r.2.2.2.2.2.2.2.2.2.2:=by
 have n6:=h.n6;have hc:=h.c
 unfold wC at hc;simp only[aT]at hc;obtain⟨v,v1,v2,v3⟩:=MR hc.2.2.2.2;obtain⟨c,_,c1,c2⟩:=RU b.1 (l:=b.2.2.1) (by omega);unfold bE dc;rw[v1,v2,c1,c2];simp only[tN];have hF:=Ti h.f
 obtain⟨d,d1,d2,F,hf,rfl⟩:=GT (step:=λz:Int×Int×List UInt8×Int×Int×Int×Int×Int×List tZ=>fa b (c:Int) z.1 z.2.1 z.2.2.1 z.2.2.2.1 z.2.2.2.2.1 z.2.2.2.2.2.1 z.2.2.2.2.2.2.1 z.2.2.2.2.2.2.2.1 z.2.2.2.2.2.2.2.2)
  (t:=λz:Int×Int×List UInt8×Int×Int×Int×Int×Int×List tZ=>gl b (c:Int) z.1 z.2.1 z.2.2.1 z.2.2.2.1 z.2.2.2.2.1 z.2.2.2.2.2.1 z.2.2.2.2.2.2.1 z.2.2.2.2.2.2.2.1 z.2.2.2.2.2.2.2.2)
  (λk z=>∃F:List tZ,F.Sublist b.2.2.2.1/\z=((k:Int),b.1,b.2.1,b.2.2.2.2.2.2.1,b.2.2.2.2.2.2.2.1,b.2.2.2.2.2.2.2.2.1,b.2.2.2.2.2.2.2.2.2.1,v,F)) b.2.2.1.length
  (λd=>∃F:List tZ,F.Sublist b.2.2.2.1/\d=(b.1,b.2.1,b.2.2.2.2.2.2.1,b.2.2.2.2.2.2.2.1,b.2.2.2.2.2.2.2.2.1,b.2.2.2.2.2.2.2.2.2.1,v,F))
  (λk z hk ⟨F,hf,e⟩=>by
   subst e;left;obtain⟨t,t1,t2⟩:=TT (c:Int) (show k<6 by omega);have hl:F.length<=1000:=by have:=hf.length_le;have:=hF.n;omega
   simp only;unfold fa gl;rw[ux (show (k:Int)<(b.2.2.1.length:Int) by omega),cT,cT,t1,t2,tN,tN,Se _ hl,QM _ hl,u7 (show k<9223372036854775807 by omega)];cases t with
   | true=>exact⟨_,rfl,rfl,F,hf,rfl⟩
   | false=>exact⟨_,rfl,rfl,zZ F (k:Int),List.Sublist.trans List.filter_sublist hf,rfl⟩)
  (λz ⟨F,hf,e⟩=>by
   subst e;simp only;unfold fa gl;rw[ui (show ¬(b.2.2.1.length:Int)<(b.2.2.1.length:Int) by omega),cF,cF];exact⟨_,rfl,rfl,F,hf,rfl⟩) (x:=(0,b.1,b.2.1,b.2.2.2.2.2.2.1,b.2.2.2.2.2.2.2.1,b.2.2.2.2.2.2.2.2.1,b.2.2.2.2.2.2.2.2.2.1,v,b.2.2.2.1)) ⟨_,List.Sublist.refl _,rfl⟩
 rw[d1,d2];refine⟨_,rfl,rfl,⟨h.id,h.name,h.n1,h.n6,h.p,(hF.sub hf).ok,?_,h.q,h.v,h.s,h.i,h.h⟩,rfl,rfl,rfl,rfl,rfl,rfl,rfl,rfl,rfl,rfl⟩;unfold wC;simp only[aT];exact⟨hc.1,hc.2.1,hc.2.2.1,hc.2.2.2.1,v3⟩
theorem Tk {b:tO} (h:yT b):∃r,bE b=some r/\dc b=some r/\yT r/\r.2.2.1=b.2.2.1/\r.2.2.2.2.1=b.2.2.2.2.1/\r.2.2.2.2.2.1=b.2.2.2.2.2.1:=by
 obtain⟨r,h1,h2,h3,h4,h5,h6,_⟩:=Tj h;exact⟨r,h1,h2,h3,h4,h5,h6⟩
theorem Pg {α:Type} [BEq α] [LawfulBEq α] (a b:α):(a==b)=(b==a):=by
 by_cases h:a=b
 · subst h;rfl
 · rw[beq_eq_false_iff_ne.2 h,beq_eq_false_iff_ne.2 (Ne.symm h)]

abbrev Sg:=Int×Int×Int×List UInt8×Int×Int×Int×Int×Int×List Pt×List tZ×List ua×List Int
abbrev To:=Int×List UInt8×Int×Int×Int×Int×Int
def Sh (c k:Int) (b:tO):Sg:=(c,k,b.1,b.2.1,b.2.2.2.2.2.2.1,b.2.2.2.2.2.2.2.1,b.2.2.2.2.2.2.2.2.1,b.2.2.2.2.2.2.2.2.2.1,b.2.2.2.2.2.2.2.2.2.2,b.2.2.1,b.2.2.2.1,b.2.2.2.2.1,b.2.2.2.2.2.1)
theorem Si {b:tO} (hb:yF M b) {l:List tQ} (hl:A9 M l) {k:Nat} (hk:k<l.length) (s:To) :
 ∃r:To⊕Sg,loop (λz=>dD b (k:Int) l[k] (l.take k) z.1 z.2.1 z.2.2.1 z.2.2.2.1 z.2.2.2.2.1 z.2.2.2.2.2.1 z.2.2.2.2.2.2.1 z.2.2.2.2.2.2.2) (0,s)=some r
  /\ loop (λz=>eG b l (k:Int) z.1 z.2.1 z.2.2.1 z.2.2.2.1 z.2.2.2.2.1 z.2.2.2.2.2.1 z.2.2.2.2.2.2.1 z.2.2.2.2.2.2.2) (0,s)=some r/\((r=.inl s/\∀j (hj:j<k),l[j].1≠l[k].1)\/(r=.inr (Sh 5 ((k+1:Nat):Int) b)/\∃j,∃hj:j<k,l[j].1=l[k].1)):=by
 obtain⟨a0,a1,a6,a7,a8,a9,a10⟩:=s;have hn:l.length<=1048576:=hl.1
 refine GT (λj z=>z=((j:Int),a0,a1,a6,a7,a8,a9,a10)/\∀i (hi:i<k),i<j->l[i].1≠l[k].1) k _ (λj z hj ⟨e,hne⟩=>?_) (λz ⟨e,hne⟩=>?_) ⟨rfl,λi _ hi=>absurd hi (Nat.not_lt_zero _)⟩
 · subst e;have ht:j<(l.take k).length:=by rw[length_take];omega
   have hg:(l.take k)[j]=l[j]:=List.getElem_take;have hw:∀i,i<l.length->∀(hi:i<l.length),l[i].1.length<9223372036854775807:=λi h1 h2=>by have:l[i].1.length<=1048576:=(hl.2 _ (getElem_mem h2)).1;omega
   have s1:az l[k].1 l[j].1=some (l[k].1==l[j].1):=D3 (hw j (by omega) (by omega));have s2:cl l[j].1 l[k].1=some (l[k].1==l[j].1):=by rw[Pg];exact D3 (hw k hk hk)
   simp only;unfold dD eG;rw[ux (show (j:Int)<((l.take k).length:Int) by omega),ux (show (j:Int)<(k:Int) by omega),cT,cT,ud ht,hg,ud (show j<l.length by omega),ud hk];simp only[tN,s1,s2];cases hb2:(l[k].1==l[j].1)with
   | true =>
    right;rw[z9 hb,xm hb];exact⟨_,rfl,by rw[u7 (show k<9223372036854775807 by omega)];rfl,.inr ⟨by rw[u7 (show k<9223372036854775807 by omega)];rfl,j,hj,(beq_iff_eq.1 hb2).symm⟩⟩
   | false =>
    left;refine⟨_,rfl,rfl,by rw[u7 (show j<9223372036854775807 by omega)],λi hi hij=>?_⟩;by_cases e:i=j
    · subst e;exact λe=>(beq_eq_false_iff_ne.1 hb2) e.symm
    · exact hne i hi (by omega)
 · subst e;have ht:(l.take k).length=k:=by rw[length_take];omega
   refine⟨.inl (a0,a1,a6,a7,a8,a9,a10),?_,?_,.inl ⟨rfl,λj hj=>hne j hj hj⟩⟩
   · show dD b _ _ _ _ _ _ _ _ _ _ _=_;unfold dD;rw[ht,ui (by omega),cF]
   · show eG b _ _ _ _ _ _ _ _ _ _=_;unfold eG;rw[ui (by omega),cF]
theorem un {α β:Type} {step:α->Option (α⊕β)} {x:α} {b:β} (h:step x=some (.inr b)):loop step x=some b:=yn (k:=1) (by rw[vc,h];rfl)
inductive D6 (b:tO):List tQ->tO->Prop
 | nil:D6 b [] b
 | snoc {l:List tQ} {y y':tO} {x:tQ}:D6 b l y->yT y->bU y x=some (y',0)->D6 b (l++[x]) y'
def PI (b:tO) (l:List tQ) (c:Int):Prop:=(v8 b=false/\c=3)\/(∃k y,∃hk:k<l.length,D6 b (l.take k) y/\yT y/\(((∃j,∃hj:j<k,l[j].1=l[k].1)/\c=5)\/∃y',bU y l[k]=some (y',c)))\/∃y,D6 b l y/\c=5
theorem Il {b:tO} (h:zl b) (hb:yF M b) {l:List tQ} (hl:A9 M l):∃r,cI b l=some r/\gv b l=some r/\yF M r.1/\(v8 b=true->yT r.1/\v8 r.1=true)/\((r.2.1=0/\r.2.2=0/\((l=[]/\r.1=b)\/∃y,D6 b l y/\yT y/\(∀i (hi:i<l.length),∀j (hj:j<i),l[j].1≠l[i].1)/\bE y=some r.1))\/(r.1=b/\r.2.1≠0/\1<=r.2.2/\r.2.2<=(l.length:Int)/\PI b l r.2.1)):=by
 have hn:l.length<=1048576:=hl.1;unfold cI gv;rw[z9 hb,xm hb,DM h,DN h];simp only[tN];by_cases h0:l=[]
 · subst h0;have e1:decide ((([]:List tQ).length:Int)>0)=false:=rfl
   have e2:((([]:List tQ).length:Int)==0)=true:=rfl;have e3:cond (!v8 b) (some false) (some false)=some false:=by cases v8 b<;>rfl
   rw[e1,e2,e3,cT];simp only[tN,cF];refine⟨_,rfl,(congrArg (λo=>Option.bind o _) (un (b:=.inl (0,[],0,0,0,0,0,b.1,b.2.1,b.2.2.2.2.2.2.1,b.2.2.2.2.2.2.2.1,b.2.2.2.2.2.2.2.2.1,b.2.2.2.2.2.2.2.2.2.1,b.2.2.2.2.2.2.2.2.2.2,[],[],[],[],b.2.2.1,b.2.2.2.1,b.2.2.2.2.1,b.2.2.2.2.2.1)) rfl)).trans rfl,hb,λhp=>⟨(HO h hp).sok,hp⟩,.inl ⟨rfl,rfl,.inl ⟨by first|trivial|rfl,rfl⟩⟩⟩
 · have hpos:0<l.length:=List.length_pos_iff.2 h0;rw[show ((l.length:Int)==0)=false from beq_eq_false_iff_ne.2 (by omega),dT (show (l.length:Int)>0 by omega)];cases hp:v8 b with
   | false=>exact⟨_,rfl,rfl,hb,λhp=>(by cases hp),.inr ⟨rfl,(by show (3:Int)≠0;decide),by show (1:Int)<=1;decide,by show (1:Int)<=_;omega,.inl ⟨hp,rfl⟩⟩⟩
   | true =>
    have hs0:=(HO h hp).sok;simp only[Bool.not_true,cF,tN];obtain⟨d,d1,d2,d3⟩:=GT (step:=λz:Int×Int×List UInt8×Int×Int×Int×Int×Int×Int×List UInt8×Int×Int×Int×Int×Int×List Pt×List tZ×List ua×List Int×List Pt×List tZ×List ua×List Int=>fi b l z.1 z.2.1 z.2.2.1 z.2.2.2.1 z.2.2.2.2.1 z.2.2.2.2.2.1 z.2.2.2.2.2.2.1 z.2.2.2.2.2.2.2.1 z.2.2.2.2.2.2.2.2.1 z.2.2.2.2.2.2.2.2.2.1 z.2.2.2.2.2.2.2.2.2.2.1 z.2.2.2.2.2.2.2.2.2.2.2.1 z.2.2.2.2.2.2.2.2.2.2.2.2.1 z.2.2.2.2.2.2.2.2.2.2.2.2.2.1 z.2.2.2.2.2.2.2.2.2.2.2.2.2.2.1 z.2.2.2.2.2.2.2.2.2.2.2.2.2.2.2.1 z.2.2.2.2.2.2.2.2.2.2.2.2.2.2.2.2.1 z.2.2.2.2.2.2.2.2.2.2.2.2.2.2.2.2.2.1 z.2.2.2.2.2.2.2.2.2.2.2.2.2.2.2.2.2.2.1 z.2.2.2.2.2.2.2.2.2.2.2.2.2.2.2.2.2.2.2.1 z.2.2.2.2.2.2.2.2.2.2.2.2.2.2.2.2.2.2.2.2.1 z.2.2.2.2.2.2.2.2.2.2.2.2.2.2.2.2.2.2.2.2.2.1 z.2.2.2.2.2.2.2.2.2.2.2.2.2.2.2.2.2.2.2.2.2.2)
     (t:=λz=>gu b l z.1 z.2.1 z.2.2.1 z.2.2.2.1 z.2.2.2.2.1 z.2.2.2.2.2.1 z.2.2.2.2.2.2.1 z.2.2.2.2.2.2.2.1 z.2.2.2.2.2.2.2.2.1 z.2.2.2.2.2.2.2.2.2.1 z.2.2.2.2.2.2.2.2.2.2.1 z.2.2.2.2.2.2.2.2.2.2.2.1 z.2.2.2.2.2.2.2.2.2.2.2.2.1 z.2.2.2.2.2.2.2.2.2.2.2.2.2.1 z.2.2.2.2.2.2.2.2.2.2.2.2.2.2.1 z.2.2.2.2.2.2.2.2.2.2.2.2.2.2.2.1 z.2.2.2.2.2.2.2.2.2.2.2.2.2.2.2.2.1 z.2.2.2.2.2.2.2.2.2.2.2.2.2.2.2.2.2.1 z.2.2.2.2.2.2.2.2.2.2.2.2.2.2.2.2.2.2.1 z.2.2.2.2.2.2.2.2.2.2.2.2.2.2.2.2.2.2.2.1 z.2.2.2.2.2.2.2.2.2.2.2.2.2.2.2.2.2.2.2.2.1 z.2.2.2.2.2.2.2.2.2.2.2.2.2.2.2.2.2.2.2.2.2.1 z.2.2.2.2.2.2.2.2.2.2.2.2.2.2.2.2.2.2.2.2.2.2)
     (λk z=>∃y:tO,(yT y/\D6 b (l.take k) y/\∀i (hi:i<l.length),i<k->∀j (hj:j<i),l[j].1≠l[i].1)/\z=((k:Int),0,[],0,0,0,0,0,y.1,y.2.1,y.2.2.2.2.2.2.1,y.2.2.2.2.2.2.2.1,y.2.2.2.2.2.2.2.2.1,y.2.2.2.2.2.2.2.2.2.1,y.2.2.2.2.2.2.2.2.2.2,[],[],[],[],y.2.2.1,y.2.2.2.1,y.2.2.2.2.1,y.2.2.2.2.2.1)) l.length
     (λd=>(∃y:tO,(yT y/\D6 b l y/\∀i (hi:i<l.length),∀j (hj:j<i),l[j].1≠l[i].1)/\d=.inl (0,[],0,0,0,0,0,y.1,y.2.1,y.2.2.2.2.2.2.1,y.2.2.2.2.2.2.2.1,y.2.2.2.2.2.2.2.2.1,y.2.2.2.2.2.2.2.2.2.1,y.2.2.2.2.2.2.2.2.2.2,[],[],[],[],y.2.2.1,y.2.2.2.1,y.2.2.2.2.1,y.2.2.2.2.2.1))\/∃c k:Int,c≠0/\1<=k/\k<=(l.length:Int)/\PI b l c/\d=.inr (Sh c k b))
     (λk z hk ⟨y,⟨hy,hst,hdi⟩,e⟩=>by
      subst e;obtain⟨r,r1,r2,r3⟩:=Si hb hl hk (0,[],0,0,0,0,0);have hc:cut l 0 (k:Int)=some (l.take k):=by rw[show (0:Int)=((0:Nat):Int)from rfl,yf (Nat.zero_le _) (by omega),drop_zero]
      simp only;unfold fi gu;rw[ux (show (k:Int)<(l.length:Int) by omega),cT,cT,ud hk,tN,hc,tN,r1,r2,tN,tN];rcases r3 with ⟨rfl,hnd⟩|⟨rfl,hdup⟩
      · obtain⟨q,q1,q2,q3,q4⟩:=Sd hy (hl.2 _ (getElem_mem hk)).1;have q1':bU (y.1,y.2.1,y.2.2.1,y.2.2.2.1,y.2.2.2.2.1,y.2.2.2.2.2.1,y.2.2.2.2.2.2.1,y.2.2.2.2.2.2.2.1,y.2.2.2.2.2.2.2.2.1,y.2.2.2.2.2.2.2.2.2.1,y.2.2.2.2.2.2.2.2.2.2) l[k]=some q:=q1
        have q2':eF (y.1,y.2.1,y.2.2.1,y.2.2.2.1,y.2.2.2.2.1,y.2.2.2.2.2.1,y.2.2.2.2.2.2.1,y.2.2.2.2.2.2.2.1,y.2.2.2.2.2.2.2.2.1,y.2.2.2.2.2.2.2.2.2.1,y.2.2.2.2.2.2.2.2.2.2) l[k]=some q:=q2;simp only[Sum.elim_inl,tN,q1',q2',z9 hb,xm hb,u7 (show k<9223372036854775807 by omega)];cases hq:(q.2 != 0)with
        | true =>
         right;exact⟨_,rfl,rfl,.inr ⟨q.2,((k+1:Nat):Int),bne_iff_ne.1 hq,by omega,by omega,.inr (.inl ⟨k,y,hk,hst,hy,.inr ⟨q.1,q1⟩⟩),rfl⟩⟩
        | false =>
         left;have hq0:q.2=0:=by simpa using hq
         refine⟨_,rfl,rfl,q.1,⟨q3,?_,λi hi hik j hj=>?_⟩,rfl⟩
         · rw[take_add_one,List.getElem?_eq_getElem hk];exact .snoc hst hy (by rw[q1,←hq0])
         · by_cases e:i=k
           · subst e;exact hnd j hj
           · exact hdi i hi (by omega) j hj
      · right;exact⟨_,rfl,rfl,.inr ⟨5,((k+1:Nat):Int),by decide,by omega,by omega,.inr (.inl ⟨k,y,hk,hst,hy,.inl ⟨hdup,rfl⟩⟩),rfl⟩⟩)
     (λz ⟨y,⟨hy,hst,hdi⟩,e⟩=>by
      subst e;simp only;unfold fi gu;rw[ui (show ¬(l.length:Int)<(l.length:Int) by omega),cF,cF];rw[take_length]at hst;exact⟨_,rfl,rfl,.inl ⟨y,⟨hy,hst,λi hi=>hdi i hi hi⟩,rfl⟩⟩) (x:=(0,0,[],0,0,0,0,0,b.1,b.2.1,b.2.2.2.2.2.2.1,b.2.2.2.2.2.2.2.1,b.2.2.2.2.2.2.2.2.1,b.2.2.2.2.2.2.2.2.2.1,b.2.2.2.2.2.2.2.2.2.2,[],[],[],[],b.2.2.1,b.2.2.2.1,b.2.2.2.2.1,b.2.2.2.2.2.1)) ⟨b,⟨hs0,.nil,λi _ hi=>absurd hi (Nat.not_lt_zero _)⟩,rfl⟩
    rw[d1,d2,tN,tN];rcases d3 with ⟨y,⟨hy,hst,hdi⟩,rfl⟩|⟨c,k,c0,k1,k2,hfl,rfl⟩
    · have n6:=hy.n6;have v6:=hy.v;have hq:=hy.q
      have t1:cJ (y.2.2.2.2.1,y.2.2.2.2.2.1) (y.2.2.1.length:Int)=some (yj (y.2.2.2.2.1,y.2.2.2.2.2.1) (y.2.2.1.length:Int)):=PA (v:=(y.2.2.2.2.1,y.2.2.2.2.2.1)) _ (by show y.2.2.2.2.1.length<_;omega) (by show y.2.2.2.2.2.1.length<_;omega);have t2:cR (y.2.2.2.2.1,y.2.2.2.2.2.1) (y.2.2.1.length:Int)=some (yj (y.2.2.2.2.1,y.2.2.2.2.2.1) (y.2.2.1.length:Int)):=PB (v:=(y.2.2.2.2.1,y.2.2.2.2.2.1)) _ (by show y.2.2.2.2.1.length<_;omega) (by show y.2.2.2.2.2.1.length<_;omega) hy.h
      simp only[Sum.elim_inl,t1,t2,tN];cases hv:yj (y.2.2.2.2.1,y.2.2.2.2.2.1) (y.2.2.1.length:Int)with
      | false=>exact⟨_,rfl,rfl,hb,λ_=>⟨hs0,hp⟩,.inr ⟨rfl,by show (5:Int)≠0;decide,by show (1:Int)<=(l.length:Int);omega,Int.le_refl _,.inr (.inr ⟨y,hst,rfl⟩)⟩⟩
      | true =>
       obtain⟨r,r1,r2,r3,r4,r5,r6⟩:=Tk hy;have r1':bE (y.1,y.2.1,y.2.2.1,y.2.2.2.1,y.2.2.2.2.1,y.2.2.2.2.2.1,y.2.2.2.2.2.2.1,y.2.2.2.2.2.2.2.1,y.2.2.2.2.2.2.2.2.1,y.2.2.2.2.2.2.2.2.2.1,y.2.2.2.2.2.2.2.2.2.2)=some r:=r1
       have r2':dc (y.1,y.2.1,y.2.2.1,y.2.2.2.1,y.2.2.2.2.1,y.2.2.2.2.2.1,y.2.2.2.2.2.2.1,y.2.2.2.2.2.2.2.1,y.2.2.2.2.2.2.2.2.1,y.2.2.2.2.2.2.2.2.2.1,y.2.2.2.2.2.2.2.2.2.2)=some r:=r2;simp only[Bool.not_true,cF,r1',r2',tN];exact⟨_,rfl,rfl,r3.le,λ_=>⟨r3,r3.ok (by rw[r4,r5,r6];exact hv)⟩,.inl ⟨rfl,rfl,.inr ⟨y,hst,hy,hdi,r1⟩⟩⟩
    · simp only[Sum.elim_inr];exact⟨_,rfl,rfl,hb,λ_=>⟨hs0,hp⟩,.inr ⟨rfl,c0,k1,k2,hfl⟩⟩

theorem vj.le {b:tO} (h:vj b):yF M b:=by
 obtain⟨v1,v2,v3,v4⟩:=h.vt.len;have h1:=h.name;have h2:=h.n6;have h3:=h.f12
 have v3':b.2.2.2.2.2.1.length=b.2.2.1.length:=v3;have v4':b.2.2.2.2.1.length<=6:=v4
 have hM:M=1048576:=rfl;exact⟨by omega,by omega,by omega,by omega,by omega⟩
def U4 (v:wJ):Prop:=(v.1=2->v.2.2.1=[]/\v.2.2.2=[])/\(v.1=4->v.2.1=0/\v.2.2.2=[])
def U5 (v:wJ):Prop:=v.2.2.1.length<=100/\v.2.2.2.length<=1000/\U4 v
def Sj (x:tQ):Prop:=x.1.length<=1000/\U5 x.2
theorem Sj.le {x:tQ} (h:Sj x):Bg M x:=by
 have hM:M=1048576:=rfl;obtain⟨h1,h2,h3,_⟩:=h;exact⟨by omega,by omega,by omega⟩
def B1 (n:Int):Int:=if n>2147483647 then 2147483647 else if n < -2147483648 then -2147483648 else n
theorem LI (n:Int):-2147483648<=B1 n/\B1 n<=2147483647:=by unfold B1;split<;>(try split)<;>omega
def vv (m:Int):List Int:=if tV m (-128) 127 then [m%256]else if tV m (-32768) 32767 then [m/256%256,m%256]else if tV m (-8388608) 8388607 then [m/65536%256,m/256%256,m%256]else [m/16777216%256,m/65536%256,m/256%256,m%256]
theorem w8 (x:Int):IntKind.u8.wrap x=x%256:=rfl
theorem fd (m:Int) {k:Int} (hk:0<=k):m.fdiv k=m/k:=Int.fdiv_eq_ediv_of_nonneg m hk
theorem ug {α β:Type} {step:α->Option (α⊕β)} {x y:α} {b:β} (h:step x=some (.inl y)) (k:loop step y=some b):loop step x=some b:=by
 obtain⟨n,hn⟩:=EX k;exact yn (k:=n+1) (by rw[vc,h];exact hn)
theorem Kq {n:Int} (hn:-9223372036854775808<=n/\n<=9223372036854775807):cq n=some (vv (B1 n)):=by
 unfold cq;have hc:max2 (-2147483648) (min2 n 2147483647)=B1 n:=by
  unfold max2 min2 B1;split<;>split<;>(try split)<;>(try split)<;>omega
 rw[hc];obtain⟨h1,h2⟩:=LI n;generalize B1 n=m at h1 h2;simp only;have a1:aC m 1=cond (!(tV m (-128) 127)) (some (.inl 2)) (some (.inr 1)):=by
  unfold aC;rw[show shl .i64 (-1) (tP ((tP (8*1))-1))=some (-128)from rfl,show shl .i64 1 (tP ((tP (8*1))-1))=some 128 from rfl];simp only[tN,xt];rw[show tP (128-1)=127 from rfl];cases tV m (-128) 127<;>rfl
 have a2:aC m 2=cond (!(tV m (-32768) 32767)) (some (.inl 3)) (some (.inr 2)):=by
  unfold aC;rw[show shl .i64 (-1) (tP ((tP (8*2))-1))=some (-32768)from rfl,show shl .i64 1 (tP ((tP (8*2))-1))=some 32768 from rfl];simp only[tN,xt];rw[show tP (32768-1)=32767 from rfl];cases tV m (-32768) 32767<;>rfl
 have a3:aC m 3=cond (!(tV m (-8388608) 8388607)) (some (.inl 4)) (some (.inr 3)):=by
  unfold aC;rw[show shl .i64 (-1) (tP ((tP (8*3))-1))=some (-8388608)from rfl,show shl .i64 1 (tP ((tP (8*3))-1))=some 8388608 from rfl];simp only[tN,xt];rw[show tP (8388608-1)=8388607 from rfl];cases tV m (-8388608) 8388607<;>rfl
 have a4:aC m 4=some (.inr 4):=rfl;have b3:∀out:List Int,out.length<=10->aw m 3 out=some (.inl (2,out++[m/16777216%256])):=λout ho=>by
  unfold aw;rw[show shr .i64 m (tP (8*3))=some (m.fdiv (2^24))from rfl,tN,u6 (by simp;omega),tN,w8,fd m (by decide)];rfl
 have b2:∀out:List Int,out.length<=10->aw m 2 out=some (.inl (1,out++[m/65536%256])):=λout ho=>by
  unfold aw;rw[show shr .i64 m (tP (8*2))=some (m.fdiv (2^16))from rfl,tN,u6 (by simp;omega),tN,w8,fd m (by decide)];rfl
 have b1:∀out:List Int,out.length<=10->aw m 1 out=some (.inl (0,out++[m/256%256])):=λout ho=>by
  unfold aw;rw[show shr .i64 m (tP (8*1))=some (m.fdiv (2^8))from rfl,tN,u6 (by simp;omega),tN,w8,fd m (by decide)];rfl
 have b0:∀out:List Int,out.length<=10->aw m 0 out=some (.inl (-1,out++[m%256])):=λout ho=>by
  unfold aw;rw[show shr .i64 m (tP (8*0))=some (m.fdiv (2^0))from rfl,tN,u6 (by simp;omega),tN,w8,fd m (by decide)];simp;rfl
 have be:∀out:List Int,aw m (-1) out=some (.inr out):=λout=>rfl;have c0:∀out:List Int,out.length<=9->loop (λz:Int×List Int=>aw m z.1 z.2) (0,out)=some (out++[m%256]):=λout ho=>ug (b0 out (by omega)) (un (be _))
 have c1:∀out:List Int,out.length<=8->loop (λz:Int×List Int=>aw m z.1 z.2) (1,out)=some (out++[m/256%256]++[m%256]):=λout ho=>ug (b1 out (by omega)) (c0 _ (by simp;omega));have c2:∀out:List Int,out.length<=7->loop (λz:Int×List Int=>aw m z.1 z.2) (2,out)=some (out++[m/65536%256]++[m/256%256]++[m%256]):=λout ho=>ug (b2 out (by omega)) (c1 _ (by simp;omega))
 have c3:∀out:List Int,out.length<=6->loop (λz:Int×List Int=>aw m z.1 z.2) (3,out)=some (out++[m/16777216%256]++[m/65536%256]++[m/256%256]++[m%256]):=λout ho=>ug (b3 out (by omega)) (c2 _ (by simp;omega));unfold vv;cases h8:tV m (-128) 127 with
 | true =>
  rw[h8]at a1;rw[un (step:=λz=>aC m z) a1,tN,show tP (1-1)=0 from rfl,c0 [] (by simp)];rfl
 | false =>
  rw[h8]at a1;cases h16:tV m (-32768) 32767 with
  | true =>
   rw[h16]at a2;rw[ug (step:=λz=>aC m z) a1 (un a2),tN,show tP (2-1)=1 from rfl,c1 [] (by simp)];rfl
  | false =>
   rw[h16]at a2;cases h24:tV m (-8388608) 8388607 with
   | true =>
    rw[h24]at a3;rw[ug (step:=λz=>aC m z) a1 (ug a2 (un a3)),tN,show tP (3-1)=2 from rfl,c2 [] (by simp)];rfl
   | false =>
    rw[h24]at a3;rw[ug (step:=λz=>aC m z) a1 (ug a2 (ug a3 (un a4))),tN,show tP (4-1)=3 from rfl,c3 [] (by simp)];rfl
theorem Fu {n a b:Int} (h:tV n a b=false):n<a\/n>b:=by
 unfold tV at h;simp only[Bool.and_eq_false_iff,decide_eq_false_iff_not]at h;omega
theorem we {n a b:Int} (h:tV n a b=true):a<=n/\n<=b:=by
 unfold tV at h;simp only[aT,decide_eq_true_eq]at h;omega
theorem DO {n:Int}:aV n=some (vv (B1 n)):=by
 unfold aV;have hc:aS n=some (B1 n):=by
  unfold aS B1;by_cases h1:n>2147483647
  · rw[dT h1,cT,if_pos h1]
  · rw[dF h1,cF,if_neg h1];by_cases h2:n < -2147483648
    · rw[dT h2,cT,if_pos h2]
    · rw[dF h2,cF,if_neg h2]
 rw[hc,tN];obtain⟨h1,h2⟩:=LI n;generalize B1 n=m at h1 h2;have st:∀(x:Int) (out:List Int),out.length<=10->bH x out=cond (tV x (-128) 127) (some (.inr out)) (some (.inl (x/256,x/256%256::out))):=λx out ho=>by
  unfold bH;have e:(cond (decide (x<(-128))) (some true) (some (decide (x>127))))=some (!(tV x (-128) 127)):=by
   unfold tV;by_cases h1:x < -128
   · rw[dT h1,cT,dF (show ¬x >= -128 by omega)];rfl
   · rw[dF h1,cF,dT (show x >= -128 by omega)];by_cases h2:x>127
     · rw[dT h2,dF (show ¬x<=127 by omega)];rfl
     · rw[dF h2,dT (show x<=127 by omega)];rfl
  rw[e,tN,u6 (by simp;omega),tN,w8,fd x (by decide)];cases tV x (-128) 127<;>rfl
 rw[w8];have goes:∀(x:Int) (out:List Int),out.length<=9->tV x (-128) 127=true->loop (λz:Int×List Int=>bH z.1 z.2) (x,out)=some out:=λx out ho h=>un (by show bH x out=_;rw[st x out (by omega),h];rfl)
 have more:∀(x:Int) (out r:List Int),out.length<=9->tV x (-128) 127=false->loop (λz:Int×List Int=>bH z.1 z.2) (x/256,x/256%256::out)=some r->loop (λz:Int×List Int=>bH z.1 z.2) (x,out)=some r:=λx out r ho h k=>ug (by show bH x out=_;rw[st x out (by omega),h];rfl) k;have Bo:∀(x a b:Int),a<=x->x<=b->tV x a b=true:=λx a b h1 h2=>by unfold tV;rw[dT h1,dT h2];rfl
 have outn:∀(x a b:Int),(x<a\/x>b)->tV x a b=false:=λx a b h=>by
  unfold tV;simp only[Bool.and_eq_false_iff,decide_eq_false_iff_not];omega
 unfold vv;cases h8:tV m (-128) 127 with
 | true=>rw[goes m _ (by simp) h8];rfl
 | false =>
  have k8:=Fu h8;cases h16:tV m (-32768) 32767 with
  | true =>
   have k16:=we h16;rw[more m _ _ (by simp) h8 (goes (m/256) _ (by simp) (Bo _ _ _ (by omega) (by omega)))];rfl
  | false =>
   have k16:=Fu h16;cases h24:tV m (-8388608) 8388607 with
   | true =>
    have k24:=we h24;rw[more m _ _ (by simp) h8 (more (m/256) _ _ (by simp) (outn _ _ _ (by omega)) (goes (m/256/256) _ (by simp) (Bo _ _ _ (by omega) (by omega))))];rw[show m/256/256=m/65536 by omega];rfl
   | false =>
    have k24:=Fu h24;rw[more m _ _ (by simp) h8 (more (m/256) _ _ (by simp) (outn _ _ _ (by omega)) (more (m/256/256) _ _ (by simp) (outn _ _ _ (by omega)) (goes (m/256/256/256) _ (by simp) (Bo _ _ _ (by omega) (by omega)))))];rw[show m/256/256=m/65536 by omega,show m/65536/256=m/16777216 by omega];rfl

def xa (b:List Int):Prop:=∀x∈b,0<=x/\x<=255
def uR (t:Int) (body:List Int):List Int:=t::((if body.length>=128 then [129,(body.length:Int)]else [(body.length:Int)])++body)
theorem MT (t:Int) {body:List Int} (hn:body.length<=M):bQ t body=some (if tV t 0 255=true/\body.length<=250 then (uR t body,true)else ([],false)):=by
 have hn':body.length<=1048576:=hn;unfold bQ;rw[xt,tN];cases ht:tV t 0 255 with
 | false=>rw[if_neg (by simp)];rfl
 | true =>
  obtain⟨t1,t2⟩:=we ht;rw[Bool.not_true,cF,tN];by_cases h:(body.length:Int)>250
  · rw[dT h,cT,if_neg (by omega)]
  · rw[dF h,cF,if_pos ⟨rfl,by omega⟩];unfold uR;have e1:IntKind.u8.wrap t=t:=by rw[w8];omega
    have e2:IntKind.u8.wrap (body.length:Int)=(body.length:Int):=by rw[w8];omega
    by_cases h8:(body.length:Int)>=128
    · rw[dT h8,cT,u6 (by simp),tN,u6 (by simp),tN,u6 (by simp;omega),tN,if_pos (by omega),e1,e2];rfl
    · rw[dF h8,cF,u6 (by simp),tN,u6 (by simp;omega),tN,if_neg (by omega),e1,e2];rfl
theorem Kr {b:List Int} (t:Int) {body:List Int} (hb:b.length<=1000) (hn:body.length<=M):aO b t body=some (b++if tV t 0 255=true/\body.length<=250 then uR t body else []):=by
 unfold aO;have hM:M=1048576:=rfl
 rw[MT t hn,tN,D4 (by omega),tN];split
 · next h =>
   have:(uR t body).length<=300:=by unfold uR;split<;>simp<;>omega
   rw[u6 (by show b.length+(uR t body).length<=_;omega)];rfl
 · rw[u6 (by show b.length+0<=_;omega)];rfl
theorem DP {α:Type} (pre l:List α) (j:Nat):at? (pre++l) ((pre.length+j:Nat):Int)=at? l (j:Int):=by
 unfold at?;rw[if_pos (by omega),if_pos (by omega),Int.toNat_natCast,Int.toNat_natCast,List.getElem?_append_right (by omega),Nat.add_sub_cancel_left]
theorem LJ {α:Type} (pre l:List α) (i j:Nat) (h:i<=j) (hj:j<=l.length):cut (pre++l) ((pre.length+i:Nat):Int) ((pre.length+j:Nat):Int)=some ((l.take j).drop i):=by
 rw[yf (by omega) (by rw[length_append];omega),List.take_append,List.take_of_length_le (by omega),List.drop_append,List.drop_of_length_le (by omega),Nat.add_sub_cancel_left,Nat.add_sub_cancel_left,List.nil_append]
structure zB (b:List Int) (at':Int) (t:Int) (body:List Int) (next:Int):Prop where
 ex:∃pre rest,b=pre++(uR t body++rest)/\at'=(pre.length:Int)/\next=((pre.length+(uR t body).length:Nat):Int)
 n:body.length<=250
 t:tV t 0 255=true
 b:xa body
theorem HU {b:List Int} (hb:xa b) (hn:b.length<=M) {i:Int} (hi:-9223372036854775808<=i/\i<=9223372036854775807):∃r,bM b i=some r/\cg b i=some r/\(r=(0,[],0,false)\/∃t body next,r=(t,body,next,true)/\zB b i t body next):=by
 have hn':b.length<=1048576:=hn;unfold bM cg;rw[uE (show -9223372036854775808<=(b.length:Int)-2 by omega) (by omega)];by_cases h0:i<0
 · rw[dT h0];exact⟨_,rfl,rfl,.inl rfl⟩
 rw[dF h0];by_cases h1:i>(b.length:Int)-2
 · rw[dT h1];by_cases h2:i>=(b.length:Int)
   · rw[dT h2];exact⟨_,rfl,rfl,.inl rfl⟩
   · rw[dF h2,uE (by omega) (by omega),dT (show i+1>=(b.length:Int) by omega)];exact⟨_,rfl,rfl,.inl rfl⟩
 rw[dF h1,dF (show ¬i>=(b.length:Int) by omega),uE (show -9223372036854775808<=i+1 by omega) (by omega),dF (show ¬i+1>=(b.length:Int) by omega),uE (show -9223372036854775808<=i+2 by omega) (by omega)];simp only[cF,tN];obtain⟨k,rfl⟩:∃k:Nat,i=(k:Int):=⟨i.toNat,by omega⟩;have hk:k+1<b.length:=by omega
 obtain⟨pre,t,n0,rest,rfl,hp⟩:∃pre t n0 rest,b=pre++(t::n0::rest)/\pre.length=k:=by
  refine⟨b.take k,b[k],b[k+1],b.drop (k+2),?_,by rw[length_take];omega⟩;have h1:=take_append_drop k b
  rw[drop_eq_getElem_cons (by omega),drop_eq_getElem_cons (by omega)]at h1;exact h1.symm
 subst hp;have ht:0<=t/\t<=255:=hb t (by simp)
 have hn0:0<=n0/\n0<=255:=hb n0 (by simp);have hr:xa rest:=λx hx=>hb x (by simp[hx])
 have hlen:(pre++(t::n0::rest)).length=pre.length+(rest.length+2):=by simp
 have e0:at? (pre++(t::n0::rest)) (pre.length:Int)=some t:=by have:=DP pre (t::n0::rest) 0;rw[Nat.add_zero]at this;rw[this];rfl
 have e1:at? (pre++(t::n0::rest)) ((pre.length:Int)+1)=some n0:=by have:=DP pre (t::n0::rest) 1;rw[show ((pre.length:Int)+1)=((pre.length+1:Nat):Int) by omega,this];rfl
 have e2:at? (pre++(t::n0::rest)) ((pre.length:Int)+2)=at? rest 0:=by
  have:=DP pre (t::n0::rest) 2;rw[show ((pre.length:Int)+2)=((pre.length+2:Nat):Int) by omega,this];unfold at?;simp
 have wt:tP t=t:=uE (by omega) (by omega);have wn:tP n0=n0:=uE (by omega) (by omega)
 have pt:tV t 0 255=true:=by unfold tV;rw[dT ht.1,dT ht.2];rfl
 rw[hlen]at hn';rw[hlen,e0,e1,e2];simp only[tN,wt,wn];by_cases h8:n0>=128
 · rw[dT h8,dT (show n0>127 by omega)];simp only[cT];by_cases h9:n0=129
   · subst h9;simp only[show ((129:Int) != 129)=false from rfl,cF,tN];cases rest with
     | nil =>
      rw[dT (show (pre.length:Int)+2>=((pre.length+(([]:List Int).length+2):Nat):Int) by simp)];exact⟨_,rfl,rfl,.inl rfl⟩
     | cons n1 r =>
      have hn1:0<=n1/\n1<=255:=hr n1 (by simp);have wn1:tP n1=n1:=uE (by omega) (by omega)
      rw[length_cons]at hn' ⊢;rw[dF (show ¬(pre.length:Int)+2>=((pre.length+(r.length+1+2):Nat):Int) by omega)];simp only[cF,tN,show at? (n1::r) 0=some n1 from rfl,wn1];by_cases h10:n1<128
      · rw[dT h10];exact⟨_,rfl,rfl,.inl rfl⟩
      rw[dF h10,uE (show -9223372036854775808<=(pre.length:Int)+2+1 by omega) (by omega),uE (show -9223372036854775808<=((pre.length+(r.length+1+2):Nat):Int)-((pre.length:Int)+2+1) by omega) (by omega)];simp only[cF];by_cases h11:n1>250
      · rw[dT h11];exact⟨_,rfl,rfl,.inl rfl⟩
      rw[dF h11];simp only[cF,tN];by_cases h12:n1>((pre.length+(r.length+1+2):Nat):Int)-((pre.length:Int)+2+1)
      · rw[dT h12];exact⟨_,rfl,rfl,.inl rfl⟩
      rw[dF h12];simp only[cF];obtain⟨m,rfl⟩:∃m:Nat,n1=(m:Int):=⟨n1.toNat,by omega⟩;have hcut:cut (pre++(t::129::(m:Int)::r)) ((pre.length:Int)+2+1) (tP ((pre.length:Int)+2+1+(m:Int)))=some (r.take m):=by
       rw[uE (by omega) (by omega),show (pre.length:Int)+2+1+(m:Int)=((pre.length+(3+m):Nat):Int) by omega,show (pre.length:Int)+2+1=((pre.length+3:Nat):Int) by omega,LJ _ _ _ _ (by omega) (by simp;omega)];simp[Nat.add_comm 3 m]
      have hl:(r.take m).length=m:=by rw[length_take];omega
      rw[hcut,tN,tN,D4 (by show _<=1048576;omega),xk (by show _<=1048576;omega),tN];refine⟨_,rfl,rfl,.inr ⟨t,r.take m,tP ((pre.length:Int)+2+1+(m:Int)),rfl,⟨pre,r.drop m,?_,rfl,?_⟩,by omega,pt,λx hx=>hr x (mem_cons_of_mem _ (List.mem_of_mem_take hx))⟩⟩
      · unfold uR;rw[hl,if_pos (by omega)];simp
      · unfold uR;rw[hl,if_pos (by omega),uE (by omega) (by omega)];simp only[length_cons,length_append,length_nil,hl];omega
   · rw[bne_iff_ne.2 h9];exact⟨_,rfl,rfl,.inl rfl⟩
 · rw[dF h8,dF (show ¬n0>127 by omega)];simp only[cF];rw[dF (show ¬n0>250 by omega),uE (show -9223372036854775808<=((pre.length+(rest.length+2):Nat):Int)-((pre.length:Int)+2) by omega) (by omega)];simp only[cF,tN];by_cases h12:n0>((pre.length+(rest.length+2):Nat):Int)-((pre.length:Int)+2)
   · rw[dT h12];exact⟨_,rfl,rfl,.inl rfl⟩
   rw[dF h12];simp only[cF];obtain⟨m,rfl⟩:∃m:Nat,n0=(m:Int):=⟨n0.toNat,by omega⟩;have hcut:cut (pre++(t::(m:Int)::rest)) ((pre.length:Int)+2) (tP ((pre.length:Int)+2+(m:Int)))=some (rest.take m):=by
    rw[uE (by omega) (by omega),show (pre.length:Int)+2+(m:Int)=((pre.length+(2+m):Nat):Int) by omega,show (pre.length:Int)+2=((pre.length+2:Nat):Int) by omega,LJ _ _ _ _ (by omega) (by simp;omega)];simp[Nat.add_comm 2 m]
   have hl:(rest.take m).length=m:=by rw[length_take];omega
   rw[hcut,tN,tN,D4 (by show _<=1048576;omega),xk (by show _<=1048576;omega),tN];refine⟨_,rfl,rfl,.inr ⟨t,rest.take m,tP ((pre.length:Int)+2+(m:Int)),rfl,⟨pre,rest.drop m,?_,rfl,?_⟩,by omega,pt,λx hx=>hr x (List.mem_of_mem_take hx)⟩⟩
   · unfold uR;rw[hl,if_neg (by omega)];simp
   · unfold uR;rw[hl,if_neg (by omega),uE (by omega) (by omega)];simp only[length_cons,length_append,length_nil,hl];omega

end Go.V.W
