/- The law FnExactWorkAll: part of the proof that for every input it returns true. No condition. -/
import Derived.KernelRfl
import Derived.Test.YthcdcolihokdmaaGreatFnExactWorkAll
import Derived.Test.YthcdcolihokdmaaGreatFnExactWorkAllM
open List (any_eq_false any_eq_true append_assoc cons_lt_cons_iff drop_eq_getElem_cons drop_zero getElem_mem getElem_of_mem length_append length_cons length_drop length_map length_nil length_set length_take map_append mem_append mem_cons mem_cons_of_mem mem_flatMap mem_map mem_range not_mem_nil pairwise_append pairwise_cons range_succ take_add_one take_append_drop take_length take_succ_cons)
set_option linter.unusedVariables false
set_option linter.unusedSimpArgs false
namespace Go.V.W
theorem tP {α β:Type} (a:α) (f:α->Option β):(some a).bind f=f a:=rfl
abbrev zA:Type:=AM
abbrev M:Nat:=1048576
abbrev In (left:Int):Prop:=0<=left/\left<=1048576
theorem In.next {left r:Int} (h:In left) (h1:0<=r) (h2:r<=left):In r:=⟨h1,by have:=h.2;omega⟩
theorem xO {n:Nat} (h:n<=M):n<=4294967295:=Nat.le_trans h (by decide)
theorem Kh {a:List Int} {left:Int} (hl:In left) (h:a.length<=maxLen):xa left (eN a left) (a.length<=M):=AK hl h
theorem Qi {a:List Int} {left:Int} (hl:In left) (h:a.length<=maxLen):xa left (iC a left) (a.length<=M):=AK hl h
theorem SS {a:List Pt} {left:Int} (hl:In left) (h:a.length<=maxLen):xa left (iy a left) (a.length<=M):=AK hl h
theorem Qj {a:List u0} {left:Int} (hl:In left) (h:a.length<=maxLen):xa left (iz a left) (a.length<=M):=AK hl h
theorem Qk {a:List ub} {left:Int} (hl:In left) (h:a.length<=maxLen):xa left (iA a left) (a.length<=M):=AK hl h
theorem RL {a:vi} {left:Int} (hl:In left) (h:a.1.length<=maxLen/\a.2.length<=maxLen):xa left (iB a left) (a.1.length<=M/\a.2.length<=M/\True) :=
 wD (Qk hl h.1) λr h1 h2=>wD (Kh (hl.next h1 h2) h.2) λr h1 h2=>zx h1
def yH (n:Nat) (b:tQ):Prop:=b.2.1.length<=n/\b.2.2.1.length<=n/\b.2.2.2.1.length<=n/\b.2.2.2.2.1.length<=n/\b.2.2.2.2.2.1.length<=n
theorem Ki {b:tQ} {left:Int} (hl:In left) (h:yH maxLen b):xa left (gF b left) (yH M b):=by
 obtain⟨h1,h2,h3,h4,h5⟩:=h;refine zy (Ca hl h1 λr k1 k2=>wD (SS (hl.next k1 k2) h2) λr' k3 k4=>wD (Qj ((hl.next k1 k2).next k3 k4) h3) λr'' k5 k6=>wD (RL (a:=(b.2.2.2.2.1,b.2.2.2.2.2.1)) (((hl.next k1 k2).next k3 k4).next k5 k6) ⟨h4,h5⟩) λr3 k7 k8=>zx k7) ?_;rintro⟨a1,a2,a3,⟨a4,a5,_⟩,_⟩;exact⟨a1,a2,a3,a4,a5⟩
def LH (n:Nat) (v:wN):Prop:=v.2.2.1.length<=n/\v.2.2.2.length<=n
theorem ST {v:wN} {left:Int} (hl:In left) (h:LH maxLen v):xa left (iD v left) (LH M v) :=
 zy (Ca hl h.1 λr k1 k2=>wD (Kh (hl.next k1 k2) h.2) λr' k3 k4=>zx k3) λ⟨a,b,_⟩=>⟨a,b⟩
def Bm (n:Nat) (x:tS):Prop:=x.1.length<=n/\LH n x.2
theorem RM {x:tS} {left:Int} (hl:In left) (h:Bm maxLen x):xa left (gG x left) (Bm M x) :=
 zy (wD (Kh hl h.1) λr k1 k2=>wD (ST (hl.next k1 k2) h.2) λr' k3 k4=>zx k3) λ⟨a,b,_⟩=>⟨a,b⟩
def Aa (n:Nat) (l:List tS):Prop:=l.length<=n/\∀x∈l,Bm n x
theorem Ql {l:List tS} {left:Int} (hl:In left) (h:Aa maxLen l):xa left (iE l left) (Aa M l):=by
 have hn:l.length<=9223372036854775807:=h.1;show xa left (let l1:=tR (left-(l.length:Int));cond (decide (l1<0)) (some (-1)) ((loop (λz=>nD l z.1 z.2) (l1,0)).bind (Sum.elim (λd=>some d) (λr=>some r)))) _
 by_cases hle:l.length<=M
 · exact zy (Ca hl h.1 λr k1 k2=>IW (f:=gG) (Q:=Bm M) (λx hx l' h1 h2=>RM ⟨h1,h2⟩ (h.2 x hx)) (xO hle) (hl.next k1 k2)) λ⟨a,b⟩=>⟨a,b⟩
 · refine⟨-1,?_,.inl rfl⟩;show cond (decide (tR (left-(l.length:Int))<0)) _ _=_
   have:M<l.length:=by omega
   have hM:(1048576:Int)<(l.length:Int):=by have:1048576<l.length:=this;omega
   have:=hl.2;rw[uS (by omega) (by omega),ux (by omega),cT]
def wo (n:Nat) (p:uq):Prop:=Aa n p.2.2.2.2
theorem SU {p:uq} {left:Int} (hl:In left) (h:wo maxLen p):xa left (iF p left) (wo M p) :=
 zy (wD (Ql hl h) λr k1 k2=>zx k1) λ⟨a,_⟩=>a
def jP (j:ut):uq:=(j.2.2.2.1,j.2.2.2.2.1,j.2.2.2.2.2.1,j.2.2.2.2.2.2.1,j.2.2.2.2.2.2.2.1)
def jB (a0:ut):tQ:=(a0.2.2.2.2.2.2.2.2.1,a0.2.2.2.2.2.2.2.2.2.1,a0.2.2.2.2.2.2.2.2.2.2.1,a0.2.2.2.2.2.2.2.2.2.2.2.1,a0.2.2.2.2.2.2.2.2.2.2.2.2.1,a0.2.2.2.2.2.2.2.2.2.2.2.2.2.1,a0.2.2.2.2.2.2.2.2.2.2.2.2.2.2.1,a0.2.2.2.2.2.2.2.2.2.2.2.2.2.2.2.1,a0.2.2.2.2.2.2.2.2.2.2.2.2.2.2.2.2.1,a0.2.2.2.2.2.2.2.2.2.2.2.2.2.2.2.2.2.1,a0.2.2.2.2.2.2.2.2.2.2.2.2.2.2.2.2.2.2.1)
def Gq (n:Nat) (j:ut):Prop:=j.2.1.length<=n/\wo n (jP j)/\yH n (jB j)
theorem SV {j:ut} {left:Int} (hl:In left) (h:Gq maxLen j):xa left (gH j left) (Gq M j) :=
 zy (wD (Qi hl h.1) λr k1 k2=>wD (SU (p:=jP j) (hl.next k1 k2) h.2.1) λr' k3 k4=>wD (Ki (b:=jB j) ((hl.next k1 k2).next k3 k4) h.2.2) λr'' k5 k6=>zx k5) λ⟨a,b,c,_⟩=>⟨a,b,c⟩
def Kj (n:Nat) (l:List ut):Prop:=l.length<=n/\∀x∈l,Gq n x
theorem RN {l:List ut} {left:Int} (hl:In left) (h:Kj maxLen l):xa left (iG l left) (Kj M l):=by
 have hn:l.length<=9223372036854775807:=h.1;show xa left (let l1:=tR (left-(l.length:Int));cond (decide (l1<0)) (some (-1)) ((loop (λz=>nH l z.1 z.2) (l1,0)).bind (Sum.elim (λd=>some d) (λr=>some r)))) _
 by_cases hle:l.length<=M
 · exact zy (Ca hl h.1 λr k1 k2=>IW (f:=gH) (Q:=Gq M) (λx hx l' h1 h2=>SV ⟨h1,h2⟩ (h.2 x hx)) (xO hle) (hl.next k1 k2)) λ⟨a,b⟩=>⟨a,b⟩
 · refine⟨-1,?_,.inl rfl⟩;show cond (decide (tR (left-(l.length:Int))<0)) _ _=_
   have:M<l.length:=by omega
   have hM:(1048576:Int)<(l.length:Int):=by have:1048576<l.length:=this;omega
   have:=hl.2;rw[uS (by omega) (by omega),ux (by omega),cT]
def aB (a0:ue):tQ:=(a0.1,a0.2.1,a0.2.2.1,a0.2.2.2.1,a0.2.2.2.2.1,a0.2.2.2.2.2.1,a0.2.2.2.2.2.2.1,a0.2.2.2.2.2.2.2.1,a0.2.2.2.2.2.2.2.2.1,a0.2.2.2.2.2.2.2.2.2.1,a0.2.2.2.2.2.2.2.2.2.2.1)
def Bu (n:Nat) (a:ue):Prop:=yH n (aB a)/\a.2.2.2.2.2.2.2.2.2.2.2.1.length<=n/\Kj n a.2.2.2.2.2.2.2.2.2.2.2.2.1
theorem Qm {a:ue} {left:Int} (hl:In left) (h:Bu maxLen a):xa left (il a left) (Bu M a) :=
 zy (wD (Ki (b:=aB a) hl h.1) λr k1 k2=>Ca (hl.next k1 k2) h.2.1 λr' k3 k4=>wD (RN ((hl.next k1 k2).next k3 k4) h.2.2) λr'' k5 k6=>zx k5) λ⟨a,b,c,_⟩=>⟨a,b,c⟩
theorem Kk {a:List Int} (h:a.length<=M):eO a=some a:=Cb (xO h) (K5 (xO h) 0)
theorem Qn {a:List Int} (h:a.length<=M):iN a=some a:=Cb (xO h) (K5 (xO h) 0)
theorem SW {a:List Pt} (h:a.length<=M):iI a=some a:=Cb (xO h) (BM (f:=iH) (λ_ _=>rfl) (xO h) _)
theorem Qo {a:List u0} (h:a.length<=M):iK a=some a:=Cb (xO h) (BM (f:=iJ) (λ_ _=>rfl) (xO h) _)
theorem Qp {a:List ub} (h:a.length<=M):iM a=some a:=Cb (xO h) (BM (f:=iL) (λ_ _=>rfl) (xO h) _)
theorem RO {a:vi} (h:a.1.length<=M/\a.2.length<=M):gI a=some a:=by
 unfold gI;rw[Qp h.1,tP,Kk h.2,tP]
theorem Kl {b:tQ} (h:yH M b):eP b=some b:=by
 obtain⟨h1,h2,h3,h4,h5⟩:=h;unfold eP;rw[SW h2,tP,Qo h3,tP,RO ⟨h4,h5⟩,tP]
theorem SX {v:wN} (h:LH M v):gJ v=some v:=by
 unfold gJ;rw[Kk h.2,tP]
theorem RP {x:tS} (h:Bm M x):eQ x=some x:=by
 unfold eQ;rw[Kk h.1,tP,SX h.2,tP]
theorem Qq {l:List tS} (h:Aa M l):iO l=some l:=Cb (xO h.1) (BM (f:=eQ) (λx hx=>RP (h.2 x hx)) (xO h.1) _)
theorem SY {p:uq} (h:wo M p):eR p=some p:=by
 unfold eR;rw[Qq h,tP]
theorem SZ {j:ut} (h:Gq M j):eS j=some j:=by
 unfold eS;rw[Qn h.1,tP,show eR (j.2.2.2.1,j.2.2.2.2.1,j.2.2.2.2.2.1,j.2.2.2.2.2.2.1,j.2.2.2.2.2.2.2.1)=some (jP j)from SY h.2.1,tP];have:=Kl h.2.2
 unfold jB at this;rw[this,tP];rfl
theorem RQ {l:List ut} (h:Kj M l):iP l=some l:=Cb (xO h.1) (BM (f:=eS) (λx hx=>SZ (h.2 x hx)) (xO h.1) _)
theorem Qr {a:ue} (h:Bu M a):ce a=some a:=by
 unfold ce;have:=Kl h.1
 unfold aB at this;rw[this,tP,RQ h.2.2,tP]
theorem T0 (v:zz):gK v v=some true:=by unfold gK;simp
theorem TL (v:Pt):eT v v=some true:=by unfold eT;simp[T0]
theorem RR (v:u0):eU v v=some true:=by unfold eU;simp
theorem RS (v:ub):eV v v=some true:=by unfold eV;simp
theorem Km {a:List Int} (h:a.length<=M):dp a a=some true:=zZ (Ei (xO h))
theorem Qs {a:List Int} (h:a.length<=M):gM a a=some true:=zZ (Ei (xO h))
theorem T1 {a:List Pt} (h:a.length<=M):iQ a a=some true:=zZ (B0 (g:=eT) (λx _=>TL x) (xO h))
theorem Qt {a:List u0} (h:a.length<=M):iR a a=some true:=zZ (B0 (g:=eU) (λx _=>RR x) (xO h))
theorem Qu {a:List ub} (h:a.length<=M):iS a a=some true:=zZ (B0 (g:=eV) (λx _=>RS x) (xO h))
theorem RT {a:vi} (h:a.1.length<=M/\a.2.length<=M):gL a a=some true:=by
 unfold gL;simp[Qu h.1,Km h.2]
theorem Kn {b:tQ} (h:yH M b):dv b b=some true:=by
 obtain⟨h1,h2,h3,h4,h5⟩:=h;unfold dv;simp[T1 h2,Qt h3,RT (a:=(b.2.2.2.2.1,b.2.2.2.2.2.1)) ⟨h4,h5⟩]
theorem T2 {v:wN} (h:LH M v):eW v v=some true:=by
 unfold eW;simp[Km h.2]
theorem RU {x:tS} (h:Bm M x):dq x x=some true:=by
 unfold dq;simp[Km h.1,T2 h.2]
theorem Qv {l:List tS} (h:Aa M l):gN l l=some true:=zZ (B0 (g:=dq) (λx hx=>RU (h.2 x hx)) (xO h.1))
theorem PD {p:uq} (h:wo M p):dt p p=some true:=by
 unfold dt;simp[Qv (l:=p.2.2.2.2) h]
theorem T3 {j:ut} (h:Gq M j):du j j=some true:=by
 have h2:=PD h.2.1;have h3:=Kn h.2.2
 unfold jP at h2;unfold jB at h3;unfold du;simp[Qs h.1,h2,h3]
theorem RV {l:List ut} (h:Kj M l):gO l l=some true:=zZ (B0 (g:=du) (λx hx=>T3 (h.2 x hx)) (xO h.1))
theorem LI {a:ue} (h:Bu M a):bK a a=some true:=by
 have h1:=Kn h.1;unfold aB at h1;unfold bK;simp[h1,RV h.2.2]

theorem HR {α β:Type} {f g:α->Option (α⊕β)} (uE:α->Prop) (h:∀x,uE x->f x=g x) (hi:∀x y,uE x->f x=some (.inl y)->uE y) {x:α} (h0:uE x):loop f x=loop g x:=by
 have key:∀k x,uE x->wY f k x=wY g k x:=by
  intro k
  induction k with
  | zero=>intro x _;rfl
  | succ k ih =>
   intro x hx;rw[vg,vg,←h x hx];cases hf:f x with
   | none=>rfl
   | some v=>cases v with
    | inl y=>exact ih y (hi x y hx hf)
    | inr b=>rfl
 have hex:(∃k,(wY f k x).isSome)↔∃k,(wY g k x).isSome:=by
  constructor<;>rintro⟨k,hk⟩<;>exact⟨k,by first|rwa [←key k x h0]|rwa [key k x h0]⟩
 by_cases hc:∃k,(wY f k x).isSome
 · obtain⟨k,hk⟩:=hc;cases hv:wY f k x with
   | none=>rw[hv]at hk;cases hk
   | some b=>rw[yq hv,yq ((key k x h0)▸hv)]
 · have hc':¬ ∃k,(wY g k x).isSome:=λh=>hc (hex.2 h);unfold loop;rw[dif_neg hc,dif_neg hc']
theorem wz {α β:Type} {f g:α->Option (α⊕β)} (h:∀x,f x=g x) (x:α):loop f x=loop g x:=by rw[funext h]
def tX (x a b:Int):Bool:=decide (x>=a)&&decide (x<=b)
theorem xx (x a b:Int):aa x a b=some (tX x a b):=by
 unfold aa tX;cases decide (x>=a)<;>rfl
theorem AP (x a b:Int):ac x a b=some (tX x a b):=xx x a b
def Ko (v:zz):Bool:=tX v.1 1 99&&(tX v.2.1 0 100000&&(tX v.2.2.1 0 10&&(tX v.2.2.2.1 1 99&&tX v.2.2.2.2 0 7)))
theorem P6 (v:zz):cf v=some (Ko v):=by
 unfold cf Ko;simp only[xx,tP];cases tX v.1 1 99<;>cases tX v.2.1 0 100000<;>cases tX v.2.2.1 0 10<;>cases tX v.2.2.2.1 1 99<;>rfl
theorem TM:dJ=cf:=rfl
def EJ (p:Pt):Bool:=tX p.2.1 1 1000&&(!(p.2.2.1&&!p.1)&&(cond p.2.2.1 (Ko p.2.2.2) (p.2.2.2.1==0&&(p.2.2.2.2.1==0&&(p.2.2.2.2.2.1==0&&(p.2.2.2.2.2.2.1==0&&(p.2.2.2.2.2.2.2==0)))))))
theorem Ua (p:Pt):em p=some (EJ p):=by
 obtain⟨up,cost,heard,v⟩:=p;unfold em EJ;simp only[xx,P6,tP];cases tX cost 1 1000<;>cases up<;>cases heard<;>rfl
theorem Ub (p:Pt):dK p=some (EJ p):=by
 obtain⟨up,cost,heard,v⟩:=p;unfold dK EJ;simp only[AP,TM,P6,tP];cases tX cost 1 1000<;>cases up<;>cases heard<;>rfl
theorem xP {n:Nat} {c:Int->Option Bool} {b:Nat->Bool} (hn:n<9223372036854775807) (hc:∀k,k<n->c (k:Int)=some (b k)) :
 loop (λi:Int=>cond (decide (i<(n:Int))) ((c i).bind λt=>cond t (some (.inr (.inr false))) (some (.inl (tR (i+1))))) (some (.inr (.inl ())))) 0=some (cond ((List.range n).any b) (Sum.inr false) (Sum.inl ()):Unit⊕Bool):=by
 obtain⟨v,h1,h2⟩:=uz (β:=Unit⊕Bool) (step:=λi:Int=>cond (decide (i<(n:Int))) ((c i).bind λt=>cond t (some (.inr (.inr false))) (some (.inl (tR (i+1))))) (some (.inr (.inl ()))))
  (λk i=>i=(k:Int)/\(List.range k).any b=false) n (λv=>v=cond ((List.range n).any b) (Sum.inr false) (Sum.inl ()))
  (λk i hk ⟨e,ha⟩=>by
   subst e;have hs:(cond (decide ((k:Int)<(n:Int))) ((c (k:Int)).bind λt=>cond t (some (.inr (.inr false))) (some (.inl (tR ((k:Int)+1))))) (some (.inr (.inl ()))):Option (Int⊕(Unit⊕Bool)))=cond (b k) (some (.inr (.inr false))) (some (.inl ((k+1:Nat):Int))):=by
    rw[ux (by omega),cT,hc k hk,tP,ua (by omega)]
   cases hb:b k with
   | true =>
    refine .inr ⟨.inr false,by rw[hs,hb];rfl,?_⟩;have:(List.range n).any b=true:=any_eq_true.2 ⟨k,mem_range.2 hk,hb⟩
    rw[this];rfl
   | false =>
    refine .inl ⟨_,by rw[hs,hb];rfl,rfl,?_⟩;rw[range_succ,List.any_append,ha];simp[hb])
  (λi ⟨e,ha⟩=>by
   subst e;exact⟨.inl (),by rw[uj (by omega),cF],by rw[ha];rfl⟩) (x:=0) ⟨rfl,rfl⟩
 rw[h1,h2]
def Eo (e:u0):Bool:=tX e.1 1 99&&(tX e.2.1 1 9999&&(tX e.2.2.1 0 7&&(tX e.2.2.2.1 0 4&&(!e.2.2.2.2||e.2.2.2.1==0))))
theorem PE (e:u0):cR e=some (Eo e):=by
 unfold cR Eo;simp only[xx,tP];cases tX e.1 1 99<;>cases tX e.2.1 1 9999<;>cases tX e.2.2.1 0 7<;>cases tX e.2.2.2.1 0 4<;>cases e.2.2.2.2<;>rfl
theorem T4:fk=cR:=rfl
def An (e:u0) (tag mac:Int):Bool:=decide (e.1>tag)||(e.1==tag&&decide (e.2.1>mac))
theorem Qw (e:u0) (tag mac:Int):eo e tag mac=some (An e tag mac):=by
 unfold eo An;cases decide (e.1>tag)<;>cases (e.1==tag)<;>rfl
theorem RW (p e:u0):dL p e.1 e.2.1=some (An e p.1 p.2.1):=by
 unfold dL An;by_cases h:p.1=e.1
 · simp[h]
 · have h':¬e.1=p.1:=λk=>h k.symm;have e1:(p.1 != e.1)=true:=by simpa using h
   have e2:(e.1==p.1)=false:=by simpa using h'
   rw[e1,e2,cT,Bool.false_and,Bool.or_false]
def zk (l:List u0) (k:Nat):Bool:=match l[k]? with
 | some e=>!(Eo e)||(decide (0<k)&&(match l[k-1]? with|some p=>!(An e p.1 p.2.1)|none=>false))
 | none=>false
def zB (l:List u0):Bool:=!((List.range l.length).any (zk l))&&decide ((l.length:Int)<=12)
theorem BN {α:Type} {l:List α} {k:Nat} (h:k<l.length) (hk:0<k) (hn:l.length<9223372036854775807):at? l (tR ((k:Int)-1))=some l[k-1]:=by
 rw[uS (by omega) (by omega),show (k:Int)-1=((k-1:Nat):Int) by omega,ug (by omega)]
theorem TN {l:List u0} (hn:l.length<9223372036854775807):gj l=some (zB l):=by
 unfold gj zB;have h:=xP (n:=l.length) (c:=λi=>(at? l i).bind λx10=>(cR x10).bind λt13=>(cond (!t13) (some true) ((cond (decide (i>0)) ((at? l (tR (i-1))).bind λx23=>(at? l (tR (i-1))).bind λx29=>(eo x10 x23.1 x29.2.1).bind λt32=>some (!t32)) (some false)).bind λt34=>some t34)).bind λt=>some t) (b:=zk l) hn (λk hk=>by
  simp only[ug hk,tP,PE,zk,List.getElem?_eq_getElem hk];cases Eo l[k]with
  | false=>rfl
  | true =>
   by_cases h0:0<k
   · have hd:decide ((k:Int)>0)=true:=dT (by omega);simp only[hd,BN hk h0 hn,tP,Qw,dT h0,List.getElem?_eq_getElem (show k-1<l.length by omega)];rfl
   · have hd:decide ((k:Int)>0)=false:=dF (by omega);simp only[hd,dF h0];rfl)
 have e:(loop (λz=>ip l z) 0)=some (cond ((List.range l.length).any (zk l)) (Sum.inr false) (Sum.inl ())):=by
  rw[←h];refine wz (λi=>?_) 0;unfold ip;simp only[Option.bind_assoc,tP]
 rw[e,tP];cases (List.range l.length).any (zk l)<;>rfl
theorem TO {l:List u0} (hn:l.length<9223372036854775807):fm l=some (zB l):=by
 unfold fm zB;have h:=xP (n:=l.length) (c:=λi=>(at? l i).bind λx12=>(fk x12).bind λt14=>(cond (!t14) (some true) ((cond (decide (i>0)) ((at? l (tR (i-1))).bind λx23=>(at? l i).bind λx27=>(at? l i).bind λx32=>(dL x23 x27.1 x32.2.1).bind λt35=>some (!t35)) (some false)).bind λt37=>some t37)).bind λt=>some t) (b:=zk l) hn (λk hk=>by
  simp only[ug hk,tP,T4,PE,zk,List.getElem?_eq_getElem hk];cases Eo l[k]with
  | false=>rfl
  | true =>
   by_cases h0:0<k
   · have hd:decide ((k:Int)>0)=true:=dT (by omega);simp only[hd,BN hk h0 hn,tP,RW,dT h0,List.getElem?_eq_getElem (show k-1<l.length by omega)];rfl
   · have hd:decide ((k:Int)>0)=false:=dF (by omega);simp only[hd,dF h0];rfl)
 have e:(loop (λz=>gR l z) 0)=some (cond ((List.range l.length).any (zk l)) (Sum.inr false) (Sum.inl ())):=by
  rw[←h];refine wz (λi=>?_) 0;unfold gR;simp only[Option.bind_assoc,tP]
 rw[e,tP];cases (List.range l.length).any (zk l)<;>rfl

theorem O8 {v:vi} (hn:v.1.length<9223372036854775807) (id:Int):∃r,aq v id=some r:=by
 unfold aq;obtain⟨b,h1,_⟩:=uz (β:=Unit⊕Int) (step:=λz=>aS v id z) (λk i=>i=(k:Int)) v.1.length (λ_=>True)
  (λk i hk h=>by
   subst h;unfold aS;rw[ux (by omega),cT,ug hk,tP];cases (v.1[k].1==id)with
   | true=>exact .inr ⟨_,rfl,trivial⟩
   | false=>exact .inl ⟨_,rfl,ua (by omega)⟩)
  (λi h=>by
   subst h;unfold aS;rw[uj (by omega)];exact⟨_,rfl,trivial⟩) (x:=0) rfl
 rw[h1,tP];cases b with
 | inl _=>exact⟨_,rfl⟩
 | inr r=>exact⟨r,rfl⟩
def B3 (i:Int):Int:=(2:Int)^i.toNat-1
theorem Kp {i:Int} (h:tX i 1 6=true):i=1\/i=2\/i=3\/i=4\/i=5\/i=6:=by
 unfold tX at h;simp only[aT,decide_eq_true_eq]at h;omega
theorem J0 {i:Int} (h:tX i 1 6=true):ep i=some (B3 i):=by
 rcases Kp h with rfl|rfl|rfl|rfl|rfl|rfl<;>rfl
theorem RX {i:Int} (h:tX i 1 6=true):∃t,shl .i64 1 (IntKind.u64.wrap i)=some t/\tR (t-1)=B3 i:=by
 rcases Kp h with rfl|rfl|rfl|rfl|rfl|rfl<;>exact⟨_,rfl,rfl⟩
theorem ML {i:Int} (h:tX i 1 6=true):1<=B3 i/\B3 i<=63:=by
 rcases Kp h with rfl|rfl|rfl|rfl|rfl|rfl<;>decide
theorem HS (x:BitVec 64):IntKind.i64.wrap (x.toNat:Int)=x.toInt:=by
 have hx:=x.isLt;rw[BitVec.toInt_eq_toNat_cond];show (let m:=(x.toNat:Int)%18446744073709551616;if (true&&decide (m>=9223372036854775808))=true then m-18446744073709551616 else m)=_
 simp only[Bool.true_and,decide_eq_true_eq];have h1:(x.toNat:Int)%18446744073709551616=(x.toNat:Int):=by omega
 rw[h1];split<;>split<;>omega
theorem Bd {b:Int} (h1:-9223372036854775808<=b) (h2:b<=9223372036854775807):(BitVec.ofInt 64 b).toInt=b:=by
 rw[BitVec.toInt_ofInt];unfold Int.bmod;simp only;split<;>omega
theorem PF (a b:Int):yK .i64 a b=(BitVec.ofInt 64 a&&&BitVec.ofInt 64 b).toInt:=HS _
theorem T5 (a b:Int):EM .i64 a b=(BitVec.ofInt 64 a &&& ~~~ BitVec.ofInt 64 b).toInt:=HS _
theorem LJ (x y:BitVec 64):x&&&y=x↔x &&& ~~~ y=0:=by
 constructor
 · intro h;apply BitVec.eq_of_getLsbD_eq;intro i hi;have:=congrArg (λz=>z.getLsbD i) h
   simp only[BitVec.getLsbD_and]at this;simp only[BitVec.getLsbD_and,BitVec.getLsbD_not,BitVec.getLsbD_zero,hi,decide_true,Bool.true_and];cases hx:x.getLsbD i<;>cases hy:y.getLsbD i<;>simp_all
 · intro h;apply BitVec.eq_of_getLsbD_eq;intro i hi;have:=congrArg (λz=>z.getLsbD i) h
   simp only[BitVec.getLsbD_and,BitVec.getLsbD_not,BitVec.getLsbD_zero,hi,decide_true,Bool.true_and]at this;simp only[BitVec.getLsbD_and];cases hx:x.getLsbD i<;>cases hy:y.getLsbD i<;>simp_all
theorem J1 {b m:Int} (h1:-9223372036854775808<=b) (h2:b<=9223372036854775807):(yK .i64 b m != b)=(EM .i64 b m != 0):=by
 rw[PF,T5];have e:((BitVec.ofInt 64 b&&&BitVec.ofInt 64 m).toInt=b)↔((BitVec.ofInt 64 b &&& ~~~ BitVec.ofInt 64 m).toInt=0):=by
  constructor
  · intro h;have:BitVec.ofInt 64 b&&&BitVec.ofInt 64 m=BitVec.ofInt 64 b:=BitVec.eq_of_toInt_eq (by rw[h,Bd h1 h2])
    rw[(LJ _ _).1 this];rfl
  · intro h;have:BitVec.ofInt 64 b &&& ~~~ BitVec.ofInt 64 m=0:=BitVec.eq_of_toInt_eq (by rw[h];rfl)
    rw[(LJ _ _).2 this,Bd h1 h2]
 by_cases h:(BitVec.ofInt 64 b&&&BitVec.ofInt 64 m).toInt=b
 · have h':=e.1 h;simp[h,h']
 · have h':¬(BitVec.ofInt 64 b &&& ~~~ BitVec.ofInt 64 m).toInt=0:=λk=>h (e.2 k);rw[bne_iff_ne.2 h,bne_iff_ne.2 h']
theorem LK {b m t:Int} (h1:-9223372036854775808<=b) (h2:b<=9223372036854775807) (hm:tX m 0 t=true) (ht:t<=63) (h:(yK .i64 b m != b)=false):tX b 0 t=true:=by
 unfold tX at hm ⊢;simp only[aT,decide_eq_true_eq]at hm ⊢;have h:yK .i64 b m=b:=by simpa using h
 rw[PF]at h;have e:BitVec.ofInt 64 b&&&BitVec.ofInt 64 m=BitVec.ofInt 64 b:=BitVec.eq_of_toInt_eq (by rw[h,Bd h1 h2])
 have hM:(BitVec.ofInt 64 m).toNat=m.toNat:=by
  rw[BitVec.toNat_ofInt];omega
 have hle:(BitVec.ofInt 64 b).toNat<=m.toNat:=by
  rw[←e,BitVec.toNat_and,hM];exact Nat.and_le_right
 have hb:(BitVec.ofInt 64 b).toInt=((BitVec.ofInt 64 b).toNat:Int):=by
  rw[BitVec.toInt_eq_toNat_cond];split<;>omega
 rw[Bd h1 h2]at hb;omega
def Br (v:vi) (i:Int) (k:Nat):Bool:=match v.1[k]? with
 | some r=>!(tX r.1 1 99)||((decide (0<k)&&(match v.1[k-1]? with|some p=>decide (p.1>=r.1)|none=>false))||(!(tX r.2.1 0 (B3 i))||(EM .i64 r.2.2 r.2.1 != 0)))
 | none=>false
noncomputable def Ep (v:vi) (k:Nat):Bool:=match v.2[k]? with
 | some x=>(match aq v x with|some t=>decide (t<0)|none=>false)
 | none=>false
noncomputable def ym (v:vi) (i:Int):Bool:=!(!(tX i 1 6)||((v.2.length:Int) != i||decide ((v.1.length:Int)>6)))&&(!((List.range v.1.length).any (Br v i))&&!((List.range v.2.length).any (Ep v)))
theorem O9 {v:vi} {i:Int} (hi:tX i 1 6=true) (hn:v.1.length<9223372036854775807):loop (λz=>iq v i z) 0=some (cond ((List.range v.1.length).any (Br v i)) (Sum.inr false) (Sum.inl ())):=by
 rw[←xP (n:=v.1.length) (c:=λt28=>(at? v.1 t28).bind λx31 =>
  (aa x31.1 1 99).bind λt35 =>
  (cond (!t35) (some true) ((cond (decide (t28>0)) ((at? v.1 (tR (t28-1))).bind λx45=>some (decide (x45.1>=x31.1))) (some false)).bind λt51=>some t51)).bind λt52 =>
  (cond t52 (some true) ((ep i).bind λt57=>(aa x31.2.1 0 t57).bind λt58=>some (!t58))).bind λt60 =>
  (cond t60 (some true) (some ((EM .i64 x31.2.2 x31.2.1) != 0))).bind λt=>some t) (b:=Br v i) hn (λk hk=>by
   simp only[ug hk,tP,xx,Br,List.getElem?_eq_getElem hk,J0 hi];cases tX v.1[k].1 1 99 with
   | false=>rfl
   | true =>
    by_cases h0:0<k
    · have hd:decide ((k:Int)>0)=true:=dT (by omega);simp only[hd,BN hk h0 hn,tP,dT h0,List.getElem?_eq_getElem (show k-1<v.1.length by omega)];cases decide (v.1[k-1].1>=v.1[k].1)<;>cases tX v.1[k].2.1 0 (B3 i)<;>rfl
    · have hd:decide ((k:Int)>0)=false:=dF (by omega);simp only[hd,dF h0];cases tX v.1[k].2.1 0 (B3 i)<;>rfl)]
 refine wz (λi=>?_) 0;unfold iq;simp only[Option.bind_assoc,tP]
theorem MM {v:vi} {i t:Int} (hi:tX i 1 6=true) (ht:tR (t-1)=B3 i) (hn:v.1.length<9223372036854775807) (hw:∀r∈v.1,-9223372036854775808<=r.2.2/\r.2.2<=9223372036854775807):loop (λz=>gS v t z) 0=some (cond ((List.range v.1.length).any (Br v i)) (Sum.inr false) (Sum.inl ())):=by
 rw[←xP (n:=v.1.length) (c:=λt6=>(at? v.1 t6).bind λx39 =>
  (ac x39.1 1 99).bind λt43 =>
  (cond (!t43) (some true) ((ac x39.2.1 0 (tR (t-1))).bind λt49=>some (!t49))).bind λt51 =>
  (cond t51 (some true) ((ac x39.2.2 0 (tR (t-1))).bind λt56=>some (!t56))).bind λt58 =>
  (cond t58 (some true) (some ((yK .i64 x39.2.2 x39.2.1) != x39.2.2))).bind λt68 =>
  (cond t68 (some true) ((cond (decide (t6>0)) ((at? v.1 (tR (t6-1))).bind λx77=>some (decide (x77.1>=x39.1))) (some false)).bind λt83=>some t83)).bind λt=>some t) (b:=Br v i) hn (λk hk=>by
   obtain⟨w1,w2⟩:=hw _ (getElem_mem hk);have hs:=J1 (m:=v.1[k].2.1) w1 w2
   have hin:=LK (m:=v.1[k].2.1) (t:=B3 i) w1 w2;have ht2:=(ML hi).2
   simp only[ug hk,tP,AP,Br,List.getElem?_eq_getElem hk,ht];rw[←hs];cases h1:tX v.1[k].1 1 99 with
   | false=>rfl
   | true =>
    cases h2:tX v.1[k].2.1 0 (B3 i)with
    | false =>
     by_cases h0:0<k
     · simp only[dT h0,List.getElem?_eq_getElem (show k-1<v.1.length by omega)];cases decide (v.1[k-1].1>=v.1[k].1)<;>rfl
     · simp only[dF h0];rfl
    | true =>
     cases h3:(yK .i64 v.1[k].2.2 v.1[k].2.1 != v.1[k].2.2)with
     | true =>
      by_cases h0:0<k
      · simp only[dT h0,List.getElem?_eq_getElem (show k-1<v.1.length by omega)];cases decide (v.1[k-1].1>=v.1[k].1)<;>cases tX v.1[k].2.2 0 (B3 i)<;>rfl
      · simp only[dF h0];cases tX v.1[k].2.2 0 (B3 i)<;>rfl
     | false =>
      have h4:=hin h2 ht2 h3;rw[h4];by_cases h0:0<k
      · have hd:decide ((k:Int)>0)=true:=dT (by omega);simp only[hd,BN hk h0 hn,tP,dT h0,List.getElem?_eq_getElem (show k-1<v.1.length by omega)];cases decide (v.1[k-1].1>=v.1[k].1)<;>rfl
      · have hd:decide ((k:Int)>0)=false:=dF (by omega);simp only[hd,dF h0];rfl)]
 refine wz (λi=>?_) 0;unfold gS;simp only[Option.bind_assoc,tP]
theorem J2 {v:vi} (hn:v.1.length<9223372036854775807) (hn2:v.2.length<9223372036854775807):loop (λz=>gk v z) 0=some (cond ((List.range v.2.length).any (Ep v)) (Sum.inr false) (Sum.inl ())):=by
 rw[←xP (n:=v.2.length) (c:=λt73=>(at? v.2 t73).bind λx75=>(aq v x75).bind λt79=>some (decide (t79<0))) (b:=Ep v) hn2 (λk hk=>by
  obtain⟨r,hr⟩:=O8 hn v.2[k];simp only[ug hk,tP,Ep,List.getElem?_eq_getElem hk,hr])]
 refine wz (λi=>?_) 0;unfold gk;simp only[Option.bind_assoc,tP]
theorem T6:jG=gk:=rfl
theorem PG {v:vi} (i:Int) (hn:v.1.length<9223372036854775807) (hn2:v.2.length<9223372036854775807):cS v i=some (ym v i):=by
 unfold cS ym;simp only[xx,tP];cases hi:tX i 1 6 with
 | false=>rfl
 | true =>
  rw[O9 hi hn,J2 hn hn2];cases ((v.2.length:Int) != i)<;>cases decide ((v.1.length:Int)>6)<;>cases (List.range v.1.length).any (Br v i)<;>cases (List.range v.2.length).any (Ep v)<;>rfl
theorem PH {v:vi} (i:Int) (hn:v.1.length<9223372036854775807) (hn2:v.2.length<9223372036854775807) (hw:∀r∈v.1,-9223372036854775808<=r.2.2/\r.2.2<=9223372036854775807):cr v i=some (ym v i):=by
 unfold cr ym;simp only[AP,tP,T6];cases hi:tX i 1 6 with
 | false=>rfl
 | true =>
  obtain⟨t,h1,h2⟩:=RX hi;rw[h1,tP,MM hi h2 hn hw,J2 hn hn2];cases ((v.2.length:Int) != i)<;>cases decide ((v.1.length:Int)>6)<;>cases (List.range v.1.length).any (Br v i)<;>cases (List.range v.2.length).any (Ep v)<;>rfl
def EK (l:List Pt) (k:Nat):Bool:=match l[k]? with|some p=>!(EJ p)|none=>false
def wF (b:tQ):Bool:=tX b.2.2.2.2.2.2.1 0 1000000&&(tX b.2.2.2.2.2.2.2.1 0 1000000&&(tX b.2.2.2.2.2.2.2.2.1 0 1000000&&(tX b.2.2.2.2.2.2.2.2.2.1 0 1000000&&tX b.2.2.2.2.2.2.2.2.2.2 0 1000000)))
noncomputable def vc (b:tQ):Bool:=!((List.range b.2.2.1.length).any (EK b.2.2.1))&&(tX b.1 1 99&&(!(decide ((b.2.1.length:Int)>10))&&(tX (b.2.2.1.length:Int) 1 6&&(zB b.2.2.2.1&&(ym (b.2.2.2.2.1,b.2.2.2.2.2.1) (b.2.2.1.length:Int)&&wF b)))))
structure zl (b:tQ):Prop where
 p:b.2.2.1.length<9223372036854775807
 f:b.2.2.2.1.length<9223372036854775807
 v:b.2.2.2.2.1.length<9223372036854775807
 q:b.2.2.2.2.2.1.length<9223372036854775807
 r:∀r∈b.2.2.2.2.1,-9223372036854775808<=r.2.2/\r.2.2<=9223372036854775807
theorem MN {b:tQ} (h:zl b):loop (λz=>ir b z) 0=some (cond ((List.range b.2.2.1.length).any (EK b.2.2.1)) (Sum.inr false) (Sum.inl ())):=by
 rw[←xP (n:=b.2.2.1.length) (c:=λt8=>(at? b.2.2.1 t8).bind λx10=>(em x10).bind λt13=>some (!t13)) (b:=EK b.2.2.1) h.p (λk hk=>by
  simp only[ug hk,tP,EK,List.getElem?_eq_getElem hk,Ua])]
 refine wz (λi=>?_) 0;unfold ir;simp only[Option.bind_assoc,tP]
theorem L7 {b:tQ} (h:zl b):loop (λz=>gT b z) 0=some (cond ((List.range b.2.2.1.length).any (EK b.2.2.1)) (Sum.inr false) (Sum.inl ())):=by
 rw[←xP (n:=b.2.2.1.length) (c:=λt8=>(at? b.2.2.1 t8).bind λx10=>(dK x10).bind λt13=>some (!t13)) (b:=EK b.2.2.1) h.p (λk hk=>by
  simp only[ug hk,tP,EK,List.getElem?_eq_getElem hk,Ub])]
 refine wz (λi=>?_) 0;unfold gT;simp only[Option.bind_assoc,tP]
theorem Qx (b:tQ):fo b=some (wF b):=by
 unfold fo wF;simp only[AP,tP];cases tX b.2.2.2.2.2.2.1 0 1000000<;>cases tX b.2.2.2.2.2.2.2.1 0 1000000<;>cases tX b.2.2.2.2.2.2.2.2.1 0 1000000<;>cases tX b.2.2.2.2.2.2.2.2.2.1 0 1000000<;>rfl
theorem Oa (n:Int):aR n=some (tX n 0 1000000):=by unfold aR;rw[xx,tP]
theorem DU {b:tQ} (h:zl b):aQ b=some (vc b):=by
 unfold aQ vc wF;rw[MN h,tP];cases (List.range b.2.2.1.length).any (EK b.2.2.1)with
 | true=>rfl
 | false =>
  simp only[cF,Sum.elim_inl,xx,TN h.f,PG (v:=(b.2.2.2.2.1,b.2.2.2.2.2.1)) _ h.v h.q,Oa,tP];cases tX b.1 1 99<;>cases decide ((b.2.1.length:Int)>10)<;>cases tX (b.2.2.1.length:Int) 1 6<;>cases zB b.2.2.2.1<;>cases ym (b.2.2.2.2.1,b.2.2.2.2.2.1) (b.2.2.1.length:Int) <;>
   cases tX b.2.2.2.2.2.2.1 0 1000000<;>cases tX b.2.2.2.2.2.2.2.1 0 1000000<;>cases tX b.2.2.2.2.2.2.2.2.1 0 1000000<;>cases tX b.2.2.2.2.2.2.2.2.2.1 0 1000000<;>rfl
theorem DV {b:tQ} (h:zl b):aZ b=some (vc b):=by
 unfold aZ vc;rw[L7 h,tP];cases (List.range b.2.2.1.length).any (EK b.2.2.1)with
 | true=>rfl
 | false =>
  have e:decide ((b.2.1.length:Int)<=10)=!(decide ((b.2.1.length:Int)>10)):=by
   by_cases hh:(b.2.1.length:Int)>10
   · rw[dT hh,dF (by omega)];rfl
   · rw[dF hh,dT (by omega)];rfl
  simp only[cF,Sum.elim_inl,AP,TO h.f,PH (v:=(b.2.2.2.2.1,b.2.2.2.2.2.1)) _ h.v h.q h.r,Qx,tP,e];cases tX b.1 1 99<;>cases decide ((b.2.1.length:Int)>10)<;>cases tX (b.2.2.1.length:Int) 1 6<;>cases zB b.2.2.2.1<;>cases ym (b.2.2.2.2.1,b.2.2.2.2.2.1) (b.2.2.1.length:Int)<;>cases wF b<;>rfl
theorem PI:fy=dc:=rfl
theorem PJ (a b:zz):∃r,dc a b=some r:=by
 unfold dc;cases (a.1 != b.1)<;>cases (a.2.1 != b.2.1)<;>cases (a.2.2.2.1 != b.2.2.2.1)<;>exact⟨_,rfl⟩
theorem T7:gY=eA:=rfl
theorem T8 (v:zz) (c:Int):∃r,eA v c=some r:=by
 unfold eA;simp only[P6,xx,tP];cases Ko v<;>cases tX c 1 1000<;>first|exact⟨_,rfl⟩|skip
 generalize Ko (v.1,tR (v.2.1+c),tR (v.2.2.1+1),v.2.2.2.1,v.2.2.2.2)=q;cases q<;>exact⟨_,rfl⟩
theorem T9 (p0:Int) (l:List Pt) (t8 t9 b0 b1 b2 b3 b4 c0 c1 c2 c3 c4:Int):gZ p0 l t8 t9 b0 b1 b2 b3 b4 c0 c1 c2 c3 c4=de p0 l t8 t9 b0 b1 b2 b3 b4 c0 c1 c2 c3 c4:=by
 unfold gZ de;rw[T7,PI];cases h:at? l t9 with
 | none=>rfl
 | some x=>simp only[tP]
theorem PK:dR=bj:=by
 funext p0 l
 unfold dR bj;rw[wz (λz=>T9 p0 l _ _ _ _ _ _ _ _ _ _ _ _)]
theorem Ta (p0:Int) {l:List Pt} (hn:l.length<9223372036854775807):∃r,bj p0 l=some r:=by
 unfold bj;obtain⟨b,h1,_⟩:=uz (step:=λz:Int×Int×Int×Int×Int×Int×Int×Int×Int×Int×Int×Int=>de p0 l z.1 z.2.1 z.2.2.1 z.2.2.2.1 z.2.2.2.2.1 z.2.2.2.2.2.1 z.2.2.2.2.2.2.1 z.2.2.2.2.2.2.2.1 z.2.2.2.2.2.2.2.2.1 z.2.2.2.2.2.2.2.2.2.1 z.2.2.2.2.2.2.2.2.2.2.1 z.2.2.2.2.2.2.2.2.2.2.2)
  (λk z=>z.2.1=(k:Int)) l.length (λ_=>True)
  (λk z hk h=>by
   left;obtain⟨t7,t18,b0,b1,b2,b3,b4,c0,c1,c2,c3,c4⟩:=z;obtain rfl:t18=(k:Int):=h;unfold de;simp only[ux (show (k:Int)<(l.length:Int) by omega),cT,ug hk,tP];rw[show tR ((k:Int)+1)=((k+1:Nat):Int)from ua (by omega)];generalize l[k]=x;have e:(cond (!x.1) (some true) (some (!x.2.2.1)):Option Bool)=some (cond (!x.1) true (!x.2.2.1)):=by cases x.1<;>rfl
   rw[e,tP];cases (cond (!x.1) true (!x.2.2.1))with
   | true=>exact⟨_,rfl,rfl⟩
   | false =>
    obtain⟨r,hr⟩:=T8 x.2.2.2 x.2.1;obtain⟨q,hq⟩:=PJ r.1 (c0,c1,c2,c3,c4);rw[cF,hr,tP,hq];cases r.2<;>cases decide (r.1.1<p0)<;>cases decide (t7<0)<;>cases q<;>exact⟨_,rfl,rfl⟩)
  (λz h=>by
   obtain⟨t7,t18,b0,b1,b2,b3,b4,c0,c1,c2,c3,c4⟩:=z;obtain rfl:t18=(l.length:Int):=h;unfold de;simp only[uj (show ¬(l.length:Int)<(l.length:Int) by omega),cF];exact⟨_,rfl,trivial⟩) (x:=((-1),0,p0,0,0,p0,0,0,0,0,0,0)) rfl
 rw[h1,tP];exact⟨_,rfl⟩
theorem TP:fA=eB:=by
 funext id l p
 unfold fA eB;rw[PK]
theorem PL:dU=aF:=by
 funext id l p
 unfold dU aF;rw[PK,TP,PI];rfl
theorem MO (id:Int) {l:List Pt} (hn:l.length<9223372036854775807) (p:Int):∃r,aF id l p=some r:=by
 obtain⟨v,hv⟩:=Ta id hn;unfold aF eB;simp only[xx,tP,hv];rw[show tR ((l.length:Int)-1)=(l.length:Int)-1 from uS (by omega) (by omega)];cases hp:tX p 0 ((l.length:Int)-1)with
 | false=>exact⟨_,rfl⟩
 | true =>
  unfold tX at hp;simp only[aT,decide_eq_true_eq]at hp;obtain⟨k,rfl⟩:∃k:Nat,p=(k:Int):=⟨p.toNat,by omega⟩;simp only[ug (show k<l.length by omega),tP];generalize l[k]'(by omega)=x;obtain⟨q,hq⟩:=PJ (v.1.1,v.1.2.1,v.1.2.2.1,v.1.2.2.2.1,(k:Int)) x.2.2.2;rw[hq];cases x.1<;>cases (v.2==(k:Int))<;>cases x.2.2.1<;>cases q<;>exact⟨_,rfl⟩
theorem Tb (b:tQ) (c p:Int):fO b c p=bE b c p:=by
 unfold fO bE eC;rw[PL];cases at? b.2.2.1 p with
 | none=>rfl
 | some x=>simp only[tP];cases x.1<;>rfl
theorem GT {α:Type} (out:List tS) (name:List Int) (n:Int) (f:List tS->Option α):((aJ n).bind λv=>(aA v name).bind λt=>(uv out [t]).bind f)=(af out name n).bind f:=by
 unfold aJ aA af bZ hZ;simp only[tP,Option.bind_assoc]
theorem P7 (b:tQ) (c i:Int) (out:List tS):ia b c i out=bm b c i out:=by
 unfold ia bm;simp only[Tb,GT]
theorem TQ {r:ub} {c:Int} (h:1<=c/\c<=3):((ix [1,r.2.1,r.2.2].length (tR (c-1))).bind λj=>([1,r.2.1,r.2.2][j]?).bind λx=>some x)=i0 r c:=by
 have:c=1\/c=2\/c=3:=by omega
 rcases this with rfl|rfl|rfl<;>rfl
theorem Qy (b:tQ) {c:Int} (h:1<=c/\c<=3) (i:Int) (out:List tS):ic b c i out=bn b c i out:=by
 unfold ic bn;cases hr:at? b.2.2.2.2.1 i with
 | none=>rfl
 | some r =>
  simp only[tP,←TQ (r:=r) h,Option.bind_assoc,GT]
theorem RY (b:tQ) (i:Int) (out:List tS):ie b i out=aX b i out:=by
 unfold ie aX;cases hr:at? b.2.2.2.1 i with
 | none=>rfl
 | some r=>simp only[tP,GT]
theorem Td (b:tQ) (c:Int) (out:List tS):ib b c out=bG b c out:=by
 unfold ib bG;rw[wz (λz=>P7 b c _ _)]
theorem Te (b:tQ) {c:Int} (h:1<=c) (out:List tS):e9 b c out=bH b c out:=by
 unfold e9 bH;by_cases h3:c<=3
 · rw[wz (λz=>Qy b ⟨h,h3⟩ _ _)]
 · rw[dF h3];rfl
theorem MP (b:tQ) {c:Int} {out:List tS} {y:Int×List tS} (h:1<=c) (e:e9 b c out=some (.inl y)):1<=y.1:=by
 unfold e9 at e;by_cases h3:c<=3
 · rw[dT h3,cT,Option.bind_eq_some_iff]at e;obtain⟨d,_,e⟩:=e;cases e;show 1<=tR (c+1)
   rw[uS (by omega) (by omega)];omega
 · rw[dF h3]at e;cases e
def Ab (b:tQ):List tS:=[([1,3,1,1,1],4,0,b.2.1,[]),([1,3,1,1,2],2,b.2.2.2.2.2.2.1,[],[]),([1,3,1,1,3],2,b.2.2.2.2.2.2.2.1,[],[]),([1,3,1,1,4],2,b.2.2.2.2.2.2.2.2.1,[],[]),([1,3,1,1,5],2,b.2.2.2.2.2.2.2.2.2.1,[],[])]
theorem TR (b:tQ):aA (4,0,b.2.1,[]) ([1,1]:List Int)=some ([1,3,1,1,1],4,0,b.2.1,[]):=by kernel_rfl
theorem TS (b:tQ):wY (λz=>mO b z.1 z.2) 5 (0,[([1,3,1,1,1],4,0,b.2.1,[])])=some (Ab b):=by kernel_rfl
theorem TT (b:tQ):((bZ ([1,1]:List Int)).bind λt14=>(af ([(t14,4,0,b.2.1,[])]) ([1,2]:List Int) b.2.2.2.2.2.2.1).bind λt24=>(af t24 ([1,3]:List Int) b.2.2.2.2.2.2.2.1).bind λt29 =>
 (af t29 ([1,4]:List Int) b.2.2.2.2.2.2.2.2.1).bind λt34=>(af t34 ([1,5]:List Int) b.2.2.2.2.2.2.2.2.2.1))=some (Ab b):=by kernel_rfl
noncomputable def FT (b:tQ) (l:List tS):Option (List tS) :=
 (loop (λz=>bG b z.1 z.2) (1,l)).bind λd_2 =>
  (loop (λz=>bH b z.1 z.2) (1,d_2)).bind λd_4 =>
  (loop (λz=>aX b z.1 z.2) (0,d_4)).bind λd_5 =>
  some d_5
theorem RZ {b:tQ} (h:zl b):bo b=cond (!(vc b)) (some []) (FT b (Ab b)):=by
 unfold bo;rw[DU h,tP,TR,tP,yq (TS b),tP];rfl
theorem TU {b:tQ} (h:zl b):cG b=cond (!(vc b)) (some []) (FT b (Ab b)):=by
 unfold cG;rw[DV h,tP];have hc:=TT b
 have e:∀{α:Type} (f:List tS->Option α),((bZ ([1,1]:List Int)).bind λt14=>(af ([(t14,4,0,b.2.1,[])]) ([1,2]:List Int) b.2.2.2.2.2.2.1).bind λt24=>(af t24 ([1,3]:List Int) b.2.2.2.2.2.2.2.1).bind λt29 =>
  (af t29 ([1,4]:List Int) b.2.2.2.2.2.2.2.2.1).bind λt34=>(af t34 ([1,5]:List Int) b.2.2.2.2.2.2.2.2.2.1).bind f)=f (Ab b):=by
  intro α f;have:((bZ ([1,1]:List Int)).bind λt14=>(af ([(t14,4,0,b.2.1,[])]) ([1,2]:List Int) b.2.2.2.2.2.2.1).bind λt24=>(af t24 ([1,3]:List Int) b.2.2.2.2.2.2.2.1).bind λt29 =>
   (af t29 ([1,4]:List Int) b.2.2.2.2.2.2.2.2.1).bind λt34=>(af t34 ([1,5]:List Int) b.2.2.2.2.2.2.2.2.2.1)).bind f=f (Ab b):=by rw[hc,tP]
  rw[←this];simp only[Option.bind_assoc]
 rw[e]
 congr 1
 unfold FT;rw[wz (λz=>Td b _ _)]
 congr 1
 funext d
 rw[HR (λz:Int×List tS=>1<=z.1) (λz hz=>Te b hz _) (λz y hz e=>MP b hz e) (show (1:Int)<=1 by omega)]
 congr 1
 funext d
 rw[wz (λz=>RY b _ _)]
theorem Kq {b:tQ} (h:zl b):cG b=bo b:=by rw[TU h,RZ h]

theorem Tf {b:tQ} (h:zl b) (c:Int) {k:Nat} (hk:k<b.2.2.1.length) (hq:b.2.2.1.length=b.2.2.2.2.2.1.length):∃n,bE b c (k:Int)=some n:=by
 obtain⟨r,hr⟩:=MO b.1 h.p (k:Int);unfold bE eC;rw[ug hk,ug (show k<b.2.2.2.2.2.1.length by omega),hr];simp only[tP];cases (c==1)<;>cases (c==2)<;>cases (c==3)<;>cases (b.2.2.1[k]).1<;>exact⟨_,rfl⟩
theorem Qz {α:Type} {xs ys:List α} (h:xs.length+ys.length<=4294967296):uv xs ys=some (xs++ys):=by
 unfold uv;rw[if_pos (show xs.length+ys.length<=Dc from h)]
noncomputable def zm (id:Int) (l:List Pt) (p:Int):Int:=(aF id l p).getD 0
theorem Eq (id:Int) {l:List Pt} (hn:l.length<9223372036854775807) (p:Int):aF id l p=some (zm id l p):=by
 obtain⟨r,hr⟩:=MO id hn p;unfold zm;rw[hr];rfl
def MQ (l:List Int) (x:Int):Bool:=decide (x∈l)
def Be (b:Nat->Bool) (m:Nat):List Int:=((List.range m).filter b).map λ(k:Nat)=>(k:Int)
theorem P8 (b:Nat->Bool) (m:Nat):(Be b m).length<=m:=by
 unfold Be;rw[length_map];exact Nat.le_trans (List.length_filter_le _ _) (by simp)
theorem MR (b:Nat->Bool) (m:Nat):Be b (m+1)=cond (b m) (Be b m++[(m:Int)]) (Be b m):=by
 unfold Be;rw[range_succ,List.filter_append,map_append];cases h:b m<;>simp[h]
theorem zG {n:Nat} {c:Int->Option Bool} {b:Nat->Bool} (hn:n<=1048576) (hc:∀k,k<n->c (k:Int)=some (b k)) :
 loop (λz:Int×List Int=>cond (decide (z.1<(n:Int))) ((c z.1).bind λt=>cond t ((uv z.2 [z.1]).bind λzs=>some (.inl (tR (z.1+1),zs))) (some (.inl (tR (z.1+1),z.2)))) (some (.inr z.2))) (0,([]:List Int))=some (Be b n):=by
 obtain⟨v,h1,rfl⟩:=uz (step:=λz:Int×List Int=>cond (decide (z.1<(n:Int))) ((c z.1).bind λt=>cond t ((uv z.2 [z.1]).bind λzs=>some (.inl (tR (z.1+1),zs))) (some (.inl (tR (z.1+1),z.2)))) (some (.inr z.2))) (λk z=>z.1=(k:Int)/\z.2=Be b k) n (λl=>l=Be b n)
  (λk z hk ⟨e1,e2⟩=>by
   obtain⟨i,l⟩:=z;simp only at e1 e2;subst e1 e2;left;have hle:=P8 b k
   refine⟨(tR ((k:Int)+1),Be b (k+1)),?_,ua (by omega),rfl⟩;simp only[ux (show (k:Int)<(n:Int) by omega),cT,hc k hk,tP];rw[MR];cases b k with
   | false=>rfl
   | true=>rw[cT,Qz (by simp;omega)];rfl)
  (λz ⟨e1,e2⟩=>by
   obtain⟨i,l⟩:=z;simp only at e1 e2;subst e1 e2;exact⟨_,by simp only[uj (show ¬(n:Int)<(n:Int) by omega),cF],rfl⟩) (x:=(0,[])) ⟨rfl,rfl⟩
 exact h1
def LL (l:List Bool):Nat:=l.count true
theorem S0 (l:List Bool):LL l<=l.length:=List.count_le_length
theorem QA {l:List Bool} {i:Nat} (h:l[i]?=some false):LL (l.set i true)=LL l+1:=by
 obtain⟨hi,he⟩:=List.getElem?_eq_some_iff.1 h;unfold LL;rw[List.count_set hi,he];simp
theorem S3 {n k:Nat} (h:k<n):tX (k:Int) 0 ((n:Int)-1)=true:=by
 unfold tX;rw[dT (by omega),dT (by omega)];rfl
structure Kr (X:List Int) (l:List Bool):Prop where
 r:∀x∈X,∃k:Nat,k<l.length/\x=(k:Int)
 m:∀k,k<l.length->l[k]?=some (MQ X (k:Int))
 c:X.length=LL l
theorem Kr.len {X:List Int} {l:List Bool} (h:Kr X l):X.length<=l.length:=by rw[h.c];exact S0 l
theorem Kr.add {X:List Int} {l:List Bool} (h:Kr X l) {i:Nat} (hi:l[i]?=some false):Kr (X++[(i:Int)]) (l.set i true):=by
 obtain⟨hi',he⟩:=List.getElem?_eq_some_iff.1 hi;refine⟨λx hx=>?_,λk hk=>?_,?_⟩
 · rw[length_set];rcases mem_append.1 hx with hx|hx
   · exact h.r x hx
   · simp at hx;exact⟨i,hi',hx⟩
 · rw[length_set]at hk;rw[List.getElem?_set];split
   · rename_i e;subst e;rw[show MQ (X++[(i:Int)]) (i:Int)=true from dT (by simp)]
   · rename_i e;rw[h.m k hk]
     congr 1
     unfold MQ;apply decide_eq_decide.2;rw[mem_append,List.mem_singleton];constructor
     · exact .inl
     · rintro (h|h)
       · exact h
       · omega
 · rw[length_append,QA hi,h.c];rfl
theorem Kr.in {X:List Int} {l:List Bool} (h:Kr X l) {x:Int} (hx:MQ X x=true):tX x 0 ((l.length:Int)-1)=true:=by
 obtain⟨k,hk,rfl⟩:=h.r x (of_decide_eq_true hx);exact S3 hk
def start (n:Nat) (b:Nat):List Bool:=(List.replicate n false).set b true
theorem Tg (id:Int) {l:List Pt} (hn:l.length<9223372036854775807) (p:Int):1<=zm id l p:=by
 have h:=Eq id hn p
 revert h
 generalize zm id l p=v;unfold aF;rw[xx,tP];intro h;have key:∀(o:Option Bool) (f:Bool->Option Int),(∀t x,f t=some x->1<=x)->o.bind f=some v->1<=v:=by
  intro o f hf h;cases o with
  | none=>cases h
  | some t=>exact hf t v h
 refine key _ _ (λt x hx=>?_) h;cases t with
 | true=>cases hx;decide
 | false =>
  rw[cF]at hx;cases hbv:bj id l with
  | none=>rw[hbv]at hx;cases hx
  | some w =>
   rw[hbv,tP]at hx;cases hw:w.2==p with
   | true=>rw[hw]at hx;cases hx;decide
   | false =>
    rw[hw,cF]at hx;cases ha:at? l p with
    | none=>rw[ha]at hx;cases hx
    | some y =>
     rw[ha,tP]at hx
     revert hx
     generalize (cond (!y.2.2.1) _ _:Option Bool)=o;intro hx;cases o with
     | none=>cases hx
     | some t=>cases t<;>(cases hx;decide)
theorem HT {k:Nat} (h:k<64):IntKind.u64.wrap (k:Int)=(k:Int):=by
 show ((k:Int)%18446744073709551616)=_;omega
theorem Th:∀b:Fin 64,∀p:Fin 6,∃t c,shl .i64 1 (p.1:Int)=some t/\Bf .i64 (b.1:Int) t=(c:Int)/\0<=c/\c<64:=by
 intro b p;have h:∀b:Fin 64,∀p:Fin 6,(decide (0<=Bf .i64 (b.1:Int) (2^p.1))&&decide (Bf .i64 (b.1:Int) (2^p.1)<64))=true:=by decide
 have h1:=h b p;simp only[aT,decide_eq_true_eq]at h1;have h2:∀p:Fin 6,shl .i64 1 (p.1:Int)=some (2^p.1):=by decide
 exact⟨_,_,h2 p,rfl,h1.1,h1.2⟩
theorem S4 {r:Int} (h:1<=r):decide (r<=2)=(r==1||r==2):=by
 by_cases h2:r<=2
 · rw[dT h2];rcases (show r=1\/r=2 by omega)with rfl|rfl<;>rfl
 · rw[dF h2,beq_eq_false_iff_ne.2 (show r≠1 by omega),beq_eq_false_iff_ne.2 (show r≠2 by omega)];rfl
theorem HU (id:Int) {l:List Pt} (hn:l.length<9223372036854775807) (z:Int×Int) (hz:0<=z.2):dV id l z.1 z.2=aL id l z.1 z.2:=by
 unfold dV aL;rw[PL,Eq id hn,tP];have hr:=Tg id hn z.2
 by_cases h1:z.2<(l.length:Int)
 · rw[ux h1,cT];by_cases h2:z.2<6
   · rw[ux h2,tP,tP,cT,cT,tP,S4 hr];obtain⟨k,hk⟩:∃k:Nat,z.2=(k:Int):=⟨z.2.toNat,by omega⟩;rw[hk,HT (by omega)];cases zm id l (k:Int)==1<;>cases zm id l (k:Int)==2<;>rfl
   · rw[uj h2];rfl
 · rw[uj h1];rfl
theorem S5 (id:Int) {l:List Pt} (hn:l.length<9223372036854775807):∃c:Nat,c<64/\gw id l=some (c:Int)/\fB id l=some (c:Int):=by
 obtain⟨v,h1,c,h2,rfl⟩:=uz (step:=λz:Int×Int=>aL id l z.1 z.2) (λk z=>z.2=(k:Int)/\∃c:Nat,c<64/\z.1=(c:Int)) (min l.length 6) (λv=>∃c:Nat,c<64/\v=(c:Int))
  (λk z hk ⟨e1,c,e2,e3⟩=>by
   obtain⟨b,i⟩:=z;simp only at e1 e3;subst e1 e3;left;have k6:k<6:=by omega
   obtain⟨t,d,b1,b2,b3,b4⟩:=Th ⟨c,e2⟩ ⟨k,k6⟩;have hs:aL id l (c:Int) (k:Int)=cond (zm id l (k:Int)==1||zm id l (k:Int)==2) (some (.inl ((d:Int),((k+1:Nat):Int)))) (some (.inl ((c:Int),((k+1:Nat):Int)))):=by
    unfold aL;rw[ux (show (k:Int)<(l.length:Int) by omega),ux (show (k:Int)<6 by omega),cT,tP,cT,Eq id hn,tP,b1,tP,b2,ua (by omega)];cases zm id l (k:Int)==1<;>cases zm id l (k:Int)==2<;>rfl
   show ∃y,aL id l (c:Int) (k:Int)=_/\_;rw[hs];cases (zm id l (k:Int)==1||zm id l (k:Int)==2)with
   | true=>exact⟨_,rfl,rfl,d.toNat,by omega,by show d=_;omega⟩
   | false=>exact⟨_,rfl,rfl,c,e2,rfl⟩)
  (λz ⟨e1,c,e2,e3⟩=>by
   obtain⟨b,i⟩:=z;simp only at e1 e3;subst e1 e3;refine⟨(c:Int),?_,c,e2,rfl⟩;show aL id l _ _=_
   unfold aL;by_cases h:l.length<=6
   · rw[Nat.min_eq_left h,uj (by omega)];rfl
   · rw[Nat.min_eq_right (by omega),ux (by omega),uj (show ¬(((6:Nat):Int)<6) by omega)];rfl) (x:=(0,0)) ⟨rfl,0,by omega,rfl⟩
 refine⟨c,h2,by unfold gw;rw[h1];rfl,?_⟩;unfold fB;rw[HR (f:=λz:Int×Int=>dV id l z.1 z.2) (g:=λz:Int×Int=>aL id l z.1 z.2) (λz=>0<=z.2/\z.2<=9223372036854775806) (λz hz=>HU id hn z hz.1) (λz y hz hy=>by
  have hy':dV id l z.1 z.2=some (.inl y):=hy;rw[HU id hn z hz.1]at hy';unfold aL at hy';by_cases h1:z.2<(l.length:Int)
  · by_cases h2:z.2<6
    · rw[ux h1,ux h2,cT,tP,cT,Eq id hn,tP]at hy';have hw:tR (z.2+1)=z.2+1:=uS (by omega) (by omega)
      rw[hw]at hy'
      revert hy'
      generalize (cond (zm id l z.2==1) (some true) (some (zm id l z.2==2)))=o;intro hy';cases o with
      | none=>cases hy'
      | some t =>
       rw[tP]at hy';cases t with
       | false=>cases hy';exact⟨by show 0<=z.2+1;omega,by show z.2+1<=_;omega⟩
       | true =>
        rw[cT]at hy';cases hs:shl .i64 1 z.2 with
        | none=>rw[hs]at hy';cases hy'
        | some q=>rw[hs]at hy';cases hy';exact⟨by show 0<=z.2+1;omega,by show z.2+1<=_;omega⟩
    · rw[ux h1,uj h2]at hy';cases hy'
  · rw[uj h1]at hy';cases hy') (x:=(0,0)) ⟨by decide,by decide⟩,h1]
 rfl
abbrev Uc (x:Int):Prop:=-9223372036854775808<=x/\x<=9223372036854775807
structure VT (v:vi) (n:Nat):Prop where
 p:ym v (n:Int)=true
 r:∀r∈v.1,Uc r.2.2
theorem VT.len {v:vi} {n:Nat} (h:VT v n):1<=n/\n<=6/\v.2.length=n/\v.1.length<=6:=by
 have hp:=h.p;unfold ym tX at hp;simp only[aT,Bool.not_eq_true',Bool.or_eq_false_iff,Bool.not_eq_false',aT,decide_eq_true_eq,decide_eq_false_iff_not,bne_eq_false_iff_eq]at hp;obtain⟨⟨h1,h2,h3⟩,_⟩:=hp;omega
theorem yh {α:Type} {l:List α} {a b:Nat} (h1:a<=b) (h2:b<=l.length):cut l (a:Int) (b:Int)=some ((l.take b).drop a):=by
 unfold cut;rw[if_pos (by omega),if_pos (by omega),if_pos (by omega)];simp
theorem u7 {α:Type} {xs ys:List α} (h:xs.length+ys.length<=4294967296):uv xs ys=some (xs++ys):=by
 unfold uv;rw[if_pos (show xs.length+ys.length<=Dc from h)]
def lt (a b:u0):Prop:=a.1<b.1\/(a.1=b.1/\a.2.1<b.2.1)
def same (a b:u0):Prop:=a.1=b.1/\a.2.1=b.2.1
theorem lt_trans {a b c:u0} (h:lt a b) (k:lt b c):lt a c:=by unfold lt at *;omega
structure FB (l:List u0):Prop where
 e:∀x∈l,Eo x=true
 o:l.Pairwise lt
 n:l.length<=12
theorem FB.ok {l:List u0} (h:FB l):zB l=true:=by
 unfold zB;have hn:=h.n
 rw[dT (show (l.length:Int)<=12 by omega),Bool.and_true,Bool.not_eq_true'];apply Bool.eq_false_iff.2;intro ha;obtain⟨k,hk,hx⟩:=any_eq_true.1 ha;have hk:=mem_range.1 hk
 unfold zk at hx;simp only[List.getElem?_eq_getElem hk,h.e _ (getElem_mem hk),Bool.not_true,Bool.false_or,aT,decide_eq_true_eq]at hx;obtain⟨h0,hx⟩:=hx;simp only[List.getElem?_eq_getElem (show k-1<l.length by omega),Bool.not_eq_true']at hx;have hl:=List.pairwise_iff_getElem.1 h.o (k-1) k (by omega) hk (by omega)
 unfold An at hx;simp only[Bool.or_eq_false_iff,Bool.and_eq_false_iff,decide_eq_false_iff_not,bF]at hx;unfold lt at hl;omega
theorem Ks {α β:Type} (l:List α) (i:Int) (f:α->Option β):((ix l.length i).bind λj=>(l[j]?).bind f)=(at? l i).bind f:=by
 unfold ix at?;by_cases h0:0<=i
 · rw[if_pos h0,if_pos h0];by_cases h1:i<(l.length:Int)
   · rw[if_pos h1,tP]
   · rw[if_neg h1,List.getElem?_eq_none (by omega)];rfl
 · rw[if_neg h0,if_neg h0];rfl
noncomputable def Er (b:tQ) (c p:Int):Int:=(bE b c p).getD 0
def num (name:List Int) (n:Int):tS:=([1,3,1]++name,2,n,[],[])
def Fr (r:ub) (c:Nat):Int:=match c with|0=>1|1=>r.2.1|_=>r.2.2
noncomputable def wM (b:tQ) (c:Nat):List tS:=(List.range b.2.2.1.length).map λk=>num [2,((c+1:Nat):Int),((k+1:Nat):Int)] (Er b ((c+1:Nat):Int) (k:Int))
def xX (b:tQ) (c:Nat):List tS:=b.2.2.2.2.1.map λr=>num [3,((c+1:Nat):Int),r.1] (Fr r c)
def Do (b:tQ):List tS:=b.2.2.2.1.map λe=>num [4,1,e.1,e.2.1] (tR (e.2.2.1+1))
noncomputable def wO (b:tQ):List tS:=Ab b++(List.range 4).flatMap (wM b)++(List.range 3).flatMap (xX b)++Do b
theorem GU {out:List tS} (name:List Int) (n i:Int) (h1:out.length<=900) (h2:name.length<=900):((aJ n).bind λv=>(aA v name).bind λt=>(uv out [t]).bind λzs=>some (Sum.inl (tR (i+1),zs):(Int×List tS)⊕List tS))=some (Sum.inl (tR (i+1),out++[num name n])):=by
 unfold aJ aA;rw[tP,u7 (by show 3+name.length<=_;omega),tP,tP,u7 (by show out.length+1<=_;omega),tP];rfl
theorem Ti {b:tQ} (h:zl b) (hq:b.2.2.1.length=b.2.2.2.2.2.1.length) (h6:b.2.2.1.length<=6) (c:Nat) (out:List tS) (ho:out.length<=500):loop (λz=>bm b ((c+1:Nat):Int) z.1 z.2) (0,out)=some (out++wM b c):=by
 obtain⟨v,h1,rfl⟩:=uz (step:=λz:Int×List tS=>bm b ((c+1:Nat):Int) z.1 z.2) (λk z=>z.1=(k:Int)/\z.2=out++(List.range k).map λk=>num [2,((c+1:Nat):Int),((k+1:Nat):Int)] (Er b ((c+1:Nat):Int) (k:Int))) b.2.2.1.length (λv=>v=out++wM b c)
  (λk z hk ⟨e1,e2⟩=>by
   obtain⟨i,l⟩:=z;simp only at e1 e2;subst e1;left;obtain⟨n,hn⟩:=Tf h ((c+1:Nat):Int) hk hq;have hv:Er b ((c+1:Nat):Int) (k:Int)=n:=by unfold Er;rw[hn];rfl
   have hl:l.length<=900:=by rw[e2];simp;omega
   refine⟨(((k+1:Nat):Int),l++[num [2,((c+1:Nat):Int),((k+1:Nat):Int)] n]),?_,rfl,?_⟩
   · show bm b ((c+1:Nat):Int) (k:Int) l=_;unfold bm;rw[ux (by omega),cT,hn,tP,GU _ _ _ hl (by simp),ua (by omega)]
   · show l++[num _ n]=_;rw[e2,range_succ,map_append,←append_assoc,List.map_singleton,hv])
  (λz ⟨e1,e2⟩=>by
   obtain⟨i,l⟩:=z;simp only at e1 e2;subst e1;refine⟨l,?_,e2⟩;show bm b ((c+1:Nat):Int) _ l=_
   unfold bm;rw[uj (by omega),cF]) (x:=(0,out)) ⟨rfl,by simp⟩
 exact h1
theorem S6 {b:tQ} (h:zl b) (hq:b.2.2.1.length=b.2.2.2.2.2.1.length) (h6:b.2.2.1.length<=6) (out:List tS) (ho:out.length<=100):loop (λz=>bG b z.1 z.2) (1,out)=some (out++(List.range 4).flatMap (wM b)):=by
 have hg:∀c,(wM b c).length<=6:=λc=>by unfold wM;rw[length_map,List.length_range];exact h6
 obtain⟨v,h1,rfl⟩:=uz (step:=λz:Int×List tS=>bG b z.1 z.2) (λk z=>z.1=((k+1:Nat):Int)/\z.2=out++(List.range k).flatMap (wM b)/\z.2.length<=100+6*k) 4 (λv=>v=out++(List.range 4).flatMap (wM b))
  (λk z hk ⟨e1,e2,e3⟩=>by
   obtain⟨i,l⟩:=z;simp only at e1 e2 e3;subst e1;left;have hg':=hg k
   refine⟨(((k+1+1:Nat):Int),l++wM b k),?_,rfl,?_,by show (l++wM b k).length<=_;rw[length_append];omega⟩
   · show bG b ((k+1:Nat):Int) l=_;unfold bG;rw[dT (show ((k+1:Nat):Int)<=4 by omega),cT,Ti h hq h6 k l (by omega),tP,ua (by omega)]
   · show l++wM b k=_;rw[e2,range_succ,List.flatMap_append,←append_assoc];simp)
  (λz ⟨e1,e2,e3⟩=>by
   obtain⟨i,l⟩:=z;simp only at e1 e2 e3;subst e1;exact⟨l,rfl,e2⟩) (x:=(1,out)) ⟨rfl,by simp,by show out.length<=_;omega⟩
 exact h1
theorem TV {b:tQ} (h6:b.2.2.2.2.1.length<=6) {c:Nat} (hc:c<3) (out:List tS) (ho:out.length<=500):loop (λz=>bn b ((c+1:Nat):Int) z.1 z.2) (0,out)=some (out++xX b c):=by
 obtain⟨v,h1,rfl⟩:=uz (step:=λz:Int×List tS=>bn b ((c+1:Nat):Int) z.1 z.2) (λk z=>z.1=(k:Int)/\z.2=out++(b.2.2.2.2.1.take k).map λr=>num [3,((c+1:Nat):Int),r.1] (Fr r c)) b.2.2.2.2.1.length (λv=>v=out++xX b c)
  (λk z hk ⟨e1,e2⟩=>by
   obtain⟨i,l⟩:=z;simp only at e1 e2;subst e1;left;have hl:l.length<=900:=by rw[e2];simp;omega
   refine⟨(((k+1:Nat):Int),l++[num [3,((c+1:Nat):Int),b.2.2.2.2.1[k].1] (Fr b.2.2.2.2.1[k] c)]),?_,rfl,?_⟩
   · show bn b ((c+1:Nat):Int) (k:Int) l=_;unfold bn;rw[ux (by omega),cT,ug hk,tP];generalize b.2.2.2.2.1[k]=r;have hw:tR (((c+1:Nat):Int)-1)=(c:Int):=by rw[uS (by omega) (by omega)];omega
     have hx:(ix [1,r.2.1,r.2.2].length (tR (((c+1:Nat):Int)-1))).bind (λj91=>([1,r.2.1,r.2.2][j91]?).bind λx92=>(aJ x92).bind λt93=>(aA t93 [3,((c+1:Nat):Int),r.1]).bind λt98=>(uv l [t98]).bind λzs100=>some (Sum.inl (tR ((k:Int)+1),zs100):(Int×List tS)⊕List tS))=(aJ (Fr r c)).bind λt93=>(aA t93 [3,((c+1:Nat):Int),r.1]).bind λt98=>(uv l [t98]).bind λzs100=>some (Sum.inl (tR ((k:Int)+1),zs100)):=by
      rw[hw,wl (show c<[1,r.2.1,r.2.2].length from hc),tP];rcases (show c=0\/c=1\/c=2 by omega)with rfl|rfl|rfl<;>rfl
     rw[hx,GU _ _ _ hl (by simp),ua (by omega)]
   · show l++[num _ _]=_;rw[e2,take_add_one,List.getElem?_eq_getElem hk,map_append,←append_assoc];rfl)
  (λz ⟨e1,e2⟩=>by
   obtain⟨i,l⟩:=z;simp only at e1 e2;subst e1;rw[take_length]at e2;refine⟨l,?_,e2⟩;show bn b ((c+1:Nat):Int) _ l=_
   unfold bn;rw[uj (by omega),cF]) (x:=(0,out)) ⟨rfl,by simp⟩
 exact h1
theorem Tj {b:tQ} (h6:b.2.2.2.2.1.length<=6) (out:List tS) (ho:out.length<=200):loop (λz=>bH b z.1 z.2) (1,out)=some (out++(List.range 3).flatMap (xX b)):=by
 have hg:∀c,(xX b c).length<=6:=λc=>by unfold xX;rw[length_map];exact h6
 obtain⟨v,h1,rfl⟩:=uz (step:=λz:Int×List tS=>bH b z.1 z.2) (λk z=>z.1=((k+1:Nat):Int)/\z.2=out++(List.range k).flatMap (xX b)/\z.2.length<=200+6*k) 3 (λv=>v=out++(List.range 3).flatMap (xX b))
  (λk z hk ⟨e1,e2,e3⟩=>by
   obtain⟨i,l⟩:=z;simp only at e1 e2 e3;subst e1;left;have hg':=hg k
   refine⟨(((k+1+1:Nat):Int),l++xX b k),?_,rfl,?_,by show (l++xX b k).length<=_;rw[length_append];omega⟩
   · show bH b ((k+1:Nat):Int) l=_;unfold bH;rw[dT (show ((k+1:Nat):Int)<=3 by omega),cT,TV h6 hk l (by omega),tP,ua (by omega)]
   · show l++xX b k=_;rw[e2,range_succ,List.flatMap_append,←append_assoc];simp)
  (λz ⟨e1,e2,e3⟩=>by
   obtain⟨i,l⟩:=z;simp only at e1 e2 e3;subst e1;exact⟨l,rfl,e2⟩) (x:=(1,out)) ⟨rfl,by simp,by show out.length<=_;omega⟩
 exact h1
theorem TW {b:tQ} (h12:b.2.2.2.1.length<=12) (out:List tS) (ho:out.length<=500):loop (λz=>aX b z.1 z.2) (0,out)=some (out++Do b):=by
 obtain⟨v,h1,rfl⟩:=uz (step:=λz:Int×List tS=>aX b z.1 z.2) (λk z=>z.1=(k:Int)/\z.2=out++(b.2.2.2.1.take k).map λe=>num [4,1,e.1,e.2.1] (tR (e.2.2.1+1))) b.2.2.2.1.length (λv=>v=out++Do b)
  (λk z hk ⟨e1,e2⟩=>by
   obtain⟨i,l⟩:=z;simp only at e1 e2;subst e1;left;have hl:l.length<=900:=by rw[e2];simp;omega
   refine⟨(((k+1:Nat):Int),l++[num [4,1,b.2.2.2.1[k].1,b.2.2.2.1[k].2.1] (tR (b.2.2.2.1[k].2.2.1+1))]),?_,rfl,?_⟩
   · show aX b (k:Int) l=_;unfold aX;rw[ux (by omega),cT,ug hk,tP,GU _ _ _ hl (by simp),ua (by omega)]
   · show l++[num _ _]=_;rw[e2,take_add_one,List.getElem?_eq_getElem hk,map_append,←append_assoc];rfl)
  (λz ⟨e1,e2⟩=>by
   obtain⟨i,l⟩:=z;simp only at e1 e2;subst e1;rw[take_length]at e2;refine⟨l,?_,e2⟩;show aX b _ l=_
   unfold aX;rw[uj (by omega),cF]) (x:=(0,out)) ⟨rfl,by simp⟩
 exact h1
structure vn (b:tQ):Prop where
 w:zl b
 ok:vc b=true
 p:∀x∈b.2.2.1,EJ x=true
 id:tX b.1 1 99=true
 name:b.2.1.length<=10
 n1:1<=b.2.2.1.length
 n6:b.2.2.1.length<=6
 f:zB b.2.2.2.1=true
 v:ym (b.2.2.2.2.1,b.2.2.2.2.2.1) (b.2.2.1.length:Int)=true
 c:wF b=true
theorem HV {b:tQ} (h:zl b) (hb:vc b=true):vn b:=by
 have hb':=hb;unfold vc at hb;simp only[aT,Bool.not_eq_true',decide_eq_false_iff_not]at hb;obtain⟨h1,h2,h3,h4,h5,h6,h7⟩:=hb;refine⟨h,hb',λx hx=>?_,h2,by omega,?_,?_,h5,h6,h7⟩
 · obtain⟨k,hk,rfl⟩:=getElem_of_mem hx;cases hp:EJ b.2.2.1[k]with
   | true=>rfl
   | false =>
    have:=any_eq_false.1 h1 k (mem_range.2 hk);unfold EK at this;simp only[List.getElem?_eq_getElem hk,hp]at this;exact absurd rfl this
 · unfold tX at h4;simp only[aT,decide_eq_true_eq]at h4;omega
 · unfold tX at h4;simp only[aT,decide_eq_true_eq]at h4;omega
theorem vn.vt {b:tQ} (h:vn b):VT (b.2.2.2.2.1,b.2.2.2.2.2.1) b.2.2.1.length:=⟨h.v,h.w.r⟩
theorem vn.f12 {b:tQ} (h:vn b):b.2.2.2.1.length<=12:=by
 have hf:=h.f;unfold zB at hf;simp only[aT,decide_eq_true_eq]at hf;omega
theorem S7 {b:tQ} (h:vn b):bo b=some (wO b):=by
 obtain⟨v1,v2,v3,v4⟩:=h.vt.len;have v3':b.2.2.2.2.2.1.length=b.2.2.1.length:=v3
 have v4':b.2.2.2.2.1.length<=6:=v4;have hp:((List.range 4).flatMap (wM b)).length<=24:=by
  have hg:∀c,(wM b c).length<=6:=λc=>by unfold wM;rw[length_map,List.length_range];exact h.n6
  have h0:=hg 0;have h1:=hg 1;have h2:=hg 2;have h3:=hg 3
  show (wM b 0++(wM b 1++(wM b 2++(wM b 3++[])))).length<=24;simp only[length_append,length_nil];omega
 have hr:((List.range 3).flatMap (xX b)).length<=18:=by
  have hg:∀c,(xX b c).length<=6:=λc=>by unfold xX;rw[length_map];exact v4'
  have h0:=hg 0;have h1:=hg 1;have h2:=hg 2
  show (xX b 0++(xX b 1++(xX b 2++[]))).length<=18;simp only[length_append,length_nil];omega
 have k5:(Ab b).length=5:=rfl;rw[RZ h.w,h.ok,Bool.not_true,cF];unfold FT;rw[S6 h.w v3'.symm h.n6 (Ab b) (by omega),tP,Tj v4' _ (by rw[length_append];omega),tP,TW h.f12 _ (by rw[length_append,length_append];omega),tP];rfl

theorem Es {α:Type} {R:α->α->Prop} (tr:∀a b c,R a b->R b c->R a c) {l:List α} (h:∀k (hk:k+1<l.length),R l[k] l[k+1]):l.Pairwise R:=by
 rw[List.pairwise_iff_getElem];intro i j hi hj hij
 induction j with
 | zero=>omega
 | succ j ih =>
  by_cases e:i=j
  · subst e;exact h i hj
  · exact tr _ _ _ (ih (by omega) (by omega)) (h j hj)
def GV (g c:Int) (x:tS):Prop:=∃t,x.1=1::3::1::g::c::t
theorem B4 {g c g' c':Int} {x y:tS} (hx:GV g c x) (hy:GV g' c' y) (h:g<g'\/(g=g'/\c<c')):x.1<y.1:=by
 obtain⟨t,ht⟩:=hx;obtain⟨s,hs⟩:=hy;rw[ht,hs];simp only[cons_lt_cons_iff,Int.lt_irrefl,false_or,true_and];rcases h with h|⟨h,k⟩
 · exact .inl h
 · exact .inr ⟨h,.inl k⟩
theorem BH {b:tQ} {c:Nat} {x:tS} (h:x∈wM b c):GV 2 ((c+1:Nat):Int) x:=by
 unfold wM at h;obtain⟨k,_,rfl⟩:=mem_map.1 h;exact⟨_,rfl⟩
theorem D7 {b:tQ} {c:Nat} {x:tS} (h:x∈xX b c):GV 3 ((c+1:Nat):Int) x:=by
 unfold xX at h;obtain⟨k,_,rfl⟩:=mem_map.1 h;exact⟨_,rfl⟩
theorem Ft {b:tQ} {x:tS} (h:x∈Do b):GV 4 1 x:=by
 unfold Do at h;obtain⟨k,_,rfl⟩:=mem_map.1 h;exact⟨_,rfl⟩
theorem Fu {b:tQ} {x:tS} (h:x∈Ab b):∃c,GV 1 c x:=by
 unfold Ab at h;simp only[mem_cons,not_mem_nil,or_false]at h;rcases h with rfl|rfl|rfl|rfl|rfl<;>exact⟨_,_,rfl⟩
theorem MT (b:tQ) (c:Nat):(wM b c).Pairwise λx y=>x.1<y.1:=by
 unfold wM;rw[List.pairwise_map];refine List.Pairwise.imp ?_ List.pairwise_lt_range;intro i j h;show (1::3::1::2::((c+1:Nat):Int)::((i+1:Nat):Int)::[])<(1::3::1::2::((c+1:Nat):Int)::((j+1:Nat):Int)::[])
 simp only[cons_lt_cons_iff,Int.lt_irrefl,false_or,true_and];exact .inl (by omega)
theorem J3 {b:tQ} (h:vn b):b.2.2.2.2.1.Pairwise λr s=>r.1<s.1:=by
 refine Es (R:=λ(r s:ub)=>r.1<s.1) (λ_ _ _ h k=>Int.lt_trans h k) λk hk=>?_;have hv:=h.v
 unfold ym at hv;simp only[aT,Bool.not_eq_true']at hv;have hx:=any_eq_false.1 hv.2.1 (k+1) (mem_range.2 hk)
 unfold Br at hx;simp only[List.getElem?_eq_getElem hk,Nat.add_sub_cancel,List.getElem?_eq_getElem (show k<b.2.2.2.2.1.length by omega),Bool.or_eq_true,aT,decide_eq_true_eq,not_or,not_and]at hx;have:=hx.2.1 (by omega)
 omega
theorem Ob {b:tQ} (h:vn b) (c:Nat):(xX b c).Pairwise λx y=>x.1<y.1:=by
 unfold xX;rw[List.pairwise_map];refine List.Pairwise.imp ?_ (J3 h);intro r s h;show (1::3::1::3::((c+1:Nat):Int)::r.1::[])<(1::3::1::3::((c+1:Nat):Int)::s.1::[])
 simp only[cons_lt_cons_iff,Int.lt_irrefl,false_or,true_and];exact .inl h
theorem P9 {b:tQ} (h:vn b):b.2.2.2.1.Pairwise lt:=by
 refine Es (R:=lt) (λ_ _ _=>lt_trans) λk hk=>?_;have hv:=h.f
 unfold zB at hv;simp only[aT,Bool.not_eq_true']at hv;have hx:=any_eq_false.1 hv.1 (k+1) (mem_range.2 hk)
 unfold zk at hx;simp only[List.getElem?_eq_getElem hk,Nat.add_sub_cancel,List.getElem?_eq_getElem (show k<b.2.2.2.1.length by omega),Bool.or_eq_true,aT,decide_eq_true_eq,not_or,not_and,Bool.not_eq_true',Bool.not_eq_false]at hx;have hp:=hx.2 (by omega)
 unfold An at hp;simp only[Bool.or_eq_true,aT,decide_eq_true_eq,beq_iff_eq]at hp;unfold lt;omega
theorem Pa {b:tQ} (h:vn b):(Do b).Pairwise λx y=>x.1<y.1:=by
 unfold Do;rw[List.pairwise_map];refine List.Pairwise.imp ?_ (P9 h);intro r s h;show (1::3::1::4::1::r.1::r.2.1::[])<(1::3::1::4::1::s.1::s.2.1::[])
 unfold lt at h;simp only[cons_lt_cons_iff,Int.lt_irrefl,false_or,true_and];rcases h with h|⟨h,k⟩
 · exact .inl h
 · exact .inr ⟨h,.inl k⟩
theorem Oc (b:tQ):(Ab b).Pairwise λx y=>x.1<y.1:=by
 unfold Ab;simp only[pairwise_cons,mem_cons,not_mem_nil,or_false,forall_eq_or_imp,forall_eq,List.Pairwise.nil,and_true,false_imp_iff,implies_true,cons_lt_cons_iff,Int.lt_irrefl,false_or,true_and];refine⟨⟨.inl (by decide),.inl (by decide),.inl (by decide),.inl (by decide)⟩,⟨.inl (by decide),.inl (by decide),.inl (by decide)⟩,⟨.inl (by decide),.inl (by decide)⟩,.inl (by decide)⟩
theorem Tk {α:Type} (f:Nat->List α):(List.range 4).flatMap f=f 0++(f 1++(f 2++(f 3++[]))):=rfl
theorem Tl {α:Type} (f:Nat->List α):(List.range 3).flatMap f=f 0++(f 1++(f 2++[])):=rfl
theorem HW {n:Nat} {f:Nat->List tS} {g:Int} (hp:∀c,(f c).Pairwise λx y=>x.1<y.1) (hh:∀c x,x∈f c->GV g ((c+1:Nat):Int) x):((List.range n).flatMap f).Pairwise λx y=>x.1<y.1:=by
 induction n with
 | zero=>exact List.Pairwise.nil
 | succ n ih =>
  rw[range_succ,List.flatMap_append,pairwise_append];refine⟨ih,by simp;exact hp n,λx hx y hy=>?_⟩;obtain⟨c,hc,hx⟩:=mem_flatMap.1 hx;have hc:=mem_range.1 hc
  simp at hy;exact B4 (hh c x hx) (hh n y hy) (.inr ⟨rfl,by omega⟩)
theorem Pb {b:tQ} (h:vn b):(wO b).Pairwise λx y=>x.1<y.1:=by
 unfold wO;rw[pairwise_append,pairwise_append,pairwise_append];refine⟨⟨⟨Oc b,HW (MT b) (λc x=>BH),λx hx y hy=>?_⟩,HW (Ob h) (λc x=>D7),λx hx y hy=>?_⟩,Pa h,λx hx y hy=>?_⟩
 · obtain⟨c,hc⟩:=Fu hx;obtain⟨d,_,hy⟩:=mem_flatMap.1 hy;exact B4 hc (BH hy) (.inl (by decide))
 · obtain⟨d,_,hy⟩:=mem_flatMap.1 hy;rcases mem_append.1 hx with hx|hx
   · obtain⟨c,hc⟩:=Fu hx;exact B4 hc (D7 hy) (.inl (by decide))
   · obtain⟨e,_,hx⟩:=mem_flatMap.1 hx;exact B4 (BH hx) (D7 hy) (.inl (by decide))
 · rcases mem_append.1 hx with hx|hx
   · rcases mem_append.1 hx with hx|hx
     · obtain⟨c,hc⟩:=Fu hx;exact B4 hc (Ft hy) (.inl (by decide))
     · obtain⟨e,_,hx⟩:=mem_flatMap.1 hx;exact B4 (BH hx) (Ft hy) (.inl (by decide))
   · obtain⟨e,_,hx⟩:=mem_flatMap.1 hx;exact B4 (D7 hx) (Ft hy) (.inl (by decide))
theorem S8 (p s t:List Int) {x y:Int} (h:x≠y):(p++x::s<p++y::t)↔x<y:=by
 induction p with
 | nil =>
  simp only[List.nil_append,cons_lt_cons_iff];exact⟨λk=>k.elim id λk=>absurd k.1 h,.inl⟩
 | cons a p ih=>simp only[List.cons_append,cons_lt_cons_iff,ih,Int.lt_irrefl,false_or,true_and]
theorem QB (p:List Int) {s:List Int} (h:s≠[]):p<p++s:=by
 induction p with
 | nil=>cases s with
  | nil=>exact absurd rfl h
  | cons a s=>exact List.nil_lt_cons a s
 | cons a p ih=>simp only[List.cons_append,cons_lt_cons_iff,Int.lt_irrefl,false_or,true_and];exact ih
theorem QC (p s:List Int):¬p++s<p:=by
 induction p with
 | nil=>exact List.not_lt_nil s
 | cons a p ih=>simp only[List.cons_append,cons_lt_cons_iff,Int.lt_irrefl,false_or,true_and];exact ih
theorem PM {a b:List Int} (h:b.length<9223372036854775807):eD a b=some (decide (a<b)):=by
 have hsplit:∀k,a.take k=b.take k->∀(ha:k<a.length) (hb:k<b.length),a=a.take k++a[k]::a.drop (k+1)/\b=a.take k++b[k]::b.drop (k+1):=by
  intro k e ha hb;refine⟨?_,?_⟩
  · rw[←drop_eq_getElem_cons ha,take_append_drop]
  · rw[e,←drop_eq_getElem_cons hb,take_append_drop]
 obtain⟨v,h1,h2⟩:=uz (step:=λz=>df a b z) (λk i=>i=(k:Int)/\a.take k=b.take k) (min a.length b.length) (λv=>(v=.inr (decide (a<b)))\/(v=.inl ()/\decide ((a.length:Int)<(b.length:Int))=decide (a<b)))
  (λk i hk ⟨e,ht⟩=>by
   subst e;have ha:k<a.length:=by omega
   have hb:k<b.length:=by omega
   have hs:df a b (k:Int)=cond (a[k] != b[k]) (some (.inr (.inr (decide (a[k]<b[k]))))) (some (.inl ((k+1:Nat):Int))):=by
    unfold df;rw[ux (show (k:Int)<(a.length:Int) by omega),ux (show (k:Int)<(b.length:Int) by omega),cT,tP,cT,ug ha,tP,ug hb,tP,ua (by omega),tP,tP]
   obtain⟨s1,s2⟩:=hsplit k ht ha hb;by_cases hne:a[k]=b[k]
   · refine .inl ⟨_,by rw[hs,show (a[k] != b[k])=false by simp[hne]];rfl,rfl,?_⟩;rw[take_add_one,take_add_one,List.getElem?_eq_getElem ha,List.getElem?_eq_getElem hb,ht,hne]
   · refine .inr ⟨_,by rw[hs,show (a[k] != b[k])=true from bne_iff_ne.2 hne];rfl,.inl ?_⟩
     congr 1
     apply decide_eq_decide.2;have:=S8 (a.take k) (a.drop (k+1)) (b.drop (k+1)) hne
     rw[←s1,←s2]at this;exact this.symm)
  (λi ⟨e,ht⟩=>by
   subst e;refine⟨.inl (),?_,.inr ⟨rfl,?_⟩⟩
   · show df a b _=_;unfold df;by_cases h:a.length<=b.length
     · rw[Nat.min_eq_left h,uj (by omega)];rfl
     · rw[Nat.min_eq_right (by omega),ux (by omega),uj (show ¬(b.length:Int)<(b.length:Int) by omega)];rfl
   · apply decide_eq_decide.2;by_cases h:a.length<=b.length
     · rw[Nat.min_eq_left h,take_length]at ht;have hb:b=a++b.drop a.length:=by
        have:=take_append_drop a.length b;rw[←ht]at this;exact this.symm
       constructor
       · intro hlt;have hd:b.drop a.length≠[]:=by
          intro h0;have:=congrArg List.length h0
          rw[length_drop]at this;simp at this;omega
         have:=QB a hd;rw[←hb]at this;exact this
       · intro hlt;by_cases he:a.length=b.length
         · have hd:b.drop a.length=[]:=List.drop_eq_nil_of_le (by omega);rw[hd,List.append_nil]at hb;rw[hb]at hlt;exact absurd hlt (List.lt_irrefl _)
         · omega
     · rw[Nat.min_eq_right (by omega),take_length]at ht;have ha:a=b++a.drop b.length:=by
        have:=take_append_drop b.length a;rw[ht]at this;exact this.symm
       constructor
       · intro hlt;omega
       · intro hlt;have:=QC b (a.drop b.length)
         rw[←ha]at this;exact absurd hlt this) (x:=0) ⟨rfl,by simp⟩
 unfold eD;rw[h1,tP];rcases h2 with rfl|⟨rfl,h2⟩
 · rfl
 · show some (decide _)=_;rw[h2]

theorem D8 {a b:List Int} (h:b.length<9223372036854775807):az a b=some (a==b):=by
 unfold az;by_cases hl:a.length=b.length
 · have e:((a.length:Int) != (b.length:Int))=false:=by rw[hl];simp
   rw[e,cF];obtain⟨v,h1,rfl⟩:=uz (step:=λz=>cU a b z) (λk i=>i=(k:Int)/\a.take k=b.take k) a.length (λv=>v=cond (a==b) (.inl ()) (.inr false))
    (λk i hk ⟨e,ht⟩=>by
     subst e;have hb:k<b.length:=by omega
     have hs:cU a b (k:Int)=cond (a[k] != b[k]) (some (.inr (.inr false))) (some (.inl ((k+1:Nat):Int))):=by
      unfold cU;rw[ux (by omega),cT,ug hk,tP,ug hb,tP,ua (by omega)]
     by_cases hne:a[k]=b[k]
     · refine .inl ⟨_,by rw[hs,show (a[k] != b[k])=false by simp[hne]];rfl,rfl,?_⟩;rw[take_add_one,take_add_one,List.getElem?_eq_getElem hk,List.getElem?_eq_getElem hb,ht,hne]
     · refine .inr ⟨_,by rw[hs,show (a[k] != b[k])=true from bne_iff_ne.2 hne];rfl,?_⟩;have:(a==b)=false:=by
        apply beq_eq_false_iff_ne.2;intro hab;subst hab;exact hne rfl
       rw[this];rfl)
    (λi ⟨e,ht⟩=>by
     subst e;have hab:a=b:=by
      rw[take_length,List.take_of_length_le (by omega)]at ht;exact ht
     exact⟨.inl (),by show cU a b _=_;unfold cU;rw[uj (by omega),cF],by rw[show (a==b)=true from beq_iff_eq.2 hab];rfl⟩) (x:=0) ⟨rfl,by simp⟩
   rw[h1,tP];cases (a==b)<;>rfl
 · have e:((a.length:Int) != (b.length:Int))=true:=by simp;omega
   have hne:(a==b)=false:=beq_eq_false_iff_ne.2 λh=>hl (by rw[h]);rw[e,cT,hne]
structure Nm (o:List Int):Prop where
 n1:1<=o.length
 n10:o.length<=10
 e:∀x∈o,tX x 0 100000=true
theorem Nm.ok {o:List Int} (h:Nm o):ah o=some true:=by
 have h10:=h.n10;have h1:=h.n1
 unfold ah;obtain⟨v,e,rfl⟩:=uz (step:=λz=>aD o z) (λk i=>i=(k:Int)) o.length (λv=>v=.inl ())
  (λk i hk e=>by
   subst e;refine .inl ⟨((k+1:Nat):Int),?_,rfl⟩;show aD o (k:Int)=_
   unfold aD;rw[ux (by omega),cT,ug hk,tP,xx,tP,h.e _ (getElem_mem hk),ua (by omega)];rfl)
  (λi e=>by
   subst e;exact⟨.inl (),by show aD o _=_;unfold aD;rw[uj (by omega),cF],rfl⟩) (x:=0) rfl
 rw[e,tP];show ((aa (o.length:Int) 1 10).bind λt=>some t)=_
 rw[xx,tP];unfold tX;rw[dT (by omega),dT (by omega)];rfl
inductive Vl:wN->Prop
 | num {n:Int} (h:tX n (-2147483648) 2147483647=true):Vl (2,n,[],[])
 | word {s:List UInt8} (h:s.length<=20):Vl (4,0,s,[])
theorem Vl.ok {v:wN} (h:Vl v):ai v=some true:=by
 cases h with
 | num h =>
  unfold ai av aU;simp only[xx,h,tP,D8 (show ([]:List Int).length<9223372036854775807 by decide)];simp
 | word h =>
  rename_i s;have hd:decide ((s.length:Int)<=20)=true:=dT (by omega)
  unfold ai aU;simp only[hd,tP,D8 (show ([]:List Int).length<9223372036854775807 by decide)];simp
theorem Vl.k {v:wN} (h:Vl v):(v.1==128)=false:=by cases h<;>rfl
theorem Vl.o {v:wN} (h:Vl v):v.2.2.2=[]:=by cases h<;>rfl
theorem Fv {n:Int} (h1:0<=n) (h2:n<=2147483647):tX n (-2147483648) 2147483647=true:=by unfold tX;rw[dT (by omega),dT (by omega)];rfl
theorem Bv {n a c:Int} (h1:a<=n) (h2:n<=c):tX n a c=true:=by unfold tX;rw[dT (by omega),dT (by omega)];rfl
theorem EL {n a c:Int} (h:tX n a c=true):a<=n/\n<=c:=by
 unfold tX at h;simp only[aT,decide_eq_true_eq]at h;exact h
theorem S9 {v:vi} (hn:v.1.length<9223372036854775807) {id r:Int} (h:aq v id=some r) (h0:¬r<0):∃x∈v.1,x.1=id:=by
 unfold aq at h;obtain⟨b,h1,h2⟩:=uz (β:=Unit⊕Int) (step:=λz=>aS v id z) (λk i=>i=(k:Int)) v.1.length (λb=>∀r,b=.inr r->∃x∈v.1,x.1=id)
  (λk i hk h=>by
   subst h;unfold aS;rw[ux (by omega),cT,ug hk,tP];cases hb:(v.1[k].1==id)with
   | true=>exact .inr ⟨_,rfl,λr hr=>⟨_,getElem_mem hk,eq_of_beq hb⟩⟩
   | false=>exact .inl ⟨_,rfl,ua (by omega)⟩)
  (λi h=>by
   subst h;unfold aS;rw[uj (by omega)];exact⟨_,rfl,λr hr=>by cases hr⟩) (x:=0) rfl
 rw[h1,tP]at h;cases b with
 | inl _=>cases h;exact absurd (by decide) h0
 | inr r'=>exact h2 r' rfl
theorem QD {id:Int} {l:List Pt} {p v:Int} (h:aF id l p=some v):1<=v/\v<=4:=by
 unfold aF at h;rw[xx,tP]at h;have key:∀(o:Option Bool) (f:Bool->Option Int),(∀t x,f t=some x->1<=x/\x<=4)->o.bind f=some v->1<=v/\v<=4:=by
  intro o f hf h;cases o with
  | none=>cases h
  | some t=>exact hf t v h
 refine key _ _ (λt x hx=>?_) h;cases t with
 | true=>cases hx;decide
 | false =>
  rw[cF]at hx;cases hbv:bj id l with
  | none=>rw[hbv]at hx;cases hx
  | some w =>
   rw[hbv,tP]at hx;cases hw:w.2==p with
   | true=>rw[hw]at hx;cases hx;decide
   | false =>
    rw[hw,cF]at hx;cases ha:at? l p with
    | none=>rw[ha]at hx;cases hx
    | some y =>
     rw[ha,tP]at hx
     revert hx
     generalize (cond (!y.2.2.1) _ _:Option Bool)=o;intro hx;cases o with
     | none=>cases hx
     | some t=>cases t<;>(cases hx;decide)
theorem LM {b:tQ} (h:vn b) {r:ub} (hr:r∈b.2.2.2.2.1):(1<=r.1/\r.1<=99)/\(0<=r.2.1/\r.2.1<=63)/\(0<=r.2.2/\r.2.2<=63):=by
 obtain⟨k,hk,rfl⟩:=getElem_of_mem hr;have hv:=h.v
 unfold ym at hv;simp only[aT,Bool.not_eq_true',Bool.or_eq_false_iff,Bool.not_eq_false']at hv;have hx:=any_eq_false.1 hv.2.1 k (mem_range.2 hk)
 unfold Br at hx;simp only[List.getElem?_eq_getElem hk,Bool.or_eq_true,Bool.not_eq_true',not_or,Bool.not_eq_false]at hx;obtain⟨x1,_,x3,x4⟩:=hx;have ht:=ML (i:=(b.2.2.1.length:Int)) hv.1.1
 have y1:=EL x1;have y3:=EL x3
 have x4:(EM .i64 b.2.2.2.2.1[k].2.2 b.2.2.2.2.1[k].2.1 != 0)=false:=by simpa using x4
 refine⟨y1,by omega,?_⟩;have hI:=h.w.r _ (getElem_mem hk)
 have hband:=EL (LK hI.1 hI.2 x3 ht.2 (by rw[J1 hI.1 hI.2];exact x4));omega
theorem QE {b:tQ} (h:vn b) {x:Int} (hx:x∈b.2.2.2.2.2.1):1<=x/\x<=99:=by
 obtain⟨k,hk,rfl⟩:=getElem_of_mem hx;have hv:=h.v
 have hn:b.2.2.2.2.1.length<9223372036854775807:=h.w.v;unfold ym at hv;simp only[aT,Bool.not_eq_true']at hv;have hq:=any_eq_false.1 hv.2.2 k (mem_range.2 hk)
 unfold Ep at hq;simp only[List.getElem?_eq_getElem hk]at hq;obtain⟨r,hr⟩:=O8 (v:=(b.2.2.2.2.1,b.2.2.2.2.2.1)) hn b.2.2.2.2.2.1[k];rw[hr]at hq;simp only[decide_eq_true_eq]at hq;obtain⟨y,hy,e⟩:=S9 (v:=(b.2.2.2.2.1,b.2.2.2.2.2.1)) hn hr hq;have:=(LM h (r:=y) hy).1
 rw[e]at this;exact this
theorem Pc {b:tQ} (h:vn b) (c:Int) {k:Nat} (hk:k<b.2.2.1.length):0<=Er b c (k:Int)/\Er b c (k:Int)<=1000:=by
 have v3:b.2.2.2.2.2.1.length=b.2.2.1.length:=h.vt.len.2.2.1;have hkq:k<b.2.2.2.2.2.1.length:=by omega
 obtain⟨r,hr⟩:=MO b.1 h.w.p (k:Int);have hr2:=QD hr
 have hp:=h.p _ (getElem_mem hk);unfold EJ at hp;simp only[aT]at hp;have hc:=EL hp.1
 have hq:=QE h (getElem_mem hkq);unfold Er bE eC;rw[ug hk,ug hkq,hr];simp only[tP];cases (c==1)with
 | true =>
  cases b.2.2.1[k].1 with
  | true=>show (0:Int)<=1/\(1:Int)<=1000;decide
  | false=>show (0:Int)<=0/\(0:Int)<=1000;decide
 | false =>
  cases (c==2)with
  | true=>show 0<=b.2.2.1[k].2.1/\b.2.2.1[k].2.1<=1000;omega
  | false =>
   cases (c==3)with
   | true=>show 0<=r/\r<=1000;omega
   | false=>show 0<=b.2.2.2.2.2.1[k]/\b.2.2.2.2.2.1[k]<=1000;omega
theorem Sa {b:tQ} (h:vn b) {e:u0} (he:e∈b.2.2.2.1):(1<=e.1/\e.1<=99)/\(1<=e.2.1/\e.2.1<=9999)/\(0<=e.2.2.1/\e.2.2.1<=7):=by
 obtain⟨k,hk,rfl⟩:=getElem_of_mem he;have hv:=h.f
 unfold zB at hv;simp only[aT,Bool.not_eq_true']at hv;have hx:=any_eq_false.1 hv.1 k (mem_range.2 hk)
 unfold zk at hx;simp only[List.getElem?_eq_getElem hk,Bool.or_eq_true,Bool.not_eq_true',not_or,Bool.not_eq_false]at hx;have hf:=hx.1
 unfold Eo at hf;simp only[aT]at hf;exact⟨EL hf.1,EL hf.2.1,EL hf.2.2.1⟩
theorem Od {b:tQ} (h:vn b):(0<=b.2.2.2.2.2.2.1/\b.2.2.2.2.2.2.1<=1000000)/\(0<=b.2.2.2.2.2.2.2.1/\b.2.2.2.2.2.2.2.1<=1000000)/\(0<=b.2.2.2.2.2.2.2.2.1/\b.2.2.2.2.2.2.2.2.1<=1000000)/\(0<=b.2.2.2.2.2.2.2.2.2.1/\b.2.2.2.2.2.2.2.2.2.1<=1000000)/\(0<=b.2.2.2.2.2.2.2.2.2.2/\b.2.2.2.2.2.2.2.2.2.2<=1000000):=by
 have hc:=h.c;unfold wF at hc;simp only[aT]at hc;exact⟨EL hc.1,EL hc.2.1,EL hc.2.2.1,EL hc.2.2.2.1,EL hc.2.2.2.2⟩
theorem Oe {a b:Int} (ha:0<=a/\a<=100000) (hb:0<=b/\b<=100000):Nm [1,3,1,a,b]:=⟨by simp,by simp,λx hx=>by
 simp only[mem_cons,not_mem_nil,or_false]at hx;rcases hx with rfl|rfl|rfl|rfl|rfl
 · decide
 · decide
 · decide
 · exact Bv ha.1 ha.2
 · exact Bv hb.1 hb.2⟩
theorem Tx {a b c:Int} (ha:0<=a/\a<=100000) (hb:0<=b/\b<=100000) (hc:0<=c/\c<=100000):Nm [1,3,1,a,b,c]:=⟨by simp,by simp,λx hx=>by
 simp only[mem_cons,not_mem_nil,or_false]at hx;rcases hx with rfl|rfl|rfl|rfl|rfl|rfl
 · decide
 · decide
 · decide
 · exact Bv ha.1 ha.2
 · exact Bv hb.1 hb.2
 · exact Bv hc.1 hc.2⟩
theorem Ud {a b c d:Int} (ha:0<=a/\a<=100000) (hb:0<=b/\b<=100000) (hc:0<=c/\c<=100000) (hd:0<=d/\d<=100000):Nm [1,3,1,a,b,c,d]:=⟨by simp,by simp,λx hx=>by
 simp only[mem_cons,not_mem_nil,or_false]at hx;rcases hx with rfl|rfl|rfl|rfl|rfl|rfl|rfl
 · decide
 · decide
 · decide
 · exact Bv ha.1 ha.2
 · exact Bv hb.1 hb.2
 · exact Bv hc.1 hc.2
 · exact Bv hd.1 hd.2⟩
theorem Cw {b:tQ} (h:vn b):∀x∈wO b,Nm x.1/\Vl x.2:=by
 intro x hx;obtain⟨t1,t2,t3,t4,_⟩:=Od h;have hn6:=h.n6
 unfold wO at hx;simp only[mem_append]at hx;rcases hx with ((hx|hx)|hx)|hx
 · unfold Ab at hx;simp only[mem_cons,not_mem_nil,or_false]at hx;have hname:=h.name
   rcases hx with rfl|rfl|rfl|rfl|rfl
   · exact⟨Oe (by decide) (by decide),.word (by omega)⟩
   · exact⟨Oe (by decide) (by decide),.num (Fv t1.1 (by omega))⟩
   · exact⟨Oe (by decide) (by decide),.num (Fv t2.1 (by omega))⟩
   · exact⟨Oe (by decide) (by decide),.num (Fv t3.1 (by omega))⟩
   · exact⟨Oe (by decide) (by decide),.num (Fv t4.1 (by omega))⟩
 · obtain⟨c,hc,hx⟩:=mem_flatMap.1 hx;have hc:=mem_range.1 hc
   unfold wM at hx;obtain⟨k,hk,rfl⟩:=mem_map.1 hx;have hk:=mem_range.1 hk
   have hp:=Pc h ((c+1:Nat):Int) hk;exact⟨Tx (by decide) (by omega) (by omega),.num (Fv hp.1 (by omega))⟩
 · obtain⟨c,hc,hx⟩:=mem_flatMap.1 hx;have hc:=mem_range.1 hc
   unfold xX at hx;obtain⟨r,hr,rfl⟩:=mem_map.1 hx;obtain⟨r1,r2,r3⟩:=LM h hr;refine⟨Tx (by decide) (by omega) (by omega),.num ?_⟩;unfold Fr;split
   · decide
   · exact Fv r2.1 (by omega)
   · exact Fv r3.1 (by omega)
 · unfold Do at hx;obtain⟨e,he,rfl⟩:=mem_map.1 hx;obtain⟨e1,e2,e3⟩:=Sa h he;refine⟨Ud (by decide) (by decide) (by omega) (by omega),.num ?_⟩;rw[uS (by omega) (by omega)];exact Fv (by omega) (by omega)
theorem QF {b:tQ} (h:vn b):(wO b).length=5+4*b.2.2.1.length+3*b.2.2.2.2.1.length+b.2.2.2.1.length:=by
 have hp:∀c,(wM b c).length=b.2.2.1.length:=λc=>by unfold wM;rw[length_map,List.length_range]
 have hr:∀c,(xX b c).length=b.2.2.2.2.1.length:=λc=>by unfold xX;rw[length_map]
 have hf:(Do b).length=b.2.2.2.1.length:=by unfold Do;rw[length_map]
 have k5:(Ab b).length=5:=rfl;unfold wO;rw[Tk,Tl];simp only[length_append,length_nil,hp,hr,hf,k5];omega
theorem Of {b:tQ} (h:vn b):(wO b).length<=59:=by
 have h1:=QF h;have h2:=h.n6
 have h3:b.2.2.2.2.1.length<=6:=h.vt.len.2.2.2;have h4:=h.f12
 omega
theorem TX {b:tQ} (h:vn b) {o:List Int} (ho:o.length<9223372036854775807):∃v,bI b o=some v/\((∃x∈wO b,x.1=o/\v=x.2)\/((∀x∈wO b,x.1≠o)/\v=(128,0,[],[]))):=by
 have hle:=Of h;obtain⟨v,h1,h2⟩:=uz (step:=λz:Int×Int×Int×List UInt8×List Int=>aY o (wO b) z.1 z.2.1 z.2.2.1 z.2.2.2.1 z.2.2.2.2) (λk z=>z=((k:Int),0,0,[],[])/\∀x∈(wO b).take k,x.1≠o) (wO b).length (λv=>(∃x∈wO b,x.1=o/\v=.inr x.2)\/((∀x∈wO b,x.1≠o)/\∃u,v=.inl u))
  (λk z hk ⟨e,hx⟩=>by
   subst e;have hs:aY o (wO b) (k:Int) 0 0 [] []=cond ((wO b)[k].1==o) (some (.inr (.inr (wO b)[k].2))) (some (.inl (((k+1:Nat):Int),0,0,[],[]))):=by
    unfold aY;rw[ux (by omega),cT]
    try rw[Ks]
    rw[ug hk,tP,D8 ho,tP,ua (by omega)]
   show (∃y,aY o (wO b) (k:Int) 0 0 [] []=_/\_)\/(∃v,aY o (wO b) (k:Int) 0 0 [] []=_/\_);rw[hs];cases hb:((wO b)[k].1==o)with
   | true=>exact .inr ⟨_,rfl,.inl ⟨_,getElem_mem hk,eq_of_beq hb,rfl⟩⟩
   | false =>
    refine .inl ⟨_,rfl,rfl,λx hx'=>?_⟩;rw[take_add_one,List.getElem?_eq_getElem hk,mem_append]at hx';rcases hx' with hx'|hx'
    · exact hx x hx'
    · simp at hx';subst hx';exact beq_eq_false_iff_ne.1 hb)
  (λz ⟨e,hx⟩=>by
   subst e;rw[take_length]at hx;refine⟨.inl (0,0,[],[]),?_,.inr ⟨hx,_,rfl⟩⟩;show aY o (wO b) _ 0 0 [] []=_
   unfold aY;rw[uj (by omega),cF]) (x:=(0,0,0,[],[])) ⟨rfl,by simp⟩
 unfold bI;rw[S7 h,tP,h1,tP];rcases h2 with ⟨x,hx,e,rfl⟩|⟨hx,u,rfl⟩
 · exact⟨_,rfl,.inl ⟨x,hx,e,rfl⟩⟩
 · exact⟨_,rfl,.inr ⟨hx,rfl⟩⟩

structure At (m:List tS) (o:List Int) (j:Nat):Prop where
 le:j<=m.length
 no:∀i (hi:i<m.length),i<j->¬o<m[i].1
 yes:∀i (hi:i<m.length),j<=i->o<m[i].1
theorem Tm {m:List tS} (hp:m.Pairwise λx y=>x.1<y.1) (o:List Int):∃j,At m o j:=by
 have hp:=List.pairwise_iff_getElem.1 hp;have key:∀n,n<=m.length->(∀i (hi:i<m.length),i<n->¬o<m[i].1)\/∃j,At m o j:=by
  intro n
  induction n with
  | zero=>exact λ_=>.inl λi hi h=>by omega
  | succ n ih =>
   intro hn;rcases ih (by omega)with h|h
   · by_cases hlt:o<m[n].1
     · refine .inr ⟨n,by omega,h,λi hi hni=>?_⟩;by_cases e:i=n
       · subst e;exact hlt
       · exact List.lt_trans hlt (hp n i (by omega) hi (by omega))
     · refine .inl λi hi hin=>?_;by_cases e:i=n
       · subst e;exact hlt
       · exact h i hi (by omega)
   · exact .inr h
 rcases key m.length (Nat.le_refl _)with h|h
 · exact⟨m.length,Nat.le_refl _,λi hi _=>h i hi hi,λi hi h=>by omega⟩
 · exact h
theorem Sb {b:tQ} (h:vn b) {o:List Int} (ho:o.length<=1048576) {j:Nat} (hj:At (wO b) o j):aK b o=some (if h:j<(wO b).length then (wO b)[j]else (o,130,0,[],[])):=by
 have hle:=Of h;have hjl:=hj.le
 obtain⟨v,h1,h2⟩:=uz (step:=λz:Int×Int×Int×List UInt8×List Int×List Int=>bJ o (wO b) z.1 z.2.1 z.2.2.1 z.2.2.2.1 z.2.2.2.2.1 z.2.2.2.2.2) (λk z=>z=((k:Int),0,0,[],[],[])) j (λv=>if h:j<(wO b).length then v=.inr (wO b)[j]else ∃u,v=.inl u)
  (λk z hk e=>by
   subst e;have hkl:k<(wO b).length:=by omega
   have hn:=(Cw h _ (getElem_mem hkl)).1.n10;refine .inl ⟨(((k+1:Nat):Int),0,0,[],[],[]),?_,rfl⟩;show bJ o (wO b) (k:Int) 0 0 [] [] []=_
   unfold bJ;rw[ux (by omega),cT]
   try rw[Ks]
   rw[ug hkl,tP,PM (by omega),dF (hj.no k hkl hk),tP,cF,ua (by omega)])
  (λz e=>by
   subst e;show ∃v,bJ o (wO b) (j:Int) 0 0 [] [] []=_/\_
   unfold bJ;by_cases hjn:j<(wO b).length
   · have hn:=(Cw h _ (getElem_mem hjn)).1.n10;rw[ux (by omega),cT]
     try rw[Ks]
     rw[ug hjn,tP,PM (by omega),dT (hj.yes j hjn (Nat.le_refl _)),tP,cT];exact⟨_,rfl,by rw[dif_pos hjn]⟩
   · rw[uj (by omega),cF];exact⟨_,rfl,by rw[dif_neg hjn];exact⟨_,rfl⟩⟩) (x:=(0,0,0,[],[],[])) rfl
 unfold aK;rw[S7 h,tP,h1,tP];by_cases hjn:j<(wO b).length
 · rw[dif_pos hjn]at h2;rw[dif_pos hjn,h2];rfl
 · rw[dif_neg hjn]at h2;obtain⟨u,rfl⟩:=h2;rw[dif_neg hjn];show ((aI o).bind _)=_
   unfold aI;rw[u7 (by show 0+o.length<=_;omega)];rfl
theorem Tn {b:tQ} (h:vn b) {o:List Int} (ho:o.length<=1000) {j:Nat} (hj:At (wO b) o j):aK b o=some (if h:j<(wO b).length then (wO b)[j]else (o,130,0,[],[])):=Sb h (by omega) hj
theorem xo {α:Type} {ys:List α} (h:ys.length<=M):uv [] ys=some ys:=by
 unfold uv;rw[if_pos (by show 0+ys.length<=4294967296;have h':ys.length<=1048576:=h;omega)];rfl
theorem Et {l:List Int} (h:l.length<=M):aI l=some l:=by unfold aI;rw[xo h];rfl
theorem D9 {l:List Int} (h:l.length<=M):bA l=some l:=by unfold bA;rw[xo h];rfl
theorem QG {l:List u0} (h:l.length<=M):gg l=some l:=by unfold gg;rw[xo h];rfl
theorem Pd {l:List u0} (h:l.length<=M):fh l=some l:=by unfold fh;rw[xo h];rfl
theorem GW {v:vi} (h:v.1.length<=M/\v.2.length<=M):cN v=some v:=by
 unfold cN;rw[xo h.1,tP,Et h.2];rfl
theorem Og {v:vi} (h:v.1.length<=M/\v.2.length<=M):fi v=some v:=by
 unfold fi;rw[xo h.1,tP,xo h.2];rfl
theorem z9 {b:tQ} (h:yH M b):aj b=some b:=by
 obtain⟨h1,h2,h3,h4,h5⟩:=h;unfold aj;rw[xo h2,tP,QG h3,tP,GW ⟨h4,h5⟩];rfl
theorem xq {b:tQ} (h:yH M b):ak b=some b:=by
 obtain⟨h1,h2,h3,h4,h5⟩:=h;unfold ak;rw[xo h2,tP,Pd h3,tP,Og ⟨h4,h5⟩];rfl
theorem QH {x:tS} (h:Cs.wf u9 x):Bm maxLen x:=by
 simp only[u9,Cs.wf,CT.wf]at h;exact⟨h.1.1,h.2.2.2.1,h.2.2.2.2.1⟩
theorem Sc {j:ut} (h:Cs.wf vJ j):Gq maxLen j:=by
 simp only[vJ,Cs.wf,CT.wf]at h;obtain⟨_,h1,_,_,_,_,_,h2,_,h3,h4,h5,h6,h7,_⟩:=h;refine⟨h1.1,⟨h2.1,λx hx=>QH ?_⟩,⟨h3,h4.1,h5.1,h6.1,h7.1⟩⟩;have:=h2.2 x hx
 simpa only[u9,Cs.wf,CT.wf]using this
theorem Pe {a:ue} (h:Cs.wf uP a):Bu maxLen a:=by
 simp only[uP,Cs.wf,CT.wf]at h;obtain⟨_,h1,h2,h3,h4,h5,_,_,_,_,_,h6,h7,_⟩:=h;refine⟨⟨h1,h2.1,h3.1,h4.1,h5.1⟩,h6,h7.1,λx hx=>Sc ?_⟩;have:=h7.2 x hx
 simpa only[vJ,Cs.wf,CT.wf]using this

def Ip (o:List Int) (k:Nat):Bool:=match o[k]? with|some x=>!(tX x 0 100000)|none=>false
def xd (o:List Int):Bool:=!((List.range o.length).any (Ip o))&&tX (o.length:Int) 1 10
theorem Eu {o:List Int} (h:o.length<9223372036854775807):ah o=some (xd o):=by
 unfold ah xd;have e:loop (λz=>aD o z) 0=some (cond ((List.range o.length).any (Ip o)) (Sum.inr false) (Sum.inl ())):=by
  rw[←xP (n:=o.length) (c:=λi=>(at? o i).bind λx=>(aa x 0 100000).bind λt=>some (!t)) (b:=Ip o) h (λk hk=>by
   simp only[ug hk,tP,Ip,List.getElem?_eq_getElem hk,xx])]
  refine wz (λi=>?_) 0;unfold aD;simp only[Option.bind_assoc,tP]
 rw[e,tP];cases (List.range o.length).any (Ip o)with
 | true=>rfl
 | false=>simp only[cF,Sum.elim_inl,xx,tP,Bool.not_false,Bool.true_and]
theorem Kt:ba=ah:=rfl
theorem PN (n:Int):∃c,aM n=some c/\(c==n)=tX n (-2147483648) 2147483647:=by
 unfold aM tX;by_cases h1:n>2147483647
 · refine⟨_,by rw[dT h1];rfl,?_⟩;rw[dF (show ¬n<=2147483647 by omega),Bool.and_false];exact beq_eq_false_iff_ne.2 (by omega)
 · by_cases h2:n < -2147483648
   · refine⟨_,by rw[dF h1,dT h2];rfl,?_⟩;rw[dF (show ¬n >= -2147483648 by omega),Bool.false_and];exact beq_eq_false_iff_ne.2 (by omega)
   · refine⟨_,by rw[dF h1,dF h2];rfl,?_⟩;rw[dT (show n >= -2147483648 by omega),dT (show n<=2147483647 by omega),beq_self_eq_true];rfl
theorem QI (l:List Int):az l []=some ((l.length:Int)==0):=by
 cases l with
 | nil=>exact zZ (n:=0) (Ei (a:=[]) (by decide))
 | cons x l =>
  unfold az;have e:(((x::l).length:Int) != (([]:List Int).length:Int))=true:=by simp;omega
  rw[e,cT,beq_eq_false_iff_ne.2 (by simp;omega)]
theorem Pf {l:List Int} (h:l.length<=M):az l l=some true:=zZ (Ei (xO h))
def xY (v:wN):Bool :=
 cond (v.1==5||(v.1==128||v.1==130)) (v.2.1==0&&(v.2.2.1==[]&&((v.2.2.2.length:Int)==0)))
  (cond (v.1==2) (tX v.2.1 (-2147483648) 2147483647&&(v.2.2.1==[]&&((v.2.2.2.length:Int)==0)))
   (cond (v.1==4) (decide ((v.2.2.1.length:Int)<=20)&&(v.2.1==0&&((v.2.2.2.length:Int)==0)))
    (cond (v.1==6) (xd v.2.2.2&&(v.2.1==0&&(v.2.2.1==[]))) false)))
theorem GX {v:wN} (h:v.2.2.2.length<=M):ai v=some (xY v):=by
 obtain⟨k,n,s,o⟩:=v;have h':o.length<=1048576:=h
 have ho:o.length<=M:=h;have hb:o.length<9223372036854775807:=by omega
 unfold ai xY aU av;simp only[xx,QI,Pf ho,Eu hb,tP];by_cases h2:k=2
 · subst h2;cases tX n (-2147483648) 2147483647<;>cases s==[]<;>cases (o.length:Int)==0<;>simp
 by_cases h4:k=4
 · subst h4;cases decide ((s.length:Int)<=20)<;>cases n==0<;>cases (o.length:Int)==0<;>simp
 by_cases h6:k=6
 · subst h6;cases xd o<;>cases n==0<;>cases s==[]<;>simp
 rw[beq_eq_false_iff_ne.2 h2,beq_eq_false_iff_ne.2 h4,beq_eq_false_iff_ne.2 h6];by_cases h5:k=5
 · subst h5;cases n==0<;>cases s==[]<;>cases (o.length:Int)==0<;>simp
 by_cases h128:k=128
 · subst h128;cases n==0<;>cases s==[]<;>cases (o.length:Int)==0<;>simp
 by_cases h130:k=130
 · subst h130;cases n==0<;>cases s==[]<;>cases (o.length:Int)==0<;>simp
 rw[beq_eq_false_iff_ne.2 h5,beq_eq_false_iff_ne.2 h128,beq_eq_false_iff_ne.2 h130];rfl
theorem Iq {v:wN} (h:v.2.2.2.length<=M):aN v=some (xY v):=by
 obtain⟨k,n,s,o⟩:=v;have h':o.length<=1048576:=h
 have hb:o.length<9223372036854775807:=by omega
 obtain⟨c,hc,hc2⟩:=PN n;unfold aN xY;simp only[Kt,Eu hb,hc,hc2,tP];by_cases h5:k=5
 · subst h5;cases n==0<;>cases s==[]<;>cases (o.length:Int)==0<;>simp
 by_cases h128:k=128
 · subst h128;cases n==0<;>cases s==[]<;>cases (o.length:Int)==0<;>simp
 by_cases h130:k=130
 · subst h130;cases n==0<;>cases s==[]<;>cases (o.length:Int)==0<;>simp
 rw[beq_eq_false_iff_ne.2 h5,beq_eq_false_iff_ne.2 h128,beq_eq_false_iff_ne.2 h130];by_cases h2:k=2
 · subst h2;cases tX n (-2147483648) 2147483647<;>cases s==[]<;>cases (o.length:Int)==0<;>simp
 by_cases h4:k=4
 · subst h4;cases decide ((s.length:Int)<=20)<;>cases n==0<;>cases (o.length:Int)==0<;>simp
 by_cases h6:k=6
 · subst h6;cases xd o<;>cases n==0<;>cases s==[]<;>simp
 rw[beq_eq_false_iff_ne.2 h2,beq_eq_false_iff_ne.2 h4,beq_eq_false_iff_ne.2 h6];rfl
def yT (x:tS):Bool:=xd x.1&&xY x.2
def bX (l:List tS) (k:Nat):Bool:=match l[k]? with|some x=>!(yT x)|none=>false
def vM (p:uq):Bool :=
 (!((List.range p.2.2.2.2.length).any (bX p.2.2.2.2))&&decide ((p.2.2.2.2.length:Int)<=10)) &&
 (cond (p.1==162||p.1==165) (tX p.2.2.1 0 1000&&tX p.2.2.2.1 0 1000)
  (cond (p.1==160||(p.1==161||p.1==163)) (p.2.2.1==0&&p.2.2.2.1==0) false)&&tX p.2.1 (-2147483648) 2147483647)
theorem Sd {n:Nat} {f g:Nat->Bool}:(List.range n).any (λk=>f k||g k)=((List.range n).any f||(List.range n).any g):=by
 generalize List.range n=l
 induction l with
 | nil=>rfl
 | cons a l ih=>simp only[List.any_cons,ih];cases f a<;>cases g a<;>simp
theorem QJ (n:Nat):(List.range n).any (λk=>decide ((k:Int)>=10))=!(decide ((n:Int)<=10)):=by
 by_cases h:(n:Int)<=10
 · rw[dT h];refine Bool.eq_false_iff.2 λha=>?_;obtain⟨k,h1,h2⟩:=any_eq_true.1 ha;have:=mem_range.1 h1
   have:=of_decide_eq_true h2;omega
 · rw[dF h];exact any_eq_true.2 ⟨10,mem_range.2 (by omega),by decide⟩
theorem Pg {p:uq} (h:wo M p):loop (λz=>gl p z) 0=some (cond (!(decide ((p.2.2.2.2.length:Int)<=10))||(List.range p.2.2.2.2.length).any (bX p.2.2.2.2)) (Sum.inr false) (Sum.inl ())):=by
 obtain⟨k,i,e,x,l⟩:=p;have h':Aa M l:=h
 have hl:l.length<=1048576:=h'.1;show loop (λz=>gl (k,i,e,x,l) z) 0=some (cond (!(decide ((l.length:Int)<=10))||(List.range l.length).any (bX l)) (Sum.inr false) (Sum.inl ()))
 rw[←QJ,←Sd,←xP (n:=l.length) (c:=λi=>(at? l i).bind λx=>(cond (decide (i>=10)) (some true) ((ah x.1).bind λt=>some (!t))).bind λt=>(cond t (some true) ((ai x.2).bind λt=>some (!t)))) (b:=λk=>decide ((k:Int)>=10)||bX l k) (by omega) (λk hk=>by
  have hx:Bm M l[k]:=h'.2 _ (getElem_mem hk);have h1:l[k].1.length<=1048576:=hx.1
  have h2:l[k].2.2.2.2.length<=M:=hx.2.2;simp only[ug hk,tP,bX,List.getElem?_eq_getElem hk,Eu (show l[k].1.length<9223372036854775807 by omega),GX (v:=l[k].2) h2,yT];cases decide ((k:Int)>=10)<;>cases xd l[k].1<;>cases xY l[k].2<;>rfl)]
 refine wz (λi=>?_) 0;unfold gl;simp only[Option.bind_assoc,tP]
theorem Oh {p:uq} (h:wo M p):loop (λz=>fp p z) 0=some (cond ((List.range p.2.2.2.2.length).any (bX p.2.2.2.2)) (Sum.inr false) (Sum.inl ())):=by
 obtain⟨k,i,e,x,l⟩:=p;have h':Aa M l:=h
 have hl:l.length<=1048576:=h'.1;show loop (λz=>fp (k,i,e,x,l) z) 0=some (cond ((List.range l.length).any (bX l)) (Sum.inr false) (Sum.inl ()))
 rw[←xP (n:=l.length) (c:=λi=>(at? l i).bind λx=>(ba x.1).bind λt=>(cond (!t) (some true) ((at? l i).bind λx=>(aN x.2).bind λt=>some (!t)))) (b:=bX l) (by omega) (λk hk=>by
  have hx:Bm M l[k]:=h'.2 _ (getElem_mem hk);have h1:l[k].1.length<=1048576:=hx.1
  have h2:l[k].2.2.2.2.length<=M:=hx.2.2;simp only[ug hk,tP,bX,List.getElem?_eq_getElem hk,Kt,Eu (show l[k].1.length<9223372036854775807 by omega),Iq (v:=l[k].2) h2,yT];cases xd l[k].1<;>cases xY l[k].2<;>rfl)]
 refine wz (λi=>?_) 0;unfold fp;simp only[Option.bind_assoc,tP]
theorem Ph {p:uq} (h:wo M p):cg p=some (vM p):=by
 have e0:=Pg h;have e1:loop (λz=>lX p z) 0=_:=e0
 have e2:loop (λz=>lY p z) 0=_:=e0;have e3:loop (λz=>lZ p z) 0=_:=e0
 have e4:loop (λz=>m5 p z) 0=_:=e0;have e5:loop (λz=>m6 p z) 0=_:=e0
 have e6:loop (λz=>m7 p z) 0=_:=e0;have e7:loop (λz=>m8 p z) 0=_:=e0
 have e8:loop (λz=>m9 p z) 0=_:=e0;unfold cg vM av;rw[e0,e1,e2,e3,e4,e5,e6,e7,e8];simp only[xx,tP];generalize (List.range p.2.2.2.2.length).any (bX p.2.2.2.2)=u;generalize decide ((p.2.2.2.2.length:Int)<=10)=w;generalize tX p.2.1 (-2147483648) 2147483647=x;generalize p.2.2.1=e;generalize p.2.2.2.1=i;generalize p.1=k;by_cases h0:k=160
 · subst h0;have b1:(e != 0)=!(e==0):=rfl
   have b2:(i != 0)=!(i==0):=rfl;rw[b1,b2];cases e==0<;>cases i==0<;>cases u<;>cases w<;>cases x<;>rfl
 by_cases h1:k=161
 · subst h1;have b1:(e != 0)=!(e==0):=rfl
   have b2:(i != 0)=!(i==0):=rfl;rw[b1,b2];cases e==0<;>cases i==0<;>cases u<;>cases w<;>cases x<;>rfl
 by_cases h3:k=163
 · subst h3;have b1:(e != 0)=!(e==0):=rfl
   have b2:(i != 0)=!(i==0):=rfl;rw[b1,b2];cases e==0<;>cases i==0<;>cases u<;>cases w<;>cases x<;>rfl
 by_cases h2:k=162
 · subst h2;cases tX e 0 1000<;>cases tX i 0 1000<;>cases u<;>cases w<;>cases x<;>rfl
 by_cases h5:k=165
 · subst h5;cases tX e 0 1000<;>cases tX i 0 1000<;>cases u<;>cases w<;>cases x<;>rfl
 rw[beq_eq_false_iff_ne.2 h0,beq_eq_false_iff_ne.2 h1,beq_eq_false_iff_ne.2 h2,beq_eq_false_iff_ne.2 h3,beq_eq_false_iff_ne.2 h5];cases u<;>cases w<;>rfl
theorem MU {p:uq} (h:wo M p):bb p=some (vM p):=by
 obtain⟨c,hc,hc2⟩:=PN p.2.1;unfold bb vM gU;rw[Oh h];simp only[AP,hc,hc2,tP];generalize (List.range p.2.2.2.2.length).any (bX p.2.2.2.2)=u;generalize decide ((p.2.2.2.2.length:Int)<=10)=w;generalize tX p.2.1 (-2147483648) 2147483647=x;generalize p.2.2.1=e;generalize p.2.2.2.1=i;generalize p.1=k;have b1:(e != 0)=!(e==0):=rfl
 have b2:(i != 0)=!(i==0):=rfl;rw[b1,b2];have z1:(e==0)=true->tX e 0 1000=true:=λh=>by rw[eq_of_beq h];rfl
 have z2:(i==0)=true->tX i 0 1000=true:=λh=>by rw[eq_of_beq h];rfl
 by_cases h2:k=162
 · subst h2;cases tX e 0 1000<;>cases tX i 0 1000<;>cases u<;>cases w<;>cases x<;>rfl
 by_cases h5:k=165
 · subst h5;cases tX e 0 1000<;>cases tX i 0 1000<;>cases u<;>cases w<;>cases x<;>rfl
 have n2:(k != 162)=true:=bne_iff_ne.2 h2;have n5:(k != 165)=true:=bne_iff_ne.2 h5
 rw[n2,n5,beq_eq_false_iff_ne.2 h2,beq_eq_false_iff_ne.2 h5];cases he:e==0 with
 | false=>cases hi:i==0<;>cases u<;>cases w<;>cases x<;>cases k==160<;>cases k==161<;>cases k==163<;>rfl
 | true =>
  rw[z1 he];cases hi:i==0 with
  | false=>cases u<;>cases w<;>cases x<;>cases k==160<;>cases k==161<;>cases k==163<;>rfl
  | true =>
   rw[z2 hi];cases u<;>cases w<;>cases x<;>cases k==160<;>cases k==161<;>cases k==163<;>rfl
def uA (j:ut):Int:=j.2.2.2.2.2.2.2.2.2.2.2.2.2.2.2.2.2.2.2.2
def xz (j:ut):Int:=j.2.2.2.2.2.2.2.2.2.2.2.2.2.2.2.2.2.2.2.1
noncomputable def Ac (j:ut):Bool:=tX j.2.2.1 0 2&&(tX (xz j) 0 (j.2.2.2.2.2.2.2.1.length:Int)&&(tX (uA j) 0 3&&(j.2.2.1==0||(vM (jP j)&&((j.2.2.2.1 != 162)&&vc (jB j))))))
structure Ku (j:ut):Prop where
 p:wo M (jP j)
 b:zl (jB j)
theorem TY {j:ut} (h:Ku j):eq j=some (Ac j):=by
 have hp:cg (j.2.2.2.1,j.2.2.2.2.1,j.2.2.2.2.2.1,j.2.2.2.2.2.2.1,j.2.2.2.2.2.2.2.1)=some (vM (jP j)):=Ph h.p;have hb:=DU h.b
 unfold jB at hb;unfold eq Ac;rw[hp,hb];simp only[xx,tP,xz,uA];cases tX j.2.2.1 0 2<;>cases tX j.2.2.2.2.2.2.2.2.2.2.2.2.2.2.2.2.2.2.2.1 0 (j.2.2.2.2.2.2.2.1.length:Int)<;>cases tX j.2.2.2.2.2.2.2.2.2.2.2.2.2.2.2.2.2.2.2.2 0 3<;>cases j.2.2.1==0<;>cases vM (jP j)<;>cases j.2.2.2.1 != 162<;>rfl
theorem TZ {j:ut} (h:Ku j) (last:Int):dM j last=some (tX j.1 1 last&&Ac j):=by
 have hp:bb (j.2.2.2.1,j.2.2.2.2.1,j.2.2.2.2.2.1,j.2.2.2.2.2.2.1,j.2.2.2.2.2.2.2.1)=some (vM (jP j)):=MU h.p;have hb:=DV h.b
 unfold jB at hb;unfold dM gV Ac;rw[hp,hb];simp only[AP,tP,xz,uA];cases tX j.1 1 last<;>cases tX j.2.2.1 0 2<;>cases tX j.2.2.2.2.2.2.2.2.2.2.2.2.2.2.2.2.2.2.2.1 0 (j.2.2.2.2.2.2.2.1.length:Int)<;>cases tX j.2.2.2.2.2.2.2.2.2.2.2.2.2.2.2.2.2.2.2.2 0 3<;>cases j.2.2.1==0<;>cases vM (jP j)<;>cases j.2.2.2.1 != 162<;>rfl
def tU (a:ue):List ut:=a.2.2.2.2.2.2.2.2.2.2.2.2.1
def vO (a:ue):Int:=a.2.2.2.2.2.2.2.2.2.2.2.2.2.2
def za (a:ue):Int:=a.2.2.2.2.2.2.2.2.2.2.2.2.2.1
noncomputable def Dp (l:List ut) (last:Int) (k:Nat):Bool:=match l[k]? with
 | some j=>!(tX j.1 1 last&&Ac j)||(decide (0<k)&&(match l[k-1]? with|some p=>decide (p.1>=j.1)|none=>false))
 | none=>false
noncomputable def AQ (a:ue):Bool:=!((List.range (tU a).length).any (Dp (tU a) (vO a)))&&(vc (aB a)&&(decide ((a.2.2.2.2.2.2.2.2.2.2.2.1.length:Int)<=20)&&(decide (((tU a).length:Int)<=6)&&(tX (za a) 0 1000000&&tX (vO a) 0 1000000))))
structure J4 (a:ue):Prop where
 b:zl (aB a)
 n:(tU a).length<=1048576
 j:∀x∈tU a,Ku x
theorem MV {a:ue} (h:J4 a):loop (λz=>iu a z) 0=some (cond ((List.range (tU a).length).any (Dp (tU a) (vO a))) (Sum.inr false) (Sum.inl ())):=by
 have hn:=h.n;rw[←xP (n:=(tU a).length) (c:=λi=>(at? (tU a) i).bind λx=>(aa x.1 1 (vO a)).bind λt=>(cond (!t) (some true) ((cond (decide (i>0)) ((at? (tU a) (tR (i-1))).bind λy=>some (decide (y.1>=x.1))) (some false)).bind λt=>some t)).bind λt=>(cond t (some true) ((eq x).bind λt=>some (!t))).bind λt=>some t) (b:=Dp (tU a) (vO a)) (by omega) (λk hk=>by
  simp only[ug hk,tP,xx,TY (h.j _ (getElem_mem hk)),Dp,List.getElem?_eq_getElem hk];by_cases h0:0<k
  · have hd:decide ((k:Int)>0)=true:=dT (by omega);simp only[hd,BN hk h0 (by omega),tP,dT h0,List.getElem?_eq_getElem (show k-1<(tU a).length by omega),cT];cases tX (tU a)[k].1 1 (vO a)<;>cases decide ((tU a)[k-1].1>=(tU a)[k].1)<;>cases Ac (tU a)[k]<;>rfl
  · have hd:decide ((k:Int)>0)=false:=dF (by omega);simp only[hd,dF h0];cases tX (tU a)[k].1 1 (vO a)<;>cases Ac (tU a)[k]<;>rfl)]
 refine wz (λi=>?_) 0;unfold iu tU vO;simp only[Option.bind_assoc,tP]
theorem L8 {a:ue} (h:J4 a):loop (λz=>gW a z) 0=some (cond ((List.range (tU a).length).any (Dp (tU a) (vO a))) (Sum.inr false) (Sum.inl ())):=by
 have hn:=h.n;rw[←xP (n:=(tU a).length) (c:=λi=>(at? (tU a) i).bind λx=>(dM x (vO a)).bind λt=>(cond (!t) (some true) ((cond (decide (i>0)) ((at? (tU a) (tR (i-1))).bind λy=>(at? (tU a) i).bind λx=>some (decide (y.1>=x.1))) (some false)).bind λt=>some t))) (b:=Dp (tU a) (vO a)) (by omega) (λk hk=>by
  simp only[ug hk,tP,TZ (h.j _ (getElem_mem hk)),Dp,List.getElem?_eq_getElem hk];by_cases h0:0<k
  · have hd:decide ((k:Int)>0)=true:=dT (by omega);simp only[hd,BN hk h0 (by omega),tP,dT h0,List.getElem?_eq_getElem (show k-1<(tU a).length by omega),cT];cases tX (tU a)[k].1 1 (vO a)<;>cases decide ((tU a)[k-1].1>=(tU a)[k].1)<;>cases Ac (tU a)[k]<;>rfl
  · have hd:decide ((k:Int)>0)=false:=dF (by omega);simp only[hd,dF h0];cases tX (tU a)[k].1 1 (vO a)<;>cases Ac (tU a)[k]<;>rfl)]
 refine wz (λi=>?_) 0;unfold gW tU vO;simp only[Option.bind_assoc,tP]
theorem To (n m:Int):decide (n>m)=!(decide (n<=m)):=by
 by_cases h:n<=m
 · rw[dT h,dF (by omega)];rfl
 · rw[dF h,dT (by omega)];rfl
theorem Kv {a:ue} (h:J4 a):gm a=some (AQ a):=by
 have hb:aQ (a.1,a.2.1,a.2.2.1,a.2.2.2.1,a.2.2.2.2.1,a.2.2.2.2.2.1,a.2.2.2.2.2.2.1,a.2.2.2.2.2.2.2.1,a.2.2.2.2.2.2.2.2.1,a.2.2.2.2.2.2.2.2.2.1,a.2.2.2.2.2.2.2.2.2.2.1)=some (vc (aB a)):=DU h.b;unfold gm AQ;rw[MV h,hb];simp only[Oa,tP,To,za,vO];generalize (List.range (tU a).length).any _=u;show _=some (!u&&(vc (aB a)&&(_&&(decide ((a.2.2.2.2.2.2.2.2.2.2.2.2.1.length:Int)<=6)&&(_)))))
 cases u<;>cases vc (aB a)<;>cases decide ((a.2.2.2.2.2.2.2.2.2.2.2.1.length:Int)<=20)<;>cases decide ((a.2.2.2.2.2.2.2.2.2.2.2.2.1.length:Int)<=6)<;>cases tX a.2.2.2.2.2.2.2.2.2.2.2.2.2.1 0 1000000<;>cases tX a.2.2.2.2.2.2.2.2.2.2.2.2.2.2 0 1000000<;>rfl
theorem Kw {a:ue} (h:J4 a):fq a=some (AQ a):=by
 have hb:aZ (a.1,a.2.1,a.2.2.1,a.2.2.2.1,a.2.2.2.2.1,a.2.2.2.2.2.1,a.2.2.2.2.2.2.1,a.2.2.2.2.2.2.2.1,a.2.2.2.2.2.2.2.2.1,a.2.2.2.2.2.2.2.2.2.1,a.2.2.2.2.2.2.2.2.2.2.1)=some (vc (aB a)):=DV h.b;unfold fq AQ;rw[L8 h,hb];simp only[AP,tP,za,vO];generalize (List.range (tU a).length).any _=u;show _=some (!u&&(vc (aB a)&&(_&&(decide ((a.2.2.2.2.2.2.2.2.2.2.2.2.1.length:Int)<=6)&&(_)))))
 cases u<;>cases vc (aB a)<;>cases decide ((a.2.2.2.2.2.2.2.2.2.2.2.1.length:Int)<=20)<;>cases decide ((a.2.2.2.2.2.2.2.2.2.2.2.2.1.length:Int)<=6)<;>cases tX a.2.2.2.2.2.2.2.2.2.2.2.2.2.1 0 1000000<;>cases tX a.2.2.2.2.2.2.2.2.2.2.2.2.2.2 0 1000000<;>rfl
theorem QK {j:ut} (h:Cs.wf vJ j) (hl:Gq M j):Ku j:=by
 obtain⟨_,l1,l2⟩:=hl;refine⟨l1,?_⟩;obtain⟨_,l2,l3,l4,l5⟩:=l2;have hM:M<9223372036854775807:=by decide
 refine⟨by omega,by omega,by omega,by omega,λr hr=>?_⟩;simp only[vJ,Cs.wf,CT.wf]at h;obtain⟨_,_,_,_,_,_,_,_,_,_,_,_,h4,_⟩:=h;exact (h4.2 r hr).2.2
theorem Oi {a:ue} (h:Cs.wf uP a) (hl:Bu M a):J4 a:=by
 obtain⟨⟨_,l2,l3,l4,l5⟩,l6,l7⟩:=hl;have hM:M<9223372036854775807:=by decide
 simp only[uP,Cs.wf,CT.wf]at h;obtain⟨_,_,_,_,h4,_,_,_,_,_,_,_,h7,_⟩:=h;refine⟨⟨by omega,by omega,by omega,by omega,λr hr=>(h4.2 r hr).2.2⟩,l7.1,λx hx=>QK ?_ (l7.2 x hx)⟩;have:=h7.2 x hx
 simpa only[vJ,Cs.wf,CT.wf]using this
theorem Fw {α:Type} {l:List α} {step:Int×List α->Option ((Int×List α)⊕List α)} (hn:l.length<=M)
 (hs:∀k (hk:k<l.length) out,step ((k:Int),out)=(uv out [l[k]]).bind λzs=>some (.inl (((k+1:Nat):Int),zs)))
 (he:∀out,step ((l.length:Int),out)=some (.inr out)):loop step (0,[])=some l:=by
 have hn':l.length<=1048576:=hn;obtain⟨b,h1,rfl⟩:=uz (step:=step) (λk z=>z=((k:Int),l.take k)) l.length (λb=>b=l)
  (λk z hk e=>by
   subst e;left;refine⟨_,by rw[hs k hk,u7 (by rw[length_take];show _+1<=_;omega),tP],?_⟩;rw[take_add_one,List.getElem?_eq_getElem hk];rfl)
  (λz e=>by
   subst e;exact⟨_,he _,by rw[take_length]⟩) (x:=(0,[])) rfl
 exact h1
theorem QL {v:wN} (h:LH M v):gh v=some v:=by unfold gh;rw[Et h.2];rfl
theorem Fx {l:List tS} (h:Aa M l):cP l=some l:=by
 have hn:l.length<=1048576:=h.1;unfold cP;rw[Fw (step:=λz=>cO l z.1 z.2) h.1 (λk hk out=>by
  show cO l (k:Int) out=_;unfold cO;have hx:=h.2 _ (getElem_mem hk)
  rw[ux (by omega),cT,ug hk,tP,Et hx.1,tP,QL hx.2,tP,ua (by omega)]) (λout=>by
  show cO l (l.length:Int) out=_;unfold cO;rw[uj (by omega),cF])];rfl
theorem BI {l:List tS} (h:Aa M l):bN l=some l:=by
 have hn:l.length<=1048576:=h.1;unfold bN;rw[Fw (step:=λz=>cq l z.1 z.2) h.1 (λk hk out=>by
  show cq l (k:Int) out=_;unfold cq;have hx:=h.2 _ (getElem_mem hk)
  rw[ux (by omega),cT,ug hk,tP,xo hx.2.2,tP,tP,xo hx.1,tP,ua (by omega)]) (λout=>by
  show cq l (l.length:Int) out=_;unfold cq;rw[uj (by omega),cF])];rfl
theorem QM {p:uq} (h:wo M p):ej p=some p:=by unfold ej;rw[Fx h];rfl
theorem Pi {p:uq} (h:wo M p):dG p=some p:=by unfold dG;rw[BI h];rfl
theorem Fy {a:ue} (h:Bu M a):gi a=some a:=by
 obtain⟨h1,h2,h3,h4⟩:=h;have hn:(tU a).length<=1048576:=h3
 unfold gi;have hb:aj (a.1,a.2.1,a.2.2.1,a.2.2.2.1,a.2.2.2.2.1,a.2.2.2.2.2.1,a.2.2.2.2.2.2.1,a.2.2.2.2.2.2.2.1,a.2.2.2.2.2.2.2.2.1,a.2.2.2.2.2.2.2.2.2.1,a.2.2.2.2.2.2.2.2.2.2.1)=some (aB a):=z9 h1
 rw[hb,tP,Fw (l:=tU a) (step:=λz=>cQ a z.1 z.2) h3 (λk hk out=>by
  show cQ a (k:Int) out=_;unfold cQ;obtain⟨hx1,hx2,hx3⟩:=h4 _ (getElem_mem hk);have e0:at? a.2.2.2.2.2.2.2.2.2.2.2.2.1 (k:Int)=some (tU a)[k]:=ug hk
  rw[ux (show (k:Int)<(a.2.2.2.2.2.2.2.2.2.2.2.2.1.length:Int) by show (k:Int)<((tU a).length:Int);omega),cT,e0,tP];generalize (tU a)[k]=x at hx1 hx2 hx3;have e1:ej (x.2.2.2.1,x.2.2.2.2.1,x.2.2.2.2.2.1,x.2.2.2.2.2.2.1,x.2.2.2.2.2.2.2.1)=some (jP x):=QM hx2
  have e2:aj (x.2.2.2.2.2.2.2.2.1,x.2.2.2.2.2.2.2.2.2.1,x.2.2.2.2.2.2.2.2.2.2.1,x.2.2.2.2.2.2.2.2.2.2.2.1,x.2.2.2.2.2.2.2.2.2.2.2.2.1,x.2.2.2.2.2.2.2.2.2.2.2.2.2.1,x.2.2.2.2.2.2.2.2.2.2.2.2.2.2.1,x.2.2.2.2.2.2.2.2.2.2.2.2.2.2.2.1,x.2.2.2.2.2.2.2.2.2.2.2.2.2.2.2.2.1,x.2.2.2.2.2.2.2.2.2.2.2.2.2.2.2.2.2.1,x.2.2.2.2.2.2.2.2.2.2.2.2.2.2.2.2.2.2.1)=some (jB x):=z9 hx3;rw[D9 hx1,tP,e1,tP,e2,tP,ua (by omega)];rfl) (λout=>by
  show cQ a ((tU a).length:Int) out=_;unfold cQ;rw[uj (show ¬((tU a).length:Int)<(a.2.2.2.2.2.2.2.2.2.2.2.2.1.length:Int) by show ¬((tU a).length:Int)<((tU a).length:Int);omega),cF])]
 rfl
theorem Ew {a:ue} (h:Bu M a):fj a=some a:=by
 obtain⟨h1,h2,h3,h4⟩:=h;have hn:(tU a).length<=1048576:=h3
 unfold fj;have hb:ak (a.1,a.2.1,a.2.2.1,a.2.2.2.1,a.2.2.2.2.1,a.2.2.2.2.2.1,a.2.2.2.2.2.2.1,a.2.2.2.2.2.2.2.1,a.2.2.2.2.2.2.2.2.1,a.2.2.2.2.2.2.2.2.2.1,a.2.2.2.2.2.2.2.2.2.2.1)=some (aB a):=xq h1
 rw[hb,tP];obtain⟨d,d1,rfl⟩:=uz (step:=λz:Int×Int×List UInt8×Int×Int×Int×Int×Int×List UInt8×Int×Int×List ut=>dH a z.1 z.2.1 z.2.2.1 z.2.2.2.1 z.2.2.2.2.1 z.2.2.2.2.2.1 z.2.2.2.2.2.2.1 z.2.2.2.2.2.2.2.1 z.2.2.2.2.2.2.2.2.1 z.2.2.2.2.2.2.2.2.2.1 z.2.2.2.2.2.2.2.2.2.2.1 z.2.2.2.2.2.2.2.2.2.2.2)
  (λk z=>z=((k:Int),a.1,a.2.1,a.2.2.2.2.2.2.1,a.2.2.2.2.2.2.2.1,a.2.2.2.2.2.2.2.2.1,a.2.2.2.2.2.2.2.2.2.1,a.2.2.2.2.2.2.2.2.2.2.1,a.2.2.2.2.2.2.2.2.2.2.2.1,a.2.2.2.2.2.2.2.2.2.2.2.2.2.1,a.2.2.2.2.2.2.2.2.2.2.2.2.2.2,(tU a).take k)) (tU a).length
  (λd=>d=(a.1,a.2.1,a.2.2.2.2.2.2.1,a.2.2.2.2.2.2.2.1,a.2.2.2.2.2.2.2.2.1,a.2.2.2.2.2.2.2.2.2.1,a.2.2.2.2.2.2.2.2.2.2.1,a.2.2.2.2.2.2.2.2.2.2.2.1,a.2.2.2.2.2.2.2.2.2.2.2.2.2.1,a.2.2.2.2.2.2.2.2.2.2.2.2.2.2,tU a))
  (λk z hk e=>by
   subst e;left;simp only;unfold dH;obtain⟨hx1,hx2,hx3⟩:=h4 _ (getElem_mem hk);have e0:at? a.2.2.2.2.2.2.2.2.2.2.2.2.1 (k:Int)=some (tU a)[k]:=ug hk
   have et:(tU a).take (k+1)=(tU a).take k++[(tU a)[k]]:=by rw[take_add_one,List.getElem?_eq_getElem hk];rfl
   rw[ux (show (k:Int)<(a.2.2.2.2.2.2.2.2.2.2.2.2.1.length:Int) by show (k:Int)<((tU a).length:Int);omega),cT,e0,tP,et];generalize (tU a)[k]=x at hx1 hx2 hx3;have e1:dG (x.2.2.2.1,x.2.2.2.2.1,x.2.2.2.2.2.1,x.2.2.2.2.2.2.1,x.2.2.2.2.2.2.2.1)=some (jP x):=Pi hx2
   have e2:ak (x.2.2.2.2.2.2.2.2.1,x.2.2.2.2.2.2.2.2.2.1,x.2.2.2.2.2.2.2.2.2.2.1,x.2.2.2.2.2.2.2.2.2.2.2.1,x.2.2.2.2.2.2.2.2.2.2.2.2.1,x.2.2.2.2.2.2.2.2.2.2.2.2.2.1,x.2.2.2.2.2.2.2.2.2.2.2.2.2.2.1,x.2.2.2.2.2.2.2.2.2.2.2.2.2.2.2.1,x.2.2.2.2.2.2.2.2.2.2.2.2.2.2.2.2.1,x.2.2.2.2.2.2.2.2.2.2.2.2.2.2.2.2.2.1,x.2.2.2.2.2.2.2.2.2.2.2.2.2.2.2.2.2.2.1)=some (jB x):=xq hx3;rw[xo hx1,tP,e1,tP,e2,tP,u7 (by rw[length_take];show _+1<=_;omega),tP,ua (by omega)];exact⟨_,rfl,rfl⟩)
  (λz e=>by
   subst e;simp only;unfold dH;rw[uj (show ¬((tU a).length:Int)<(a.2.2.2.2.2.2.2.2.2.2.2.2.1.length:Int) by show ¬((tU a).length:Int)<((tU a).length:Int);omega),cF,take_length];exact⟨_,rfl,rfl⟩) (x:=(0,a.1,a.2.1,a.2.2.2.2.2.2.1,a.2.2.2.2.2.2.2.1,a.2.2.2.2.2.2.2.2.1,a.2.2.2.2.2.2.2.2.2.1,a.2.2.2.2.2.2.2.2.2.2.1,a.2.2.2.2.2.2.2.2.2.2.2.1,a.2.2.2.2.2.2.2.2.2.2.2.2.2.1,a.2.2.2.2.2.2.2.2.2.2.2.2.2.2,[])) rfl
 have d1':loop (λz:Int×Int×List UInt8×Int×Int×Int×Int×Int×List UInt8×Int×Int×List ut=>dH a z.1 z.2.1 z.2.2.1 z.2.2.2.1 z.2.2.2.2.1 z.2.2.2.2.2.1 z.2.2.2.2.2.2.1 z.2.2.2.2.2.2.2.1 z.2.2.2.2.2.2.2.2.1 z.2.2.2.2.2.2.2.2.2.1 z.2.2.2.2.2.2.2.2.2.2.1 z.2.2.2.2.2.2.2.2.2.2.2) (0,(aB a).1,(aB a).2.1,(aB a).2.2.2.2.2.2.1,(aB a).2.2.2.2.2.2.2.1,(aB a).2.2.2.2.2.2.2.2.1,(aB a).2.2.2.2.2.2.2.2.2.1,(aB a).2.2.2.2.2.2.2.2.2.2,a.2.2.2.2.2.2.2.2.2.2.2.1,a.2.2.2.2.2.2.2.2.2.2.2.2.2.1,a.2.2.2.2.2.2.2.2.2.2.2.2.2.2,[])=_:=d1;rw[d1'];rfl

def wm (l:List ub) (id:Int):Int:=match l.findIdx? (λr=>r.1==id)with|some k=>(k:Int)|none=>-1
theorem Fz {v:vi} (hn:v.1.length<9223372036854775807) (id:Int):aq v id=some (wm v.1 id):=by
 unfold aq wm;obtain⟨b,h1,rfl⟩:=uz (β:=Unit⊕Int) (step:=λz=>aS v id z) (λk i=>i=(k:Int)/\∀j (hj:j<k),∀(hl:j<v.1.length),¬((v.1[j].1==id)=true)) v.1.length (λb=>b=match v.1.findIdx? (λr=>r.1==id)with|some k=>.inr (k:Int)|none=>.inl ())
  (λk i hk ⟨h,hy⟩=>by
   subst h;unfold aS;rw[ux (by omega),cT,ug hk,tP];cases hb:(v.1[k].1==id)with
   | true =>
    refine .inr ⟨_,rfl,?_⟩;rw[List.findIdx?_eq_some_iff_getElem.2 ⟨hk,hb,λj hj=>hy j hj (by omega)⟩]
   | false =>
    refine .inl ⟨_,rfl,ua (by omega),λj hj hl=>?_⟩;by_cases hjk:j=k
    · subst hjk;rw[hb];simp
    · exact hy j (by omega) hl)
  (λi ⟨h,hy⟩=>by
   subst h;refine⟨.inl (),by unfold aS;rw[uj (by omega),cF],?_⟩;rw[List.findIdx?_eq_none_iff.2 λx hx=>by
    obtain⟨j,hj,rfl⟩:=getElem_of_mem hx;have:=hy j hj hj
    simpa using this]) (x:=0) ⟨rfl,λj hj=>by omega⟩
 rw[h1,tP];cases v.1.findIdx? (λr=>r.1==id)<;>rfl
theorem QN {v:vi} (hn:v.1.length<9223372036854775807) (id:Int):bO v id=some (wm v.1 id):=Fz hn id
theorem BJ {l:List ub} {id:Int} (h:0<=wm l id):∃k,∃hk:k<l.length,wm l id=(k:Int)/\l[k].1=id:=by
 unfold wm at h ⊢;cases hf:l.findIdx? (λr=>r.1==id)with
 | none=>rw[hf]at h;simp at h
 | some k =>
  obtain⟨hk,h1,_⟩:=List.findIdx?_eq_some_iff_getElem.1 hf;exact⟨k,hk,rfl,by simpa using h1⟩
theorem MW {l:List ub} {id:Int} (h:wm l id<0):∀x∈l,x.1≠id:=by
 unfold wm at h;cases hf:l.findIdx? (λr=>r.1==id)with
 | some k=>rw[hf]at h;simp at h;omega
 | none =>
  intro x hx;have:=List.findIdx?_eq_none_iff.1 hf x hx
  simpa using this
def FU (l:List u0) (tag mac:Int):Int:=match l.findIdx? (λe=>e.1==tag&&e.2.1==mac)with|some k=>(k:Int)|none=>-1
theorem Se {l:List u0} (hn:l.length<9223372036854775807) (tag mac:Int):gC l tag mac=some (FU l tag mac):=by
 unfold gC FU;obtain⟨b,h1,rfl⟩:=uz (β:=Unit⊕Int) (step:=λz=>cn l tag mac z) (λk i=>i=(k:Int)/\∀j (hj:j<k),∀(hl:j<l.length),¬((l[j].1==tag&&l[j].2.1==mac)=true)) l.length (λb=>b=match l.findIdx? (λe=>e.1==tag&&e.2.1==mac)with|some k=>.inr (k:Int)|none=>.inl ())
  (λk i hk ⟨h,hy⟩=>by
   subst h;have hs:cn l tag mac (k:Int)=cond (l[k].1==tag&&l[k].2.1==mac) (some (.inr (.inr (k:Int)))) (some (.inl ((k+1:Nat):Int))):=by
    unfold cn;simp only[ux (show (k:Int)<(l.length:Int) by omega),cT,ug hk,tP,ua (show k<9223372036854775807 by omega)];cases l[k].1==tag<;>rfl
   show (∃y,cn l tag mac (k:Int)=some (.inl y)/\_)\/∃b,cn l tag mac (k:Int)=some (.inr b)/\_;rw[hs];cases hb:(l[k].1==tag&&l[k].2.1==mac)with
   | true =>
    refine .inr ⟨_,rfl,?_⟩;rw[List.findIdx?_eq_some_iff_getElem.2 ⟨hk,hb,λj hj=>hy j hj (by omega)⟩]
   | false =>
    refine .inl ⟨_,rfl,rfl,λj hj hl=>?_⟩;by_cases hjk:j=k
    · subst hjk;rw[hb];simp
    · exact hy j (by omega) hl)
  (λi ⟨h,hy⟩=>by
   subst h;refine⟨.inl (),by unfold cn;rw[uj (by omega),cF],?_⟩;rw[List.findIdx?_eq_none_iff.2 λx hx=>by
    obtain⟨j,hj,rfl⟩:=getElem_of_mem hx;have:=hy j hj hj
    simpa using this]) (x:=0) ⟨rfl,λj hj=>by omega⟩
 rw[h1,tP];cases l.findIdx? (λe=>e.1==tag&&e.2.1==mac)<;>rfl
theorem QO {l:List u0} (hn:l.length<9223372036854775807) (tag mac:Int):fG l tag mac=some (FU l tag mac):=by
 unfold fG FU;obtain⟨b,h1,rfl⟩:=uz (β:=Unit⊕Int) (step:=λz=>bW l tag mac z) (λk i=>i=(k:Int)/\∀j (hj:j<k),∀(hl:j<l.length),¬((l[j].1==tag&&l[j].2.1==mac)=true)) l.length (λb=>b=match l.findIdx? (λe=>e.1==tag&&e.2.1==mac)with|some k=>.inr (k:Int)|none=>.inl ())
  (λk i hk ⟨h,hy⟩=>by
   subst h;have hs:bW l tag mac (k:Int)=cond (l[k].1==tag&&l[k].2.1==mac) (some (.inr (.inr (k:Int)))) (some (.inl ((k+1:Nat):Int))):=by
    unfold bW;simp only[ux (show (k:Int)<(l.length:Int) by omega),cT,ug hk,tP,ua (show k<9223372036854775807 by omega)];cases l[k].1==tag<;>rfl
   show (∃y,bW l tag mac (k:Int)=some (.inl y)/\_)\/∃b,bW l tag mac (k:Int)=some (.inr b)/\_;rw[hs];cases hb:(l[k].1==tag&&l[k].2.1==mac)with
   | true =>
    refine .inr ⟨_,rfl,?_⟩;rw[List.findIdx?_eq_some_iff_getElem.2 ⟨hk,hb,λj hj=>hy j hj (by omega)⟩]
   | false =>
    refine .inl ⟨_,rfl,rfl,λj hj hl=>?_⟩;by_cases hjk:j=k
    · subst hjk;rw[hb];simp
    · exact hy j (by omega) hl)
  (λi ⟨h,hy⟩=>by
   subst h;refine⟨.inl (),by unfold bW;rw[uj (by omega),cF],?_⟩;rw[List.findIdx?_eq_none_iff.2 λx hx=>by
    obtain⟨j,hj,rfl⟩:=getElem_of_mem hx;have:=hy j hj hj
    simpa using this]) (x:=0) ⟨rfl,λj hj=>by omega⟩
 rw[h1,tP];cases l.findIdx? (λe=>e.1==tag&&e.2.1==mac)<;>rfl

def wh (o:List Int) (lo hi:Int) (head:List Int):Bool:=(o.length==head.length+4)&&((o.take (head.length+3)==[1,3,1]++head)&&(match o[head.length+3]? with|some x=>tX x lo hi|none=>false))
theorem Ex {o:List Int} (lo hi:Int) {head:List Int} (ho:o.length<=M) (hh:head.length<=100):aG o lo hi head=some (wh o lo hi head):=by
 have ho':o.length<=1048576:=ho;have hw:tR ((head.length:Int)+4)=((head.length+4:Nat):Int):=by rw[uS (by omega) (by omega)];omega
 unfold aG wh;rw[hw];by_cases hl:o.length=head.length+4
 · have hw2:tR ((o.length:Int)-1)=((head.length+3:Nat):Int):=by rw[uS (by omega) (by omega)];omega
   have hc:cut o 0 ((head.length+3:Nat):Int)=some (o.take (head.length+3)):=by
    rw[show (0:Int)=((0:Nat):Int)from rfl,yh (Nat.zero_le _) (by omega),drop_zero]
   have hlt:head.length+3<o.length:=by omega
   rw[show ((o.length:Int)==((head.length+4:Nat):Int))=true from beq_iff_eq.2 (by omega),cT,hw2,hc,tP,u7 (by show 3+head.length<=_;omega),tP,D8 (by rw[length_append];show 3+head.length<_;omega),tP,ug hlt,tP,xx,tP,List.getElem?_eq_getElem hlt];rw[show (o.length==head.length+4)=true from beq_iff_eq.2 hl];cases (o.take (head.length+3)==[1,3,1]++head)<;>rfl
 · rw[show ((o.length:Int)==((head.length+4:Nat):Int))=false from beq_eq_false_iff_ne.2 (by omega),cF,show (o.length==head.length+4)=false from beq_eq_false_iff_ne.2 hl];rfl
abbrev wT (b:tQ):Int:=(b.2.2.1.length:Int)
abbrev yn (b:tQ):List ub:=b.2.2.2.2.1
def MX (b:tQ) (o:List Int):Bool:=wh o 1 1 [1]||(wh o 1 (wT b) [2,2]||(wh o 1 (wT b) [2,4]||(wh o 1 99 [3,1]||((wh o 1 99 [3,2]||wh o 1 99 [3,3])&&(match o[5]? with|some x=>decide (wm (yn b) x>=0)|none=>false)))))
theorem Kx {o:List Int} {lo hi:Int} {head:List Int} (h:wh o lo hi head=true):o.length=head.length+4:=by
 unfold wh at h;simp only[aT,beq_iff_eq]at h;exact h.1
theorem U0 {b:tQ} (hb:yH M b) {o:List Int} (ho:o.length<=M):gz b o=some (MX b o):=by
 have hr:b.2.2.2.2.1.length<9223372036854775807:=by have:b.2.2.2.2.1.length<=1048576:=hb.2.2.2.1;omega
 unfold gz MX;rw[Ex 1 1 ho (by decide),Ex 1 _ ho (by decide),Ex 1 _ ho (by decide),Ex 1 99 ho (by decide),Ex 1 99 ho (by decide),Ex 1 99 ho (by decide)];simp only[tP];cases wh o 1 1 [1]with
 | true=>rfl
 | false =>
 cases wh o 1 (wT b) [2,2]with
 | true=>rfl
 | false =>
 cases wh o 1 (wT b) [2,4]with
 | true=>rfl
 | false =>
 cases wh o 1 99 [3,1]with
 | true=>rfl
 | false =>
 have key:o.length=6->((at? o 5).bind λx41=>(aq (b.2.2.2.2.1,b.2.2.2.2.2.1) x41).bind λt43=>some (decide (t43>=0)))=some (match o[5]? with|some x=>decide (wm (yn b) x>=0)|none=>false):=by
  intro h6;have h5:5<o.length:=by omega
  rw[show (5:Int)=((5:Nat):Int)from rfl,ug h5,tP,Fz hr,tP,List.getElem?_eq_getElem h5]
 cases h2:wh o 1 99 [3,2]with
 | true =>
  simp only[cF,cT,tP,Bool.false_or,Bool.true_or,Bool.true_and];rw[key (Kx h2)];rfl
 | false =>
  cases h3:wh o 1 99 [3,3]with
  | true =>
   simp only[cF,cT,tP,Bool.false_or,Bool.or_true,Bool.true_and];rw[key (Kx h3)];rfl
  | false=>rfl
def Jj (b:tQ) (o:List Int):Bool:=wh o 2 5 [1]||(wh o 1 (wT b) [2,1]||(wh o 1 (wT b) [2,3]||(((o.length==7)&&(o.take 5==[1,3,1,4,1]))&&(match o[5]?,o[6]? with|some x,some y=>decide (FU b.2.2.2.1 x y>=0)|_,_=>false))))
theorem Tp {b:tQ} (hb:yH M b) {o:List Int} (ho:o.length<=M):gD b o=some (Jj b o):=by
 have hr:b.2.2.2.1.length<9223372036854775807:=by have:b.2.2.2.1.length<=1048576:=hb.2.2.1;omega
 unfold gD Jj;rw[Ex 2 5 ho (by decide),Ex 1 _ ho (by decide),Ex 1 _ ho (by decide)];simp only[tP];cases wh o 2 5 [1]with
 | true=>rfl
 | false =>
 cases wh o 1 (wT b) [2,1]with
 | true=>rfl
 | false =>
 cases wh o 1 (wT b) [2,3]with
 | true=>rfl
 | false =>
 by_cases h7:o.length=7
 · have h5:5<o.length:=by omega
   have h6:6<o.length:=by omega
   have hc:cut o 0 5=some (o.take 5):=by
    rw[show (0:Int)=((0:Nat):Int)from rfl,show (5:Int)=((5:Nat):Int)from rfl,yh (Nat.zero_le _) (by omega),drop_zero]
   rw[show ((o.length:Int)==7)=true from beq_iff_eq.2 (by omega),show (o.length==7)=true from beq_iff_eq.2 h7];simp only[cF,cT,tP,hc,D8 (show ([1,3,1,4,1]:List Int).length<9223372036854775807 by decide),Bool.false_or,Bool.true_and];cases (o.take 5==[1,3,1,4,1])with
   | false=>rfl
   | true =>
    rw[show (5:Int)=((5:Nat):Int)from rfl,show (6:Int)=((6:Nat):Int)from rfl];simp only[cT,ug h5,ug h6,tP,Se hr,List.getElem?_eq_getElem h5,List.getElem?_eq_getElem h6,Bool.true_and]
 · rw[show ((o.length:Int)==7)=false from beq_eq_false_iff_ne.2 (by omega),show (o.length==7)=false from beq_eq_false_iff_ne.2 h7];rfl

def B5 (o:List Int):Bool:=decide (o.length>3)&&(o.take 3==[1,3,1])
theorem Sg {o:List Int} (ho:o.length<=M):dW o=some (cond (B5 o) (o.drop 3,true) ([],false)):=by
 have ho':o.length<=1048576:=ho;unfold dW hC B5;by_cases h:o.length>3
 · have hc:cut o 0 ((([1,3,1]:List Int).length:Nat):Int)=some (o.take 3):=by
    rw[show (0:Int)=((0:Nat):Int)from rfl,yh (Nat.zero_le _) (by show 3<=_;omega),drop_zero];rfl
   have hc2:cut o 3 (o.length:Int)=some (o.drop 3):=by
    rw[show (3:Int)=((3:Nat):Int)from rfl,yh (by omega) (Nat.le_refl _),take_length]
   have hs:bV (o.take 3) [1,3,1]=some (o.take 3==[1,3,1]):=D8 (a:=o.take 3) (b:=[1,3,1]) (by decide);rw[dT (show (o.length:Int)>(([1,3,1]:List Int).length:Int) by show (o.length:Int)>3;omega),cT,hc,tP,hs,dT h];simp only[tP,Bool.true_and];cases (o.take 3==[1,3,1])with
   | false=>rfl
   | true=>simp only[Bool.not_true,cF,cT,hc2,tP]
 · rw[dF (show ¬(o.length:Int)>(([1,3,1]:List Int).length:Int) by show ¬(o.length:Int)>3;omega),dF h];rfl
def GY (b:tQ) (o:List Int):Bool:=B5 o&&(match o.drop 3 with
 | [a,c]=>a==1&&c==1
 | [a,c,p]=>(a==2&&((c==2||c==4)&&tX p 1 (wT b)))||(a==3&&((c==1&&tX p 1 99)||((c==2||c==3)&&decide (wm (yn b) p>=0))))
 | _=>false)
theorem U1 {b:tQ} (hb:yH M b) {o:List Int} (ho:o.length<=M):fF b o=some (GY b o):=by
 have hr:b.2.2.2.2.1.length<9223372036854775807:=by have:b.2.2.2.2.1.length<=1048576:=hb.2.2.2.1;omega
 unfold fF GY;rw[Sg ho,tP];cases B5 o with
 | false=>rfl
 | true =>
  simp only[cT,Bool.not_true,cF,Bool.true_and]
  match o.drop 3 with
  | []=>rfl
  | [a]=>rfl
  | [a,c] =>
   rw[show (([a,c].length:Int)==2)=true from rfl,cT,show at? [a,c] 0=some a from rfl,show at? [a,c] 1=some c from rfl];simp only[tP];cases a==1<;>rfl
  | [a,c,p] =>
   rw[show (([a,c,p].length:Int)==2)=false from rfl,cF,show (([a,c,p].length:Int) != 3)=false from rfl,cF,show at? [a,c,p] 0=some a from rfl,show at? [a,c,p] 1=some c from rfl,show at? [a,c,p] 2=some p from rfl];simp only[tP,AP,QN (v:=(b.2.2.2.2.1,b.2.2.2.2.2.1)) hr];by_cases h2:a=2
   · subst h2;cases c==2<;>cases c==4<;>simp
   · by_cases h3:a=3
     · subst h3;cases c==1<;>cases c==2<;>cases c==3<;>cases tX p 1 99<;>simp
     · rw[show (a==2)=false from beq_eq_false_iff_ne.2 h2,show (a==3)=false from beq_eq_false_iff_ne.2 h3];rfl
  | a::c::p::q::l =>
   simp only[length_cons];rw[show ((((l.length+1+1+1+1:Nat):Int))==2)=false from beq_eq_false_iff_ne.2 (by omega),show ((((l.length+1+1+1+1:Nat):Int)) != 3)=true from bne_iff_ne.2 (by omega)];rfl
def HX (b:tQ) (o:List Int):Bool:=B5 o&&(match o.drop 3 with
 | [a,c]=>a==1&&tX c 2 5
 | [a,c,p]=>a==2&&((c==1||c==3)&&tX p 1 (wT b))
 | [a,c,p,q]=>(a==4&&c==1)&&decide (FU b.2.2.2.1 p q>=0)
 | _=>false)
theorem Tq {b:tQ} (hb:yH M b) {o:List Int} (ho:o.length<=M):fH b o=some (HX b o):=by
 have hr:b.2.2.2.1.length<9223372036854775807:=by have:b.2.2.2.1.length<=1048576:=hb.2.2.1;omega
 unfold fH HX;rw[Sg ho,tP];cases B5 o with
 | false=>rfl
 | true =>
  simp only[cT,Bool.not_true,cF,Bool.true_and]
  match o.drop 3 with
  | []=>rfl
  | [a]=>rfl
  | [a,c] =>
   rw[show (([a,c].length:Int)==2)=true from rfl,cT,show at? [a,c] 0=some a from rfl,show at? [a,c] 1=some c from rfl];simp only[tP,AP];cases a==1<;>rfl
  | [a,c,p] =>
   rw[show (([a,c,p].length:Int)==2)=false from rfl,cF,show (([a,c,p].length:Int)==3)=true from rfl,cT,show at? [a,c,p] 0=some a from rfl,show at? [a,c,p] 1=some c from rfl,show at? [a,c,p] 2=some p from rfl];simp only[tP,AP];cases a==2<;>cases c==1<;>cases c==3<;>simp
  | [a,c,p,q] =>
   rw[show (([a,c,p,q].length:Int)==2)=false from rfl,cF,show (([a,c,p,q].length:Int)==3)=false from rfl,cF,show (([a,c,p,q].length:Int)==4)=true from rfl,cT,show at? [a,c,p,q] 0=some a from rfl,show at? [a,c,p,q] 1=some c from rfl,show at? [a,c,p,q] 2=some p from rfl,show at? [a,c,p,q] 3=some q from rfl];simp only[tP,QO hr];cases a==4<;>cases c==1<;>simp
  | a::c::p::q::r::l =>
   simp only[length_cons];rw[show ((((l.length+1+1+1+1+1:Nat):Int))==2)=false from beq_eq_false_iff_ne.2 (by omega),show ((((l.length+1+1+1+1+1:Nat):Int))==3)=false from beq_eq_false_iff_ne.2 (by omega),show ((((l.length+1+1+1+1+1:Nat):Int))==4)=false from beq_eq_false_iff_ne.2 (by omega)];rfl

structure yU (b:tQ):Prop where
 id:tX b.1 1 99=true
 name:b.2.1.length<=10
 n1:1<=b.2.2.1.length
 n6:b.2.2.1.length<=6
 p:∀x∈b.2.2.1,EJ x=true
 f:zB b.2.2.2.1=true
 c:wF b=true
 q:b.2.2.2.2.2.1.length=b.2.2.1.length
 v:b.2.2.2.2.1.length<=6
 s:b.2.2.2.2.1.Pairwise λr s=>r.1<s.1
 i:∀r∈b.2.2.2.2.1,tX r.1 1 99=true
 h:∀r∈b.2.2.2.2.1,-9223372036854775808<=r.2.2/\r.2.2<=9223372036854775807
theorem yU.f12 {b:tQ} (h:yU b):b.2.2.2.1.length<=12:=by
 have hf:=h.f;unfold zB at hf;simp only[aT,decide_eq_true_eq]at hf;omega
theorem yU.le {b:tQ} (h:yU b):yH M b:=by
 have h1:=h.name;have h2:=h.n6;have h3:=h.f12;have h4:=h.v;have h5:=h.q
 have hM:M=1048576:=rfl;exact⟨by omega,by omega,by omega,by omega,by omega⟩
theorem vn.sok {b:tQ} (h:vn b):yU b:=by
 obtain⟨v1,v2,v3,v4⟩:=h.vt.len;refine⟨h.id,h.name,h.n1,h.n6,h.p,h.f,h.c,v3,v4,J3 h,λr hr=>?_,h.w.r⟩;obtain⟨k,hk,rfl⟩:=getElem_of_mem hr;have hv:=h.v
 unfold ym at hv;simp only[aT,Bool.not_eq_true']at hv;have hx:=any_eq_false.1 hv.2.1 k (mem_range.2 hk)
 unfold Br at hx;simp only[List.getElem?_eq_getElem hk]at hx;cases hq:tX b.2.2.2.2.1[k].1 1 99 with
 | true=>rfl
 | false=>rw[hq]at hx;simp at hx
theorem zd {o:List Int} (h:o.length<=2):(∀lo hi head,wh o lo hi head=false)/\B5 o=false:=by
 refine⟨λlo hi head=>?_,?_⟩
 · unfold wh;rw[beq_eq_false_iff_ne.2 (by omega),Bool.false_and]
 · unfold B5;rw[dF (by omega),Bool.false_and]
theorem MY {x y z:Int} {t:List Int} (h:¬(x=1/\y=3/\z=1)):(∀lo hi head,wh (x::y::z::t) lo hi head=false)/\B5 (x::y::z::t)=false:=by
 refine⟨λlo hi head=>?_,?_⟩
 · unfold wh;have:((x::y::z::t).take (head.length+3)==[1,3,1]++head)=false:=by
    rw[bF];intro e;rw[take_succ_cons,take_succ_cons,take_succ_cons]at e;simp at e;exact h ⟨e.1,e.2.1,e.2.2.1⟩
   rw[this,Bool.false_and,Bool.and_false]
 · unfold B5;have:((x::y::z::t).take 3==[1,3,1])=false:=by
    rw[bF];intro e;simp at e;exact h e
   rw[this,Bool.and_false]
theorem Sh (t:List Int) (lo hi c:Int):wh (1::3::1::t) lo hi [c]=match t with | [a,x]=>a==c&&tX x lo hi|_=>false:=by
 match t with
 | []=>simp[wh]
 | [a]=>simp[wh]
 | [a,x]=>simp[wh]
 | a::x::y::t=>simp[wh]
theorem Si (t:List Int) (lo hi c d:Int):wh (1::3::1::t) lo hi [c,d]=match t with | [a,b,x]=>(a==c&&b==d)&&tX x lo hi|_=>false:=by
 match t with
 | []=>simp[wh]
 | [a]=>simp[wh]
 | [a,x]=>simp[wh]
 | [a,b,x]=>simp[wh]
 | a::b::x::y::t=>simp[wh]
theorem Sj (t:List Int):B5 (1::3::1::t)=decide (0<t.length):=by
 unfold B5;rw[show ((1::3::1::t).take 3==[1,3,1])=true from rfl,Bool.and_true];simp
theorem Ty (c:Int):tX c 1 1=(c==1):=by
 unfold tX;by_cases h:c=1
 · subst h;rfl
 · rw[beq_eq_false_iff_ne.2 h];simp only[Bool.and_eq_false_iff,decide_eq_false_iff_not];omega
theorem QP {b:tQ} (h:yU b) (o:List Int):MX b o=GY b o:=by
 unfold MX GY
 match o with
 | []=>simp only[(zd (o:=[]) (by simp)).1,(zd (o:=[]) (by simp)).2];rfl
 | [x]=>simp only[(zd (o:=[x]) (by simp)).1,(zd (o:=[x]) (by simp)).2];rfl
 | [x,y]=>simp only[(zd (o:=[x,y]) (by simp)).1,(zd (o:=[x,y]) (by simp)).2];rfl
 | x::y::z::t =>
  by_cases h3:x=1/\y=3/\z=1
  · obtain⟨rfl,rfl,rfl⟩:=h3;simp only[Sh,Si,Sj,Ty]
    match t with
    | []=>rfl
    | [a]=>simp
    | [a,c]=>simp
    | [a,c,p] =>
     have hp:decide (wm (yn b) p>=0)=true->tX p 1 99=true:=by
      intro e;obtain⟨k,hk,_,e2⟩:=BJ (of_decide_eq_true e);rw[←e2];exact h.i _ (getElem_mem hk)
     have e5:(1::3::1::[a,c,p])[5]?=some p:=rfl;rw[e5];rw[show decide (0<[a,c,p].length)=true from rfl,Bool.true_and];show (((false:Bool)||((((a==2)&&(c==2))&&tX p 1 (wT b))||((((a==2)&&(c==4))&&tX p 1 (wT b))||((((a==3)&&(c==1))&&tX p 1 99)||(((((a==3)&&(c==2))&&tX p 1 99)||(((a==3)&&(c==3))&&tX p 1 99))&&decide (wm (yn b) p>=0)))))))=((a==2)&&(((c==2)||(c==4))&&tX p 1 (wT b))||(a==3)&&((c==1)&&tX p 1 99||((c==2)||(c==3))&&decide (wm (yn b) p>=0)))
     revert hp
     generalize (a==2)=a2;generalize (a==3)=a3;generalize (c==1)=c1;generalize (c==2)=c2;generalize (c==3)=c3;generalize (c==4)=c4;generalize tX p 1 (wT b)=pn;generalize tX p 1 99=pg;generalize decide (wm (yn b) p>=0)=R;clear e5
     revert a2 a3 c1 c2 c3 c4 pn pg R
     decide
    | a::c::p::q::l=>simp
  · simp only[(MY (t:=t) h3).1,(MY (t:=t) h3).2];rfl
theorem Oj {b:tQ} (h:yU b) (o:List Int):Jj b o=HX b o:=by
 unfold Jj HX
 match o with
 | []=>simp only[(zd (o:=[]) (by simp)).1,(zd (o:=[]) (by simp)).2];rfl
 | [x]=>simp only[(zd (o:=[x]) (by simp)).1,(zd (o:=[x]) (by simp)).2];rfl
 | [x,y]=>simp only[(zd (o:=[x,y]) (by simp)).1,(zd (o:=[x,y]) (by simp)).2];rfl
 | x::y::z::t =>
  by_cases h3:x=1/\y=3/\z=1
  · obtain⟨rfl,rfl,rfl⟩:=h3;simp only[Sh,Si,Sj,Ty]
    match t with
    | []=>rfl
    | [a]=>simp
    | [a,c]=>simp
    | [a,c,p] =>
     have e7:((1::3::1::[a,c,p]).length==7)=false:=rfl;rw[e7,Bool.false_and,Bool.false_and,Bool.false_or];show ((a==2&&c==1)&&tX p 1 (wT b)||((a==2&&c==3)&&tX p 1 (wT b)||false))=(true&&(a==2&&((c==1||c==3)&&tX p 1 (wT b))))
     cases (a==2)<;>cases (c==1)<;>cases (c==3)<;>simp
    | [a,c,p,q]=>simp
    | a::c::p::q::r::l=>simp
  · simp only[(MY (t:=t) h3).1,(MY (t:=t) h3).2];rw[Bool.false_or,Bool.false_or,Bool.false_or,Bool.false_and];have:((x::y::z::t).take 5==[1,3,1,4,1])=false:=by
     rw[bF];intro e;simp at e;exact h3 ⟨e.1,e.2.1,e.2.2.1⟩
    rw[this,Bool.and_false,Bool.false_and]
def vG (r:ub):Bool->List ub->List ub
 | false,[]=>[r]
 | true,[]=>[]
 | false,x::t=>if x.1>=r.1 then r::(if x.1 != r.1 then x::vG r true t else vG r true t)else x::vG r false t
 | true,x::t=>if x.1 != r.1 then x::vG r true t else vG r true t
theorem Da {r:ub}:∀{l:List ub},(∀x∈l,x.1≠r.1)->vG r true l=l
 | [],_=>rfl
 | x::t,h=>by
  unfold vG;rw[if_pos (bne_iff_ne.2 (h x (by simp))),Da λy hy=>h y (mem_cons_of_mem _ hy)]
theorem GZ {r:ub}:∀{l:List ub} {k:Nat} (hk:k<l.length),l.Pairwise (λr s=>r.1<s.1)->l[k].1=r.1->vG r false l=l.set k r
 | x::t,0,_,hp,e=>by
  have e':x.1=r.1:=e;unfold vG;rw[if_pos (by omega),if_neg (by simp[e']),Da λy hy=>by have:=(pairwise_cons.1 hp).1 y hy;omega];rfl
 | x::t,k+1,hk,hp,e=>by
  have e':(t[k]'(by simpa using hk)).1=r.1:=e;have:=(pairwise_cons.1 hp).1 _ (getElem_mem (by simpa using hk:k<t.length))
  unfold vG;rw[if_neg (by omega),GZ (by simpa using hk) (pairwise_cons.1 hp).2 e'];rfl
theorem LN {r:ub}:∀{l:List ub} {d:Nat},l.Pairwise (λr s=>r.1<s.1)->(∀x∈l,x.1≠r.1)->(∀x∈l.take d,x.1<=r.1)->(∀x,l[d]?=some x->¬x.1<=r.1)->vG r false l=l.take d++r::l.drop d
 | [],d,_,_,_,_=>by simp[vG]
 | x::t,0,hp,hn,_,h2=>by
  have:=h2 x rfl;unfold vG;rw[if_pos (by omega),if_pos (bne_iff_ne.2 (hn x (by simp))),Da λy hy=>hn y (mem_cons_of_mem _ hy)];rfl
 | x::t,d+1,hp,hn,h1,h2=>by
  have a1:=h1 x (by simp);have a2:=hn x (by simp)
  unfold vG;rw[if_neg (by omega),LN (d:=d) (pairwise_cons.1 hp).2 (λy hy=>hn y (mem_cons_of_mem _ hy)) (λy hy=>h1 y (by rw[take_succ_cons];exact mem_cons_of_mem _ hy)) (λy hy=>h2 y (by simpa using hy))];rfl
theorem Sk {v:vi} (r:ub) (h1:v.1.length<=1000) (h2:v.2.length<=1000):bY v r=some (vG r false v.1,v.2):=by
 unfold bY;rw[u7 (by show 0+v.2.length<=_;omega),tP];obtain⟨b,e1,e2⟩:=uz (β:=Bool×List ub) (step:=λz:Bool×Int×List ub=>fJ v r z.1 z.2.1 z.2.2)
  (λk z=>z.2.1=(k:Int)/\z.2.2++vG r z.1 (v.1.drop k)=vG r false v.1/\z.2.2.length<=2*k) v.1.length
  (λz=>z.2++vG r z.1 []=vG r false v.1/\z.2.length<=2000)
  (λk z hk ⟨z1,z2,z3⟩=>by
   obtain⟨dn,i,out⟩:=z;simp only at z1 z2 z3;subst z1;left;have hd:v.1.drop k=v.1[k]::v.1.drop (k+1):=drop_eq_getElem_cons hk
   have hw:tR ((k:Int)+1)=((k+1:Nat):Int):=ua (by omega);have ha:∀(x:ub),uv out [x]=some (out++[x]):=λx=>u7 (by show _+1<=_;omega)
   have hb:∀(x y:ub),uv (out++[x]) [y]=some (out++[x]++[y]):=λx y=>u7 (by simp only[length_append,length_cons,length_nil];omega);rw[hd]at z2;generalize hG:vG r false v.1=G at z2 ⊢;unfold fJ;simp only[ux (show (k:Int)<(v.1.length:Int) by omega),cT,ug hk,tP,ha,hb,hw];cases dn with
   | true =>
    simp only[Bool.not_true,cF,tP];unfold vG at z2;cases hq:(v.1[k].1 != r.1)with
    | true =>
     rw[hq]at z2;exact⟨_,rfl,rfl,by simpa using z2,by simp;omega⟩
    | false =>
     rw[hq]at z2;exact⟨_,rfl,rfl,by simpa using z2,by simp;omega⟩
   | false =>
    simp only[Bool.not_false,cT,tP];unfold vG at z2;by_cases hg:v.1[k].1>=r.1
    · rw[if_pos hg]at z2;simp only[dT hg,cT];cases hq:(v.1[k].1 != r.1)with
      | true =>
       rw[hq]at z2;exact⟨_,rfl,rfl,by simpa using z2,by simp;omega⟩
      | false =>
       rw[hq]at z2;exact⟨_,rfl,rfl,by simpa using z2,by simp;omega⟩
    · rw[if_neg hg]at z2;simp only[dF hg,cF,bne_iff_ne.2 (show v.1[k].1≠r.1 by omega),cT];exact⟨_,rfl,rfl,by simpa using z2,by simp;omega⟩)
  (λz ⟨z1,z2,z3⟩=>by
   obtain⟨dn,i,out⟩:=z;simp only at z1 z2 z3;subst z1;rw[List.drop_length]at z2;refine⟨(dn,out),?_,z2,by show out.length<=2000;have:out.length<=2*v.1.length:=z3;omega⟩;unfold fJ;rw[uj (by omega),cF]) (x:=(false,0,[])) ⟨rfl,rfl,by simp⟩
 rw[e1,tP];obtain⟨dn,out⟩:=b;simp only at e2 ⊢;cases dn with
 | true =>
  rw[Bool.not_true,cF,←e2.1];simp[vG]
 | false =>
  rw[Bool.not_false,cT,u7 (by show _+1<=_;omega),tP,←e2.1];rfl
theorem Pj {v:vi} (r:ub) (h1:v.1.length<=1000) (h2:v.2.length<=1000) (hp:v.1.Pairwise λr s=>r.1<s.1):eE v r=some (vG r false v.1,v.2):=by
 unfold eE;have hM:M=1048576:=rfl
 rw[GW ⟨by omega,by omega⟩,tP,Fz (by omega),tP];by_cases hr:wm v.1 r.1>=0
 · obtain⟨k,hk,e1,e2⟩:=BJ hr;have hx:ix v.1.length (k:Int)=some k:=by unfold ix;rw[if_pos (by omega),if_pos (by omega),Int.toNat_natCast]
   rw[dT hr,cT,e1,hx,tP,List.getElem?_eq_getElem hk,tP,GZ hk hp e2]
 · rw[dF hr,cF];have hn:=MW (by omega:wm v.1 r.1<0)
   obtain⟨d,e1,k,hk,rfl,e3,e4⟩:=uz (β:=Int) (step:=λz=>gA v r z)
    (λk z=>z=(k:Int)/\∀x∈v.1.take k,x.1<=r.1) v.1.length
    (λz=>∃k:Nat,k<=v.1.length/\z=(k:Int)/\(∀x∈v.1.take k,x.1<=r.1)/\(∀x,v.1[k]?=some x->¬x.1<=r.1))
    (λk z hk ⟨z1,z2⟩=>by
     subst z1;unfold gA;simp only[ux (show (k:Int)<(v.1.length:Int) by omega),cT,ug hk,tP];by_cases hq:v.1[k].1<=r.1
     · refine .inl ⟨_,by rw[dT hq,cT],ua (by omega),λx hx=>?_⟩;rw[take_add_one,List.getElem?_eq_getElem hk,mem_append]at hx;rcases hx with hx|hx
       · exact z2 x hx
       · simp at hx;subst hx;exact hq
     · refine .inr ⟨_,by rw[dF hq,cF],k,by omega,rfl,z2,λx hx=>?_⟩;rw[List.getElem?_eq_getElem hk]at hx;cases hx;exact hq)
    (λz ⟨z1,z2⟩=>by
     subst z1;refine⟨(v.1.length:Int),?_,v.1.length,Nat.le_refl _,rfl,z2,λx hx=>?_⟩
     · unfold gA;rw[uj (by omega),cF];rfl
     · rw[List.getElem?_eq_none (Nat.le_refl _)]at hx;cases hx) (x:=0) ⟨rfl,by simp⟩
   rw[e1,tP,show (0:Int)=((0:Nat):Int)from rfl,yh (Nat.zero_le _) hk,tP,drop_zero];have hl:(v.1.take k).length<=1000:=by rw[length_take];omega
   rw[u7 (by simp only[length_nil];omega),tP,List.nil_append,u7 (by simp only[length_cons,length_nil];omega),tP,yh hk (Nat.le_refl _),tP,take_length,u7 (by simp only[length_append,length_cons,length_nil,length_drop];omega),tP,LN hp hn e3 e4];simp

def Sl (b:tQ) (m s:Option (tQ×Int)):Prop:=∃r,m=some r/\s=some r/\yU r.1/\(r.2≠0->r.1=b)
theorem Cx {n a b:Nat} (h1:a<=b) (h2:b<=n):vE n (a:Int) (b:Int)=some (a,b):=by
 unfold vE;rw[if_pos (by omega),if_pos (by omega),if_pos (by omega)];simp
theorem Pk {v:vi} (id:Int) (h1:v.1.length<=1000) (h2:v.2.length<=1000) {k:Nat} (hk:k<v.1.length) (e:wm v.1 id=(k:Int)):eF v id=some (v.1.eraseIdx k,v.2):=by
 unfold eF;have hM:M=1048576:=rfl
 have hw:tR ((k:Int)+1)=((k+1:Nat):Int):=ua (by omega);rw[GW ⟨by omega,by omega⟩,tP,Fz (by omega),tP,e,dT (by omega),cT,hw,show (0:Int)=((0:Nat):Int)from rfl,yh (Nat.zero_le _) (by omega),tP,u7 (by simp only[length_nil,length_drop,length_take];omega),tP,yh (by omega) (Nat.le_refl _),tP,u7 (by simp only[length_append,length_nil,length_drop,length_take];omega),tP,List.eraseIdx_eq_take_drop_succ];simp
theorem Ir {r:ub} {l:List ub} (hs:l.Pairwise λr s=>r.1<s.1) (hi:∀x∈l,tX x.1 1 99=true) (hh:∀x∈l,-9223372036854775808<=x.2.2/\x.2.2<=9223372036854775807)
 (ri:tX r.1 1 99=true) (rh:-9223372036854775808<=r.2.2/\r.2.2<=9223372036854775807) :
 (vG r false l).Pairwise (λr s=>r.1<s.1)/\(∀x∈vG r false l,tX x.1 1 99=true)/\(∀x∈vG r false l,-9223372036854775808<=x.2.2/\x.2.2<=9223372036854775807):=by
 have hm:∀{dn:Bool} {l:List ub},∀x∈vG r dn l,x=r\/x∈l:=by
  intro dn l
  induction l generalizing dn with
  | nil=>intro x hx;cases dn<;>simp[vG]at hx;exact .inl hx
  | cons y t ih =>
   intro x hx;cases dn with
   | true =>
    unfold vG at hx;split at hx
    · rcases mem_cons.1 hx with rfl|hx
      · exact .inr (by simp)
      · rcases ih x hx with e|e
        · exact .inl e
        · exact .inr (mem_cons_of_mem _ e)
    · rcases ih x hx with e|e
      · exact .inl e
      · exact .inr (mem_cons_of_mem _ e)
   | false =>
    unfold vG at hx;split at hx
    · rcases mem_cons.1 hx with rfl|hx
      · exact .inl rfl
      · split at hx
        · rcases mem_cons.1 hx with rfl|hx
          · exact .inr (by simp)
          · rcases ih x hx with e|e
            · exact .inl e
            · exact .inr (mem_cons_of_mem _ e)
        · rcases ih x hx with e|e
          · exact .inl e
          · exact .inr (mem_cons_of_mem _ e)
    · rcases mem_cons.1 hx with rfl|hx
      · exact .inr (by simp)
      · rcases ih x hx with e|e
        · exact .inl e
        · exact .inr (mem_cons_of_mem _ e)
 have hp:∀{l:List ub},l.Pairwise (λr s=>r.1<s.1)->(vG r false l).Pairwise (λr s=>r.1<s.1):=by
  intro l
  induction l with
  | nil=>intro _;simp[vG]
  | cons y t ih =>
   intro h;have h1:=(pairwise_cons.1 h).1
   have h2:=(pairwise_cons.1 h).2;unfold vG;split
   · next hy =>
     have ht:vG r true t=t:=Da λz hz=>by have:=h1 z hz;omega
     rw[ht];split
     · next hq =>
       have hq:=bne_iff_ne.1 hq;refine pairwise_cons.2 ⟨λz hz=>?_,h⟩;rcases mem_cons.1 hz with rfl|hz
       · omega
       · have:=h1 z hz;omega
     · next hq =>
       have hq:y.1=r.1:=by simpa using hq
       refine pairwise_cons.2 ⟨λz hz=>?_,h2⟩;have:=h1 z hz;omega
   · next hy =>
     refine pairwise_cons.2 ⟨λz hz=>?_,ih h2⟩;rcases hm z hz with rfl|hz
     · omega
     · exact h1 z hz
 refine⟨hp hs,λx hx=>?_,λx hx=>?_⟩
 · rcases hm x hx with rfl|hx
   · exact ri
   · exact hi x hx
 · rcases hm x hx with rfl|hx
   · exact rh
   · exact hh x hx
theorem Pl {r:ub} {dn:Bool} {l:List ub}:(vG r dn l).length<=l.length+1:=by
 induction l generalizing dn with
 | nil=>cases dn<;>simp[vG]
 | cons x t ih =>
  have h1:=ih (dn:=true);have h2:=ih (dn:=false)
  have h3:(vG r true t).length<=t.length:=by
   clear ih h1 h2
   induction t with
   | nil=>simp[vG]
   | cons y t ih=>unfold vG;split<;>simp<;>omega
  cases dn<;>unfold vG<;>split<;>(try split)<;>simp<;>omega
theorem yU.rows {b:tQ} (h:yU b) {R:List ub} (h1:R.length<=6) (h2:R.Pairwise λr s=>r.1<s.1) (h3:∀x∈R,tX x.1 1 99=true) (h4:∀x∈R,-9223372036854775808<=x.2.2/\x.2.2<=9223372036854775807) :
 yU (b.1,b.2.1,b.2.2.1,b.2.2.2.1,R,b.2.2.2.2.2.1,b.2.2.2.2.2.2.1,b.2.2.2.2.2.2.2.1,b.2.2.2.2.2.2.2.2.1,b.2.2.2.2.2.2.2.2.2.1,b.2.2.2.2.2.2.2.2.2.2) :=
 ⟨h.id,h.name,h.n1,h.n6,h.p,h.f,h.c,h.q,h1,h2,h3,h4⟩
theorem HY {b:tQ} (h:yU b):tX (b.2.2.1.length:Int) 1 6=true:=by
 have h1:=h.n1;have h2:=h.n6
 unfold tX;rw[dT (by omega),dT (by omega)];rfl
theorem QQ {b:tQ} (h:yU b) (c id n:Int) (hc:(c=1/\tX id 1 99=true)\/((c=2\/c=3)/\wm (yn b) id>=0)):Sl b (gB b c id n) (fK b c id n):=by
 have hv:=h.v;have hq:b.2.2.2.2.2.1.length<=6:=by have:=h.q;have:=h.n6;omega
 have hr:∀(id:Int),aq (b.2.2.2.2.1,b.2.2.2.2.2.1) id=some (wm (yn b) id):=λid=>Fz (v:=(b.2.2.2.2.1,b.2.2.2.2.2.1)) (by show b.2.2.2.2.1.length<_;omega) id;have hrs:∀(id:Int),bO (b.2.2.2.2.1,b.2.2.2.2.2.1) id=some (wm (yn b) id):=hr
 have hw:∀(r:ub),eE (b.2.2.2.2.1,b.2.2.2.2.2.1) r=some (vG r false b.2.2.2.2.1,b.2.2.2.2.2.1):=λr=>Pj (v:=(b.2.2.2.2.1,b.2.2.2.2.2.1)) r (by show b.2.2.2.2.1.length<=_;omega) (by show b.2.2.2.2.2.1.length<=_;omega) h.s;have hws:∀(r:ub),bY (b.2.2.2.2.1,b.2.2.2.2.2.1) r=some (vG r false b.2.2.2.2.1,b.2.2.2.2.2.1):=λr=>Sk (v:=(b.2.2.2.2.1,b.2.2.2.2.2.1)) r (by show b.2.2.2.2.1.length<=_;omega) (by show b.2.2.2.2.2.1.length<=_;omega)
 unfold gB fK;rw[hr,tP];by_cases h1:c=1
 · subst h1;have hid:tX id 1 99=true:=by rcases hc with hc|hc;exact hc.2;rcases hc.1 with e|e<;>cases e
   unfold hO;rw[hrs];simp only[show ((1:Int)==1)=true from rfl,cT,tP,hw,hws];by_cases hp:wm (yn b) id>=0
   · have hp':¬wm (yn b) id<0:=by omega
     simp only[dT hp,dF hp'];have e4:cond (n==4) (some false) (some false)=some false:=by cases (n==4)<;>rfl
     rw[e4];simp only[tP,cF];cases hn:(n==6)with
     | false =>
      simp only[cF,tP];exact⟨_,rfl,rfl,h,λ_=>rfl⟩
     | true =>
      obtain⟨k,hk,e1,e2⟩:=BJ hp;simp only[cT,tP];have hk':k<b.2.2.2.2.1.length:=hk
      have hw64:tR (wm (yn b) id+1)=((k+1:Nat):Int):=by rw[e1];exact ua (by omega)
      have hwo:eF (b.2.2.2.2.1,b.2.2.2.2.2.1) id=some (b.2.2.2.2.1.eraseIdx k,b.2.2.2.2.2.1):=Pk (v:=(b.2.2.2.2.1,b.2.2.2.2.2.1)) id (by show b.2.2.2.2.1.length<=_;omega) (by show b.2.2.2.2.2.1.length<=_;omega) hk e1;have hso:(vE b.2.2.2.2.1.length 0 (wm (yn b) id)).bind (λp=>(uv ([]:List ub) ((b.2.2.2.2.1.take p.2).drop p.1)).bind λzs47=>(vE b.2.2.2.2.1.length (tR (wm (yn b) id+1)) (b.2.2.2.2.1.length:Int)).bind λp_1=>(uv zs47 ((b.2.2.2.2.1.take p_1.2).drop p_1.1)).bind λzs54=>some ((b.1,b.2.1,b.2.2.1,b.2.2.2.1,zs54,b.2.2.2.2.2.1,b.2.2.2.2.2.2.1,b.2.2.2.2.2.2.2.1,b.2.2.2.2.2.2.2.2.1,b.2.2.2.2.2.2.2.2.2.1,b.2.2.2.2.2.2.2.2.2.2),(0:Int)))
       = some ((b.1,b.2.1,b.2.2.1,b.2.2.2.1,b.2.2.2.2.1.eraseIdx k,b.2.2.2.2.2.1,b.2.2.2.2.2.2.1,b.2.2.2.2.2.2.2.1,b.2.2.2.2.2.2.2.2.1,b.2.2.2.2.2.2.2.2.2.1,b.2.2.2.2.2.2.2.2.2.2),0):=by
       rw[hw64,e1,show (0:Int)=((0:Nat):Int)from rfl,Cx (Nat.zero_le _) (by omega),tP,u7 (by simp only[length_nil,length_drop,length_take];omega),tP,Cx (by omega) (Nat.le_refl _),tP,u7 (by simp only[length_append,length_nil,length_drop,length_take];omega),tP,List.eraseIdx_eq_take_drop_succ];simp
      rw[hwo];refine⟨_,rfl,by rw[hso];rfl,h.rows ?_ ?_ ?_ ?_,λe=>absurd rfl e⟩
      · rw[List.length_eraseIdx];split<;>omega
      · exact h.s.sublist (List.eraseIdx_sublist _ _)
      · exact λx hx=>h.i x (List.mem_of_mem_eraseIdx hx)
      · exact λx hx=>h.h x (List.mem_of_mem_eraseIdx hx)
   · have hp':wm (yn b) id<0:=by omega
     simp only[dF hp,dT hp'];have e6:cond (n==6) (some false) (some false)=some false:=by cases (n==6)<;>rfl
     rw[e6];cases hn:(n==4)with
     | false =>
      simp only[cF,tP];exact⟨_,rfl,rfl,h,λ_=>rfl⟩
     | true =>
      simp only[cT,tP];by_cases h6:(b.2.2.2.2.1.length:Int)<6
      · simp only[dT h6,cT];obtain⟨g1,g2,g3⟩:=Ir (r:=(id,0,0)) h.s h.i h.h hid ⟨by show (-9223372036854775808:Int)<=0;decide,by show (0:Int)<=9223372036854775807;decide⟩;have:=Pl (r:=(id,0,0)) (dn:=false) (l:=b.2.2.2.2.1)
        exact⟨_,rfl,rfl,h.rows (by omega) g1 g2 g3,λe=>absurd rfl e⟩
      · simp only[dF h6,cF,tP];exact⟨_,rfl,rfl,h,λ_=>rfl⟩
 · have h23:c=2\/c=3:=by rcases hc with hc|hc;exact absurd hc.1 h1;exact hc.1
   have hp:wm (yn b) id>=0:=by rcases hc with hc|hc;exact absurd hc.1 h1;exact hc.2
   obtain⟨k,hk,e1,e2⟩:=BJ hp;have hk':k<b.2.2.2.2.1.length:=hk
   obtain⟨t,q1,q2⟩:=RX (HY h);rw[show (c==1)=false from beq_eq_false_iff_ne.2 h1];simp only[cF,J0 (HY h),q1,tP,xx,AP,q2];cases hn:tX n 0 (B3 (b.2.2.1.length:Int))with
   | false=>exact⟨_,rfl,rfl,h,λ_=>rfl⟩
   | true =>
    have ht:=(ML (HY h)).2;have hnr:-9223372036854775808<=n/\n<=9223372036854775807:=by
     unfold tX at hn;simp only[aT,decide_eq_true_eq]at hn;omega
    have hx:ix b.2.2.2.2.1.length (k:Int)=some k:=wl hk';rw[hrs];simp only[Bool.not_true,cF,tP,e1,hx,List.getElem?_eq_getElem hk',hws];have hin:∀(r:ub),r.1=b.2.2.2.2.1[k].1->vG r false b.2.2.2.2.1=b.2.2.2.2.1.set k r:=λr e=>GZ hk' h.s e.symm
    have hki:=h.i _ (getElem_mem hk');have hkh:=h.h _ (getElem_mem hk')
    have hlen:∀(r:ub),r.1=b.2.2.2.2.1[k].1->(vG r false b.2.2.2.2.1).length<=6:=λr e=>by rw[hin r e,length_set];exact hv
    rcases h23 with rfl|rfl
    · simp only[show ((2:Int)==2)=true from rfl,cT];obtain⟨g1,g2,g3⟩:=Ir (r:=(b.2.2.2.2.1[k].1,n,b.2.2.2.2.1[k].2.2)) h.s h.i h.h hki hkh;refine⟨_,rfl,?_,?_,λe=>absurd rfl e⟩
      · rw[hin (b.2.2.2.2.1[k].1,n,b.2.2.2.2.1[k].2.2) rfl]
      · rw[←hin (b.2.2.2.2.1[k].1,n,b.2.2.2.2.1[k].2.2) rfl];exact h.rows (hlen _ rfl) g1 g2 g3
    · simp only[show ((3:Int)==2)=false from rfl,cF];obtain⟨g1,g2,g3⟩:=Ir (r:=(b.2.2.2.2.1[k].1,b.2.2.2.2.1[k].2.1,n)) h.s h.i h.h hki hnr;refine⟨_,rfl,?_,?_,λe=>absurd rfl e⟩
      · rw[hin (b.2.2.2.2.1[k].1,b.2.2.2.2.1[k].2.1,n) rfl]
      · rw[←hin (b.2.2.2.2.1[k].1,b.2.2.2.2.1[k].2.1,n) rfl];exact h.rows (hlen _ rfl) g1 g2 g3
theorem Ok {b:tQ} {o:List Int} (h:GY b o=true):o=[1,3,1,1,1]\/(∃c p,o=[1,3,1,2,c,p]/\(c=2\/c=4)/\tX p 1 (wT b)=true)\/(∃c p,o=[1,3,1,3,c,p]/\((c=1/\tX p 1 99=true)\/((c=2\/c=3)/\wm (yn b) p>=0))):=by
 unfold GY at h;rw[aT]at h;obtain⟨h1,h2⟩:=h;unfold B5 at h1;simp only[aT,decide_eq_true_eq,beq_iff_eq]at h1;have ho:o=[1,3,1]++o.drop 3:=by rw[←h1.2,take_append_drop]
 match hd:o.drop 3,h2 with
 | [a,c],h2 =>
  simp only[aT,beq_iff_eq]at h2;rw[hd]at ho;exact .inl (by rw[ho,h2.1,h2.2];rfl)
 | [a,c,p],h2 =>
  rw[hd]at ho;simp only[Bool.or_eq_true,aT,beq_iff_eq,decide_eq_true_eq]at h2;rcases h2 with ⟨rfl,h3,h4⟩|⟨rfl,h3⟩
  · exact .inr (.inl ⟨c,p,ho,h3,h4⟩)
  · exact .inr (.inr ⟨c,p,ho,h3⟩)
theorem Sm {b:tQ} {p:Int} (h:tX p 1 (wT b)=true) (hn:b.2.2.1.length<=6):∃k,k<b.2.2.1.length/\tR (p-1)=(k:Int):=by
 unfold tX wT at h;simp only[aT,decide_eq_true_eq]at h;exact⟨(p-1).toNat,by omega,by rw[uS (by omega) (by omega)];omega⟩
theorem QR {p:Pt} {n:Int} (hn:tX n 1 1000=true) (h:EJ p=true):EJ (p.1,n,p.2.2.1,p.2.2.2.1,p.2.2.2.2.1,p.2.2.2.2.2.1,p.2.2.2.2.2.2.1,p.2.2.2.2.2.2.2)=true:=by
 unfold EJ at h ⊢;rw[aT]at h ⊢;exact⟨hn,h.2⟩
theorem So {b:tQ} (h:yU b) {x:tS} (hx:x.1.length<=M):Sl b (co b x) (dX b x):=by
 unfold co dX;rw[U0 h.le hx,tP,xq h.le,tP,U1 h.le hx,tP,QP h];cases hm:GY b x.1 with
 | false =>
  rw[cF,Bool.not_false,cT,Tp h.le hx,Tq h.le hx,tP,tP,Oj h];cases HX b x.1 with
  | true=>exact⟨_,rfl,rfl,h,λ_=>rfl⟩
  | false=>exact⟨_,rfl,rfl,h,λ_=>rfl⟩
 | true =>
  obtain⟨o,kd,n,w,vo⟩:=x;rw[cT,Bool.not_true,cF];simp only;unfold iw;rcases Ok hm with ho|⟨c,p,ho,hc,hp⟩|⟨c,p,ho,hc⟩
  · simp only at ho;subst ho;rw[show at? [1,3,1,1,1] 3=some (1:Int)from rfl,show cut [1,3,1,1,1] 3 (([1,3,1,1,1]:List Int).length:Int)=some ([1,1]:List Int)from rfl];simp only[tP,show at? [1,1] 0=some (1:Int)from rfl,show ((1:Int)==1)=true from rfl,cT,Bool.not_true,cF];cases (kd != 4)with
    | true=>exact⟨_,rfl,rfl,h,λ_=>rfl⟩
    | false =>
     simp only[cF,tP];by_cases hw:(w.length:Int)>10
     · simp only[dT hw,cT];exact⟨_,rfl,rfl,h,λ_=>rfl⟩
     · simp only[dF hw,cF];exact⟨_,rfl,rfl,⟨h.id,by show w.length<=10;omega,h.n1,h.n6,h.p,h.f,h.c,h.q,h.v,h.s,h.i,h.h⟩,λe=>absurd rfl e⟩
  · simp only at ho;subst ho;rw[show at? [1,3,1,2,c,p] 3=some (2:Int)from rfl,show at? [1,3,1,2,c,p] 4=some c from rfl,show at? [1,3,1,2,c,p] 5=some p from rfl,show cut [1,3,1,2,c,p] 3 (([1,3,1,2,c,p]:List Int).length:Int)=some ([2,c,p]:List Int)from rfl];simp only[tP,show at? [2,c,p] 0=some (2:Int)from rfl,show at? [2,c,p] 1=some c from rfl,show at? [2,c,p] 2=some p from rfl,show ((2:Int)==1)=false from rfl,show ((2:Int)==2)=true from rfl,show ((2:Int)==3)=false from rfl,cT,Bool.not_false,cF];cases (kd != 2)with
    | true=>exact⟨_,rfl,rfl,h,λ_=>rfl⟩
    | false =>
     obtain⟨k,hk,ek⟩:=Sm hp h.n6;simp only[cF,tP,ek];unfold hN;have hx1:ix b.2.2.1.length (k:Int)=some k:=wl hk
     have hx2:ix b.2.2.2.2.2.1.length (k:Int)=some k:=wl (by rw[h.q];exact hk);have hk2:k<b.2.2.2.2.2.1.length:=by rw[h.q];exact hk
     simp only[xx,AP,tP,hx1,hx2,List.getElem?_eq_getElem hk,List.getElem?_eq_getElem hk2];rcases hc with rfl|rfl
     · simp only[show ((2:Int)==2)=true from rfl,cT];cases hn:tX n 1 1000 with
       | false=>exact⟨_,rfl,rfl,h,λ_=>rfl⟩
       | true =>
        exact⟨_,rfl,rfl,⟨h.id,h.name,by simp only[length_set];exact h.n1,by simp only[length_set];exact h.n6,λy hy=>by
         rcases List.mem_or_eq_of_mem_set hy with e|rfl
         · exact h.p y e
         · exact QR hn (h.p _ (getElem_mem hk)),h.f,h.c,by simp only[length_set];exact h.q,h.v,h.s,h.i,h.h⟩,λe=>absurd rfl e⟩
     · simp only[show ((4:Int)==2)=false from rfl,cF];exact⟨_,rfl,rfl,⟨h.id,h.name,h.n1,h.n6,h.p,h.f,h.c,by simp only[length_set];exact h.q,h.v,h.s,h.i,h.h⟩,λe=>absurd rfl e⟩
  · simp only at ho;subst ho;rw[show at? [1,3,1,3,c,p] 3=some (3:Int)from rfl,show at? [1,3,1,3,c,p] 4=some c from rfl,show at? [1,3,1,3,c,p] 5=some p from rfl,show cut [1,3,1,3,c,p] 3 (([1,3,1,3,c,p]:List Int).length:Int)=some ([3,c,p]:List Int)from rfl];simp only[tP,show at? [3,c,p] 0=some (3:Int)from rfl,show at? [3,c,p] 1=some c from rfl,show at? [3,c,p] 2=some p from rfl,show ((3:Int)==1)=false from rfl,show ((3:Int)==2)=false from rfl,show ((3:Int)==3)=true from rfl,cT,Bool.not_false,cF];cases (kd != 2)with
    | true=>exact⟨_,rfl,rfl,h,λ_=>rfl⟩
    | false =>
     simp only[cF,tP];obtain⟨r,r1,r2,r3,r4⟩:=QQ h c p n hc;exact⟨r,by rw[r1];rfl,by rw[r2];rfl,r3,r4⟩

theorem H0 {α β:Type} {step t:α->Option (α⊕β)} (uE:Nat->α->Prop) (m:Nat) (R:β->Prop)
 (h:∀k x,k<m->uE k x->(∃y,step x=some (.inl y)/\t x=some (.inl y)/\uE (k+1) y)\/∃b,step x=some (.inr b)/\t x=some (.inr b)/\R b)
 (he:∀x,uE m x->∃b,step x=some (.inr b)/\t x=some (.inr b)/\R b) {x:α} (h0:uE 0 x):∃b,loop step x=some b/\loop t x=some b/\R b:=by
 have key:∀n k x,k+n=m->uE k x->∃b,wY step (n+1) x=some b/\wY t (n+1) x=some b/\R b:=by
  intro n
  induction n with
  | zero =>
   intro k x hk hx;obtain rfl:k=m:=by omega
   obtain⟨b,h1,h3,h2⟩:=he x hx;exact⟨b,by rw[vg,h1];rfl,by rw[vg,h3];rfl,h2⟩
  | succ n ih =>
   intro k x hk hx;rcases h k x (by omega) hx with ⟨y,h1,h5,h2⟩|⟨b,h1,h5,h2⟩
   · obtain⟨b,h3,h6,h4⟩:=ih (k+1) y (by omega) h2;exact⟨b,by rw[vg,h1];exact h3,by rw[vg,h5];exact h6,h4⟩
   · exact⟨b,by rw[vg,h1];rfl,by rw[vg,h5];rfl,h2⟩
 obtain⟨b,h1,h3,h2⟩:=key m 0 x (by omega) h0;exact⟨b,yq h1,yq h3,h2⟩
theorem Ts {l:List u0} (h:zB l=true):FB l:=by
 unfold zB at h;simp only[aT,Bool.not_eq_true',decide_eq_true_eq]at h;refine⟨λx hx=>?_,Es (R:=lt) (λ_ _ _=>lt_trans) λk hk=>?_,by omega⟩
 · obtain⟨k,hk,rfl⟩:=getElem_of_mem hx;have hx:=any_eq_false.1 h.1 k (mem_range.2 hk)
   unfold zk at hx;simp only[List.getElem?_eq_getElem hk,Bool.or_eq_true,not_or,Bool.not_eq_true',Bool.not_eq_false]at hx;exact hx.1
 · have hx:=any_eq_false.1 h.1 (k+1) (mem_range.2 hk);unfold zk at hx;simp only[List.getElem?_eq_getElem hk,Nat.add_sub_cancel,List.getElem?_eq_getElem (show k<l.length by omega),Bool.or_eq_true,aT,decide_eq_true_eq,not_or,not_and,Bool.not_eq_true',Bool.not_eq_false]at hx;have hp:=hx.2 (by omega)
   unfold An at hp;simp only[Bool.or_eq_true,aT,decide_eq_true_eq,beq_iff_eq]at hp;unfold lt;omega
theorem FB.sub {l m:List u0} (h:FB l) (hs:m.Sublist l):FB m :=
 ⟨λx hx=>h.e x (hs.subset hx),h.o.sublist hs,Nat.le_trans hs.length_le h.n⟩
def A0 (l:List u0) (p:Int):List u0:=l.filter λe=>e.2.2.2.2||e.2.2.1 != p
theorem HZ {l:List u0} (p:Int) (hn:l.length<=1000) (step:Int×List u0->Option ((Int×List u0)⊕List u0))
 (hs:∀k (hk:k<l.length) out,step ((k:Int),out)=cond (l[k].2.2.2.2||l[k].2.2.1 != p) ((uv out [l[k]]).bind λzs=>some (.inl (((k+1:Nat):Int),zs))) (some (.inl (((k+1:Nat):Int),out))))
 (he:∀out,step ((l.length:Int),out)=some (.inr out)):loop step (0,[])=some (A0 l p):=by
 obtain⟨b,h1,rfl⟩:=uz (step:=step) (λk z=>z.1=(k:Int)/\z.2=A0 (l.take k) p) l.length (λb=>b=A0 l p)
  (λk z hk ⟨z1,z2⟩=>by
   obtain⟨i,out⟩:=z;simp only at z1 z2;subst z1 z2;left;have hl:(A0 (l.take k) p).length<=k:=by
    have:=(List.filter_sublist (p:=λe:u0=>e.2.2.2.2||e.2.2.1 != p) (l:=l.take k)).length_le;rw[length_take]at this;show (List.filter _ _).length<=k
    omega
   have ht:A0 (l.take (k+1)) p=A0 (l.take k) p++cond (l[k].2.2.2.2||l[k].2.2.1 != p) [l[k]] []:=by
    unfold A0;rw[take_add_one,List.getElem?_eq_getElem hk,List.filter_append];rw[Option.toList_some,List.filter_cons,List.filter_nil];cases (l[k].2.2.2.2||l[k].2.2.1 != p)<;>rfl
   rw[hs k hk];cases hc:(l[k].2.2.2.2||l[k].2.2.1 != p)with
   | true =>
    rw[hc]at ht;exact⟨_,by rw[cT,u7 (by show _+1<=_;omega)];rfl,rfl,by rw[ht];rfl⟩
   | false =>
    rw[hc]at ht;exact⟨_,rfl,rfl,by rw[ht];simp⟩)
  (λz ⟨z1,z2⟩=>by
   obtain⟨i,out⟩:=z;simp only at z1 z2;subst z1 z2;exact⟨_,he _,by rw[take_length]⟩) (x:=(0,[])) ⟨rfl,rfl⟩
 exact h1
theorem Sp {l:List u0} (p:Int) (hn:l.length<=1000):gx l p=some (A0 l p):=by
 unfold gx;rw[HZ p hn (λz=>dj l p z.1 z.2) (λk hk out=>by
  show dj l p (k:Int) out=_;unfold dj;rw[ux (by omega),cT,ug hk,tP,ua (by omega)];cases l[k].2.2.2.2<;>rfl) (λout=>by
  show dj l p (l.length:Int) out=_;unfold dj;rw[uj (by omega),cF])];rfl
theorem QS {l:List u0} (p:Int) (hn:l.length<=1000):fD l p=some (A0 l p):=by
 unfold fD;rw[HZ p hn (λz=>cD l p z.1 z.2) (λk hk out=>by
  show cD l p (k:Int) out=_;unfold cD;rw[ux (by omega),cT,ug hk,tP,tP,tP,ua (by omega)];cases l[k].2.2.2.2<;>rfl) (λout=>by
  show cD l p (l.length:Int) out=_;unfold cD;rw[uj (by omega),cF])];rfl
theorem Ol:∀k:Nat,k<6->tX (k:Int) 0 62=true/\tX (k:Int) 0 7=true:=by
 intro k hk;unfold tX;constructor<;>(rw[dT (by omega),dT (by omega)];rfl)
theorem U2 (c:Int) {k:Nat} (hk:k<6):∃t,shr .i64 c (k:Int)=some t:=by
 unfold shr;rw[if_neg (by omega)];exact⟨_,rfl⟩
theorem U3 (c:Int) {k:Nat} (hk:k<6):∃t,gv c (k:Int)=some t/\fC c (k:Int)=some t:=by
 obtain⟨t,h⟩:=U2 c hk;unfold gv fC;rw[xx,AP,tP,tP,(Ol k hk).1,(Ol k hk).2,cT,cT,HT (by omega),h];exact⟨_,rfl,rfl⟩
theorem MZ {n:Int} (h:tX n 0 1000000=true):∃r,bg n=some r/\bP n=some r/\tX r 0 1000000=true:=by
 unfold tX at h;simp only[aT,decide_eq_true_eq]at h;unfold bg bP tX min2;rw[uS (by omega) (by omega)];by_cases hn:n>=1000000
 · rw[dT hn,cT];refine⟨n,?_,rfl,?_⟩
   · simp only;split<;>first|rfl | (congr 1;omega)
   · simp only[aT,decide_eq_true_eq];omega
 · rw[dF hn,cF];refine⟨n+1,?_,rfl,?_⟩
   · simp only;split<;>first|rfl | (congr 1;omega)
   · simp only[aT,decide_eq_true_eq];omega
theorem yU.ok {b:tQ} (h:yU b) (hv:ym (b.2.2.2.2.1,b.2.2.2.2.2.1) (b.2.2.1.length:Int)=true):vc b=true:=by
 unfold vc;have h1:(List.range b.2.2.1.length).any (EK b.2.2.1)=false:=by
  rw[any_eq_false];intro k hk;have hk:=mem_range.1 hk
  unfold EK;simp[List.getElem?_eq_getElem hk,h.p _ (getElem_mem hk)]
 have h2:=h.name;rw[h1,h.id,h.f,hv,h.c,HY h,dF (show ¬(b.2.1.length:Int)>10 by omega)];rfl
theorem Tt {b:tQ} (h:yU b):∃r,bv b=some r/\cE b=some r/\yU r/\r.2.2.1=b.2.2.1/\r.2.2.2.2.1=b.2.2.2.2.1/\r.2.2.2.2.2.1=b.2.2.2.2.2.1/\r.1=b.1/\r.2.1=b.2.1/\r.2.2.2.2.2.2.1=b.2.2.2.2.2.2.1/\r.2.2.2.2.2.2.2.1=b.2.2.2.2.2.2.2.1/\r.2.2.2.2.2.2.2.2.1=b.2.2.2.2.2.2.2.2.1/\r.2.2.2.2.2.2.2.2.2.1=b.2.2.2.2.2.2.2.2.2.1/\bg b.2.2.2.2.2.2.2.2.2.2=some r.2.2.2.2.2.2.2.2.2.2:=by
 have n6:=h.n6;have hc:=h.c
 unfold wF at hc;simp only[aT]at hc;obtain⟨v,v1,v2,v3⟩:=MZ hc.2.2.2.2;obtain⟨c,_,c1,c2⟩:=S5 b.1 (l:=b.2.2.1) (by omega);unfold bv cE;rw[v1,v2,c1,c2];simp only[tP];have hF:=Ts h.f
 obtain⟨d,d1,d2,F,hf,rfl⟩:=H0 (step:=λz:Int×Int×List UInt8×Int×Int×Int×Int×Int×List u0=>gy b (c:Int) z.1 z.2.1 z.2.2.1 z.2.2.2.1 z.2.2.2.2.1 z.2.2.2.2.2.1 z.2.2.2.2.2.2.1 z.2.2.2.2.2.2.2.1 z.2.2.2.2.2.2.2.2)
  (t:=λz:Int×Int×List UInt8×Int×Int×Int×Int×Int×List u0=>fE b (c:Int) z.1 z.2.1 z.2.2.1 z.2.2.2.1 z.2.2.2.2.1 z.2.2.2.2.2.1 z.2.2.2.2.2.2.1 z.2.2.2.2.2.2.2.1 z.2.2.2.2.2.2.2.2)
  (λk z=>∃F:List u0,F.Sublist b.2.2.2.1/\z=((k:Int),b.1,b.2.1,b.2.2.2.2.2.2.1,b.2.2.2.2.2.2.2.1,b.2.2.2.2.2.2.2.2.1,b.2.2.2.2.2.2.2.2.2.1,v,F)) b.2.2.1.length
  (λd=>∃F:List u0,F.Sublist b.2.2.2.1/\d=(b.1,b.2.1,b.2.2.2.2.2.2.1,b.2.2.2.2.2.2.2.1,b.2.2.2.2.2.2.2.2.1,b.2.2.2.2.2.2.2.2.2.1,v,F))
  (λk z hk ⟨F,hf,e⟩=>by
   subst e;left;obtain⟨t,t1,t2⟩:=U3 (c:Int) (show k<6 by omega);have hl:F.length<=1000:=by have:=hf.length_le;have:=hF.n;omega
   simp only;unfold gy fE;rw[ux (show (k:Int)<(b.2.2.1.length:Int) by omega),cT,cT,t1,t2,tP,tP,Sp _ hl,QS _ hl,ua (show k<9223372036854775807 by omega)];cases t with
   | true=>exact⟨_,rfl,rfl,F,hf,rfl⟩
   | false=>exact⟨_,rfl,rfl,A0 F (k:Int),List.Sublist.trans List.filter_sublist hf,rfl⟩)
  (λz ⟨F,hf,e⟩=>by
   subst e;simp only;unfold gy fE;rw[uj (show ¬(b.2.2.1.length:Int)<(b.2.2.1.length:Int) by omega),cF,cF];exact⟨_,rfl,rfl,F,hf,rfl⟩) (x:=(0,b.1,b.2.1,b.2.2.2.2.2.2.1,b.2.2.2.2.2.2.2.1,b.2.2.2.2.2.2.2.2.1,b.2.2.2.2.2.2.2.2.2.1,v,b.2.2.2.1)) ⟨_,List.Sublist.refl _,rfl⟩
 rw[d1,d2];refine⟨_,rfl,rfl,⟨h.id,h.name,h.n1,h.n6,h.p,(hF.sub hf).ok,?_,h.q,h.v,h.s,h.i,h.h⟩,rfl,rfl,rfl,rfl,rfl,rfl,rfl,rfl,rfl,rfl⟩;unfold wF;simp only[aT];exact⟨hc.1,hc.2.1,hc.2.2.1,hc.2.2.2.1,v3⟩
theorem Tu {b:tQ} (h:yU b):∃r,bv b=some r/\cE b=some r/\yU r/\r.2.2.1=b.2.2.1/\r.2.2.2.2.1=b.2.2.2.2.1/\r.2.2.2.2.2.1=b.2.2.2.2.2.1:=by
 obtain⟨r,h1,h2,h3,h4,h5,h6,_⟩:=Tt h;exact⟨r,h1,h2,h3,h4,h5,h6⟩
theorem Pm {α:Type} [BEq α] [LawfulBEq α] (a b:α):(a==b)=(b==a):=by
 by_cases h:a=b
 · subst h;rfl
 · rw[beq_eq_false_iff_ne.2 h,beq_eq_false_iff_ne.2 (Ne.symm h)]

abbrev Sq:=Int×Int×Int×List UInt8×Int×Int×Int×Int×Int×List Pt×List u0×List ub×List Int
abbrev Tz:=Int×List UInt8×Int×Int×Int×Int×Int
def Sr (c k:Int) (b:tQ):Sq:=(c,k,b.1,b.2.1,b.2.2.2.2.2.2.1,b.2.2.2.2.2.2.2.1,b.2.2.2.2.2.2.2.2.1,b.2.2.2.2.2.2.2.2.2.1,b.2.2.2.2.2.2.2.2.2.2,b.2.2.1,b.2.2.2.1,b.2.2.2.2.1,b.2.2.2.2.2.1)
theorem Ss {b:tQ} (hb:yH M b) {l:List tS} (hl:Aa M l) {k:Nat} (hk:k<l.length) (s:Tz) :
 ∃r:Tz⊕Sq,loop (λz=>eG b (k:Int) l[k] (l.take k) z.1 z.2.1 z.2.2.1 z.2.2.2.1 z.2.2.2.2.1 z.2.2.2.2.2.1 z.2.2.2.2.2.2.1 z.2.2.2.2.2.2.2) (0,s)=some r
  /\ loop (λz=>dY b l (k:Int) z.1 z.2.1 z.2.2.1 z.2.2.2.1 z.2.2.2.2.1 z.2.2.2.2.2.1 z.2.2.2.2.2.2.1 z.2.2.2.2.2.2.2) (0,s)=some r/\((r=.inl s/\∀j (hj:j<k),l[j].1≠l[k].1)\/(r=.inr (Sr 5 ((k+1:Nat):Int) b)/\∃j,∃hj:j<k,l[j].1=l[k].1)):=by
 obtain⟨a0,a1,a6,a7,a8,a9,a10⟩:=s;have hn:l.length<=1048576:=hl.1
 refine H0 (λj z=>z=((j:Int),a0,a1,a6,a7,a8,a9,a10)/\∀i (hi:i<k),i<j->l[i].1≠l[k].1) k _ (λj z hj ⟨e,hne⟩=>?_) (λz ⟨e,hne⟩=>?_) ⟨rfl,λi _ hi=>absurd hi (Nat.not_lt_zero _)⟩
 · subst e;have ht:j<(l.take k).length:=by rw[length_take];omega
   have hg:(l.take k)[j]=l[j]:=List.getElem_take;have hw:∀i,i<l.length->∀(hi:i<l.length),l[i].1.length<9223372036854775807:=λi h1 h2=>by have:l[i].1.length<=1048576:=(hl.2 _ (getElem_mem h2)).1;omega
   have s1:az l[k].1 l[j].1=some (l[k].1==l[j].1):=D8 (hw j (by omega) (by omega));have s2:bV l[j].1 l[k].1=some (l[k].1==l[j].1):=by rw[Pm];exact D8 (hw k hk hk)
   simp only;unfold eG dY;rw[ux (show (j:Int)<((l.take k).length:Int) by omega),ux (show (j:Int)<(k:Int) by omega),cT,cT,ug ht,hg,ug (show j<l.length by omega),ug hk];simp only[tP,s1,s2];cases hb2:(l[k].1==l[j].1)with
   | true =>
    right;rw[z9 hb,xq hb];exact⟨_,rfl,by rw[ua (show k<9223372036854775807 by omega)];rfl,.inr ⟨by rw[ua (show k<9223372036854775807 by omega)];rfl,j,hj,(beq_iff_eq.1 hb2).symm⟩⟩
   | false =>
    left;refine⟨_,rfl,rfl,by rw[ua (show j<9223372036854775807 by omega)],λi hi hij=>?_⟩;by_cases e:i=j
    · subst e;exact λe=>(beq_eq_false_iff_ne.1 hb2) e.symm
    · exact hne i hi (by omega)
 · subst e;have ht:(l.take k).length=k:=by rw[length_take];omega
   refine⟨.inl (a0,a1,a6,a7,a8,a9,a10),?_,?_,.inl ⟨rfl,λj hj=>hne j hj hj⟩⟩
   · show eG b _ _ _ _ _ _ _ _ _ _ _=_;unfold eG;rw[ht,uj (by omega),cF]
   · show dY b _ _ _ _ _ _ _ _ _ _=_;unfold dY;rw[uj (by omega),cF]
theorem un {α β:Type} {step:α->Option (α⊕β)} {x:α} {b:β} (h:step x=some (.inr b)):loop step x=some b:=yq (k:=1) (by rw[vg,h];rfl)
inductive Db (b:tQ):List tS->tQ->Prop
 | nil:Db b [] b
 | snoc {l:List tS} {y y':tQ} {x:tS}:Db b l y->yU y->co y x=some (y',0)->Db b (l++[x]) y'
def PP (b:tQ) (l:List tS) (c:Int):Prop:=(vc b=false/\c=3)\/(∃k y,∃hk:k<l.length,Db b (l.take k) y/\yU y/\(((∃j,∃hj:j<k,l[j].1=l[k].1)/\c=5)\/∃y',co y l[k]=some (y',c)))\/∃y,Db b l y/\c=5
theorem Is {b:tQ} (h:zl b) (hb:yH M b) {l:List tS} (hl:Aa M l):∃r,dk b l=some r/\fM b l=some r/\yH M r.1/\(vc b=true->yU r.1/\vc r.1=true)/\((r.2.1=0/\r.2.2=0/\((l=[]/\r.1=b)\/∃y,Db b l y/\yU y/\(∀i (hi:i<l.length),∀j (hj:j<i),l[j].1≠l[i].1)/\bv y=some r.1))\/(r.1=b/\r.2.1≠0/\1<=r.2.2/\r.2.2<=(l.length:Int)/\PP b l r.2.1)):=by
 have hn:l.length<=1048576:=hl.1;unfold dk fM;rw[z9 hb,xq hb,DU h,DV h];simp only[tP];by_cases h0:l=[]
 · subst h0;have e1:decide ((([]:List tS).length:Int)>0)=false:=rfl
   have e2:((([]:List tS).length:Int)==0)=true:=rfl;have e3:cond (!vc b) (some false) (some false)=some false:=by cases vc b<;>rfl
   rw[e1,e2,e3,cT];simp only[tP,cF];refine⟨_,rfl,(congrArg (λo=>Option.bind o _) (un (b:=.inl (0,[],0,0,0,0,0,b.1,b.2.1,b.2.2.2.2.2.2.1,b.2.2.2.2.2.2.2.1,b.2.2.2.2.2.2.2.2.1,b.2.2.2.2.2.2.2.2.2.1,b.2.2.2.2.2.2.2.2.2.2,[],[],[],[],b.2.2.1,b.2.2.2.1,b.2.2.2.2.1,b.2.2.2.2.2.1)) rfl)).trans rfl,hb,λhp=>⟨(HV h hp).sok,hp⟩,.inl ⟨rfl,rfl,.inl ⟨by first|trivial|rfl,rfl⟩⟩⟩
 · have hpos:0<l.length:=List.length_pos_iff.2 h0;rw[show ((l.length:Int)==0)=false from beq_eq_false_iff_ne.2 (by omega),dT (show (l.length:Int)>0 by omega)];cases hp:vc b with
   | false=>exact⟨_,rfl,rfl,hb,λhp=>(by cases hp),.inr ⟨rfl,(by show (3:Int)≠0;decide),by show (1:Int)<=1;decide,by show (1:Int)<=_;omega,.inl ⟨hp,rfl⟩⟩⟩
   | true =>
    have hs0:=(HV h hp).sok;simp only[Bool.not_true,cF,tP];obtain⟨d,d1,d2,d3⟩:=H0 (step:=λz:Int×Int×List UInt8×Int×Int×Int×Int×Int×Int×List UInt8×Int×Int×Int×Int×Int×List Pt×List u0×List ub×List Int×List Pt×List u0×List ub×List Int=>gE b l z.1 z.2.1 z.2.2.1 z.2.2.2.1 z.2.2.2.2.1 z.2.2.2.2.2.1 z.2.2.2.2.2.2.1 z.2.2.2.2.2.2.2.1 z.2.2.2.2.2.2.2.2.1 z.2.2.2.2.2.2.2.2.2.1 z.2.2.2.2.2.2.2.2.2.2.1 z.2.2.2.2.2.2.2.2.2.2.2.1 z.2.2.2.2.2.2.2.2.2.2.2.2.1 z.2.2.2.2.2.2.2.2.2.2.2.2.2.1 z.2.2.2.2.2.2.2.2.2.2.2.2.2.2.1 z.2.2.2.2.2.2.2.2.2.2.2.2.2.2.2.1 z.2.2.2.2.2.2.2.2.2.2.2.2.2.2.2.2.1 z.2.2.2.2.2.2.2.2.2.2.2.2.2.2.2.2.2.1 z.2.2.2.2.2.2.2.2.2.2.2.2.2.2.2.2.2.2.1 z.2.2.2.2.2.2.2.2.2.2.2.2.2.2.2.2.2.2.2.1 z.2.2.2.2.2.2.2.2.2.2.2.2.2.2.2.2.2.2.2.2.1 z.2.2.2.2.2.2.2.2.2.2.2.2.2.2.2.2.2.2.2.2.2.1 z.2.2.2.2.2.2.2.2.2.2.2.2.2.2.2.2.2.2.2.2.2.2)
     (t:=λz=>fL b l z.1 z.2.1 z.2.2.1 z.2.2.2.1 z.2.2.2.2.1 z.2.2.2.2.2.1 z.2.2.2.2.2.2.1 z.2.2.2.2.2.2.2.1 z.2.2.2.2.2.2.2.2.1 z.2.2.2.2.2.2.2.2.2.1 z.2.2.2.2.2.2.2.2.2.2.1 z.2.2.2.2.2.2.2.2.2.2.2.1 z.2.2.2.2.2.2.2.2.2.2.2.2.1 z.2.2.2.2.2.2.2.2.2.2.2.2.2.1 z.2.2.2.2.2.2.2.2.2.2.2.2.2.2.1 z.2.2.2.2.2.2.2.2.2.2.2.2.2.2.2.1 z.2.2.2.2.2.2.2.2.2.2.2.2.2.2.2.2.1 z.2.2.2.2.2.2.2.2.2.2.2.2.2.2.2.2.2.1 z.2.2.2.2.2.2.2.2.2.2.2.2.2.2.2.2.2.2.1 z.2.2.2.2.2.2.2.2.2.2.2.2.2.2.2.2.2.2.2.1 z.2.2.2.2.2.2.2.2.2.2.2.2.2.2.2.2.2.2.2.2.1 z.2.2.2.2.2.2.2.2.2.2.2.2.2.2.2.2.2.2.2.2.2.1 z.2.2.2.2.2.2.2.2.2.2.2.2.2.2.2.2.2.2.2.2.2.2)
     (λk z=>∃y:tQ,(yU y/\Db b (l.take k) y/\∀i (hi:i<l.length),i<k->∀j (hj:j<i),l[j].1≠l[i].1)/\z=((k:Int),0,[],0,0,0,0,0,y.1,y.2.1,y.2.2.2.2.2.2.1,y.2.2.2.2.2.2.2.1,y.2.2.2.2.2.2.2.2.1,y.2.2.2.2.2.2.2.2.2.1,y.2.2.2.2.2.2.2.2.2.2,[],[],[],[],y.2.2.1,y.2.2.2.1,y.2.2.2.2.1,y.2.2.2.2.2.1)) l.length
     (λd=>(∃y:tQ,(yU y/\Db b l y/\∀i (hi:i<l.length),∀j (hj:j<i),l[j].1≠l[i].1)/\d=.inl (0,[],0,0,0,0,0,y.1,y.2.1,y.2.2.2.2.2.2.1,y.2.2.2.2.2.2.2.1,y.2.2.2.2.2.2.2.2.1,y.2.2.2.2.2.2.2.2.2.1,y.2.2.2.2.2.2.2.2.2.2,[],[],[],[],y.2.2.1,y.2.2.2.1,y.2.2.2.2.1,y.2.2.2.2.2.1))\/∃c k:Int,c≠0/\1<=k/\k<=(l.length:Int)/\PP b l c/\d=.inr (Sr c k b))
     (λk z hk ⟨y,⟨hy,hst,hdi⟩,e⟩=>by
      subst e;obtain⟨r,r1,r2,r3⟩:=Ss hb hl hk (0,[],0,0,0,0,0);have hc:cut l 0 (k:Int)=some (l.take k):=by rw[show (0:Int)=((0:Nat):Int)from rfl,yh (Nat.zero_le _) (by omega),drop_zero]
      simp only;unfold gE fL;rw[ux (show (k:Int)<(l.length:Int) by omega),cT,cT,ug hk,tP,hc,tP,r1,r2,tP,tP];rcases r3 with ⟨rfl,hnd⟩|⟨rfl,hdup⟩
      · obtain⟨q,q1,q2,q3,q4⟩:=So hy (hl.2 _ (getElem_mem hk)).1;have q1':co (y.1,y.2.1,y.2.2.1,y.2.2.2.1,y.2.2.2.2.1,y.2.2.2.2.2.1,y.2.2.2.2.2.2.1,y.2.2.2.2.2.2.2.1,y.2.2.2.2.2.2.2.2.1,y.2.2.2.2.2.2.2.2.2.1,y.2.2.2.2.2.2.2.2.2.2) l[k]=some q:=q1
        have q2':dX (y.1,y.2.1,y.2.2.1,y.2.2.2.1,y.2.2.2.2.1,y.2.2.2.2.2.1,y.2.2.2.2.2.2.1,y.2.2.2.2.2.2.2.1,y.2.2.2.2.2.2.2.2.1,y.2.2.2.2.2.2.2.2.2.1,y.2.2.2.2.2.2.2.2.2.2) l[k]=some q:=q2;simp only[Sum.elim_inl,tP,q1',q2',z9 hb,xq hb,ua (show k<9223372036854775807 by omega)];cases hq:(q.2 != 0)with
        | true =>
         right;exact⟨_,rfl,rfl,.inr ⟨q.2,((k+1:Nat):Int),bne_iff_ne.1 hq,by omega,by omega,.inr (.inl ⟨k,y,hk,hst,hy,.inr ⟨q.1,q1⟩⟩),rfl⟩⟩
        | false =>
         left;have hq0:q.2=0:=by simpa using hq
         refine⟨_,rfl,rfl,q.1,⟨q3,?_,λi hi hik j hj=>?_⟩,rfl⟩
         · rw[take_add_one,List.getElem?_eq_getElem hk];exact .snoc hst hy (by rw[q1,←hq0])
         · by_cases e:i=k
           · subst e;exact hnd j hj
           · exact hdi i hi (by omega) j hj
      · right;exact⟨_,rfl,rfl,.inr ⟨5,((k+1:Nat):Int),by decide,by omega,by omega,.inr (.inl ⟨k,y,hk,hst,hy,.inl ⟨hdup,rfl⟩⟩),rfl⟩⟩)
     (λz ⟨y,⟨hy,hst,hdi⟩,e⟩=>by
      subst e;simp only;unfold gE fL;rw[uj (show ¬(l.length:Int)<(l.length:Int) by omega),cF,cF];rw[take_length]at hst;exact⟨_,rfl,rfl,.inl ⟨y,⟨hy,hst,λi hi=>hdi i hi hi⟩,rfl⟩⟩) (x:=(0,0,[],0,0,0,0,0,b.1,b.2.1,b.2.2.2.2.2.2.1,b.2.2.2.2.2.2.2.1,b.2.2.2.2.2.2.2.2.1,b.2.2.2.2.2.2.2.2.2.1,b.2.2.2.2.2.2.2.2.2.2,[],[],[],[],b.2.2.1,b.2.2.2.1,b.2.2.2.2.1,b.2.2.2.2.2.1)) ⟨b,⟨hs0,.nil,λi _ hi=>absurd hi (Nat.not_lt_zero _)⟩,rfl⟩
    rw[d1,d2,tP,tP];rcases d3 with ⟨y,⟨hy,hst,hdi⟩,rfl⟩|⟨c,k,c0,k1,k2,hfl,rfl⟩
    · have n6:=hy.n6;have v6:=hy.v;have hq:=hy.q
      have t1:cS (y.2.2.2.2.1,y.2.2.2.2.2.1) (y.2.2.1.length:Int)=some (ym (y.2.2.2.2.1,y.2.2.2.2.2.1) (y.2.2.1.length:Int)):=PG (v:=(y.2.2.2.2.1,y.2.2.2.2.2.1)) _ (by show y.2.2.2.2.1.length<_;omega) (by show y.2.2.2.2.2.1.length<_;omega);have t2:cr (y.2.2.2.2.1,y.2.2.2.2.2.1) (y.2.2.1.length:Int)=some (ym (y.2.2.2.2.1,y.2.2.2.2.2.1) (y.2.2.1.length:Int)):=PH (v:=(y.2.2.2.2.1,y.2.2.2.2.2.1)) _ (by show y.2.2.2.2.1.length<_;omega) (by show y.2.2.2.2.2.1.length<_;omega) hy.h
      simp only[Sum.elim_inl,t1,t2,tP];cases hv:ym (y.2.2.2.2.1,y.2.2.2.2.2.1) (y.2.2.1.length:Int)with
      | false=>exact⟨_,rfl,rfl,hb,λ_=>⟨hs0,hp⟩,.inr ⟨rfl,by show (5:Int)≠0;decide,by show (1:Int)<=(l.length:Int);omega,Int.le_refl _,.inr (.inr ⟨y,hst,rfl⟩)⟩⟩
      | true =>
       obtain⟨r,r1,r2,r3,r4,r5,r6⟩:=Tu hy;have r1':bv (y.1,y.2.1,y.2.2.1,y.2.2.2.1,y.2.2.2.2.1,y.2.2.2.2.2.1,y.2.2.2.2.2.2.1,y.2.2.2.2.2.2.2.1,y.2.2.2.2.2.2.2.2.1,y.2.2.2.2.2.2.2.2.2.1,y.2.2.2.2.2.2.2.2.2.2)=some r:=r1
       have r2':cE (y.1,y.2.1,y.2.2.1,y.2.2.2.1,y.2.2.2.2.1,y.2.2.2.2.2.1,y.2.2.2.2.2.2.1,y.2.2.2.2.2.2.2.1,y.2.2.2.2.2.2.2.2.1,y.2.2.2.2.2.2.2.2.2.1,y.2.2.2.2.2.2.2.2.2.2)=some r:=r2;simp only[Bool.not_true,cF,r1',r2',tP];exact⟨_,rfl,rfl,r3.le,λ_=>⟨r3,r3.ok (by rw[r4,r5,r6];exact hv)⟩,.inl ⟨rfl,rfl,.inr ⟨y,hst,hy,hdi,r1⟩⟩⟩
    · simp only[Sum.elim_inr];exact⟨_,rfl,rfl,hb,λ_=>⟨hs0,hp⟩,.inr ⟨rfl,c0,k1,k2,hfl⟩⟩

theorem vn.le {b:tQ} (h:vn b):yH M b:=by
 obtain⟨v1,v2,v3,v4⟩:=h.vt.len;have h1:=h.name;have h2:=h.n6;have h3:=h.f12
 have v3':b.2.2.2.2.2.1.length=b.2.2.1.length:=v3;have v4':b.2.2.2.2.1.length<=6:=v4
 have hM:M=1048576:=rfl;exact⟨by omega,by omega,by omega,by omega,by omega⟩
def Ue (v:wN):Prop:=(v.1=2->v.2.2.1=[]/\v.2.2.2=[])/\(v.1=4->v.2.1=0/\v.2.2.2=[])
def Uf (v:wN):Prop:=v.2.2.1.length<=100/\v.2.2.2.length<=1000/\Ue v
def Su (x:tS):Prop:=x.1.length<=1000/\Uf x.2
theorem Su.le {x:tS} (h:Su x):Bm M x:=by
 have hM:M=1048576:=rfl;obtain⟨h1,h2,h3,_⟩:=h;exact⟨by omega,by omega,by omega⟩
def B6 (n:Int):Int:=if n>2147483647 then 2147483647 else if n < -2147483648 then -2147483648 else n
theorem LO (n:Int):-2147483648<=B6 n/\B6 n<=2147483647:=by unfold B6;split<;>(try split)<;>omega
def vA (m:Int):List Int:=if tX m (-128) 127 then [m%256]else if tX m (-32768) 32767 then [m/256%256,m%256]else if tX m (-8388608) 8388607 then [m/65536%256,m/256%256,m%256]else [m/16777216%256,m/65536%256,m/256%256,m%256]
theorem w8 (x:Int):IntKind.u8.wrap x=x%256:=rfl
theorem fd (m:Int) {k:Int} (hk:0<=k):m.fdiv k=m/k:=Int.fdiv_eq_ediv_of_nonneg m hk
theorem uh {α β:Type} {step:α->Option (α⊕β)} {x y:α} {b:β} (h:step x=some (.inl y)) (k:loop step y=some b):loop step x=some b:=by
 obtain⟨n,hn⟩:=Ff k;exact yq (k:=n+1) (by rw[vg,h];exact hn)
theorem Ky {n:Int} (hn:-9223372036854775808<=n/\n<=9223372036854775807):cV n=some (vA (B6 n)):=by
 unfold cV;have hc:max2 (-2147483648) (min2 n 2147483647)=B6 n:=by
  unfold max2 min2 B6;split<;>split<;>(try split)<;>(try split)<;>omega
 rw[hc];obtain⟨h1,h2⟩:=LO n;generalize B6 n=m at h1 h2;simp only;have a1:aE m 1=cond (!(tX m (-128) 127)) (some (.inl 2)) (some (.inr 1)):=by
  unfold aE;rw[show shl .i64 (-1) (tR ((tR (8*1))-1))=some (-128)from rfl,show shl .i64 1 (tR ((tR (8*1))-1))=some 128 from rfl];simp only[tP,xx];rw[show tR (128-1)=127 from rfl];cases tX m (-128) 127<;>rfl
 have a2:aE m 2=cond (!(tX m (-32768) 32767)) (some (.inl 3)) (some (.inr 2)):=by
  unfold aE;rw[show shl .i64 (-1) (tR ((tR (8*2))-1))=some (-32768)from rfl,show shl .i64 1 (tR ((tR (8*2))-1))=some 32768 from rfl];simp only[tP,xx];rw[show tR (32768-1)=32767 from rfl];cases tX m (-32768) 32767<;>rfl
 have a3:aE m 3=cond (!(tX m (-8388608) 8388607)) (some (.inl 4)) (some (.inr 3)):=by
  unfold aE;rw[show shl .i64 (-1) (tR ((tR (8*3))-1))=some (-8388608)from rfl,show shl .i64 1 (tR ((tR (8*3))-1))=some 8388608 from rfl];simp only[tP,xx];rw[show tR (8388608-1)=8388607 from rfl];cases tX m (-8388608) 8388607<;>rfl
 have a4:aE m 4=some (.inr 4):=rfl;have b3:∀out:List Int,out.length<=10->aw m 3 out=some (.inl (2,out++[m/16777216%256])):=λout ho=>by
  unfold aw;rw[show shr .i64 m (tR (8*3))=some (m.fdiv (2^24))from rfl,tP,u7 (by simp;omega),tP,w8,fd m (by decide)];rfl
 have b2:∀out:List Int,out.length<=10->aw m 2 out=some (.inl (1,out++[m/65536%256])):=λout ho=>by
  unfold aw;rw[show shr .i64 m (tR (8*2))=some (m.fdiv (2^16))from rfl,tP,u7 (by simp;omega),tP,w8,fd m (by decide)];rfl
 have b1:∀out:List Int,out.length<=10->aw m 1 out=some (.inl (0,out++[m/256%256])):=λout ho=>by
  unfold aw;rw[show shr .i64 m (tR (8*1))=some (m.fdiv (2^8))from rfl,tP,u7 (by simp;omega),tP,w8,fd m (by decide)];rfl
 have b0:∀out:List Int,out.length<=10->aw m 0 out=some (.inl (-1,out++[m%256])):=λout ho=>by
  unfold aw;rw[show shr .i64 m (tR (8*0))=some (m.fdiv (2^0))from rfl,tP,u7 (by simp;omega),tP,w8,fd m (by decide)];simp;rfl
 have be:∀out:List Int,aw m (-1) out=some (.inr out):=λout=>rfl;have c0:∀out:List Int,out.length<=9->loop (λz:Int×List Int=>aw m z.1 z.2) (0,out)=some (out++[m%256]):=λout ho=>uh (b0 out (by omega)) (un (be _))
 have c1:∀out:List Int,out.length<=8->loop (λz:Int×List Int=>aw m z.1 z.2) (1,out)=some (out++[m/256%256]++[m%256]):=λout ho=>uh (b1 out (by omega)) (c0 _ (by simp;omega));have c2:∀out:List Int,out.length<=7->loop (λz:Int×List Int=>aw m z.1 z.2) (2,out)=some (out++[m/65536%256]++[m/256%256]++[m%256]):=λout ho=>uh (b2 out (by omega)) (c1 _ (by simp;omega))
 have c3:∀out:List Int,out.length<=6->loop (λz:Int×List Int=>aw m z.1 z.2) (3,out)=some (out++[m/16777216%256]++[m/65536%256]++[m/256%256]++[m%256]):=λout ho=>uh (b3 out (by omega)) (c2 _ (by simp;omega));unfold vA;cases h8:tX m (-128) 127 with
 | true =>
  rw[h8]at a1;rw[un (step:=λz=>aE m z) a1,tP,show tR (1-1)=0 from rfl,c0 [] (by simp)];rfl
 | false =>
  rw[h8]at a1;cases h16:tX m (-32768) 32767 with
  | true =>
   rw[h16]at a2;rw[uh (step:=λz=>aE m z) a1 (un a2),tP,show tR (2-1)=1 from rfl,c1 [] (by simp)];rfl
  | false =>
   rw[h16]at a2;cases h24:tX m (-8388608) 8388607 with
   | true =>
    rw[h24]at a3;rw[uh (step:=λz=>aE m z) a1 (uh a2 (un a3)),tP,show tR (3-1)=2 from rfl,c2 [] (by simp)];rfl
   | false =>
    rw[h24]at a3;rw[uh (step:=λz=>aE m z) a1 (uh a2 (uh a3 (un a4))),tP,show tR (4-1)=3 from rfl,c3 [] (by simp)];rfl
theorem FA {n a b:Int} (h:tX n a b=false):n<a\/n>b:=by
 unfold tX at h;simp only[Bool.and_eq_false_iff,decide_eq_false_iff_not]at h;omega
theorem wi {n a b:Int} (h:tX n a b=true):a<=n/\n<=b:=by
 unfold tX at h;simp only[aT,decide_eq_true_eq]at h;omega
theorem DW {n:Int}:aO n=some (vA (B6 n)):=by
 unfold aO;have hc:aM n=some (B6 n):=by
  unfold aM B6;by_cases h1:n>2147483647
  · rw[dT h1,cT,if_pos h1]
  · rw[dF h1,cF,if_neg h1];by_cases h2:n < -2147483648
    · rw[dT h2,cT,if_pos h2]
    · rw[dF h2,cF,if_neg h2]
 rw[hc,tP];obtain⟨h1,h2⟩:=LO n;generalize B6 n=m at h1 h2;have st:∀(x:Int) (out:List Int),out.length<=10->bq x out=cond (tX x (-128) 127) (some (.inr out)) (some (.inl (x/256,x/256%256::out))):=λx out ho=>by
  unfold bq;have e:(cond (decide (x<(-128))) (some true) (some (decide (x>127))))=some (!(tX x (-128) 127)):=by
   unfold tX;by_cases h1:x < -128
   · rw[dT h1,cT,dF (show ¬x >= -128 by omega)];rfl
   · rw[dF h1,cF,dT (show x >= -128 by omega)];by_cases h2:x>127
     · rw[dT h2,dF (show ¬x<=127 by omega)];rfl
     · rw[dF h2,dT (show x<=127 by omega)];rfl
  rw[e,tP,u7 (by simp;omega),tP,w8,fd x (by decide)];cases tX x (-128) 127<;>rfl
 rw[w8];have goes:∀(x:Int) (out:List Int),out.length<=9->tX x (-128) 127=true->loop (λz:Int×List Int=>bq z.1 z.2) (x,out)=some out:=λx out ho h=>un (by show bq x out=_;rw[st x out (by omega),h];rfl)
 have more:∀(x:Int) (out r:List Int),out.length<=9->tX x (-128) 127=false->loop (λz:Int×List Int=>bq z.1 z.2) (x/256,x/256%256::out)=some r->loop (λz:Int×List Int=>bq z.1 z.2) (x,out)=some r:=λx out r ho h k=>uh (by show bq x out=_;rw[st x out (by omega),h];rfl) k;have Bt:∀(x a b:Int),a<=x->x<=b->tX x a b=true:=λx a b h1 h2=>by unfold tX;rw[dT h1,dT h2];rfl
 have outn:∀(x a b:Int),(x<a\/x>b)->tX x a b=false:=λx a b h=>by
  unfold tX;simp only[Bool.and_eq_false_iff,decide_eq_false_iff_not];omega
 unfold vA;cases h8:tX m (-128) 127 with
 | true=>rw[goes m _ (by simp) h8];rfl
 | false =>
  have k8:=FA h8;cases h16:tX m (-32768) 32767 with
  | true =>
   have k16:=wi h16;rw[more m _ _ (by simp) h8 (goes (m/256) _ (by simp) (Bt _ _ _ (by omega) (by omega)))];rfl
  | false =>
   have k16:=FA h16;cases h24:tX m (-8388608) 8388607 with
   | true =>
    have k24:=wi h24;rw[more m _ _ (by simp) h8 (more (m/256) _ _ (by simp) (outn _ _ _ (by omega)) (goes (m/256/256) _ (by simp) (Bt _ _ _ (by omega) (by omega))))];rw[show m/256/256=m/65536 by omega];rfl
   | false =>
    have k24:=FA h24;rw[more m _ _ (by simp) h8 (more (m/256) _ _ (by simp) (outn _ _ _ (by omega)) (more (m/256/256) _ _ (by simp) (outn _ _ _ (by omega)) (goes (m/256/256/256) _ (by simp) (Bt _ _ _ (by omega) (by omega)))))];rw[show m/256/256=m/65536 by omega,show m/65536/256=m/16777216 by omega];rfl

def xi (b:List Int):Prop:=∀x∈b,0<=x/\x<=255
def uV (t:Int) (body:List Int):List Int:=t::((if body.length>=128 then [129,(body.length:Int)]else [(body.length:Int)])++body)
theorem N0 (t:Int) {body:List Int} (hn:body.length<=M):cl t body=some (if tX t 0 255=true/\body.length<=250 then (uV t body,true)else ([],false)):=by
 have hn':body.length<=1048576:=hn;unfold cl;rw[xx,tP];cases ht:tX t 0 255 with
 | false=>rw[if_neg (by simp)];rfl
 | true =>
  obtain⟨t1,t2⟩:=wi ht;rw[Bool.not_true,cF,tP];by_cases h:(body.length:Int)>250
  · rw[dT h,cT,if_neg (by omega)]
  · rw[dF h,cF,if_pos ⟨rfl,by omega⟩];unfold uV;have e1:IntKind.u8.wrap t=t:=by rw[w8];omega
    have e2:IntKind.u8.wrap (body.length:Int)=(body.length:Int):=by rw[w8];omega
    by_cases h8:(body.length:Int)>=128
    · rw[dT h8,cT,u7 (by simp),tP,u7 (by simp),tP,u7 (by simp;omega),tP,if_pos (by omega),e1,e2];rfl
    · rw[dF h8,cF,u7 (by simp),tP,u7 (by simp;omega),tP,if_neg (by omega),e1,e2];rfl
theorem Kz {b:List Int} (t:Int) {body:List Int} (hb:b.length<=1000) (hn:body.length<=M):aV b t body=some (b++if tX t 0 255=true/\body.length<=250 then uV t body else []):=by
 unfold aV;have hM:M=1048576:=rfl
 rw[N0 t hn,tP,D9 (by omega),tP];split
 · next h =>
   have:(uV t body).length<=300:=by unfold uV;split<;>simp<;>omega
   rw[u7 (by show b.length+(uV t body).length<=_;omega)];rfl
 · rw[u7 (by show b.length+0<=_;omega)];rfl
theorem DX {α:Type} (pre l:List α) (j:Nat):at? (pre++l) ((pre.length+j:Nat):Int)=at? l (j:Int):=by
 unfold at?;rw[if_pos (by omega),if_pos (by omega),Int.toNat_natCast,Int.toNat_natCast,List.getElem?_append_right (by omega),Nat.add_sub_cancel_left]
theorem LP {α:Type} (pre l:List α) (i j:Nat) (h:i<=j) (hj:j<=l.length):cut (pre++l) ((pre.length+i:Nat):Int) ((pre.length+j:Nat):Int)=some ((l.take j).drop i):=by
 rw[yh (by omega) (by rw[length_append];omega),List.take_append,List.take_of_length_le (by omega),List.drop_append,List.drop_of_length_le (by omega),Nat.add_sub_cancel_left,Nat.add_sub_cancel_left,List.nil_append]
structure zC (b:List Int) (at':Int) (t:Int) (body:List Int) (next:Int):Prop where
 ex:∃pre rest,b=pre++(uV t body++rest)/\at'=(pre.length:Int)/\next=((pre.length+(uV t body).length:Nat):Int)
 n:body.length<=250
 t:tX t 0 255=true
 b:xi body
theorem I0 {b:List Int} (hb:xi b) (hn:b.length<=M) {i:Int} (hi:-9223372036854775808<=i/\i<=9223372036854775807):∃r,ch b i=some r/\bQ b i=some r/\(r=(0,[],0,false)\/∃t body next,r=(t,body,next,true)/\zC b i t body next):=by
 have hn':b.length<=1048576:=hn;unfold ch bQ;rw[uS (show -9223372036854775808<=(b.length:Int)-2 by omega) (by omega)];by_cases h0:i<0
 · rw[dT h0];exact⟨_,rfl,rfl,.inl rfl⟩
 rw[dF h0];by_cases h1:i>(b.length:Int)-2
 · rw[dT h1];by_cases h2:i>=(b.length:Int)
   · rw[dT h2];exact⟨_,rfl,rfl,.inl rfl⟩
   · rw[dF h2,uS (by omega) (by omega),dT (show i+1>=(b.length:Int) by omega)];exact⟨_,rfl,rfl,.inl rfl⟩
 rw[dF h1,dF (show ¬i>=(b.length:Int) by omega),uS (show -9223372036854775808<=i+1 by omega) (by omega),dF (show ¬i+1>=(b.length:Int) by omega),uS (show -9223372036854775808<=i+2 by omega) (by omega)];simp only[cF,tP];obtain⟨k,rfl⟩:∃k:Nat,i=(k:Int):=⟨i.toNat,by omega⟩;have hk:k+1<b.length:=by omega
 obtain⟨pre,t,n0,rest,rfl,hp⟩:∃pre t n0 rest,b=pre++(t::n0::rest)/\pre.length=k:=by
  refine⟨b.take k,b[k],b[k+1],b.drop (k+2),?_,by rw[length_take];omega⟩;have h1:=take_append_drop k b
  rw[drop_eq_getElem_cons (by omega),drop_eq_getElem_cons (by omega)]at h1;exact h1.symm
 subst hp;have ht:0<=t/\t<=255:=hb t (by simp)
 have hn0:0<=n0/\n0<=255:=hb n0 (by simp);have hr:xi rest:=λx hx=>hb x (by simp[hx])
 have hlen:(pre++(t::n0::rest)).length=pre.length+(rest.length+2):=by simp
 have e0:at? (pre++(t::n0::rest)) (pre.length:Int)=some t:=by have:=DX pre (t::n0::rest) 0;rw[Nat.add_zero]at this;rw[this];rfl
 have e1:at? (pre++(t::n0::rest)) ((pre.length:Int)+1)=some n0:=by have:=DX pre (t::n0::rest) 1;rw[show ((pre.length:Int)+1)=((pre.length+1:Nat):Int) by omega,this];rfl
 have e2:at? (pre++(t::n0::rest)) ((pre.length:Int)+2)=at? rest 0:=by
  have:=DX pre (t::n0::rest) 2;rw[show ((pre.length:Int)+2)=((pre.length+2:Nat):Int) by omega,this];unfold at?;simp
 have wt:tR t=t:=uS (by omega) (by omega);have wn:tR n0=n0:=uS (by omega) (by omega)
 have pt:tX t 0 255=true:=by unfold tX;rw[dT ht.1,dT ht.2];rfl
 rw[hlen]at hn';rw[hlen,e0,e1,e2];simp only[tP,wt,wn];by_cases h8:n0>=128
 · rw[dT h8,dT (show n0>127 by omega)];simp only[cT];by_cases h9:n0=129
   · subst h9;simp only[show ((129:Int) != 129)=false from rfl,cF,tP];cases rest with
     | nil =>
      rw[dT (show (pre.length:Int)+2>=((pre.length+(([]:List Int).length+2):Nat):Int) by simp)];exact⟨_,rfl,rfl,.inl rfl⟩
     | cons n1 r =>
      have hn1:0<=n1/\n1<=255:=hr n1 (by simp);have wn1:tR n1=n1:=uS (by omega) (by omega)
      rw[length_cons]at hn' ⊢;rw[dF (show ¬(pre.length:Int)+2>=((pre.length+(r.length+1+2):Nat):Int) by omega)];simp only[cF,tP,show at? (n1::r) 0=some n1 from rfl,wn1];by_cases h10:n1<128
      · rw[dT h10];exact⟨_,rfl,rfl,.inl rfl⟩
      rw[dF h10,uS (show -9223372036854775808<=(pre.length:Int)+2+1 by omega) (by omega),uS (show -9223372036854775808<=((pre.length+(r.length+1+2):Nat):Int)-((pre.length:Int)+2+1) by omega) (by omega)];simp only[cF];by_cases h11:n1>250
      · rw[dT h11];exact⟨_,rfl,rfl,.inl rfl⟩
      rw[dF h11];simp only[cF,tP];by_cases h12:n1>((pre.length+(r.length+1+2):Nat):Int)-((pre.length:Int)+2+1)
      · rw[dT h12];exact⟨_,rfl,rfl,.inl rfl⟩
      rw[dF h12];simp only[cF];obtain⟨m,rfl⟩:∃m:Nat,n1=(m:Int):=⟨n1.toNat,by omega⟩;have hcut:cut (pre++(t::129::(m:Int)::r)) ((pre.length:Int)+2+1) (tR ((pre.length:Int)+2+1+(m:Int)))=some (r.take m):=by
       rw[uS (by omega) (by omega),show (pre.length:Int)+2+1+(m:Int)=((pre.length+(3+m):Nat):Int) by omega,show (pre.length:Int)+2+1=((pre.length+3:Nat):Int) by omega,LP _ _ _ _ (by omega) (by simp;omega)];simp[Nat.add_comm 3 m]
      have hl:(r.take m).length=m:=by rw[length_take];omega
      rw[hcut,tP,tP,D9 (by show _<=1048576;omega),xo (by show _<=1048576;omega),tP];refine⟨_,rfl,rfl,.inr ⟨t,r.take m,tR ((pre.length:Int)+2+1+(m:Int)),rfl,⟨pre,r.drop m,?_,rfl,?_⟩,by omega,pt,λx hx=>hr x (mem_cons_of_mem _ (List.mem_of_mem_take hx))⟩⟩
      · unfold uV;rw[hl,if_pos (by omega)];simp
      · unfold uV;rw[hl,if_pos (by omega),uS (by omega) (by omega)];simp only[length_cons,length_append,length_nil,hl];omega
   · rw[bne_iff_ne.2 h9];exact⟨_,rfl,rfl,.inl rfl⟩
 · rw[dF h8,dF (show ¬n0>127 by omega)];simp only[cF];rw[dF (show ¬n0>250 by omega),uS (show -9223372036854775808<=((pre.length+(rest.length+2):Nat):Int)-((pre.length:Int)+2) by omega) (by omega)];simp only[cF,tP];by_cases h12:n0>((pre.length+(rest.length+2):Nat):Int)-((pre.length:Int)+2)
   · rw[dT h12];exact⟨_,rfl,rfl,.inl rfl⟩
   rw[dF h12];simp only[cF];obtain⟨m,rfl⟩:∃m:Nat,n0=(m:Int):=⟨n0.toNat,by omega⟩;have hcut:cut (pre++(t::(m:Int)::rest)) ((pre.length:Int)+2) (tR ((pre.length:Int)+2+(m:Int)))=some (rest.take m):=by
    rw[uS (by omega) (by omega),show (pre.length:Int)+2+(m:Int)=((pre.length+(2+m):Nat):Int) by omega,show (pre.length:Int)+2=((pre.length+2:Nat):Int) by omega,LP _ _ _ _ (by omega) (by simp;omega)];simp[Nat.add_comm 2 m]
   have hl:(rest.take m).length=m:=by rw[length_take];omega
   rw[hcut,tP,tP,D9 (by show _<=1048576;omega),xo (by show _<=1048576;omega),tP];refine⟨_,rfl,rfl,.inr ⟨t,rest.take m,tR ((pre.length:Int)+2+(m:Int)),rfl,⟨pre,rest.drop m,?_,rfl,?_⟩,by omega,pt,λx hx=>hr x (List.mem_of_mem_take hx)⟩⟩
   · unfold uV;rw[hl,if_neg (by omega)];simp
   · unfold uV;rw[hl,if_neg (by omega),uS (by omega) (by omega)];simp only[length_cons,length_append,length_nil,hl];omega

end Go.V.W
