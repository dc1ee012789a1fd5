/- The law FnExactFlow: part of the proof that for every input it returns true. No condition. -/
import Derived.KernelRfl
import Derived.Test.YthcdcolihokdmaaGreatFnExactFlow
import Derived.Test.YthcdcolihokdmaaGreatFnExactFlowM
open List (all_eq_true any_eq_false any_eq_true getElem_mem getElem_of_mem length_append length_drop length_map length_set length_take mem_append mem_cons mem_cons_of_mem mem_range mem_singleton nil_append pairwise_cons pairwise_iff_getElem take_add_one take_length)
set_option linter.unusedVariables false
set_option linter.unusedSimpArgs false
namespace Go.V.W
theorem mK {α β:Type} (a:α) (f:α->Option β):(some a).bind f=f a:=rfl
abbrev M:Nat:=1048576
abbrev In (left:Int):Prop:=0<=left/\left<=1048576
theorem In.next {left r:Int} (h:In left) (h1:0<=r) (h2:r<=left):In r:=⟨h1,by have:=h.2;omega⟩
theorem pP {n:Nat} (h:n<=M):n<=4294967295:=Nat.le_trans h (by decide)
theorem HA {a:List Int} {left:Int} (hl:In left) (h:a.length<=maxLen):pF left (dU a left) (a.length<=M):=qR hl h
theorem GN {a:List Int} {left:Int} (hl:In left) (h:a.length<=maxLen):pF left (ea a left) (a.length<=M):=qR hl h
theorem Iq {a:List Pt} {left:Int} (hl:In left) (h:a.length<=maxLen):pF left (dP a left) (a.length<=M):=qR hl h
theorem GO {a:List mT} {left:Int} (hl:In left) (h:a.length<=maxLen):pF left (dQ a left) (a.length<=M):=qR hl h
theorem GP {a:List oy} {left:Int} (hl:In left) (h:a.length<=maxLen):pF left (dR a left) (a.length<=M):=qR hl h
theorem HB {a:nY} {left:Int} (hl:In left) (h:a.1.length<=maxLen/\a.2.length<=maxLen):pF left (dV a left) (a.1.length<=M/\a.2.length<=M/\True) :=
 qs (GP hl h.1) λr h1 h2=>qs (HA (hl.next h1 h2) h.2) λr h1 h2=>uO h1
def v5 (n:Nat) (b:mL):Prop:=b.2.1.length<=n/\b.2.2.1.length<=n/\b.2.2.2.1.length<=n/\b.2.2.2.2.1.length<=n/\b.2.2.2.2.2.1.length<=n
theorem Fx {b:mL} {left:Int} (hl:In left) (h:v5 maxLen b):pF left (cB b left) (v5 M b):=by
 obtain⟨h1,h2,h3,h4,h5⟩:=h;refine wq (BI hl h1 λr k1 k2=>qs (Iq (hl.next k1 k2) h2) λr' k3 k4=>qs (GO ((hl.next k1 k2).next k3 k4) h3) λr'' k5 k6=>qs (HB (a:=(b.2.2.2.2.1,b.2.2.2.2.2.1)) (((hl.next k1 k2).next k3 k4).next k5 k6) ⟨h4,h5⟩) λr3 k7 k8=>uO k7) ?_;rintro⟨a1,a2,a3,⟨a4,a5,_⟩,_⟩;exact⟨a1,a2,a3,a4,a5⟩
theorem HC {a:List Int} (h:a.length<=M):eG a=some a:=th (pP h) (BG (pP h) 0)
theorem GQ {a:List Int} (h:a.length<=M):eM a=some a:=th (pP h) (BG (pP h) 0)
theorem Ir {a:List Pt} (h:a.length<=M):eB a=some a:=th (pP h) (sR (f:=eA) (λ_ _=>rfl) (pP h) _)
theorem GR {a:List mT} (h:a.length<=M):eD a=some a:=th (pP h) (sR (f:=eC) (λ_ _=>rfl) (pP h) _)
theorem GS {a:List oy} (h:a.length<=M):eF a=some a:=th (pP h) (sR (f:=eE) (λ_ _=>rfl) (pP h) _)
theorem HD {a:nY} (h:a.1.length<=M/\a.2.length<=M):cV a=some a:=by
 unfold cV;rw[GS h.1,mK,HC h.2,mK]
theorem Fy {b:mL} (h:v5 M b):bN b=some b:=by
 obtain⟨h1,h2,h3,h4,h5⟩:=h;unfold bN;rw[Ir h2,mK,GR h3,mK,HD ⟨h4,h5⟩,mK]
theorem G0 (v:rk):bY v v=some true:=by unfold bY;simp
theorem J0 (v:Pt):bZ v v=some true:=by unfold bZ;simp[G0]
theorem HE (v:mT):ca v v=some true:=by unfold ca;simp
theorem HF (v:oy):cb v v=some true:=by unfold cb;simp
theorem HG {a:List Int} (h:a.length<=M):eV a a=some true:=sB (BH (pP h))
theorem GT {a:List Int} (h:a.length<=M):eZ a a=some true:=sB (BH (pP h))
theorem Is {a:List Pt} (h:a.length<=M):eS a a=some true:=sB (sa (g:=bZ) (λx _=>J0 x) (pP h))
theorem GU {a:List mT} (h:a.length<=M):eT a a=some true:=sB (sa (g:=ca) (λx _=>HE x) (pP h))
theorem GV {a:List oy} (h:a.length<=M):eU a a=some true:=sB (sa (g:=cb) (λx _=>HF x) (pP h))
theorem HH {a:nY} (h:a.1.length<=M/\a.2.length<=M):df a a=some true:=by
 unfold df;simp[GV h.1,HG h.2]
theorem Fz {b:mL} (h:v5 M b):cc b b=some true:=by
 obtain⟨h1,h2,h3,h4,h5⟩:=h;unfold cc;simp[Is h2,GU h3,HH (a:=(b.2.2.2.2.1,b.2.2.2.2.2.1)) ⟨h4,h5⟩]
theorem DG {α β:Type} {f g:α->Option (α⊕β)} (nk:α->Prop) (h:∀x,nk x->f x=g x) (hi:∀x y,nk x->f x=some (.inl y)->nk y) {x:α} (h0:nk x):loop f x=loop g x:=by
 have key:∀k x,nk x->pr f k x=pr g k x:=by
  intro k
  induction k with
  | zero=>intro x _;rfl
  | succ k ih =>
   intro x hx;rw[nW,nW,←h x hx];cases hf:f x with
   | none=>rfl
   | some v=>cases v with
    | inl y=>exact ih y (hi x y hx hf)
    | inr b=>rfl
 have hex:(∃k,(pr f k x).isSome)↔∃k,(pr g k x).isSome:=by
  constructor<;>rintro⟨k,hk⟩<;>exact⟨k,by first|rwa [←key k x h0]|rwa [key k x h0]⟩
 by_cases hc:∃k,(pr f k x).isSome
 · obtain⟨k,hk⟩:=hc;cases hv:pr f k x with
   | none=>rw[hv]at hk;cases hk
   | some b=>rw[qI hv,qI ((key k x h0)▸hv)]
 · have hc':¬ ∃k,(pr g k x).isSome:=λh=>hc (hex.2 h);unfold loop;rw[dif_neg hc,dif_neg hc']
theorem rl {α β:Type} {f g:α->Option (α⊕β)} (h:∀x,f x=g x) (x:α):loop f x=loop g x:=by rw[funext h]
def mU (x a b:Int):Bool:=decide (x>=a)&&decide (x<=b)
theorem rO (x a b:Int):a7 x a b=some (mU x a b):=by
 unfold a7 mU;cases decide (x>=a)<;>rfl
theorem sI (x a b:Int):a6 x a b=some (mU x a b):=rO x a b
def xw (v:rk):Bool:=mU v.1 1 99&&(mU v.2.1 0 100000&&(mU v.2.2.1 0 10&&(mU v.2.2.2.1 1 99&&mU v.2.2.2.2 0 7)))
theorem BJ (v:rk):ay v=some (xw v):=by
 unfold ay xw;simp only[rO,mK];cases mU v.1 1 99<;>cases mU v.2.1 0 100000<;>cases mU v.2.2.1 0 10<;>cases mU v.2.2.2.1 1 99<;>rfl
theorem HI:aS=ay:=rfl
def AB (p:Pt):Bool:=mU p.2.1 1 1000&&(!(p.2.2.1&&!p.1)&&(cond p.2.2.1 (xw p.2.2.2) (p.2.2.2.1==0&&(p.2.2.2.2.1==0&&(p.2.2.2.2.2.1==0&&(p.2.2.2.2.2.2.1==0&&(p.2.2.2.2.2.2.2==0)))))))
theorem Jg (p:Pt):bP p=some (AB p):=by
 obtain⟨up,cost,heard,v⟩:=p;unfold bP AB;simp only[rO,BJ,mK];cases mU cost 1 1000<;>cases up<;>cases heard<;>rfl
theorem Jh (p:Pt):bz p=some (AB p):=by
 obtain⟨up,cost,heard,v⟩:=p;unfold bz AB;simp only[sI,HI,BJ,mK];cases mU cost 1 1000<;>cases up<;>cases heard<;>rfl
theorem rY {n:Nat} {c:Int->Option Bool} {b:Nat->Bool} (hn:n<9223372036854775807) (hc:∀k,k<n->c (k:Int)=some (b k)) :
 loop (λi:Int=>cond (decide (i<(n:Int))) ((c i).bind λt=>cond t (some (.inr (.inr false))) (some (.inl (mH (i+1))))) (some (.inr (.inl ())))) 0=some (cond ((List.range n).any b) (Sum.inr false) (Sum.inl ()):Unit⊕Bool):=by
 obtain⟨v,h1,h2⟩:=oh (β:=Unit⊕Bool) (step:=λi:Int=>cond (decide (i<(n:Int))) ((c i).bind λt=>cond t (some (.inr (.inr false))) (some (.inl (mH (i+1))))) (some (.inr (.inl ()))))
  (λk i=>i=(k:Int)/\(List.range k).any b=false) n (λv=>v=cond ((List.range n).any b) (Sum.inr false) (Sum.inl ()))
  (λk i hk ⟨e,ha⟩=>by
   subst e;have hs:(cond (decide ((k:Int)<(n:Int))) ((c (k:Int)).bind λt=>cond t (some (.inr (.inr false))) (some (.inl (mH ((k:Int)+1))))) (some (.inr (.inl ()))):Option (Int⊕(Unit⊕Bool)))=cond (b k) (some (.inr (.inr false))) (some (.inl ((k+1:Nat):Int))):=by
    rw[nU (by omega),cT,hc k hk,mK,n4 (by omega)]
   cases hb:b k with
   | true =>
    refine .inr ⟨.inr false,by rw[hs,hb];rfl,?_⟩;have:(List.range n).any b=true:=any_eq_true.2 ⟨k,mem_range.2 hk,hb⟩
    rw[this];rfl
   | false =>
    refine .inl ⟨_,by rw[hs,hb];rfl,rfl,?_⟩;rw[List.range_succ,List.any_append,ha];simp[hb])
  (λi ⟨e,ha⟩=>by
   subst e;exact⟨.inl (),by rw[nj (by omega),cF],by rw[ha];rfl⟩) (x:=0) ⟨rfl,rfl⟩
 rw[h1,h2]
def sY (e:mT):Bool:=mU e.1 1 99&&(mU e.2.1 1 9999&&(mU e.2.2.1 0 7&&(mU e.2.2.2.1 0 4&&(!e.2.2.2.2||e.2.2.2.1==0))))
theorem AS (e:mT):aL e=some (sY e):=by
 unfold aL sY;simp only[rO,mK];cases mU e.1 1 99<;>cases mU e.2.1 1 9999<;>cases mU e.2.2.1 0 7<;>cases mU e.2.2.2.1 0 4<;>cases e.2.2.2.2<;>rfl
theorem G3:bA=aL:=rfl
def ow (e:mT) (tag mac:Int):Bool:=decide (e.1>tag)||(e.1==tag&&decide (e.2.1>mac))
theorem A3 (e:mT) (tag mac:Int):bc e tag mac=some (ow e tag mac):=by
 unfold bc ow;cases decide (e.1>tag)<;>cases (e.1==tag)<;>rfl
theorem HJ (p e:mT):av p e.1 e.2.1=some (ow e p.1 p.2.1):=by
 unfold av ow;by_cases h:p.1=e.1
 · simp[h]
 · have h':¬e.1=p.1:=λk=>h k.symm;have e1:(p.1 != e.1)=true:=by simpa using h
   have e2:(e.1==p.1)=false:=by simpa using h'
   rw[e1,e2,cT,Bool.false_and,Bool.or_false]
def rU (l:List mT) (k:Nat):Bool:=match l[k]? with
 | some e=>!(sY e)||(decide (0<k)&&(match l[k-1]? with|some p=>!(ow e p.1 p.2.1)|none=>false))
 | none=>false
def rZ (l:List mT):Bool:=!((List.range l.length).any (rU l))&&decide ((l.length:Int)<=12)
theorem xP {α:Type} {l:List α} {k:Nat} (h:k<l.length) (hk:0<k) (hn:l.length<9223372036854775807):at? l (mH ((k:Int)-1))=some l[k-1]:=by
 rw[oB (by omega) (by omega),show (k:Int)-1=((k-1:Nat):Int) by omega,n8 (by omega)]
theorem FA {l:List mT} (hn:l.length<9223372036854775807):bQ l=some (rZ l):=by
 unfold bQ rZ;have h:=rY (n:=l.length) (c:=λi=>(at? l i).bind λx10=>(aL x10).bind λt13=>(cond (!t13) (some true) ((cond (decide (i>0)) ((at? l (mH (i-1))).bind λx23=>(at? l (mH (i-1))).bind λx29=>(bc x10 x23.1 x29.2.1).bind λt32=>some (!t32)) (some false)).bind λt34=>some t34)).bind λt=>some t) (b:=rU l) hn (λk hk=>by
  simp only[n8 hk,mK,AS,rU,List.getElem?_eq_getElem hk];cases sY l[k]with
  | false=>rfl
  | true =>
   by_cases h0:0<k
   · have hd:decide ((k:Int)>0)=true:=dT (by omega);simp only[hd,xP hk h0 hn,mK,A3,dT h0,List.getElem?_eq_getElem (show k-1<l.length by omega)];rfl
   · have hd:decide ((k:Int)>0)=false:=dF (by omega);simp only[hd,dF h0];rfl)
 have e:(loop (λz=>eN l z) 0)=some (cond ((List.range l.length).any (rU l)) (Sum.inr false) (Sum.inl ())):=by
  rw[←h];refine rl (λi=>?_) 0;unfold eN;simp only[Option.bind_assoc,mK]
 rw[e,mK];cases (List.range l.length).any (rU l)<;>rfl
theorem HK {l:List mT} (hn:l.length<9223372036854775807):bB l=some (rZ l):=by
 unfold bB rZ;have h:=rY (n:=l.length) (c:=λi=>(at? l i).bind λx12=>(bA x12).bind λt14=>(cond (!t14) (some true) ((cond (decide (i>0)) ((at? l (mH (i-1))).bind λx23=>(at? l i).bind λx27=>(at? l i).bind λx32=>(av x23 x27.1 x32.2.1).bind λt35=>some (!t35)) (some false)).bind λt37=>some t37)).bind λt=>some t) (b:=rU l) hn (λk hk=>by
  simp only[n8 hk,mK,G3,AS,rU,List.getElem?_eq_getElem hk];cases sY l[k]with
  | false=>rfl
  | true =>
   by_cases h0:0<k
   · have hd:decide ((k:Int)>0)=true:=dT (by omega);simp only[hd,xP hk h0 hn,mK,HJ,dT h0,List.getElem?_eq_getElem (show k-1<l.length by omega)];rfl
   · have hd:decide ((k:Int)>0)=false:=dF (by omega);simp only[hd,dF h0];rfl)
 have e:(loop (λz=>ee l z) 0)=some (cond ((List.range l.length).any (rU l)) (Sum.inr false) (Sum.inl ())):=by
  rw[←h];refine rl (λi=>?_) 0;unfold ee;simp only[Option.bind_assoc,mK]
 rw[e,mK];cases (List.range l.length).any (rU l)<;>rfl

theorem HL {v:nY} (hn:v.1.length<9223372036854775807) (id:Int):∃r,ae v id=some r:=by
 unfold ae;obtain⟨b,h1,_⟩:=oh (β:=Unit⊕Int) (step:=λz=>aM v id z) (λk i=>i=(k:Int)) v.1.length (λ_=>True)
  (λk i hk h=>by
   subst h;unfold aM;rw[nU (by omega),cT,n8 hk,mK];cases (v.1[k].1==id)with
   | true=>exact .inr ⟨_,rfl,trivial⟩
   | false=>exact .inl ⟨_,rfl,n4 (by omega)⟩)
  (λi h=>by
   subst h;unfold aM;rw[nj (by omega)];exact⟨_,rfl,trivial⟩) (x:=0) rfl
 rw[h1,mK];cases b with
 | inl _=>exact⟨_,rfl⟩
 | inr r=>exact⟨r,rfl⟩
def tv (i:Int):Int:=(2:Int)^i.toNat-1
theorem BK {i:Int} (h:mU i 1 6=true):i=1\/i=2\/i=3\/i=4\/i=5\/i=6:=by
 unfold mU at h;simp only[aT,decide_eq_true_eq]at h;omega
theorem EE {i:Int} (h:mU i 1 6=true):cZ i=some (tv i):=by
 rcases BK h with rfl|rfl|rfl|rfl|rfl|rfl<;>rfl
theorem J1 {i:Int} (h:mU i 1 6=true):∃t,shl .i64 1 (IntKind.u64.wrap i)=some t/\mH (t-1)=tv i:=by
 rcases BK h with rfl|rfl|rfl|rfl|rfl|rfl<;>exact⟨_,rfl,rfl⟩
theorem It {i:Int} (h:mU i 1 6=true):1<=tv i/\tv i<=63:=by
 rcases BK h with rfl|rfl|rfl|rfl|rfl|rfl<;>decide
theorem zx (x:BitVec 64):IntKind.i64.wrap (x.toNat:Int)=x.toInt:=by
 have hx:=x.isLt;rw[BitVec.toInt_eq_toNat_cond];show (let m:=(x.toNat:Int)%18446744073709551616;if (true&&decide (m>=9223372036854775808))=true then m-18446744073709551616 else m)=_
 simp only[Bool.true_and,decide_eq_true_eq];have h1:(x.toNat:Int)%18446744073709551616=(x.toNat:Int):=by omega
 rw[h1];split<;>split<;>omega
theorem sZ {b:Int} (h1:-9223372036854775808<=b) (h2:b<=9223372036854775807):(BitVec.ofInt 64 b).toInt=b:=by
 rw[BitVec.toInt_ofInt];unfold Int.bmod;simp only;split<;>omega
theorem G4 (a b:Int):pp .i64 a b=(BitVec.ofInt 64 a&&&BitVec.ofInt 64 b).toInt:=zx _
theorem Iu (a b:Int):sJ .i64 a b=(BitVec.ofInt 64 a &&& ~~~ BitVec.ofInt 64 b).toInt:=zx _
theorem CO (x y:BitVec 64):x&&&y=x↔x &&& ~~~ y=0:=by
 constructor
 · intro h;apply BitVec.eq_of_getLsbD_eq;intro i hi;have:=congrArg (λz=>z.getLsbD i) h
   simp only[BitVec.getLsbD_and]at this;simp only[BitVec.getLsbD_and,BitVec.getLsbD_not,BitVec.getLsbD_zero,hi,decide_true,Bool.true_and];cases hx:x.getLsbD i<;>cases hy:y.getLsbD i<;>simp_all
 · intro h;apply BitVec.eq_of_getLsbD_eq;intro i hi;have:=congrArg (λz=>z.getLsbD i) h
   simp only[BitVec.getLsbD_and,BitVec.getLsbD_not,BitVec.getLsbD_zero,hi,decide_true,Bool.true_and]at this;simp only[BitVec.getLsbD_and];cases hx:x.getLsbD i<;>cases hy:y.getLsbD i<;>simp_all
theorem EF {b m:Int} (h1:-9223372036854775808<=b) (h2:b<=9223372036854775807):(pp .i64 b m != b)=(sJ .i64 b m != 0):=by
 rw[G4,Iu];have e:((BitVec.ofInt 64 b&&&BitVec.ofInt 64 m).toInt=b)↔((BitVec.ofInt 64 b &&& ~~~ BitVec.ofInt 64 m).toInt=0):=by
  constructor
  · intro h;have:BitVec.ofInt 64 b&&&BitVec.ofInt 64 m=BitVec.ofInt 64 b:=BitVec.eq_of_toInt_eq (by rw[h,sZ h1 h2])
    rw[(CO _ _).1 this];rfl
  · intro h;have:BitVec.ofInt 64 b &&& ~~~ BitVec.ofInt 64 m=0:=BitVec.eq_of_toInt_eq (by rw[h];rfl)
    rw[(CO _ _).2 this,sZ h1 h2]
 by_cases h:(BitVec.ofInt 64 b&&&BitVec.ofInt 64 m).toInt=b
 · have h':=e.1 h;simp[h,h']
 · have h':¬(BitVec.ofInt 64 b &&& ~~~ BitVec.ofInt 64 m).toInt=0:=λk=>h (e.2 k);rw[bne_iff_ne.2 h,bne_iff_ne.2 h']
theorem GW {b m t:Int} (h1:-9223372036854775808<=b) (h2:b<=9223372036854775807) (hm:mU m 0 t=true) (ht:t<=63) (h:(pp .i64 b m != b)=false):mU b 0 t=true:=by
 unfold mU at hm ⊢;simp only[aT,decide_eq_true_eq]at hm ⊢;have h:pp .i64 b m=b:=by simpa using h
 rw[G4]at h;have e:BitVec.ofInt 64 b&&&BitVec.ofInt 64 m=BitVec.ofInt 64 b:=BitVec.eq_of_toInt_eq (by rw[h,sZ h1 h2])
 have hM:(BitVec.ofInt 64 m).toNat=m.toNat:=by
  rw[BitVec.toNat_ofInt];omega
 have hle:(BitVec.ofInt 64 b).toNat<=m.toNat:=by
  rw[←e,BitVec.toNat_and,hM];exact Nat.and_le_right
 have hb:(BitVec.ofInt 64 b).toInt=((BitVec.ofInt 64 b).toNat:Int):=by
  rw[BitVec.toInt_eq_toNat_cond];split<;>omega
 rw[sZ h1 h2]at hb;omega
def uu (v:nY) (i:Int) (k:Nat):Bool:=match v.1[k]? with
 | some r=>!(mU r.1 1 99)||((decide (0<k)&&(match v.1[k-1]? with|some p=>decide (p.1>=r.1)|none=>false))||(!(mU r.2.1 0 (tv i))||(sJ .i64 r.2.2 r.2.1 != 0)))
 | none=>false
noncomputable def xQ (v:nY) (k:Nat):Bool:=match v.2[k]? with
 | some x=>(match ae v x with|some t=>decide (t<0)|none=>false)
 | none=>false
noncomputable def rH (v:nY) (i:Int):Bool:=!(!(mU i 1 6)||((v.2.length:Int) != i||decide ((v.1.length:Int)>6)))&&(!((List.range v.1.length).any (uu v i))&&!((List.range v.2.length).any (xQ v)))
theorem EG {v:nY} {i:Int} (hi:mU i 1 6=true) (hn:v.1.length<9223372036854775807):loop (λz=>eO v i z) 0=some (cond ((List.range v.1.length).any (uu v i)) (Sum.inr false) (Sum.inl ())):=by
 rw[←rY (n:=v.1.length) (c:=λt28=>(at? v.1 t28).bind λx31 =>
  (a7 x31.1 1 99).bind λt35 =>
  (cond (!t35) (some true) ((cond (decide (t28>0)) ((at? v.1 (mH (t28-1))).bind λx45=>some (decide (x45.1>=x31.1))) (some false)).bind λt51=>some t51)).bind λt52 =>
  (cond t52 (some true) ((cZ i).bind λt57=>(a7 x31.2.1 0 t57).bind λt58=>some (!t58))).bind λt60 =>
  (cond t60 (some true) (some ((sJ .i64 x31.2.2 x31.2.1) != 0))).bind λt=>some t) (b:=uu v i) hn (λk hk=>by
   simp only[n8 hk,mK,rO,uu,List.getElem?_eq_getElem hk,EE hi];cases mU v.1[k].1 1 99 with
   | false=>rfl
   | true =>
    by_cases h0:0<k
    · have hd:decide ((k:Int)>0)=true:=dT (by omega);simp only[hd,xP hk h0 hn,mK,dT h0,List.getElem?_eq_getElem (show k-1<v.1.length by omega)];cases decide (v.1[k-1].1>=v.1[k].1)<;>cases mU v.1[k].2.1 0 (tv i)<;>rfl
    · have hd:decide ((k:Int)>0)=false:=dF (by omega);simp only[hd,dF h0];cases mU v.1[k].2.1 0 (tv i)<;>rfl)]
 refine rl (λi=>?_) 0;unfold eO;simp only[Option.bind_assoc,mK]
theorem DH {v:nY} {i t:Int} (hi:mU i 1 6=true) (ht:mH (t-1)=tv i) (hn:v.1.length<9223372036854775807) (hw:∀r∈v.1,-9223372036854775808<=r.2.2/\r.2.2<=9223372036854775807):loop (λz=>ef v t z) 0=some (cond ((List.range v.1.length).any (uu v i)) (Sum.inr false) (Sum.inl ())):=by
 rw[←rY (n:=v.1.length) (c:=λt6=>(at? v.1 t6).bind λx39 =>
  (a6 x39.1 1 99).bind λt43 =>
  (cond (!t43) (some true) ((a6 x39.2.1 0 (mH (t-1))).bind λt49=>some (!t49))).bind λt51 =>
  (cond t51 (some true) ((a6 x39.2.2 0 (mH (t-1))).bind λt56=>some (!t56))).bind λt58 =>
  (cond t58 (some true) (some ((pp .i64 x39.2.2 x39.2.1) != x39.2.2))).bind λt68 =>
  (cond t68 (some true) ((cond (decide (t6>0)) ((at? v.1 (mH (t6-1))).bind λx77=>some (decide (x77.1>=x39.1))) (some false)).bind λt83=>some t83)).bind λt=>some t) (b:=uu v i) hn (λk hk=>by
   obtain⟨w1,w2⟩:=hw _ (getElem_mem hk);have hs:=EF (m:=v.1[k].2.1) w1 w2
   have hin:=GW (m:=v.1[k].2.1) (t:=tv i) w1 w2;have ht2:=(It hi).2
   simp only[n8 hk,mK,sI,uu,List.getElem?_eq_getElem hk,ht];rw[←hs];cases h1:mU v.1[k].1 1 99 with
   | false=>rfl
   | true =>
    cases h2:mU v.1[k].2.1 0 (tv i)with
    | false =>
     by_cases h0:0<k
     · simp only[dT h0,List.getElem?_eq_getElem (show k-1<v.1.length by omega)];cases decide (v.1[k-1].1>=v.1[k].1)<;>rfl
     · simp only[dF h0];rfl
    | true =>
     cases h3:(pp .i64 v.1[k].2.2 v.1[k].2.1 != v.1[k].2.2)with
     | true =>
      by_cases h0:0<k
      · simp only[dT h0,List.getElem?_eq_getElem (show k-1<v.1.length by omega)];cases decide (v.1[k-1].1>=v.1[k].1)<;>cases mU v.1[k].2.2 0 (tv i)<;>rfl
      · simp only[dF h0];cases mU v.1[k].2.2 0 (tv i)<;>rfl
     | false =>
      have h4:=hin h2 ht2 h3;rw[h4];by_cases h0:0<k
      · have hd:decide ((k:Int)>0)=true:=dT (by omega);simp only[hd,xP hk h0 hn,mK,dT h0,List.getElem?_eq_getElem (show k-1<v.1.length by omega)];cases decide (v.1[k-1].1>=v.1[k].1)<;>rfl
      · have hd:decide ((k:Int)>0)=false:=dF (by omega);simp only[hd,dF h0];rfl)]
 refine rl (λi=>?_) 0;unfold ef;simp only[Option.bind_assoc,mK]
theorem AC {v:nY} (hn:v.1.length<9223372036854775807) (hn2:v.2.length<9223372036854775807):loop (λz=>d6 v z) 0=some (cond ((List.range v.2.length).any (xQ v)) (Sum.inr false) (Sum.inl ())):=by
 rw[←rY (n:=v.2.length) (c:=λt73=>(at? v.2 t73).bind λx75=>(ae v x75).bind λt79=>some (decide (t79<0))) (b:=xQ v) hn2 (λk hk=>by
  obtain⟨r,hr⟩:=HL hn v.2[k];simp only[n8 hk,mK,xQ,List.getElem?_eq_getElem hk,hr])]
 refine rl (λi=>?_) 0;unfold d6;simp only[Option.bind_assoc,mK]
theorem Iv:fy=d6:=rfl
theorem Iw {v:nY} (i:Int) (hn:v.1.length<9223372036854775807) (hn2:v.2.length<9223372036854775807):d7 v i=some (rH v i):=by
 unfold d7 rH;simp only[rO,mK];cases hi:mU i 1 6 with
 | false=>rfl
 | true =>
  rw[EG hi hn,AC hn hn2];cases ((v.2.length:Int) != i)<;>cases decide ((v.1.length:Int)>6)<;>cases (List.range v.1.length).any (uu v i)<;>cases (List.range v.2.length).any (xQ v)<;>rfl
theorem Ix {v:nY} (i:Int) (hn:v.1.length<9223372036854775807) (hn2:v.2.length<9223372036854775807) (hw:∀r∈v.1,-9223372036854775808<=r.2.2/\r.2.2<=9223372036854775807):cD v i=some (rH v i):=by
 unfold cD rH;simp only[sI,mK,Iv];cases hi:mU i 1 6 with
 | false=>rfl
 | true =>
  obtain⟨t,h1,h2⟩:=J1 hi;rw[h1,mK,DH hi h2 hn hw,AC hn hn2];cases ((v.2.length:Int) != i)<;>cases decide ((v.1.length:Int)>6)<;>cases (List.range v.1.length).any (uu v i)<;>cases (List.range v.2.length).any (xQ v)<;>rfl
def wV (l:List Pt) (k:Nat):Bool:=match l[k]? with|some p=>!(AB p)|none=>false
def qi (b:mL):Bool:=mU b.2.2.2.2.2.2.1 0 1000000&&(mU b.2.2.2.2.2.2.2.1 0 1000000&&(mU b.2.2.2.2.2.2.2.2.1 0 1000000&&(mU b.2.2.2.2.2.2.2.2.2.1 0 1000000&&mU b.2.2.2.2.2.2.2.2.2.2 0 1000000)))
noncomputable def oP (b:mL):Bool:=!((List.range b.2.2.1.length).any (wV b.2.2.1))&&(mU b.1 1 99&&(!(decide ((b.2.1.length:Int)>10))&&(mU (b.2.2.1.length:Int) 1 6&&(rZ b.2.2.2.1&&(rH (b.2.2.2.2.1,b.2.2.2.2.2.1) (b.2.2.1.length:Int)&&qi b)))))
structure vV (b:mL):Prop where
 p:b.2.2.1.length<9223372036854775807
 f:b.2.2.2.1.length<9223372036854775807
 v:b.2.2.2.2.1.length<9223372036854775807
 q:b.2.2.2.2.2.1.length<9223372036854775807
 r:∀r∈b.2.2.2.2.1,-9223372036854775808<=r.2.2/\r.2.2<=9223372036854775807
theorem DI {b:mL} (h:vV b):loop (λz=>eP b z) 0=some (cond ((List.range b.2.2.1.length).any (wV b.2.2.1)) (Sum.inr false) (Sum.inl ())):=by
 rw[←rY (n:=b.2.2.1.length) (c:=λt8=>(at? b.2.2.1 t8).bind λx10=>(bP x10).bind λt13=>some (!t13)) (b:=wV b.2.2.1) h.p (λk hk=>by
  simp only[n8 hk,mK,wV,List.getElem?_eq_getElem hk,Jg])]
 refine rl (λi=>?_) 0;unfold eP;simp only[Option.bind_assoc,mK]
theorem Cq {b:mL} (h:vV b):loop (λz=>eg b z) 0=some (cond ((List.range b.2.2.1.length).any (wV b.2.2.1)) (Sum.inr false) (Sum.inl ())):=by
 rw[←rY (n:=b.2.2.1.length) (c:=λt8=>(at? b.2.2.1 t8).bind λx10=>(bz x10).bind λt13=>some (!t13)) (b:=wV b.2.2.1) h.p (λk hk=>by
  simp only[n8 hk,mK,wV,List.getElem?_eq_getElem hk,Jh])]
 refine rl (λi=>?_) 0;unfold eg;simp only[Option.bind_assoc,mK]
theorem GX (b:mL):cE b=some (qi b):=by
 unfold cE qi;simp only[sI,mK];cases mU b.2.2.2.2.2.2.1 0 1000000<;>cases mU b.2.2.2.2.2.2.2.1 0 1000000<;>cases mU b.2.2.2.2.2.2.2.2.1 0 1000000<;>cases mU b.2.2.2.2.2.2.2.2.2.1 0 1000000<;>rfl
theorem HM (n:Int):ax n=some (mU n 0 1000000):=by unfold ax;rw[rO,mK]
theorem xR {b:mL} (h:vV b):bR b=some (oP b):=by
 unfold bR oP qi;rw[DI h,mK];cases (List.range b.2.2.1.length).any (wV b.2.2.1)with
 | true=>rfl
 | false =>
  simp only[cF,Sum.elim_inl,rO,FA h.f,Iw (v:=(b.2.2.2.2.1,b.2.2.2.2.2.1)) _ h.v h.q,HM,mK];cases mU b.1 1 99<;>cases decide ((b.2.1.length:Int)>10)<;>cases mU (b.2.2.1.length:Int) 1 6<;>cases rZ b.2.2.2.1<;>cases rH (b.2.2.2.2.1,b.2.2.2.2.2.1) (b.2.2.1.length:Int) <;>
   cases mU b.2.2.2.2.2.2.1 0 1000000<;>cases mU b.2.2.2.2.2.2.2.1 0 1000000<;>cases mU b.2.2.2.2.2.2.2.2.1 0 1000000<;>cases mU b.2.2.2.2.2.2.2.2.2.1 0 1000000<;>rfl
theorem CP {b:mL} (h:vV b):bC b=some (oP b):=by
 unfold bC oP;rw[Cq h,mK];cases (List.range b.2.2.1.length).any (wV b.2.2.1)with
 | true=>rfl
 | false =>
  have e:decide ((b.2.1.length:Int)<=10)=!(decide ((b.2.1.length:Int)>10)):=by
   by_cases hh:(b.2.1.length:Int)>10
   · rw[dT hh,dF (by omega)];rfl
   · rw[dF hh,dT (by omega)];rfl
  simp only[cF,Sum.elim_inl,sI,HK h.f,Ix (v:=(b.2.2.2.2.1,b.2.2.2.2.2.1)) _ h.v h.q h.r,GX,mK,e];cases mU b.1 1 99<;>cases decide ((b.2.1.length:Int)>10)<;>cases mU (b.2.2.1.length:Int) 1 6<;>cases rZ b.2.2.2.1<;>cases rH (b.2.2.2.2.1,b.2.2.2.2.2.1) (b.2.2.1.length:Int)<;>cases qi b<;>rfl
theorem G5:cH=bn:=rfl
theorem G6 (a b:rk):∃r,bn a b=some r:=by
 unfold bn;cases (a.1 != b.1)<;>cases (a.2.1 != b.2.1)<;>cases (a.2.2.2.1 != b.2.2.2.1)<;>exact⟨_,rfl⟩
theorem Iy:ej=bS:=rfl
theorem Iz (v:rk) (c:Int):∃r,bS v c=some r:=by
 unfold bS;simp only[BJ,rO,mK];cases xw v<;>cases mU c 1 1000<;>first|exact⟨_,rfl⟩|skip
 generalize xw (v.1,mH (v.2.1+c),mH (v.2.2.1+1),v.2.2.2.1,v.2.2.2.2)=q;cases q<;>exact⟨_,rfl⟩
theorem IA (p0:Int) (l:List Pt) (t8 t9 b0 b1 b2 b3 b4 c0 c1 c2 c3 c4:Int):ek p0 l t8 t9 b0 b1 b2 b3 b4 c0 c1 c2 c3 c4=bo p0 l t8 t9 b0 b1 b2 b3 b4 c0 c1 c2 c3 c4:=by
 unfold ek bo;rw[Iy,G5];cases h:at? l t9 with
 | none=>rfl
 | some x=>simp only[mK]
theorem G7:bD=az:=by
 funext p0 l
 unfold bD az;rw[rl (λz=>IA p0 l _ _ _ _ _ _ _ _ _ _ _ _)]
theorem IB (p0:Int) {l:List Pt} (hn:l.length<9223372036854775807):∃r,az p0 l=some r:=by
 unfold az;obtain⟨b,h1,_⟩:=oh (step:=λz:Int×Int×Int×Int×Int×Int×Int×Int×Int×Int×Int×Int=>bo p0 l z.1 z.2.1 z.2.2.1 z.2.2.2.1 z.2.2.2.2.1 z.2.2.2.2.2.1 z.2.2.2.2.2.2.1 z.2.2.2.2.2.2.2.1 z.2.2.2.2.2.2.2.2.1 z.2.2.2.2.2.2.2.2.2.1 z.2.2.2.2.2.2.2.2.2.2.1 z.2.2.2.2.2.2.2.2.2.2.2)
  (λk z=>z.2.1=(k:Int)) l.length (λ_=>True)
  (λk z hk h=>by
   left;obtain⟨t7,t18,b0,b1,b2,b3,b4,c0,c1,c2,c3,c4⟩:=z;obtain rfl:t18=(k:Int):=h;unfold bo;simp only[nU (show (k:Int)<(l.length:Int) by omega),cT,n8 hk,mK];rw[show mH ((k:Int)+1)=((k+1:Nat):Int)from n4 (by omega)];generalize l[k]=x;have e:(cond (!x.1) (some true) (some (!x.2.2.1)):Option Bool)=some (cond (!x.1) true (!x.2.2.1)):=by cases x.1<;>rfl
   rw[e,mK];cases (cond (!x.1) true (!x.2.2.1))with
   | true=>exact⟨_,rfl,rfl⟩
   | false =>
    obtain⟨r,hr⟩:=Iz x.2.2.2 x.2.1;obtain⟨q,hq⟩:=G6 r.1 (c0,c1,c2,c3,c4);rw[cF,hr,mK,hq];cases r.2<;>cases decide (r.1.1<p0)<;>cases decide (t7<0)<;>cases q<;>exact⟨_,rfl,rfl⟩)
  (λz h=>by
   obtain⟨t7,t18,b0,b1,b2,b3,b4,c0,c1,c2,c3,c4⟩:=z;obtain rfl:t18=(l.length:Int):=h;unfold bo;simp only[nj (show ¬(l.length:Int)<(l.length:Int) by omega),cF];exact⟨_,rfl,trivial⟩) (x:=((-1),0,p0,0,0,p0,0,0,0,0,0,0)) rfl
 rw[h1,mK];exact⟨_,rfl⟩
theorem J2:cI=bT:=by
 funext id l p
 unfold cI bT;rw[G7]
theorem IC:cJ=ar:=by
 funext id l p
 unfold cJ ar;rw[G7,J2,G5];rfl
theorem ID (id:Int) {l:List Pt} (hn:l.length<9223372036854775807) (p:Int):∃r,ar id l p=some r:=by
 obtain⟨v,hv⟩:=IB id hn;unfold ar bT;simp only[rO,mK,hv];rw[show mH ((l.length:Int)-1)=(l.length:Int)-1 from oB (by omega) (by omega)];cases hp:mU p 0 ((l.length:Int)-1)with
 | false=>exact⟨_,rfl⟩
 | true =>
  unfold mU at hp;simp only[aT,decide_eq_true_eq]at hp;obtain⟨k,rfl⟩:∃k:Nat,p=(k:Int):=⟨p.toNat,by omega⟩;simp only[n8 (show k<l.length by omega),mK];generalize l[k]'(by omega)=x;obtain⟨q,hq⟩:=G6 (v.1.1,v.1.2.1,v.1.2.2.1,v.1.2.2.2.1,(k:Int)) x.2.2.2;rw[hq];cases x.1<;>cases (v.2==(k:Int))<;>cases x.2.2.1<;>cases q<;>exact⟨_,rfl⟩
def BL (n:Nat) (l:List mL):Prop:=l.length<=n/\∀x∈l,v5 n x
theorem EH {l:List mL} {left:Int} (hl:In left) (h:BL maxLen l):pF left (dW l left) (BL M l):=by
 have hn:l.length<=9223372036854775807:=h.1;show pF left (let l1:=mH (left-(l.length:Int));cond (decide (l1<0)) (some (-1)) ((loop (λz=>fd l z.1 z.2) (l1,0)).bind (Sum.elim (λd=>some d) (λr=>some r)))) _
 by_cases hle:l.length<=M
 · exact wq (BI hl h.1 λr k1 k2=>Ey (f:=cB) (Q:=v5 M) (λx hx l' h1 h2=>Fx ⟨h1,h2⟩ (h.2 x hx)) (pP hle) (hl.next k1 k2)) λ⟨a,b⟩=>⟨a,b⟩
 · refine⟨-1,?_,.inl rfl⟩;show cond (decide (mH (left-(l.length:Int))<0)) _ _=_
   have:M<l.length:=by omega
   have hM:(1048576:Int)<(l.length:Int):=by have:1048576<l.length:=this;omega
   have:=hl.2;rw[oB (by omega) (by omega),nU (by omega),cT]
theorem GY {a:List nD} {left:Int} (hl:In left) (h:a.length<=maxLen):pF left (dX a left) (a.length<=M):=qR hl h
theorem HN {a:List oT} {left:Int} (hl:In left) (h:a.length<=maxLen):pF left (dY a left) (a.length<=M):=qR hl h
def wW (m:Nat) (n:nh):Prop:=BL m n.1/\n.2.1.length<=m/\n.2.2.length<=m
theorem IE {n:nh} {left:Int} (hl:In left) (h:wW maxLen n):pF left (dZ n left) (wW M n) :=
 wq (qs (EH hl h.1) λr k1 k2=>qs (GY (hl.next k1 k2) h.2.1) λr' k3 k4=>qs (HN ((hl.next k1 k2).next k3 k4) h.2.2) λr'' k5 k6=>uO k5) λ⟨a,b,c,_⟩=>⟨a,b,c⟩
theorem EI {l:List mL} (h:BL M l):eH l=some l:=th (pP h.1) (sR (f:=bN) (λx hx=>Fy (h.2 x hx)) (pP h.1) _)
theorem GZ {a:List nD} (h:a.length<=M):eJ a=some a:=th (pP h) (sR (f:=eI) (λ_ _=>rfl) (pP h) _)
theorem HO {a:List oT} (h:a.length<=M):eL a=some a:=th (pP h) (sR (f:=eK) (λ_ _=>rfl) (pP h) _)
theorem IF {n:nh} (h:wW M n):aJ n=some n:=by
 unfold aJ;rw[EI h.1,mK,GZ h.2.1,mK,HO h.2.2,mK]
theorem HP (v:nD):ce v v=some true:=by unfold ce;simp
theorem IG (v:oT):cf v v=some true:=by unfold cf;simp[G0]
theorem EJ {l:List mL} (h:BL M l):eW l l=some true:=sB (sa (g:=cc) (λx hx=>Fz (h.2 x hx)) (pP h.1))
theorem H0 {a:List nD} (h:a.length<=M):eX a a=some true:=sB (sa (g:=ce) (λx _=>HP x) (pP h))
theorem HQ {a:List oT} (h:a.length<=M):eY a a=some true:=sB (sa (g:=cf) (λx _=>IG x) (pP h))
theorem G8 {n:nh} (h:wW M n):aQ n n=some true:=by
 unfold aQ;simp[EJ h.1,H0 h.2.1,HQ h.2.2]
theorem HR {n:nh} (h:Cs.wf oi n):wW maxLen n:=by
 simp only[oi,Cs.wf,CT.wf]at h;obtain⟨h1,h2,h3⟩:=h;refine⟨⟨h1.1,λb hb=>?_⟩,h2.1,h3.1⟩;obtain⟨_,k1,k2,k3,k4,k5,_⟩:=h1.2 b hb;exact⟨k1,k2.1,k3.1,k4.1,k5.1⟩
structure NS (n:nh):Prop where
 b:n.1.length<9223372036854775807
 l:n.2.1.length<=1048576
 p:∀b∈n.1,b.2.2.1.length<9223372036854775807
theorem II {n:nh} (h:wW M n):NS n:=by
 have hM:M<9223372036854775807:=by decide
 exact⟨by have:=h.1.1;omega,h.2.1,λb hb=>by have:=(h.1.2 b hb).2.1;omega⟩
def oe (n:nh) (b p:Int):Option Pt:=cond (mU b 0 ((n.1.length:Int)-1)) (match at? n.1 b with
 | some x=>cond (mU p 0 ((x.2.2.1.length:Int)-1)) (at? x.2.2.1 p) none
 | none=>none) none
theorem sD {α:Type} {l:List α} {i:Int} (h:mU i 0 ((l.length:Int)-1)=true):∃k:Nat,∃hk:k<l.length,i=(k:Int)/\at? l i=some l[k]:=by
 unfold mU at h;simp only[aT,decide_eq_true_eq]at h;obtain⟨k,rfl⟩:∃k:Nat,i=(k:Int):=⟨i.toNat,by omega⟩;exact⟨k,by omega,rfl,n8 (by omega)⟩
theorem EK {n:nh} (h:NS n) (b p:Int):bb n b p=some (match oe n b p with|some x=>(x,true)|none=>((false,0,false,0,0,0,0,0),false)):=by
 unfold bb oe;have hb:=h.b
 simp only[rO,mK];rw[oB (n:=(n.1.length:Int)-1) (by omega) (by omega)];cases h1:mU b 0 ((n.1.length:Int)-1)with
 | false=>rfl
 | true =>
  obtain⟨k,hk,_,e⟩:=sD h1;rw[e];simp only[mK,cT,Bool.not_true,cF];have hp:=h.p _ (getElem_mem hk)
  rw[oB (n:=((n.1[k]).2.2.1.length:Int)-1) (by omega) (by omega)];cases h2:mU p 0 (((n.1[k]).2.2.1.length:Int)-1)with
  | false=>rfl
  | true =>
   obtain⟨j,hj,_,e'⟩:=sD h2;simp only[Bool.not_true,cF,cT,e',mK]
theorem Ji {n:nh} (h:NS n) (b p:Int):bL n b p=some (match oe n b p with|some x=>x.1|none=>false):=by
 unfold bL oe;have hb:=h.b
 simp only[sI,mK];rw[oB (n:=(n.1.length:Int)-1) (by omega) (by omega)];cases h1:mU b 0 ((n.1.length:Int)-1)with
 | false=>rfl
 | true =>
  obtain⟨k,hk,_,e⟩:=sD h1;rw[e];simp only[mK,cT];have hp:=h.p _ (getElem_mem hk)
  rw[oB (n:=((n.1[k]).2.2.1.length:Int)-1) (by omega) (by omega)];cases h2:mU p 0 (((n.1[k]).2.2.1.length:Int)-1)with
  | false=>rfl
  | true =>
   obtain⟨j,hj,_,e'⟩:=sD h2;simp only[cT,e',mK]
def DJ (o:Option Pt):Bool:=match o with|some x=>x.1|none=>false
theorem qY {α:Type} {xs ys:List α} (h:xs.length+ys.length<=4294967296):app xs ys=some (xs++ys):=by
 unfold app;rw[if_pos (show xs.length+ys.length<=va from h)]
noncomputable def r8 (id:Int) (l:List Pt) (p:Int):Int:=(ar id l p).getD 0
theorem wC (id:Int) {l:List Pt} (hn:l.length<9223372036854775807) (p:Int):ar id l p=some (r8 id l p):=by
 obtain⟨r,hr⟩:=ID id hn p;unfold r8;rw[hr];rfl
def DK (l:List Int) (x:Int):Bool:=decide (x∈l)
def t0 (b:Nat->Bool) (m:Nat):List Int:=((List.range m).filter b).map λ(k:Nat)=>(k:Int)
theorem FC (b:Nat->Bool) (m:Nat):(t0 b m).length<=m:=by
 unfold t0;rw[length_map];exact Nat.le_trans (List.length_filter_le _ _) (by simp)
theorem DM (b:Nat->Bool) (m:Nat):t0 b (m+1)=cond (b m) (t0 b m++[(m:Int)]) (t0 b m):=by
 unfold t0;rw[List.range_succ,List.filter_append,List.map_append];cases h:b m<;>simp[h]
theorem rq {n:Nat} {c:Int->Option Bool} {b:Nat->Bool} (hn:n<=1048576) (hc:∀k,k<n->c (k:Int)=some (b k)) :
 loop (λz:Int×List Int=>cond (decide (z.1<(n:Int))) ((c z.1).bind λt=>cond t ((app z.2 [z.1]).bind λzs=>some (.inl (mH (z.1+1),zs))) (some (.inl (mH (z.1+1),z.2)))) (some (.inr z.2))) (0,([]:List Int))=some (t0 b n):=by
 obtain⟨v,h1,rfl⟩:=oh (step:=λz:Int×List Int=>cond (decide (z.1<(n:Int))) ((c z.1).bind λt=>cond t ((app z.2 [z.1]).bind λzs=>some (.inl (mH (z.1+1),zs))) (some (.inl (mH (z.1+1),z.2)))) (some (.inr z.2))) (λk z=>z.1=(k:Int)/\z.2=t0 b k) n (λl=>l=t0 b n)
  (λk z hk ⟨e1,e2⟩=>by
   obtain⟨i,l⟩:=z;simp only at e1 e2;subst e1 e2;left;have hle:=FC b k
   refine⟨(mH ((k:Int)+1),t0 b (k+1)),?_,n4 (by omega),rfl⟩;simp only[nU (show (k:Int)<(n:Int) by omega),cT,hc k hk,mK];rw[DM];cases b k with
   | false=>rfl
   | true=>rw[cT,qY (by simp;omega)];rfl)
  (λz ⟨e1,e2⟩=>by
   obtain⟨i,l⟩:=z;simp only at e1 e2;subst e1 e2;exact⟨_,by simp only[nj (show ¬(n:Int)<(n:Int) by omega),cF],rfl⟩) (x:=(0,[])) ⟨rfl,rfl⟩
 exact h1
def v6 (l:List Bool):Nat:=l.count true
theorem HS (l:List Bool):v6 l<=l.length:=List.count_le_length
theorem H3 {l:List Bool} {i:Nat} (h:l[i]?=some false):v6 (l.set i true)=v6 l+1:=by
 obtain⟨hi,he⟩:=List.getElem?_eq_some_iff.1 h;unfold v6;rw[List.count_set hi,he];simp
theorem BM {n:Nat} {i:Int} (h:mU i 0 ((n:Int)-1)=true):∃k:Nat,k<n/\i=(k:Int):=by
 unfold mU at h;simp only[aT,decide_eq_true_eq]at h;exact⟨i.toNat,by omega,by omega⟩
theorem zy {n k:Nat} (h:k<n):mU (k:Int) 0 ((n:Int)-1)=true:=by
 unfold mU;rw[dT (by omega),dT (by omega)];rfl
structure vW (X:List Int) (l:List Bool):Prop where
 r:∀x∈X,∃k:Nat,k<l.length/\x=(k:Int)
 m:∀k,k<l.length->l[k]?=some (DK X (k:Int))
 c:X.length=v6 l
theorem vW.len {X:List Int} {l:List Bool} (h:vW X l):X.length<=l.length:=by rw[h.c];exact HS l
theorem vW.add {X:List Int} {l:List Bool} (h:vW X l) {i:Nat} (hi:l[i]?=some false):vW (X++[(i:Int)]) (l.set i true):=by
 obtain⟨hi',he⟩:=List.getElem?_eq_some_iff.1 hi;refine⟨λx hx=>?_,λk hk=>?_,?_⟩
 · rw[length_set];rcases mem_append.1 hx with hx|hx
   · exact h.r x hx
   · simp at hx;exact⟨i,hi',hx⟩
 · rw[length_set]at hk;rw[List.getElem?_set];split
   · rename_i e;subst e;rw[show DK (X++[(i:Int)]) (i:Int)=true from dT (by simp)]
   · rename_i e;rw[h.m k hk]
     congr 1
     unfold DK;apply decide_eq_decide.2;rw[mem_append,mem_singleton];constructor
     · exact .inl
     · rintro (h|h)
       · exact h
       · omega
 · rw[length_append,H3 hi,h.c];rfl
theorem vW.in {X:List Int} {l:List Bool} (h:vW X l) {x:Int} (hx:DK X x=true):mU x 0 ((l.length:Int)-1)=true:=by
 obtain⟨k,hk,rfl⟩:=h.r x (of_decide_eq_true hx);exact zy hk
def start (n:Nat) (b:Nat):List Bool:=(List.replicate n false).set b true
theorem IJ (id:Int) {l:List Pt} (hn:l.length<9223372036854775807) (p:Int):1<=r8 id l p:=by
 have h:=wC id hn p
 revert h
 generalize r8 id l p=v;unfold ar;rw[rO,mK];intro h;have key:∀(o:Option Bool) (f:Bool->Option Int),(∀t x,f t=some x->1<=x)->o.bind f=some v->1<=v:=by
  intro o f hf h;cases o with
  | none=>cases h
  | some t=>exact hf t v h
 refine key _ _ (λt x hx=>?_) h;cases t with
 | true=>cases hx;decide
 | false =>
  rw[cF]at hx;cases hbv:az id l with
  | none=>rw[hbv]at hx;cases hx
  | some w =>
   rw[hbv,mK]at hx;cases hw:w.2==p with
   | true=>rw[hw]at hx;cases hx;decide
   | false =>
    rw[hw,cF]at hx;cases ha:at? l p with
    | none=>rw[ha]at hx;cases hx
    | some y =>
     rw[ha,mK]at hx
     revert hx
     generalize (cond (!y.2.2.1) _ _:Option Bool)=o;intro hx;cases o with
     | none=>cases hx
     | some t=>cases t<;>(cases hx;decide)
theorem wD {k:Nat} (h:k<64):IntKind.u64.wrap (k:Int)=(k:Int):=by
 show ((k:Int)%18446744073709551616)=_;omega
theorem IK:∀b:Fin 64,∀p:Fin 6,∃t c,shl .i64 1 (p.1:Int)=some t/\AU .i64 (b.1:Int) t=(c:Int)/\0<=c/\c<64:=by
 intro b p;have h:∀b:Fin 64,∀p:Fin 6,(decide (0<=AU .i64 (b.1:Int) (2^p.1))&&decide (AU .i64 (b.1:Int) (2^p.1)<64))=true:=by decide
 have h1:=h b p;simp only[aT,decide_eq_true_eq]at h1;have h2:∀p:Fin 6,shl .i64 1 (p.1:Int)=some (2^p.1):=by decide
 exact⟨_,_,h2 p,rfl,h1.1,h1.2⟩
theorem HT {r:Int} (h:1<=r):decide (r<=2)=(r==1||r==2):=by
 by_cases h2:r<=2
 · rw[dT h2];rcases (show r=1\/r=2 by omega)with rfl|rfl<;>rfl
 · rw[dF h2,beq_eq_false_iff_ne.2 (show r≠1 by omega),beq_eq_false_iff_ne.2 (show r≠2 by omega)];rfl
theorem zz (id:Int) {l:List Pt} (hn:l.length<9223372036854775807) (z:Int×Int) (hz:0<=z.2):bE id l z.1 z.2=ai id l z.1 z.2:=by
 unfold bE ai;rw[IC,wC id hn,mK];have hr:=IJ id hn z.2
 by_cases h1:z.2<(l.length:Int)
 · rw[nU h1,cT];by_cases h2:z.2<6
   · rw[nU h2,mK,mK,cT,cT,mK,HT hr];obtain⟨k,hk⟩:∃k:Nat,z.2=(k:Int):=⟨z.2.toNat,by omega⟩;rw[hk,wD (by omega)];cases r8 id l (k:Int)==1<;>cases r8 id l (k:Int)==2<;>rfl
   · rw[nj h2];rfl
 · rw[nj h1];rfl
theorem zA (id:Int) {l:List Pt} (hn:l.length<9223372036854775807):∃c:Nat,c<64/\bU id l=some (c:Int)/\bG id l=some (c:Int):=by
 obtain⟨v,h1,c,h2,rfl⟩:=oh (step:=λz:Int×Int=>ai id l z.1 z.2) (λk z=>z.2=(k:Int)/\∃c:Nat,c<64/\z.1=(c:Int)) (min l.length 6) (λv=>∃c:Nat,c<64/\v=(c:Int))
  (λk z hk ⟨e1,c,e2,e3⟩=>by
   obtain⟨b,i⟩:=z;simp only at e1 e3;subst e1 e3;left;have k6:k<6:=by omega
   obtain⟨t,d,b1,b2,b3,b4⟩:=IK ⟨c,e2⟩ ⟨k,k6⟩;have hs:ai id l (c:Int) (k:Int)=cond (r8 id l (k:Int)==1||r8 id l (k:Int)==2) (some (.inl ((d:Int),((k+1:Nat):Int)))) (some (.inl ((c:Int),((k+1:Nat):Int)))):=by
    unfold ai;rw[nU (show (k:Int)<(l.length:Int) by omega),nU (show (k:Int)<6 by omega),cT,mK,cT,wC id hn,mK,b1,mK,b2,n4 (by omega)];cases r8 id l (k:Int)==1<;>cases r8 id l (k:Int)==2<;>rfl
   show ∃y,ai id l (c:Int) (k:Int)=_/\_;rw[hs];cases (r8 id l (k:Int)==1||r8 id l (k:Int)==2)with
   | true=>exact⟨_,rfl,rfl,d.toNat,by omega,by show d=_;omega⟩
   | false=>exact⟨_,rfl,rfl,c,e2,rfl⟩)
  (λz ⟨e1,c,e2,e3⟩=>by
   obtain⟨b,i⟩:=z;simp only at e1 e3;subst e1 e3;refine⟨(c:Int),?_,c,e2,rfl⟩;show ai id l _ _=_
   unfold ai;by_cases h:l.length<=6
   · rw[Nat.min_eq_left h,nj (by omega)];rfl
   · rw[Nat.min_eq_right (by omega),nU (by omega),nj (show ¬(((6:Nat):Int)<6) by omega)];rfl) (x:=(0,0)) ⟨rfl,0,by omega,rfl⟩
 refine⟨c,h2,by unfold bU;rw[h1];rfl,?_⟩;unfold bG;rw[DG (f:=λz:Int×Int=>bE id l z.1 z.2) (g:=λz:Int×Int=>ai id l z.1 z.2) (λz=>0<=z.2/\z.2<=9223372036854775806) (λz hz=>zz id hn z hz.1) (λz y hz hy=>by
  have hy':bE id l z.1 z.2=some (.inl y):=hy;rw[zz id hn z hz.1]at hy';unfold ai at hy';by_cases h1:z.2<(l.length:Int)
  · by_cases h2:z.2<6
    · rw[nU h1,nU h2,cT,mK,cT,wC id hn,mK]at hy';have hw:mH (z.2+1)=z.2+1:=oB (by omega) (by omega)
      rw[hw]at hy'
      revert hy'
      generalize (cond (r8 id l z.2==1) (some true) (some (r8 id l z.2==2)))=o;intro hy';cases o with
      | none=>cases hy'
      | some t =>
       rw[mK]at hy';cases t with
       | false=>cases hy';exact⟨by show 0<=z.2+1;omega,by show z.2+1<=_;omega⟩
       | true =>
        rw[cT]at hy';cases hs:shl .i64 1 z.2 with
        | none=>rw[hs]at hy';cases hy'
        | some q=>rw[hs]at hy';cases hy';exact⟨by show 0<=z.2+1;omega,by show z.2+1<=_;omega⟩
    · rw[nU h1,nj h2]at hy';cases hy'
  · rw[nj h1]at hy';cases hy') (x:=(0,0)) ⟨by decide,by decide⟩,h1]
 rfl
def qb (c:Nat) (p:Int):Bool:=cond (mU p 0 7) (match shr .i64 (c:Int) p with|some t=>(pp .i64 t 1)==1|none=>false) false
theorem HU (c:Nat) (p:Int):af (c:Int) p=some (qb c p):=by
 unfold af qb;rw[sI,mK];cases h:mU p 0 7 with
 | false=>rfl
 | true =>
  obtain⟨k,hk,rfl⟩:=BM (n:=8) h;rw[wD (by omega),cT,cT];have:∃t,shr .i64 (c:Int) (k:Int)=some t:=by unfold shr;rw[if_neg (by omega)];exact⟨_,rfl⟩
  obtain⟨t,ht⟩:=this;rw[ht];rfl
theorem HV {c:Nat} (hc:c<64) (p:Int):a9 (c:Int) p=some (qb c p):=by
 unfold a9 qb;rw[rO,mK];cases h:mU p 0 62 with
 | false =>
  have h7:mU p 0 7=false:=by
   cases h7:mU p 0 7 with
   | false=>rfl
   | true =>
    obtain⟨k,hk,rfl⟩:=BM (n:=8) h7;have:mU (k:Int) 0 ((63:Nat)-1:Int)=true:=zy (by omega)
    exact absurd (h.symm.trans this) (by decide)
  rw[h7];rfl
 | true =>
  obtain⟨k,hk,rfl⟩:=BM (n:=63) h;have hs:shr .i64 (c:Int) (k:Int)=some ((c:Int).fdiv (2^(min k 64))):=by unfold shr;rw[if_neg (by omega)];rfl
  rw[cT,hs,mK,mK];by_cases h7:k<8
  · rw[show mU (k:Int) 0 7=true from zy (n:=8) h7];rfl
  · rw[show mU (k:Int) 0 7=false from by unfold mU;rw[dF (show ¬(k:Int)<=7 by omega),Bool.and_false],cF];have hz:(c:Int).fdiv (2^(min k 64))=0:=by
     rw[Nat.min_eq_left (by omega)];have h2:(c:Int)<2^k:=by
      have:2^6<=2^k:=Nat.pow_le_pow_right (by decide) (by omega);have h3:c<2^k:=by omega
      exact_mod_cast h3
     rw[Int.fdiv_eq_ediv_of_nonneg _ (by exact_mod_cast Nat.zero_le _)];exact Int.ediv_eq_zero_of_lt (by omega) h2
    rw[hz];rfl

abbrev Jj (x:Int):Prop:=-9223372036854775808<=x/\x<=9223372036854775807
structure VT (v:nY) (n:Nat):Prop where
 p:rH v (n:Int)=true
 r:∀r∈v.1,Jj r.2.2
theorem VT.len {v:nY} {n:Nat} (h:VT v n):1<=n/\n<=6/\v.2.length=n/\v.1.length<=6:=by
 have hp:=h.p;unfold rH mU at hp;simp only[aT,Bool.not_eq_true',Bool.or_eq_false_iff,Bool.not_eq_false',aT,decide_eq_true_eq,decide_eq_false_iff_not,bne_eq_false_iff_eq]at hp;obtain⟨⟨h1,h2,h3⟩,_⟩:=hp;omega
theorem zB {α:Type} {l:List α} {a b:Nat} (h1:a<=b) (h2:b<=l.length):cut l (a:Int) (b:Int)=some ((l.take b).drop a):=by
 unfold cut;rw[if_pos (by omega),if_pos (by omega),if_pos (by omega)];simp
theorem qu {α:Type} {xs ys:List α} (h:xs.length+ys.length<=4294967296):app xs ys=some (xs++ys):=by
 unfold app;rw[if_pos (show xs.length+ys.length<=va from h)]
def lt (a b:mT):Prop:=a.1<b.1\/(a.1=b.1/\a.2.1<b.2.1)
def same (a b:mT):Prop:=a.1=b.1/\a.2.1=b.2.1
theorem lt_trans {a b c:mT} (h:lt a b) (k:lt b c):lt a c:=by unfold lt at *;omega
theorem IL {a b:mT} (h:lt a b):¬same a b:=by unfold lt same at *;omega
structure FB (l:List mT):Prop where
 e:∀x∈l,sY x=true
 o:l.Pairwise lt
 n:l.length<=12
theorem FB.ok {l:List mT} (h:FB l):rZ l=true:=by
 unfold rZ;have hn:=h.n
 rw[dT (show (l.length:Int)<=12 by omega),Bool.and_true,Bool.not_eq_true'];apply Bool.eq_false_iff.2;intro ha;obtain⟨k,hk,hx⟩:=any_eq_true.1 ha;have hk:=mem_range.1 hk
 unfold rU at hx;simp only[List.getElem?_eq_getElem hk,h.e _ (getElem_mem hk),Bool.not_true,Bool.false_or,aT,decide_eq_true_eq]at hx;obtain⟨h0,hx⟩:=hx;simp only[List.getElem?_eq_getElem (show k-1<l.length by omega),Bool.not_eq_true']at hx;have hl:=pairwise_iff_getElem.1 h.o (k-1) k (by omega) hk (by omega)
 unfold ow at hx;simp only[Bool.or_eq_false_iff,Bool.and_eq_false_iff,decide_eq_false_iff_not,bF]at hx;unfold lt at hl;omega
def qv (x e:mT):Bool:=cond (x.1 != e.1) (decide (x.1<e.1)) (decide (x.2.1<e.2.1))
theorem BN {x e:mT} (h:qv x e=true):lt x e:=by
 unfold qv at h;unfold lt;by_cases hx:x.1=e.1
 · rw[show (x.1 != e.1)=false by simp[hx],cF]at h;exact .inr ⟨hx,of_decide_eq_true h⟩
 · rw[show (x.1 != e.1)=true from bne_iff_ne.2 hx,cT]at h;exact .inl (of_decide_eq_true h)
theorem EL {x e:mT} (h:qv x e=false):lt e x\/same x e:=by
 unfold qv at h;unfold lt same;by_cases hx:x.1=e.1
 · rw[show (x.1 != e.1)=false by simp[hx],cF]at h;have:=of_decide_eq_false h
   omega
 · rw[show (x.1 != e.1)=true from bne_iff_ne.2 hx,cT]at h;have:=of_decide_eq_false h
   omega
def pS (x e:mT):Bool:=x.1 != e.1||x.2.1 != e.2.1
theorem DN {x e:mT} (h:pS x e=true):¬same x e:=by
 unfold pS at h;unfold same;simp only[Bool.or_eq_true,bne_iff_ne]at h;omega
theorem Cr {x e:mT} (h:pS x e=false):same x e:=by
 unfold pS at h;unfold same;simp only[Bool.or_eq_false_iff,bne_eq_false_iff_eq]at h;exact h
structure rm (b:mL):Prop where
 w:vV b
 ok:oP b=true
 p:∀x∈b.2.2.1,AB x=true
 id:mU b.1 1 99=true
 name:b.2.1.length<=10
 n1:1<=b.2.2.1.length
 n6:b.2.2.1.length<=6
 f:rZ b.2.2.2.1=true
 v:rH (b.2.2.2.2.1,b.2.2.2.2.2.1) (b.2.2.1.length:Int)=true
 c:qi b=true
theorem CQ {b:mL} (h:vV b) (hb:oP b=true):rm b:=by
 have hb':=hb;unfold oP at hb;simp only[aT,Bool.not_eq_true',decide_eq_false_iff_not]at hb;obtain⟨h1,h2,h3,h4,h5,h6,h7⟩:=hb;refine⟨h,hb',λx hx=>?_,h2,by omega,?_,?_,h5,h6,h7⟩
 · obtain⟨k,hk,rfl⟩:=getElem_of_mem hx;cases hp:AB b.2.2.1[k]with
   | true=>rfl
   | false =>
    have:=any_eq_false.1 h1 k (mem_range.2 hk);unfold wV at this;simp only[List.getElem?_eq_getElem hk,hp]at this;exact absurd rfl this
 · unfold mU at h4;simp only[aT,decide_eq_true_eq]at h4;omega
 · unfold mU at h4;simp only[aT,decide_eq_true_eq]at h4;omega
theorem rm.vt {b:mL} (h:rm b):VT (b.2.2.2.2.1,b.2.2.2.2.2.1) b.2.2.1.length:=⟨h.v,h.w.r⟩
theorem rm.f12 {b:mL} (h:rm b):b.2.2.2.1.length<=12:=by
 have hf:=h.f;unfold rZ at hf;simp only[aT,decide_eq_true_eq]at hf;omega
theorem BO {α:Type} {R:α->α->Prop} (tr:∀a b c,R a b->R b c->R a c) {l:List α} (h:∀k (hk:k+1<l.length),R l[k] l[k+1]):l.Pairwise R:=by
 rw[pairwise_iff_getElem];intro i j hi hj hij
 induction j with
 | zero=>omega
 | succ j ih =>
  by_cases e:i=j
  · subst e;exact h i hj
  · exact tr _ _ _ (ih (by omega) (by omega)) (h j hj)
theorem EM {b:mL} (h:rm b):b.2.2.2.2.1.Pairwise λr s=>r.1<s.1:=by
 refine BO (R:=λ(r s:oy)=>r.1<s.1) (λ_ _ _ h k=>Int.lt_trans h k) λk hk=>?_;have hv:=h.v
 unfold rH at hv;simp only[aT,Bool.not_eq_true']at hv;have hx:=any_eq_false.1 hv.2.1 (k+1) (mem_range.2 hk)
 unfold uu at hx;simp only[List.getElem?_eq_getElem hk,Nat.add_sub_cancel,List.getElem?_eq_getElem (show k<b.2.2.2.2.1.length by omega),Bool.or_eq_true,aT,decide_eq_true_eq,not_or,not_and]at hx;have:=hx.2.1 (by omega)
 omega
theorem Jk {n a c:Int} (h1:a<=n) (h2:n<=c):mU n a c=true:=by unfold mU;rw[dT (by omega),dT (by omega)];rfl
theorem qZ {α:Type} {ys:List α} (h:ys.length<=M):app [] ys=some ys:=by
 unfold app;rw[if_pos (by show 0+ys.length<=4294967296;have h':ys.length<=1048576:=h;omega)];rfl
theorem FD {l:List Int} (h:l.length<=M):cW l=some l:=by unfold cW;rw[qZ h];rfl
theorem EN {l:List Int} (h:l.length<=M):da l=some l:=by unfold da;rw[qZ h];rfl
theorem sS {l:List mT} (h:l.length<=M):aw l=some l:=by unfold aw;rw[qZ h];rfl
theorem BP {l:List mT} (h:l.length<=M):bw l=some l:=by unfold bw;rw[qZ h];rfl
theorem FE {v:nY} (h:v.1.length<=M/\v.2.length<=M):cX v=some v:=by
 unfold cX;rw[qZ h.1,mK,FD h.2];rfl
theorem EO {v:nY} (h:v.1.length<=M/\v.2.length<=M):cC v=some v:=by
 unfold cC;rw[qZ h.1,mK,qZ h.2];rfl
theorem sE {b:mL} (h:v5 M b):bO b=some b:=by
 obtain⟨h1,h2,h3,h4,h5⟩:=h;unfold bO;rw[qZ h2,mK,sS h3,mK,FE ⟨h4,h5⟩];rfl
theorem vm {b:mL} (h:v5 M b):bx b=some b:=by
 obtain⟨h1,h2,h3,h4,h5⟩:=h;unfold bx;rw[qZ h2,mK,BP h3,mK,EO ⟨h4,h5⟩];rfl
theorem DO {b:mL} (h:Cs.wf na b) (hl:v5 M b):vV b:=by
 obtain⟨_,l2,l3,l4,l5⟩:=hl;have hM:M<9223372036854775807:=by decide
 refine⟨by omega,by omega,by omega,by omega,λr hr=>?_⟩;simp only[na,Cs.wf,CT.wf]at h;obtain⟨_,_,_,_,h4,_⟩:=h;have:=(h4.2 r hr).2.2
 exact this
def v7 (l:List oy) (id:Int):Int:=match l.findIdx? (λr=>r.1==id)with|some k=>(k:Int)|none=>-1
theorem BQ {v:nY} (hn:v.1.length<9223372036854775807) (id:Int):ae v id=some (v7 v.1 id):=by
 unfold ae v7;obtain⟨b,h1,rfl⟩:=oh (β:=Unit⊕Int) (step:=λz=>aM v id z) (λk i=>i=(k:Int)/\∀j (hj:j<k),∀(hl:j<v.1.length),¬((v.1[j].1==id)=true)) v.1.length (λb=>b=match v.1.findIdx? (λr=>r.1==id)with|some k=>.inr (k:Int)|none=>.inl ())
  (λk i hk ⟨h,hy⟩=>by
   subst h;unfold aM;rw[nU (by omega),cT,n8 hk,mK];cases hb:(v.1[k].1==id)with
   | true =>
    refine .inr ⟨_,rfl,?_⟩;rw[List.findIdx?_eq_some_iff_getElem.2 ⟨hk,hb,λj hj=>hy j hj (by omega)⟩]
   | false =>
    refine .inl ⟨_,rfl,n4 (by omega),λj hj hl=>?_⟩;by_cases hjk:j=k
    · subst hjk;rw[hb];simp
    · exact hy j (by omega) hl)
  (λi ⟨h,hy⟩=>by
   subst h;refine⟨.inl (),by unfold aM;rw[nj (by omega),cF],?_⟩;rw[List.findIdx?_eq_none_iff.2 λx hx=>by
    obtain⟨j,hj,rfl⟩:=getElem_of_mem hx;have:=hy j hj hj
    simpa using this]) (x:=0) ⟨rfl,λj hj=>by omega⟩
 rw[h1,mK];cases v.1.findIdx? (λr=>r.1==id)<;>rfl
theorem DP {l:List oy} {id:Int} (h:0<=v7 l id):∃k,∃hk:k<l.length,v7 l id=(k:Int)/\l[k].1=id:=by
 unfold v7 at h ⊢;cases hf:l.findIdx? (λr=>r.1==id)with
 | none=>rw[hf]at h;simp at h
 | some k =>
  obtain⟨hk,h1,_⟩:=List.findIdx?_eq_some_iff_getElem.1 hf;exact⟨k,hk,rfl,by simpa using h1⟩
def wE (l:List mT) (tag mac:Int):Int:=match l.findIdx? (λe=>e.1==tag&&e.2.1==mac)with|some k=>(k:Int)|none=>-1
theorem vX {l:List mT} (hn:l.length<9223372036854775807) (tag mac:Int):bq l tag mac=some (wE l tag mac):=by
 unfold bq wE;obtain⟨b,h1,rfl⟩:=oh (β:=Unit⊕Int) (step:=λz=>aN l tag mac z) (λk i=>i=(k:Int)/\∀j (hj:j<k),∀(hl:j<l.length),¬((l[j].1==tag&&l[j].2.1==mac)=true)) l.length (λb=>b=match l.findIdx? (λe=>e.1==tag&&e.2.1==mac)with|some k=>.inr (k:Int)|none=>.inl ())
  (λk i hk ⟨h,hy⟩=>by
   subst h;have hs:aN l tag mac (k:Int)=cond (l[k].1==tag&&l[k].2.1==mac) (some (.inr (.inr (k:Int)))) (some (.inl ((k+1:Nat):Int))):=by
    unfold aN;simp only[nU (show (k:Int)<(l.length:Int) by omega),cT,n8 hk,mK,n4 (show k<9223372036854775807 by omega)];cases l[k].1==tag<;>rfl
   show (∃y,aN l tag mac (k:Int)=some (.inl y)/\_)\/∃b,aN l tag mac (k:Int)=some (.inr b)/\_;rw[hs];cases hb:(l[k].1==tag&&l[k].2.1==mac)with
   | true =>
    refine .inr ⟨_,rfl,?_⟩;rw[List.findIdx?_eq_some_iff_getElem.2 ⟨hk,hb,λj hj=>hy j hj (by omega)⟩]
   | false =>
    refine .inl ⟨_,rfl,rfl,λj hj hl=>?_⟩;by_cases hjk:j=k
    · subst hjk;rw[hb];simp
    · exact hy j (by omega) hl)
  (λi ⟨h,hy⟩=>by
   subst h;refine⟨.inl (),by unfold aN;rw[nj (by omega),cF],?_⟩;rw[List.findIdx?_eq_none_iff.2 λx hx=>by
    obtain⟨j,hj,rfl⟩:=getElem_of_mem hx;have:=hy j hj hj
    simpa using this]) (x:=0) ⟨rfl,λj hj=>by omega⟩
 rw[h1,mK];cases l.findIdx? (λe=>e.1==tag&&e.2.1==mac)<;>rfl
theorem CR {l:List mT} (hn:l.length<9223372036854775807) (tag mac:Int):bH l tag mac=some (wE l tag mac):=by
 unfold bH wE;obtain⟨b,h1,rfl⟩:=oh (β:=Unit⊕Int) (step:=λz=>aF l tag mac z) (λk i=>i=(k:Int)/\∀j (hj:j<k),∀(hl:j<l.length),¬((l[j].1==tag&&l[j].2.1==mac)=true)) l.length (λb=>b=match l.findIdx? (λe=>e.1==tag&&e.2.1==mac)with|some k=>.inr (k:Int)|none=>.inl ())
  (λk i hk ⟨h,hy⟩=>by
   subst h;have hs:aF l tag mac (k:Int)=cond (l[k].1==tag&&l[k].2.1==mac) (some (.inr (.inr (k:Int)))) (some (.inl ((k+1:Nat):Int))):=by
    unfold aF;simp only[nU (show (k:Int)<(l.length:Int) by omega),cT,n8 hk,mK,n4 (show k<9223372036854775807 by omega)];cases l[k].1==tag<;>rfl
   show (∃y,aF l tag mac (k:Int)=some (.inl y)/\_)\/∃b,aF l tag mac (k:Int)=some (.inr b)/\_;rw[hs];cases hb:(l[k].1==tag&&l[k].2.1==mac)with
   | true =>
    refine .inr ⟨_,rfl,?_⟩;rw[List.findIdx?_eq_some_iff_getElem.2 ⟨hk,hb,λj hj=>hy j hj (by omega)⟩]
   | false =>
    refine .inl ⟨_,rfl,rfl,λj hj hl=>?_⟩;by_cases hjk:j=k
    · subst hjk;rw[hb];simp
    · exact hy j (by omega) hl)
  (λi ⟨h,hy⟩=>by
   subst h;refine⟨.inl (),by unfold aF;rw[nj (by omega),cF],?_⟩;rw[List.findIdx?_eq_none_iff.2 λx hx=>by
    obtain⟨j,hj,rfl⟩:=getElem_of_mem hx;have:=hy j hj hj
    simpa using this]) (x:=0) ⟨rfl,λj hj=>by omega⟩
 rw[h1,mK];cases l.findIdx? (λe=>e.1==tag&&e.2.1==mac)<;>rfl

structure v8 (b:mL):Prop where
 id:mU b.1 1 99=true
 name:b.2.1.length<=10
 n1:1<=b.2.2.1.length
 n6:b.2.2.1.length<=6
 p:∀x∈b.2.2.1,AB x=true
 f:rZ b.2.2.2.1=true
 c:qi b=true
 q:b.2.2.2.2.2.1.length=b.2.2.1.length
 v:b.2.2.2.2.1.length<=6
 s:b.2.2.2.2.1.Pairwise λr s=>r.1<s.1
 i:∀r∈b.2.2.2.2.1,mU r.1 1 99=true
 h:∀r∈b.2.2.2.2.1,-9223372036854775808<=r.2.2/\r.2.2<=9223372036854775807
theorem v8.f12 {b:mL} (h:v8 b):b.2.2.2.1.length<=12:=by
 have hf:=h.f;unfold rZ at hf;simp only[aT,decide_eq_true_eq]at hf;omega
theorem v8.le {b:mL} (h:v8 b):v5 M b:=by
 have h1:=h.name;have h2:=h.n6;have h3:=h.f12;have h4:=h.v;have h5:=h.q
 have hM:M=1048576:=rfl;exact⟨by omega,by omega,by omega,by omega,by omega⟩
theorem rm.sok {b:mL} (h:rm b):v8 b:=by
 obtain⟨v1,v2,v3,v4⟩:=h.vt.len;refine⟨h.id,h.name,h.n1,h.n6,h.p,h.f,h.c,v3,v4,EM h,λr hr=>?_,h.w.r⟩;obtain⟨k,hk,rfl⟩:=getElem_of_mem hr;have hv:=h.v
 unfold rH at hv;simp only[aT,Bool.not_eq_true']at hv;have hx:=any_eq_false.1 hv.2.1 k (mem_range.2 hk)
 unfold uu at hx;simp only[List.getElem?_eq_getElem hk]at hx;cases hq:mU b.2.2.2.2.1[k].1 1 99 with
 | true=>rfl
 | false=>rw[hq]at hx;simp at hx
theorem v8.rows {b:mL} (h:v8 b) {R:List oy} (h1:R.length<=6) (h2:R.Pairwise λr s=>r.1<s.1) (h3:∀x∈R,mU x.1 1 99=true) (h4:∀x∈R,-9223372036854775808<=x.2.2/\x.2.2<=9223372036854775807) :
 v8 (b.1,b.2.1,b.2.2.1,b.2.2.2.1,R,b.2.2.2.2.2.1,b.2.2.2.2.2.2.1,b.2.2.2.2.2.2.2.1,b.2.2.2.2.2.2.2.2.1,b.2.2.2.2.2.2.2.2.2.1,b.2.2.2.2.2.2.2.2.2.2) :=
 ⟨h.id,h.name,h.n1,h.n6,h.p,h.f,h.c,h.q,h1,h2,h3,h4⟩
theorem HW {b:mL} (h:v8 b):mU (b.2.2.1.length:Int) 1 6=true:=by
 have h1:=h.n1;have h2:=h.n6
 unfold mU;rw[dT (by omega),dT (by omega)];rfl
theorem DQ {l:List mT} (h:rZ l=true):FB l:=by
 unfold rZ at h;simp only[aT,Bool.not_eq_true',decide_eq_true_eq]at h;refine⟨λx hx=>?_,BO (R:=lt) (λ_ _ _=>lt_trans) λk hk=>?_,by omega⟩
 · obtain⟨k,hk,rfl⟩:=getElem_of_mem hx;have hx:=any_eq_false.1 h.1 k (mem_range.2 hk)
   unfold rU at hx;simp only[List.getElem?_eq_getElem hk,Bool.or_eq_true,not_or,Bool.not_eq_true',Bool.not_eq_false]at hx;exact hx.1
 · have hx:=any_eq_false.1 h.1 (k+1) (mem_range.2 hk);unfold rU at hx;simp only[List.getElem?_eq_getElem hk,Nat.add_sub_cancel,List.getElem?_eq_getElem (show k<l.length by omega),Bool.or_eq_true,aT,decide_eq_true_eq,not_or,not_and,Bool.not_eq_true',Bool.not_eq_false]at hx;have hp:=hx.2 (by omega)
   unfold ow at hp;simp only[Bool.or_eq_true,aT,decide_eq_true_eq,beq_iff_eq]at hp;unfold lt;omega
theorem FB.sub {l m:List mT} (h:FB l) (hs:m.Sublist l):FB m :=
 ⟨λx hx=>h.e x (hs.subset hx),h.o.sublist hs,Nat.le_trans hs.length_le h.n⟩
theorem EP:∀k:Nat,k<6->mU (k:Int) 0 62=true/\mU (k:Int) 0 7=true:=by
 intro k hk;unfold mU;constructor<;>(rw[dT (by omega),dT (by omega)];rfl)
theorem J3 (c:Int) {k:Nat} (hk:k<6):∃t,shr .i64 c (k:Int)=some t:=by
 unfold shr;rw[if_neg (by omega)];exact⟨_,rfl⟩
theorem xx (c:Int) {k:Nat} (hk:k<6):∃t,a9 c (k:Int)=some t/\af c (k:Int)=some t:=by
 obtain⟨t,h⟩:=J3 c hk;unfold a9 af;rw[rO,sI,mK,mK,(EP k hk).1,(EP k hk).2,cT,cT,wD (by omega),h];exact⟨_,rfl,rfl⟩
theorem G9 {n:Int} (h:mU n 0 1000000=true):∃r,au n=some r/\aD n=some r/\mU r 0 1000000=true:=by
 unfold mU at h;simp only[aT,decide_eq_true_eq]at h;unfold au aD mU min2;rw[oB (by omega) (by omega)];by_cases hn:n>=1000000
 · rw[dT hn,cT];refine⟨n,?_,rfl,?_⟩
   · simp only;split<;>first|rfl | (congr 1;omega)
   · simp only[aT,decide_eq_true_eq];omega
 · rw[dF hn,cF];refine⟨n+1,?_,rfl,?_⟩
   · simp only;split<;>first|rfl | (congr 1;omega)
   · simp only[aT,decide_eq_true_eq];omega
theorem v8.ok {b:mL} (h:v8 b) (hv:rH (b.2.2.2.2.1,b.2.2.2.2.2.1) (b.2.2.1.length:Int)=true):oP b=true:=by
 unfold oP;have h1:(List.range b.2.2.1.length).any (wV b.2.2.1)=false:=by
  rw[any_eq_false];intro k hk;have hk:=mem_range.1 hk
  unfold wV;simp[List.getElem?_eq_getElem hk,h.p _ (getElem_mem hk)]
 have h2:=h.name;rw[h1,h.id,h.f,hv,h.c,HW h,dF (show ¬(b.2.1.length:Int)>10 by omega)];rfl
theorem wF {α β:Type} {step:α->Option (α⊕β)} {x:α} {b:β} (h:step x=some (.inr b)):loop step x=some b:=qI (k:=1) (by rw[nW,h];rfl)
theorem rm.le {b:mL} (h:rm b):v5 M b:=by
 obtain⟨v1,v2,v3,v4⟩:=h.vt.len;have h1:=h.name;have h2:=h.n6;have h3:=h.f12
 have v3':b.2.2.2.2.2.1.length=b.2.2.1.length:=v3;have v4':b.2.2.2.2.1.length<=6:=v4
 have hM:M=1048576:=rfl;exact⟨by omega,by omega,by omega,by omega,by omega⟩
def J4 (m:Int):List Int:=if mU m (-128) 127 then [m%256]else if mU m (-32768) 32767 then [m/256%256,m%256]else if mU m (-8388608) 8388607 then [m/65536%256,m/256%256,m%256]else [m/16777216%256,m/65536%256,m/256%256,m%256]
theorem CS {α β:Type} {step:α->Option (α⊕β)} {x y:α} {b:β} (h:step x=some (.inl y)) (k:loop step y=some b):loop step x=some b:=by
 obtain⟨n,hn⟩:=xi k;exact qI (k:=n+1) (by rw[nW,h];exact hn)
theorem wG {n a b:Int} (h:mU n a b=true):a<=n/\n<=b:=by
 unfold mU at h;simp only[aT,decide_eq_true_eq]at h;omega
def Jl (b:List Int):Prop:=∀x∈b,0<=x/\x<=255
def A4 (t:Int) (body:List Int):List Int:=t::((if body.length>=128 then [129,(body.length:Int)]else [(body.length:Int)])++body)
structure xz (b:List Int) (at':Int) (t:Int) (body:List Int) (next:Int):Prop where
 ex:∃pre rest,b=pre++(A4 t body++rest)/\at'=(pre.length:Int)/\next=((pre.length+(A4 t body).length:Nat):Int)
 n:body.length<=250
 t:mU t 0 255=true
 b:Jl body
def Ga (x:Int):Int:=if x>127 then x-256 else x
theorem i8 {x:Int} (hx:0<=x/\x<=255):mH (IntKind.i8.wrap x)=Ga x:=by
 have:IntKind.i8.wrap x=Ga x:=by
  show (let m:=x%256;if (true&&decide (m>=128))=true then m-256 else m)=_;unfold Ga;simp only[Bool.true_and,decide_eq_true_eq];split<;>split<;>omega
 rw[this];unfold Ga;split<;>exact oB (by omega) (by omega)
def grp (n:Int):List Int:=if n<=127 then [n]else if n<=16383 then [n/128+128,n%128]else if n<=2097151 then [n/16384+128,n/128%128+128,n%128]else [n/2097152+128,n/16384%128+128,n/128%128+128,n%128]
theorem xz.next {b:List Int} {i t:Int} {body:List Int} {next:Int} (h:xz b i t body next):0<=next/\next<=(b.length:Int):=by
 obtain⟨pre,rest,e1,e2,e3⟩:=h.ex;have:=congrArg List.length e1
 rw[length_append,length_append]at this;omega
theorem xz.cons {b P s:List Int} {i t:Int} {x:List Int} {next:Int} (h:xz b i t x next) (e:b=P++s) (hi:i=(P.length:Int)):∃s',b=(P++A4 t x)++s'/\next=((P++A4 t x).length:Int):=by
 obtain⟨pre,rest,e1,e2,e3⟩:=h.ex;have hl:pre.length=P.length:=by omega
 obtain⟨q1,q2⟩:=List.append_inj (e1.symm.trans e) hl;subst q1;exact⟨rest,by rw[e1,List.append_assoc],by rw[e3,length_append]⟩
def wH (n:Int):Int:=min2 (mH (n+1)) 1000000
theorem v9 (n:Int):au n=some (wH n):=rfl
theorem xS {n:Int} (h:mU n 0 1000000=true):mU (wH n) 0 1000000=true:=by
 obtain⟨r,h1,_,h3⟩:=G9 h;rw[v9]at h1;cases h1;exact h3
theorem xA {b:mL} (h:oP b=true):qi b=true/\∀c,qi (b.1,b.2.1,b.2.2.1,b.2.2.2.1,b.2.2.2.2.1,b.2.2.2.2.2.1,c)=true->oP (b.1,b.2.1,b.2.2.1,b.2.2.2.1,b.2.2.2.2.1,b.2.2.2.2.2.1,c)=true:=by
 unfold oP at h ⊢;simp only[aT]at h ⊢;obtain⟨h1,h2,h3,h4,h5,h6,h7⟩:=h;exact⟨h7,λc hc=>⟨h1,h2,h3,h4,h5,h6,hc⟩⟩
theorem sF {b:mL} (h:qi b=true):mU b.2.2.2.2.2.2.1 0 1000000=true/\mU b.2.2.2.2.2.2.2.1 0 1000000=true/\mU b.2.2.2.2.2.2.2.2.1 0 1000000=true/\mU b.2.2.2.2.2.2.2.2.2.1 0 1000000=true/\mU b.2.2.2.2.2.2.2.2.2.2 0 1000000=true:=by
 unfold qi at h;simpa only[aT]using h
theorem zC {b:mL} (h:v8 b) (hl:v5 M b):vV b:=by
 obtain⟨_,l2,l3,l4,l5⟩:=hl;have hM:M<9223372036854775807:=by decide
 exact⟨by omega,by omega,by omega,by omega,h.h⟩
def BR (w:List UInt8):List Int:=A4 2 (J4 1)++A4 4 (vp w)
theorem qJ {α β:Type} {o:Option α} {a:α} {k:α->Option β} {r:Option β} (h:o=some a) (hk:k a=r):o.bind k=r:=by rw[h];exact hk
theorem A5 {b:mL} (h:rm b) (p:Int):aA b p=some (mU p 0 ((b.2.2.1.length:Int)-1)):=by
 have hn:=h.n6;unfold aA;rw[xR h.w,mK,h.ok,cT,oB (by omega) (by omega),rO];rfl
theorem xB {x:mT} {t m:Int} (h:ow x t m=true):t<x.1\/(t=x.1/\m<x.2.1):=by
 unfold ow at h;simp only[Bool.or_eq_true,aT,decide_eq_true_eq,beq_iff_eq]at h;rcases h with h|⟨h1,h2⟩
 · exact .inl h
 · exact .inr ⟨h1.symm,h2⟩
theorem zD {x:mT} {t m:Int} (h:ow x t m=false) (hs:¬(x.1=t/\x.2.1=m)):x.1<t\/(x.1=t/\x.2.1<m):=by
 have h':¬(x.1>t\/(x.1=t/\x.2.1>m)):=by
  intro hc;have:ow x t m=true:=by
   unfold ow;simp only[Bool.or_eq_true,aT,decide_eq_true_eq,beq_iff_eq];exact hc
  rw[this]at h;cases h
 by_cases h1:x.1<t
 · exact .inl h1
 · have e:x.1=t:=by
    have:¬x.1>t:=λhc=>h' (.inl hc);omega
   refine .inr ⟨e,?_⟩;have:¬x.2.1>m:=λhc=>h' (.inr ⟨e,hc⟩)
   have:x.2.1≠m:=λhc=>hs ⟨e,hc⟩;omega
theorem H4 {a b c:mT} (h:lt a b) (k:lt b c):lt a c:=by
 unfold lt at *;omega
theorem r5 (l:List mT) (t m:Int):(wE l t m = -1/\∀x∈l,¬(x.1=t/\x.2.1=m))\/∃k,∃hk:k<l.length,wE l t m=(k:Int)/\l[k].1=t/\l[k].2.1=m:=by
 unfold wE;cases h:l.findIdx? (λe=>e.1==t&&e.2.1==m)with
 | none =>
  refine .inl ⟨rfl,λx hx hc=>?_⟩;have:=List.findIdx?_eq_none_iff.1 h x hx
  rw[hc.1,hc.2]at this;simp at this
 | some k =>
  obtain⟨hk,h1,_⟩:=List.findIdx?_eq_some_iff_getElem.1 h;simp only[aT,beq_iff_eq]at h1;exact .inr ⟨k,hk,rfl,h1.1,h1.2⟩
theorem J5 {l:List mT} (h:FB l) {e:mT} (he:sY e=true):∃y,aO l e=some y/\FB y.1:=by
 have hn:=h.n;have hM:M=1048576:=rfl
 unfold aO;rw[sS (by omega),mK,vX (by omega),mK];rcases r5 l e.1 e.2.1 with ⟨h1,h2⟩|⟨k,hk,h1,h2,h3⟩
 · rw[h1,dF (by decide),cF];by_cases h12:(l.length:Int)>=12
   · rw[dT h12,cT];exact⟨_,rfl,h⟩
   · rw[dF h12,cF];obtain⟨d,d1,k,d2,d3,d4,d5⟩:=oh (step:=λz:Int=>aj l e z) (λk z=>z=(k:Int)/\∀x∈l.take k,ow x e.1 e.2.1=false) l.length (λd=>∃k:Nat,d=(k:Int)/\k<=l.length/\(∀x∈l.take k,ow x e.1 e.2.1=false)/\∀hk:k<l.length,ow l[k] e.1 e.2.1=true)
      (λk z hk ⟨e1,e2⟩=>by
       subst e1;have hst:∀q,ow l[k] e.1 e.2.1=q->aj l e (k:Int)=cond (!q) (some (.inl ((k+1:Nat):Int))) (some (.inr (k:Int))):=λq hq=>by
        unfold aj;rw[nU (by omega),cT,n8 hk,mK,A3,mK,mK,hq,n4 (by omega)]
       cases hq:ow l[k] e.1 e.2.1 with
       | true=>exact .inr ⟨_,hst true hq,k,rfl,by omega,e2,λ_=>hq⟩
       | false =>
        refine .inl ⟨_,hst false hq,rfl,λx hx=>?_⟩;rw[take_add_one,List.getElem?_eq_getElem hk]at hx;rcases mem_append.1 hx with hx|hx
        · exact e2 x hx
        · simp at hx;rw[hx];exact hq)
      (λz ⟨e1,e2⟩=>by
       subst e1;refine⟨_,?_,l.length,rfl,Nat.le_refl _,e2,λhk=>absurd hk (by omega)⟩;show aj l e (l.length:Int)=_
       unfold aj;rw[nj (by omega),cF,mK,cF]) (x:=0) ⟨rfl,by simp⟩
     subst d2;have c1:cut l 0 (k:Int)=some (l.take k):=by
      have:=zB (l:=l) (a:=0) (b:=k) (by omega) d3;simpa using this
     have c2:cut l (k:Int) (l.length:Int)=some (l.drop k):=by
      have:=zB (l:=l) (a:=k) (b:=l.length) d3 (Nat.le_refl _);rw[take_length]at this;exact this
     have hl1:(l.take k).length<=12:=by rw[length_take];omega
     have hl2:(l.drop k).length<=12:=by rw[length_drop];omega
     refine⟨_,qJ d1 (by rw[c1,mK,sS (by omega),mK,qu (by show (l.take k).length+1<=_;omega),mK,c2,mK,qu (by rw[length_append];show (l.take k).length+1+(l.drop k).length<=_;omega),mK]),?_⟩;refine⟨λx hx=>?_,?_,?_⟩
     · rcases mem_append.1 hx with hx|hx
       · rcases mem_append.1 hx with hx|hx
         · exact h.e x (List.mem_of_mem_take hx)
         · rw[mem_singleton.1 hx];exact he
       · exact h.e x (List.mem_of_mem_drop hx)
     · have ho:=h.o;rw[←List.take_append_drop k l]at ho;obtain⟨o1,o2,o3⟩:=List.pairwise_append.1 ho;have a1:∀x∈l.take k,lt x e:=λx hx=>zD (d4 x hx) (h2 x (List.mem_of_mem_take hx))
       have a2:∀y∈l.drop k,lt e y:=λy hy=>by
        obtain⟨j,hj,rfl⟩:=getElem_of_mem hy;rw[length_drop]at hj;have hk:k<l.length:=by omega
        have hb:lt e l[k]:=xB (d5 hk);rw[List.getElem_drop];rcases Nat.eq_zero_or_pos j with rfl|hj0
        · simpa using hb
        · exact H4 hb (pairwise_iff_getElem.1 h.o k (k+j) hk (by omega) (by omega))
       refine List.pairwise_append.2 ⟨List.pairwise_append.2 ⟨o1,List.pairwise_singleton _ _,λx hx y hy=>by rw[mem_singleton.1 hy];exact a1 x hx⟩,o2,λx hx y hy=>?_⟩;rcases mem_append.1 hx with hx|hx
       · exact o3 x hx y hy
       · rw[mem_singleton.1 hx];exact a2 y hy
     · simp only[length_append,length_take,length_drop,List.length_singleton];omega
 · rw[h1,dT (by omega),cT,pR hk,mK,List.getElem?_eq_getElem hk,mK];refine⟨_,rfl,λx hx=>?_,?_,by show (l.set k e).length<=12;rw[length_set];exact hn⟩
   · rcases List.mem_or_eq_of_mem_set hx with hx|rfl
     · exact h.e x hx
     · exact he
   · have ho:=pairwise_iff_getElem.1 h.o;refine pairwise_iff_getElem.2 λi j hi hj hij=>?_;rw[length_set]at hi hj;have:=ho i j hi hj hij
     simp only[List.getElem_set];unfold lt at this ⊢;split<;>split<;>rename_i q1 q2<;>(try subst q1)<;>(try subst q2)<;>omega
theorem BS {l:List mT} (h:FB l) (tag mac port:Int):∃y,br l tag mac port=some y/\FB y:=by
 have hn:=h.n;have hM:M=1048576:=rfl
 unfold br;rw[vX (by omega),mK,FA (by omega),mK,h.ok,Bool.not_true,cF,AS,mK,mK];have hc:∃y,((aw l).bind λt41=>some t41)=some y/\FB y:=⟨l,by rw[sS (by omega)];rfl,h⟩
 cases he:sY (tag,mac,port,0,false)with
 | false=>exact hc
 | true =>
  have hp:∃y,((aO l (tag,mac,port,0,false)).bind λt45=>some t45.1)=some y/\FB y:=by
   obtain⟨y,y1,y2⟩:=J5 h he;exact⟨y.1,by rw[y1];rfl,y2⟩
  rw[Bool.not_true,cF];rcases r5 l tag mac with ⟨h1,_⟩|⟨k,hk,h1,_⟩
  · rw[h1,dF (by decide),cF,mK,mK,cF];exact hp
  · rw[h1,dT (by omega),cT,n8 hk,mK,mK,mK];cases l[k].2.2.2.2 with
    | true=>exact hc
    | false=>exact hp

def tn (f:nM):Bool:=mU f.1 0 9999&&(mU f.2.1 1 9999&&(mU f.2.2.1 0 99&&decide ((f.2.2.2.length:Int)<=20)))
theorem BT (f:nM):bW f=some (tn f):=by
 unfold bW tn;simp only[rO,mK];cases mU f.1 0 9999<;>cases mU f.2.1 1 9999<;>cases mU f.2.2.1 0 99<;>rfl
theorem yF (l:List oy) (id:Int):(v7 l id<0)\/∃k,∃hk:k<l.length,v7 l id=(k:Int):=by
 by_cases h:v7 l id<0
 · exact .inl h
 · obtain⟨k,hk,e,_⟩:=DP (l:=l) (id:=id) (by omega);exact .inr ⟨k,hk,e⟩
theorem EQ {v:nY} (h1:v.1.length<=6) (h2:v.2.length<=6) {k:Nat} (hk:k<6) (id:Int):∃t,((ae v id).bind λt27=>(cond (decide (t27<0)) (some true) ((at? v.1 t27).bind λx34=>(a9 x34.2.1 (k:Int)).bind λt38=>some (!t38))).bind λt40=>cond t40 (some ((0:Int),false)) (some (id,true)))=some t:=by
 rw[BQ (by omega),mK];rcases yF v.1 id with h|⟨j,hj,e⟩
 · rw[dT h,cT,mK,cT];exact⟨_,rfl⟩
 · obtain⟨t,ht,_⟩:=xx v.1[j].2.1 hk;rw[e,dF (by omega),cF,n8 hj,mK,ht,mK,mK];cases t<;>exact⟨_,rfl⟩
theorem BU {v:nY} (h1:v.1.length<=6) (h2:v.2.length<=6) {k:Nat} (hk:k<v.2.length) (tag:Int):∃t,bp v (k:Int) tag=some t:=by
 unfold bp;rw[oB (by omega) (by omega),rO,mK,Jk (by omega) (by omega),Bool.not_true,cF];cases tag==0 with
 | true=>rw[cT,n8 hk,mK];exact EQ h1 h2 (by omega) _
 | false=>rw[cF];exact EQ h1 h2 (by omega) _
theorem A6 {v:nY} (h1:v.1.length<=6) (id:Int):∃t,ak v id=some t:=by
 unfold ak;rw[BQ (by omega),mK];rcases yF v.1 id with h|⟨j,hj,e⟩
 · rw[dT h,cT];exact⟨_,rfl⟩
 · rw[e,dF (by omega),cF,n8 hj,mK];exact⟨_,rfl⟩
theorem BV {v:nY} (h1:v.1.length<=6) (id:Int) {k:Nat} (hk:k<6):∃t,ao v id (k:Int)=some t:=by
 unfold ao;rw[BQ (by omega),mK];rcases yF v.1 id with h|⟨j,hj,e⟩
 · rw[dT h,cT,mK,cT];exact⟨_,rfl⟩
 · obtain⟨t,ht,_⟩:=xx v.1[j].2.2 hk;rw[e,dF (by omega),cF,n8 hj,mK,ht,mK,mK];cases t<;>exact⟨_,rfl⟩
theorem Gb {l:List mT} (h:l.length<=12) (tag mac:Int):∃t,bt l tag mac=some t:=by
 unfold bt;rw[vX (by omega),mK];rcases r5 l tag mac with ⟨h1,_⟩|⟨k,hk,h1,_⟩
 · rw[h1];exact⟨_,rfl⟩
 · rw[h1,dF (by omega),cF,n8 hk,mK];exact⟨_,rfl⟩
theorem FF {f:nM} (h:f.2.2.2.length<=20) (t:Int):aB f t=some (f.1,f.2.1,t,f.2.2.2):=by
 unfold aB;rw[EN (by show _<=1048576;omega)];rfl
theorem HX {b:mL} (h:rm b) (i:Int) {f:nM} (hf:f.2.2.2.length<=20) (c:Int) (cl:Int×Bool) (q:Int->Option Bool) (hq:∀k,∃t,q k=some t) {k:Nat} (hk:k<b.2.2.1.length) {out:List nC} (ho:out.length<=10) :
 ∃o:List nC,o.length<=out.length+1/\(((cond ((k:Int) != i) ((ak (b.2.2.2.2.1,b.2.2.2.2.2.1) cl.1).bind λt89=>(a9 (pp .i64 c t89) (k:Int)).bind λt92=>some t92) (some false)).bind λt93 =>
  (cond t93 ((q (k:Int)).bind λt101=>some t101) (some false)).bind λt102 =>
  cond t102 ((ao (b.2.2.2.2.1,b.2.2.2.2.2.1) cl.1 (k:Int)).bind λt110=>(aB f t110).bind λt111=>(app out [((k:Int),t111.1,t111.2.1,t111.2.2.1,t111.2.2.2)]).bind λzs114=>some (.inl (mH ((k:Int)+1),zs114)))
   (some (.inl (mH ((k:Int)+1),out)))):Option ((Int×List nC)⊕List nC))=some (.inl (((k+1:Nat):Int),o)):=by
 have s:=h.sok;have hv:=s.v
 have hn:=h.n6;obtain⟨e,he⟩:=A6 (v:=(b.2.2.2.2.1,b.2.2.2.2.2.1)) hv cl.1;obtain⟨t,ht,_⟩:=xx (pp .i64 c e) (k:=k) (by omega);obtain⟨u,hu⟩:=hq (k:Int);obtain⟨g,hg⟩:=BV (v:=(b.2.2.2.2.1,b.2.2.2.2.2.1)) hv cl.1 (k:=k) (by omega);have no:∃o:List nC,o.length<=out.length+1/\(some (.inl (mH ((k:Int)+1),out)):Option ((Int×List nC)⊕List nC))=some (.inl (((k+1:Nat):Int),o)):=⟨out,by omega,by rw[n4 (by omega)]⟩
 rw[n4 (by omega)]at no ⊢;rw[he,mK,ht,mK,hu,mK,hg,mK,FF hf,mK,qu (by show out.length+1<=_;omega),mK];cases (k:Int) != i<;>cases t<;>cases u<;>first|exact no|exact⟨_,by rw[length_append];exact Nat.le_refl _,rfl⟩
theorem CU {b:mL} (hn:b.2.2.1.length<=6) (step:Int×List nC->Option ((Int×List nC)⊕List nC))
 (hs:∀(k:Nat) (out:List nC),k<b.2.2.1.length->out.length<=10->∃o:List nC,o.length<=out.length+1/\step ((k:Int),out)=some (.inl (((k+1:Nat):Int),o)))
 (he:∀out:List nC,step ((b.2.2.1.length:Int),out)=some (.inr out)):∃o:List nC,loop step (0,[])=some o/\o.length<=6:=by
 obtain⟨v,h1,h2⟩:=oh (step:=step) (λk z=>z.1=(k:Int)/\z.2.length<=k) b.2.2.1.length (λv=>v.length<=6)
  (λk z hk ⟨e1,e2⟩=>by
   obtain⟨i,out⟩:=z;simp only at e1 e2;subst e1;obtain⟨o,o1,o2⟩:=hs k out hk (by omega);exact .inl ⟨_,o2,rfl,by show o.length<=k+1;omega⟩)
  (λz ⟨e1,e2⟩=>by
   obtain⟨i,out⟩:=z;simp only at e1 e2;subst e1;exact⟨out,he out,by omega⟩) (x:=(0,[])) ⟨rfl,Nat.le_refl _⟩
 exact⟨v,h1,h2⟩
theorem zE {b:mL} (s:v8 b) {F:List mT} (hF:FB F) {d v:Int} (hd:mU d 0 1000000=true) (hv:mU v 0 1000000=true):v8 (b.1,b.2.1,b.2.2.1,F,b.2.2.2.2.1,b.2.2.2.2.2.1,b.2.2.2.2.2.2.1,b.2.2.2.2.2.2.2.1,b.2.2.2.2.2.2.2.2.1,d,v):=by
 refine⟨s.id,s.name,s.n1,s.n6,s.p,hF.ok,?_,s.q,s.v,s.s,s.i,s.h⟩;obtain⟨q1,q2,q3,q4,q5⟩:=sF s.c;unfold qi;simp only[aT];exact⟨q1,q2,q3,hd,hv⟩
theorem HY {n:Int} (h:mU n 0 1000000=true):aD n=some (wH n):=by
 obtain⟨r,r1,r2,_⟩:=G9 h;rw[r2,←r1,v9]
theorem ER {α β:Type} {f g:α->Option (α⊕β)} (nk:Nat->α->Prop) (m:Nat) (h:∀k x,k<m->nk k x->∃y,f x=some (.inl y)/\g x=some (.inl y)/\nk (k+1) y) (he:∀x,nk m x->∃b,f x=some (.inr b)/\g x=some (.inr b)) {x:α} (h0:nk 0 x):∃b,loop f x=some b/\loop g x=some b:=by
 have key:∀n k x,k+n=m->nk k x->∃b,pr f (n+1) x=some b/\pr g (n+1) x=some b:=by
  intro n
  induction n with
  | zero =>
   intro k x hk hx;obtain rfl:k=m:=by omega
   obtain⟨b,h1,h2⟩:=he x hx;exact⟨b,by rw[nW,h1];rfl,by rw[nW,h2];rfl⟩
  | succ n ih =>
   intro k x hk hx;obtain⟨y,h1,h2,h3⟩:=h k x (by omega) hx;obtain⟨b,h4,h5⟩:=ih (k+1) y (by omega) h3;exact⟨b,by rw[nW,h1];exact h4,by rw[nW,h2];exact h5⟩
 obtain⟨b,h1,h2⟩:=key m 0 x (by omega) h0;exact⟨b,qI h1,qI h2⟩
theorem IM {b:mL} (h:vV b) (hp:oP b=false) (i:Int):aA b i=some false:=by
 unfold aA;rw[xR h,mK,hp];rfl
def pU (e:mT):Bool->List mT->List mT
 | false,[]=>[e]
 | true,[]=>[]
 | false,x::t=>if qv x e=true then x::pU e false t else e::(if pS x e=true then x::pU e true t else pU e true t)
 | true,x::t=>if pS x e=true then x::pU e true t else pU e true t
theorem BW {x e:mT} (h:lt x e):qv x e=true:=by
 cases hb:qv x e with
 | true=>rfl
 | false =>
  exfalso;have:=EL hb
  unfold lt same at *;omega
theorem AD {x e:mT} (h:lt e x\/same x e):qv x e=false:=by
 cases hb:qv x e with
 | false=>rfl
 | true =>
  exfalso;have:=BN hb
  unfold lt same at *;omega
theorem yG {x e:mT} (h:¬same x e):pS x e=true:=by
 cases hb:pS x e with
 | true=>rfl
 | false=>exact absurd (Cr hb) h
theorem ES {x e:mT} (h:same x e):pS x e=false:=by
 cases hb:pS x e with
 | false=>rfl
 | true=>exact absurd h (DN hb)
theorem xC {e:mT}:∀{l:List mT},(∀x∈l,¬same x e)->pU e true l=l
 | [],_=>rfl
 | x::t,h=>by
  unfold pU;rw[if_pos (yG (h x (by simp))),xC λy hy=>h y (mem_cons_of_mem _ hy)]
theorem BX {e:mT}:∀{l:List mT} {k:Nat} (hk:k<l.length),l.Pairwise lt->same l[k] e->pU e false l=l.set k e
 | x::t,0,_,hp,hs=>by
  have hs':same x e:=hs;unfold pU;rw[if_neg (by rw[AD (.inr hs')];simp),if_neg (by rw[ES hs'];simp),xC λy hy=>by
   have:=(pairwise_cons.1 hp).1 y hy;unfold lt same at *;omega]
  rfl
 | x::t,k+1,hk,hp,hs=>by
  have hs':same (t[k]'(by simpa using hk)) e:=hs;have:=(pairwise_cons.1 hp).1 _ (getElem_mem (by simpa using hk:k<t.length))
  unfold pU;rw[if_pos (BW (by unfold lt same at *;omega)),BX (by simpa using hk) (pairwise_cons.1 hp).2 hs'];rfl
theorem CV {e:mT}:∀{l:List mT} {d:Nat},l.Pairwise lt->(∀x∈l,¬same x e)->(∀x∈l.take d,lt x e)->(∀x,l[d]?=some x->lt e x)->pU e false l=l.take d++e::l.drop d
 | [],d,_,_,_,_=>by simp[pU]
 | x::t,0,hp,hn,_,h2=>by
  unfold pU;rw[if_neg (by rw[AD (.inl (h2 x rfl))];simp),if_pos (yG (hn x (by simp))),xC λy hy=>hn y (mem_cons_of_mem _ hy)];rfl
 | x::t,d+1,hp,hn,h1,h2=>by
  unfold pU;rw[if_pos (BW (h1 x (by simp))),CV (d:=d) (pairwise_cons.1 hp).2 (λy hy=>hn y (mem_cons_of_mem _ hy)) (λy hy=>h1 y (by rw[List.take_succ_cons];exact mem_cons_of_mem _ hy)) (λy hy=>h2 y (by simpa using hy))];rfl
theorem IN {l:List mT} (hn:l.length<=1000) (e:mT):cL l e=some (pU e false l):=by
 obtain⟨d,hd,g⟩:=oh (step:=λz:Bool×Int×List mT=>aG l e z.1 z.2.1 z.2.2)
  (λk z=>z.2.1=(k:Int)/\z.2.2++pU e z.1 (l.drop k)=pU e false l/\z.2.2.length<=2*k) l.length
  (λz=>z.2++pU e z.1 []=pU e false l/\z.2.length<=2000)
  (λk z hk ⟨z1,z2,z3⟩=>by
   obtain⟨t,i,b⟩:=z;simp only at z1 z2 z3;subst z1;left;have ha:∀(xs:List mT) (y:mT),xs.length<=2001->app xs [y]=some (xs++[y]):=λxs y h=>qu (by show xs.length+1<=_;omega)
   have hs:aG l e t (k:Int) b=cond (!t&&!(qv l[k] e))
    (cond (pS l[k] e) (some (.inl (true,((k+1:Nat):Int),b++[e]++[l[k]]))) (some (.inl (true,((k+1:Nat):Int),b++[e]))))
    (cond (pS l[k] e) (some (.inl (t,((k+1:Nat):Int),b++[l[k]]))) (some (.inl (t,((k+1:Nat):Int),b)))):=by
    have hA:av l[k] e.1 e.2.1=some (qv l[k] e):=by unfold av qv;cases (l[k].1 != e.1)<;>rfl
    have hO:(cond (l[k].1 != e.1) (some true) (some (l[k].2.1 != e.2.1)))=some (pS l[k] e):=by unfold pS;cases (l[k].1 != e.1)<;>rfl
    unfold aG;simp only[nU (show (k:Int)<(l.length:Int) by omega),cT,n8 hk,mK,n4 (show k<9223372036854775807 by omega),hA,hO,ha b e (by omega),ha b l[k] (by omega),ha (b++[e]) l[k] (by rw[length_append];show b.length+1<=_;omega)];cases t<;>cases qv l[k] e<;>rfl
   show ∃y,aG l e t (k:Int) b=_/\_;rw[hs];have hd:l.drop k=l[k]::l.drop (k+1):=List.drop_eq_getElem_cons hk
   rw[hd]at z2;generalize hG:pU e false l=G at z2 ⊢;cases t with
   | true =>
    unfold pU at z2;rw[Bool.not_true,Bool.false_and,cF];cases ho:pS l[k] e with
    | true =>
     rw[if_pos ho]at z2;exact⟨_,rfl,rfl,by simpa using z2,by simp;omega⟩
    | false =>
     rw[if_neg (by rw[ho];simp)]at z2;exact⟨_,rfl,rfl,by simpa using z2,by simp;omega⟩
   | false =>
    unfold pU at z2;rw[Bool.not_false,Bool.true_and];cases hq:qv l[k] e with
    | true =>
     rw[if_pos hq]at z2;rw[Bool.not_true,cF,yG (IL (BN hq)),cT];exact⟨_,rfl,rfl,by simpa using z2,by simp;omega⟩
    | false =>
     rw[if_neg (by rw[hq];simp)]at z2;rw[Bool.not_false,cT];cases ho:pS l[k] e with
     | true =>
      rw[if_pos ho]at z2;exact⟨_,rfl,rfl,by simpa using z2,by simp;omega⟩
     | false =>
      rw[if_neg (by rw[ho];simp)]at z2;exact⟨_,rfl,rfl,by simpa using z2,by simp;omega⟩)
  (λz ⟨z1,z2,z3⟩=>by
   obtain⟨t,i,b⟩:=z;simp only at z1 z2 z3;subst z1;rw[List.drop_length]at z2;refine⟨(t,b),?_,z2,by show b.length<=2000;have:b.length<=2*l.length:=z3;omega⟩;show aG l e t _ b=_
   unfold aG;rw[nj (by omega),cF]) (x:=(false,0,[])) ⟨rfl,rfl,by simp⟩
 unfold cL;rw[hd,mK];obtain⟨t,b⟩:=d;simp only at g ⊢;cases t with
 | true=>rw[Bool.not_true,cF,←g.1];simp[pU]
 | false=>rw[Bool.not_false,cT,qu (by show b.length+1<=_;omega),mK,←g.1];rfl
theorem IO {l:List mT} (h:FB l) (e:mT):∃y,aO l e=some y/\(((∃x∈l,same x e)\/l.length<12)->y.1=pU e false l)/\(¬((∃x∈l,same x e)\/l.length<12)->y.1=l):=by
 have hn:=h.n;have hM:M=1048576:=rfl
 unfold aO;rw[sS (by omega),mK,vX (by omega),mK];rcases r5 l e.1 e.2.1 with ⟨h1,h2⟩|⟨k,hk,h1,h2,h3⟩
 · rw[h1,dF (by decide),cF];have hns:∀x∈l,¬same x e:=λx hx hs=>h2 x hx hs
   by_cases h12:(l.length:Int)>=12
   · rw[dT h12,cT];refine⟨_,rfl,λhc=>?_,λ_=>rfl⟩;rcases hc with ⟨x,hx,hs⟩|hc
     · exact absurd hs (hns x hx)
     · omega
   · rw[dF h12,cF];obtain⟨d,d1,k,d2,d3,d4,d5⟩:=oh (step:=λz:Int=>aj l e z) (λk z=>z=(k:Int)/\∀x∈l.take k,ow x e.1 e.2.1=false) l.length (λd=>∃k:Nat,d=(k:Int)/\k<=l.length/\(∀x∈l.take k,ow x e.1 e.2.1=false)/\∀hk:k<l.length,ow l[k] e.1 e.2.1=true)
      (λk z hk ⟨e1,e2⟩=>by
       subst e1;have hst:∀q,ow l[k] e.1 e.2.1=q->aj l e (k:Int)=cond (!q) (some (.inl ((k+1:Nat):Int))) (some (.inr (k:Int))):=λq hq=>by
        unfold aj;rw[nU (by omega),cT,n8 hk,mK,A3,mK,mK,hq,n4 (by omega)]
       cases hq:ow l[k] e.1 e.2.1 with
       | true=>exact .inr ⟨_,hst true hq,k,rfl,by omega,e2,λ_=>hq⟩
       | false =>
        refine .inl ⟨_,hst false hq,rfl,λx hx=>?_⟩;rw[take_add_one,List.getElem?_eq_getElem hk]at hx;rcases mem_append.1 hx with hx|hx
        · exact e2 x hx
        · simp at hx;rw[hx];exact hq)
      (λz ⟨e1,e2⟩=>by
       subst e1;refine⟨_,?_,l.length,rfl,Nat.le_refl _,e2,λhk=>absurd hk (by omega)⟩;show aj l e (l.length:Int)=_
       unfold aj;rw[nj (by omega),cF,mK,cF]) (x:=0) ⟨rfl,by simp⟩
     subst d2;have c1:cut l 0 (k:Int)=some (l.take k):=by
      have:=zB (l:=l) (a:=0) (b:=k) (by omega) d3;simpa using this
     have c2:cut l (k:Int) (l.length:Int)=some (l.drop k):=by
      have:=zB (l:=l) (a:=k) (b:=l.length) d3 (Nat.le_refl _);rw[take_length]at this;exact this
     have hl1:(l.take k).length<=12:=by rw[length_take];omega
     have hl2:(l.drop k).length<=12:=by rw[length_drop];omega
     refine⟨_,qJ d1 (by rw[c1,mK,sS (by omega),mK,qu (by show (l.take k).length+1<=_;omega),mK,c2,mK,qu (by rw[length_append];show (l.take k).length+1+(l.drop k).length<=_;omega),mK]),λ_=>?_,λhc=>absurd (.inr (by omega)) hc⟩;rw[CV h.o hns (λx hx=>zD (d4 x hx) (h2 x (List.mem_of_mem_take hx))) (λx hx=>by
      have hk:k<l.length:=(List.getElem?_eq_some_iff.1 hx).1;rw[List.getElem?_eq_getElem hk]at hx;cases hx;exact xB (d5 hk))]
     simp
 · rw[h1,dT (by omega),cT,pR hk,mK,List.getElem?_eq_getElem hk,mK];refine⟨_,rfl,λ_=>?_,λhc=>absurd (.inl ⟨l[k],getElem_mem hk,h2,h3⟩) hc⟩;rw[BX hk h.o ⟨h2,h3⟩]

theorem DR {l:List mT} (h:FB l) (tag mac port:Int):cM l tag mac port=br l tag mac port:=by
 have hn:=h.n;have hl:l.length<=M:=by show _<=1048576;omega
 obtain⟨y,y1,y2,y3⟩:=IO h (tag,mac,port,0,false);unfold cM br;rw[vX (by omega),CR (by omega),FA (by omega),HK (by omega),G3,AS,h.ok,sS hl,BP hl,IN (by omega),y1];simp only[mK,Bool.not_true,cF];cases sY (tag,mac,port,0,false)with
 | false=>rfl
 | true =>
  simp only[Bool.not_true,cF,mK];rcases r5 l tag mac with ⟨e,e1⟩|⟨k,hk,e,e1,e2⟩
  · rw[e];simp only[show decide ((-1:Int)>=0)=false from rfl,show decide ((-1:Int)<0)=true from rfl,cT,cF,mK];by_cases hlt:l.length<12
    · rw[dF (show ¬((l.length:Int)>=12) by omega),cF,y2 (.inr hlt)]
    · rw[dT (show ((l.length:Int)>=12) by omega),cT,y3 (λhc=>hc.elim (λ⟨x,hx,hs⟩=>e1 x hx ⟨hs.1,hs.2⟩) hlt)]
  · rw[e,dT (show (k:Int)>=0 by omega),dF (show ¬(k:Int)<0 by omega)];simp only[cT,cF,n8 hk,mK];cases l[k].2.2.2.2 with
    | true=>rfl
    | false =>
     simp only[cF,mK,y2 (.inl ⟨l[k],getElem_mem hk,e1,e2⟩)]
theorem Gc:aE=ae:=rfl
theorem DS (c:Int) {k:Nat} (hk:k<6):af c (k:Int)=a9 c (k:Int):=by
 obtain⟨t,t1,t2⟩:=xx c hk;rw[t1,t2]
theorem HZ (v:nY) {k:Nat} (hk:k<6) (tag:Int):cK v (k:Int) tag=bp v (k:Int) tag:=by
 unfold cK bp;simp only[rO,sI,Gc,DS _ hk]
theorem H5:eo=ak:=rfl
theorem I0 (v:nY) (id:Int) {k:Nat} (hk:k<6):cP v id (k:Int)=ao v id (k:Int):=by
 unfold cP ao;simp only[Gc,DS _ hk]
theorem I1:eh=bW:=rfl
theorem ET {b:mL} (h:vV b) (i:Int):cG b i=aA b i:=by
 unfold cG aA;rw[CP h,xR h];simp only[rO,sI]
theorem IP {f:nM} (h:f.2.2.2.length<=20) (t:Int):cO f t=some (f.1,f.2.1,t,f.2.2.2):=by
 unfold cO ep;rw[qZ (by show _<=1048576;omega)];rfl
theorem IQ {l:List mT} (h:FB l) (tag mac:Int):∃u,bt l tag mac=some u/\cN l tag mac=some u/\(u = -1\/(0<=u/\u<=7)):=by
 have hn:=h.n;unfold bt cN;rw[vX (by omega),CR (by omega)];simp only[mK];rcases r5 l tag mac with ⟨e,_⟩|⟨k,hk,e,_,_⟩
 · rw[e];exact⟨-1,rfl,rfl,.inl rfl⟩
 · rw[e];simp only[dF (show ¬(k:Int)<0 by omega),cF,n8 hk,mK];have hf:=h.e _ (getElem_mem hk)
   unfold sY at hf;simp only[aT]at hf;have:=wG hf.2.2.1
   exact⟨_,rfl,rfl,.inr this⟩
theorem I2 {c:Nat} (hc:c<64) (e:Int):∃m:Nat,m<64/\pp .i64 (c:Int) e=(m:Int):=by
 have h:(BitVec.ofInt 64 (c:Int)&&&BitVec.ofInt 64 e).toNat<=c:=by
  rw[BitVec.toNat_and];refine Nat.le_trans Nat.and_le_left ?_;rw[BitVec.toNat_ofInt];omega
 refine⟨(BitVec.ofInt 64 (c:Int)&&&BitVec.ofInt 64 e).toNat,by omega,?_⟩;show IntKind.i64.wrap _=_
 exact oB (n:=(((BitVec.ofInt 64 (c:Int)&&&BitVec.ofInt 64 e).toNat:Nat):Int)) (by omega) (by omega)
def I4:Bool:=(List.range 64).all λm=>(List.range 6).all λk=>match shl .i64 1 (IntKind.u64.wrap (k:Int))with
 | some s=>decide (0<=sJ .i64 (m:Int) s)&&(decide (sJ .i64 (m:Int) s<64)&&((List.range 6).all λj=>qb (sJ .i64 (m:Int) s).toNat (j:Int)==(((j:Int) != (k:Int))&&qb m (j:Int))))
 | none=>false
theorem Ct:I4=true:=by kernel_rfl
theorem J6 {m:Nat} (hm:m<64) {k:Nat} (hk:k<6):∃s,shl .i64 1 (IntKind.u64.wrap (k:Int))=some s/\∃q:Nat,q<64/\sJ .i64 (m:Int) s=(q:Int)/\∀j:Nat,j<6->qb q (j:Int)=(((j:Int) != (k:Int))&&qb m (j:Int)):=by
 have h:=all_eq_true.1 (all_eq_true.1 Ct m (mem_range.2 hm)) k (mem_range.2 hk);cases hs:shl .i64 1 (IntKind.u64.wrap (k:Int))with
 | none=>rw[hs]at h;cases h
 | some s =>
  rw[hs]at h;simp only[aT,decide_eq_true_eq,all_eq_true,beq_iff_eq,mem_range]at h;obtain⟨h1,h2,h3⟩:=h;exact⟨s,rfl,(sJ .i64 (m:Int) s).toNat,by omega,by omega,h3⟩
def I5:Bool:=(List.range 64).all λm=>(List.range 8).all λu=>match shl .i64 1 (IntKind.u64.wrap (u:Int))with
 | some s=>decide (0<=pp .i64 (m:Int) s)&&(decide (pp .i64 (m:Int) s<64)&&((List.range 6).all λj=>qb (pp .i64 (m:Int) s).toNat (j:Int)==(qb m (j:Int)&&((u:Int)==(j:Int)))))
 | none=>false
theorem Cu:I5=true:=by kernel_rfl
theorem J7 {m:Nat} (hm:m<64) {u:Nat} (hu:u<8):∃s,shl .i64 1 (IntKind.u64.wrap (u:Int))=some s/\∃q:Nat,q<64/\pp .i64 (m:Int) s=(q:Int)/\∀j:Nat,j<6->qb q (j:Int)=(qb m (j:Int)&&((u:Int)==(j:Int))):=by
 have h:=all_eq_true.1 (all_eq_true.1 Cu m (mem_range.2 hm)) u (mem_range.2 hu);cases hs:shl .i64 1 (IntKind.u64.wrap (u:Int))with
 | none=>rw[hs]at h;cases h
 | some s =>
  rw[hs]at h;simp only[aT,decide_eq_true_eq,all_eq_true,beq_iff_eq,mem_range]at h;obtain⟨h1,h2,h3⟩:=h;exact⟨s,rfl,(pp .i64 (m:Int) s).toNat,by omega,by omega,h3⟩
theorem I6 {b:mL} (hn:b.2.2.1.length<=6) (hv:b.2.2.2.2.1.length<=6) {f:nM} (hf:f.2.2.2.length<=20) {k:Nat} {c:Nat} {cl:Int×Bool} {e:Int} (he:ak (b.2.2.2.2.1,b.2.2.2.2.2.1) cl.1=some e) {m:Nat} (hm:m<64) (hme:pp .i64 (c:Int) e=(m:Int)) {q:Nat}
 (Q:Int->Option Bool) (Qb:Nat->Bool) (hQ:∀j:Nat,j<6->Q (j:Int)=some (Qb j)) (hq:∀j:Nat,j<6->qb q (j:Int)=(((j:Int) != (k:Int)&&qb m (j:Int))&&Qb j))
 (stepI:Int×List nC->Option ((Int×List nC)⊕List nC))
 (hs:∀(j:Nat) (out:List nC),j<b.2.2.1.length->stepI ((j:Int),out)=((cond ((j:Int) != (k:Int)) ((ak (b.2.2.2.2.1,b.2.2.2.2.2.1) cl.1).bind λt89=>(a9 (pp .i64 (c:Int) t89) (j:Int)).bind λt92=>some t92) (some false)).bind λt93 =>
  (cond t93 ((Q (j:Int)).bind λt101=>some t101) (some false)).bind λt102 =>
  cond t102 ((ao (b.2.2.2.2.1,b.2.2.2.2.2.1) cl.1 (j:Int)).bind λt110=>(aB f t110).bind λt111=>(app out [((j:Int),t111.1,t111.2.1,t111.2.2.1,t111.2.2.2)]).bind λzs114=>some (.inl (mH ((j:Int)+1),zs114)))
   (some (.inl (mH ((j:Int)+1),out)))))
 (he2:∀out:List nC,stepI ((b.2.2.1.length:Int),out)=some (.inr out)) :
 ∃o,loop stepI (0,[])=some o/\aH b cl.1 (q:Int) f=some o:=by
 obtain⟨o,h1,h2⟩:=ER (f:=stepI) (g:=λz:Int×List nC=>aU b cl.1 (q:Int) f z.1 z.2) (λj z=>z.1=(j:Int)/\z.2.length<=j) b.2.2.1.length
  (λj z hj ⟨z1,z2⟩=>by
   obtain⟨i,out⟩:=z;simp only at z1 z2;subst z1;obtain⟨g,hg⟩:=BV (v:=(b.2.2.2.2.1,b.2.2.2.2.2.1)) hv cl.1 (k:=j) (by omega);have hap:app out [((j:Int),f.1,f.2.1,g,f.2.2.2)]=some (out++[((j:Int),f.1,f.2.1,g,f.2.2.2)]):=qu (by show out.length+1<=_;omega)
   have hb:qb q (j:Int)=(((j:Int) != (k:Int)&&qb m (j:Int))&&Qb j):=hq j (by omega);have hI:stepI ((j:Int),out)=cond (qb q (j:Int)) (some (.inl (((j+1:Nat):Int),out++[((j:Int),f.1,f.2.1,g,f.2.2.2)]))) (some (.inl (((j+1:Nat):Int),out))):=by
    rw[hs j out hj,he,hb];simp only[mK,hme,HV hm,hQ j (by omega),hg,FF hf,hap,n4 (show j<9223372036854775807 by omega)];cases (j:Int) != (k:Int)<;>cases qb m (j:Int)<;>cases Qb j<;>rfl
   have hS:aU b cl.1 (q:Int) f (j:Int) out=cond (qb q (j:Int)) (some (.inl (((j+1:Nat):Int),out++[((j:Int),f.1,f.2.1,g,f.2.2.2)]))) (some (.inl (((j+1:Nat):Int),out))):=by
    unfold aU;rw[dT (show (j:Int)<(b.2.2.1.length:Int) by omega),cT,HU,mK];simp only[I0 _ _ (show j<6 by omega),hg,mK,IP hf,hap,n4 (show j<9223372036854775807 by omega)]
   cases hbit:qb q (j:Int)with
   | true =>
    rw[hbit]at hI hS;exact⟨_,hI,hS,rfl,by show (out++[_]).length<=j+1;rw[length_append];show out.length+1<=j+1;omega⟩
   | false =>
    rw[hbit]at hI hS;exact⟨_,hI,hS,rfl,by show out.length<=j+1;omega⟩)
  (λz ⟨z1,z2⟩=>by
   obtain⟨i,out⟩:=z;simp only at z1 z2;subst z1;refine⟨out,he2 out,?_⟩;show aU b cl.1 (q:Int) f (b.2.2.1.length:Int) out=_
   unfold aU;rw[dF (show ¬(b.2.2.1.length:Int)<(b.2.2.1.length:Int) by omega),cF]) (x:=(0,[])) ⟨rfl,Nat.le_refl _⟩
 refine⟨o,h1,?_⟩;unfold aH;exact qJ h2 rfl
theorem FG {b:mL} (h:vV b) (hl:v5 M b) (i:Int) (f:nM):aV b i f=ap b i f:=by
 cases hp0:oP b with
 | false =>
  unfold aV ap;rw[sE hl,vm hl,ET h,IM h hp0];rfl
 | true =>
 have h:=CQ h hp0;have s:=h.sok
 have hn:=h.n6;have hv:=s.v
 have hq:=s.q;obtain⟨q1,q2,q3,q4,q5⟩:=sF (xA h.ok).1;have hfb:=DQ h.f
 unfold aV ap;rw[sE h.le,vm h.le,mK,mK,ET h.w,A5 h,mK,mK];cases hp:mU i 0 ((b.2.2.1.length:Int)-1)with
 | false=>rfl
 | true =>
 rw[Bool.not_true,cF,cF,I1,BT,mK,mK,mK];cases hf:tn f with
 | false=>rfl
 | true =>
 have hlen:f.2.2.2.length<=20:=by
  unfold tn at hf;simp only[aT,decide_eq_true_eq]at hf;omega
 obtain⟨p0,p1⟩:=wG hp;obtain⟨k,rfl⟩:∃k:Nat,i=(k:Int):=⟨i.toNat,by omega⟩;have hk:k<b.2.2.1.length:=by omega
 have hk6:k<6:=by omega
 obtain⟨c,hc64,hc,hcs⟩:=zA b.1 (l:=b.2.2.1) (by omega);obtain⟨cl,hcl⟩:=BU (v:=(b.2.2.2.2.1,b.2.2.2.2.2.1)) hv (by show b.2.2.2.2.2.1.length<=6;omega) (k:=k) (by show k<b.2.2.2.2.2.1.length;omega) f.2.2.1;obtain⟨t,ht,_⟩:=xx (c:Int) hk6;rw[Bool.not_true,cF,cF,hc,hcs,mK,mK,HZ _ hk6,hcl,mK,mK,DS _ hk6,ht,mK,mK];have hst:∀{A B:Option (mL×List nC)},A=B->(cond (!t) (some true) (some (!cl.2))).bind (λt50=>cond t50 ((aD b.2.2.2.2.2.2.2.2.2.1).bind λt53=>some ((b.1,b.2.1,b.2.2.1,b.2.2.2.1,b.2.2.2.2.1,b.2.2.2.2.2.1,b.2.2.2.2.2.2.1,b.2.2.2.2.2.2.2.1,b.2.2.2.2.2.2.2.2.1,t53,b.2.2.2.2.2.2.2.2.2.2),([]:List nC))) A)=(cond (!t) (some true) (some (!cl.2))).bind (λt48=>cond t48 ((au b.2.2.2.2.2.2.2.2.2.1).bind λt51=>some ((b.1,b.2.1,b.2.2.1,b.2.2.2.1,b.2.2.2.2.1,b.2.2.2.2.2.1,b.2.2.2.2.2.2.1,b.2.2.2.2.2.2.2.1,b.2.2.2.2.2.2.2.2.1,t51,b.2.2.2.2.2.2.2.2.2.2),[])) B):=λe=>by
  rw[e,HY q4,v9]
 refine hst ?_;rw[DR hfb,H5];obtain⟨F,hF,hFB⟩:=BS hfb cl.1 f.2.1 (k:Int);obtain⟨e,he⟩:=A6 (v:=(b.2.2.2.2.1,b.2.2.2.2.2.1)) hv cl.1;obtain⟨m,hm,hme⟩:=I2 hc64 e;obtain⟨sh,hsh,q,hq64,hqe,hqb⟩:=J6 hm hk6;rw[hF,mK,mK,v9,HY q5,mK,mK,he,mK,hsh,mK,hme];simp only[hqe];obtain⟨o1,a1,a2⟩:=I6 hn hv hlen (k:=k) (c:=c) (cl:=cl) he hm hme (q:=q) (λj=>cond (decide ((-1:Int)<0)) (some true) (some ((-1)==j))) (λ_=>true) (λj hj=>rfl) (λj hj=>by rw[Bool.and_true];exact hqb j hj) (λz=>ac b (k:Int) f (c:Int) cl z.1 z.2)
  (λj out hj=>by
   show ac b (k:Int) f (c:Int) cl (j:Int) out=_;unfold ac;rw[nU (by omega),cT]) (λout=>by
   show ac b (k:Int) f (c:Int) cl (b.2.2.1.length:Int) out=_;unfold ac;rw[nj (by omega),cF])
 cases f.1 != 0 with
 | false =>
  rw[cF,cF,a2,mK]
  symm;exact qJ a1 rfl
 | true =>
  obtain⟨u,u1,u2,u3⟩:=IQ hFB cl.1 f.1;rw[cT,cT,u1,u2,mK,mK];have fin:∀(q:Nat),(∀j:Nat,j<6->qb q (j:Int)=(((j:Int) != (k:Int)&&qb m (j:Int))&&(decide (u<0)||(u==(j:Int)))))->∃o,loop (λz:Int×List nC=>aa b (k:Int) f (c:Int) cl u z.1 z.2) (0,[])=some o/\aH b cl.1 (q:Int) f=some o:=λq hq =>
   I6 hn hv hlen (k:=k) (c:=c) (cl:=cl) he hm hme (q:=q) (λj=>cond (decide (u<0)) (some true) (some (u==j))) (λj=>decide (u<0)||(u==(j:Int))) (λj hj=>by cases decide (u<0)<;>rfl) hq _
   (λj out hj=>by
    show aa b (k:Int) f (c:Int) cl u (j:Int) out=_;unfold aa;rw[nU (by omega),cT]) (λout=>by
    show aa b (k:Int) f (c:Int) cl u (b.2.2.1.length:Int) out=_;unfold aa;rw[nj (by omega),cF])
  rcases u3 with rfl|⟨u3,u4⟩
  · obtain⟨o,b1,b2⟩:=fin q (λj hj=>by rw[show decide ((-1:Int)<0)=true from rfl,Bool.true_or,Bool.and_true];exact hqb j hj);rw[show decide ((-1:Int)>=0)=false from rfl,cF,b2,mK]
    symm;exact qJ b1 rfl
  · obtain⟨n,rfl⟩:∃n:Nat,u=(n:Int):=⟨u.toNat,by omega⟩;obtain⟨s2,g1,q',g2,g3,g4⟩:=J7 hq64 (u:=n) (by omega);obtain⟨o,b1,b2⟩:=fin q' (λj hj=>by rw[g4 j hj,hqb j hj,dF (show ¬(n:Int)<0 by omega),Bool.false_or]);rw[dT (show (n:Int)>=0 by omega),cT,g1,mK,g3,b2,mK]
    symm;exact qJ b1 rfl
abbrev CW:=Int×Int
def nn:List (Int×Int×Int×Int)->List CW
 | []=>[]
 | x::l=>(x.1,x.2.1)::(x.2.2.1,x.2.2.2)::nn l
theorem tz:∀(l m:List (Int×Int×Int×Int)),nn (l++m)=nn l++nn m
 | [],m=>rfl
 | x::l,m=>by show _::_::nn (l++m)=_;rw[tz l m];rfl
theorem zF:∀(l:List (Int×Int×Int×Int)),(nn l).length=2*l.length
 | []=>rfl
 | x::l=>by show (nn l).length+1+1=2*(l.length+1);rw[zF l];omega
theorem tN {l:List (Int×Int×Int×Int)} {e:CW}:e∈nn l↔∃x∈l,e=(x.1,x.2.1)\/e=(x.2.2.1,x.2.2.2):=by
 induction l with
 | nil=>simp[nn]
 | cons x l ih =>
  show e∈(_::_::nn l)↔_;rw[mem_cons,mem_cons,ih];constructor
  · rintro (h|h|⟨y,hy,h⟩)
    · exact⟨x,by simp,.inl h⟩
    · exact⟨x,by simp,.inr h⟩
    · exact⟨y,mem_cons_of_mem _ hy,h⟩
  · rintro⟨y,hy,h⟩;rcases mem_cons.1 hy with rfl|hy
    · rcases h with h|h
      · exact .inl h
      · exact .inr (.inl h)
    · exact .inr (.inr ⟨y,hy,h⟩)
def Ge (l:List (Int×Int×Int×Int)) (k:Nat) (x:Int×Int×Int×Int):Prop:=(x.1,x.2.1)≠(x.2.2.1,x.2.2.2)/\(x.1,x.2.1)∉nn (l.take k)/\(x.2.2.1,x.2.2.2)∉nn (l.take k)
theorem zG (l:List (Int×Int×Int×Int)):∀m,m<=l.length->((nn (l.take m)).Nodup↔∀k (hk:k<l.length),k<m->Ge l k l[k])
 | 0,_=>by simp[nn]
 | m+1,hm=>by
  have hml:m<l.length:=by omega
  have ih:=zG l m (by omega);have et:l.take (m+1)=l.take m++[l[m]]:=by rw[take_add_one,List.getElem?_eq_getElem hml];rfl
  rw[et,tz,List.nodup_append,ih];constructor
  · rintro⟨h1,h2,h3⟩ k hk hkm;by_cases e:k=m
    · subst e;have h2:([((l[k]).1,(l[k]).2.1),((l[k]).2.2.1,(l[k]).2.2.2)]:List CW).Nodup:=h2
      refine⟨λe=>?_,λe=>h3 _ e _ (List.mem_cons_self) rfl,λe=>h3 _ e _ (mem_cons_of_mem _ List.mem_cons_self) rfl⟩;rw[e]at h2;simp at h2
    · exact h1 k hk (by omega)
  · intro h;obtain⟨n1,n2,n3⟩:=h m hml (by omega);refine⟨λk hk hkm=>h k hk (by omega),?_,λa ha b hb hab=>?_⟩
    · show ([((l[m]).1,(l[m]).2.1),((l[m]).2.2.1,(l[m]).2.2.2)]:List CW).Nodup;rw[List.nodup_cons];exact⟨λe=>n1 (by rwa [mem_singleton]at e),List.nodup_cons.2 ⟨by simp,List.nodup_nil⟩⟩
    · subst hab;have hb:a∈([((l[m]).1,(l[m]).2.1),((l[m]).2.2.1,(l[m]).2.2.2)]:List CW):=hb
      simp only[mem_cons,List.not_mem_nil,or_false]at hb;rcases hb with rfl|rfl
      · exact n2 ha
      · exact n3 ha
theorem zH (l:List (Int×Int×Int×Int)):(∀k (hk:k<l.length),Ge l k l[k])↔∀x∈l,(x.1,x.2.1)≠(x.2.2.1,x.2.2.2)/\(nn l).count (x.1,x.2.1)=1/\(nn l).count (x.2.2.1,x.2.2.2)=1:=by
 have h:=zG l l.length (Nat.le_refl _);rw[take_length]at h;constructor
 · intro k x hx;have hn:=h.2 λi hi _=>k i hi
   obtain⟨i,hi,rfl⟩:=getElem_of_mem hx;have c1:∀e∈nn l,(nn l).count e=1:=λe he=>by
    have:=List.nodup_iff_count.1 hn e;have:=List.count_pos_iff.2 he
    omega
   exact⟨(k i hi).1,c1 _ (tN.2 ⟨_,hx,.inl rfl⟩),c1 _ (tN.2 ⟨_,hx,.inr rfl⟩)⟩
 · intro k i hi;refine h.1 (List.nodup_iff_count.2 λe=>?_) i hi hi;by_cases he:e∈nn l
   · obtain⟨x,hx,rfl|rfl⟩:=tN.1 he
     · rw[(k x hx).2.1];omega
     · rw[(k x hx).2.2];omega
   · rw[List.count_eq_zero.2 he];omega

theorem qc {n:Nat} {step:Int->Option (Int⊕(Unit⊕Bool))} {b:Nat->Bool} {r:Bool} (h:∀k,k<n->step (k:Int)=cond (b k) (some (.inr (.inr r))) (some (.inl ((k+1:Nat):Int)))) (he:step (n:Int)=some (.inr (.inl ()))) :
 loop step 0=some (cond ((List.range n).any b) (.inr r) (.inl ())):=by
 obtain⟨v,h1,h2⟩:=oh (β:=Unit⊕Bool) (step:=step) (λk i=>i=(k:Int)/\(List.range k).any b=false) n (λv=>v=cond ((List.range n).any b) (Sum.inr r) (Sum.inl ()))
  (λk i hk ⟨e,ha⟩=>by
   subst e;cases hb:b k with
   | true =>
    refine .inr ⟨.inr r,by rw[h k hk,hb];rfl,?_⟩;have:(List.range n).any b=true:=any_eq_true.2 ⟨k,mem_range.2 hk,hb⟩
    rw[this];rfl
   | false =>
    refine .inl ⟨_,by rw[h k hk,hb];rfl,rfl,?_⟩;rw[List.range_succ,List.any_append,ha];simp[hb])
  (λi ⟨e,ha⟩=>by
   subst e;exact⟨.inl (),he,by rw[ha];rfl⟩) (x:=0) ⟨rfl,rfl⟩
 rw[h1,h2]
theorem xD {n:Nat} {b:Nat->Bool}:(List.range n).any b=true↔∃k,k<n/\b k=true:=by
 rw[any_eq_true];exact⟨λ⟨k,h1,h2⟩=>⟨k,mem_range.1 h1,h2⟩,λ⟨k,h1,h2⟩=>⟨k,mem_range.2 h1,h2⟩⟩
theorem sT {n:Nat} {b:Nat->Bool}:(List.range n).any b=false↔∀k,k<n->b k=false:=by
 rw[Bool.eq_false_iff,ne_eq,xD];exact⟨λh k hk=>by cases hb:b k with|false=>rfl|true=>exact absurd ⟨k,hk,hb⟩ h,λh ⟨k,hk,hb⟩=>by rw[h k hk]at hb;cases hb⟩
def BY (x:nD) (b p:Int):Bool:=(x.1==b&&x.2.1==p)||(x.2.2.1==b&&x.2.2.2==p)
theorem BZ (x:nD) (b p:Int):BY x b p=true↔(b,p)=(x.1,x.2.1)\/(b,p)=(x.2.2.1,x.2.2.2):=by
 unfold BY;simp only[Bool.or_eq_true,aT,beq_iff_eq,Prod.mk.injEq];constructor
 · rintro (⟨h1,h2⟩|⟨h1,h2⟩)
   · exact .inl ⟨h1.symm,h2.symm⟩
   · exact .inr ⟨h1.symm,h2.symm⟩
 · rintro (⟨h1,h2⟩|⟨h1,h2⟩)
   · exact .inl ⟨h1.symm,h2.symm⟩
   · exact .inr ⟨h1.symm,h2.symm⟩
theorem Gf {l:List nD} (hn:l.length<=1048576) (b p:Int):be l b p=some (decide ((b,p)∈nn l)):=by
 have hs:=qc (n:=l.length) (step:=λz=>bd l b p z) (b:=λk=>match l[k]? with|some x=>BY x b p|none=>false) (r:=true) (λk hk=>by
  show bd l b p (k:Int)=_;unfold bd;rw[nU (by omega),cT,n8 hk,mK,n4 (by omega),List.getElem?_eq_getElem hk];simp only;generalize l[k]=x;unfold BY;cases x.1==b<;>cases x.2.1==p<;>cases x.2.2.1==b<;>cases x.2.2.2==p<;>rfl) (by
  show bd l b p (l.length:Int)=_;unfold bd;rw[nj (by omega),cF])
 unfold be;rw[hs,mK];have key:(List.range l.length).any (λk=>match l[k]? with|some x=>BY x b p|none=>false)=decide ((b,p)∈nn l):=by
  rw[Bool.eq_iff_iff,xD,decide_eq_true_iff,tN];constructor
  · rintro⟨k,hk,h⟩;rw[List.getElem?_eq_getElem hk]at h;exact⟨_,getElem_mem hk,(BZ _ _ _).1 h⟩
  · rintro⟨x,hx,h⟩;obtain⟨k,hk,rfl⟩:=getElem_of_mem hx;exact⟨k,hk,by rw[List.getElem?_eq_getElem hk];exact (BZ _ _ _).2 h⟩
 rw[key];cases decide ((b,p)∈nn l)<;>rfl
theorem EU (x:nD) (b p:Int):([(x.1,x.2.1),(x.2.2.1,x.2.2.2)]:List CW).count (b,p)=(cond (x.1==b&&x.2.1==p) 1 0)+(cond (x.2.2.1==b&&x.2.2.2==p) 1 0):=by
 rw[List.count_cons,List.count_cons,List.count_nil];have e1:((x.1,x.2.1)==(b,p))=(x.1==b&&x.2.1==p):=rfl
 have e2:((x.2.2.1,x.2.2.2)==(b,p))=(x.2.2.1==b&&x.2.2.2==p):=rfl;rw[e1,e2];cases (x.1==b&&x.2.1==p)<;>cases (x.2.2.1==b&&x.2.2.2==p)<;>rfl
theorem Gg {n:nh} (hn:n.2.1.length<=1048576) (b p:Int):bI n b p=some (((nn n.2.1).count (b,p):Nat):Int):=by
 unfold bI;obtain⟨v,e1,rfl⟩:=oh (step:=λz:Int×Int=>aX n b p z.1 z.2) (λk z=>z=((((nn (n.2.1.take k)).count (b,p):Nat):Int),(k:Int))) n.2.1.length (λv=>v=(((nn n.2.1).count (b,p):Nat):Int))
  (λk z hk e=>by
   subst e;refine .inl ⟨_,?_,rfl⟩;have et:n.2.1.take (k+1)=n.2.1.take k++[n.2.1[k]]:=by rw[take_add_one,List.getElem?_eq_getElem hk];rfl
   have hc:(nn (n.2.1.take k)).count (b,p)<=2*k:=by
    refine Nat.le_trans List.count_le_length ?_;rw[zF,length_take];omega
   rw[et,tz,List.count_append];show aX n b p _ _=_
   unfold aX;rw[nU (by omega),cT,n8 hk,mK];have e2:=EU n.2.1[k] b p
   have e3:nn [n.2.1[k]]=[(n.2.1[k].1,n.2.1[k].2.1),(n.2.1[k].2.2.1,n.2.1[k].2.2.2)]:=rfl;rw[e3,e2];generalize (nn (n.2.1.take k)).count (b,p)=c at hc;have w0:=n4 (show k<9223372036854775807 by omega)
   have w1:=n4 (show c<9223372036854775807 by omega);have w2:=n4 (show c+1<9223372036854775807 by omega)
   have a1:cond (n.2.1[k].1==b) (some (n.2.1[k].2.1==p)) (some false)=some (n.2.1[k].1==b&&n.2.1[k].2.1==p):=by cases n.2.1[k].1==b<;>rfl
   have a2:cond (n.2.1[k].2.2.1==b) (some (n.2.1[k].2.2.2==p)) (some false)=some (n.2.1[k].2.2.1==b&&n.2.1[k].2.2.2==p):=by cases n.2.1[k].2.2.1==b<;>rfl
   rw[a1,a2];generalize (n.2.1[k].1==b&&n.2.1[k].2.1==p)=u1;generalize (n.2.1[k].2.2.1==b&&n.2.1[k].2.2.2==p)=u2;cases u1<;>cases u2<;>simp only[mK,cT,cF,w0,w1,w2]<;>rfl)
  (λz e=>by
   subst e;refine⟨_,?_,rfl⟩;show aX n b p _ _=_
   unfold aX;rw[nj (by omega),cF,take_length]) (x:=(0,0)) (by simp[nn])
 rw[e1,mK]
def sG (n:nh) (x:mL) (j:Nat):Bool:=match n.1[j]? with|some c=>c.1==x.1|none=>false
def wI (n:nh) (i:Nat) (x:mL) (p:Nat):Bool:=match x.2.2.1[p]? with|some y=>y.2.2.1&&!(decide (((i:Int),(p:Int))∈nn n.2.1))|none=>false
noncomputable def vn (n:nh) (i:Nat):Bool:=match n.1[i]? with
 | some x=>!(oP x)||((List.range i).any (sG n x)||(List.range x.2.2.1.length).any (wI n i x))
 | none=>false
structure tA (n:nh):Prop where
 s:NS n
 c:n.1.length<=1048576
 w:∀b∈n.1,vV b
 d:n.2.2.length<=1048576
theorem AL {n:nh} (h:tA n):loop (λz=>bj n z) 0=some (cond ((List.range n.1.length).any (vn n)) (.inr false) (.inl ())):=by
 have hb:=h.c;have hl:=h.s.l
 refine qc (λk hk=>?_) (by
  show bj n (n.1.length:Int)=_;unfold bj;rw[nj (by omega),cF])
 have hx:n.1[k]∈n.1:=getElem_mem hk;have hw:=h.w _ hx
 have hp:=hw.p;show bj n (k:Int)=_
 have l2:loop (λz=>bg n.1[k] (n.1.take k) z) 0=some (cond ((List.range k).any (sG n n.1[k])) (.inr false) (.inl ())):=qc (λj hj=>by
  show bg n.1[k] (n.1.take k) (j:Int)=_;have hjl:j<(n.1.take k).length:=by rw[length_take];omega
  have hjn:j<n.1.length:=by omega
  have hcut:(n.1.take k)[j]=n.1[j]:=List.getElem_take;unfold bg sG;rw[nU (by omega),cT,n8 hjl,mK,hcut,n4 (by omega),List.getElem?_eq_getElem hjn]) (by
  show bg n.1[k] (n.1.take k) (k:Int)=_;unfold bg;rw[nj (by rw[length_take];omega),cF])
 have l4:loop (λz=>bh n (k:Int) n.1[k] z) 0=some (cond ((List.range n.1[k].2.2.1.length).any (wI n k n.1[k])) (.inr false) (.inl ())):=qc (λj hj=>by
  show bh n (k:Int) n.1[k] (j:Int)=_;unfold bh wI;rw[nU (by omega),cT,n8 hj,mK,Gf hl,mK,n4 (by omega),List.getElem?_eq_getElem hj];simp only;generalize (n.1[k]).2.2.1[j]=y;cases y.2.2.1<;>cases decide (((k:Int),(j:Int))∈nn n.2.1)<;>rfl) (by
  show bh n (k:Int) n.1[k] (n.1[k].2.2.1.length:Int)=_;unfold bh;rw[nj (by omega),cF])
 unfold bj vn;have hcut:cut n.1 0 (k:Int)=some (n.1.take k):=by
  unfold cut;rw[if_pos (by omega),if_pos (by omega),if_pos (by omega)];simp
 rw[nU (by omega),cT,n8 hk,mK,xR hw,mK,hcut,mK,l2,l4,n4 (by omega),List.getElem?_eq_getElem hk];simp only;cases oP n.1[k]<;>cases (List.range k).any (sG n n.1[k])<;>cases (List.range n.1[k].2.2.1.length).any (wI n k n.1[k])<;>rfl
theorem FH {n:nh} (h:tA n):cR n=some (cond ((List.range n.1.length).any (vn n)) false (mU (n.1.length:Int) 1 6)):=by
 have hb:=h.c;have hl:=h.s.l
 have hs:loop (λz=>b7 n z) 0=some (cond ((List.range n.1.length).any (vn n)) (.inr false) (.inl ())):=by
  refine qc (λk hk=>?_) (by
   show b7 n (n.1.length:Int)=_;unfold b7;rw[nj (by omega),cF])
  have hx:n.1[k]∈n.1:=getElem_mem hk;have hw:=h.w _ hx
  have hp:=hw.p;show b7 n (k:Int)=_
  have l2:loop (λz=>aY n (k:Int) z) 0=some (cond ((List.range k).any (sG n n.1[k])) (.inr false) (.inl ())):=qc (λj hj=>by
   show aY n (k:Int) (j:Int)=_;have hjn:j<n.1.length:=by omega
   unfold aY sG;rw[nU (by omega),cT,n8 hjn,mK,n8 hk,mK,n4 (by omega),List.getElem?_eq_getElem hjn]) (by
   show aY n (k:Int) (k:Int)=_;unfold aY;rw[nj (by omega),cF])
  have l4:loop (λz=>aZ n (k:Int) z) 0=some (cond ((List.range n.1[k].2.2.1.length).any (wI n k n.1[k])) (.inr false) (.inl ())):=qc (λj hj=>by
   show aZ n (k:Int) (j:Int)=_;unfold aZ wI;rw[n8 hk,mK,nU (by omega),cT,mK,n8 hj,mK,Gg hl,mK,n4 (by omega),List.getElem?_eq_getElem hj];simp only;generalize (n.1[k]).2.2.1[j]=y;have e0:((((nn n.2.1).count ((k:Int),(j:Int)):Nat):Int)==0)=!(decide (((k:Int),(j:Int))∈nn n.2.1)):=by
    by_cases hm:((k:Int),(j:Int))∈nn n.2.1
    · have:=List.count_pos_iff.2 hm;rw[dT hm];exact beq_eq_false_iff_ne.2 (by omega)
    · rw[dF hm,List.count_eq_zero.2 hm];rfl
   rw[e0];cases y.2.2.1<;>cases decide (((k:Int),(j:Int))∈nn n.2.1)<;>rfl) (by
   show aZ n (k:Int) (n.1[k].2.2.1.length:Int)=_;unfold aZ;rw[n8 hk,mK,nj (by omega),cF])
  unfold b7 vn;rw[nU (by omega),cT,n8 hk,mK,CP hw,mK,l2,l4,n4 (by omega),List.getElem?_eq_getElem hk];simp only;cases oP n.1[k]<;>cases (List.range k).any (sG n n.1[k])<;>cases (List.range n.1[k].2.2.1.length).any (wI n k n.1[k])<;>rfl
 unfold cR;rw[hs,mK,sI];cases (List.range n.1.length).any (vn n)<;>rfl
def yH (n:nh) (j:Nat):Bool:=match n.2.2[j]? with|some s=>!(mU s.1 0 ((n.2.1.length:Int)-1))||!(xw s.2.2)|none=>false
theorem DT {n:nh} (h:tA n):loop (λz=>bm n z) 0=some (cond ((List.range n.2.2.length).any (yH n)) (.inr false) (.inl ())):=by
 have hd:=h.d;have hl:=h.s.l
 refine qc (λk hk=>?_) (by
  show bm n (n.2.2.length:Int)=_;unfold bm;rw[nj (by omega),cF])
 show bm n (k:Int)=_;unfold bm yH;rw[nU (by omega),cT,n8 hk,mK,oB (n:=(n.2.1.length:Int)-1) (by omega) (by omega),rO,mK,BJ,mK,n4 (by omega),List.getElem?_eq_getElem hk];simp only;cases mU n.2.2[k].1 0 ((n.2.1.length:Int)-1)<;>cases xw n.2.2[k].2.2<;>rfl
theorem DU {n:nh} (h:tA n):loop (λz=>b9 n z) 0=some (cond ((List.range n.2.2.length).any (yH n)) (.inr false) (.inl ())):=by
 have hd:=h.d;have hl:=h.s.l
 refine qc (λk hk=>?_) (by
  show b9 n (n.2.2.length:Int)=_;unfold b9;rw[nj (by omega),cF])
 show b9 n (k:Int)=_;unfold b9 yH;rw[nU (by omega),cT,n8 hk,mK,oB (n:=(n.2.1.length:Int)-1) (by omega) (by omega),sI,mK,mK,HI,BJ,mK,n4 (by omega),List.getElem?_eq_getElem hk];simp only;cases mU n.2.2[k].1 0 ((n.2.1.length:Int)-1)<;>cases xw n.2.2[k].2.2<;>rfl
def wJ (o:Option Pt):Bool:=o.isSome
def tO (n:nh) (x:nD):Bool:=wJ (oe n x.1 x.2.1)&&(wJ (oe n x.2.2.1 x.2.2.2)&&(!(x.1==x.2.2.1)&&(DJ (oe n x.1 x.2.1)==DJ (oe n x.2.2.1 x.2.2.2))))
def vo (n:nh) (k:Nat):Bool:=match n.2.1[k]? with
 | some x=>decide (9<=k)||(!(tO n x)||(decide ((x.1,x.2.1)∈nn (n.2.1.take k))||decide ((x.2.2.1,x.2.2.2)∈nn (n.2.1.take k))))
 | none=>false
def yI (n:nh) (k:Nat):Bool:=match n.2.1[k]? with
 | some x=>!(tO n x)||(!((nn n.2.1).count (x.1,x.2.1)==1)||!((nn n.2.1).count (x.2.2.1,x.2.2.2)==1))
 | none=>false
theorem I7 {n:nh} (h:tA n):d8 n=some (!((List.range n.2.1.length).any (vo n))):=by
 have hl:=h.s.l;have hs:loop (λz=>bf n z) 0=some (cond ((List.range n.2.1.length).any (vo n)) (.inr false) (.inl ())):=by
  refine qc (λk hk=>?_) (by
   show bf n (n.2.1.length:Int)=_;unfold bf;rw[nj (by omega),cF])
  show bf n (k:Int)=_;have hcut:cut n.2.1 0 (k:Int)=some (n.2.1.take k):=by
   unfold cut;rw[if_pos (by omega),if_pos (by omega),if_pos (by omega)];simp
  have e9:decide ((k:Int)>=9)=decide (9<=k):=decide_eq_decide.2 (by omega);have ht:(n.2.1.take k).length<=1048576:=by rw[length_take];omega
  unfold bf vo;rw[nU (by omega),cT,n8 hk,mK,List.getElem?_eq_getElem hk,e9,n4 (by omega),hcut];simp only[EK h.s,mK,Gf ht];generalize n.2.1[k]=x;unfold tO;generalize decide ((x.1,x.2.1)∈nn (n.2.1.take k))=m1;generalize decide ((x.2.2.1,x.2.2.2)∈nn (n.2.1.take k))=m2;generalize decide (9<=k)=nine;generalize (x.1==x.2.2.1)=ab;generalize oe n x.1 x.2.1=o1;generalize oe n x.2.2.1 x.2.2.2=o2;cases nine with
  | true=>rfl
  | false =>
   cases o1 with
   | none=>cases o2<;>rfl
   | some a =>
    cases o2 with
    | none=>rfl
    | some c =>
     cases ab with
     | true=>rfl
     | false =>
      simp only[cF,mK,wJ,DJ,Option.isSome_some,Bool.true_and,Bool.not_false,Bool.not_true];cases (a.1==c.1)<;>cases m1<;>cases m2<;>rfl
 unfold d8;rw[hs,mK];cases (List.range n.2.1.length).any (vo n)<;>rfl
theorem J8 {n:nh} (h:tA n) (b p:Int):bJ n b p=some (wJ (oe n b p)&&((nn n.2.1).count (b,p)==1)):=by
 have hl:=h.s.l;have hb:=h.c
 unfold bJ oe;rw[oB (n:=(n.1.length:Int)-1) (by omega) (by omega),sI,mK,Gg hl];cases h1:mU b 0 ((n.1.length:Int)-1)with
 | false=>rfl
 | true =>
  obtain⟨k,hk,_,e⟩:=sD h1;rw[e];have hp:=h.s.p _ (getElem_mem hk)
  simp only[cT,mK,sI];rw[oB (n:=((n.1[k]).2.2.1.length:Int)-1) (by omega) (by omega)];cases h2:mU p 0 (((n.1[k]).2.2.1.length:Int)-1)with
  | false=>rfl
  | true =>
   obtain⟨j,hj,_,e'⟩:=sD h2;rw[e'];simp only[cT,mK,wJ,Option.isSome_some,Bool.true_and]
   congr 1
   rw[Bool.eq_iff_iff,beq_iff_eq,beq_iff_eq];omega
theorem CX {n:nh} {b p:Int} {y:Pt} (h:oe n b p=some y):∃x∈n.1,at? n.1 b=some x/\at? x.2.2.1 p=some y:=by
 unfold oe at h;cases h1:mU b 0 ((n.1.length:Int)-1)with
 | false=>rw[h1]at h;cases h
 | true =>
  obtain⟨k,hk,_,e⟩:=sD h1;rw[h1,e]at h;simp only[cT]at h;cases h2:mU p 0 (((n.1[k]).2.2.1.length:Int)-1)with
  | false=>rw[h2]at h;cases h
  | true=>rw[h2]at h;exact⟨_,getElem_mem hk,e,h⟩
theorem Cv {n:nh} (h:tA n):loop (λz=>b8 n z) 0=some (cond ((List.range n.2.1.length).any (yI n)) (.inr false) (.inl ())):=by
 have hl:=h.s.l;refine qc (λk hk=>?_) (by
  show b8 n (n.2.1.length:Int)=_;unfold b8;rw[nj (by omega),cF])
 show b8 n (k:Int)=_;unfold b8 yI;rw[nU (by omega),cT,n8 hk,mK,List.getElem?_eq_getElem hk,n4 (by omega)];simp only[J8 h,mK];generalize n.2.1[k]=x;unfold tO;generalize ((nn n.2.1).count (x.1,x.2.1)==1)=c1;generalize ((nn n.2.1).count (x.2.2.1,x.2.2.2)==1)=c2;generalize (x.1==x.2.2.1)=ab;cases ab with
 | true=>cases wJ (oe n x.1 x.2.1)<;>cases wJ (oe n x.2.2.1 x.2.2.2)<;>rfl
 | false =>
  cases ho1:oe n x.1 x.2.1 with
  | none=>cases ho2:oe n x.2.2.1 x.2.2.2<;>cases c1<;>cases c2<;>rfl
  | some a =>
   cases ho2:oe n x.2.2.1 x.2.2.2 with
   | none=>cases c1<;>cases c2<;>rfl
   | some c =>
    obtain⟨u,_,u1,u2⟩:=CX ho1;obtain⟨v,_,v1,v2⟩:=CX ho2;rw[u1,mK,u2,mK,v1,mK,v2,mK];simp only[wJ,DJ,Option.isSome_some,Bool.true_and,Bool.not_false,cF,mK];cases c1<;>cases c2<;>cases (a.1==c.1)<;>rfl
theorem zI {n:nh}:((List.range n.2.1.length).any (vo n))=(decide ((n.2.1.length:Int)>9)||(List.range n.2.1.length).any (yI n)):=by
 cases hT:(List.range n.2.1.length).any (vo n)with
 | false =>
  have hT:=sT.1 hT;have key:∀k (hk:k<n.2.1.length),k<9/\tO n n.2.1[k]=true/\(n.2.1[k].1,n.2.1[k].2.1)∉nn (n.2.1.take k)/\(n.2.1[k].2.2.1,n.2.1[k].2.2.2)∉nn (n.2.1.take k):=λk hk=>by
   have:=hT k hk;unfold vo at this;rw[List.getElem?_eq_getElem hk]at this;simp only[Bool.or_eq_false_iff,decide_eq_false_iff_not,Bool.not_eq_false']at this;exact⟨by omega,this.2.1,this.2.2.1,this.2.2.2⟩
  have hn:=(zH n.2.1).1 λk hk=>by
   obtain⟨_,k2,k3,k4⟩:=key k hk;refine⟨λe=>?_,k3,k4⟩;unfold tO at k2;simp only[aT,Bool.not_eq_true',bF]at k2;exact k2.2.2.1 (Prod.mk.injEq _ _ _ _▸e).1
  symm
  rw[Bool.or_eq_false_iff];refine⟨dF λhg=>?_,sT.2 λk hk=>?_⟩
  · have:=(key (n.2.1.length-1) (by omega)).1;omega
  · obtain⟨_,k2,_⟩:=key k hk;obtain⟨_,h1,h2⟩:=hn _ (getElem_mem hk);unfold yI;rw[List.getElem?_eq_getElem hk];simp only[k2,h1,h2];rfl
 | true =>
  obtain⟨k,hk,hb⟩:=xD.1 hT
  symm
  rw[Bool.or_eq_true,decide_eq_true_iff];by_cases h9:(n.2.1.length:Int)>9
  · exact .inl h9
  · right;cases hU:(List.range n.2.1.length).any (yI n)with
    | true=>rfl
    | false =>
     exfalso;have hU:=sT.1 hU
     have key:∀k (hk:k<n.2.1.length),tO n n.2.1[k]=true/\(nn n.2.1).count (n.2.1[k].1,n.2.1[k].2.1)=1/\(nn n.2.1).count (n.2.1[k].2.2.1,n.2.1[k].2.2.2)=1:=λk hk=>by
      have:=hU k hk;unfold yI at this;rw[List.getElem?_eq_getElem hk]at this;simp only[Bool.or_eq_false_iff,Bool.not_eq_false',beq_iff_eq]at this;exact⟨this.1,this.2.1,this.2.2⟩
     have hn:=(zH n.2.1).2 λx hx=>by
      obtain⟨i,hi,rfl⟩:=getElem_of_mem hx;obtain⟨k1,k2,k3⟩:=key i hi;refine⟨λe=>?_,k2,k3⟩;unfold tO at k1;simp only[aT,Bool.not_eq_true',bF]at k1;exact k1.2.2.1 (Prod.mk.injEq _ _ _ _▸e).1
     obtain⟨_,n2,n3⟩:=hn k hk;unfold vo at hb;rw[List.getElem?_eq_getElem hk]at hb;simp only[(key k hk).1,dF n2,dF n3,dF (show ¬9<=k by omega)]at hb;cases hb
noncomputable def yJ (n:nh):Bool:=mU (n.1.length:Int) 1 6&&(!(decide ((n.2.2.length:Int)>40))&&(!((List.range n.1.length).any (vn n))&&(!((List.range n.2.2.length).any (yH n))&&!((List.range n.2.1.length).any (vo n)))))
theorem J9 {n:nh} (h:tA n):d9 n=some (yJ n):=by
 unfold d9 yJ;rw[rO,mK,AL h,DT h,I7 h];cases mU (n.1.length:Int) 1 6<;>cases decide ((n.2.2.length:Int)>40)<;>cases (List.range n.1.length).any (vn n)<;>cases (List.range n.2.2.length).any (yH n)<;>rfl
theorem Ja {n:nh} (h:tA n):cS n=some (yJ n):=by
 unfold cS yJ;rw[FH h,mK,Cv h,DU h,zI];cases mU (n.1.length:Int) 1 6<;>cases decide ((n.2.2.length:Int)>40)<;>cases (List.range n.1.length).any (vn n)<;>cases (List.range n.2.2.length).any (yH n)<;>cases decide ((n.2.1.length:Int)>9)<;>cases (List.range n.2.1.length).any (yI n)<;>rfl

theorem I8 {n a b:Int} (h:mU n a b=true):a<=n/\n<=b:=by
 unfold mU at h;simp only[aT,decide_eq_true_eq]at h;exact⟨h.1,h.2⟩
structure A7 (n:nh):Prop where
 b:tA n
 n1:1<=n.1.length/\n.1.length<=6
 ok:∀x∈n.1,oP x=true
 one:∀i j (hi:i<n.1.length) (hj:j<n.1.length),n.1[i].1=n.1[j].1->i=j
 l9:n.2.1.length<=9
 ends:∀x∈n.2.1,(∃y,oe n x.1 x.2.1=some y)/\∃y,oe n x.2.2.1 x.2.2.2=some y
theorem AE {o:Option Pt} (h:wJ o=true):∃y,o=some y:=by
 cases o with
 | none=>cases h
 | some y=>exact⟨y,rfl⟩
theorem H6 {n:nh} (h:tA n) (hp:yJ n=true):A7 n:=by
 unfold yJ at hp;simp only[aT,Bool.not_eq_true']at hp;obtain⟨h1,h2,h3,h4,h5⟩:=hp;have h1:=I8 h1
 have h3:=sT.1 h3;have key:∀i (hi:i<n.1.length),oP n.1[i]=true/\∀j,j<i->sG n n.1[i] j=false:=λi hi=>by
  have:=h3 i hi;unfold vn at this;rw[List.getElem?_eq_getElem hi]at this;simp only[Bool.or_eq_false_iff,Bool.not_eq_false']at this;exact⟨this.1,sT.1 this.2.1⟩
 have lt:∀i j (hi:i<n.1.length) (hj:j<i),n.1[j].1≠n.1[i].1:=λi j hi hj e=>by
  have:=(key i hi).2 j hj;unfold sG at this;rw[List.getElem?_eq_getElem (show j<n.1.length by omega)]at this;simp only[bF]at this;exact this e
 have h5':=h5;rw[zI,Bool.or_eq_false_iff]at h5';refine⟨h,⟨by omega,by omega⟩,λx hx=>?_,λi j hi hj e=>?_,?_,λx hx=>?_⟩
 · obtain⟨i,hi,rfl⟩:=getElem_of_mem hx;exact (key i hi).1
 · rcases Nat.lt_trichotomy i j with hij|hij|hij
   · exact absurd e (lt j i hj hij)
   · exact hij
   · exact absurd e.symm (lt i j hi hij)
 · have:=of_decide_eq_false h5'.1;omega
 · obtain⟨k,hk,rfl⟩:=getElem_of_mem hx;have:=sT.1 h5 k hk
   unfold vo at this;rw[List.getElem?_eq_getElem hk]at this;simp only[Bool.or_eq_false_iff,Bool.not_eq_false']at this;have hb:=this.2.1
   unfold tO at hb;simp only[aT]at hb;exact⟨AE hb.1,AE hb.2.1⟩
theorem H7 {f:nM} {left:Int} (hl:In left) (h:f.2.2.2.length<=maxLen):pF left (ed f left) (f.2.2.2.length<=M) :=
 wq (qs (GN hl h) λr k1 k2=>uO k1) λ⟨a,_⟩=>a
theorem H8 {f:nM} (h:f.2.2.2.length<=M):aK f=some f:=by
 unfold aK;rw[GQ h,mK]
theorem CY {f:nM} (h:f.2.2.2.length<=M):cg f f=some true:=by
 unfold cg;simp[GT h]
def OL (n:Nat) (o:List nC):Prop:=o.length<=n/\∀y∈o,y.2.2.2.2.length<=20
theorem Gk {n:Nat}:OL n []:=⟨Nat.zero_le _,λy hy=>by cases hy⟩
theorem OL.app {n m:Nat} {o p:List nC} (h:OL n o) (k:OL m p):OL (n+m) (o++p):=⟨by rw[length_append];exact Nat.add_le_add h.1 k.1,λy hy=>(mem_append.1 hy).elim (h.2 y) (k.2 y)⟩
theorem OL.le {n m:Nat} {o:List nC} (h:OL n o) (k:n<=m):OL m o:=⟨Nat.le_trans h.1 k,h.2⟩
theorem Gl {b:mL} (h:rm b) (i:Int) {f:nM} (hf:f.2.2.2.length<=20) (c:Int) (cl:Int×Bool) (q:Int->Option Bool) (hq:∀k,∃t,q k=some t) {k:Nat} (hk:k<b.2.2.1.length) {out:List nC} (ho:out.length<=10) :
 ∃o:List nC,(o=out\/∃y:nC,o=out++[y]/\y.2.2.2.2.length<=20)/\(((cond ((k:Int) != i) ((ak (b.2.2.2.2.1,b.2.2.2.2.2.1) cl.1).bind λt89=>(a9 (pp .i64 c t89) (k:Int)).bind λt92=>some t92) (some false)).bind λt93 =>
  (cond t93 ((q (k:Int)).bind λt101=>some t101) (some false)).bind λt102 =>
  cond t102 ((ao (b.2.2.2.2.1,b.2.2.2.2.2.1) cl.1 (k:Int)).bind λt110=>(aB f t110).bind λt111=>(app out [((k:Int),t111.1,t111.2.1,t111.2.2.1,t111.2.2.2)]).bind λzs114=>some (.inl (mH ((k:Int)+1),zs114)))
   (some (.inl (mH ((k:Int)+1),out)))):Option ((Int×List nC)⊕List nC))=some (.inl (((k+1:Nat):Int),o)):=by
 have s:=h.sok;have hv:=s.v
 have hn:=h.n6;obtain⟨e,he⟩:=A6 (v:=(b.2.2.2.2.1,b.2.2.2.2.2.1)) hv cl.1;obtain⟨t,ht,_⟩:=xx (pp .i64 c e) (k:=k) (by omega);obtain⟨u,hu⟩:=hq (k:Int);obtain⟨g,hg⟩:=BV (v:=(b.2.2.2.2.1,b.2.2.2.2.2.1)) hv cl.1 (k:=k) (by omega);have no:∃o:List nC,(o=out\/∃y:nC,o=out++[y]/\y.2.2.2.2.length<=20)/\(some (.inl (mH ((k:Int)+1),out)):Option ((Int×List nC)⊕List nC))=some (.inl (((k+1:Nat):Int),o)):=⟨out,.inl rfl,by rw[n4 (by omega)]⟩
 rw[n4 (by omega)]at no ⊢;rw[he,mK,ht,mK,hu,mK,hg,mK,FF hf,mK,qu (by show out.length+1<=_;omega),mK];cases (k:Int) != i<;>cases t<;>cases u<;>first|exact no|exact⟨_,.inr ⟨_,rfl,hf⟩,rfl⟩
theorem C0 {b:mL} (hn:b.2.2.1.length<=6) (step:Int×List nC->Option ((Int×List nC)⊕List nC))
 (hs:∀(k:Nat) (out:List nC),k<b.2.2.1.length->out.length<=10->∃o:List nC,(o=out\/∃y:nC,o=out++[y]/\y.2.2.2.2.length<=20)/\step ((k:Int),out)=some (.inl (((k+1:Nat):Int),o)))
 (he:∀out:List nC,step ((b.2.2.1.length:Int),out)=some (.inr out)):∃o:List nC,loop step (0,[])=some o/\OL 6 o:=by
 obtain⟨v,h1,h2⟩:=oh (step:=step) (λk z=>z.1=(k:Int)/\OL k z.2) b.2.2.1.length (λv=>OL 6 v)
  (λk z hk ⟨e1,e2⟩=>by
   obtain⟨i,out⟩:=z;simp only at e1 e2;subst e1;obtain⟨o,o1,o2⟩:=hs k out hk (by have:=e2.1;omega);refine .inl ⟨_,o2,rfl,?_⟩;rcases o1 with rfl|⟨y,rfl,hy⟩
   · exact e2.le (by omega)
   · exact e2.app ⟨Nat.le_refl _,λz hz=>by rw[mem_singleton.1 hz];exact hy⟩)
  (λz ⟨e1,e2⟩=>by
   obtain⟨i,out⟩:=z;simp only at e1 e2;subst e1;exact⟨out,he out,e2.le hn⟩) (x:=(0,[])) ⟨rfl,Gk⟩
 exact⟨v,h1,h2⟩
theorem IR {b:mL} (h:rm b) (i:Int) (f:nM):∃r,ap b i f=some r/\rm r.1/\OL 6 r.2:=by
 have s:=h.sok;have hn:=h.n6
 have hv:=s.v;have hq:=s.q
 obtain⟨q1,q2,q3,q4,q5⟩:=sF (xA h.ok).1;have hfb:=DQ h.f
 unfold ap;rw[sE h.le,mK,A5 h,mK];cases hp:mU i 0 ((b.2.2.1.length:Int)-1)with
 | false=>exact⟨(b,[]),rfl,h,Gk⟩
 | true =>
 rw[Bool.not_true,cF,BT,mK,mK];cases hf:tn f with
 | false=>exact⟨(b,[]),rfl,h,Gk⟩
 | true =>
 have hlen:f.2.2.2.length<=20:=by
  unfold tn at hf;simp only[aT,decide_eq_true_eq]at hf;omega
 obtain⟨p0,p1⟩:=wG hp;obtain⟨k,rfl⟩:∃k:Nat,i=(k:Int):=⟨i.toNat,by omega⟩;have hk:k<b.2.2.1.length:=by omega
 obtain⟨c,_,hc,_⟩:=zA b.1 (l:=b.2.2.1) (by omega);obtain⟨cl,hcl⟩:=BU (v:=(b.2.2.2.2.1,b.2.2.2.2.2.1)) hv (by show b.2.2.2.2.2.1.length<=6;omega) (k:=k) (by show k<b.2.2.2.2.2.1.length;omega) f.2.2.1;obtain⟨t,ht,_⟩:=xx (c:Int) (k:=k) (by omega);rw[Bool.not_true,cF,hc,mK,hcl,mK,ht,mK];have hdrop:∃r,((au b.2.2.2.2.2.2.2.2.2.1).bind λt51=>some ((b.1,b.2.1,b.2.2.1,b.2.2.2.1,b.2.2.2.2.1,b.2.2.2.2.2.1,b.2.2.2.2.2.2.1,b.2.2.2.2.2.2.2.1,b.2.2.2.2.2.2.2.2.1,t51,b.2.2.2.2.2.2.2.2.2.2),([]:List nC)))=some r/\rm r.1/\OL 6 r.2:=by
  rw[v9,mK];have s':=zE s hfb (d:=wH b.2.2.2.2.2.2.2.2.2.1) (v:=b.2.2.2.2.2.2.2.2.2.2) (xS q4) q5
  exact⟨_,rfl,CQ (zC s' s'.le) (s'.ok h.v),Gk⟩
 cases t with
 | false=>rw[Bool.not_false,cT,mK,cT];exact hdrop
 | true =>
 rw[Bool.not_true,cF,mK];cases cl.2 with
 | false=>rw[Bool.not_false,cT];exact hdrop
 | true =>
 rw[Bool.not_true,cF];obtain⟨F,hF,hFB⟩:=BS hfb cl.1 f.2.1 (k:Int);rw[hF,mK,v9,mK];have s':=zE s hFB (d:=b.2.2.2.2.2.2.2.2.2.1) (v:=wH b.2.2.2.2.2.2.2.2.2.2) q4 (xS q5)
 have hB:=CQ (zC s' s'.le) (s'.ok h.v);cases f.1 != 0 with
 | true =>
  obtain⟨u,hu⟩:=Gb hFB.n cl.1 f.1;obtain⟨o,o1,o6⟩:=C0 hn (λz=>aa b (k:Int) f (c:Int) cl u z.1 z.2) (λj out hj ho=>by
   obtain⟨o,o1,o2⟩:=Gl h (k:Int) hlen (c:Int) cl (λk=>cond (decide (u<0)) (some true) (some (u==k))) (λk=>by cases decide (u<0)<;>exact⟨_,rfl⟩) hj ho;refine⟨o,o1,?_⟩;show aa b (k:Int) f (c:Int) cl u (j:Int) out=_
   unfold aa;rw[nU (by omega),cT];exact o2) (λout=>by
   show aa b (k:Int) f (c:Int) cl u (b.2.2.1.length:Int) out=_;unfold aa;rw[nj (by omega),cF])
  rw[cT,hu,mK];exact⟨_,qJ o1 rfl,hB,o6⟩
 | false =>
  obtain⟨o,o1,o6⟩:=C0 hn (λz=>ac b (k:Int) f (c:Int) cl z.1 z.2) (λj out hj ho=>by
   obtain⟨o,o1,o2⟩:=Gl h (k:Int) hlen (c:Int) cl (λk=>cond (decide ((-1:Int)<0)) (some true) (some ((-1)==k))) (λk=>⟨true,rfl⟩) hj ho;refine⟨o,o1,?_⟩;show ac b (k:Int) f (c:Int) cl (j:Int) out=_
   unfold ac;rw[nU (by omega),cT];exact o2) (λout=>by
   show ac b (k:Int) f (c:Int) cl (b.2.2.1.length:Int) out=_;unfold ac;rw[nj (by omega),cF])
  rw[cF];exact⟨_,qJ o1 rfl,hB,o6⟩
theorem yK {α α' β β':Type} {f:α->Option (α⊕β)} {g:α'->Option (α'⊕β')} (vW:Nat->α->α'->Prop) (m:Nat) (Q:β->β'->Prop)
 (h:∀k x y,k<m->vW k x y->(∃x' y',f x=some (.inl x')/\g y=some (.inl y')/\vW (k+1) x' y')\/∃b c,f x=some (.inr b)/\g y=some (.inr c)/\Q b c)
 (he:∀x y,vW m x y->∃b c,f x=some (.inr b)/\g y=some (.inr c)/\Q b c):∀(d k:Nat) (x:α) (y:α'),k+d=m->vW k x y->∃b c,loop f x=some b/\loop g y=some c/\Q b c
 | 0,k,x,y,hk,hr=>by
  obtain rfl:k=m:=by omega
  obtain⟨b,c,e1,e2,q⟩:=he x y hr;exact⟨b,c,wF e1,wF e2,q⟩
 | d+1,k,x,y,hk,hr=>by
  rcases h k x y (by omega) hr with ⟨x',y',e1,e2,hr'⟩|⟨b,c,e1,e2,q⟩
  · obtain⟨b,c,l1,l2,q⟩:=yK vW m Q h he d (k+1) x' y' (by omega) hr';exact⟨b,c,CS e1 l1,CS e2 l2,q⟩
  · exact⟨b,c,wF e1,wF e2,q⟩
theorem Jb {b:mL} (h:rm b) (i:Int) (f:nM):∃r,ap b i f=some r/\rm r.1/\(r.1.1=b.1/\r.1.2.2.1=b.2.2.1)/\r.2.length<=6:=by
 have s:=h.sok;have hn:=h.n6
 have hv:=s.v;have hq:=s.q
 have h06:([]:List nC).length<=6:=by simp
 obtain⟨q1,q2,q3,q4,q5⟩:=sF (xA h.ok).1;have hfb:=DQ h.f
 unfold ap;rw[sE h.le,mK,A5 h,mK];cases hp:mU i 0 ((b.2.2.1.length:Int)-1)with
 | false=>exact⟨(b,[]),rfl,h,⟨rfl,rfl⟩,h06⟩
 | true =>
 rw[Bool.not_true,cF,BT,mK,mK];cases hf:tn f with
 | false=>exact⟨(b,[]),rfl,h,⟨rfl,rfl⟩,h06⟩
 | true =>
 have hlen:f.2.2.2.length<=20:=by
  unfold tn at hf;simp only[aT,decide_eq_true_eq]at hf;omega
 obtain⟨p0,p1⟩:=wG hp;obtain⟨k,rfl⟩:∃k:Nat,i=(k:Int):=⟨i.toNat,by omega⟩;have hk:k<b.2.2.1.length:=by omega
 obtain⟨c,_,hc,_⟩:=zA b.1 (l:=b.2.2.1) (by omega);obtain⟨cl,hcl⟩:=BU (v:=(b.2.2.2.2.1,b.2.2.2.2.2.1)) hv (by show b.2.2.2.2.2.1.length<=6;omega) (k:=k) (by show k<b.2.2.2.2.2.1.length;omega) f.2.2.1;obtain⟨t,ht,_⟩:=xx (c:Int) (k:=k) (by omega);rw[Bool.not_true,cF,hc,mK,hcl,mK,ht,mK];have hdrop:∃r,((au b.2.2.2.2.2.2.2.2.2.1).bind λt51=>some ((b.1,b.2.1,b.2.2.1,b.2.2.2.1,b.2.2.2.2.1,b.2.2.2.2.2.1,b.2.2.2.2.2.2.1,b.2.2.2.2.2.2.2.1,b.2.2.2.2.2.2.2.2.1,t51,b.2.2.2.2.2.2.2.2.2.2),([]:List nC)))=some r/\rm r.1/\(r.1.1=b.1/\r.1.2.2.1=b.2.2.1)/\r.2.length<=6:=by
  rw[v9,mK];have s':=zE s hfb (d:=wH b.2.2.2.2.2.2.2.2.2.1) (v:=b.2.2.2.2.2.2.2.2.2.2) (xS q4) q5
  exact⟨_,rfl,CQ (zC s' s'.le) (s'.ok h.v),⟨rfl,rfl⟩,h06⟩
 cases t with
 | false=>rw[Bool.not_false,cT,mK,cT];exact hdrop
 | true =>
 rw[Bool.not_true,cF,mK];cases cl.2 with
 | false=>rw[Bool.not_false,cT];exact hdrop
 | true =>
 rw[Bool.not_true,cF];obtain⟨F,hF,hFB⟩:=BS hfb cl.1 f.2.1 (k:Int);rw[hF,mK,v9,mK];have s':=zE s hFB (d:=b.2.2.2.2.2.2.2.2.2.1) (v:=wH b.2.2.2.2.2.2.2.2.2.2) q4 (xS q5)
 have hB:=CQ (zC s' s'.le) (s'.ok h.v);cases f.1 != 0 with
 | true =>
  obtain⟨u,hu⟩:=Gb hFB.n cl.1 f.1;obtain⟨o,o1,o6⟩:=CU hn (λz=>aa b (k:Int) f (c:Int) cl u z.1 z.2) (λj out hj ho=>by
   obtain⟨o,o1,o2⟩:=HX h (k:Int) hlen (c:Int) cl (λk=>cond (decide (u<0)) (some true) (some (u==k))) (λk=>by cases decide (u<0)<;>exact⟨_,rfl⟩) hj ho;refine⟨o,o1,?_⟩;show aa b (k:Int) f (c:Int) cl u (j:Int) out=_
   unfold aa;rw[nU (by omega),cT];exact o2) (λout=>by
   show aa b (k:Int) f (c:Int) cl u (b.2.2.1.length:Int) out=_;unfold aa;rw[nj (by omega),cF])
  rw[cT,hu,mK];exact⟨_,qJ o1 rfl,hB,⟨rfl,rfl⟩,o6⟩
 | false =>
  obtain⟨o,o1,o6⟩:=CU hn (λz=>ac b (k:Int) f (c:Int) cl z.1 z.2) (λj out hj ho=>by
   obtain⟨o,o1,o2⟩:=HX h (k:Int) hlen (c:Int) cl (λk=>cond (decide ((-1:Int)<0)) (some true) (some ((-1)==k))) (λk=>⟨true,rfl⟩) hj ho;refine⟨o,o1,?_⟩;show ac b (k:Int) f (c:Int) cl (j:Int) out=_
   unfold ac;rw[nU (by omega),cT];exact o2) (λout=>by
   show ac b (k:Int) f (c:Int) cl (b.2.2.1.length:Int) out=_;unfold ac;rw[nj (by omega),cF])
  rw[cF];exact⟨_,qJ o1 rfl,hB,⟨rfl,rfl⟩,o6⟩
theorem FJ {n:nh} (h:wW M n):cY n=some n:=by
 have h1:n.1.length<=1048576:=h.1.1;have h2:n.2.1.length<=1048576:=h.2.1
 have h3:n.2.2.length<=1048576:=h.2.2;unfold cY;rw[qY (by show 0+n.2.1.length<=_;omega),qY (by show 0+n.2.2.length<=_;omega),nil_append,nil_append,mK,mK];obtain⟨v,e1,rfl⟩:=oh (step:=λz:Int×List mL=>ba n z.1 z.2) (λk z=>z=((k:Int),n.1.take k)) n.1.length (λv=>v=n.1)
  (λk z hk e=>by
   subst e;refine .inl ⟨_,?_,rfl⟩;have et:n.1.take (k+1)=n.1.take k++[n.1[k]]:=by rw[take_add_one,List.getElem?_eq_getElem hk];rfl
   show ba n (k:Int) (n.1.take k)=_;unfold ba;rw[nU (by omega),cT,n8 hk,mK,sE (h.1.2 _ (getElem_mem hk)),mK,qY (by rw[length_take];show _+1<=_;omega),mK,n4 (by omega),et])
  (λz e=>by
   subst e;rw[take_length];refine⟨_,?_,rfl⟩;show ba n (n.1.length:Int) n.1=_
   unfold ba;rw[nj (by omega),cF]) (x:=(0,[])) rfl
 exact qJ e1 rfl
theorem FK {n:nh} (h:wW M n):cQ n=some n:=by
 have h1:n.1.length<=1048576:=h.1.1;have h2:n.2.1.length<=1048576:=h.2.1
 have h3:n.2.2.length<=1048576:=h.2.2;unfold cQ;rw[qY (by show 0+n.2.1.length<=_;omega),qY (by show 0+n.2.2.length<=_;omega),nil_append,nil_append,mK,mK];obtain⟨v,e1,rfl⟩:=oh (step:=λz:Int×List mL=>aW n z.1 z.2) (λk z=>z=((k:Int),n.1.take k)) n.1.length (λv=>v=n.1)
  (λk z hk e=>by
   subst e;refine .inl ⟨_,?_,rfl⟩;have et:n.1.take (k+1)=n.1.take k++[n.1[k]]:=by rw[take_add_one,List.getElem?_eq_getElem hk];rfl
   show aW n (k:Int) (n.1.take k)=_;unfold aW;rw[nU (by omega),cT,n8 hk,mK,vm (h.1.2 _ (getElem_mem hk)),mK,qY (by rw[length_take];show _+1<=_;omega),mK,n4 (by omega),et])
  (λz e=>by
   subst e;rw[take_length];refine⟨_,?_,rfl⟩;show aW n (n.1.length:Int) n.1=_
   unfold aW;rw[nj (by omega),cF]) (x:=(0,[])) rfl
 exact qJ e1 rfl
theorem H9:eq=aP:=rfl
theorem Ha {n:nh} (hl:n.2.1.length<=1048576) (b p:Int):∃r,aP n b p=some r/\(r.2.2=true->∃x∈n.2.1,(r.1,r.2.1)=(x.1,x.2.1)\/(r.1,r.2.1)=(x.2.2.1,x.2.2.2)):=by
 obtain⟨v,e1,hv⟩:=oh (β:=Unit⊕(Int×Int×Bool)) (step:=λz=>bu n b p z) (λk i=>i=(k:Int)) n.2.1.length
  (λv=>∀r,v=Sum.inr r->∃x∈n.2.1,(r.1,r.2.1)=(x.1,x.2.1)\/(r.1,r.2.1)=(x.2.2.1,x.2.2.2))
  (λk i hk e=>by
   subst e;show (∃y,bu n b p (k:Int)=_/\_)\/_
   unfold bu;rw[nU (by omega),cT,n8 hk,mK,n4 (by omega)];have hx:n.2.1[k]∈n.2.1:=getElem_mem hk
   generalize n.2.1[k]=x at hx;have a1:cond (x.1==b) (some (x.2.1==p)) (some false)=some (x.1==b&&x.2.1==p):=by cases x.1==b<;>rfl
   have a2:cond (x.2.2.1==b) (some (x.2.2.2==p)) (some false)=some (x.2.2.1==b&&x.2.2.2==p):=by cases x.2.2.1==b<;>rfl
   rw[a1,a2];cases (x.1==b&&x.2.1==p)with
   | true=>exact .inr ⟨_,rfl,λr hr=>by cases hr;exact⟨x,hx,.inr rfl⟩⟩
   | false =>
    cases (x.2.2.1==b&&x.2.2.2==p)with
    | true=>exact .inr ⟨_,rfl,λr hr=>by cases hr;exact⟨x,hx,.inl rfl⟩⟩
    | false=>exact .inl ⟨_,rfl,rfl⟩)
  (λi e=>by
   subst e;show ∃v,bu n b p (n.2.1.length:Int)=_/\_
   unfold bu;rw[nj (by omega),cF];exact⟨_,rfl,λr hr=>by cases hr⟩) (x:=0) rfl
 unfold aP;rw[e1,mK];cases v with
 | inl u=>exact⟨_,rfl,λh=>by cases h⟩
 | inr r=>exact⟨r,rfl,λ_=>hv r rfl⟩
abbrev pN:=Int×Int×Int×Int×Int×List Int
structure FI (n:nh) (bs:List mL):Prop where
 c:bs.length=n.1.length
 ok:∀x∈bs,rm x
 id:∀i (h:i<bs.length) (k:i<n.1.length),bs[i].1=n.1[i].1/\bs[i].2.2.1=n.1[i].2.2.1
def C1 (n:nh) (w:pN):Prop:=∃k:Nat,k<n.1.length/\w.1=(k:Int)
theorem FI.set {n:nh} {bs:List mL} (h:FI n bs) {i:Nat} (hi:i<bs.length) {x:mL} (hx:rm x) (h1:x.1=bs[i].1/\x.2.2.1=bs[i].2.2.1):FI n (bs.set i x):=by
 refine⟨by rw[length_set];exact h.c,λy hy=>?_,λj hj hk=>?_⟩
 · rcases List.mem_or_eq_of_mem_set hy with hy|rfl
   · exact h.ok y hy
   · exact hx
 · rw[List.getElem_set];split
   · rename_i e;subst e;obtain⟨k1,k2⟩:=h.id i hi hk;exact⟨h1.1.trans k1,h1.2.trans k2⟩
   · exact h.id j (by rwa [length_set]at hj) hk
theorem FI.ns {n:nh} (hn:A7 n) {bs:List mL} (h:FI n bs):NS (bs,n.2.1,n.2.2):=⟨by have:=h.c;have:=hn.n1;show bs.length<_;omega,hn.b.s.l,λb hb=>(h.ok b hb).w.p⟩
theorem FM {n:nh} (hn:A7 n) {bs:List mL} (h:FI n bs) {c q:Int} (hc:∃x∈n.2.1,(c,q)=(x.1,x.2.1)\/(c,q)=(x.2.2.1,x.2.2.2)) :
 ∃k,∃hk:k<bs.length,c=(k:Int)/\∃y,at? bs[k].2.2.1 q=some y/\bL (bs,n.2.1,n.2.2) c q=some y.1:=by
 obtain⟨x,hx,he⟩:=hc;obtain⟨h1,h2⟩:=hn.ends x hx;have key:∃y,oe n c q=some y:=by
  rcases he with he|he
  · cases he;exact h1
  · cases he;exact h2
 obtain⟨y,hy⟩:=key;have hy':=hy
 unfold oe at hy;cases hp:mU c 0 ((n.1.length:Int)-1)with
 | false=>rw[hp]at hy;cases hy
 | true =>
  obtain⟨k,hk,ec,e⟩:=sD hp;rw[hp,e]at hy;simp only[cT]at hy;have hkb:k<bs.length:=by rw[h.c];exact hk
  obtain⟨i1,i2⟩:=h.id k hkb hk;cases hq:mU q 0 ((n.1[k].2.2.1.length:Int)-1)with
  | false=>rw[hq]at hy;cases hy
  | true =>
   rw[hq,cT]at hy;refine⟨k,hkb,ec,y,by rw[i2];exact hy,?_⟩;rw[Ji (h.ns hn)];have:oe (bs,n.2.1,n.2.2) c q=some y:=by
    unfold oe;rw[show ((bs,n.2.1,n.2.2):nh).1=bs from rfl,h.c,hp,ec,n8 hkb];simp only[cT];rw[i2,hq,cT];exact hy
   rw[this]
def DL (u:pN):Prop:=u.2.2.2.2.2.length<=20
def zJ (outs:List nC) (k:Nat):List (Bool×nC):=(outs.take k).map (λx=>(false,x))++(outs.drop k).map (λx=>(true,x))
theorem Hb (outs:List nC) (k:Nat):(zJ outs k).length=outs.length:=by
 unfold zJ;rw[length_append,length_map,length_map,length_take,length_drop];omega
theorem I9 {outs:List nC} {k:Nat} (hk:k<outs.length):uv (zJ outs k) k=some outs[k]:=by
 have e:(zJ outs k)[k]?=some (true,outs[k]):=by
  unfold zJ;have hl:((outs.take k).map (λx=>(false,x))).length=k:=by rw[length_map,length_take];omega
  rw[List.getElem?_append_right (by omega),hl,Nat.sub_self,List.getElem?_map,List.getElem?_drop,Nat.add_zero,List.getElem?_eq_getElem hk];rfl
 unfold uv;rw[e];rfl
theorem Hc {outs:List nC} {k:Nat} (hk:k<outs.length):(zJ outs k).set k (false,outs[k])=zJ outs (k+1):=by
 unfold zJ;have hl:((outs.take k).map (λx=>(false,x))).length=k:=by rw[length_map,length_take];omega
 have et:outs.take (k+1)=outs.take k++[outs[k]]:=by rw[take_add_one,List.getElem?_eq_getElem hk];rfl
 rw[List.set_append_right _ _ (by omega),hl,Nat.sub_self,List.drop_eq_getElem_cons hk,List.map_cons,List.set_cons_zero,et,List.map_append,List.append_assoc];rfl
theorem Gm {n:nh} (hn:A7 n) {bs:List mL} (h:FI n bs) {i:Nat} {x:mL} {outs:List nC} (ho:outs.length<=6) {wy:pN} (hset:FI n (bs.set i x)) {got todo:List pN} (hg:got.length<=1000) (ht:todo.length<=1000) (hin:∀w∈todo,C1 n w) (hgd:∀u∈got,DL u) (hod:∀y∈outs,y.2.2.2.2.length<=20) (v6:Int) (wb:Int)
 (step:Int×List pN×List pN×List (Bool×nC)->Option ((Int×List pN×List pN×List (Bool×nC))⊕(List pN×List pN×List (Bool×nC)))) (p0:vR) (hp0:p0.1=bs.set i x/\p0.2.1=n.2.1/\p0.2.2.1=n.2.2)
 (hstep:∀t g d l,step (t,g,d,l)=cond (decide (t<(outs.length:Int)))
  ((ix l.length t).bind λj83=>(uv l j83).bind λx84=>(aP (bs.set i x,n.2.1,n.2.2) wb x84.1).bind λt93 =>
   cond (!t93.2.2) ((app g [(wb,x84.1,x84.2.1,x84.2.2.1,x84.2.2.2.1,x84.2.2.2.2)]).bind λzs108=>some (.inl (mH (t+1),zs108,d,l.set j83 (false,x84))))
    ((ix (bs.set i x).length t93.1).bind λj114=>((bs.set i x)[j114]?).bind λx116=>(at? x116.2.2.1 t93.2.1).bind λx118 =>
     cond x118.1 ((app d [(t93.1,t93.2.1,x84.2.1,x84.2.2.1,x84.2.2.2.1,x84.2.2.2.2)]).bind λzs128=>some (.inl (mH (t+1),g,zs128,l.set j83 (false,x84)))) (some (.inl (mH (t+1),g,d,l.set j83 (false,x84))))))
  (some (.inr (g,d,l)))) :
 ∃g d l,loop step (0,got,todo,outs.map λx=>(true,x))=some (g,d,l)/\loop (λz:Int×Int×List pN×List pN=>aI p0 wb outs z.1 z.2.1 z.2.2.1 z.2.2.2) (0,v6,todo,got)=some (v6,d,g)/\g.length<=got.length+6/\d.length<=todo.length+6/\(∀w∈d,C1 n w)/\∀u∈g,DL u:=by
 obtain⟨b,c,e1,e2,q1,q2,q3,q4,q5⟩:=yK (f:=step) (g:=λz:Int×Int×List pN×List pN=>aI p0 wb outs z.1 z.2.1 z.2.2.1 z.2.2.2)
  (λk u v=>∃g d,u=((k:Int),g,d,zJ outs k)/\v=((k:Int),v6,d,g)/\g.length<=got.length+k/\d.length<=todo.length+k/\(∀w∈d,C1 n w)/\∀u∈g,DL u) outs.length
  (λb c=>c=(v6,b.2.1,b.1)/\b.1.length<=got.length+6/\b.2.1.length<=todo.length+6/\(∀w∈b.2.1,C1 n w)/\∀u∈b.1,DL u)
  (λk u v hk ⟨g,d,eu,ev,h1,h2,h3,h4⟩=>by
   subst eu ev;left;rw[hstep];show ∃x' y',_=some (Sum.inl x')/\aI p0 wb outs (k:Int) v6 d g=some (Sum.inl y')/\_
   unfold aI;rw[nU (by omega),cT,cT,Hb,pR hk,mK,I9 hk,mK,n8 hk,mK,mK,hp0.1,hp0.2.1,hp0.2.2,H9,n4 (by omega),Hc hk];have hox:=hod _ (getElem_mem hk)
   obtain⟨r,r1,r2⟩:=Ha (n:=(bs.set i x,n.2.1,n.2.2)) hn.b.s.l wb outs[k].1;rw[r1,mK,mK];cases hr:r.2.2 with
   | false =>
    have hg1:∀w:pN,app g [w]=some (g++[w]):=λw=>qY (by show g.length+1<=_;omega);simp only[Bool.not_false,cT,mK,hg1];refine⟨_,_,rfl,rfl,_,_,rfl,rfl,?_,by omega,h3,λu hu=>?_⟩
    · rw[length_append];show g.length+1<=_;omega
    · rcases mem_append.1 hu with hu|hu
      · exact h4 u hu
      · rw[mem_singleton]at hu;subst hu;exact hox
   | true =>
    obtain⟨m,hm,em,y,y1,y2⟩:=FM hn hset (r2 hr);rw[Bool.not_true,cF,cF,y2,mK,em,pR hm,mK,List.getElem?_eq_getElem hm,mK,y1,mK];cases y.1 with
    | false=>exact⟨_,_,rfl,rfl,_,_,rfl,rfl,by omega,by omega,h3,h4⟩
    | true =>
     have hd1:∀w:pN,app d [w]=some (d++[w]):=λw=>qY (by show d.length+1<=_;omega);simp only[cT,mK,hd1];refine⟨_,_,rfl,rfl,_,_,rfl,rfl,by omega,?_,λw hw=>?_,h4⟩
     · rw[length_append];show d.length+1<=_;omega
     · rcases mem_append.1 hw with hw|hw
       · exact h3 w hw
       · rw[mem_singleton]at hw;subst hw;exact⟨m,by rw[hset.c]at hm;exact hm,rfl⟩)
  (λu v ⟨g,d,eu,ev,h1,h2,h3,h4⟩=>by
   subst eu ev;rw[hstep];show ∃b c,_/\aI p0 wb outs (outs.length:Int) v6 d g=some (Sum.inr c)/\_
   unfold aI;rw[nj (by omega),cF,cF];exact⟨_,_,rfl,rfl,rfl,by show g.length<=_;omega,by show d.length<=_;omega,h3,h4⟩) outs.length 0 (0,got,todo,outs.map λx=>(true,x)) (0,v6,todo,got) (by omega) ⟨got,todo,rfl,rfl,by omega,by omega,hin,hgd⟩
 exact⟨b.1,b.2.1,b.2.2,e1,by rw[e2,q1],q2,q3,q4,q5⟩
theorem Ia (id:Int) {l:List Pt} (hn:l.length<9223372036854775807) (p:Int):∃v,(∀N:nh,∀b:Int,∀a:mL,at? N.1 b=some a->a.1=id->a.2.2.1=l->bV N b p=some v)/\(∀N:nh,∀b:Int,∀a:mL,at? N.1 b=some a->a.1=id->a.2.2.1=l->bK N b p=some v):=by
 obtain⟨c,h1,h2,h3⟩:=zA id hn;refine⟨qb c p,λN b a hb e1 e2=>?_,λN b a hb e1 e2=>?_⟩
 · unfold bV;rw[hb,mK,mK,e1,e2,h2,mK,HV h1,mK]
 · unfold bK;rw[hb,mK,mK,e1,e2,h3,mK,HU,mK]
def Gn (n:nh) (k:Nat) (x:Int×List pN×List Int×List pN×List mL) (y:Int×List mL×List nD×List oT×List pN×List pN×List Int):Prop :=
 ∃bs todo got vis,x=((k:Int),got,vis,todo,bs)/\y=((k:Int),bs,n.2.1,n.2.2,todo,got,vis)/\FI n bs/\got.length<=6*k/\todo.length<=1+6*k/\vis.length<=k/\(∀w∈todo,C1 n w)/\∀u∈got,DL u
theorem DV {n:nh} (hn:A7 n) {k:Nat} (hk:k<60) {bs:List mL} {w:pN} {rest got:List pN} {vis:List Int} (h:FI n bs) (hg:got.length<=6*k) (ht:rest.length<=6*k) (hv:vis.length<=k) (hin:∀u∈w::rest,C1 n u) (hgd:∀u∈got,DL u) :
 ∃x' y',aC n (k:Int) got vis (w::rest) bs=some (.inl x')/\aq (k:Int) bs n.2.1 n.2.2 (w::rest) got vis=some (.inl y')/\Gn n (k+1) x' y':=by
 obtain⟨i,hi,ei⟩:=hin w (by simp);have hib:i<bs.length:=by rw[h.c];exact hi
 have hB:=h.ok _ (getElem_mem hib);obtain⟨r,r1,r2,r3,r4⟩:=Jb hB w.2.1 w.2.2;obtain⟨r',r1',_,ro⟩:=IR hB w.2.1 w.2.2;obtain rfl:r'=r:=Option.some.inj (r1'.symm.trans r1);have rs:aV bs[i] w.2.1 w.2.2=some r':=(FG hB.w hB.le w.2.1 w.2.2).trans r1
 have hset:=h.set hib r2 r3;obtain⟨v,v1,v2⟩:=Ia bs[i].1 (l:=bs[i].2.2.1) hB.w.p w.2.1;have s1:bV (bs,n.2.1,n.2.2) (i:Int) w.2.1=some v:=v1 _ _ _ (n8 hib) rfl rfl
 have hil:i<(bs.set i r'.1).length:=by rw[length_set];exact hib
 have s2:bK (bs.set i r'.1,n.2.1,n.2.2) (i:Int) w.2.1=some v:=v2 _ _ r'.1 (by
  show at? (bs.set i r'.1) (i:Int)=_;rw[n8 hil,List.getElem_set_self]) r3.1 r3.2
 have c1:vY (w::rest).length 1 ((w::rest).length:Int)=some (1,(w::rest).length):=by
  unfold vY;rw[if_pos (by omega),if_pos (by rw[List.length_cons];omega),if_pos (by omega)];simp
 have cr:((w::rest).take (w::rest).length).drop 1=rest:=by rw[take_length];rfl
 have hpos:decide (((w::rest).length:Int)>0)=true:=dT (by rw[List.length_cons];omega);have h60:decide ((k:Int)<60)=true:=dT (by omega)
 have i0:ix (w::rest).length 0=some 0:=pR (k:=0) (by simp);have hr:∀u∈rest,C1 n u:=λu hu=>hin u (mem_cons_of_mem _ hu)
 have hva:∀y:Int,app vis [y]=some (vis++[y]):=λy=>qY (by show vis.length+1<=_;omega);unfold aC aq;simp only[hpos,h60,cT,mK,i0,show (w::rest)[0]?=some w from rfl,c1,cr,ei,pR hib,List.getElem?_eq_getElem hib,s1,s2,r1,rs,hva,n4 (show k<9223372036854775807 by omega)];cases v with
 | true =>
  obtain⟨g,d,l,o1,o2,o3,o4,o5,o6⟩:=Gm hn h (i:=i) (x:=r'.1) (outs:=r'.2) r4 (wy:=w) hset (got:=got) (todo:=rest) (by omega) (by omega) hr hgd ro.2 (((k+1:Nat)):Int) w.1
   (λz=>dc n bs w r' i z.1 z.2.1 z.2.2.1 z.2.2.2) (bs.set i r'.1,n.2.1,n.2.2,rest,got,vis++[(i:Int)],((k+1:Nat):Int)) ⟨rfl,rfl,rfl⟩ (λt g d l=>by
    show dc n bs w r' i t g d l=_;unfold dc;rfl)
  rw[ei]at o2;simp only[cT,mK];unfold bM;simp only[o1,o2,mK];exact⟨_,_,rfl,rfl,bs.set i r'.1,d,g,vis++[(i:Int)],rfl,rfl,hset,by omega,by omega,by rw[length_append];show vis.length+1<=_;omega,o5,o6⟩
 | false =>
  obtain⟨g,d,l,o1,o2,o3,o4,o5,o6⟩:=Gm hn h (i:=i) (x:=r'.1) (outs:=r'.2) r4 (wy:=w) hset (got:=got) (todo:=rest) (by omega) (by omega) hr hgd ro.2 (((k+1:Nat)):Int) w.1
   (λz=>de n bs w r' i z.1 z.2.1 z.2.2.1 z.2.2.2) (bs.set i r'.1,n.2.1,n.2.2,rest,got,vis,((k+1:Nat):Int)) ⟨rfl,rfl,rfl⟩ (λt g d l=>by
    show de n bs w r' i t g d l=_;unfold de;rfl)
  rw[ei]at o2;simp only[cF,mK];unfold bM;simp only[o1,o2,mK];exact⟨_,_,rfl,rfl,bs.set i r'.1,d,g,vis,rfl,rfl,hset,by omega,by omega,by omega,o5,o6⟩
theorem IS {n:nh} (hn:A7 n) {b p:Int} {c:Nat} (hb:b=(c:Int)) (hc:c<n.1.length) (f:nM) (hbs:∀x∈n.1,rm x) :
 ∃q s,eR n b p f=some q/\loop (λz:Int×List mL×List nD×List oT×List pN×List pN×List Int=>aq z.1 z.2.1 z.2.2.1 z.2.2.2.1 z.2.2.2.2.1 z.2.2.2.2.2.1 z.2.2.2.2.2.2) (0,n.1,n.2.1,n.2.2,[(b,p,f.1,f.2.1,f.2.2.1,f.2.2.2)],[],[])=some s/\((s.2.1,s.2.2.1,s.2.2.2.1),s.2.2.2.2.2.1,s.1)=(q.1,q.2.1,q.2.2.2)/\FI n q.1.1/\q.1.2=n.2/\q.2.1.length<=360/\∀u∈q.2.1,DL u:=by
 obtain⟨u,s,e1,e2,q1,q2,q3,q4⟩:=yK (f:=λz:Int×List pN×List Int×List pN×List mL=>aC n z.1 z.2.1 z.2.2.1 z.2.2.2.1 z.2.2.2.2)
  (g:=λz:Int×List mL×List nD×List oT×List pN×List pN×List Int=>aq z.1 z.2.1 z.2.2.1 z.2.2.2.1 z.2.2.2.2.1 z.2.2.2.2.2.1 z.2.2.2.2.2.2) (Gn n) 60
  (λu s=>((s.2.1,s.2.2.1,s.2.2.2.1),s.2.2.2.2.2.1,s.1)=((u.2.2.2,n.2.1,n.2.2),u.2.1,u.1)/\FI n u.2.2.2/\u.2.1.length<=360/\∀w∈u.2.1,DL w)
  (λk x y hk ⟨bs,todo,got,vis,ex,ey,h1,h2,h3,h4,h5,h6⟩=>by
   subst ex ey;cases todo with
   | nil =>
    right;show ∃b c,aC n (k:Int) got vis [] bs=some (.inr b)/\aq (k:Int) bs n.2.1 n.2.2 [] got vis=some (.inr c)/\_
    unfold aC aq;exact⟨_,_,rfl,rfl,rfl,h1,by show got.length<=360;omega,h6⟩
   | cons w rest=>exact .inl (DV hn hk h1 h2 (by rw[List.length_cons]at h3;omega) h4 h5 h6))
  (λx y ⟨bs,todo,got,vis,ex,ey,h1,h2,h3,h4,h5,h6⟩=>by
   subst ex ey;show ∃b c,aC n ((60:Nat):Int) got vis todo bs=some (.inr b)/\aq ((60:Nat):Int) bs n.2.1 n.2.2 todo got vis=some (.inr c)/\_
   unfold aC aq;have h60:decide (((60:Nat):Int)<60)=false:=rfl
   rw[h60];cases decide ((todo.length:Int)>0)<;>exact⟨_,_,rfl,rfl,rfl,h1,by show got.length<=360;omega,h6⟩) 60 0 (0,[],[],[(b,p,f.1,f.2.1,f.2.2.1,f.2.2.2)],n.1) (0,n.1,n.2.1,n.2.2,[(b,p,f.1,f.2.1,f.2.2.1,f.2.2.2)],[],[]) (by omega)
   ⟨n.1,_,[],[],rfl,rfl,⟨rfl,hbs,λi _ _=>⟨rfl,rfl⟩⟩,by simp,by simp,by simp,λw hw=>by rw[mem_singleton]at hw;subst hw;exact⟨c,hc,hb⟩,λu hu=>by simp at hu⟩
 exact⟨_,s,qJ e1 rfl,e2,q1,q2,rfl,q3,q4⟩
theorem FO {n:nh} (h:tA n) (hl:wW M n) (b p:Int) (f:nM):∃r:nh×List pN×Int,bX n b p f=some r/\cU n b p f=some r/\wW M r.1/\r.2.1.length<=360/\∀u∈r.2.1,DL u:=by
 have hb:=h.c;unfold bX cU eQ ew;rw[EK h.s,mK,FK hl,mK,Ja h,J9 h,FJ hl];simp only[mK];have hnil:wW M n/\([]:List pN).length<=360/\∀u∈([]:List pN),DL u:=⟨hl,by simp,λu hu=>by simp at hu⟩
 cases hp:yJ n with
 | false =>
  cases oe n b p<;>exact⟨(n,[],0),rfl,rfl,hnil⟩
 | true =>
  have hR:=H6 h hp;cases ho:oe n b p with
  | none =>
   refine⟨(n,[],0),rfl,?_,hnil⟩;rw[oB (n:=(n.1.length:Int)-1) (by omega) (by omega),sI];unfold oe at ho;simp only[Bool.not_true,cF,mK];cases h1:mU b 0 ((n.1.length:Int)-1)with
   | false=>rfl
   | true =>
    obtain⟨k,hk,_,e⟩:=sD h1;have hpl:=h.s.p _ (getElem_mem hk)
    rw[h1,e]at ho;simp only[cT]at ho;rw[e];simp only[Bool.not_true,cF,mK];rw[oB (n:=(n.1[k].2.2.1.length:Int)-1) (by omega) (by omega),sI];cases h2:mU p 0 ((n.1[k].2.2.1.length:Int)-1)with
    | false=>rfl
    | true =>
     obtain⟨j,hj,_,e2⟩:=sD h2;rw[h2,cT,e2]at ho;cases ho
  | some y =>
   obtain⟨k,hk,eb,e,_⟩:∃k,∃hk:k<n.1.length,b=(k:Int)/\at? n.1[k].2.2.1 p=some y/\mU p 0 ((n.1[k].2.2.1.length:Int)-1)=true:=by
    unfold oe at ho;cases h1:mU b 0 ((n.1.length:Int)-1)with
    | false=>rw[h1]at ho;cases ho
    | true =>
     obtain⟨k,hk,eb,e⟩:=sD h1;rw[h1,e]at ho;simp only[cT]at ho;cases h2:mU p 0 ((n.1[k].2.2.1.length:Int)-1)with
     | false=>rw[h2]at ho;cases ho
     | true=>rw[h2,cT]at ho;exact⟨k,hk,eb,ho,h2⟩
   rename_i hpp;have hpl:=h.s.p _ (getElem_mem hk)
   have hbs:∀x∈n.1,rm x:=λx hx=>CQ (h.w x hx) (hR.ok x hx);obtain⟨q,s,q1,q2,q3,q4,q5,q6,q7⟩:=IS hR (p:=p) eb hk f hbs;refine⟨(q.1,q.2.1,q.2.2.2),?_,?_,?_,q6,q7⟩
   · simp only[cT,mK,Bool.not_true,cF,q1]
   · rw[oB (n:=(n.1.length:Int)-1) (by omega) (by omega),sI];have h1:mU b 0 ((n.1.length:Int)-1)=true:=by rw[eb];exact zy hk
     rw[h1,eb,n8 hk];simp only[Bool.not_true,cF,mK];rw[oB (n:=(n.1[k].2.2.1.length:Int)-1) (by omega) (by omega),sI,hpp];simp only[Bool.not_true,cF,mK];rw[eb]at q2;refine (congrArg (λo=>Option.bind (Option.bind o _) _) q2).trans ?_;show some ((s.2.1,s.2.2.1,s.2.2.2.1),s.2.2.2.2.2.1,s.1)=_
     rw[q3]
   · refine⟨⟨by rw[q4.c];exact hl.1.1,λx hx=>(q4.ok x hx).le⟩,?_⟩;rw[q5];exact hl.2

end Go.V.W

