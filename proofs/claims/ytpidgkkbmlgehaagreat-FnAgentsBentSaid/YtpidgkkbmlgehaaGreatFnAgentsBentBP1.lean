/- The law FnAgentsBent: part of the proof that for every input it returns true. No condition. -/
import Derived.KernelRfl
import Derived.Test.YtpidgkkbmlgehaaGreatFnAgentsBent
import Derived.Test.YtpidgkkbmlgehaaGreatV4
open List (any_eq_false any_eq_true append_assoc cons_lt_cons_iff getElem_mem getElem_of_mem length_append length_map length_set length_take map_append mem_append mem_cons mem_flatMap mem_map mem_range nil_append not_mem_nil pairwise_append pairwise_iff_getElem range_succ take_add_one take_append_drop take_length)
set_option linter.unusedVariables false
set_option linter.unusedSimpArgs false
namespace Go.V.W
theorem an {α β:Type} (a:α) (f:α->Option β):(some a).bind f=f a:=rfl
abbrev z6:Type:=Aa
abbrev M:Nat:=1048576
abbrev In (left:Int):Prop:=0<=left/\left<=1048576
theorem In.next {left r:Int} (h:In left) (h1:0<=r) (h2:r<=left):In r:=⟨h1,by have:=h.2;omega⟩
theorem Rm {n:Nat} (h:n<=M):n<=4294967295:=Nat.le_trans h (by decide)
def xV (n:Nat) (b:td):Prop:=b.2.1.length<=n/\b.2.2.1.length<=n/\b.2.2.2.1.length<=n/\b.2.2.2.2.1.length<=n/\b.2.2.2.2.2.1.length<=n
def R6 (n:Nat) (v:wQ):Prop:=v.2.2.1.length<=n/\v.2.2.2.length<=n
def E4 (n:Nat) (x:tg):Prop:=x.1.length<=n/\R6 n x.2
def AT (n:Nat) (l:List tg):Prop:=l.length<=n/\∀x∈l,E4 n x
def vQ (n:Nat) (p:tQ):Prop:=AT n p.2.2.2.2
def jP (j:um):tQ:=(j.2.2.2.1,j.2.2.2.2.1,j.2.2.2.2.2.1,j.2.2.2.2.2.2.1,j.2.2.2.2.2.2.2.1)
def jB (a0:um):td:=(a0.2.2.2.2.2.2.2.2.1,a0.2.2.2.2.2.2.2.2.2.1,a0.2.2.2.2.2.2.2.2.2.2.1,a0.2.2.2.2.2.2.2.2.2.2.2.1,a0.2.2.2.2.2.2.2.2.2.2.2.2.1,a0.2.2.2.2.2.2.2.2.2.2.2.2.2.1,a0.2.2.2.2.2.2.2.2.2.2.2.2.2.2.1,a0.2.2.2.2.2.2.2.2.2.2.2.2.2.2.2.1,a0.2.2.2.2.2.2.2.2.2.2.2.2.2.2.2.2.1,a0.2.2.2.2.2.2.2.2.2.2.2.2.2.2.2.2.2.1,a0.2.2.2.2.2.2.2.2.2.2.2.2.2.2.2.2.2.2.1)
def Nu (n:Nat) (j:um):Prop:=j.2.1.length<=n/\vQ n (jP j)/\xV n (jB j)
def Rn (n:Nat) (l:List um):Prop:=l.length<=n/\∀x∈l,Nu n x
def aB (a0:tB):td:=(a0.1,a0.2.1,a0.2.2.1,a0.2.2.2.1,a0.2.2.2.2.1,a0.2.2.2.2.2.1,a0.2.2.2.2.2.2.1,a0.2.2.2.2.2.2.2.1,a0.2.2.2.2.2.2.2.2.1,a0.2.2.2.2.2.2.2.2.2.1,a0.2.2.2.2.2.2.2.2.2.2.1)
def BI (n:Nat) (a:tB):Prop:=xV n (aB a)/\a.2.2.2.2.2.2.2.2.2.2.2.1.length<=n/\Rn n a.2.2.2.2.2.2.2.2.2.2.2.2.1
theorem FV {α β:Type} {f g:α->Option (α⊕β)} (ub:α->Prop) (h:∀x,ub x->f x=g x) (hi:∀x y,ub x->f x=some (.inl y)->ub y) {x:α} (h0:ub x):loop f x=loop g x:=by
 have key:∀k x,ub x->wX f k x=wX g k x:=by
  intro k
  induction k with
  | zero=>intro x _;rfl
  | succ k ih =>
   intro x hx;rw[vn,vn,←h x hx];cases hf:f x with
   | none=>rfl
   | some v=>cases v with
    | inl y=>exact ih y (hi x y hx hf)
    | inr b=>rfl
 have hex:(∃k,(wX f k x).isSome)↔∃k,(wX g k x).isSome:=by
  constructor<;>rintro⟨k,hk⟩<;>exact⟨k,by first|rwa [←key k x h0]|rwa [key k x h0]⟩
 by_cases hc:∃k,(wX f k x).isSome
 · obtain⟨k,hk⟩:=hc;cases hv:wX f k x with
   | none=>rw[hv]at hk;cases hk
   | some b=>rw[yE hv,yE ((key k x h0)▸hv)]
 · have hc':¬ ∃k,(wX g k x).isSome:=λh=>hc (hex.2 h);unfold loop;rw[dif_neg hc,dif_neg hc']
theorem vR {α β:Type} {f g:α->Option (α⊕β)} (h:∀x,f x=g x) (x:α):loop f x=loop g x:=by rw[funext h]
def tj (x a b:Int):Bool:=decide (x>=a)&&decide (x<=b)
theorem wR (x a b:Int):ac x a b=some (tj x a b):=by
 unfold ac tj;cases decide (x>=a)<;>rfl
theorem yw (x a b:Int):ae x a b=some (tj x a b):=wR x a b
def E5 (v:zN):Bool:=tj v.1 1 99&&(tj v.2.1 0 100000&&(tj v.2.2.1 0 10&&(tj v.2.2.2.1 1 99&&tj v.2.2.2.2 0 7)))
theorem MM (v:zN):cX v=some (E5 v):=by
 unfold cX E5;simp only[wR,an];cases tj v.1 1 99<;>cases tj v.2.1 0 100000<;>cases tj v.2.2.1 0 10<;>cases tj v.2.2.2.1 1 99<;>rfl
theorem Ro:eN=cX:=rfl
def zR (p:Pt):Bool:=tj p.2.1 1 1000&&(!(p.2.2.1&&!p.1)&&(cond p.2.2.1 (E5 p.2.2.2) (p.2.2.2.1==0&&(p.2.2.2.2.1==0&&(p.2.2.2.2.2.1==0&&(p.2.2.2.2.2.2.1==0&&(p.2.2.2.2.2.2.2==0)))))))
theorem RX (p:Pt):ff p=some (zR p):=by
 obtain⟨up,cost,heard,v⟩:=p;unfold ff zR;simp only[wR,MM,an];cases tj cost 1 1000<;>cases up<;>cases heard<;>rfl
theorem RY (p:Pt):fF p=some (zR p):=by
 obtain⟨up,cost,heard,v⟩:=p;unfold fF zR;simp only[yw,Ro,MM,an];cases tj cost 1 1000<;>cases up<;>cases heard<;>rfl
theorem xi {n:Nat} {c:Int->Option Bool} {b:Nat->Bool} (hn:n<9223372036854775807) (hc:∀k,k<n->c (k:Int)=some (b k)) :
 loop (λi:Int=>cond (decide (i<(n:Int))) ((c i).bind λt=>cond t (some (.inr (.inr false))) (some (.inl (te (i+1))))) (some (.inr (.inl ())))) 0=some (cond ((List.range n).any b) (Sum.inr false) (Sum.inl ()):Unit⊕Bool):=by
 obtain⟨v,h1,h2⟩:=tI (β:=Unit⊕Bool) (step:=λi:Int=>cond (decide (i<(n:Int))) ((c i).bind λt=>cond t (some (.inr (.inr false))) (some (.inl (te (i+1))))) (some (.inr (.inl ()))))
  (λk i=>i=(k:Int)/\(List.range k).any b=false) n (λv=>v=cond ((List.range n).any b) (Sum.inr false) (Sum.inl ()))
  (λk i hk ⟨e,ha⟩=>by
   subst e;have hs:(cond (decide ((k:Int)<(n:Int))) ((c (k:Int)).bind λt=>cond t (some (.inr (.inr false))) (some (.inl (te ((k:Int)+1))))) (some (.inr (.inl ()))):Option (Int⊕(Unit⊕Bool)))=cond (b k) (some (.inr (.inr false))) (some (.inl ((k+1:Nat):Int))):=by
    rw[u0 (by omega),cT,hc k hk,an,tz (by omega)]
   cases hb:b k with
   | true =>
    refine .inr ⟨.inr false,by rw[hs,hb];rfl,?_⟩;have:(List.range n).any b=true:=any_eq_true.2 ⟨k,mem_range.2 hk,hb⟩
    rw[this];rfl
   | false =>
    refine .inl ⟨_,by rw[hs,hb];rfl,rfl,?_⟩;rw[range_succ,List.any_append,ha];simp[hb])
  (λi ⟨e,ha⟩=>by
   subst e;exact⟨.inl (),by rw[tW (by omega),cF],by rw[ha];rfl⟩) (x:=0) ⟨rfl,rfl⟩
 rw[h1,h2]
def wv (e:tk):Bool:=tj e.1 1 99&&(tj e.2.1 1 9999&&(tj e.2.2.1 0 7&&(tj e.2.2.2.1 0 4&&(!e.2.2.2.2||e.2.2.2.1==0))))
theorem Ki (e:tk):ed e=some (wv e):=by
 unfold ed wv;simp only[wR,an];cases tj e.1 1 99<;>cases tj e.2.1 1 9999<;>cases tj e.2.2.1 0 7<;>cases tj e.2.2.2.1 0 4<;>cases e.2.2.2.2<;>rfl
theorem Nv:cr=ed:=rfl
def zS (e:tk) (tag mac:Int):Bool:=decide (e.1>tag)||(e.1==tag&&decide (e.2.1>mac))
theorem Ok (e:tk) (tag mac:Int):fg e tag mac=some (zS e tag mac):=by
 unfold fg zS;cases decide (e.1>tag)<;>cases (e.1==tag)<;>rfl
theorem Pi (p e:tk):bR p e.1 e.2.1=some (zS e p.1 p.2.1):=by
 unfold bR zS;by_cases h:p.1=e.1
 · simp[h]
 · have h':¬e.1=p.1:=λk=>h k.symm;have e1:(p.1 != e.1)=true:=by simpa using h
   have e2:(e.1==p.1)=false:=by simpa using h'
   rw[e1,e2,cT,Bool.false_and,Bool.or_false]
def yM (l:List tk) (k:Nat):Bool:=match l[k]? with
 | some e=>!(wv e)||(decide (0<k)&&(match l[k-1]? with|some p=>!(zS e p.1 p.2.1)|none=>false))
 | none=>false
def yI (l:List tk):Bool:=!((List.range l.length).any (yM l))&&decide ((l.length:Int)<=12)
theorem Bh {α:Type} {l:List α} {k:Nat} (h:k<l.length) (hk:0<k) (hn:l.length<9223372036854775807):at? l (te ((k:Int)-1))=some l[k-1]:=by
 rw[tM (by omega) (by omega),show (k:Int)-1=((k-1:Nat):Int) by omega,tE (by omega)]
theorem Rp {l:List tk} (hn:l.length<9223372036854775807):gK l=some (yI l):=by
 unfold gK yI;have h:=xi (n:=l.length) (c:=λi=>(at? l i).bind λx10=>(ed x10).bind λt13=>(cond (!t13) (some true) ((cond (decide (i>0)) ((at? l (te (i-1))).bind λx23=>(at? l (te (i-1))).bind λx29=>(fg x10 x23.1 x29.2.1).bind λt32=>some (!t32)) (some false)).bind λt34=>some t34)).bind λt=>some t) (b:=yM l) hn (λk hk=>by
  simp only[tE hk,an,Ki,yM,List.getElem?_eq_getElem hk];cases wv l[k]with
  | false=>rfl
  | true =>
   by_cases h0:0<k
   · have hd:decide ((k:Int)>0)=true:=dT (by omega);simp only[hd,Bh hk h0 hn,an,Ok,dT h0,List.getElem?_eq_getElem (show k-1<l.length by omega)];rfl
   · have hd:decide ((k:Int)>0)=false:=dF (by omega);simp only[hd,dF h0];rfl)
 have e:(loop (λz=>iC l z) 0)=some (cond ((List.range l.length).any (yM l)) (Sum.inr false) (Sum.inl ())):=by
  rw[←h];refine vR (λi=>?_) 0;unfold iC;simp only[Option.bind_assoc,an]
 rw[e,an];cases (List.range l.length).any (yM l)<;>rfl
theorem Pj {l:List tk} (hn:l.length<9223372036854775807):cq l=some (yI l):=by
 unfold cq yI;have h:=xi (n:=l.length) (c:=λi=>(at? l i).bind λx12=>(cr x12).bind λt14=>(cond (!t14) (some true) ((cond (decide (i>0)) ((at? l (te (i-1))).bind λx23=>(at? l i).bind λx27=>(at? l i).bind λx32=>(bR x23 x27.1 x32.2.1).bind λt35=>some (!t35)) (some false)).bind λt37=>some t37)).bind λt=>some t) (b:=yM l) hn (λk hk=>by
  simp only[tE hk,an,Nv,Ki,yM,List.getElem?_eq_getElem hk];cases wv l[k]with
  | false=>rfl
  | true =>
   by_cases h0:0<k
   · have hd:decide ((k:Int)>0)=true:=dT (by omega);simp only[hd,Bh hk h0 hn,an,Pi,dT h0,List.getElem?_eq_getElem (show k-1<l.length by omega)];rfl
   · have hd:decide ((k:Int)>0)=false:=dF (by omega);simp only[hd,dF h0];rfl)
 have e:(loop (λz=>iI l z) 0)=some (cond ((List.range l.length).any (yM l)) (Sum.inr false) (Sum.inl ())):=by
  rw[←h];refine vR (λi=>?_) 0;unfold iI;simp only[Option.bind_assoc,an]
 rw[e,an];cases (List.range l.length).any (yM l)<;>rfl

theorem Pk:bn=ap:=rfl
theorem LM {v:uj} (hn:v.1.length<9223372036854775807) (id:Int):∃r,ap v id=some r:=by
 unfold ap;obtain⟨b,h1,_⟩:=tI (β:=Unit⊕Int) (step:=λz=>aK v id z) (λk i=>i=(k:Int)) v.1.length (λ_=>True)
  (λk i hk h=>by
   subst h;unfold aK;rw[u0 (by omega),cT,tE hk,an];cases (v.1[k].1==id)with
   | true=>exact .inr ⟨_,rfl,trivial⟩
   | false=>exact .inl ⟨_,rfl,tz (by omega)⟩)
  (λi h=>by
   subst h;unfold aK;rw[tW (by omega)];exact⟨_,rfl,trivial⟩) (x:=0) rfl
 rw[h1,an];cases b with
 | inl _=>exact⟨_,rfl⟩
 | inr r=>exact⟨r,rfl⟩
def vr (i:Int):Int:=(2:Int)^i.toNat-1
theorem FW {i:Int} (h:tj i 1 6=true):i=1\/i=2\/i=3\/i=4\/i=5\/i=6:=by
 unfold tj at h;simp only[aT,decide_eq_true_eq]at h;omega
theorem H4 {i:Int} (h:tj i 1 6=true):fh i=some (vr i):=by
 rcases FW h with rfl|rfl|rfl|rfl|rfl|rfl<;>rfl
theorem Kj {i:Int} (h:tj i 1 6=true):∃t,shl .i64 1 (IntKind.u64.wrap i)=some t/\te (t-1)=vr i:=by
 rcases FW h with rfl|rfl|rfl|rfl|rfl|rfl<;>exact⟨_,rfl,rfl⟩
theorem Hn {i:Int} (h:tj i 1 6=true):1<=vr i/\vr i<=63:=by
 rcases FW h with rfl|rfl|rfl|rfl|rfl|rfl<;>decide
theorem FX (x:BitVec 64):IntKind.i64.wrap (x.toNat:Int)=x.toInt:=by
 have hx:=x.isLt;rw[BitVec.toInt_eq_toNat_cond];show (let m:=(x.toNat:Int)%18446744073709551616;if (true&&decide (m>=9223372036854775808))=true then m-18446744073709551616 else m)=_
 simp only[Bool.true_and,decide_eq_true_eq];have h1:(x.toNat:Int)%18446744073709551616=(x.toNat:Int):=by omega
 rw[h1];split<;>split<;>omega
theorem AB {b:Int} (h1:-9223372036854775808<=b) (h2:b<=9223372036854775807):(BitVec.ofInt 64 b).toInt=b:=by
 rw[BitVec.toInt_ofInt];unfold Int.bmod;simp only;split<;>omega
theorem Ho (a b:Int):wT .i64 a b=(BitVec.ofInt 64 a&&&BitVec.ofInt 64 b).toInt:=FX _
theorem Qr (a b:Int):Cc .i64 a b=(BitVec.ofInt 64 a &&& ~~~ BitVec.ofInt 64 b).toInt:=FX _
theorem Jk (x y:BitVec 64):x&&&y=x↔x &&& ~~~ y=0:=by
 constructor
 · intro h;apply BitVec.eq_of_getLsbD_eq;intro i hi;have:=congrArg (λz=>z.getLsbD i) h
   simp only[BitVec.getLsbD_and]at this;simp only[BitVec.getLsbD_and,BitVec.getLsbD_not,BitVec.getLsbD_zero,hi,decide_true,Bool.true_and];cases hx:x.getLsbD i<;>cases hy:y.getLsbD i<;>simp_all
 · intro h;apply BitVec.eq_of_getLsbD_eq;intro i hi;have:=congrArg (λz=>z.getLsbD i) h
   simp only[BitVec.getLsbD_and,BitVec.getLsbD_not,BitVec.getLsbD_zero,hi,decide_true,Bool.true_and]at this;simp only[BitVec.getLsbD_and];cases hx:x.getLsbD i<;>cases hy:y.getLsbD i<;>simp_all
theorem H5 {b m:Int} (h1:-9223372036854775808<=b) (h2:b<=9223372036854775807):(wT .i64 b m != b)=(Cc .i64 b m != 0):=by
 rw[Ho,Qr];have e:((BitVec.ofInt 64 b&&&BitVec.ofInt 64 m).toInt=b)↔((BitVec.ofInt 64 b &&& ~~~ BitVec.ofInt 64 m).toInt=0):=by
  constructor
  · intro h;have:BitVec.ofInt 64 b&&&BitVec.ofInt 64 m=BitVec.ofInt 64 b:=BitVec.eq_of_toInt_eq (by rw[h,AB h1 h2])
    rw[(Jk _ _).1 this];rfl
  · intro h;have:BitVec.ofInt 64 b &&& ~~~ BitVec.ofInt 64 m=0:=BitVec.eq_of_toInt_eq (by rw[h];rfl)
    rw[(Jk _ _).2 this,AB h1 h2]
 by_cases h:(BitVec.ofInt 64 b&&&BitVec.ofInt 64 m).toInt=b
 · have h':=e.1 h;simp[h,h']
 · have h':¬(BitVec.ofInt 64 b &&& ~~~ BitVec.ofInt 64 m).toInt=0:=λk=>h (e.2 k);rw[bne_iff_ne.2 h,bne_iff_ne.2 h']
theorem Jl {b m t:Int} (h1:-9223372036854775808<=b) (h2:b<=9223372036854775807) (hm:tj m 0 t=true) (ht:t<=63) (h:(wT .i64 b m != b)=false):tj b 0 t=true:=by
 unfold tj at hm ⊢;simp only[aT,decide_eq_true_eq]at hm ⊢;have h:wT .i64 b m=b:=by simpa using h
 rw[Ho]at h;have e:BitVec.ofInt 64 b&&&BitVec.ofInt 64 m=BitVec.ofInt 64 b:=BitVec.eq_of_toInt_eq (by rw[h,AB h1 h2])
 have hM:(BitVec.ofInt 64 m).toNat=m.toNat:=by
  rw[BitVec.toNat_ofInt];omega
 have hle:(BitVec.ofInt 64 b).toNat<=m.toNat:=by
  rw[←e,BitVec.toNat_and,hM];exact Nat.and_le_right
 have hb:(BitVec.ofInt 64 b).toInt=((BitVec.ofInt 64 b).toNat:Int):=by
  rw[BitVec.toInt_eq_toNat_cond];split<;>omega
 rw[AB h1 h2]at hb;omega
def zD (v:uj) (i:Int) (k:Nat):Bool:=match v.1[k]? with
 | some r=>!(tj r.1 1 99)||((decide (0<k)&&(match v.1[k-1]? with|some p=>decide (p.1>=r.1)|none=>false))||(!(tj r.2.1 0 (vr i))||(Cc .i64 r.2.2 r.2.1 != 0)))
 | none=>false
noncomputable def B9 (v:uj) (k:Nat):Bool:=match v.2[k]? with
 | some x=>(match ap v x with|some t=>decide (t<0)|none=>false)
 | none=>false
noncomputable def wF (v:uj) (i:Int):Bool:=!(!(tj i 1 6)||((v.2.length:Int) != i||decide ((v.1.length:Int)>6)))&&(!((List.range v.1.length).any (zD v i))&&!((List.range v.2.length).any (B9 v)))
theorem LN {v:uj} {i:Int} (hi:tj i 1 6=true) (hn:v.1.length<9223372036854775807):loop (λz=>iD v i z) 0=some (cond ((List.range v.1.length).any (zD v i)) (Sum.inr false) (Sum.inl ())):=by
 rw[←xi (n:=v.1.length) (c:=λt28=>(at? v.1 t28).bind λx31 =>
  (ac x31.1 1 99).bind λt35 =>
  (cond (!t35) (some true) ((cond (decide (t28>0)) ((at? v.1 (te (t28-1))).bind λx45=>some (decide (x45.1>=x31.1))) (some false)).bind λt51=>some t51)).bind λt52 =>
  (cond t52 (some true) ((fh i).bind λt57=>(ac x31.2.1 0 t57).bind λt58=>some (!t58))).bind λt60 =>
  (cond t60 (some true) (some ((Cc .i64 x31.2.2 x31.2.1) != 0))).bind λt=>some t) (b:=zD v i) hn (λk hk=>by
   simp only[tE hk,an,wR,zD,List.getElem?_eq_getElem hk,H4 hi];cases tj v.1[k].1 1 99 with
   | false=>rfl
   | true =>
    by_cases h0:0<k
    · have hd:decide ((k:Int)>0)=true:=dT (by omega);simp only[hd,Bh hk h0 hn,an,dT h0,List.getElem?_eq_getElem (show k-1<v.1.length by omega)];cases decide (v.1[k-1].1>=v.1[k].1)<;>cases tj v.1[k].2.1 0 (vr i)<;>rfl
    · have hd:decide ((k:Int)>0)=false:=dF (by omega);simp only[hd,dF h0];cases tj v.1[k].2.1 0 (vr i)<;>rfl)]
 refine vR (λi=>?_) 0;unfold iD;simp only[Option.bind_assoc,an]
theorem Kk {v:uj} {i t:Int} (hi:tj i 1 6=true) (ht:te (t-1)=vr i) (hn:v.1.length<9223372036854775807) (hw:∀r∈v.1,-9223372036854775808<=r.2.2/\r.2.2<=9223372036854775807):loop (λz=>iJ v t z) 0=some (cond ((List.range v.1.length).any (zD v i)) (Sum.inr false) (Sum.inl ())):=by
 rw[←xi (n:=v.1.length) (c:=λt6=>(at? v.1 t6).bind λx39 =>
  (ae x39.1 1 99).bind λt43 =>
  (cond (!t43) (some true) ((ae x39.2.1 0 (te (t-1))).bind λt49=>some (!t49))).bind λt51 =>
  (cond t51 (some true) ((ae x39.2.2 0 (te (t-1))).bind λt56=>some (!t56))).bind λt58 =>
  (cond t58 (some true) (some ((wT .i64 x39.2.2 x39.2.1) != x39.2.2))).bind λt68 =>
  (cond t68 (some true) ((cond (decide (t6>0)) ((at? v.1 (te (t6-1))).bind λx77=>some (decide (x77.1>=x39.1))) (some false)).bind λt83=>some t83)).bind λt=>some t) (b:=zD v i) hn (λk hk=>by
   obtain⟨w1,w2⟩:=hw _ (getElem_mem hk);have hs:=H5 (m:=v.1[k].2.1) w1 w2
   have hin:=Jl (m:=v.1[k].2.1) (t:=vr i) w1 w2;have ht2:=(Hn hi).2
   simp only[tE hk,an,yw,zD,List.getElem?_eq_getElem hk,ht];rw[←hs];cases h1:tj v.1[k].1 1 99 with
   | false=>rfl
   | true =>
    cases h2:tj v.1[k].2.1 0 (vr i)with
    | false =>
     by_cases h0:0<k
     · simp only[dT h0,List.getElem?_eq_getElem (show k-1<v.1.length by omega)];cases decide (v.1[k-1].1>=v.1[k].1)<;>rfl
     · simp only[dF h0];rfl
    | true =>
     cases h3:(wT .i64 v.1[k].2.2 v.1[k].2.1 != v.1[k].2.2)with
     | true =>
      by_cases h0:0<k
      · simp only[dT h0,List.getElem?_eq_getElem (show k-1<v.1.length by omega)];cases decide (v.1[k-1].1>=v.1[k].1)<;>cases tj v.1[k].2.2 0 (vr i)<;>rfl
      · simp only[dF h0];cases tj v.1[k].2.2 0 (vr i)<;>rfl
     | false =>
      have h4:=hin h2 ht2 h3;rw[h4];by_cases h0:0<k
      · have hd:decide ((k:Int)>0)=true:=dT (by omega);simp only[hd,Bh hk h0 hn,an,dT h0,List.getElem?_eq_getElem (show k-1<v.1.length by omega)];cases decide (v.1[k-1].1>=v.1[k].1)<;>rfl
      · have hd:decide ((k:Int)>0)=false:=dF (by omega);simp only[hd,dF h0];rfl)]
 refine vR (λi=>?_) 0;unfold iJ;simp only[Option.bind_assoc,an]
theorem H6 {v:uj} (hn:v.1.length<9223372036854775807) (hn2:v.2.length<9223372036854775807):loop (λz=>gL v z) 0=some (cond ((List.range v.2.length).any (B9 v)) (Sum.inr false) (Sum.inl ())):=by
 rw[←xi (n:=v.2.length) (c:=λt73=>(at? v.2 t73).bind λx75=>(ap v x75).bind λt79=>some (decide (t79<0))) (b:=B9 v) hn2 (λk hk=>by
  obtain⟨r,hr⟩:=LM hn v.2[k];simp only[tE hk,an,B9,List.getElem?_eq_getElem hk,hr])]
 refine vR (λi=>?_) 0;unfold gL;simp only[Option.bind_assoc,an]
theorem Qs:nB=gL:=rfl
theorem Nw {v:uj} (i:Int) (hn:v.1.length<9223372036854775807) (hn2:v.2.length<9223372036854775807):ee v i=some (wF v i):=by
 unfold ee wF;simp only[wR,an];cases hi:tj i 1 6 with
 | false=>rfl
 | true =>
  rw[LN hi hn,H6 hn hn2];cases ((v.2.length:Int) != i)<;>cases decide ((v.1.length:Int)>6)<;>cases (List.range v.1.length).any (zD v i)<;>cases (List.range v.2.length).any (B9 v)<;>rfl
theorem Kl {v:uj} (i:Int) (hn:v.1.length<9223372036854775807) (hn2:v.2.length<9223372036854775807) (hw:∀r∈v.1,-9223372036854775808<=r.2.2/\r.2.2<=9223372036854775807):aN v i=some (wF v i):=by
 unfold aN wF;simp only[yw,an,Qs];cases hi:tj i 1 6 with
 | false=>rfl
 | true =>
  obtain⟨t,h1,h2⟩:=Kj hi;rw[h1,an,Kk hi h2 hn hw,H6 hn hn2];cases ((v.2.length:Int) != i)<;>cases decide ((v.1.length:Int)>6)<;>cases (List.range v.1.length).any (zD v i)<;>cases (List.range v.2.length).any (B9 v)<;>rfl
def BJ (l:List Pt) (k:Nat):Bool:=match l[k]? with|some p=>!(zR p)|none=>false
def vM (b:td):Bool:=tj b.2.2.2.2.2.2.1 0 1000000&&(tj b.2.2.2.2.2.2.2.1 0 1000000&&(tj b.2.2.2.2.2.2.2.2.1 0 1000000&&(tj b.2.2.2.2.2.2.2.2.2.1 0 1000000&&tj b.2.2.2.2.2.2.2.2.2.2 0 1000000)))
noncomputable def ue (b:td):Bool:=!((List.range b.2.2.1.length).any (BJ b.2.2.1))&&(tj b.1 1 99&&(!(decide ((b.2.1.length:Int)>10))&&(tj (b.2.2.1.length:Int) 1 6&&(yI b.2.2.2.1&&(wF (b.2.2.2.2.1,b.2.2.2.2.2.1) (b.2.2.1.length:Int)&&vM b)))))
structure wY (b:td):Prop where
 p:b.2.2.1.length<9223372036854775807
 f:b.2.2.2.1.length<9223372036854775807
 v:b.2.2.2.2.1.length<9223372036854775807
 q:b.2.2.2.2.2.1.length<9223372036854775807
 r:∀r∈b.2.2.2.2.1,-9223372036854775808<=r.2.2/\r.2.2<=9223372036854775807
theorem Km {b:td} (h:wY b):loop (λz=>iE b z) 0=some (cond ((List.range b.2.2.1.length).any (BJ b.2.2.1)) (Sum.inr false) (Sum.inl ())):=by
 rw[←xi (n:=b.2.2.1.length) (c:=λt8=>(at? b.2.2.1 t8).bind λx10=>(ff x10).bind λt13=>some (!t13)) (b:=BJ b.2.2.1) h.p (λk hk=>by
  simp only[tE hk,an,BJ,List.getElem?_eq_getElem hk,RX])]
 refine vR (λi=>?_) 0;unfold iE;simp only[Option.bind_assoc,an]
theorem IR {b:td} (h:wY b):loop (λz=>iK b z) 0=some (cond ((List.range b.2.2.1.length).any (BJ b.2.2.1)) (Sum.inr false) (Sum.inl ())):=by
 rw[←xi (n:=b.2.2.1.length) (c:=λt8=>(at? b.2.2.1 t8).bind λx10=>(fF x10).bind λt13=>some (!t13)) (b:=BJ b.2.2.1) h.p (λk hk=>by
  simp only[tE hk,an,BJ,List.getElem?_eq_getElem hk,RY])]
 refine vR (λi=>?_) 0;unfold iK;simp only[Option.bind_assoc,an]
theorem Ol (b:td):hZ b=some (vM b):=by
 unfold hZ vM;simp only[yw,an];cases tj b.2.2.2.2.2.2.1 0 1000000<;>cases tj b.2.2.2.2.2.2.2.1 0 1000000<;>cases tj b.2.2.2.2.2.2.2.2.1 0 1000000<;>cases tj b.2.2.2.2.2.2.2.2.2.1 0 1000000<;>rfl
theorem LO (n:Int):bt n=some (tj n 0 1000000):=by unfold bt;rw[wR,an]
theorem Ao {b:td} (h:wY b):bc b=some (ue b):=by
 unfold bc ue vM;rw[Km h,an];cases (List.range b.2.2.1.length).any (BJ b.2.2.1)with
 | true=>rfl
 | false =>
  simp only[cF,Sum.elim_inl,wR,Rp h.f,Nw (v:=(b.2.2.2.2.1,b.2.2.2.2.2.1)) _ h.v h.q,LO,an];cases tj b.1 1 99<;>cases decide ((b.2.1.length:Int)>10)<;>cases tj (b.2.2.1.length:Int) 1 6<;>cases yI b.2.2.2.1<;>cases wF (b.2.2.2.2.1,b.2.2.2.2.2.1) (b.2.2.1.length:Int) <;>
   cases tj b.2.2.2.2.2.2.1 0 1000000<;>cases tj b.2.2.2.2.2.2.2.1 0 1000000<;>cases tj b.2.2.2.2.2.2.2.2.1 0 1000000<;>cases tj b.2.2.2.2.2.2.2.2.2.1 0 1000000<;>rfl
theorem zT {b:td} (h:wY b):aZ b=some (ue b):=by
 unfold aZ ue;rw[IR h,an];cases (List.range b.2.2.1.length).any (BJ b.2.2.1)with
 | true=>rfl
 | false =>
  have e:decide ((b.2.1.length:Int)<=10)=!(decide ((b.2.1.length:Int)>10)):=by
   by_cases hh:(b.2.1.length:Int)>10
   · rw[dT hh,dF (by omega)];rfl
   · rw[dF hh,dT (by omega)];rfl
  simp only[cF,Sum.elim_inl,yw,Pj h.f,Kl (v:=(b.2.2.2.2.1,b.2.2.2.2.2.1)) _ h.v h.q h.r,Ol,an,e];cases tj b.1 1 99<;>cases decide ((b.2.1.length:Int)>10)<;>cases tj (b.2.2.1.length:Int) 1 6<;>cases yI b.2.2.2.1<;>cases wF (b.2.2.2.2.1,b.2.2.2.2.2.1) (b.2.2.1.length:Int)<;>cases vM b<;>rfl
theorem Nx:fL=ev:=rfl
theorem Ny (a b:zN):∃r,ev a b=some r:=by
 unfold ev;cases (a.1 != b.1)<;>cases (a.2.1 != b.2.1)<;>cases (a.2.2.2.1 != b.2.2.2.1)<;>exact⟨_,rfl⟩
theorem Qt:ia=fr:=rfl
theorem Qu (v:zN) (c:Int):∃r,fr v c=some r:=by
 unfold fr;simp only[MM,wR,an];cases E5 v<;>cases tj c 1 1000<;>first|exact⟨_,rfl⟩|skip
 generalize E5 (v.1,te (v.2.1+c),te (v.2.2.1+1),v.2.2.2.1,v.2.2.2.2)=q;cases q<;>exact⟨_,rfl⟩
theorem Qv (p0:Int) (l:List Pt) (t8 t9 b0 b1 b2 b3 b4 c0 c1 c2 c3 c4:Int):ib p0 l t8 t9 b0 b1 b2 b3 b4 c0 c1 c2 c3 c4=ew p0 l t8 t9 b0 b1 b2 b3 b4 c0 c1 c2 c3 c4:=by
 unfold ib ew;rw[Qt,Nx];cases h:at? l t9 with
 | none=>rfl
 | some x=>simp only[an]
theorem Nz:eO=bL:=by
 funext p0 l
 unfold eO bL;rw[vR (λz=>Qv p0 l _ _ _ _ _ _ _ _ _ _ _ _)]
theorem Qw (p0:Int) {l:List Pt} (hn:l.length<9223372036854775807):∃r,bL p0 l=some r:=by
 unfold bL;obtain⟨b,h1,_⟩:=tI (step:=λz:Int×Int×Int×Int×Int×Int×Int×Int×Int×Int×Int×Int=>ew p0 l z.1 z.2.1 z.2.2.1 z.2.2.2.1 z.2.2.2.2.1 z.2.2.2.2.2.1 z.2.2.2.2.2.2.1 z.2.2.2.2.2.2.2.1 z.2.2.2.2.2.2.2.2.1 z.2.2.2.2.2.2.2.2.2.1 z.2.2.2.2.2.2.2.2.2.2.1 z.2.2.2.2.2.2.2.2.2.2.2)
  (λk z=>z.2.1=(k:Int)) l.length (λ_=>True)
  (λk z hk h=>by
   left;obtain⟨t7,t18,b0,b1,b2,b3,b4,c0,c1,c2,c3,c4⟩:=z;obtain rfl:t18=(k:Int):=h;unfold ew;simp only[u0 (show (k:Int)<(l.length:Int) by omega),cT,tE hk,an];rw[show te ((k:Int)+1)=((k+1:Nat):Int)from tz (by omega)];generalize l[k]=x;have e:(cond (!x.1) (some true) (some (!x.2.2.1)):Option Bool)=some (cond (!x.1) true (!x.2.2.1)):=by cases x.1<;>rfl
   rw[e,an];cases (cond (!x.1) true (!x.2.2.1))with
   | true=>exact⟨_,rfl,rfl⟩
   | false =>
    obtain⟨r,hr⟩:=Qu x.2.2.2 x.2.1;obtain⟨q,hq⟩:=Ny r.1 (c0,c1,c2,c3,c4);rw[cF,hr,an,hq];cases r.2<;>cases decide (r.1.1<p0)<;>cases decide (t7<0)<;>cases q<;>exact⟨_,rfl,rfl⟩)
  (λz h=>by
   obtain⟨t7,t18,b0,b1,b2,b3,b4,c0,c1,c2,c3,c4⟩:=z;obtain rfl:t18=(l.length:Int):=h;unfold ew;simp only[tW (show ¬(l.length:Int)<(l.length:Int) by omega),cF];exact⟨_,rfl,trivial⟩) (x:=((-1),0,p0,0,0,p0,0,0,0,0,0,0)) rfl
 rw[h1,an];exact⟨_,rfl⟩
theorem Rq:fM=ft:=by
 funext id l p
 unfold fM ft;rw[Nz]
theorem NA:eP=aX:=by
 funext id l p
 unfold eP aX;rw[Nz,Rq,Nx];rfl
theorem Kn (id:Int) {l:List Pt} (hn:l.length<9223372036854775807) (p:Int):∃r,aX id l p=some r:=by
 obtain⟨v,hv⟩:=Qw id hn;unfold aX ft;simp only[wR,an,hv];rw[show te ((l.length:Int)-1)=(l.length:Int)-1 from tM (by omega) (by omega)];cases hp:tj p 0 ((l.length:Int)-1)with
 | false=>exact⟨_,rfl⟩
 | true =>
  unfold tj at hp;simp only[aT,decide_eq_true_eq]at hp;obtain⟨k,rfl⟩:∃k:Nat,p=(k:Int):=⟨p.toNat,by omega⟩;simp only[tE (show k<l.length by omega),an];generalize l[k]'(by omega)=x;obtain⟨q,hq⟩:=Ny (v.1.1,v.1.2.1,v.1.2.2.1,v.1.2.2.2.1,(k:Int)) x.2.2.2;rw[hq];cases x.1<;>cases (v.2==(k:Int))<;>cases x.2.2.1<;>cases q<;>exact⟨_,rfl⟩
theorem Qx (b:td) (c p:Int):fN b c p=ci b c p:=by
 unfold fN ci fq;rw[NA];cases at? b.2.2.1 p with
 | none=>rfl
 | some x=>simp only[an];cases x.1<;>rfl
theorem EX {α:Type} (out:List tg) (name:List Int) (n:Int) (f:List tg->Option α):((bj n).bind λv=>(aL v name).bind λt=>(tJ out [t]).bind f)=(aj out name n).bind f:=by
 unfold bj aL aj af ai;simp only[an,Option.bind_assoc]
theorem MN (b:td) (c i:Int) (out:List tg):ie b c i out=bM b c i out:=by
 unfold ie bM;simp only[Qx,EX]
theorem Rr {r:tC} {c:Int} (h:1<=c/\c<=3):((ix [1,r.2.1,r.2.2].length (te (c-1))).bind λj=>([1,r.2.1,r.2.2][j]?).bind λx=>some x)=ic r c:=by
 have:c=1\/c=2\/c=3:=by omega
 rcases this with rfl|rfl|rfl<;>rfl
theorem Om (b:td) {c:Int} (h:1<=c/\c<=3) (i:Int) (out:List tg):ii b c i out=bN b c i out:=by
 unfold ii bN;cases hr:at? b.2.2.2.2.1 i with
 | none=>rfl
 | some r =>
  simp only[an,←Rr (r:=r) h,Option.bind_assoc,EX]
theorem Pl (b:td) (i:Int) (out:List tg):ij b i out=bv b i out:=by
 unfold ij bv;cases hr:at? b.2.2.2.1 i with
 | none=>rfl
 | some r=>simp only[an,EX]
theorem Qy (b:td) (c:Int) (out:List tg):ig b c out=cj b c out:=by
 unfold ig cj;rw[vR (λz=>MN b c _ _)]
theorem Qz (b:td) {c:Int} (h:1<=c) (out:List tg):eQ b c out=ck b c out:=by
 unfold eQ ck;by_cases h3:c<=3
 · rw[vR (λz=>Om b ⟨h,h3⟩ _ _)]
 · rw[dF h3];rfl
theorem Ko (b:td) {c:Int} {out:List tg} {y:Int×List tg} (h:1<=c) (e:eQ b c out=some (.inl y)):1<=y.1:=by
 unfold eQ at e;by_cases h3:c<=3
 · rw[dT h3,cT,Option.bind_eq_some_iff]at e;obtain⟨d,_,e⟩:=e;cases e;show 1<=te (c+1)
   rw[tM (by omega) (by omega)];omega
 · rw[dF h3]at e;cases e
def zE (b:td):List tg:=[([1,3,1,1,1],4,0,b.2.1,[]),([1,3,1,1,2],2,b.2.2.2.2.2.2.1,[],[]),([1,3,1,1,3],2,b.2.2.2.2.2.2.2.1,[],[]),([1,3,1,1,4],2,b.2.2.2.2.2.2.2.2.1,[],[]),([1,3,1,1,5],2,b.2.2.2.2.2.2.2.2.2.1,[],[])]
theorem Rs (b:td):aL (4,0,b.2.1,[]) ([1,1]:List Int)=some ([1,3,1,1,1],4,0,b.2.1,[]):=by kernel_rfl
theorem Rt (b:td):wX (λz=>mK b z.1 z.2) 5 (0,[([1,3,1,1,1],4,0,b.2.1,[])])=some (zE b):=by kernel_rfl
theorem Ru (b:td):((af ([1,1]:List Int)).bind λt14=>(aj ([(t14,4,0,b.2.1,[])]) ([1,2]:List Int) b.2.2.2.2.2.2.1).bind λt24=>(aj t24 ([1,3]:List Int) b.2.2.2.2.2.2.2.1).bind λt29 =>
 (aj t29 ([1,4]:List Int) b.2.2.2.2.2.2.2.2.1).bind λt34=>(aj t34 ([1,5]:List Int) b.2.2.2.2.2.2.2.2.2.1))=some (zE b):=by kernel_rfl
noncomputable def Et (b:td) (l:List tg):Option (List tg) :=
 (loop (λz=>cj b z.1 z.2) (1,l)).bind λd_2 =>
  (loop (λz=>ck b z.1 z.2) (1,d_2)).bind λd_4 =>
  (loop (λz=>bv b z.1 z.2) (0,d_4)).bind λd_5 =>
  some d_5
theorem Pm {b:td} (h:wY b):bO b=cond (!(ue b)) (some []) (Et b (zE b)):=by
 unfold bO;rw[Ao h,an,Rs,an,yE (Rt b),an];rfl
theorem Pn {b:td} (h:wY b):cw b=cond (!(ue b)) (some []) (Et b (zE b)):=by
 unfold cw;rw[zT h,an];have hc:=Ru b
 have e:∀{α:Type} (f:List tg->Option α),((af ([1,1]:List Int)).bind λt14=>(aj ([(t14,4,0,b.2.1,[])]) ([1,2]:List Int) b.2.2.2.2.2.2.1).bind λt24=>(aj t24 ([1,3]:List Int) b.2.2.2.2.2.2.2.1).bind λt29 =>
  (aj t29 ([1,4]:List Int) b.2.2.2.2.2.2.2.2.1).bind λt34=>(aj t34 ([1,5]:List Int) b.2.2.2.2.2.2.2.2.2.1).bind f)=f (zE b):=by
  intro α f;have:((af ([1,1]:List Int)).bind λt14=>(aj ([(t14,4,0,b.2.1,[])]) ([1,2]:List Int) b.2.2.2.2.2.2.1).bind λt24=>(aj t24 ([1,3]:List Int) b.2.2.2.2.2.2.2.1).bind λt29 =>
   (aj t29 ([1,4]:List Int) b.2.2.2.2.2.2.2.2.1).bind λt34=>(aj t34 ([1,5]:List Int) b.2.2.2.2.2.2.2.2.2.1)).bind f=f (zE b):=by rw[hc,an]
  rw[←this];simp only[Option.bind_assoc]
 rw[e]
 congr 1
 unfold Et;rw[vR (λz=>Qy b _ _)]
 congr 1
 funext d
 rw[FV (λz:Int×List tg=>1<=z.1) (λz hz=>Qz b hz _) (λz y hz e=>Ko b hz e) (show (1:Int)<=1 by omega)]
 congr 1
 funext d
 rw[vR (λz=>Pl b _ _)]
theorem EY {b:td} (h:wY b):cw b=bO b:=by rw[Pn h,Pm h]

theorem QA {b:td} (h:wY b) (c:Int) {k:Nat} (hk:k<b.2.2.1.length) (hq:b.2.2.1.length=b.2.2.2.2.2.1.length):∃n,ci b c (k:Int)=some n:=by
 obtain⟨r,hr⟩:=Kn b.1 h.p (k:Int);unfold ci fq;rw[tE hk,tE (show k<b.2.2.2.2.2.1.length by omega),hr];simp only[an];cases (c==1)<;>cases (c==2)<;>cases (c==3)<;>cases (b.2.2.1[k]).1<;>exact⟨_,rfl⟩
theorem On {α:Type} {xs ys:List α} (h:xs.length+ys.length<=4294967296):tJ xs ys=some (xs++ys):=by
 unfold tJ;rw[if_pos (show xs.length+ys.length<=Bj from h)]
noncomputable def yN (id:Int) (l:List Pt) (p:Int):Int:=(aX id l p).getD 0
theorem Di (id:Int) {l:List Pt} (hn:l.length<9223372036854775807) (p:Int):aX id l p=some (yN id l p):=by
 obtain⟨r,hr⟩:=Kn id hn p;unfold yN;rw[hr];rfl
def Kp (l:List Int) (x:Int):Bool:=decide (x∈l)
def AC (b:Nat->Bool) (m:Nat):List Int:=((List.range m).filter b).map λ(k:Nat)=>(k:Int)
theorem MO (b:Nat->Bool) (m:Nat):(AC b m).length<=m:=by
 unfold AC;rw[length_map];exact Nat.le_trans (List.length_filter_le _ _) (by simp)
theorem Kq (b:Nat->Bool) (m:Nat):AC b (m+1)=cond (b m) (AC b m++[(m:Int)]) (AC b m):=by
 unfold AC;rw[range_succ,List.filter_append,map_append];cases h:b m<;>simp[h]
theorem zc {n:Nat} {c:Int->Option Bool} {b:Nat->Bool} (hn:n<=1048576) (hc:∀k,k<n->c (k:Int)=some (b k)) :
 loop (λz:Int×List Int=>cond (decide (z.1<(n:Int))) ((c z.1).bind λt=>cond t ((tJ z.2 [z.1]).bind λzs=>some (.inl (te (z.1+1),zs))) (some (.inl (te (z.1+1),z.2)))) (some (.inr z.2))) (0,([]:List Int))=some (AC b n):=by
 obtain⟨v,h1,rfl⟩:=tI (step:=λz:Int×List Int=>cond (decide (z.1<(n:Int))) ((c z.1).bind λt=>cond t ((tJ z.2 [z.1]).bind λzs=>some (.inl (te (z.1+1),zs))) (some (.inl (te (z.1+1),z.2)))) (some (.inr z.2))) (λk z=>z.1=(k:Int)/\z.2=AC b k) n (λl=>l=AC b n)
  (λk z hk ⟨e1,e2⟩=>by
   obtain⟨i,l⟩:=z;simp only at e1 e2;subst e1 e2;left;have hle:=MO b k
   refine⟨(te ((k:Int)+1),AC b (k+1)),?_,tz (by omega),rfl⟩;simp only[u0 (show (k:Int)<(n:Int) by omega),cT,hc k hk,an];rw[Kq];cases b k with
   | false=>rfl
   | true=>rw[cT,On (by simp;omega)];rfl)
  (λz ⟨e1,e2⟩=>by
   obtain⟨i,l⟩:=z;simp only at e1 e2;subst e1 e2;exact⟨_,by simp only[tW (show ¬(n:Int)<(n:Int) by omega),cF],rfl⟩) (x:=(0,[])) ⟨rfl,rfl⟩
 exact h1
def Jm (l:List Bool):Nat:=l.count true
theorem Po (l:List Bool):Jm l<=l.length:=List.count_le_length
theorem Oo {l:List Bool} {i:Nat} (h:l[i]?=some false):Jm (l.set i true)=Jm l+1:=by
 obtain⟨hi,he⟩:=List.getElem?_eq_some_iff.1 h;unfold Jm;rw[List.count_set hi,he];simp
theorem Pp {n:Nat} {i:Int} (h:tj i 0 ((n:Int)-1)=true):∃k:Nat,k<n/\i=(k:Int):=by
 unfold tj at h;simp only[aT,decide_eq_true_eq]at h;exact⟨i.toNat,by omega,by omega⟩
theorem Pq {n k:Nat} (h:k<n):tj (k:Int) 0 ((n:Int)-1)=true:=by
 unfold tj;rw[dT (by omega),dT (by omega)];rfl
structure Im (X:List Int) (l:List Bool):Prop where
 r:∀x∈X,∃k:Nat,k<l.length/\x=(k:Int)
 m:∀k,k<l.length->l[k]?=some (Kp X (k:Int))
 c:X.length=Jm l
theorem Im.len {X:List Int} {l:List Bool} (h:Im X l):X.length<=l.length:=by rw[h.c];exact Po l
theorem Im.add {X:List Int} {l:List Bool} (h:Im X l) {i:Nat} (hi:l[i]?=some false):Im (X++[(i:Int)]) (l.set i true):=by
 obtain⟨hi',he⟩:=List.getElem?_eq_some_iff.1 hi;refine⟨λx hx=>?_,λk hk=>?_,?_⟩
 · rw[length_set];rcases mem_append.1 hx with hx|hx
   · exact h.r x hx
   · simp at hx;exact⟨i,hi',hx⟩
 · rw[length_set]at hk;rw[List.getElem?_set];split
   · rename_i e;subst e;rw[show Kp (X++[(i:Int)]) (i:Int)=true from dT (by simp)]
   · rename_i e;rw[h.m k hk]
     congr 1
     unfold Kp;apply decide_eq_decide.2;rw[mem_append,List.mem_singleton];constructor
     · exact .inl
     · rintro (h|h)
       · exact h
       · omega
 · rw[length_append,Oo hi,h.c];rfl
theorem Im.in {X:List Int} {l:List Bool} (h:Im X l) {x:Int} (hx:Kp X x=true):tj x 0 ((l.length:Int)-1)=true:=by
 obtain⟨k,hk,rfl⟩:=h.r x (of_decide_eq_true hx);exact Pq hk
def start (n:Nat) (b:Nat):List Bool:=(List.replicate n false).set b true
theorem QB (id:Int) {l:List Pt} (hn:l.length<9223372036854775807) (p:Int):1<=yN id l p:=by
 have h:=Di id hn p
 revert h
 generalize yN id l p=v;unfold aX;rw[wR,an];intro h;have key:∀(o:Option Bool) (f:Bool->Option Int),(∀t x,f t=some x->1<=x)->o.bind f=some v->1<=v:=by
  intro o f hf h;cases o with
  | none=>cases h
  | some t=>exact hf t v h
 refine key _ _ (λt x hx=>?_) h;cases t with
 | true=>cases hx;decide
 | false =>
  rw[cF]at hx;cases hbv:bL id l with
  | none=>rw[hbv]at hx;cases hx
  | some w =>
   rw[hbv,an]at hx;cases hw:w.2==p with
   | true=>rw[hw]at hx;cases hx;decide
   | false =>
    rw[hw,cF]at hx;cases ha:at? l p with
    | none=>rw[ha]at hx;cases hx
    | some y =>
     rw[ha,an]at hx
     revert hx
     generalize (cond (!y.2.2.1) _ _:Option Bool)=o;intro hx;cases o with
     | none=>cases hx
     | some t=>cases t<;>(cases hx;decide)
theorem FY {k:Nat} (h:k<64):IntKind.u64.wrap (k:Int)=(k:Int):=by
 show ((k:Int)%18446744073709551616)=_;omega
theorem QC:∀b:Fin 64,∀p:Fin 6,∃t c,shl .i64 1 (p.1:Int)=some t/\AE .i64 (b.1:Int) t=(c:Int)/\0<=c/\c<64:=by
 intro b p;have h:∀b:Fin 64,∀p:Fin 6,(decide (0<=AE .i64 (b.1:Int) (2^p.1))&&decide (AE .i64 (b.1:Int) (2^p.1)<64))=true:=by decide
 have h1:=h b p;simp only[aT,decide_eq_true_eq]at h1;have h2:∀p:Fin 6,shl .i64 1 (p.1:Int)=some (2^p.1):=by decide
 exact⟨_,_,h2 p,rfl,h1.1,h1.2⟩
theorem Pr {r:Int} (h:1<=r):decide (r<=2)=(r==1||r==2):=by
 by_cases h2:r<=2
 · rw[dT h2];rcases (show r=1\/r=2 by omega)with rfl|rfl<;>rfl
 · rw[dF h2,beq_eq_false_iff_ne.2 (show r≠1 by omega),beq_eq_false_iff_ne.2 (show r≠2 by omega)];rfl
theorem FZ (id:Int) {l:List Pt} (hn:l.length<9223372036854775807) (z:Int×Int) (hz:0<=z.2):eX id l z.1 z.2=bm id l z.1 z.2:=by
 unfold eX bm;rw[NA,Di id hn,an];have hr:=QB id hn z.2
 by_cases h1:z.2<(l.length:Int)
 · rw[u0 h1,cT];by_cases h2:z.2<6
   · rw[u0 h2,an,an,cT,cT,an,Pr hr];obtain⟨k,hk⟩:∃k:Nat,z.2=(k:Int):=⟨z.2.toNat,by omega⟩;rw[hk,FY (by omega)];cases yN id l (k:Int)==1<;>cases yN id l (k:Int)==2<;>rfl
   · rw[tW h2];rfl
 · rw[tW h1];rfl
theorem Ps (id:Int) {l:List Pt} (hn:l.length<9223372036854775807):∃c:Nat,c<64/\gZ id l=some (c:Int)/\fZ id l=some (c:Int):=by
 obtain⟨v,h1,c,h2,rfl⟩:=tI (step:=λz:Int×Int=>bm id l z.1 z.2) (λk z=>z.2=(k:Int)/\∃c:Nat,c<64/\z.1=(c:Int)) (min l.length 6) (λv=>∃c:Nat,c<64/\v=(c:Int))
  (λk z hk ⟨e1,c,e2,e3⟩=>by
   obtain⟨b,i⟩:=z;simp only at e1 e3;subst e1 e3;left;have k6:k<6:=by omega
   obtain⟨t,d,b1,b2,b3,b4⟩:=QC ⟨c,e2⟩ ⟨k,k6⟩;have hs:bm id l (c:Int) (k:Int)=cond (yN id l (k:Int)==1||yN id l (k:Int)==2) (some (.inl ((d:Int),((k+1:Nat):Int)))) (some (.inl ((c:Int),((k+1:Nat):Int)))):=by
    unfold bm;rw[u0 (show (k:Int)<(l.length:Int) by omega),u0 (show (k:Int)<6 by omega),cT,an,cT,Di id hn,an,b1,an,b2,tz (by omega)];cases yN id l (k:Int)==1<;>cases yN id l (k:Int)==2<;>rfl
   show ∃y,bm id l (c:Int) (k:Int)=_/\_;rw[hs];cases (yN id l (k:Int)==1||yN id l (k:Int)==2)with
   | true=>exact⟨_,rfl,rfl,d.toNat,by omega,by show d=_;omega⟩
   | false=>exact⟨_,rfl,rfl,c,e2,rfl⟩)
  (λz ⟨e1,c,e2,e3⟩=>by
   obtain⟨b,i⟩:=z;simp only at e1 e3;subst e1 e3;refine⟨(c:Int),?_,c,e2,rfl⟩;show bm id l _ _=_
   unfold bm;by_cases h:l.length<=6
   · rw[Nat.min_eq_left h,tW (by omega)];rfl
   · rw[Nat.min_eq_right (by omega),u0 (by omega),tW (show ¬(((6:Nat):Int)<6) by omega)];rfl) (x:=(0,0)) ⟨rfl,0,by omega,rfl⟩
 refine⟨c,h2,by unfold gZ;rw[h1];rfl,?_⟩;unfold fZ;rw[FV (f:=λz:Int×Int=>eX id l z.1 z.2) (g:=λz:Int×Int=>bm id l z.1 z.2) (λz=>0<=z.2/\z.2<=9223372036854775806) (λz hz=>FZ id hn z hz.1) (λz y hz hy=>by
  have hy':eX id l z.1 z.2=some (.inl y):=hy;rw[FZ id hn z hz.1]at hy';unfold bm at hy';by_cases h1:z.2<(l.length:Int)
  · by_cases h2:z.2<6
    · rw[u0 h1,u0 h2,cT,an,cT,Di id hn,an]at hy';have hw:te (z.2+1)=z.2+1:=tM (by omega) (by omega)
      rw[hw]at hy'
      revert hy'
      generalize (cond (yN id l z.2==1) (some true) (some (yN id l z.2==2)))=o;intro hy';cases o with
      | none=>cases hy'
      | some t =>
       rw[an]at hy';cases t with
       | false=>cases hy';exact⟨by show 0<=z.2+1;omega,by show z.2+1<=_;omega⟩
       | true =>
        rw[cT]at hy';cases hs:shl .i64 1 z.2 with
        | none=>rw[hs]at hy';cases hy'
        | some q=>rw[hs]at hy';cases hy';exact⟨by show 0<=z.2+1;omega,by show z.2+1<=_;omega⟩
    · rw[u0 h1,tW h2]at hy';cases hy'
  · rw[tW h1]at hy';cases hy') (x:=(0,0)) ⟨by decide,by decide⟩,h1]
 rfl
structure CW (c:tD):Prop where
 p:0<=c.2.1
 n:c.1.length<9223372036854775807
theorem Jn (x:Int):0<=wT .i64 x 255/\wT .i64 x 255<=255:=by
 rw[Ho];have h1:(BitVec.ofInt 64 x&&&BitVec.ofInt 64 255).toNat<=255:=by
  rw[BitVec.toNat_and];exact Nat.le_trans Nat.and_le_right (by decide)
 rw[BitVec.toInt_eq_toNat_cond];split<;>omega
theorem Hp {c:tD} (h:CW c):∃c' r,du c=some (c',r)/\CW c'/\0<=r/\r<=255:=by
 unfold du;have hn:=h.n
 have hp:=h.p;by_cases hlt:c.2.1<(c.1.length:Int)
 · obtain⟨k,hk⟩:∃k:Nat,c.2.1=(k:Int):=⟨c.2.1.toNat,by omega⟩;simp only[u0 hlt,cT];rw[hk,tE (by omega),an,tz (by omega)];exact⟨_,_,rfl,⟨by show (0:Int)<=((k+1:Nat):Int);omega,hn⟩,Jn _⟩
 · simp only[tW hlt,cF];exact⟨_,_,rfl,⟨hp,hn⟩,Jn _⟩
theorem Jo {a n:Int} (ha:0<=a) (hn:1<=n):∃r,rem a n=some r/\0<=r/\r<n:=by
 unfold rem;rw[if_neg (by omega)];refine⟨_,rfl,Int.tmod_nonneg _ ha,?_⟩;have:=Int.tmod_lt_of_pos a (show 0<n by omega)
 exact this
theorem vA {c:tD} (h:CW c) (n:Int):∃c' r,aa c n=some (c',r)/\CW c'/\0<=r/\(1<=n->r<n):=by
 unfold aa;by_cases h0:n<=0
 · rw[dT h0];exact⟨_,_,rfl,h,Int.le_refl 0,λh=>by omega⟩
 · rw[dF h0,cF];by_cases h1:n<=256
   · rw[dT h1,cT];obtain⟨c1,r1,e1,w1,a1,b1⟩:=Hp h;obtain⟨r,e,a,b⟩:=Jo (n:=n) a1 (by omega);rw[e1,an,e,an];exact⟨_,_,rfl,w1,a,λ_=>b⟩
   · rw[dF h1,cF];obtain⟨c1,r1,e1,w1,a1,b1⟩:=Hp h;obtain⟨c2,r2,e2,w2,a2,b2⟩:=Hp w1;obtain⟨c3,r3,e3,w3,a3,b3⟩:=Hp w2;rw[e1,an,e2,an,e3,an];show ∃c' r,((rem (te (te (te (r1*65536)+te (r2*256))+r3)) n).bind _)=_/\_
     rw[tM (n:=r1*65536) (by omega) (by omega),tM (n:=r2*256) (by omega) (by omega),tM (n:=r1*65536+r2*256) (by omega) (by omega),tM (n:=r1*65536+r2*256+r3) (by omega) (by omega)];obtain⟨r,e,a,b⟩:=Jo (a:=r1*65536+r2*256+r3) (n:=n) (by omega) (by omega);rw[e,an];exact⟨_,_,rfl,w3,a,λ_=>b⟩
theorem vh {c:tD} (h:CW c) {n:Nat} (hn:1<=n):∃c' k,aa c (n:Int)=some (c',((k:Nat):Int))/\CW c'/\k<n:=by
 obtain⟨c',r,e,w,a,b⟩:=vA h (n:Int);have b:=b (by omega)
 exact⟨c',r.toNat,by rw[e];congr 2;omega,w,by omega⟩
theorem Hq {c:tD} (h:CW c) (n:Int):∃c' r,bA c n=some (c',r)/\CW c':=by
 obtain⟨c',r,e,w,_⟩:=vA h n;unfold bA;rw[e,an];exact⟨_,_,rfl,w⟩
theorem xp {c:tD} (h:CW c) {l:List Int} (hl:1<=l.length):∃c' x,ah c l=some (c',x)/\CW c'/\x∈l:=by
 obtain⟨c',k,e,w,b⟩:=vh h hl;unfold ah;rw[e,an];show ∃c'' x,(at? l (k:Int)).bind _=_/\_
 rw[tE b,an];exact⟨_,_,rfl,w,getElem_mem b⟩
theorem MP {c:tD} (h:CW c) {l:List (List UInt8)} (hl:1<=l.length):∃c' x,aM c l=some (c',x)/\CW c'/\x∈l:=by
 obtain⟨c',k,e,w,b⟩:=vh h hl;unfold aM;rw[e,an];show ∃c'' x,(at? l (k:Int)).bind _=_/\_
 rw[tE b,an];exact⟨_,_,rfl,w,getElem_mem b⟩
theorem Io {code:List Int} (h:code.length<=1048576):∃c,ce code=some c/\CW c:=by
 obtain⟨v,h1,-⟩:=tI (step:=λz:Int×Int=>dt code z.1 z.2) (λk z=>z.2=(k:Int)) (min code.length 4000) (λ_=>True)
  (λk z hk e=>by
   obtain⟨x,i⟩:=z;simp only at e;subst e;left;have k4:k<4000:=by omega
   have hs:∃y,dt code x (k:Int)=some (.inl (y,((k+1:Nat):Int))):=by
    unfold dt;rw[u0 (show (k:Int)<(code.length:Int) by omega),u0 (show (k:Int)<4000 by omega),cT,an,cT,tE (by omega),an,tz (by omega)];exact⟨_,rfl⟩
   obtain⟨y,hs⟩:=hs;exact⟨_,hs,rfl⟩)
  (λz e=>by
   obtain⟨x,i⟩:=z;simp only at e;subst e;refine⟨x,?_,trivial⟩;show dt code x _=_
   unfold dt;by_cases h:code.length<=4000
   · rw[Nat.min_eq_left h,tW (by omega)];rfl
   · rw[Nat.min_eq_right (by omega),u0 (by omega),tW (show ¬(((4000:Nat):Int)<4000) by omega)];rfl) (x:=(te (762762+(code.length:Int)),0)) rfl
 unfold ce;show ∃c,(loop (λz=>dt code z.1 z.2) (te (762762+(code.length:Int)),0)).bind (λd=>some (code,0,d))=some c/\CW c
 rw[h1,an];exact⟨_,rfl,by show (0:Int)<=0;omega,by show code.length<_;omega⟩

abbrev Ac (x:Int):Prop:=-9223372036854775808<=x/\x<=9223372036854775807
structure VT (v:uj) (n:Nat):Prop where
 p:wF v (n:Int)=true
 r:∀r∈v.1,Ac r.2.2
theorem VT.len {v:uj} {n:Nat} (h:VT v n):1<=n/\n<=6/\v.2.length=n/\v.1.length<=6:=by
 have hp:=h.p;unfold wF tj at hp;simp only[aT,Bool.not_eq_true',Bool.or_eq_false_iff,Bool.not_eq_false',aT,decide_eq_true_eq,decide_eq_false_iff_not,bne_eq_false_iff_eq]at hp;obtain⟨⟨h1,h2,h3⟩,_⟩:=hp;omega
theorem R7 {v:uj} (n:Int) (h1:v.1.length<=1000) (h2:v.2.length<=1000) (hr:∀r∈v.1,Ac r.2.2):aN v n=some (wF v n):=Kl n (by omega) (by omega) hr
theorem Kr {v:uj} (h1:v.1.length<=1000) (h2:v.2.length<=1000):aO v=some v:=by
 unfold aO;unfold tJ;have m:(Bj:Nat)=4294967296:=rfl
 rw[if_pos (by show 0+v.1.length<=Bj;omega),an,if_pos (by show 0+v.2.length<=Bj;omega),an];rfl
theorem Pu {x v:uj} {n:Nat} (hv:VT v n) (h1:x.1.length<=1000) (h2:x.2.length<=1000) (hr:∀r∈x.1,Ac r.2.2):∃y ok,dy x v=some (y,ok)/\VT y n:=by
 obtain⟨l1,l2,l3,l4⟩:=hv.len;unfold dy;rw[R7 _ h1 h2 hr,an];cases h:wF x (v.2.length:Int)with
 | true=>exact⟨_,_,rfl,by rw[l3]at h;exact h,hr⟩
 | false =>
  rw[Bool.not_false,cT,Kr (by omega) (by omega),an];exact⟨_,_,rfl,hv⟩
theorem Pv {v:uj} {n:Nat} (hv:VT v n):aN v (v.2.length:Int)=some true:=by
 obtain⟨l1,l2,l3,l4⟩:=hv.len;rw[R7 _ (by omega) (by omega) hv.r,l3,hv.p]
theorem QD {v:uj} {n:Nat} (hv:VT v n) (port id:Int):∃y ok,eI v port id=some (y,ok)/\VT y n:=by
 obtain⟨l1,l2,l3,l4⟩:=hv.len;unfold eI;rw[Pv hv,an,Bool.not_true,cF,yw,an,an,Kr (by omega) (by omega),tM (n:=(v.2.length:Int)-1) (by omega) (by omega)];cases hin:tj port 0 ((v.2.length:Int)-1)with
 | false=>exact⟨_,_,rfl,hv⟩
 | true =>
  obtain⟨k,hk,rfl⟩:=Pp hin;simp only[Bool.not_true,cF,an,wq hk,List.getElem?_eq_getElem hk];obtain⟨y,ok,e,hy⟩:=Pu (x:=(v.1,v.2.set k id)) hv (by show v.1.length<=_;omega) (by show (v.2.set k id).length<=_;rw[length_set];omega) hv.r;rw[e];exact⟨_,_,rfl,hy⟩
theorem Pw {v:uj} (hn:v.1.length<9223372036854775807) (id:Int):∃r,bn v id=some r/\(r = -1\/∃k:Nat,k<v.1.length/\r=(k:Int)):=by
 rw[Pk];unfold ap;obtain⟨b,h1,h2⟩:=tI (β:=Unit⊕Int) (step:=λz=>aK v id z) (λk i=>i=(k:Int)) v.1.length (λb=>∀r,b=.inr r->∃k:Nat,k<v.1.length/\r=(k:Int))
  (λk i hk h=>by
   subst h;unfold aK;rw[u0 (by omega),cT,tE hk,an];cases (v.1[k].1==id)with
   | true=>exact .inr ⟨_,rfl,λr hr=>⟨k,hk,by cases hr;rfl⟩⟩
   | false=>exact .inl ⟨_,rfl,tz (by omega)⟩)
  (λi h=>by
   subst h;unfold aK;rw[tW (by omega)];exact⟨_,rfl,λr hr=>by cases hr⟩) (x:=0) rfl
 rw[h1,an];cases b with
 | inl _=>exact⟨_,rfl,.inl rfl⟩
 | inr r=>exact⟨r,rfl,.inr (h2 r rfl)⟩
theorem wS {α:Type} {l:List α} {a b:Nat} (h1:a<=b) (h2:b<=l.length):cut l (a:Int) (b:Int)=some ((l.take b).drop a):=by
 unfold cut;rw[if_pos (by omega),if_pos (by omega),if_pos (by omega)];simp
theorem tn {α:Type} {xs ys:List α} (h:xs.length+ys.length<=4294967296):tJ xs ys=some (xs++ys):=by
 unfold tJ;rw[if_pos (show xs.length+ys.length<=Bj from h)]
theorem QE {v:uj} {n:Nat} (hv:VT v n) (id:Int):∃y ok,eJ v id=some (y,ok)/\VT y n:=by
 obtain⟨l1,l2,l3,l4⟩:=hv.len;obtain⟨r,hr,hr2⟩:=Pw (v:=v) (by omega) id;unfold eJ;rw[hr,an,Pv hv,an,Bool.not_true,cF,Kr (by omega) (by omega),an,an,an];rcases hr2 with rfl|⟨k,hk,rfl⟩
 · exact⟨_,_,rfl,hv⟩
 · rw[tW (by omega),cF,show (0:Int)=((0:Nat):Int)from rfl,wS (by omega) (by omega),an,tz (by omega),wS (by omega) (by omega)];have t1:((v.1.take k).drop 0).length<=6:=by simp;omega
   have t2:((v.1.take v.1.length).drop (k+1)).length<=6:=by simp;omega
   rw[tn (by show 0+_<=_;omega),an,an,nil_append,tn (by omega),an];obtain⟨y,ok,e,hy⟩:=Pu (x:=((v.1.take k).drop 0++(v.1.take v.1.length).drop (k+1),v.2)) hv (by show ((v.1.take k).drop 0++(v.1.take v.1.length).drop (k+1)).length<=_;rw[length_append];omega) (by show v.2.length<=_;omega) (λr hr=>by
    rcases mem_append.1 hr with hr|hr
    · exact hv.r r (List.mem_of_mem_take (List.mem_of_mem_drop hr))
    · exact hv.r r (List.mem_of_mem_take (List.mem_of_mem_drop hr)))
   rw[e];exact⟨_,_,rfl,hy⟩
theorem Rv {v:uj} {n:Nat} (hv:VT v n) {r:tC} (hr:Ac r.2.2):∃y,aF v r=some y/\y.1.length<=1000/\y.2.length<=1000/\∀r∈y.1,Ac r.2.2:=by
 obtain⟨l1,l2,l3,l4⟩:=hv.len;obtain⟨d,h1,h2,h3⟩:=tI (step:=λz:Bool×Int×List tC=>az v r z.1 z.2.1 z.2.2) (λk z=>z.2.1=(k:Int)/\z.2.2.length<=2*k/\∀x∈z.2.2,Ac x.2.2) v.1.length (λd=>d.2.length<=12/\∀x∈d.2,Ac x.2.2)
  (λk z hk ⟨e1,e2,e3⟩=>by
   obtain⟨t,i,b⟩:=z;simp only at e1 e2 e3;subst e1;left;have hvk:Ac v.1[k].2.2:=hv.r _ (getElem_mem hk)
   show ∃y,az v r t (k:Int) b=_/\_;unfold az;simp only[u0 (show (k:Int)<(v.1.length:Int) by omega),cT,tE hk,an,tz (show k<9223372036854775807 by omega),Int.not_lt];have ha:∀(xs:List tC) (y:tC),xs.length<=100->tJ xs [y]=some (xs++[y]):=λxs y h=>tn (by show xs.length+1<=_;omega)
   have key:∀(tt:Bool),((cond (!t) (some (decide (v.1[k].1>=r.1))) (some false))=some tt->∃y:Bool×Int×List tC,(cond tt ((tJ b [r]).bind λzs37=>cond (v.1[k].1 != r.1) ((tJ zs37 [v.1[k]]).bind λzs56=>some (.inl (true,((k+1:Nat):Int),zs56))) (some (.inl (true,((k+1:Nat):Int),zs37)))) (cond (v.1[k].1 != r.1) ((tJ b [v.1[k]]).bind λzs56_1=>some (.inl (t,((k+1:Nat):Int),zs56_1))) (some (.inl (t,((k+1:Nat):Int),b)))):Option ((Bool×Int×List tC)⊕(Bool×List tC)))=some (.inl y)/\y.2.1=((k+1:Nat):Int)/\y.2.2.length<=2*(k+1)/\∀x∈y.2.2,Ac x.2.2):=by
    intro tt _;cases tt with
    | true =>
     rw[cT,ha b r (by omega),an];cases v.1[k].1 != r.1 with
     | true =>
      rw[cT,ha (b++[r]) _ (by simp;omega),an];refine⟨_,rfl,rfl,by simp;omega,λx hx=>?_⟩;simp at hx;rcases hx with hx|rfl|rfl
      · exact e3 x hx
      · exact hr
      · exact hvk
     | false =>
      refine⟨_,rfl,rfl,by simp;omega,λx hx=>?_⟩;simp at hx;rcases hx with hx|rfl
      · exact e3 x hx
      · exact hr
    | false =>
     rw[cF];cases v.1[k].1 != r.1 with
     | true =>
      rw[cT,ha b _ (by omega),an];refine⟨_,rfl,rfl,by simp;omega,λx hx=>?_⟩;simp at hx;rcases hx with hx|rfl
      · exact e3 x hx
      · exact hvk
     | false=>exact⟨_,rfl,rfl,by show b.length<=_;omega,e3⟩
   cases ht:(cond (!t) (some (decide (v.1[k].1>=r.1))) (some false))with
   | none=>cases t<;>cases ht
   | some tt =>
    rw[an];exact key tt ht)
  (λz ⟨e1,e2,e3⟩=>by
   obtain⟨t,i,b⟩:=z;simp only at e1 e2 e3;subst e1;refine⟨(t,b),?_,by show b.length<=12;omega,e3⟩;show az v r t _ b=_
   unfold az;rw[tW (by omega),cF]) (x:=(false,0,[])) ⟨rfl,by simp,λx hx=>absurd hx not_mem_nil⟩
 unfold aF;rw[tn (by show 0+v.2.length<=_;omega),an,h1,an,nil_append];cases d.1 with
 | true=>exact⟨_,rfl,by show d.2.length<=_;omega,by show v.2.length<=_;omega,h3⟩
 | false =>
  rw[Bool.not_false,cT,tn (by show d.2.length+1<=_;omega),an];refine⟨_,rfl,by show (d.2++[r]).length<=_;simp;omega,by show v.2.length<=_;omega,λx hx=>?_⟩;have hx:x∈d.2++[r]:=hx
  simp at hx;rcases hx with hx|rfl
  · exact h3 x hx
  · exact hr
theorem Rw {v:uj} {n:Nat} (hv:VT v n) {r:tC} (hr:Ac r.2.2):∃y ok,eK v r=some (y,ok)/\VT y n:=by
 obtain⟨x,hx,h1,h2,h3⟩:=Rv hv hr;unfold eK;rw[Pv hv,an,Bool.not_true,cF,hx,an];obtain⟨y,ok,e,hy⟩:=Pu hv h1 h2 h3;rw[e];exact⟨_,_,rfl,hy⟩
theorem QF (a b:Int):Ac (wT .i64 a b):=by
 rw[Ho];have h1:=BitVec.toInt_lt (x:=BitVec.ofInt 64 a&&&BitVec.ofInt 64 b)
 have h2:=BitVec.le_toInt (x:=BitVec.ofInt 64 a&&&BitVec.ofInt 64 b);exact⟨by omega,by omega⟩
theorem QG {c:tD} (h:CW c) {n:Nat} (h1:1<=n) (h6:n<=6):∃c' r,fK c (n:Int)=some (c',r)/\CW c'/\Ac r.2.2:=by
 obtain⟨t,ht,_⟩:=Kj (i:=(n:Int)) (by unfold tj;rw[dT (by omega),dT (by omega)];rfl);unfold fK;rw[ht,an];obtain⟨c1,r1,e1,w1,_⟩:=vA h (te ((te (t-1))+1));obtain⟨c2,r2,e2,w2,_⟩:=xp w1 (l:=[1,2,3,2]) (by decide);obtain⟨c3,r3,e3,w3,_⟩:=vA w2 (te ((te (t-1))+1));rw[e1,an,e2,an,e3,an];exact⟨_,_,rfl,w3,QF _ _⟩

theorem Px {n:Nat} (h1:1<=n) (h6:n<=6):eF (n:Int)=some ([(1,vr (n:Int),vr (n:Int))],List.replicate n 1):=by
 have hin:tj (n:Int) 1 6=true:=by unfold tj;rw[dT (by omega),dT (by omega)];rfl
 obtain⟨t,ht,ht2⟩:=Kj hin;obtain⟨d,hd,rfl⟩:=tI (step:=λz:Int×List Int=>dv (n:Int) z.1 z.2) (λk z=>z.1=(k:Int)/\z.2=List.replicate k 1) n (λd=>d=List.replicate n 1)
  (λk z hk ⟨e1,e2⟩=>by
   obtain⟨i,l⟩:=z;simp only at e1 e2;subst e1 e2;left;refine⟨(((k+1:Nat):Int),List.replicate k 1++[1]),?_,rfl,?_⟩
   · show dv (n:Int) (k:Int) _=_;unfold dv;rw[u0 (by omega),cT,tn (by simp;omega),an,tz (by omega)]
   · show List.replicate k 1++[1]=_;rw[←List.replicate_succ'])
  (λz ⟨e1,e2⟩=>by
   obtain⟨i,l⟩:=z;simp only at e1 e2;subst e1 e2;refine⟨_,?_,rfl⟩;show dv (n:Int) _ _=_
   unfold dv;rw[tW (by omega),cF]) (x:=(0,[])) ⟨rfl,rfl⟩
 unfold eF;rw[yw,an,hin,Bool.not_true,cF,ht,an,hd,an,ht2]
theorem QH {n:Nat} (h1:1<=n) (h6:n<=6):VT ([(1,vr (n:Int),vr (n:Int))],List.replicate n 1) n:=by
 have hin:tj (n:Int) 1 6=true:=by unfold tj;rw[dT (by omega),dT (by omega)];rfl
 have ht:=Hn hin;have hrow:ap ([(1,vr (n:Int),vr (n:Int))],List.replicate n 1) 1=some 0:=by
  unfold ap;rw[yE (k:=1) (b:=.inr 0) (by rfl)];rfl
 have hb:(Cc .i64 (vr (n:Int)) (vr (n:Int)) != 0)=false:=by
  rcases FW hin with h|h|h|h|h|h<;>rw[h]<;>decide
 refine⟨?_,λr hr=>?_⟩
 · unfold wF;rw[hin];show (!(!true||(((List.replicate n (1:Int)).length:Int) != (n:Int)||decide ((1:Int)>6)))&&(!(List.range 1).any _&&!(List.range (List.replicate n (1:Int)).length).any _))=true
   rw[List.length_replicate];have e1:(((n:Int)) != (n:Int))=false:=by simp
   rw[e1];have e2:(List.range 1).any (zD ([(1,vr (n:Int),vr (n:Int))],List.replicate n 1) (n:Int))=false:=by
    show (zD ([(1,vr (n:Int),vr (n:Int))],List.replicate n 1) (n:Int) 0||false)=false;unfold zD;show ((!(tj 1 1 99)||((decide (0<0)&&_)||(!(tj (vr (n:Int)) 0 (vr (n:Int)))||(Cc .i64 (vr (n:Int)) (vr (n:Int)) != 0))))||false)=false
    rw[hb];have:tj (vr (n:Int)) 0 (vr (n:Int))=true:=by unfold tj;rw[dT (by omega),dT (by omega)];rfl
    rw[this];rfl
   rw[e2];have e3:(List.range n).any (B9 ([(1,vr (n:Int),vr (n:Int))],List.replicate n 1))=false:=by
    apply Bool.eq_false_iff.2;intro h;obtain⟨k,hk,hx⟩:=any_eq_true.1 h;have hk:=mem_range.1 hk
    unfold B9 at hx;have:(List.replicate n (1:Int))[k]?=some 1:=by rw[List.getElem?_replicate,if_pos hk]
    simp only[this,hrow]at hx
    revert hx;decide
   rw[e3];rfl
 · have hr:r∈[((1:Int),vr (n:Int),vr (n:Int))]:=hr;simp at hr;subst hr;exact⟨by show _<=vr (n:Int);omega,by show vr (n:Int)<=_;omega⟩
theorem NC {c:tD} (h:CW c) {n:Nat} (h1:1<=n) (h6:n<=6):∃c' v,co c (n:Int)=some (c',v)/\CW c'/\VT v n:=by
 unfold co;obtain⟨c0,m,e0,w0,hm⟩:=vh h (n:=6) (by decide);rw[Px h1 h6,an];have e0':aa c 6=some (c0,(m:Int)):=e0
 rw[e0',an];obtain⟨d,hd,g1,g2⟩:=tI (step:=λz:Int×List Int×Int×Int×List tC×List Int=>dz (n:Int) z.1 z.2.1 z.2.2.1 z.2.2.2.1 z.2.2.2.2.1 z.2.2.2.2.2) (λk z=>z.1=(m:Int)-(k:Int)/\CW (z.2.1,z.2.2.1,z.2.2.2.1)/\VT z.2.2.2.2 n) m (λd=>CW (d.1,d.2.1,d.2.2.1)/\VT d.2.2.2 n)
  (λk z hk ⟨a1,a2,a3⟩=>by
   obtain⟨i,x,y,s,v⟩:=z;simp only at a1 a2 a3;left;show ∃y',dz (n:Int) i x y s v.1 v.2=_/\_
   unfold dz;have hi:decide (i>0)=true:=dT (by omega)
   have hw:te (i-1)=(m:Int)-((k+1:Nat):Int):=by rw[tM (by omega) (by omega)];omega
   obtain⟨c1,r1,e1,w1,_⟩:=vA a2 4;rw[hi,cT,e1,an,hw];show ∃y',cond (r1==0) _ _=_/\_
   cases r1==0 with
   | true =>
    obtain⟨c2,r2,e2,w2,_⟩:=vA w1 (n:Int);obtain⟨c3,r3,e3,w3,_⟩:=vA w2 3;obtain⟨v',ok,e4,g4⟩:=QD a3 r2 (te (1+r3));have e4':eI (v.1,v.2) r2 (te (1+r3))=some (v',ok):=e4
    rw[cT,e2,an,e3,an,e4',an];exact⟨_,rfl,rfl,w3,g4⟩
   | false =>
    rw[cF];show ∃y',cond (r1==1) _ _=_/\_
    cases r1==1 with
    | true =>
     obtain⟨c2,r2,e2,w2,_⟩:=vA w1 2;obtain⟨v',ok,e4,g4⟩:=QE a3 (te (2+r2));have e4':eJ (v.1,v.2) (te (2+r2))=some (v',ok):=e4
     rw[cT,e2,an,e4',an];exact⟨_,rfl,rfl,w2,g4⟩
    | false =>
     obtain⟨c2,r2,e2,w2,hr2⟩:=QG w1 h1 h6;obtain⟨v',ok,e4,g4⟩:=Rw a3 hr2;have e4':eK (v.1,v.2) r2=some (v',ok):=e4
     rw[cF,e2,an,e4',an];exact⟨_,rfl,rfl,w2,g4⟩)
  (λz ⟨a1,a2,a3⟩=>by
   obtain⟨i,x,y,s,v⟩:=z;simp only at a1 a2 a3;refine⟨(x,y,s,v),?_,a2,a3⟩;show dz (n:Int) i x y s v.1 v.2=_
   unfold dz;have hi:decide (i>0)=false:=dF (by omega)
   rw[hi,cF]) (x:=((m:Int),c0.1,c0.2.1,c0.2.2,[(1,vr (n:Int),vr (n:Int))],List.replicate n 1)) ⟨by simp,w0,QH h1 h6⟩
 rw[hd,an];exact⟨_,_,rfl,g1,g2⟩
theorem Py {c:tD} (h:CW c):∃c' v,eH c=some (c',v)/\CW c'/\E5 v=true:=by
 obtain⟨c1,k1,e1,w1,b1⟩:=vh h (n:=5) (by decide);obtain⟨c2,x2,e2,w2,b2⟩:=xp w1 (l:=[0,1,2,5,10,100]) (by decide);obtain⟨c3,x3,e3,w3,b3⟩:=xp w2 (l:=[0,1,2,9,10]) (by decide);obtain⟨c4,k4,e4,w4,b4⟩:=vh w3 (n:=5) (by decide);obtain⟨c5,k5,e5,w5,b5⟩:=vh w4 (n:=4) (by decide);have e1':aa c 5=some (c1,(k1:Int)):=e1
 have e4':aa c3 5=some (c4,(k4:Int)):=e4;have e5':aa c4 4=some (c5,(k5:Int)):=e5
 unfold eH;rw[e1',an,e2,an,e3,an,e4',an,e5',an];refine⟨_,_,rfl,w5,?_⟩;show E5 (te (1+(k1:Int)),x2,x3,te (1+(k4:Int)),(k5:Int))=true
 rw[tM (by omega) (by omega),tM (by omega) (by omega)];have i1:tj (1+(k1:Int)) 1 99=true:=by unfold tj;rw[dT (by omega),dT (by omega)];rfl
 have i4:tj (1+(k4:Int)) 1 99=true:=by unfold tj;rw[dT (by omega),dT (by omega)];rfl
 have i5:tj (k5:Int) 0 7=true:=by unfold tj;rw[dT (by omega),dT (by omega)];rfl
 have i2:tj x2 0 100000=true:=by
  have:∀x∈([0,1,2,5,10,100]:List Int),tj x 0 100000=true:=by decide
  exact this x2 b2
 have i3:tj x3 0 10=true:=by
  have:∀x∈([0,1,2,9,10]:List Int),tj x 0 10=true:=by decide
  exact this x3 b3
 unfold E5;rw[i1,i2,i3,i4,i5];rfl
theorem LP {c:tD} (h:CW c) {n:Nat} (h6:n<=6):∃c' l,cn c (n:Int)=some (c',l)/\CW c'/\l.length=n/\∀x∈l,zR x=true:=by
 unfold cn;obtain⟨d,hd,g1,g2,g3⟩:=tI (step:=λz:Int×List Int×Int×Int×List Pt=>dx (n:Int) z.1 z.2.1 z.2.2.1 z.2.2.2.1 z.2.2.2.2) (λk z=>z.1=(k:Int)/\CW (z.2.1,z.2.2.1,z.2.2.2.1)/\z.2.2.2.2.length=k/\∀x∈z.2.2.2.2,zR x=true) n (λd=>CW (d.1,d.2.1,d.2.2.1)/\d.2.2.2.length=n/\∀x∈d.2.2.2,zR x=true)
  (λk z hk ⟨a1,a2,a3,a4⟩=>by
   obtain⟨i,x,y,s,l⟩:=z;simp only at a1 a2 a3 a4;subst a1;left;show ∃y',dx (n:Int) (k:Int) x y s l=_/\_
   unfold dx;obtain⟨c1,up,e1,w1⟩:=Hq a2 4;obtain⟨c2,cost,e2,w2,b2⟩:=xp w1 (l:=[1,1,2,5,10]) (by decide);have hc:tj cost 1 1000=true:=by
    have:∀x∈([1,1,2,5,10]:List Int),tj x 1 1000=true:=by decide
    exact this cost b2
   have ha:∀q:Pt,tJ l [q]=some (l++[q]):=λq=>tn (by show l.length+1<=_;omega);have hin:∀q:Pt,zR q=true->(l++[q]).length=k+1/\∀x∈l++[q],zR x=true:=λq hq=>⟨by simp;omega,λx hx=>by
    simp at hx;rcases hx with hx|rfl
    · exact a4 x hx
    · exact hq⟩
   rw[u0 (by omega),cT,e1,an,e2,an,tz (by omega)];show ∃y',cond (!up) _ _=_/\_
   cases up with
   | true =>
    simp only[ha,Bool.not_true,cF,an];obtain⟨q1,q2⟩:=hin (false,cost,false,0,0,0,0,0) (by unfold zR;rw[hc];rfl);exact⟨_,rfl,rfl,w2,q1,q2⟩
   | false =>
    obtain⟨c3,has,e3,w3⟩:=Hq w2 4;rw[Bool.not_false,cT,e3,an];show ∃y',cond (!has) _ _=_/\_
    cases has with
    | true =>
     simp only[ha,Bool.not_true,cF,an];obtain⟨q1,q2⟩:=hin (true,cost,false,0,0,0,0,0) (by unfold zR;rw[hc];rfl);exact⟨_,rfl,rfl,w3,q1,q2⟩
    | false =>
     obtain⟨c4,v,e4,w4,hv⟩:=Py w3;simp only[ha,Bool.not_false,cT,an,e4];obtain⟨q1,q2⟩:=hin (true,cost,true,v.1,v.2.1,v.2.2.1,v.2.2.2.1,v.2.2.2.2) (by unfold zR;rw[hc];exact hv);exact⟨_,rfl,rfl,w4,q1,q2⟩)
  (λz ⟨a1,a2,a3,a4⟩=>by
   obtain⟨i,x,y,s,l⟩:=z;simp only at a1 a2 a3 a4;subst a1;refine⟨(x,y,s,l),?_,a2,a3,a4⟩;show dx (n:Int) _ x y s l=_
   unfold dx;rw[tW (by omega),cF]) (x:=(0,c.1,c.2.1,c.2.2,[])) ⟨rfl,h,rfl,λx hx=>absurd hx not_mem_nil⟩
 rw[hd,an];exact⟨_,_,rfl,g1,g2,g3⟩

def lt (a b:tk):Prop:=a.1<b.1\/(a.1=b.1/\a.2.1<b.2.1)
def same (a b:tk):Prop:=a.1=b.1/\a.2.1=b.2.1
theorem lt_trans {a b c:tk} (h:lt a b) (k:lt b c):lt a c:=by unfold lt at *;omega
theorem Ks {a b:tk} (h:lt a b):¬same a b:=by unfold lt same at *;omega
structure FB (l:List tk):Prop where
 e:∀x∈l,wv x=true
 o:l.Pairwise lt
 n:l.length<=12
theorem FB.ok {l:List tk} (h:FB l):yI l=true:=by
 unfold yI;have hn:=h.n
 rw[dT (show (l.length:Int)<=12 by omega),Bool.and_true,Bool.not_eq_true'];apply Bool.eq_false_iff.2;intro ha;obtain⟨k,hk,hx⟩:=any_eq_true.1 ha;have hk:=mem_range.1 hk
 unfold yM at hx;simp only[List.getElem?_eq_getElem hk,h.e _ (getElem_mem hk),Bool.not_true,Bool.false_or,aT,decide_eq_true_eq]at hx;obtain⟨h0,hx⟩:=hx;simp only[List.getElem?_eq_getElem (show k-1<l.length by omega),Bool.not_eq_true']at hx;have hl:=pairwise_iff_getElem.1 h.o (k-1) k (by omega) hk (by omega)
 unfold zS at hx;simp only[Bool.or_eq_false_iff,Bool.and_eq_false_iff,decide_eq_false_iff_not,bF]at hx;unfold lt at hl;omega
theorem R8 {l:List tk} (h:FB l):cq l=some true:=by
 have hn:=h.n;rw[Pj (by omega),h.ok]
theorem FB.copy {l:List tk} (h:FB l):bS l=some l:=by
 have hn:=h.n;unfold bS;rw[tn (by show 0+l.length<=_;omega)];rfl
theorem R9 {l:List tk} (hn:l.length<9223372036854775807) (tag mac:Int):∃r,bQ l tag mac=some r/\((r = -1/\∀x∈l,¬(x.1=tag/\x.2.1=mac))\/∃k:Nat,∃hk:k<l.length,r=(k:Int)/\l[k].1=tag/\l[k].2.1=mac):=by
 obtain⟨v,h1,h2⟩:=tI (step:=λz=>aP l tag mac z) (λk i=>i=(k:Int)/\∀x∈l.take k,¬(x.1=tag/\x.2.1=mac)) l.length (λv=>(v=.inl ()/\∀x∈l,¬(x.1=tag/\x.2.1=mac))\/∃k:Nat,∃hk:k<l.length,v=.inr (k:Int)/\l[k].1=tag/\l[k].2.1=mac)
  (λk i hk ⟨e,hx⟩=>by
   subst e;have hs:aP l tag mac (k:Int)=cond (l[k].1==tag&&l[k].2.1==mac) (some (.inr (.inr (k:Int)))) (some (.inl ((k+1:Nat):Int))):=by
    unfold aP;simp only[u0 (show (k:Int)<(l.length:Int) by omega),cT,tE hk,an,tz (show k<9223372036854775807 by omega)];cases l[k].1==tag<;>rfl
   cases hb:(l[k].1==tag&&l[k].2.1==mac)with
   | true =>
    simp only[aT,beq_iff_eq]at hb;refine .inr ⟨_,by rw[hs];rw[show (l[k].1==tag&&l[k].2.1==mac)=true by simp[hb.1,hb.2]];rfl,.inr ⟨k,hk,rfl,hb.1,hb.2⟩⟩
   | false =>
    refine .inl ⟨_,by rw[hs,hb];rfl,rfl,λx hx'=>?_⟩;rw[take_add_one,List.getElem?_eq_getElem hk,mem_append]at hx';rcases hx' with hx'|hx'
    · exact hx x hx'
    · simp at hx';subst hx';intro ⟨q1,q2⟩;rw[q1,q2]at hb;simp at hb)
  (λi ⟨e,hx⟩=>by
   subst e;rw[take_length]at hx;refine⟨.inl (),?_,.inl ⟨rfl,hx⟩⟩;show aP l tag mac _=_
   unfold aP;rw[tW (by omega),cF]) (x:=0) ⟨rfl,by simp⟩
 unfold bQ;rw[h1,an];rcases h2 with ⟨rfl,h2⟩|⟨k,hk,rfl,h2⟩
 · exact⟨_,rfl,.inl ⟨rfl,h2⟩⟩
 · exact⟨_,rfl,.inr ⟨k,hk,rfl,h2⟩⟩
def Ad (x e:tk):Bool:=cond (x.1 != e.1) (decide (x.1<e.1)) (decide (x.2.1<e.2.1))
theorem MQ {x e:tk} (h:Ad x e=true):lt x e:=by
 unfold Ad at h;unfold lt;by_cases hx:x.1=e.1
 · rw[show (x.1 != e.1)=false by simp[hx],cF]at h;exact .inr ⟨hx,of_decide_eq_true h⟩
 · rw[show (x.1 != e.1)=true from bne_iff_ne.2 hx,cT]at h;exact .inl (of_decide_eq_true h)
theorem LQ {x e:tk} (h:Ad x e=false):lt e x\/same x e:=by
 unfold Ad at h;unfold lt same;by_cases hx:x.1=e.1
 · rw[show (x.1 != e.1)=false by simp[hx],cF]at h;have:=of_decide_eq_false h
   omega
 · rw[show (x.1 != e.1)=true from bne_iff_ne.2 hx,cT]at h;have:=of_decide_eq_false h
   omega
def yy (x e:tk):Bool:=x.1 != e.1||x.2.1 != e.2.1
theorem Dj {x e:tk} (h:yy x e=true):¬same x e:=by
 unfold yy at h;unfold same;simp only[Bool.or_eq_true,bne_iff_ne]at h;omega
theorem IS {x e:tk} (h:yy x e=false):same x e:=by
 unfold yy at h;unfold same;simp only[Bool.or_eq_false_iff,bne_eq_false_iff_eq]at h;exact h
theorem AL {l:List tk} {x:tk} (h:l.Pairwise lt) (k:∀y∈l,lt y x):(l++[x]).Pairwise lt:=by
 rw[pairwise_append];exact⟨h,List.pairwise_singleton _ _,λa ha b hb=>by simp at hb;subst hb;exact k a ha⟩
theorem Kt {l:List tk} (h:FB l) {e:tk} (he:wv e=true) (hroom:(∃x∈l,same x e)\/l.length<12):∃y,eL l e=some y/\FB y:=by
 have hn:=h.n;have hlt:∀i j (hi:i<l.length) (hj:j<l.length),i<j->lt l[i] l[j]:=pairwise_iff_getElem.1 h.o
 obtain⟨d,hd,g⟩:=tI (step:=λz:Bool×Int×List tk=>cp l e z.1 z.2.1 z.2.2)
  (λk z=>z.2.1=(k:Int)/\(∀x∈z.2.2,wv x=true)/\z.2.2.Pairwise lt /\
   (z.1=false->z.2.2=l.take k/\∀x∈l.take k,lt x e) /\
   (z.1=true->(∀x∈z.2.2,∀j (hj:j<l.length),k<=j->lt x l[j])/\(∀j (hj:j<l.length),k<=j->lt e l[j])/\z.2.2.length<=k+1/\((∃x∈l.take k,same x e)->z.2.2.length<=k))) l.length
  (λd=>(∀x∈d.2,wv x=true)/\d.2.Pairwise lt/\(d.1=false->d.2=l/\∀x∈l,lt x e)/\(d.1=true->d.2.length<=l.length+1/\((∃x∈l,same x e)->d.2.length<=l.length)))
  (λk z hk ⟨e1,e2,e3,e4,e5⟩=>by
   obtain⟨t,i,b⟩:=z;simp only at e1 e2 e3 e4 e5;subst e1;left;have hf:wv l[k]=true:=h.e _ (getElem_mem hk)
   have hbl:b.length<=100:=by
    cases t with
    | false=>rw[(e4 rfl).1,length_take];omega
    | true=>have:=(e5 rfl).2.2.1;omega
   have ha:∀(xs:List tk) (y:tk),xs.length<=101->tJ xs [y]=some (xs++[y]):=λxs y h=>tn (by show xs.length+1<=_;omega);have htk:l.take (k+1)=l.take k++[l[k]]:=by rw[take_add_one,List.getElem?_eq_getElem hk];rfl
   have hs:cp l e t (k:Int) b=cond (!t&&!(Ad l[k] e))
    (cond (yy l[k] e) (some (.inl (true,((k+1:Nat):Int),b++[e]++[l[k]]))) (some (.inl (true,((k+1:Nat):Int),b++[e]))))
    (cond (yy l[k] e) (some (.inl (t,((k+1:Nat):Int),b++[l[k]]))) (some (.inl (t,((k+1:Nat):Int),b)))):=by
    have hA:bR l[k] e.1 e.2.1=some (Ad l[k] e):=by unfold bR Ad;cases (l[k].1 != e.1)<;>rfl
    have hO:(cond (l[k].1 != e.1) (some true) (some (l[k].2.1 != e.2.1)))=some (yy l[k] e):=by unfold yy;cases (l[k].1 != e.1)<;>rfl
    unfold cp;simp only[u0 (show (k:Int)<(l.length:Int) by omega),cT,tE hk,an,tz (show k<9223372036854775807 by omega),hA,hO,ha b e (by omega),ha b l[k] (by omega),ha (b++[e]) l[k] (by rw[length_append];show b.length+1<=_;omega)];cases t<;>cases Ad l[k] e<;>rfl
   show ∃y,cp l e t (k:Int) b=_/\_;rw[hs];cases t with
   | false =>
    obtain⟨f1,f2⟩:=e4 rfl;subst f1;cases hah:Ad l[k] e with
    | true =>
     have hl:=MQ hah;have ho:yy l[k] e=true:=by
      cases ho:yy l[k] e with
      | true=>rfl
      | false=>exact absurd (IS ho) (Ks hl)
     rw[ho];refine⟨_,rfl,rfl,λx hx=>?_,?_,λ_=>⟨by show l.take k++[l[k]]=_;rw[htk],λx hx=>?_⟩,(λht=>by cases ht)⟩
     · have hx:x∈l.take k++[l[k]]:=hx;rcases mem_append.1 hx with hx|hx
       · exact e2 x hx
       · simp at hx;subst hx;exact hf
     · show (l.take k++[l[k]]).Pairwise lt;rw[←htk];exact List.Pairwise.sublist (List.take_sublist _ _) h.o
     · rw[htk]at hx;rcases mem_append.1 hx with hx|hx
       · exact f2 x hx
       · simp at hx;subst hx;exact hl
    | false =>
     have hge:=LQ hah;have hpe:(l.take k++[e]).Pairwise lt:=AL e3 f2
     have hee:∀x∈l.take k++[e],wv x=true:=λx hx=>by
      rcases mem_append.1 hx with hx|hx
      · exact e2 x hx
      · simp at hx;subst hx;exact he
     have hlater:∀j (hj:j<l.length),k+1<=j->lt e l[j]:=λj hj hkj=>by
      have h1:=hlt k j hk hj (by omega);rcases hge with h2|h2
      · exact lt_trans h2 h1
      · unfold same at h2;unfold lt at h1 ⊢;omega
     have htl:∀x∈l.take k,∀j (hj:j<l.length),k+1<=j->lt x l[j]:=λx hx j hj hkj=>lt_trans (f2 x hx) (hlater j hj hkj);have hlen:(l.take k).length=k:=by rw[length_take];omega
     cases ho:yy l[k] e with
     | true =>
      have hek:lt e l[k]:=by
       rcases hge with h2|h2
       · exact h2
       · exact absurd h2 (Dj ho)
      refine⟨_,rfl,rfl,λx hx=>?_,?_,(λht=>by cases ht),λ_=>⟨λx hx j hj hkj=>?_,hlater,?_,λ⟨x,hx,hxe⟩=>?_⟩⟩
      · have hx:x∈l.take k++[e]++[l[k]]:=hx;rcases mem_append.1 hx with hx|hx
        · exact hee x hx
        · simp at hx;subst hx;exact hf
      · show (l.take k++[e]++[l[k]]).Pairwise lt;refine AL hpe λy hy=>?_;rcases mem_append.1 hy with hy|hy
        · exact lt_trans (f2 y hy) hek
        · simp at hy;subst hy;exact hek
      · have hx:x∈l.take k++[e]++[l[k]]:=hx;rcases mem_append.1 hx with hx|hx
        · rcases mem_append.1 hx with hx|hx
          · exact htl x hx j hj hkj
          · simp at hx;subst hx;exact hlater j hj hkj
        · simp at hx;subst hx;exact hlt k j hk hj (by omega)
      · show (l.take k++[e]++[l[k]]).length<=_;simp only[length_append,hlen,List.length_singleton];omega
      · rw[htk]at hx;rcases mem_append.1 hx with hx|hx
        · exact absurd hxe (Ks (f2 x hx))
        · simp at hx;subst hx;exact absurd hxe (Dj ho)
     | false =>
      refine⟨_,rfl,rfl,hee,hpe,(λht=>by cases ht),λ_=>⟨λx hx j hj hkj=>?_,hlater,?_,λ_=>?_⟩⟩
      · have hx:x∈l.take k++[e]:=hx;rcases mem_append.1 hx with hx|hx
        · exact htl x hx j hj hkj
        · simp at hx;subst hx;exact hlater j hj hkj
      · show (l.take k++[e]).length<=_;simp only[length_append,hlen,List.length_singleton];omega
      · show (l.take k++[e]).length<=_;simp only[length_append,hlen,List.length_singleton];omega
   | true =>
    obtain⟨f1,f2,f3,f4⟩:=e5 rfl;cases ho:yy l[k] e with
    | true =>
     refine⟨_,rfl,rfl,λx hx=>?_,AL e3 λy hy=>f1 y hy k hk (Nat.le_refl _),(λht=>by cases ht),λ_=>⟨λx hx j hj hkj=>?_,λj hj hkj=>f2 j hj (by omega),?_,λ⟨x,hx,hxe⟩=>?_⟩⟩
     · have hx:x∈b++[l[k]]:=hx;rcases mem_append.1 hx with hx|hx
       · exact e2 x hx
       · simp at hx;subst hx;exact hf
     · have hx:x∈b++[l[k]]:=hx;rcases mem_append.1 hx with hx|hx
       · exact f1 x hx j hj (by omega)
       · simp at hx;subst hx;exact hlt k j hk hj (by omega)
     · show (b++[l[k]]).length<=_;rw[length_append];show b.length+1<=_;omega
     · show (b++[l[k]]).length<=_;rw[htk]at hx;rcases mem_append.1 hx with hx|hx
       · have:=f4 ⟨x,hx,hxe⟩;rw[length_append];show b.length+1<=_;omega
       · simp at hx;subst hx;exact absurd hxe (Dj ho)
    | false =>
     exact⟨_,rfl,rfl,e2,e3,(λht=>by cases ht),λ_=>⟨λx hx j hj hkj=>f1 x hx j hj (by omega),λj hj hkj=>f2 j hj (by omega),by show b.length<=_;omega,λ_=>by show b.length<=_;omega⟩⟩)
  (λz ⟨e1,e2,e3,e4,e5⟩=>by
   obtain⟨t,i,b⟩:=z;simp only at e1 e2 e3 e4 e5;subst e1;rw[take_length]at e4 e5;refine⟨(t,b),?_,e2,e3,e4,λht=>⟨(e5 ht).2.2.1,(e5 ht).2.2.2⟩⟩;show cp l e t _ b=_
   unfold cp;rw[tW (by omega),cF]) (x:=(false,0,[])) ⟨rfl,λx hx=>absurd hx not_mem_nil,List.Pairwise.nil,λ_=>⟨by simp,λx hx=>by simp at hx⟩,(λht=>by cases ht)⟩
 obtain⟨g1,g2,g3,g4⟩:=g;unfold eL;rw[hd,an];obtain⟨t,b⟩:=d;simp only at g1 g2 g3 g4;cases t with
 | true =>
  refine⟨b,rfl,g1,g2,?_⟩;obtain⟨k1,k2⟩:=g4 rfl;rcases hroom with hr|hr
  · have:=k2 hr;omega
  · omega
 | false =>
  obtain⟨k1,k2⟩:=g3 rfl;have hr:l.length<12:=by
   rcases hroom with ⟨x,hx,hxe⟩|hr
   · exact absurd hxe (Ks (k2 x hx))
   · exact hr
  show ∃y,((tJ b [e]).bind λzs=>some zs)=some y/\FB y;rw[k1,tn (by show l.length+1<=_;omega),an];refine⟨_,rfl,λx hx=>?_,AL h.o k2,by rw[length_append];show l.length+1<=12;omega⟩;rcases mem_append.1 hx with hx|hx
  · exact h.e x hx
  · simp at hx;subst hx;exact he
theorem Pz (e:tk):cr e=some (wv e):=by rw[Nv];exact Ki e
theorem LR {l:List tk} (h:FB l) (tag mac port:Int):∃y,eM l tag mac port=some y/\FB y:=by
 have hn:=h.n;obtain⟨r,hr,hr2⟩:=R9 (l:=l) (by omega) tag mac;unfold eM;rw[hr,an,R8 h,an,Pz,an,h.copy,an,Bool.not_true,cF,an];cases he:wv (tag,mac,port,0,false)with
 | false=>exact⟨_,rfl,h⟩
 | true =>
  rcases hr2 with ⟨rfl,hr2⟩|⟨k,hk,rfl,q1,q2⟩
  · rw[Bool.not_true,cF];by_cases hlen:l.length<12
    · obtain⟨y,hy,hy2⟩:=Kt h he (.inr hlen);refine⟨y,?_,hy2⟩;rw[hy];show (cond (decide ((l.length:Int)>=12)) _ _)=_
      rw[dF (by omega)];rfl
    · refine⟨l,?_,h⟩;show (cond (decide ((l.length:Int)>=12)) _ _)=_
      rw[dT (by omega)];rfl
  · simp only[Bool.not_true,cF,dT (show (k:Int)>=0 by omega),cT,tE hk,an,tW (show ¬(k:Int)<0 by omega)];obtain⟨y,hy,hy2⟩:=Kt h he (.inl ⟨l[k],getElem_mem hk,q1,q2⟩);cases l[k].2.2.2.2 with
    | true=>exact⟨_,rfl,h⟩
    | false=>exact⟨y,by rw[hy];rfl,hy2⟩
theorem Jp {l:List tk} (h:FB l) (tag mac port:Int):∃y ok,dA l tag mac port=some (y,ok)/\FB y:=by
 have hn:=h.n;obtain⟨r,hr,hr2⟩:=R9 (l:=l) (by omega) tag mac;unfold dA;rw[hr,an,R8 h,an,Pz,an,h.copy,an,Bool.not_true,cF,an];cases he:wv (tag,mac,port,0,true)with
 | false=>exact⟨_,_,rfl,h⟩
 | true =>
  rcases hr2 with ⟨rfl,hr2⟩|⟨k,hk,rfl,q1,q2⟩
  · rw[Bool.not_true,cF];by_cases hlen:l.length<12
    · obtain⟨y,hy,hy2⟩:=Kt h he (.inr hlen);refine⟨y,true,?_,hy2⟩;rw[hy];show (cond (decide ((l.length:Int)>=12)) _ _)=_
      rw[dF (by omega)];rfl
    · refine⟨l,false,?_,h⟩;show (cond (decide ((l.length:Int)>=12)) _ _)=_
      rw[dT (by omega)];rfl
  · rw[Bool.not_true,cF,tW (show ¬(k:Int)<0 by omega),cF,an];obtain⟨y,hy,hy2⟩:=Kt h he (.inl ⟨l[k],getElem_mem hk,q1,q2⟩);rw[an,cF,hy];exact⟨y,true,rfl,hy2⟩

theorem Rx {id n:Nat} (i1:1<=id) (i2:id<=99) (h1:1<=n) (h6:n<=6):∃ps rs qs,eG (id:Int) (n:Int)=some ((id:Int),[],ps,[],rs,qs,0,0,0,0,0):=by
 have hin:tj (n:Int) 1 6=true:=by unfold tj;rw[dT (by omega),dT (by omega)];rfl
 have hid:tj (id:Int) 1 99=true:=by unfold tj;rw[dT (by omega),dT (by omega)];rfl
 obtain⟨d,hd,ps,rfl⟩:=tI (step:=λz:Int×Int×List UInt8×Int×Int×Int×Int×Int×List Pt×List tk=>dw (n:Int) z.1 z.2.1 z.2.2.1 z.2.2.2.1 z.2.2.2.2.1 z.2.2.2.2.2.1 z.2.2.2.2.2.2.1 z.2.2.2.2.2.2.2.1 z.2.2.2.2.2.2.2.2.1 z.2.2.2.2.2.2.2.2.2)
  (λk z=>∃ps:List Pt,ps.length=k/\z=((k:Int),(id:Int),[],0,0,0,0,0,ps,[])) n (λd=>∃ps:List Pt,d=((id:Int),[],0,0,0,0,0,ps,[]))
  (λk z hk ⟨ps,hp,e⟩=>by
   subst e;left;refine⟨(((k+1:Nat):Int),(id:Int),[],0,0,0,0,0,ps++[(false,1,false,0,0,0,0,0)],[]),?_,ps++[(false,1,false,0,0,0,0,0)],by simp;exact hp,rfl⟩;show dw (n:Int) (k:Int) (id:Int) [] 0 0 0 0 0 ps []=_
   unfold dw;rw[u0 (by omega),cT,tn (by show ps.length+1<=_;omega),an,tz (by omega)])
  (λz ⟨ps,hp,e⟩=>by
   subst e;refine⟨((id:Int),[],0,0,0,0,0,ps,[]),?_,ps,rfl⟩;show dw (n:Int) _ (id:Int) [] 0 0 0 0 0 ps []=_
   unfold dw;rw[tW (by omega),cF]) (x:=(0,(id:Int),[],0,0,0,0,0,[],[])) ⟨[],rfl,rfl⟩
 unfold eG;rw[yw,an,hid,Bool.not_true,cF,yw,an,hin,an,Bool.not_true,cF,Px h1 h6,an,hd,an];exact⟨_,_,_,rfl⟩
theorem Ku {c:tD} (h:CW c):∃c' x,bT c=some (c',x)/\CW c':=by
 obtain⟨c1,x,e,w,_⟩:=xp h (l:=[11,12,13,14]) (by decide);unfold bT;rw[e,an];exact⟨_,_,rfl,w⟩
def PA (b:td):Prop:=b.2.2.2.2.2.2.2.1=0/\b.2.2.2.2.2.2.2.2.1=0/\b.2.2.2.2.2.2.2.2.2.1=0
theorem Gu {c:tD} (h:CW c):∃c' b,ct c=some (c',b)/\CW c'/\wY b/\ue b=true/\PA b:=by
 obtain⟨c1,p,e1,w1,b1⟩:=vh h (n:=4) (by decide);obtain⟨c2,q,e2,w2,b2⟩:=vh w1 (n:=5) (by decide);have e1':aa c 4=some (c1,(p:Int)):=e1
 have e2':aa c1 5=some (c2,(q:Int)):=e2;have hp:te (1+(p:Int))=((p+1:Nat):Int):=by rw[tM (by omega) (by omega)];omega
 have hq:te (1+(q:Int))=((q+1:Nat):Int):=by rw[tM (by omega) (by omega)];omega
 obtain⟨ps,rs,qs,e3⟩:=Rx (id:=q+1) (n:=p+1) (by omega) (by omega) (by omega) (by omega);obtain⟨c4,name,e4,w4,b4⟩:=MP w2 (l:=[[],[121,97,114,100],[98,49]]) (by decide);obtain⟨c5,pts,e5,w5,l5,a5⟩:=LP w4 (n:=p+1) (by omega);obtain⟨c6,v,e6,w6,a6⟩:=NC w5 (n:=p+1) (by omega) (by omega);obtain⟨c7,m,e7,w7,b7⟩:=vh w6 (n:=6) (by decide);have e7':aa c6 6=some (c7,(m:Int)):=e7
 have hname:name.length<=10:=by
  have:∀x∈([[],[121,97,114,100],[98,49]]:List (List UInt8)),x.length<=10:=by decide
  exact this name b4
 obtain⟨d,hd,g1,g2,g3,g4⟩:=tI (step:=λz:Int×List Int×Int×Int×Int×List UInt8×Int×Int×Int×Int×Int×List tk=>dC (c1,(p:Int)) z.1 z.2.1 z.2.2.1 z.2.2.2.1 z.2.2.2.2.1 z.2.2.2.2.2.1 z.2.2.2.2.2.2.1 z.2.2.2.2.2.2.2.1 z.2.2.2.2.2.2.2.2.1 z.2.2.2.2.2.2.2.2.2.1 z.2.2.2.2.2.2.2.2.2.2.1 z.2.2.2.2.2.2.2.2.2.2.2)
  (λk z=>z.1=(m:Int)-(k:Int)/\CW (z.2.1,z.2.2.1,z.2.2.2.1)/\(z.2.2.2.2.1=((q+1:Nat):Int)/\z.2.2.2.2.2.1=name)/\(z.2.2.2.2.2.2.1,z.2.2.2.2.2.2.2.1,z.2.2.2.2.2.2.2.2.1,z.2.2.2.2.2.2.2.2.2.1,z.2.2.2.2.2.2.2.2.2.2.1)=((0:Int),(0:Int),(0:Int),(0:Int),(0:Int))/\FB z.2.2.2.2.2.2.2.2.2.2.2) m
  (λd=>CW (d.1,d.2.1,d.2.2.1)/\(d.2.2.2.1=((q+1:Nat):Int)/\d.2.2.2.2.1=name)/\(d.2.2.2.2.2.1,d.2.2.2.2.2.2.1,d.2.2.2.2.2.2.2.1,d.2.2.2.2.2.2.2.2.1,d.2.2.2.2.2.2.2.2.2.1)=((0:Int),(0:Int),(0:Int),(0:Int),(0:Int))/\FB d.2.2.2.2.2.2.2.2.2.2)
  (λk z hk ⟨a1,a2,a3,a4,a5⟩=>by
   obtain⟨i,x,y,s,bid,nm,n6,n7,n8,n9,n10,f⟩:=z;simp only at a1 a2 a3 a4 a5;left;show ∃y',dC (c1,(p:Int)) i x y s bid nm n6 n7 n8 n9 n10 f=_/\_
   unfold dC;have hi:decide (i>0)=true:=dT (by omega)
   have hw:te (i-1)=(m:Int)-((k+1:Nat):Int):=by rw[tM (by omega) (by omega)];omega
   obtain⟨d1,r1,f1,v1,_⟩:=vA a2 3;obtain⟨d2,r2,f2,v2⟩:=Ku v1;obtain⟨d3,r3,f3,v3,_⟩:=vA v2 (te (1+(p:Int)));obtain⟨y',f4,g4⟩:=LR a5 (te (1+r1)) r2 r3;rw[hi,cT,f1,an,f2,an,f3,an,f4,an,hw];exact⟨_,rfl,rfl,v3,a3,a4,g4⟩)
  (λz ⟨a1,a2,a3,a4,a5⟩=>by
   obtain⟨i,x,y,s,bid,nm,n6,n7,n8,n9,n10,f⟩:=z;simp only at a1 a2 a3 a4 a5;refine⟨(x,y,s,bid,nm,n6,n7,n8,n9,n10,f),?_,a2,a3,a4,a5⟩;show dC (c1,(p:Int)) i x y s bid nm n6 n7 n8 n9 n10 f=_
   unfold dC;have hi:decide (i>0)=false:=dF (by omega)
   rw[hi,cF]) (x:=((m:Int),c7.1,c7.2.1,c7.2.2,((q+1:Nat):Int),name,0,0,0,0,0,[])) ⟨by simp,w7,⟨rfl,rfl⟩,rfl,⟨λx hx=>absurd hx not_mem_nil,List.Pairwise.nil,by simp⟩⟩
 obtain⟨dc,dp,ds,did,dn,n6,n7,n8,n9,n10,df⟩:=d;simp only at g1 g2 g3 g4;obtain⟨rfl,rfl⟩:=g2;simp only[Prod.mk.injEq]at g3;obtain⟨rfl,rfl,rfl,rfl,rfl⟩:=g3;obtain⟨c8,st,e8,w8⟩:=Hq g1 3;obtain⟨z1,z2,z3,z4⟩:=a6.len;have hin:∀n:Nat,n<=1000000->tj (n:Int) 0 1000000=true:=λn hn=>by unfold tj;rw[dT (by omega),dT (by omega)];rfl
 have hlast:∀(c:tD) (F:List tk),CW c->FB F->∃c' b,((aa c 5).bind λt59=>(ah t59.1 ([0,1,5,1000000]:List Int)).bind λt63=>some (t63.1,((((q+1:Nat):Int),dn,pts,F,v.1,v.2,t59.2,0,0,0,t63.2):td)))=some (c',b)/\CW c'/\wY b/\ue b=true/\PA b:=by
  intro c F hc hF;obtain⟨k1,t,f1,u1,b1⟩:=vh hc (n:=5) (by decide);have f1':aa c 5=some (k1,(t:Int)):=f1
  obtain⟨k2,x,f2,u2,b2⟩:=xp u1 (l:=[0,1,5,1000000]) (by decide);have hx:tj x 0 1000000=true:=by
   have:∀x∈([0,1,5,1000000]:List Int),tj x 0 1000000=true:=by decide
   exact this x b2
  have hFn:=hF.n;rw[f1',an,f2,an];refine⟨_,_,rfl,u2,⟨by show pts.length<_;omega,by show F.length<_;omega,by show v.1.length<_;omega,by show v.2.length<_;omega,a6.r⟩,?_,rfl,rfl,rfl⟩;unfold ue vM;show (!((List.range pts.length).any (BJ pts))&&(tj ((q+1:Nat):Int) 1 99&&(!(decide ((dn.length:Int)>10))&&(tj (pts.length:Int) 1 6&&(yI F&&(wF v (pts.length:Int)&&(tj (t:Int) 0 1000000&&(tj 0 0 1000000&&(tj 0 0 1000000&&(tj 0 0 1000000&&tj x 0 1000000))))))))))=true
  have q1:(List.range pts.length).any (BJ pts)=false:=by
   apply Bool.eq_false_iff.2;intro ha;obtain⟨k,hk,hx⟩:=any_eq_true.1 ha;have hk:=mem_range.1 hk
   unfold BJ at hx;simp only[List.getElem?_eq_getElem hk,a5 _ (getElem_mem hk)]at hx
   revert hx;decide
  have q2:tj ((q+1:Nat):Int) 1 99=true:=by unfold tj;rw[dT (by omega),dT (by omega)];rfl
  have q3:decide ((dn.length:Int)>10)=false:=dF (by omega);have q4:tj (pts.length:Int) 1 6=true:=by unfold tj;rw[dT (by omega),dT (by omega)];rfl
  rw[q1,q2,q3,q4,hF.ok,l5,a6.p,hin t (by omega),hx];rfl
 have e8':bA (dc,dp,ds) 3=some (c8,st):=e8;unfold ct;rw[e1',an];show ∃c' b,((aa c1 5).bind _)=_/\_
 rw[e2',an];show ∃c' b,((eG (te (1+(q:Int))) (te (1+(p:Int)))).bind _)=_/\_
 rw[hp,hq,e3,an,e4,an];show ∃c' b,((cn c4 ((p+1:Nat):Int)).bind _)=_/\_
 rw[e5,an];show ∃c' b,((co c5 ((p+1:Nat):Int)).bind _)=_/\_
 rw[e6,an];show ∃c' b,((aa c6 6).bind _)=_/\_
 rw[e7',an];show ∃c' b,((loop _ ((m:Int),c7.1,c7.2.1,c7.2.2,((q+1:Nat):Int),dn,0,0,0,0,0,[])).bind _)=_/\_
 rw[hd,an];show ∃c' b,((bA (dc,dp,ds) 3).bind _)=_/\_
 rw[e8',an];cases st with
 | false =>
  show ∃c' b,((aa c8 5).bind _)=_/\_;exact hlast c8 df w8 g4
 | true =>
  obtain⟨k1,x1,f1,u1⟩:=Ku w8;obtain⟨k2,x2,f2,u2,_⟩:=vA u1 ((p+1:Nat):Int);obtain⟨F,ok,f3,hF⟩:=Jp g4 1 x1 x2;show ∃c' b,((bT c8).bind _)=_/\_
  rw[f1,an];show ∃c' b,((aa k1 ((p+1:Nat):Int)).bind _)=_/\_
  rw[f2,an];show ∃c' b,((dA df 1 x1 x2).bind _)=_/\_
  rw[f3,an];exact hlast k2 F u2 hF
theorem Oq {c:tD} (h:CW c):∃c' b,ct c=some (c',b)/\CW c'/\wY b/\ue b=true:=by
 obtain⟨c',b,h1,h2,h3,h4,_⟩:=Gu h;exact⟨c',b,h1,h2,h3,h4⟩

noncomputable def Dk (b:td) (c p:Int):Int:=(ci b c p).getD 0
def num (name:List Int) (n:Int):tg:=([1,3,1]++name,2,n,[],[])
def E6 (r:tC) (c:Nat):Int:=match c with|0=>1|1=>r.2.1|_=>r.2.2
noncomputable def wh (b:td) (c:Nat):List tg:=(List.range b.2.2.1.length).map λk=>num [2,((c+1:Nat):Int),((k+1:Nat):Int)] (Dk b ((c+1:Nat):Int) (k:Int))
def xq (b:td) (c:Nat):List tg:=b.2.2.2.2.1.map λr=>num [3,((c+1:Nat):Int),r.1] (E6 r c)
def Cp (b:td):List tg:=b.2.2.2.1.map λe=>num [4,1,e.1,e.2.1] (te (e.2.2.1+1))
noncomputable def we (b:td):List tg:=zE b++(List.range 4).flatMap (wh b)++(List.range 3).flatMap (xq b)++Cp b
theorem EZ {out:List tg} (name:List Int) (n i:Int) (h1:out.length<=900) (h2:name.length<=900):((bj n).bind λv=>(aL v name).bind λt=>(tJ out [t]).bind λzs=>some (Sum.inl (te (i+1),zs):(Int×List tg)⊕List tg))=some (Sum.inl (te (i+1),out++[num name n])):=by
 unfold bj aL;rw[an,tn (by show 3+name.length<=_;omega),an,an,tn (by show out.length+1<=_;omega),an];rfl
theorem QI {b:td} (h:wY b) (hq:b.2.2.1.length=b.2.2.2.2.2.1.length) (h6:b.2.2.1.length<=6) (c:Nat) (out:List tg) (ho:out.length<=500):loop (λz=>bM b ((c+1:Nat):Int) z.1 z.2) (0,out)=some (out++wh b c):=by
 obtain⟨v,h1,rfl⟩:=tI (step:=λz:Int×List tg=>bM b ((c+1:Nat):Int) z.1 z.2) (λk z=>z.1=(k:Int)/\z.2=out++(List.range k).map λk=>num [2,((c+1:Nat):Int),((k+1:Nat):Int)] (Dk b ((c+1:Nat):Int) (k:Int))) b.2.2.1.length (λv=>v=out++wh b c)
  (λk z hk ⟨e1,e2⟩=>by
   obtain⟨i,l⟩:=z;simp only at e1 e2;subst e1;left;obtain⟨n,hn⟩:=QA h ((c+1:Nat):Int) hk hq;have hv:Dk b ((c+1:Nat):Int) (k:Int)=n:=by unfold Dk;rw[hn];rfl
   have hl:l.length<=900:=by rw[e2];simp;omega
   refine⟨(((k+1:Nat):Int),l++[num [2,((c+1:Nat):Int),((k+1:Nat):Int)] n]),?_,rfl,?_⟩
   · show bM b ((c+1:Nat):Int) (k:Int) l=_;unfold bM;rw[u0 (by omega),cT,hn,an,EZ _ _ _ hl (by simp),tz (by omega)]
   · show l++[num _ n]=_;rw[e2,range_succ,map_append,←append_assoc,List.map_singleton,hv])
  (λz ⟨e1,e2⟩=>by
   obtain⟨i,l⟩:=z;simp only at e1 e2;subst e1;refine⟨l,?_,e2⟩;show bM b ((c+1:Nat):Int) _ l=_
   unfold bM;rw[tW (by omega),cF]) (x:=(0,out)) ⟨rfl,by simp⟩
 exact h1
theorem PB {b:td} (h:wY b) (hq:b.2.2.1.length=b.2.2.2.2.2.1.length) (h6:b.2.2.1.length<=6) (out:List tg) (ho:out.length<=100):loop (λz=>cj b z.1 z.2) (1,out)=some (out++(List.range 4).flatMap (wh b)):=by
 have hg:∀c,(wh b c).length<=6:=λc=>by unfold wh;rw[length_map,List.length_range];exact h6
 obtain⟨v,h1,rfl⟩:=tI (step:=λz:Int×List tg=>cj b z.1 z.2) (λk z=>z.1=((k+1:Nat):Int)/\z.2=out++(List.range k).flatMap (wh b)/\z.2.length<=100+6*k) 4 (λv=>v=out++(List.range 4).flatMap (wh b))
  (λk z hk ⟨e1,e2,e3⟩=>by
   obtain⟨i,l⟩:=z;simp only at e1 e2 e3;subst e1;left;have hg':=hg k
   refine⟨(((k+1+1:Nat):Int),l++wh b k),?_,rfl,?_,by show (l++wh b k).length<=_;rw[length_append];omega⟩
   · show cj b ((k+1:Nat):Int) l=_;unfold cj;rw[dT (show ((k+1:Nat):Int)<=4 by omega),cT,QI h hq h6 k l (by omega),an,tz (by omega)]
   · show l++wh b k=_;rw[e2,range_succ,List.flatMap_append,←append_assoc];simp)
  (λz ⟨e1,e2,e3⟩=>by
   obtain⟨i,l⟩:=z;simp only at e1 e2 e3;subst e1;exact⟨l,rfl,e2⟩) (x:=(1,out)) ⟨rfl,by simp,by show out.length<=_;omega⟩
 exact h1
theorem Ry {b:td} (h6:b.2.2.2.2.1.length<=6) {c:Nat} (hc:c<3) (out:List tg) (ho:out.length<=500):loop (λz=>bN b ((c+1:Nat):Int) z.1 z.2) (0,out)=some (out++xq b c):=by
 obtain⟨v,h1,rfl⟩:=tI (step:=λz:Int×List tg=>bN b ((c+1:Nat):Int) z.1 z.2) (λk z=>z.1=(k:Int)/\z.2=out++(b.2.2.2.2.1.take k).map λr=>num [3,((c+1:Nat):Int),r.1] (E6 r c)) b.2.2.2.2.1.length (λv=>v=out++xq b c)
  (λk z hk ⟨e1,e2⟩=>by
   obtain⟨i,l⟩:=z;simp only at e1 e2;subst e1;left;have hl:l.length<=900:=by rw[e2];simp;omega
   refine⟨(((k+1:Nat):Int),l++[num [3,((c+1:Nat):Int),b.2.2.2.2.1[k].1] (E6 b.2.2.2.2.1[k] c)]),?_,rfl,?_⟩
   · show bN b ((c+1:Nat):Int) (k:Int) l=_;unfold bN;rw[u0 (by omega),cT,tE hk,an];generalize b.2.2.2.2.1[k]=r;have hw:te (((c+1:Nat):Int)-1)=(c:Int):=by rw[tM (by omega) (by omega)];omega
     have hx:(ix [1,r.2.1,r.2.2].length (te (((c+1:Nat):Int)-1))).bind (λj91=>([1,r.2.1,r.2.2][j91]?).bind λx92=>(bj x92).bind λt93=>(aL t93 [3,((c+1:Nat):Int),r.1]).bind λt98=>(tJ l [t98]).bind λzs100=>some (Sum.inl (te ((k:Int)+1),zs100):(Int×List tg)⊕List tg))=(bj (E6 r c)).bind λt93=>(aL t93 [3,((c+1:Nat):Int),r.1]).bind λt98=>(tJ l [t98]).bind λzs100=>some (Sum.inl (te ((k:Int)+1),zs100)):=by
      rw[hw,wq (show c<[1,r.2.1,r.2.2].length from hc),an];rcases (show c=0\/c=1\/c=2 by omega)with rfl|rfl|rfl<;>rfl
     rw[hx,EZ _ _ _ hl (by simp),tz (by omega)]
   · show l++[num _ _]=_;rw[e2,take_add_one,List.getElem?_eq_getElem hk,map_append,←append_assoc];rfl)
  (λz ⟨e1,e2⟩=>by
   obtain⟨i,l⟩:=z;simp only at e1 e2;subst e1;rw[take_length]at e2;refine⟨l,?_,e2⟩;show bN b ((c+1:Nat):Int) _ l=_
   unfold bN;rw[tW (by omega),cF]) (x:=(0,out)) ⟨rfl,by simp⟩
 exact h1
theorem QJ {b:td} (h6:b.2.2.2.2.1.length<=6) (out:List tg) (ho:out.length<=200):loop (λz=>ck b z.1 z.2) (1,out)=some (out++(List.range 3).flatMap (xq b)):=by
 have hg:∀c,(xq b c).length<=6:=λc=>by unfold xq;rw[length_map];exact h6
 obtain⟨v,h1,rfl⟩:=tI (step:=λz:Int×List tg=>ck b z.1 z.2) (λk z=>z.1=((k+1:Nat):Int)/\z.2=out++(List.range k).flatMap (xq b)/\z.2.length<=200+6*k) 3 (λv=>v=out++(List.range 3).flatMap (xq b))
  (λk z hk ⟨e1,e2,e3⟩=>by
   obtain⟨i,l⟩:=z;simp only at e1 e2 e3;subst e1;left;have hg':=hg k
   refine⟨(((k+1+1:Nat):Int),l++xq b k),?_,rfl,?_,by show (l++xq b k).length<=_;rw[length_append];omega⟩
   · show ck b ((k+1:Nat):Int) l=_;unfold ck;rw[dT (show ((k+1:Nat):Int)<=3 by omega),cT,Ry h6 hk l (by omega),an,tz (by omega)]
   · show l++xq b k=_;rw[e2,range_succ,List.flatMap_append,←append_assoc];simp)
  (λz ⟨e1,e2,e3⟩=>by
   obtain⟨i,l⟩:=z;simp only at e1 e2 e3;subst e1;exact⟨l,rfl,e2⟩) (x:=(1,out)) ⟨rfl,by simp,by show out.length<=_;omega⟩
 exact h1
theorem Rz {b:td} (h12:b.2.2.2.1.length<=12) (out:List tg) (ho:out.length<=500):loop (λz=>bv b z.1 z.2) (0,out)=some (out++Cp b):=by
 obtain⟨v,h1,rfl⟩:=tI (step:=λz:Int×List tg=>bv b z.1 z.2) (λk z=>z.1=(k:Int)/\z.2=out++(b.2.2.2.1.take k).map λe=>num [4,1,e.1,e.2.1] (te (e.2.2.1+1))) b.2.2.2.1.length (λv=>v=out++Cp b)
  (λk z hk ⟨e1,e2⟩=>by
   obtain⟨i,l⟩:=z;simp only at e1 e2;subst e1;left;have hl:l.length<=900:=by rw[e2];simp;omega
   refine⟨(((k+1:Nat):Int),l++[num [4,1,b.2.2.2.1[k].1,b.2.2.2.1[k].2.1] (te (b.2.2.2.1[k].2.2.1+1))]),?_,rfl,?_⟩
   · show bv b (k:Int) l=_;unfold bv;rw[u0 (by omega),cT,tE hk,an,EZ _ _ _ hl (by simp),tz (by omega)]
   · show l++[num _ _]=_;rw[e2,take_add_one,List.getElem?_eq_getElem hk,map_append,←append_assoc];rfl)
  (λz ⟨e1,e2⟩=>by
   obtain⟨i,l⟩:=z;simp only at e1 e2;subst e1;rw[take_length]at e2;refine⟨l,?_,e2⟩;show bv b _ l=_
   unfold bv;rw[tW (by omega),cF]) (x:=(0,out)) ⟨rfl,by simp⟩
 exact h1
structure uv (b:td):Prop where
 w:wY b
 ok:ue b=true
 p:∀x∈b.2.2.1,zR x=true
 id:tj b.1 1 99=true
 name:b.2.1.length<=10
 n1:1<=b.2.2.1.length
 n6:b.2.2.1.length<=6
 f:yI b.2.2.2.1=true
 v:wF (b.2.2.2.2.1,b.2.2.2.2.2.1) (b.2.2.1.length:Int)=true
 c:vM b=true
theorem C7 {b:td} (h:wY b) (hb:ue b=true):uv b:=by
 have hb':=hb;unfold ue at hb;simp only[aT,Bool.not_eq_true',decide_eq_false_iff_not]at hb;obtain⟨h1,h2,h3,h4,h5,h6,h7⟩:=hb;refine⟨h,hb',λx hx=>?_,h2,by omega,?_,?_,h5,h6,h7⟩
 · obtain⟨k,hk,rfl⟩:=getElem_of_mem hx;cases hp:zR b.2.2.1[k]with
   | true=>rfl
   | false =>
    have:=any_eq_false.1 h1 k (mem_range.2 hk);unfold BJ at this;simp only[List.getElem?_eq_getElem hk,hp]at this;exact absurd rfl this
 · unfold tj at h4;simp only[aT,decide_eq_true_eq]at h4;omega
 · unfold tj at h4;simp only[aT,decide_eq_true_eq]at h4;omega
theorem uv.vt {b:td} (h:uv b):VT (b.2.2.2.2.1,b.2.2.2.2.2.1) b.2.2.1.length:=⟨h.v,h.w.r⟩
theorem uv.f12 {b:td} (h:uv b):b.2.2.2.1.length<=12:=by
 have hf:=h.f;unfold yI at hf;simp only[aT,decide_eq_true_eq]at hf;omega
theorem MR {b:td} (h:uv b):bO b=some (we b):=by
 obtain⟨v1,v2,v3,v4⟩:=h.vt.len;have v3':b.2.2.2.2.2.1.length=b.2.2.1.length:=v3
 have v4':b.2.2.2.2.1.length<=6:=v4;have hp:((List.range 4).flatMap (wh b)).length<=24:=by
  have hg:∀c,(wh b c).length<=6:=λc=>by unfold wh;rw[length_map,List.length_range];exact h.n6
  have h0:=hg 0;have h1:=hg 1;have h2:=hg 2;have h3:=hg 3
  show (wh b 0++(wh b 1++(wh b 2++(wh b 3++[])))).length<=24;simp only[length_append,List.length_nil];omega
 have hr:((List.range 3).flatMap (xq b)).length<=18:=by
  have hg:∀c,(xq b c).length<=6:=λc=>by unfold xq;rw[length_map];exact v4'
  have h0:=hg 0;have h1:=hg 1;have h2:=hg 2
  show (xq b 0++(xq b 1++(xq b 2++[]))).length<=18;simp only[length_append,List.length_nil];omega
 have k5:(zE b).length=5:=rfl;rw[Pm h.w,h.ok,Bool.not_true,cF];unfold Et;rw[PB h.w v3'.symm h.n6 (zE b) (by omega),an,QJ v4' _ (by rw[length_append];omega),an,Rz h.f12 _ (by rw[length_append,length_append];omega),an];rfl

theorem Dl {α:Type} {R:α->α->Prop} (tr:∀a b c,R a b->R b c->R a c) {l:List α} (h:∀k (hk:k+1<l.length),R l[k] l[k+1]):l.Pairwise R:=by
 rw[pairwise_iff_getElem];intro i j hi hj hij
 induction j with
 | zero=>omega
 | succ j ih =>
  by_cases e:i=j
  · subst e;exact h i hj
  · exact tr _ _ _ (ih (by omega) (by omega)) (h j hj)
def F9 (g c:Int) (x:tg):Prop:=∃t,x.1=1::3::1::g::c::t
theorem Ap {g c g' c':Int} {x y:tg} (hx:F9 g c x) (hy:F9 g' c' y) (h:g<g'\/(g=g'/\c<c')):x.1<y.1:=by
 obtain⟨t,ht⟩:=hx;obtain⟨s,hs⟩:=hy;rw[ht,hs];simp only[cons_lt_cons_iff,Int.lt_irrefl,false_or,true_and];rcases h with h|⟨h,k⟩
 · exact .inl h
 · exact .inr ⟨h,.inl k⟩
theorem Ba {b:td} {c:Nat} {x:tg} (h:x∈wh b c):F9 2 ((c+1:Nat):Int) x:=by
 unfold wh at h;obtain⟨k,_,rfl⟩:=mem_map.1 h;exact⟨_,rfl⟩
theorem C8 {b:td} {c:Nat} {x:tg} (h:x∈xq b c):F9 3 ((c+1:Nat):Int) x:=by
 unfold xq at h;obtain⟨k,_,rfl⟩:=mem_map.1 h;exact⟨_,rfl⟩
theorem E7 {b:td} {x:tg} (h:x∈Cp b):F9 4 1 x:=by
 unfold Cp at h;obtain⟨k,_,rfl⟩:=mem_map.1 h;exact⟨_,rfl⟩
theorem E8 {b:td} {x:tg} (h:x∈zE b):∃c,F9 1 c x:=by
 unfold zE at h;simp only[mem_cons,not_mem_nil,or_false]at h;rcases h with rfl|rfl|rfl|rfl|rfl<;>exact⟨_,_,rfl⟩
theorem Kv (b:td) (c:Nat):(wh b c).Pairwise λx y=>x.1<y.1:=by
 unfold wh;rw[List.pairwise_map];refine List.Pairwise.imp ?_ List.pairwise_lt_range;intro i j h;show (1::3::1::2::((c+1:Nat):Int)::((i+1:Nat):Int)::[])<(1::3::1::2::((c+1:Nat):Int)::((j+1:Nat):Int)::[])
 simp only[cons_lt_cons_iff,Int.lt_irrefl,false_or,true_and];exact .inl (by omega)
theorem H7 {b:td} (h:uv b):b.2.2.2.2.1.Pairwise λr s=>r.1<s.1:=by
 refine Dl (R:=λ(r s:tC)=>r.1<s.1) (λ_ _ _ h k=>Int.lt_trans h k) λk hk=>?_;have hv:=h.v
 unfold wF at hv;simp only[aT,Bool.not_eq_true']at hv;have hx:=any_eq_false.1 hv.2.1 (k+1) (mem_range.2 hk)
 unfold zD at hx;simp only[List.getElem?_eq_getElem hk,Nat.add_sub_cancel,List.getElem?_eq_getElem (show k<b.2.2.2.2.1.length by omega),Bool.or_eq_true,aT,decide_eq_true_eq,not_or,not_and]at hx;have:=hx.2.1 (by omega)
 omega
theorem LS {b:td} (h:uv b) (c:Nat):(xq b c).Pairwise λx y=>x.1<y.1:=by
 unfold xq;rw[List.pairwise_map];refine List.Pairwise.imp ?_ (H7 h);intro r s h;show (1::3::1::3::((c+1:Nat):Int)::r.1::[])<(1::3::1::3::((c+1:Nat):Int)::s.1::[])
 simp only[cons_lt_cons_iff,Int.lt_irrefl,false_or,true_and];exact .inl h
theorem MT {b:td} (h:uv b):b.2.2.2.1.Pairwise lt:=by
 refine Dl (R:=lt) (λ_ _ _=>lt_trans) λk hk=>?_;have hv:=h.f
 unfold yI at hv;simp only[aT,Bool.not_eq_true']at hv;have hx:=any_eq_false.1 hv.1 (k+1) (mem_range.2 hk)
 unfold yM at hx;simp only[List.getElem?_eq_getElem hk,Nat.add_sub_cancel,List.getElem?_eq_getElem (show k<b.2.2.2.1.length by omega),Bool.or_eq_true,aT,decide_eq_true_eq,not_or,not_and,Bool.not_eq_true',Bool.not_eq_false]at hx;have hp:=hx.2 (by omega)
 unfold zS at hp;simp only[Bool.or_eq_true,aT,decide_eq_true_eq,beq_iff_eq]at hp;unfold lt;omega
theorem MU {b:td} (h:uv b):(Cp b).Pairwise λx y=>x.1<y.1:=by
 unfold Cp;rw[List.pairwise_map];refine List.Pairwise.imp ?_ (MT h);intro r s h;show (1::3::1::4::1::r.1::r.2.1::[])<(1::3::1::4::1::s.1::s.2.1::[])
 unfold lt at h;simp only[cons_lt_cons_iff,Int.lt_irrefl,false_or,true_and];rcases h with h|⟨h,k⟩
 · exact .inl h
 · exact .inr ⟨h,.inl k⟩
theorem LT (b:td):(zE b).Pairwise λx y=>x.1<y.1:=by
 unfold zE;simp only[List.pairwise_cons,mem_cons,not_mem_nil,or_false,forall_eq_or_imp,forall_eq,List.Pairwise.nil,and_true,false_imp_iff,implies_true,cons_lt_cons_iff,Int.lt_irrefl,false_or,true_and];refine⟨⟨.inl (by decide),.inl (by decide),.inl (by decide),.inl (by decide)⟩,⟨.inl (by decide),.inl (by decide),.inl (by decide)⟩,⟨.inl (by decide),.inl (by decide)⟩,.inl (by decide)⟩
theorem QK {α:Type} (f:Nat->List α):(List.range 4).flatMap f=f 0++(f 1++(f 2++(f 3++[]))):=rfl
theorem QL {α:Type} (f:Nat->List α):(List.range 3).flatMap f=f 0++(f 1++(f 2++[])):=rfl
theorem G0 {n:Nat} {f:Nat->List tg} {g:Int} (hp:∀c,(f c).Pairwise λx y=>x.1<y.1) (hh:∀c x,x∈f c->F9 g ((c+1:Nat):Int) x):((List.range n).flatMap f).Pairwise λx y=>x.1<y.1:=by
 induction n with
 | zero=>exact List.Pairwise.nil
 | succ n ih =>
  rw[range_succ,List.flatMap_append,pairwise_append];refine⟨ih,by simp;exact hp n,λx hx y hy=>?_⟩;obtain⟨c,hc,hx⟩:=mem_flatMap.1 hx;have hc:=mem_range.1 hc
  simp at hy;exact Ap (hh c x hx) (hh n y hy) (.inr ⟨rfl,by omega⟩)
theorem MV {b:td} (h:uv b):(we b).Pairwise λx y=>x.1<y.1:=by
 unfold we;rw[pairwise_append,pairwise_append,pairwise_append];refine⟨⟨⟨LT b,G0 (Kv b) (λc x=>Ba),λx hx y hy=>?_⟩,G0 (LS h) (λc x=>C8),λx hx y hy=>?_⟩,MU h,λx hx y hy=>?_⟩
 · obtain⟨c,hc⟩:=E8 hx;obtain⟨d,_,hy⟩:=mem_flatMap.1 hy;exact Ap hc (Ba hy) (.inl (by decide))
 · obtain⟨d,_,hy⟩:=mem_flatMap.1 hy;rcases mem_append.1 hx with hx|hx
   · obtain⟨c,hc⟩:=E8 hx;exact Ap hc (C8 hy) (.inl (by decide))
   · obtain⟨e,_,hx⟩:=mem_flatMap.1 hx;exact Ap (Ba hx) (C8 hy) (.inl (by decide))
 · rcases mem_append.1 hx with hx|hx
   · rcases mem_append.1 hx with hx|hx
     · obtain⟨c,hc⟩:=E8 hx;exact Ap hc (E7 hy) (.inl (by decide))
     · obtain⟨e,_,hx⟩:=mem_flatMap.1 hx;exact Ap (Ba hx) (E7 hy) (.inl (by decide))
   · obtain⟨e,_,hx⟩:=mem_flatMap.1 hx;exact Ap (C8 hx) (E7 hy) (.inl (by decide))
theorem PC (p s t:List Int) {x y:Int} (h:x≠y):(p++x::s<p++y::t)↔x<y:=by
 induction p with
 | nil =>
  simp only[nil_append,cons_lt_cons_iff];exact⟨λk=>k.elim id λk=>absurd k.1 h,.inl⟩
 | cons a p ih=>simp only[List.cons_append,cons_lt_cons_iff,ih,Int.lt_irrefl,false_or,true_and]
theorem Ot (p:List Int) {s:List Int} (h:s≠[]):p<p++s:=by
 induction p with
 | nil=>cases s with
  | nil=>exact absurd rfl h
  | cons a s=>exact List.nil_lt_cons a s
 | cons a p ih=>simp only[List.cons_append,cons_lt_cons_iff,Int.lt_irrefl,false_or,true_and];exact ih
theorem Ou (p s:List Int):¬p++s<p:=by
 induction p with
 | nil=>exact List.not_lt_nil s
 | cons a p ih=>simp only[List.cons_append,cons_lt_cons_iff,Int.lt_irrefl,false_or,true_and];exact ih
theorem ND {a b:List Int} (h:b.length<9223372036854775807):fu a b=some (decide (a<b)):=by
 have hsplit:∀k,a.take k=b.take k->∀(ha:k<a.length) (hb:k<b.length),a=a.take k++a[k]::a.drop (k+1)/\b=a.take k++b[k]::b.drop (k+1):=by
  intro k e ha hb;refine⟨?_,?_⟩
  · rw[←List.drop_eq_getElem_cons ha,take_append_drop]
  · rw[e,←List.drop_eq_getElem_cons hb,take_append_drop]
 obtain⟨v,h1,h2⟩:=tI (step:=λz=>ez a b z) (λk i=>i=(k:Int)/\a.take k=b.take k) (min a.length b.length) (λv=>(v=.inr (decide (a<b)))\/(v=.inl ()/\decide ((a.length:Int)<(b.length:Int))=decide (a<b)))
  (λk i hk ⟨e,ht⟩=>by
   subst e;have ha:k<a.length:=by omega
   have hb:k<b.length:=by omega
   have hs:ez a b (k:Int)=cond (a[k] != b[k]) (some (.inr (.inr (decide (a[k]<b[k]))))) (some (.inl ((k+1:Nat):Int))):=by
    unfold ez;rw[u0 (show (k:Int)<(a.length:Int) by omega),u0 (show (k:Int)<(b.length:Int) by omega),cT,an,cT,tE ha,an,tE hb,an,tz (by omega),an,an]
   obtain⟨s1,s2⟩:=hsplit k ht ha hb;by_cases hne:a[k]=b[k]
   · refine .inl ⟨_,by rw[hs,show (a[k] != b[k])=false by simp[hne]];rfl,rfl,?_⟩;rw[take_add_one,take_add_one,List.getElem?_eq_getElem ha,List.getElem?_eq_getElem hb,ht,hne]
   · refine .inr ⟨_,by rw[hs,show (a[k] != b[k])=true from bne_iff_ne.2 hne];rfl,.inl ?_⟩
     congr 1
     apply decide_eq_decide.2;have:=PC (a.take k) (a.drop (k+1)) (b.drop (k+1)) hne
     rw[←s1,←s2]at this;exact this.symm)
  (λi ⟨e,ht⟩=>by
   subst e;refine⟨.inl (),?_,.inr ⟨rfl,?_⟩⟩
   · show ez a b _=_;unfold ez;by_cases h:a.length<=b.length
     · rw[Nat.min_eq_left h,tW (by omega)];rfl
     · rw[Nat.min_eq_right (by omega),u0 (by omega),tW (show ¬(b.length:Int)<(b.length:Int) by omega)];rfl
   · apply decide_eq_decide.2;by_cases h:a.length<=b.length
     · rw[Nat.min_eq_left h,take_length]at ht;have hb:b=a++b.drop a.length:=by
        have:=take_append_drop a.length b;rw[←ht]at this;exact this.symm
       constructor
       · intro hlt;have hd:b.drop a.length≠[]:=by
          intro h0;have:=congrArg List.length h0
          rw[List.length_drop]at this;simp at this;omega
         have:=Ot a hd;rw[←hb]at this;exact this
       · intro hlt;by_cases he:a.length=b.length
         · have hd:b.drop a.length=[]:=List.drop_eq_nil_of_le (by omega);rw[hd,List.append_nil]at hb;rw[hb]at hlt;exact absurd hlt (List.lt_irrefl _)
         · omega
     · rw[Nat.min_eq_right (by omega),take_length]at ht;have ha:a=b++a.drop b.length:=by
        have:=take_append_drop b.length a;rw[ht]at this;exact this.symm
       constructor
       · intro hlt;omega
       · intro hlt;have:=Ou b (a.drop b.length)
         rw[←ha]at this;exact absurd hlt this) (x:=0) ⟨rfl,by simp⟩
 unfold fu;rw[h1,an];rcases h2 with rfl|⟨rfl,h2⟩
 · rfl
 · show some (decide _)=_;rw[h2]

theorem Ae {a b:List Int} (h:b.length<9223372036854775807):ay a b=some (a==b):=by
 unfold ay;by_cases hl:a.length=b.length
 · have e:((a.length:Int) != (b.length:Int))=false:=by rw[hl];simp
   rw[e,cF];obtain⟨v,h1,rfl⟩:=tI (step:=λz=>ef a b z) (λk i=>i=(k:Int)/\a.take k=b.take k) a.length (λv=>v=cond (a==b) (.inl ()) (.inr false))
    (λk i hk ⟨e,ht⟩=>by
     subst e;have hb:k<b.length:=by omega
     have hs:ef a b (k:Int)=cond (a[k] != b[k]) (some (.inr (.inr false))) (some (.inl ((k+1:Nat):Int))):=by
      unfold ef;rw[u0 (by omega),cT,tE hk,an,tE hb,an,tz (by omega)]
     by_cases hne:a[k]=b[k]
     · refine .inl ⟨_,by rw[hs,show (a[k] != b[k])=false by simp[hne]];rfl,rfl,?_⟩;rw[take_add_one,take_add_one,List.getElem?_eq_getElem hk,List.getElem?_eq_getElem hb,ht,hne]
     · refine .inr ⟨_,by rw[hs,show (a[k] != b[k])=true from bne_iff_ne.2 hne];rfl,?_⟩;have:(a==b)=false:=by
        apply beq_eq_false_iff_ne.2;intro hab;subst hab;exact hne rfl
       rw[this];rfl)
    (λi ⟨e,ht⟩=>by
     subst e;have hab:a=b:=by
      rw[take_length,List.take_of_length_le (by omega)]at ht;exact ht
     exact⟨.inl (),by show ef a b _=_;unfold ef;rw[tW (by omega),cF],by rw[show (a==b)=true from beq_iff_eq.2 hab];rfl⟩) (x:=0) ⟨rfl,by simp⟩
   rw[h1,an];cases (a==b)<;>rfl
 · have e:((a.length:Int) != (b.length:Int))=true:=by simp;omega
   have hne:(a==b)=false:=beq_eq_false_iff_ne.2 λh=>hl (by rw[h]);rw[e,cT,hne]
theorem PD {v:wQ} (h:v.2.2.2.length<9223372036854775807):aJ v v=some true:=by
 unfold aJ;rw[Ae h];simp
structure Nm (o:List Int):Prop where
 n1:1<=o.length
 n10:o.length<=10
 e:∀x∈o,tj x 0 100000=true
theorem Nm.ok {o:List Int} (h:Nm o):ak o=some true:=by
 have h10:=h.n10;have h1:=h.n1
 unfold ak;obtain⟨v,e,rfl⟩:=tI (step:=λz=>aS o z) (λk i=>i=(k:Int)) o.length (λv=>v=.inl ())
  (λk i hk e=>by
   subst e;refine .inl ⟨((k+1:Nat):Int),?_,rfl⟩;show aS o (k:Int)=_
   unfold aS;rw[u0 (by omega),cT,tE hk,an,wR,an,h.e _ (getElem_mem hk),tz (by omega)];rfl)
  (λi e=>by
   subst e;exact⟨.inl (),by show aS o _=_;unfold aS;rw[tW (by omega),cF],rfl⟩) (x:=0) rfl
 rw[e,an];show ((ac (o.length:Int) 1 10).bind λt=>some t)=_
 rw[wR,an];unfold tj;rw[dT (by omega),dT (by omega)];rfl
inductive Vl:wQ->Prop
 | num {n:Int} (h:tj n (-2147483648) 2147483647=true):Vl (2,n,[],[])
 | word {s:List UInt8} (h:s.length<=20):Vl (4,0,s,[])
theorem Vl.ok {v:wQ} (h:Vl v):al v=some true:=by
 cases h with
 | num h =>
  unfold al aC aJ;simp only[wR,h,an,Ae (show ([]:List Int).length<9223372036854775807 by decide)];simp
 | word h =>
  rename_i s;have hd:decide ((s.length:Int)<=20)=true:=dT (by omega)
  unfold al aJ;simp only[hd,an,Ae (show ([]:List Int).length<9223372036854775807 by decide)];simp
theorem Vl.k {v:wQ} (h:Vl v):(v.1==128)=false:=by cases h<;>rfl
theorem Vl.o {v:wQ} (h:Vl v):v.2.2.2=[]:=by cases h<;>rfl
theorem E9 {n:Int} (h1:0<=n) (h2:n<=2147483647):tj n (-2147483648) 2147483647=true:=by unfold tj;rw[dT (by omega),dT (by omega)];rfl
theorem z7 {n a c:Int} (h1:a<=n) (h2:n<=c):tj n a c=true:=by unfold tj;rw[dT (by omega),dT (by omega)];rfl
theorem DA {n a c:Int} (h:tj n a c=true):a<=n/\n<=c:=by
 unfold tj at h;simp only[aT,decide_eq_true_eq]at h;exact h
theorem PE {v:uj} (hn:v.1.length<9223372036854775807) {id r:Int} (h:ap v id=some r) (h0:¬r<0):∃x∈v.1,x.1=id:=by
 unfold ap at h;obtain⟨b,h1,h2⟩:=tI (β:=Unit⊕Int) (step:=λz=>aK v id z) (λk i=>i=(k:Int)) v.1.length (λb=>∀r,b=.inr r->∃x∈v.1,x.1=id)
  (λk i hk h=>by
   subst h;unfold aK;rw[u0 (by omega),cT,tE hk,an];cases hb:(v.1[k].1==id)with
   | true=>exact .inr ⟨_,rfl,λr hr=>⟨_,getElem_mem hk,eq_of_beq hb⟩⟩
   | false=>exact .inl ⟨_,rfl,tz (by omega)⟩)
  (λi h=>by
   subst h;unfold aK;rw[tW (by omega)];exact⟨_,rfl,λr hr=>by cases hr⟩) (x:=0) rfl
 rw[h1,an]at h;cases b with
 | inl _=>cases h;exact absurd (by decide) h0
 | inr r'=>exact h2 r' rfl
theorem Ov {id:Int} {l:List Pt} {p v:Int} (h:aX id l p=some v):1<=v/\v<=4:=by
 unfold aX at h;rw[wR,an]at h;have key:∀(o:Option Bool) (f:Bool->Option Int),(∀t x,f t=some x->1<=x/\x<=4)->o.bind f=some v->1<=v/\v<=4:=by
  intro o f hf h;cases o with
  | none=>cases h
  | some t=>exact hf t v h
 refine key _ _ (λt x hx=>?_) h;cases t with
 | true=>cases hx;decide
 | false =>
  rw[cF]at hx;cases hbv:bL id l with
  | none=>rw[hbv]at hx;cases hx
  | some w =>
   rw[hbv,an]at hx;cases hw:w.2==p with
   | true=>rw[hw]at hx;cases hx;decide
   | false =>
    rw[hw,cF]at hx;cases ha:at? l p with
    | none=>rw[ha]at hx;cases hx
    | some y =>
     rw[ha,an]at hx
     revert hx
     generalize (cond (!y.2.2.1) _ _:Option Bool)=o;intro hx;cases o with
     | none=>cases hx
     | some t=>cases t<;>(cases hx;decide)
theorem Jq {b:td} (h:uv b) {r:tC} (hr:r∈b.2.2.2.2.1):(1<=r.1/\r.1<=99)/\(0<=r.2.1/\r.2.1<=63)/\(0<=r.2.2/\r.2.2<=63):=by
 obtain⟨k,hk,rfl⟩:=getElem_of_mem hr;have hv:=h.v
 unfold wF at hv;simp only[aT,Bool.not_eq_true',Bool.or_eq_false_iff,Bool.not_eq_false']at hv;have hx:=any_eq_false.1 hv.2.1 k (mem_range.2 hk)
 unfold zD at hx;simp only[List.getElem?_eq_getElem hk,Bool.or_eq_true,Bool.not_eq_true',not_or,Bool.not_eq_false]at hx;obtain⟨x1,_,x3,x4⟩:=hx;have ht:=Hn (i:=(b.2.2.1.length:Int)) hv.1.1
 have y1:=DA x1;have y3:=DA x3
 have x4:(Cc .i64 b.2.2.2.2.1[k].2.2 b.2.2.2.2.1[k].2.1 != 0)=false:=by simpa using x4
 refine⟨y1,by omega,?_⟩;have hI:=h.w.r _ (getElem_mem hk)
 have hband:=DA (Jl hI.1 hI.2 x3 ht.2 (by rw[H5 hI.1 hI.2];exact x4));omega
theorem Ow {b:td} (h:uv b) {x:Int} (hx:x∈b.2.2.2.2.2.1):1<=x/\x<=99:=by
 obtain⟨k,hk,rfl⟩:=getElem_of_mem hx;have hv:=h.v
 have hn:b.2.2.2.2.1.length<9223372036854775807:=h.w.v;unfold wF at hv;simp only[aT,Bool.not_eq_true']at hv;have hq:=any_eq_false.1 hv.2.2 k (mem_range.2 hk)
 unfold B9 at hq;simp only[List.getElem?_eq_getElem hk]at hq;obtain⟨r,hr⟩:=LM (v:=(b.2.2.2.2.1,b.2.2.2.2.2.1)) hn b.2.2.2.2.2.1[k];rw[hr]at hq;simp only[decide_eq_true_eq]at hq;obtain⟨y,hy,e⟩:=PE (v:=(b.2.2.2.2.1,b.2.2.2.2.2.1)) hn hr hq;have:=(Jq h (r:=y) hy).1
 rw[e]at this;exact this
theorem MW {b:td} (h:uv b) (c:Int) {k:Nat} (hk:k<b.2.2.1.length):0<=Dk b c (k:Int)/\Dk b c (k:Int)<=1000:=by
 have v3:b.2.2.2.2.2.1.length=b.2.2.1.length:=h.vt.len.2.2.1;have hkq:k<b.2.2.2.2.2.1.length:=by omega
 obtain⟨r,hr⟩:=Kn b.1 h.w.p (k:Int);have hr2:=Ov hr
 have hp:=h.p _ (getElem_mem hk);unfold zR at hp;simp only[aT]at hp;have hc:=DA hp.1
 have hq:=Ow h (getElem_mem hkq);unfold Dk ci fq;rw[tE hk,tE hkq,hr];simp only[an];cases (c==1)with
 | true =>
  cases b.2.2.1[k].1 with
  | true=>show (0:Int)<=1/\(1:Int)<=1000;decide
  | false=>show (0:Int)<=0/\(0:Int)<=1000;decide
 | false =>
  cases (c==2)with
  | true=>show 0<=b.2.2.1[k].2.1/\b.2.2.1[k].2.1<=1000;omega
  | false =>
   cases (c==3)with
   | true=>show 0<=r/\r<=1000;omega
   | false=>show 0<=b.2.2.2.2.2.1[k]/\b.2.2.2.2.2.1[k]<=1000;omega
theorem PF {b:td} (h:uv b) {e:tk} (he:e∈b.2.2.2.1):(1<=e.1/\e.1<=99)/\(1<=e.2.1/\e.2.1<=9999)/\(0<=e.2.2.1/\e.2.2.1<=7):=by
 obtain⟨k,hk,rfl⟩:=getElem_of_mem he;have hv:=h.f
 unfold yI at hv;simp only[aT,Bool.not_eq_true']at hv;have hx:=any_eq_false.1 hv.1 k (mem_range.2 hk)
 unfold yM at hx;simp only[List.getElem?_eq_getElem hk,Bool.or_eq_true,Bool.not_eq_true',not_or,Bool.not_eq_false]at hx;have hf:=hx.1
 unfold wv at hf;simp only[aT]at hf;exact⟨DA hf.1,DA hf.2.1,DA hf.2.2.1⟩
theorem LU {b:td} (h:uv b):(0<=b.2.2.2.2.2.2.1/\b.2.2.2.2.2.2.1<=1000000)/\(0<=b.2.2.2.2.2.2.2.1/\b.2.2.2.2.2.2.2.1<=1000000)/\(0<=b.2.2.2.2.2.2.2.2.1/\b.2.2.2.2.2.2.2.2.1<=1000000)/\(0<=b.2.2.2.2.2.2.2.2.2.1/\b.2.2.2.2.2.2.2.2.2.1<=1000000)/\(0<=b.2.2.2.2.2.2.2.2.2.2/\b.2.2.2.2.2.2.2.2.2.2<=1000000):=by
 have hc:=h.c;unfold vM at hc;simp only[aT]at hc;exact⟨DA hc.1,DA hc.2.1,DA hc.2.2.1,DA hc.2.2.2.1,DA hc.2.2.2.2⟩
theorem Ip {a b:Int} (ha:0<=a/\a<=100000) (hb:0<=b/\b<=100000):Nm [1,3,1,a,b]:=⟨by simp,by simp,λx hx=>by
 simp only[mem_cons,not_mem_nil,or_false]at hx;rcases hx with rfl|rfl|rfl|rfl|rfl
 · decide
 · decide
 · decide
 · exact z7 ha.1 ha.2
 · exact z7 hb.1 hb.2⟩
theorem Jr {a b c:Int} (ha:0<=a/\a<=100000) (hb:0<=b/\b<=100000) (hc:0<=c/\c<=100000):Nm [1,3,1,a,b,c]:=⟨by simp,by simp,λx hx=>by
 simp only[mem_cons,not_mem_nil,or_false]at hx;rcases hx with rfl|rfl|rfl|rfl|rfl|rfl
 · decide
 · decide
 · decide
 · exact z7 ha.1 ha.2
 · exact z7 hb.1 hb.2
 · exact z7 hc.1 hc.2⟩
theorem PG {a b c d:Int} (ha:0<=a/\a<=100000) (hb:0<=b/\b<=100000) (hc:0<=c/\c<=100000) (hd:0<=d/\d<=100000):Nm [1,3,1,a,b,c,d]:=⟨by simp,by simp,λx hx=>by
 simp only[mem_cons,not_mem_nil,or_false]at hx;rcases hx with rfl|rfl|rfl|rfl|rfl|rfl|rfl
 · decide
 · decide
 · decide
 · exact z7 ha.1 ha.2
 · exact z7 hb.1 hb.2
 · exact z7 hc.1 hc.2
 · exact z7 hd.1 hd.2⟩
theorem Aq {b:td} (h:uv b):∀x∈we b,Nm x.1/\Vl x.2:=by
 intro x hx;obtain⟨t1,t2,t3,t4,_⟩:=LU h;have hn6:=h.n6
 unfold we at hx;simp only[mem_append]at hx;rcases hx with ((hx|hx)|hx)|hx
 · unfold zE at hx;simp only[mem_cons,not_mem_nil,or_false]at hx;have hname:=h.name
   rcases hx with rfl|rfl|rfl|rfl|rfl
   · exact⟨Ip (by decide) (by decide),.word (by omega)⟩
   · exact⟨Ip (by decide) (by decide),.num (E9 t1.1 (by omega))⟩
   · exact⟨Ip (by decide) (by decide),.num (E9 t2.1 (by omega))⟩
   · exact⟨Ip (by decide) (by decide),.num (E9 t3.1 (by omega))⟩
   · exact⟨Ip (by decide) (by decide),.num (E9 t4.1 (by omega))⟩
 · obtain⟨c,hc,hx⟩:=mem_flatMap.1 hx;have hc:=mem_range.1 hc
   unfold wh at hx;obtain⟨k,hk,rfl⟩:=mem_map.1 hx;have hk:=mem_range.1 hk
   have hp:=MW h ((c+1:Nat):Int) hk;exact⟨Jr (by decide) (by omega) (by omega),.num (E9 hp.1 (by omega))⟩
 · obtain⟨c,hc,hx⟩:=mem_flatMap.1 hx;have hc:=mem_range.1 hc
   unfold xq at hx;obtain⟨r,hr,rfl⟩:=mem_map.1 hx;obtain⟨r1,r2,r3⟩:=Jq h hr;refine⟨Jr (by decide) (by omega) (by omega),.num ?_⟩;unfold E6;split
   · decide
   · exact E9 r2.1 (by omega)
   · exact E9 r3.1 (by omega)
 · unfold Cp at hx;obtain⟨e,he,rfl⟩:=mem_map.1 hx;obtain⟨e1,e2,e3⟩:=PF h he;refine⟨PG (by decide) (by decide) (by omega) (by omega),.num ?_⟩;rw[tM (by omega) (by omega)];exact E9 (by omega) (by omega)
theorem Js {b:td} (h:uv b):(we b).length=5+4*b.2.2.1.length+3*b.2.2.2.2.1.length+b.2.2.2.1.length:=by
 have hp:∀c,(wh b c).length=b.2.2.1.length:=λc=>by unfold wh;rw[length_map,List.length_range]
 have hr:∀c,(xq b c).length=b.2.2.2.2.1.length:=λc=>by unfold xq;rw[length_map]
 have hf:(Cp b).length=b.2.2.2.1.length:=by unfold Cp;rw[length_map]
 have k5:(zE b).length=5:=rfl;unfold we;rw[QK,QL];simp only[length_append,List.length_nil,hp,hr,hf,k5];omega
theorem Iq {b:td} (h:uv b):(we b).length<=59:=by
 have h1:=Js h;have h2:=h.n6
 have h3:b.2.2.2.2.1.length<=6:=h.vt.len.2.2.2;have h4:=h.f12
 omega
theorem RA {b:td} (h:uv b) {o:List Int} (ho:o.length<9223372036854775807):∃v,cl b o=some v/\((∃x∈we b,x.1=o/\v=x.2)\/((∀x∈we b,x.1≠o)/\v=(128,0,[],[]))):=by
 have hle:=Iq h;obtain⟨v,h1,h2⟩:=tI (step:=λz:Int×Int×Int×List UInt8×List Int=>bx o (we b) z.1 z.2.1 z.2.2.1 z.2.2.2.1 z.2.2.2.2) (λk z=>z=((k:Int),0,0,[],[])/\∀x∈(we b).take k,x.1≠o) (we b).length (λv=>(∃x∈we b,x.1=o/\v=.inr x.2)\/((∀x∈we b,x.1≠o)/\∃u,v=.inl u))
  (λk z hk ⟨e,hx⟩=>by
   subst e;have hs:bx o (we b) (k:Int) 0 0 [] []=cond ((we b)[k].1==o) (some (.inr (.inr (we b)[k].2))) (some (.inl (((k+1:Nat):Int),0,0,[],[]))):=by
    unfold bx;rw[u0 (by omega),cT,tE hk,an,Ae ho,an,tz (by omega)]
   show (∃y,bx o (we b) (k:Int) 0 0 [] []=_/\_)\/(∃v,bx o (we b) (k:Int) 0 0 [] []=_/\_);rw[hs];cases hb:((we b)[k].1==o)with
   | true=>exact .inr ⟨_,rfl,.inl ⟨_,getElem_mem hk,eq_of_beq hb,rfl⟩⟩
   | false =>
    refine .inl ⟨_,rfl,rfl,λx hx'=>?_⟩;rw[take_add_one,List.getElem?_eq_getElem hk,mem_append]at hx';rcases hx' with hx'|hx'
    · exact hx x hx'
    · simp at hx';subst hx';exact beq_eq_false_iff_ne.1 hb)
  (λz ⟨e,hx⟩=>by
   subst e;rw[take_length]at hx;refine⟨.inl (0,0,[],[]),?_,.inr ⟨hx,_,rfl⟩⟩;show bx o (we b) _ 0 0 [] []=_
   unfold bx;rw[tW (by omega),cF]) (x:=(0,0,0,[],[])) ⟨rfl,by simp⟩
 unfold cl;rw[MR h,an,h1,an];rcases h2 with ⟨x,hx,e,rfl⟩|⟨hx,u,rfl⟩
 · exact⟨_,rfl,.inl ⟨x,hx,e,rfl⟩⟩
 · exact⟨_,rfl,.inr ⟨hx,rfl⟩⟩

theorem MX {c:tD} (h:CW c):∃c' o,aG c=some (c',o)/\CW c'/\Nm o:=by
 obtain⟨c0,m,e0,w0,hm⟩:=vh h (n:=6) (by decide);have e0':aa c 6=some (c0,(m:Int)):=e0
 obtain⟨d,hd,g1,g2,g3⟩:=tI (step:=λz:Int×List Int×Int×Int×List Int=>dD z.1 z.2.1 z.2.2.1 z.2.2.2.1 z.2.2.2.2) (λk z=>z.1=((m+1:Nat):Int)-(k:Int)/\CW (z.2.1,z.2.2.1,z.2.2.2.1)/\z.2.2.2.2.length=k/\∀x∈z.2.2.2.2,tj x 0 100000=true) (m+1) (λd=>CW (d.1,d.2.1,d.2.2.1)/\d.2.2.2.length=m+1/\∀x∈d.2.2.2,tj x 0 100000=true)
  (λk z hk ⟨a1,a2,a3,a4⟩=>by
   obtain⟨i,x,y,s,l⟩:=z;simp only at a1 a2 a3 a4;left;show ∃y',dD i x y s l=_/\_
   unfold dD;have hi:decide (i>0)=true:=dT (by omega)
   have hw:te (i-1)=((m+1:Nat):Int)-((k+1:Nat):Int):=by rw[tM (by omega) (by omega)];omega
   obtain⟨c1,r1,e1,w1,b1⟩:=xp a2 (l:=[0,1,2,3,127,128,16384,100000]) (by decide);have hr:tj r1 0 100000=true:=by
    have:∀x∈([0,1,2,3,127,128,16384,100000]:List Int),tj x 0 100000=true:=by decide
    exact this r1 b1
   rw[hi,cT,e1,an];show ∃y',((tJ l [r1]).bind _)=_/\_
   rw[tn (by show l.length+1<=_;omega),an,hw];refine⟨_,rfl,rfl,w1,by show (l++[r1]).length=_;rw[length_append,a3];rfl,λx hx=>?_⟩;have hx:x∈l++[r1]:=hx
   simp at hx;rcases hx with hx|rfl
   · exact a4 x hx
   · exact hr)
  (λz ⟨a1,a2,a3,a4⟩=>by
   obtain⟨i,x,y,s,l⟩:=z;simp only at a1 a2 a3 a4;refine⟨(x,y,s,l),?_,a2,a3,a4⟩;show dD i x y s l=_
   unfold dD;have hi:decide (i>0)=false:=dF (by omega)
   rw[hi,cF]) (x:=(((m+1:Nat):Int),c0.1,c0.2.1,c0.2.2,[])) ⟨by simp,w0,rfl,λx hx=>absurd hx not_mem_nil⟩
 have hw:te (1+(m:Int))=((m+1:Nat):Int):=by rw[tM (by omega) (by omega)];omega
 unfold aG;rw[e0',an];show ∃c' o,((loop _ (te (1+(m:Int)),c0.1,c0.2.1,c0.2.2,[])).bind _)=_/\_
 rw[hw,hd,an];exact⟨_,_,rfl,g1,by omega,by omega,g3⟩
theorem Ra {a:Int} (ha:0<=a/\a<=100000):Nm [1,3,1,a]:=⟨by simp,by simp,λx hx=>by
 simp only[mem_cons,not_mem_nil,or_false]at hx;rcases hx with rfl|rfl|rfl|rfl
 · decide
 · decide
 · decide
 · exact z7 ha.1 ha.2⟩
theorem Af (l:List Int) (h:l.length<=100):af l=some ([1,3,1]++l):=by
 unfold af;rw[tn (by show 3+l.length<=_;omega)];rfl
theorem Kw {c:tD} (h:CW c) {b:td} (hb:uv b):∃c' o,aq c b=some (c',o)/\CW c'/\Nm o:=by
 have hm:5<=(we b).length:=by rw[Js hb];omega
 have hle:=Iq hb;unfold aq;rw[EY hb.w,MR hb,an,dT (show ((we b).length:Int)>0 by omega),cT];obtain⟨c1,st,e1,w1⟩:=Hq h 4;rw[e1,an];show ∃c' o,cond (!st) _ _=_/\_
 cases st with
 | false =>
  obtain⟨c2,k,e2,w2,hk⟩:=vh w1 (n:=(we b).length) (by omega);have hn:=(Aq hb _ (getElem_mem hk)).1
  have h10:=hn.n10;rw[Bool.not_false,cT,e2,an];show ∃c' o,((ix (we b).length (k:Int)).bind _)=_/\_
  rw[wq hk,an,List.getElem?_eq_getElem hk,an,tn (by show 0+_<=_;omega),an];exact⟨_,_,rfl,w2,hn⟩
 | true =>
  obtain⟨c2,r,e2,w2,_⟩:=vA w1 8;rw[Bool.not_true,cF,e2,an];show ∃c' o,cond (r==0) _ (cond (r==1) _ (cond (r==2) _ (cond (r==3) _ (cond (r==4) _ (cond (r==5) _ (cond (r==6) _ _))))))=_/\_
  cases r==0 with
  | true=>exact⟨_,_,rfl,w2,⟨by decide,by decide,by decide⟩⟩
  | false =>
  cases r==1 with
  | true=>exact⟨_,_,rfl,w2,⟨by decide,by decide,by decide⟩⟩
  | false =>
  cases r==2 with
  | true=>rw[Af _ (by decide)];exact⟨_,_,rfl,w2,Jr (by decide) (by decide) (by decide)⟩
  | false =>
  cases r==3 with
  | true =>
   obtain⟨c3,k,e3,w3,hk⟩:=vh w2 (n:=9) (by decide);have e3':aa c2 9=some (c3,(k:Int)):=e3
   show ∃c' o,((aa c2 9).bind _)=_/\_;rw[e3',an,Af _ (by simp),an];refine⟨_,_,rfl,w3,?_⟩;show Nm [1,3,1,3,1,te (1+(k:Int))]
   rw[tM (by omega) (by omega)];exact Jr (by decide) (by decide) (by omega)
  | false =>
  cases r==4 with
  | true=>rw[Af _ (by decide)];exact⟨_,_,rfl,w2,Ip (by decide) (by decide)⟩
  | false =>
  cases r==5 with
  | true=>rw[Af _ (by decide)];exact⟨_,_,rfl,w2,Ra (by decide)⟩
  | false =>
  cases r==6 with
  | true=>rw[Af _ (by decide)];exact⟨_,_,rfl,w2,PG (by decide) (by decide) (by decide) (by decide)⟩
  | false =>
   obtain⟨c3,o,e3,w3,hn⟩:=MX w2;show ∃c' o,((aG c2).bind _)=_/\_
   rw[e3,an];exact⟨_,_,rfl,w3,hn⟩
theorem RB {l:List tk} (h:FB l):∃y,cB l=some y/\FB y:=by
 have hn:=h.n;have hlt:∀i j (hi:i<l.length) (hj:j<l.length),i<j->lt l[i] l[j]:=pairwise_iff_getElem.1 h.o
 obtain⟨d,hd,g1,g2,g3⟩:=tI (step:=λz:Int×List tk=>aQ l z.1 z.2)
  (λk z=>z.1=(k:Int)/\(∀x∈z.2,wv x=true)/\z.2.Pairwise lt/\z.2.length<=k/\∀x∈z.2,∀j (hj:j<l.length),k<=j->lt x l[j]) l.length
  (λd=>(∀x∈d,wv x=true)/\d.Pairwise lt/\d.length<=12)
  (λk z hk ⟨e1,e2,e3,e4,e5⟩=>by
   obtain⟨i,b⟩:=z;simp only at e1 e2 e3 e4 e5;subst e1;left;have hf:wv l[k]=true:=h.e _ (getElem_mem hk)
   have hgo:∀y:tk,wv y=true->y.1=l[k].1->y.2.1=l[k].2.1->(∀x∈b++[y],wv x=true)/\(b++[y]).Pairwise lt/\(b++[y]).length<=k+1/\∀x∈b++[y],∀j (hj:j<l.length),k+1<=j->lt x l[j]:=by
    intro y hy q1 q2;refine⟨λx hx=>?_,AL e3 λx hx=>?_,by rw[length_append];show b.length+1<=_;omega,λx hx j hj hkj=>?_⟩
    · rcases mem_append.1 hx with hx|hx
      · exact e2 x hx
      · simp at hx;subst hx;exact hy
    · have:=e5 x hx k hk (Nat.le_refl _);unfold lt at this ⊢;omega
    · rcases mem_append.1 hx with hx|hx
      · exact e5 x hx j hj (by omega)
      · simp at hx;subst hx;have:=hlt k j hk hj (by omega)
        unfold lt at this ⊢;omega
   have ha:∀y:tk,tJ b [y]=some (b++[y]):=λy=>tn (by show b.length+1<=_;omega);show ∃y,aQ l (k:Int) b=_/\_
   unfold aQ;rw[u0 (by omega),cT,tE hk,an,ha,ha,an,an,tz (by omega)];cases hs:l[k].2.2.2.2 with
   | true=>exact⟨_,rfl,rfl,hgo _ hf rfl rfl⟩
   | false =>
    rw[cF];by_cases ha4:l[k].2.2.2.1<4
    · rw[u0 ha4,cT];refine⟨_,rfl,rfl,hgo _ ?_ rfl rfl⟩;unfold wv at hf ⊢;simp only[aT]at hf;obtain⟨f1,f2,f3,f4,f5⟩:=hf;have f4':=f4
      unfold tj at f4';simp only[aT,decide_eq_true_eq]at f4';show (tj l[k].1 1 99&&(tj l[k].2.1 1 9999&&(tj l[k].2.2.1 0 7&&(tj (te (l[k].2.2.2.1+1)) 0 4&&(!false||_)))))=true
      rw[f1,f2,f3,tM (by omega) (by omega)];have:tj (l[k].2.2.2.1+1) 0 4=true:=by unfold tj;rw[dT (by omega),dT (by omega)];rfl
      rw[this];rfl
    · rw[tW ha4,cF];exact⟨_,rfl,rfl,e2,e3,by show b.length<=_;omega,λx hx j hj hkj=>e5 x hx j hj (by omega)⟩)
  (λz ⟨e1,e2,e3,e4,e5⟩=>by
   obtain⟨i,b⟩:=z;simp only at e1 e2 e3 e4 e5;subst e1;refine⟨b,?_,e2,e3,by omega⟩;show aQ l _ b=_
   unfold aQ;rw[tW (by omega),cF]) (x:=(0,[])) ⟨rfl,λx hx=>absurd hx not_mem_nil,List.Pairwise.nil,Nat.le_refl _,λx hx=>absurd hx not_mem_nil⟩
 unfold cB;rw[hd,an];exact⟨_,rfl,g1,g2,g3⟩
theorem RC:FB ([]:List tk):=⟨λx hx=>absurd hx not_mem_nil,List.Pairwise.nil,by simp⟩
theorem RD {c:tD} (h:CW c):∃c' l,fR c=some (c',l)/\CW c'/\FB l:=by
 obtain⟨c0,m,e0,w0,hm⟩:=vh h (n:=10) (by decide);have e0':aa c 10=some (c0,(m:Int)):=e0
 obtain⟨d,hd,g1,g2⟩:=tI (step:=λz:Int×List Int×Int×Int×List tk=>dE z.1 z.2.1 z.2.2.1 z.2.2.2.1 z.2.2.2.2) (λk z=>z.1=(m:Int)-(k:Int)/\CW (z.2.1,z.2.2.1,z.2.2.2.1)/\FB z.2.2.2.2) m (λd=>CW (d.1,d.2.1,d.2.2.1)/\FB d.2.2.2)
  (λk z hk ⟨a1,a2,a3⟩=>by
   obtain⟨i,x,y,s,l⟩:=z;simp only at a1 a2 a3;left;show ∃y',dE i x y s l=_/\_
   unfold dE;have hi:decide (i>0)=true:=dT (by omega)
   have hw:te (i-1)=(m:Int)-((k+1:Nat):Int):=by rw[tM (by omega) (by omega)];omega
   obtain⟨c1,r1,e1,w1,_⟩:=vA a2 6;rw[hi,cT,e1,an,hw];show ∃y',cond (r1==0) _ (cond (r1==1) _ _)=_/\_
   cases r1==0 with
   | true =>
    obtain⟨c2,r2,e2,w2,_⟩:=vA w1 3;obtain⟨c3,r3,e3,w3⟩:=Ku w2;obtain⟨c4,r4,e4,w4,_⟩:=vA w3 4;obtain⟨y',ok,e5,g5⟩:=Jp a3 (te (1+r2)) r3 r4;rw[cT,e2,an,e3,an,e4,an,e5,an];exact⟨_,rfl,rfl,w4,g5⟩
   | false =>
   cases r1==1 with
   | true =>
    obtain⟨y',e5,g5⟩:=RB a3;rw[cF,cT,e5,an];exact⟨_,rfl,rfl,w1,g5⟩
   | false =>
    obtain⟨c2,r2,e2,w2,_⟩:=vA w1 3;obtain⟨c3,r3,e3,w3⟩:=Ku w2;obtain⟨c4,r4,e4,w4,_⟩:=vA w3 3;obtain⟨c5,r5,e5,w5,_⟩:=vA w4 4;obtain⟨y',e6,g6⟩:=LR a3 (te (1+r2)) (te (r3+r4)) r5;rw[cF,cF,e2,an,e3,an,e4,an,e5,an,e6,an];exact⟨_,rfl,rfl,w5,g6⟩)
  (λz ⟨a1,a2,a3⟩=>by
   obtain⟨i,x,y,s,l⟩:=z;simp only at a1 a2 a3;refine⟨(x,y,s,l),?_,a2,a3⟩;show dE i x y s l=_
   unfold dE;have hi:decide (i>0)=false:=dF (by omega)
   rw[hi,cF]) (x:=((m:Int),c0.1,c0.2.1,c0.2.2,[])) ⟨by simp,w0,RC⟩
 unfold fR;rw[e0',an];show ∃c' l,((loop _ ((m:Int),c0.1,c0.2.1,c0.2.2,[])).bind _)=_/\_
 rw[hd,an];exact⟨_,_,rfl,g1,g2⟩
theorem RE {c:tD} (h:CW c):∃c' l,fS c=some (c',l)/\CW c'/\l.length<=100:=by
 obtain⟨c1,l,e1,w1,g1⟩:=RD h;have hn:=g1.n
 obtain⟨c2,r,e2,w2,_⟩:=vA w1 12;unfold fS;rw[e1,an];show ∃c' l',((aa c1 12).bind _)=_/\_
 rw[e2,an];show ∃c' l',cond (r==0) _ (cond (r==1) _ _)=_/\_
 cases r==0 with
 | true =>
  obtain⟨c3,x3,e3,w3,_⟩:=xp w2 (l:=[0,1,99,100]) (by decide);obtain⟨c4,x4,e4,w4,_⟩:=xp w3 (l:=[0,1,9999]) (by decide);obtain⟨c5,x5,e5,w5,_⟩:=xp w4 (l:=[(-1),7,8]) (by decide);obtain⟨c6,x6,e6,w6,_⟩:=xp w5 (l:=[(-1),4,5]) (by decide);rw[cT,e3,an,e4,an,e5,an,e6,an];show ∃c' l',((tJ l [_]).bind _)=_/\_
  rw[tn (by show l.length+1<=_;omega),an];exact⟨_,_,rfl,w6,by rw[length_append];show l.length+1<=100;omega⟩
 | false =>
 cases r==1 with
 | true =>
  rw[cF,cT];obtain⟨d,hd,g1,g2⟩:=tI (step:=λz:Int×List Int×Int×Int×List tk=>bU z.1 z.2.1 z.2.2.1 z.2.2.2.1 z.2.2.2.2) (λk z=>z.1=(k:Int)/\CW (z.2.1,z.2.2.1,z.2.2.2.1)/\z.2.2.2.2.length<=12+k) 13 (λd=>CW (d.1,d.2.1,d.2.2.1)/\d.2.2.2.length<=100)
   (λk z hk ⟨a1,a2,a3⟩=>by
    obtain⟨i,x,y,s,l⟩:=z;simp only at a1 a2 a3;subst a1;obtain⟨c3,q,e3,w3,hq⟩:=vh a2 (n:=3) (by decide);have e3':aa (x,y,s) 3=some (c3,(q:Int)):=e3
    have hs:bU (k:Int) x y s l=cond (decide ((k:Int)<te (11+(q:Int)))) (some (.inl (((k+1:Nat):Int),c3.1,c3.2.1,c3.2.2,l++[(50,te (100+(k:Int)),1,0,false)]))) (some (.inr (c3.1,c3.2.1,c3.2.2,l))):=by
     unfold bU;rw[e3',an,tn (by show l.length+1<=_;omega),an,tz (by omega)]
    show (∃y',bU (k:Int) x y s l=_/\_)\/(∃v,bU (k:Int) x y s l=_/\_);rw[hs];cases decide ((k:Int)<te (11+(q:Int)))with
    | true=>exact .inl ⟨_,rfl,rfl,w3,by show (l++[_]).length<=_;rw[length_append];show l.length+1<=_;omega⟩
    | false=>exact .inr ⟨_,rfl,w3,by show l.length<=100;omega⟩)
   (λz ⟨a1,a2,a3⟩=>by
    obtain⟨i,x,y,s,l⟩:=z;simp only at a1 a2 a3;subst a1;obtain⟨c3,q,e3,w3,hq⟩:=vh a2 (n:=3) (by decide);have e3':aa (x,y,s) 3=some (c3,(q:Int)):=e3
    refine⟨(c3.1,c3.2.1,c3.2.2,l),?_,w3,by show l.length<=100;omega⟩;show bU ((13:Nat):Int) x y s l=_
    unfold bU;rw[e3',an,tM (n:=11+(q:Int)) (by omega) (by omega),tW (by omega),cF]) (x:=(0,c2.1,c2.2.1,c2.2.2,l)) ⟨rfl,w2,by show l.length<=12+0;omega⟩
  show ∃c' l',((loop _ (0,c2.1,c2.2.1,c2.2.2,l)).bind _)=_/\_;rw[hd,an];exact⟨_,_,rfl,g1,g2⟩
 | false=>exact⟨_,_,rfl,w2,by show l.length<=100;omega⟩
theorem RF {c:tD} (h:CW c):∃c' v,fP c=some (c',v)/\CW c':=by
 obtain⟨c1,v,e1,w1,_⟩:=Py h;obtain⟨c2,r,e2,w2,_⟩:=vA w1 12;unfold fP;rw[e1,an];show ∃c' l',((aa c1 12).bind _)=_/\_
 rw[e2,an];show ∃c' l',cond (r==0) _ (cond (r==1) _ (cond (r==2) _ (cond (r==3) _ _)))=_/\_
 cases r==0 with
 | true =>
  obtain⟨c3,x3,e3,w3,_⟩:=xp w2 (l:=[0,99,100]) (by decide);rw[cT,e3,an];exact⟨_,_,rfl,w3⟩
 | false =>
 cases r==1 with
 | true =>
  obtain⟨c3,x3,e3,w3,_⟩:=xp w2 (l:=[(-1),99999,100000,100001]) (by decide);rw[cF,cT,e3,an];exact⟨_,_,rfl,w3⟩
 | false =>
 cases r==2 with
 | true =>
  obtain⟨c3,x3,e3,w3,_⟩:=xp w2 (l:=[(-1),11]) (by decide);rw[cF,cF,cT,e3,an];exact⟨_,_,rfl,w3⟩
 | false =>
 cases r==3 with
 | true =>
  obtain⟨c3,x3,e3,w3,_⟩:=xp w2 (l:=[(-1),7,8]) (by decide);rw[cF,cF,cF,cT,e3,an];exact⟨_,_,rfl,w3⟩
 | false=>exact⟨_,_,rfl,w2⟩
theorem PH {c:tD} (h:CW c):∃c' l,fQ c=some (c',l)/\CW c'/\l.length<=100:=by
 obtain⟨c1,p,e1,w1,b1⟩:=vh h (n:=4) (by decide);have e1':aa c 4=some (c1,(p:Int)):=e1
 have hp:te (1+(p:Int))=((p+1:Nat):Int):=by rw[tM (by omega) (by omega)];omega
 obtain⟨c2,l,e2,w2,l2,_⟩:=LP w1 (n:=p+1) (by omega);obtain⟨c3,r,e3,w3,_⟩:=vA w2 12;have h0:0<l.length:=by omega
 have hi:ix l.length 0=some 0:=wq h0;have hg:l[0]?=some l[0]:=List.getElem?_eq_getElem h0
 unfold fQ;rw[e1',an];show ∃c' l',((cn c1 (te (1+(p:Int)))).bind _)=_/\_
 rw[hp,e2,an];show ∃c' l',((aa c2 12).bind _)=_/\_
 rw[e3,an];show ∃c' l',cond (r==0) _ (cond (r==1) _ (cond (r==2) _ _))=_/\_
 cases r==0 with
 | true =>
  obtain⟨c4,v,e4,w4⟩:=RF w3;rw[cT,e4,an];show ∃c' l',((ix l.length 0).bind _)=_/\_
  rw[hi,an];show ∃c' l',((l[0]?).bind _)=_/\_
  rw[hg,an];exact⟨_,_,rfl,w4,by rw[length_set];show l.length<=100;omega⟩
 | false =>
 cases r==1 with
 | true =>
  obtain⟨c4,x4,e4,w4,_⟩:=xp w3 (l:=[0,1000,1001]) (by decide);rw[cF,cT,e4,an];show ∃c' l',((ix l.length 0).bind _)=_/\_
  rw[hi,an];show ∃c' l',((l[0]?).bind _)=_/\_
  rw[hg,an];exact⟨_,_,rfl,w4,by rw[length_set];show l.length<=100;omega⟩
 | false =>
 cases r==2 with
 | true =>
  rw[cF,cF,cT];show ∃c' l',((ix l.length 0).bind _)=_/\_
  rw[hi,an];show ∃c' l',((l[0]?).bind _)=_/\_
  rw[hg,an];exact⟨_,_,rfl,w3,by rw[length_set];show l.length<=100;omega⟩
 | false=>exact⟨_,_,rfl,w3,by show l.length<=100;omega⟩

structure VS (v:uj) (n:Nat):Prop where
 a:v.1.length<=n
 b:v.2.length<=100
 r:∀r∈v.1,Ac r.2.2
theorem QM {v:uj} {n:Nat} (hn:n<=1000) (hv:VS v n) {r:tC} (hr:Ac r.2.2):∃y,aF v r=some y/\VS y (2*n+1):=by
 have l4:=hv.a;have l3:=hv.b
 obtain⟨d,h1,h2,h3⟩:=tI (step:=λz:Bool×Int×List tC=>az v r z.1 z.2.1 z.2.2) (λk z=>z.2.1=(k:Int)/\z.2.2.length<=2*k/\∀x∈z.2.2,Ac x.2.2) v.1.length (λd=>d.2.length<=2*n/\∀x∈d.2,Ac x.2.2)
  (λk z hk ⟨e1,e2,e3⟩=>by
   obtain⟨t,i,b⟩:=z;simp only at e1 e2 e3;subst e1;left;have hvk:Ac v.1[k].2.2:=hv.r _ (getElem_mem hk)
   show ∃y,az v r t (k:Int) b=_/\_;unfold az;simp only[u0 (show (k:Int)<(v.1.length:Int) by omega),cT,tE hk,an,tz (show k<9223372036854775807 by omega),Int.not_lt];have ha:∀(xs:List tC) (y:tC),xs.length<=10000->tJ xs [y]=some (xs++[y]):=λxs y h=>tn (by show xs.length+1<=_;omega)
   have key:∀(tt:Bool),((cond (!t) (some (decide (v.1[k].1>=r.1))) (some false))=some tt->∃y:Bool×Int×List tC,(cond tt ((tJ b [r]).bind λzs37=>cond (v.1[k].1 != r.1) ((tJ zs37 [v.1[k]]).bind λzs56=>some (.inl (true,((k+1:Nat):Int),zs56))) (some (.inl (true,((k+1:Nat):Int),zs37)))) (cond (v.1[k].1 != r.1) ((tJ b [v.1[k]]).bind λzs56_1=>some (.inl (t,((k+1:Nat):Int),zs56_1))) (some (.inl (t,((k+1:Nat):Int),b)))):Option ((Bool×Int×List tC)⊕(Bool×List tC)))=some (.inl y)/\y.2.1=((k+1:Nat):Int)/\y.2.2.length<=2*(k+1)/\∀x∈y.2.2,Ac x.2.2):=by
    intro tt _;cases tt with
    | true =>
     rw[cT,ha b r (by omega),an];cases v.1[k].1 != r.1 with
     | true =>
      rw[cT,ha (b++[r]) _ (by simp;omega),an];refine⟨_,rfl,rfl,by simp;omega,λx hx=>?_⟩;simp at hx;rcases hx with hx|rfl|rfl
      · exact e3 x hx
      · exact hr
      · exact hvk
     | false =>
      refine⟨_,rfl,rfl,by simp;omega,λx hx=>?_⟩;simp at hx;rcases hx with hx|rfl
      · exact e3 x hx
      · exact hr
    | false =>
     rw[cF];cases v.1[k].1 != r.1 with
     | true =>
      rw[cT,ha b _ (by omega),an];refine⟨_,rfl,rfl,by simp;omega,λx hx=>?_⟩;simp at hx;rcases hx with hx|rfl
      · exact e3 x hx
      · exact hvk
     | false=>exact⟨_,rfl,rfl,by show b.length<=_;omega,e3⟩
   cases ht:(cond (!t) (some (decide (v.1[k].1>=r.1))) (some false))with
   | none=>cases t<;>cases ht
   | some tt =>
    rw[an];exact key tt ht)
  (λz ⟨e1,e2,e3⟩=>by
   obtain⟨t,i,b⟩:=z;simp only at e1 e2 e3;subst e1;refine⟨(t,b),?_,by show b.length<=_;omega,e3⟩;show az v r t _ b=_
   unfold az;rw[tW (by omega),cF]) (x:=(false,0,[])) ⟨rfl,by simp,λx hx=>absurd hx not_mem_nil⟩
 unfold aF;rw[tn (by show 0+v.2.length<=_;omega),an,h1,an,nil_append];cases d.1 with
 | true=>exact⟨_,rfl,by show d.2.length<=_;omega,l3,h3⟩
 | false =>
  rw[Bool.not_false,cT,tn (by show d.2.length+1<=_;omega),an];refine⟨_,rfl,by show (d.2++[r]).length<=_;simp;omega,l3,λx hx=>?_⟩;have hx:x∈d.2++[r]:=hx
  simp at hx;rcases hx with hx|rfl
  · exact h3 x hx
  · exact hr
theorem QN {c:tD} (h:CW c):∃c' v n,fT c=some (c',v,n)/\CW c'/\VS v 1000:=by
 obtain⟨c1,p,e1,w1,b1⟩:=vh h (n:=4) (by decide);have e1':aa c 4=some (c1,(p:Int)):=e1
 have hp:te (1+(p:Int))=((p+1:Nat):Int):=by rw[tM (by omega) (by omega)];omega
 obtain⟨c2,v,e2,w2,hv⟩:=NC w1 (n:=p+1) (by omega) (by omega);obtain⟨l1,l2,l3,l4⟩:=hv.len;obtain⟨c3,r,e3,w3,_⟩:=vA w2 12;unfold fT;rw[e1',an];show ∃c' v' n',((co c1 (te (1+(p:Int)))).bind _)=_/\_
 rw[hp,e2,an];show ∃c' v' n',((aa c2 12).bind _)=_/\_
 rw[e3,an];show ∃c' v' n',cond (r==0) _ (cond (r==1) _ (cond (r==2) _ (cond (r==3) _ _)))=_/\_
 cases r==0 with
 | true =>
  obtain⟨c4,x4,e4,w4,_⟩:=xp w3 (l:=[0,1,9,100]) (by decide);obtain⟨c5,x5,e5,w5,_⟩:=xp w4 (l:=[(-1),0,1,64]) (by decide);obtain⟨c6,k6,e6,w6,b6⟩:=vh w5 (n:=3) (by decide);have e6':aa c5 3=some (c6,(k6:Int)):=e6
  rw[cT,e4,an,e5,an];show ∃c' v' n',((aa c5 3).bind _)=_/\_
  rw[e6',an];show ∃c' v' n',((tJ v.1 [_]).bind _)=_/\_
  rw[tn (by show v.1.length+1<=_;omega),an];refine⟨_,_,_,rfl,w6,by show (v.1++[_]).length<=_;rw[length_append];show v.1.length+1<=_;omega,by show v.2.length<=_;omega,λx hx=>?_⟩;have hx:x∈v.1++[(x4,x5,(k6:Int))]:=hx
  simp at hx;rcases hx with hx|rfl
  · exact hv.r x hx
  · show Ac (k6:Int);exact⟨by omega,by omega⟩
 | false =>
 cases r==1 with
 | true =>
  obtain⟨c4,x4,e4,w4,_⟩:=xp w3 (l:=[0,7]) (by decide);have h0:0<v.2.length:=by omega
  rw[cF,cT,e4,an];show ∃c' v' n',((ix v.2.length 0).bind _)=_/\_
  rw[show ix v.2.length 0=some 0 from wq h0,an];show ∃c' v' n',((v.2[0]?).bind _)=_/\_
  rw[List.getElem?_eq_getElem h0,an];exact⟨_,_,_,rfl,w4,by show v.1.length<=_;omega,by show (v.2.set 0 x4).length<=_;rw[length_set];omega,hv.r⟩
 | false =>
 cases r==2 with
 | true =>
  obtain⟨c4,x4,e4,w4,_⟩:=xp w3 (l:=[0,6,7]) (by decide);rw[cF,cF,cT,e4,an];exact⟨_,_,_,rfl,w4,by show v.1.length<=_;omega,by show v.2.length<=_;omega,hv.r⟩
 | false =>
 cases r==3 with
 | true =>
  rw[cF,cF,cF,cT];have hpow:∀k,k<=6->8*2^k<=512:=by
   intro k hk;have:2^k<=2^6:=Nat.pow_le_pow_right (by decide) hk
   omega
  obtain⟨d,hd,hv2⟩:=tI (step:=λz:Int×List tC×List Int=>dG z.1 z.2.1 z.2.2) (λk z=>z.1=(k:Int)/\VS z.2 (8*2^k-1)) 6 (λd=>VS d 1000)
   (λk z hk ⟨a1,a2⟩=>by
    obtain⟨i,rows,qs⟩:=z;simp only at a1 a2;subst a1;left;have hk':=hpow k (by omega)
    obtain⟨y,hy,hy2⟩:=QM (by omega) a2 (r:=(te (10+(k:Int)),0,0)) ⟨by show (-9223372036854775808:Int)<=0;decide,by show (0:Int)<=9223372036854775807;decide⟩;refine⟨(((k+1:Nat):Int),y),?_,rfl,?_⟩
    · show dG (k:Int) rows qs=_;unfold dG;rw[u0 (by omega),cT,hy,an,tz (by omega)]
    · have e:2*(8*2^k-1)+1=8*2^(k+1)-1:=by
       have:1<=2^k:=Nat.one_le_two_pow;rw[Nat.pow_succ];omega
      rw[←e];exact hy2)
   (λz ⟨a1,a2⟩=>by
    obtain⟨i,rows,qs⟩:=z;simp only at a1 a2;subst a1;refine⟨(rows,qs),?_,Nat.le_trans a2.a (by decide),a2.b,a2.r⟩;show dG ((6:Nat):Int) rows qs=_
    unfold dG;rw[tW (by omega),cF]) (x:=(0,v.1,v.2)) ⟨rfl,by show v.1.length<=8*2^0-1;omega,by show v.2.length<=_;omega,hv.r⟩
  show ∃c' v' n',((loop _ (0,v.1,v.2)).bind _)=_/\_;rw[hd,an];exact⟨_,_,_,rfl,w3,hv2⟩
 | false=>exact⟨_,_,_,rfl,w3,by show v.1.length<=_;omega,by show v.2.length<=_;omega,hv.r⟩
theorem QO {c:tD} (h:CW c) {b:td} (hb:wY b):∃c' o,aq c b=some (c',o)/\CW c'/\Nm o:=by
 cases hp:ue b with
 | true=>exact Kw h (C7 hb hp)
 | false =>
  unfold aq;rw[Pn hb,hp,Bool.not_false,cT,an];show ∃c' o,cond (decide ((0:Int)>0)) _ _=_/\_
  rw[show decide ((0:Int)>0)=false from rfl,cF];obtain⟨c2,r,e2,w2,_⟩:=vA h 8;rw[e2,an];show ∃c' o,cond (r==0) _ (cond (r==1) _ (cond (r==2) _ (cond (r==3) _ (cond (r==4) _ (cond (r==5) _ (cond (r==6) _ _))))))=_/\_
  cases r==0 with
  | true=>exact⟨_,_,rfl,w2,⟨by decide,by decide,by decide⟩⟩
  | false =>
  cases r==1 with
  | true=>exact⟨_,_,rfl,w2,⟨by decide,by decide,by decide⟩⟩
  | false =>
  cases r==2 with
  | true=>rw[Af _ (by decide)];exact⟨_,_,rfl,w2,Jr (by decide) (by decide) (by decide)⟩
  | false =>
  cases r==3 with
  | true =>
   obtain⟨c3,k,e3,w3,hk⟩:=vh w2 (n:=9) (by decide);have e3':aa c2 9=some (c3,(k:Int)):=e3
   show ∃c' o,((aa c2 9).bind _)=_/\_;rw[e3',an,Af _ (by simp),an];refine⟨_,_,rfl,w3,?_⟩;show Nm [1,3,1,3,1,te (1+(k:Int))]
   rw[tM (by omega) (by omega)];exact Jr (by decide) (by decide) (by omega)
  | false =>
  cases r==4 with
  | true=>rw[Af _ (by decide)];exact⟨_,_,rfl,w2,Ip (by decide) (by decide)⟩
  | false =>
  cases r==5 with
  | true=>rw[Af _ (by decide)];exact⟨_,_,rfl,w2,Ra (by decide)⟩
  | false =>
  cases r==6 with
  | true=>rw[Af _ (by decide)];exact⟨_,_,rfl,w2,PG (by decide) (by decide) (by decide) (by decide)⟩
  | false =>
   obtain⟨c3,o,e3,w3,hn⟩:=MX w2;show ∃c' o,((aG c2).bind _)=_/\_
   rw[e3,an];exact⟨_,_,rfl,w3,hn⟩

structure At (m:List tg) (o:List Int) (j:Nat):Prop where
 le:j<=m.length
 no:∀i (hi:i<m.length),i<j->¬o<m[i].1
 yes:∀i (hi:i<m.length),j<=i->o<m[i].1
theorem QP {m:List tg} (hp:m.Pairwise λx y=>x.1<y.1) (o:List Int):∃j,At m o j:=by
 have hp:=pairwise_iff_getElem.1 hp;have key:∀n,n<=m.length->(∀i (hi:i<m.length),i<n->¬o<m[i].1)\/∃j,At m o j:=by
  intro n
  induction n with
  | zero=>exact λ_=>.inl λi hi h=>by omega
  | succ n ih =>
   intro hn;rcases ih (by omega)with h|h
   · by_cases hlt:o<m[n].1
     · refine .inr ⟨n,by omega,h,λi hi hni=>?_⟩;by_cases e:i=n
       · subst e;exact hlt
       · exact List.lt_trans hlt (hp n i (by omega) hi (by omega))
     · refine .inl λi hi hin=>?_;by_cases e:i=n
       · subst e;exact hlt
       · exact h i hi (by omega)
   · exact .inr h
 rcases key m.length (Nat.le_refl _)with h|h
 · exact⟨m.length,Nat.le_refl _,λi hi _=>h i hi hi,λi hi h=>by omega⟩
 · exact h
theorem QQ {b:td} (h:uv b) {o:List Int} (ho:o.length<=1000) {j:Nat} (hj:At (we b) o j):bz b o=some (if h:j<(we b).length then (we b)[j]else (o,130,0,[],[])):=by
 have hle:=Iq h;have hjl:=hj.le
 obtain⟨v,h1,h2⟩:=tI (step:=λz:Int×Int×Int×List UInt8×List Int×List Int=>cm o (we b) z.1 z.2.1 z.2.2.1 z.2.2.2.1 z.2.2.2.2.1 z.2.2.2.2.2) (λk z=>z=((k:Int),0,0,[],[],[])) j (λv=>if h:j<(we b).length then v=.inr (we b)[j]else ∃u,v=.inl u)
  (λk z hk e=>by
   subst e;have hkl:k<(we b).length:=by omega
   have hn:=(Aq h _ (getElem_mem hkl)).1.n10;refine .inl ⟨(((k+1:Nat):Int),0,0,[],[],[]),?_,rfl⟩;show cm o (we b) (k:Int) 0 0 [] [] []=_
   unfold cm;rw[u0 (by omega),cT,tE hkl,an,ND (by omega),dF (hj.no k hkl hk),an,cF,tz (by omega)])
  (λz e=>by
   subst e;show ∃v,cm o (we b) (j:Int) 0 0 [] [] []=_/\_
   unfold cm;by_cases hjn:j<(we b).length
   · have hn:=(Aq h _ (getElem_mem hjn)).1.n10;rw[u0 (by omega),cT,tE hjn,an,ND (by omega),dT (hj.yes j hjn (Nat.le_refl _)),an,cT];exact⟨_,rfl,by rw[dif_pos hjn]⟩
   · rw[tW (by omega),cF];exact⟨_,rfl,by rw[dif_neg hjn];exact⟨_,rfl⟩⟩) (x:=(0,0,0,[],[],[])) rfl
 unfold bz;rw[MR h,an,h1,an];by_cases hjn:j<(we b).length
 · rw[dif_pos hjn]at h2;rw[dif_pos hjn,h2];rfl
 · rw[dif_neg hjn]at h2;obtain⟨u,rfl⟩:=h2;rw[dif_neg hjn];show ((bh o).bind _)=_
   unfold bh;rw[tn (by show 0+o.length<=_;omega)];rfl
theorem wK {α:Type} {ys:List α} (h:ys.length<=M):tJ [] ys=some ys:=by
 unfold tJ;rw[if_pos (by show 0+ys.length<=4294967296;have h':ys.length<=1048576:=h;omega)];rfl
theorem Dm {l:List Int} (h:l.length<=M):bh l=some l:=by unfold bh;rw[wK h];rfl
theorem zU {l:List Int} (h:l.length<=M):bJ l=some l:=by unfold bJ;rw[wK h];rfl
theorem Ox {l:List tk} (h:l.length<=M):gN l=some l:=by unfold gN;rw[wK h];rfl
theorem MY {l:List tk} (h:l.length<=M):bS l=some l:=by unfold bS;rw[wK h];rfl
theorem Fa {v:uj} (h:v.1.length<=M/\v.2.length<=M):eg v=some v:=by
 unfold eg;rw[wK h.1,an,Dm h.2];rfl
theorem LV {v:uj} (h:v.1.length<=M/\v.2.length<=M):aO v=some v:=by
 unfold aO;rw[wK h.1,an,wK h.2];rfl
theorem xr {b:td} (h:xV M b):ao b=some b:=by
 obtain⟨h1,h2,h3,h4,h5⟩:=h;unfold ao;rw[wK h2,an,Ox h3,an,Fa ⟨h4,h5⟩];rfl
theorem vS {b:td} (h:xV M b):am b=some b:=by
 obtain⟨h1,h2,h3,h4,h5⟩:=h;unfold am;rw[wK h2,an,MY h3,an,LV ⟨h4,h5⟩];rfl
def Gv (o:List Int) (k:Nat):Bool:=match o[k]? with|some x=>!(tj x 0 100000)|none=>false
def wG (o:List Int):Bool:=!((List.range o.length).any (Gv o))&&tj (o.length:Int) 1 10
theorem Dn {o:List Int} (h:o.length<9223372036854775807):ak o=some (wG o):=by
 unfold ak wG;have e:loop (λz=>aS o z) 0=some (cond ((List.range o.length).any (Gv o)) (Sum.inr false) (Sum.inl ())):=by
  rw[←xi (n:=o.length) (c:=λi=>(at? o i).bind λx=>(ac x 0 100000).bind λt=>some (!t)) (b:=Gv o) h (λk hk=>by
   simp only[tE hk,an,Gv,List.getElem?_eq_getElem hk,wR])]
  refine vR (λi=>?_) 0;unfold aS;simp only[Option.bind_assoc,an]
 rw[e,an];cases (List.range o.length).any (Gv o)with
 | true=>rfl
 | false=>simp only[cF,Sum.elim_inl,wR,an,Bool.not_false,Bool.true_and]
theorem Ir:bD=ak:=rfl
theorem NE (n:Int):∃c,aw n=some c/\(c==n)=tj n (-2147483648) 2147483647:=by
 unfold aw tj;by_cases h1:n>2147483647
 · refine⟨_,by rw[dT h1];rfl,?_⟩;rw[dF (show ¬n<=2147483647 by omega),Bool.and_false];exact beq_eq_false_iff_ne.2 (by omega)
 · by_cases h2:n < -2147483648
   · refine⟨_,by rw[dF h1,dT h2];rfl,?_⟩;rw[dF (show ¬n >= -2147483648 by omega),Bool.false_and];exact beq_eq_false_iff_ne.2 (by omega)
   · refine⟨_,by rw[dF h1,dF h2];rfl,?_⟩;rw[dT (show n >= -2147483648 by omega),dT (show n<=2147483647 by omega),beq_self_eq_true];rfl
theorem Oy (l:List Int):ay l []=some ((l.length:Int)==0):=by
 cases l with
 | nil=>exact Lr (n:=0) (Ia (a:=[]) (by decide))
 | cons x l =>
  unfold ay;have e:(((x::l).length:Int) != (([]:List Int).length:Int))=true:=by simp;omega
  rw[e,cT,beq_eq_false_iff_ne.2 (by simp;omega)]
theorem MZ {l:List Int} (h:l.length<=M):ay l l=some true:=Lr (Ia (Rm h))
def wZ (v:wQ):Bool :=
 cond (v.1==5||(v.1==128||v.1==130)) (v.2.1==0&&(v.2.2.1==[]&&((v.2.2.2.length:Int)==0)))
  (cond (v.1==2) (tj v.2.1 (-2147483648) 2147483647&&(v.2.2.1==[]&&((v.2.2.2.length:Int)==0)))
   (cond (v.1==4) (decide ((v.2.2.1.length:Int)<=20)&&(v.2.1==0&&((v.2.2.2.length:Int)==0)))
    (cond (v.1==6) (wG v.2.2.2&&(v.2.1==0&&(v.2.2.1==[]))) false)))
theorem Fb {v:wQ} (h:v.2.2.2.length<=M):al v=some (wZ v):=by
 obtain⟨k,n,s,o⟩:=v;have h':o.length<=1048576:=h
 have ho:o.length<=M:=h;have hb:o.length<9223372036854775807:=by omega
 unfold al wZ aJ aC;simp only[wR,Oy,MZ ho,Dn hb,an];by_cases h2:k=2
 · subst h2;cases tj n (-2147483648) 2147483647<;>cases s==[]<;>cases (o.length:Int)==0<;>simp
 by_cases h4:k=4
 · subst h4;cases decide ((s.length:Int)<=20)<;>cases n==0<;>cases (o.length:Int)==0<;>simp
 by_cases h6:k=6
 · subst h6;cases wG o<;>cases n==0<;>cases s==[]<;>simp
 rw[beq_eq_false_iff_ne.2 h2,beq_eq_false_iff_ne.2 h4,beq_eq_false_iff_ne.2 h6];by_cases h5:k=5
 · subst h5;cases n==0<;>cases s==[]<;>cases (o.length:Int)==0<;>simp
 by_cases h128:k=128
 · subst h128;cases n==0<;>cases s==[]<;>cases (o.length:Int)==0<;>simp
 by_cases h130:k=130
 · subst h130;cases n==0<;>cases s==[]<;>cases (o.length:Int)==0<;>simp
 rw[beq_eq_false_iff_ne.2 h5,beq_eq_false_iff_ne.2 h128,beq_eq_false_iff_ne.2 h130];rfl
theorem Gw {v:wQ} (h:v.2.2.2.length<=M):bo v=some (wZ v):=by
 obtain⟨k,n,s,o⟩:=v;have h':o.length<=1048576:=h
 have hb:o.length<9223372036854775807:=by omega
 obtain⟨c,hc,hc2⟩:=NE n;unfold bo wZ;simp only[Ir,Dn hb,hc,hc2,an];by_cases h5:k=5
 · subst h5;cases n==0<;>cases s==[]<;>cases (o.length:Int)==0<;>simp
 by_cases h128:k=128
 · subst h128;cases n==0<;>cases s==[]<;>cases (o.length:Int)==0<;>simp
 by_cases h130:k=130
 · subst h130;cases n==0<;>cases s==[]<;>cases (o.length:Int)==0<;>simp
 rw[beq_eq_false_iff_ne.2 h5,beq_eq_false_iff_ne.2 h128,beq_eq_false_iff_ne.2 h130];by_cases h2:k=2
 · subst h2;cases tj n (-2147483648) 2147483647<;>cases s==[]<;>cases (o.length:Int)==0<;>simp
 by_cases h4:k=4
 · subst h4;cases decide ((s.length:Int)<=20)<;>cases n==0<;>cases (o.length:Int)==0<;>simp
 by_cases h6:k=6
 · subst h6;cases wG o<;>cases n==0<;>cases s==[]<;>simp
 rw[beq_eq_false_iff_ne.2 h2,beq_eq_false_iff_ne.2 h4,beq_eq_false_iff_ne.2 h6];rfl
def xj (x:tg):Bool:=wG x.1&&wZ x.2
def bX (l:List tg) (k:Nat):Bool:=match l[k]? with|some x=>!(xj x)|none=>false
def vb (p:tQ):Bool :=
 (!((List.range p.2.2.2.2.length).any (bX p.2.2.2.2))&&decide ((p.2.2.2.2.length:Int)<=10)) &&
 (cond (p.1==162||p.1==165) (tj p.2.2.1 0 1000&&tj p.2.2.2.1 0 1000)
  (cond (p.1==160||(p.1==161||p.1==163)) (p.2.2.1==0&&p.2.2.2.1==0) false)&&tj p.2.1 (-2147483648) 2147483647)
theorem PI {n:Nat} {f g:Nat->Bool}:(List.range n).any (λk=>f k||g k)=((List.range n).any f||(List.range n).any g):=by
 generalize List.range n=l
 induction l with
 | nil=>rfl
 | cons a l ih=>simp only[List.any_cons,ih];cases f a<;>cases g a<;>simp
theorem Oz (n:Nat):(List.range n).any (λk=>decide ((k:Int)>=10))=!(decide ((n:Int)<=10)):=by
 by_cases h:(n:Int)<=10
 · rw[dT h];refine Bool.eq_false_iff.2 λha=>?_;obtain⟨k,h1,h2⟩:=any_eq_true.1 ha;have:=mem_range.1 h1
   have:=of_decide_eq_true h2;omega
 · rw[dF h];exact any_eq_true.2 ⟨10,mem_range.2 (by omega),by decide⟩
theorem N0 {p:tQ} (h:vQ M p):loop (λz=>gM p z) 0=some (cond (!(decide ((p.2.2.2.2.length:Int)<=10))||(List.range p.2.2.2.2.length).any (bX p.2.2.2.2)) (Sum.inr false) (Sum.inl ())):=by
 obtain⟨k,i,e,x,l⟩:=p;have h':AT M l:=h
 have hl:l.length<=1048576:=h'.1;show loop (λz=>gM (k,i,e,x,l) z) 0=some (cond (!(decide ((l.length:Int)<=10))||(List.range l.length).any (bX l)) (Sum.inr false) (Sum.inl ()))
 rw[←Oz,←PI,←xi (n:=l.length) (c:=λi=>(at? l i).bind λx=>(cond (decide (i>=10)) (some true) ((ak x.1).bind λt=>some (!t))).bind λt=>(cond t (some true) ((al x.2).bind λt=>some (!t)))) (b:=λk=>decide ((k:Int)>=10)||bX l k) (by omega) (λk hk=>by
  have hx:E4 M l[k]:=h'.2 _ (getElem_mem hk);have h1:l[k].1.length<=1048576:=hx.1
  have h2:l[k].2.2.2.2.length<=M:=hx.2.2;simp only[tE hk,an,bX,List.getElem?_eq_getElem hk,Dn (show l[k].1.length<9223372036854775807 by omega),Fb (v:=l[k].2) h2,xj];cases decide ((k:Int)>=10)<;>cases wG l[k].1<;>cases wZ l[k].2<;>rfl)]
 refine vR (λi=>?_) 0;unfold gM;simp only[Option.bind_assoc,an]
theorem LW {p:tQ} (h:vQ M p):loop (λz=>i0 p z) 0=some (cond ((List.range p.2.2.2.2.length).any (bX p.2.2.2.2)) (Sum.inr false) (Sum.inl ())):=by
 obtain⟨k,i,e,x,l⟩:=p;have h':AT M l:=h
 have hl:l.length<=1048576:=h'.1;show loop (λz=>i0 (k,i,e,x,l) z) 0=some (cond ((List.range l.length).any (bX l)) (Sum.inr false) (Sum.inl ()))
 rw[←xi (n:=l.length) (c:=λi=>(at? l i).bind λx=>(bD x.1).bind λt=>(cond (!t) (some true) ((at? l i).bind λx=>(bo x.2).bind λt=>some (!t)))) (b:=bX l) (by omega) (λk hk=>by
  have hx:E4 M l[k]:=h'.2 _ (getElem_mem hk);have h1:l[k].1.length<=1048576:=hx.1
  have h2:l[k].2.2.2.2.length<=M:=hx.2.2;simp only[tE hk,an,bX,List.getElem?_eq_getElem hk,Ir,Dn (show l[k].1.length<9223372036854775807 by omega),Gw (v:=l[k].2) h2,xj];cases wG l[k].1<;>cases wZ l[k].2<;>rfl)]
 refine vR (λi=>?_) 0;unfold i0;simp only[Option.bind_assoc,an]
theorem N1 {p:tQ} (h:vQ M p):cY p=some (vb p):=by
 have e0:=N0 h;have e1:loop (λz=>lI p z) 0=_:=e0
 have e2:loop (λz=>lJ p z) 0=_:=e0;have e3:loop (λz=>lK p z) 0=_:=e0
 have e4:loop (λz=>lL p z) 0=_:=e0;have e5:loop (λz=>lM p z) 0=_:=e0
 have e6:loop (λz=>lN p z) 0=_:=e0;have e7:loop (λz=>lO p z) 0=_:=e0
 have e8:loop (λz=>lP p z) 0=_:=e0;unfold cY vb aC;rw[e0,e1,e2,e3,e4,e5,e6,e7,e8];simp only[wR,an];generalize (List.range p.2.2.2.2.length).any (bX p.2.2.2.2)=u;generalize decide ((p.2.2.2.2.length:Int)<=10)=w;generalize tj p.2.1 (-2147483648) 2147483647=x;generalize p.2.2.1=e;generalize p.2.2.2.1=i;generalize p.1=k;by_cases h0:k=160
 · subst h0;have b1:(e != 0)=!(e==0):=rfl
   have b2:(i != 0)=!(i==0):=rfl;rw[b1,b2];cases e==0<;>cases i==0<;>cases u<;>cases w<;>cases x<;>rfl
 by_cases h1:k=161
 · subst h1;have b1:(e != 0)=!(e==0):=rfl
   have b2:(i != 0)=!(i==0):=rfl;rw[b1,b2];cases e==0<;>cases i==0<;>cases u<;>cases w<;>cases x<;>rfl
 by_cases h3:k=163
 · subst h3;have b1:(e != 0)=!(e==0):=rfl
   have b2:(i != 0)=!(i==0):=rfl;rw[b1,b2];cases e==0<;>cases i==0<;>cases u<;>cases w<;>cases x<;>rfl
 by_cases h2:k=162
 · subst h2;cases tj e 0 1000<;>cases tj i 0 1000<;>cases u<;>cases w<;>cases x<;>rfl
 by_cases h5:k=165
 · subst h5;cases tj e 0 1000<;>cases tj i 0 1000<;>cases u<;>cases w<;>cases x<;>rfl
 rw[beq_eq_false_iff_ne.2 h0,beq_eq_false_iff_ne.2 h1,beq_eq_false_iff_ne.2 h2,beq_eq_false_iff_ne.2 h3,beq_eq_false_iff_ne.2 h5];cases u<;>cases w<;>rfl
theorem Kx {p:tQ} (h:vQ M p):bC p=some (vb p):=by
 obtain⟨c,hc,hc2⟩:=NE p.2.1;unfold bC vb iL;rw[LW h];simp only[yw,hc,hc2,an];generalize (List.range p.2.2.2.2.length).any (bX p.2.2.2.2)=u;generalize decide ((p.2.2.2.2.length:Int)<=10)=w;generalize tj p.2.1 (-2147483648) 2147483647=x;generalize p.2.2.1=e;generalize p.2.2.2.1=i;generalize p.1=k;have b1:(e != 0)=!(e==0):=rfl
 have b2:(i != 0)=!(i==0):=rfl;rw[b1,b2];have z1:(e==0)=true->tj e 0 1000=true:=λh=>by rw[eq_of_beq h];rfl
 have z2:(i==0)=true->tj i 0 1000=true:=λh=>by rw[eq_of_beq h];rfl
 by_cases h2:k=162
 · subst h2;cases tj e 0 1000<;>cases tj i 0 1000<;>cases u<;>cases w<;>cases x<;>rfl
 by_cases h5:k=165
 · subst h5;cases tj e 0 1000<;>cases tj i 0 1000<;>cases u<;>cases w<;>cases x<;>rfl
 have n2:(k != 162)=true:=bne_iff_ne.2 h2;have n5:(k != 165)=true:=bne_iff_ne.2 h5
 rw[n2,n5,beq_eq_false_iff_ne.2 h2,beq_eq_false_iff_ne.2 h5];cases he:e==0 with
 | false=>cases hi:i==0<;>cases u<;>cases w<;>cases x<;>cases k==160<;>cases k==161<;>cases k==163<;>rfl
 | true =>
  rw[z1 he];cases hi:i==0 with
  | false=>cases u<;>cases w<;>cases x<;>cases k==160<;>cases k==161<;>cases k==163<;>rfl
  | true =>
   rw[z2 hi];cases u<;>cases w<;>cases x<;>cases k==160<;>cases k==161<;>cases k==163<;>rfl
def u4 (j:um):Int:=j.2.2.2.2.2.2.2.2.2.2.2.2.2.2.2.2.2.2.2.2
def x7 (j:um):Int:=j.2.2.2.2.2.2.2.2.2.2.2.2.2.2.2.2.2.2.2.1
noncomputable def zF (j:um):Bool:=tj j.2.2.1 0 2&&(tj (x7 j) 0 (j.2.2.2.2.2.2.2.1.length:Int)&&(tj (u4 j) 0 3&&(j.2.2.1==0||(vb (jP j)&&((j.2.2.2.1 != 162)&&ue (jB j))))))
structure Jt (j:um):Prop where
 p:vQ M (jP j)
 b:wY (jB j)
theorem RG {j:um} (h:Jt j):fi j=some (zF j):=by
 have hp:cY (j.2.2.2.1,j.2.2.2.2.1,j.2.2.2.2.2.1,j.2.2.2.2.2.2.1,j.2.2.2.2.2.2.2.1)=some (vb (jP j)):=N1 h.p;have hb:=Ao h.b
 unfold jB at hb;unfold fi zF;rw[hp,hb];simp only[wR,an,x7,u4];cases tj j.2.2.1 0 2<;>cases tj j.2.2.2.2.2.2.2.2.2.2.2.2.2.2.2.2.2.2.2.1 0 (j.2.2.2.2.2.2.2.1.length:Int)<;>cases tj j.2.2.2.2.2.2.2.2.2.2.2.2.2.2.2.2.2.2.2.2 0 3<;>cases j.2.2.1==0<;>cases vb (jP j)<;>cases j.2.2.2.1 != 162<;>rfl
theorem RH {j:um} (h:Jt j) (last:Int):fG j last=some (tj j.1 1 last&&zF j):=by
 have hp:bC (j.2.2.2.1,j.2.2.2.2.1,j.2.2.2.2.2.1,j.2.2.2.2.2.2.1,j.2.2.2.2.2.2.2.1)=some (vb (jP j)):=Kx h.p;have hb:=zT h.b
 unfold jB at hb;unfold fG iM zF;rw[hp,hb];simp only[yw,an,x7,u4];cases tj j.1 1 last<;>cases tj j.2.2.1 0 2<;>cases tj j.2.2.2.2.2.2.2.2.2.2.2.2.2.2.2.2.2.2.2.1 0 (j.2.2.2.2.2.2.2.1.length:Int)<;>cases tj j.2.2.2.2.2.2.2.2.2.2.2.2.2.2.2.2.2.2.2.2 0 3<;>cases j.2.2.1==0<;>cases vb (jP j)<;>cases j.2.2.2.1 != 162<;>rfl
def th (a:tB):List um:=a.2.2.2.2.2.2.2.2.2.2.2.2.1
def tV (a:tB):Int:=a.2.2.2.2.2.2.2.2.2.2.2.2.2.2
def uE (a:tB):Int:=a.2.2.2.2.2.2.2.2.2.2.2.2.2.1
noncomputable def Cq (l:List um) (last:Int) (k:Nat):Bool:=match l[k]? with
 | some j=>!(tj j.1 1 last&&zF j)||(decide (0<k)&&(match l[k-1]? with|some p=>decide (p.1>=j.1)|none=>false))
 | none=>false
noncomputable def xk (a:tB):Bool:=!((List.range (th a).length).any (Cq (th a) (tV a)))&&(ue (aB a)&&(decide ((a.2.2.2.2.2.2.2.2.2.2.2.1.length:Int)<=20)&&(decide (((th a).length:Int)<=6)&&(tj (uE a) 0 1000000&&tj (tV a) 0 1000000))))
structure G3 (a:tB):Prop where
 b:wY (aB a)
 n:(th a).length<=1048576
 j:∀x∈th a,Jt x
theorem Ky {a:tB} (h:G3 a):loop (λz=>iF a z) 0=some (cond ((List.range (th a).length).any (Cq (th a) (tV a))) (Sum.inr false) (Sum.inl ())):=by
 have hn:=h.n;rw[←xi (n:=(th a).length) (c:=λi=>(at? (th a) i).bind λx=>(ac x.1 1 (tV a)).bind λt=>(cond (!t) (some true) ((cond (decide (i>0)) ((at? (th a) (te (i-1))).bind λy=>some (decide (y.1>=x.1))) (some false)).bind λt=>some t)).bind λt=>(cond t (some true) ((fi x).bind λt=>some (!t))).bind λt=>some t) (b:=Cq (th a) (tV a)) (by omega) (λk hk=>by
  simp only[tE hk,an,wR,RG (h.j _ (getElem_mem hk)),Cq,List.getElem?_eq_getElem hk];by_cases h0:0<k
  · have hd:decide ((k:Int)>0)=true:=dT (by omega);simp only[hd,Bh hk h0 (by omega),an,dT h0,List.getElem?_eq_getElem (show k-1<(th a).length by omega),cT];cases tj (th a)[k].1 1 (tV a)<;>cases decide ((th a)[k-1].1>=(th a)[k].1)<;>cases zF (th a)[k]<;>rfl
  · have hd:decide ((k:Int)>0)=false:=dF (by omega);simp only[hd,dF h0];cases tj (th a)[k].1 1 (tV a)<;>cases zF (th a)[k]<;>rfl)]
 refine vR (λi=>?_) 0;unfold iF th tV;simp only[Option.bind_assoc,an]
theorem IT {a:tB} (h:G3 a):loop (λz=>iN a z) 0=some (cond ((List.range (th a).length).any (Cq (th a) (tV a))) (Sum.inr false) (Sum.inl ())):=by
 have hn:=h.n;rw[←xi (n:=(th a).length) (c:=λi=>(at? (th a) i).bind λx=>(fG x (tV a)).bind λt=>(cond (!t) (some true) ((cond (decide (i>0)) ((at? (th a) (te (i-1))).bind λy=>(at? (th a) i).bind λx=>some (decide (y.1>=x.1))) (some false)).bind λt=>some t))) (b:=Cq (th a) (tV a)) (by omega) (λk hk=>by
  simp only[tE hk,an,RH (h.j _ (getElem_mem hk)),Cq,List.getElem?_eq_getElem hk];by_cases h0:0<k
  · have hd:decide ((k:Int)>0)=true:=dT (by omega);simp only[hd,Bh hk h0 (by omega),an,dT h0,List.getElem?_eq_getElem (show k-1<(th a).length by omega),cT];cases tj (th a)[k].1 1 (tV a)<;>cases decide ((th a)[k-1].1>=(th a)[k].1)<;>cases zF (th a)[k]<;>rfl
  · have hd:decide ((k:Int)>0)=false:=dF (by omega);simp only[hd,dF h0];cases tj (th a)[k].1 1 (tV a)<;>cases zF (th a)[k]<;>rfl)]
 refine vR (λi=>?_) 0;unfold iN th tV;simp only[Option.bind_assoc,an]
theorem QR (n m:Int):decide (n>m)=!(decide (n<=m)):=by
 by_cases h:n<=m
 · rw[dT h,dF (by omega)];rfl
 · rw[dF h,dT (by omega)];rfl
theorem zt {a:tB} (h:G3 a):cQ a=some (xk a):=by
 have hb:bc (a.1,a.2.1,a.2.2.1,a.2.2.2.1,a.2.2.2.2.1,a.2.2.2.2.2.1,a.2.2.2.2.2.2.1,a.2.2.2.2.2.2.2.1,a.2.2.2.2.2.2.2.2.1,a.2.2.2.2.2.2.2.2.2.1,a.2.2.2.2.2.2.2.2.2.2.1)=some (ue (aB a)):=Ao h.b;unfold cQ xk;rw[Ky h,hb];simp only[LO,an,QR,uE,tV];generalize (List.range (th a).length).any _=u;show _=some (!u&&(ue (aB a)&&(_&&(decide ((a.2.2.2.2.2.2.2.2.2.2.2.2.1.length:Int)<=6)&&(_)))))
 cases u<;>cases ue (aB a)<;>cases decide ((a.2.2.2.2.2.2.2.2.2.2.2.1.length:Int)<=20)<;>cases decide ((a.2.2.2.2.2.2.2.2.2.2.2.2.1.length:Int)<=6)<;>cases tj a.2.2.2.2.2.2.2.2.2.2.2.2.2.1 0 1000000<;>cases tj a.2.2.2.2.2.2.2.2.2.2.2.2.2.2 0 1000000<;>rfl
theorem AM {a:tB} (h:G3 a):cc a=some (xk a):=by
 have hb:aZ (a.1,a.2.1,a.2.2.1,a.2.2.2.1,a.2.2.2.2.1,a.2.2.2.2.2.1,a.2.2.2.2.2.2.1,a.2.2.2.2.2.2.2.1,a.2.2.2.2.2.2.2.2.1,a.2.2.2.2.2.2.2.2.2.1,a.2.2.2.2.2.2.2.2.2.2.1)=some (ue (aB a)):=zT h.b;unfold cc xk;rw[IT h,hb];simp only[yw,an,uE,tV];generalize (List.range (th a).length).any _=u;show _=some (!u&&(ue (aB a)&&(_&&(decide ((a.2.2.2.2.2.2.2.2.2.2.2.2.1.length:Int)<=6)&&(_)))))
 cases u<;>cases ue (aB a)<;>cases decide ((a.2.2.2.2.2.2.2.2.2.2.2.1.length:Int)<=20)<;>cases decide ((a.2.2.2.2.2.2.2.2.2.2.2.2.1.length:Int)<=6)<;>cases tj a.2.2.2.2.2.2.2.2.2.2.2.2.2.1 0 1000000<;>cases tj a.2.2.2.2.2.2.2.2.2.2.2.2.2.2 0 1000000<;>rfl
theorem Ea {α:Type} {l:List α} {step:Int×List α->Option ((Int×List α)⊕List α)} (hn:l.length<=M)
 (hs:∀k (hk:k<l.length) out,step ((k:Int),out)=(tJ out [l[k]]).bind λzs=>some (.inl (((k+1:Nat):Int),zs)))
 (he:∀out,step ((l.length:Int),out)=some (.inr out)):loop step (0,[])=some l:=by
 have hn':l.length<=1048576:=hn;obtain⟨b,h1,rfl⟩:=tI (step:=step) (λk z=>z=((k:Int),l.take k)) l.length (λb=>b=l)
  (λk z hk e=>by
   subst e;left;refine⟨_,by rw[hs k hk,tn (by rw[length_take];show _+1<=_;omega),an],?_⟩;rw[take_add_one,List.getElem?_eq_getElem hk];rfl)
  (λz e=>by
   subst e;exact⟨_,he _,by rw[take_length]⟩) (x:=(0,[])) rfl
 exact h1
theorem OA {v:wQ} (h:R6 M v):gO v=some v:=by unfold gO;rw[Dm h.2];rfl
theorem Eb {l:List tg} (h:AT M l):ei l=some l:=by
 have hn:l.length<=1048576:=h.1;unfold ei;rw[Ea (step:=λz=>eh l z.1 z.2) h.1 (λk hk out=>by
  show eh l (k:Int) out=_;unfold eh;have hx:=h.2 _ (getElem_mem hk)
  rw[u0 (by omega),cT,tE hk,an,Dm hx.1,an,OA hx.2,an,tz (by omega)]) (λout=>by
  show eh l (l.length:Int) out=_;unfold eh;rw[tW (by omega),cF])];rfl
theorem Bb {l:List tg} (h:AT M l):cH l=some l:=by
 have hn:l.length<=1048576:=h.1;unfold cH;rw[Ea (step:=λz=>eE l z.1 z.2) h.1 (λk hk out=>by
  show eE l (k:Int) out=_;unfold eE;have hx:=h.2 _ (getElem_mem hk)
  rw[u0 (by omega),cT,tE hk,an,wK hx.2.2,an,an,wK hx.1,an,tz (by omega)]) (λout=>by
  show eE l (l.length:Int) out=_;unfold eE;rw[tW (by omega),cF])];rfl
theorem OB {p:tQ} (h:vQ M p):fj p=some p:=by unfold fj;rw[Eb h];rfl
theorem N2 {p:tQ} (h:vQ M p):fH p=some p:=by unfold fH;rw[Bb h];rfl
theorem xR {a:tB} (h:BI M a):dW a=some a:=by
 obtain⟨h1,h2,h3,h4⟩:=h;have hn:(th a).length<=1048576:=h3
 unfold dW;have hb:ao (a.1,a.2.1,a.2.2.1,a.2.2.2.1,a.2.2.2.2.1,a.2.2.2.2.2.1,a.2.2.2.2.2.2.1,a.2.2.2.2.2.2.2.1,a.2.2.2.2.2.2.2.2.1,a.2.2.2.2.2.2.2.2.2.1,a.2.2.2.2.2.2.2.2.2.2.1)=some (aB a):=xr h1
 rw[hb,an,Ea (l:=th a) (step:=λz=>ej a z.1 z.2) h3 (λk hk out=>by
  show ej a (k:Int) out=_;unfold ej;obtain⟨hx1,hx2,hx3⟩:=h4 _ (getElem_mem hk);have e0:at? a.2.2.2.2.2.2.2.2.2.2.2.2.1 (k:Int)=some (th a)[k]:=tE hk
  rw[u0 (show (k:Int)<(a.2.2.2.2.2.2.2.2.2.2.2.2.1.length:Int) by show (k:Int)<((th a).length:Int);omega),cT,e0,an];generalize (th a)[k]=x at hx1 hx2 hx3;have e1:fj (x.2.2.2.1,x.2.2.2.2.1,x.2.2.2.2.2.1,x.2.2.2.2.2.2.1,x.2.2.2.2.2.2.2.1)=some (jP x):=OB hx2
  have e2:ao (x.2.2.2.2.2.2.2.2.1,x.2.2.2.2.2.2.2.2.2.1,x.2.2.2.2.2.2.2.2.2.2.1,x.2.2.2.2.2.2.2.2.2.2.2.1,x.2.2.2.2.2.2.2.2.2.2.2.2.1,x.2.2.2.2.2.2.2.2.2.2.2.2.2.1,x.2.2.2.2.2.2.2.2.2.2.2.2.2.2.1,x.2.2.2.2.2.2.2.2.2.2.2.2.2.2.2.1,x.2.2.2.2.2.2.2.2.2.2.2.2.2.2.2.2.1,x.2.2.2.2.2.2.2.2.2.2.2.2.2.2.2.2.2.1,x.2.2.2.2.2.2.2.2.2.2.2.2.2.2.2.2.2.2.1)=some (jB x):=xr hx3;rw[zU hx1,an,e1,an,e2,an,tz (by omega)];rfl) (λout=>by
  show ej a ((th a).length:Int) out=_;unfold ej;rw[tW (show ¬((th a).length:Int)<(a.2.2.2.2.2.2.2.2.2.2.2.2.1.length:Int) by show ¬((th a).length:Int)<((th a).length:Int);omega),cF])]
 rfl
theorem yu {a:tB} (h:BI M a):dU a=some a:=by
 obtain⟨h1,h2,h3,h4⟩:=h;have hn:(th a).length<=1048576:=h3
 unfold dU;have hb:am (a.1,a.2.1,a.2.2.1,a.2.2.2.1,a.2.2.2.2.1,a.2.2.2.2.2.1,a.2.2.2.2.2.2.1,a.2.2.2.2.2.2.2.1,a.2.2.2.2.2.2.2.2.1,a.2.2.2.2.2.2.2.2.2.1,a.2.2.2.2.2.2.2.2.2.2.1)=some (aB a):=vS h1
 rw[hb,an];obtain⟨d,d1,rfl⟩:=tI (step:=λz:Int×Int×List UInt8×Int×Int×Int×Int×Int×List UInt8×Int×Int×List um=>fJ a z.1 z.2.1 z.2.2.1 z.2.2.2.1 z.2.2.2.2.1 z.2.2.2.2.2.1 z.2.2.2.2.2.2.1 z.2.2.2.2.2.2.2.1 z.2.2.2.2.2.2.2.2.1 z.2.2.2.2.2.2.2.2.2.1 z.2.2.2.2.2.2.2.2.2.2.1 z.2.2.2.2.2.2.2.2.2.2.2)
  (λk z=>z=((k:Int),a.1,a.2.1,a.2.2.2.2.2.2.1,a.2.2.2.2.2.2.2.1,a.2.2.2.2.2.2.2.2.1,a.2.2.2.2.2.2.2.2.2.1,a.2.2.2.2.2.2.2.2.2.2.1,a.2.2.2.2.2.2.2.2.2.2.2.1,a.2.2.2.2.2.2.2.2.2.2.2.2.2.1,a.2.2.2.2.2.2.2.2.2.2.2.2.2.2,(th a).take k)) (th a).length
  (λd=>d=(a.1,a.2.1,a.2.2.2.2.2.2.1,a.2.2.2.2.2.2.2.1,a.2.2.2.2.2.2.2.2.1,a.2.2.2.2.2.2.2.2.2.1,a.2.2.2.2.2.2.2.2.2.2.1,a.2.2.2.2.2.2.2.2.2.2.2.1,a.2.2.2.2.2.2.2.2.2.2.2.2.2.1,a.2.2.2.2.2.2.2.2.2.2.2.2.2.2,th a))
  (λk z hk e=>by
   subst e;left;simp only;unfold fJ;obtain⟨hx1,hx2,hx3⟩:=h4 _ (getElem_mem hk);have e0:at? a.2.2.2.2.2.2.2.2.2.2.2.2.1 (k:Int)=some (th a)[k]:=tE hk
   have et:(th a).take (k+1)=(th a).take k++[(th a)[k]]:=by rw[take_add_one,List.getElem?_eq_getElem hk];rfl
   rw[u0 (show (k:Int)<(a.2.2.2.2.2.2.2.2.2.2.2.2.1.length:Int) by show (k:Int)<((th a).length:Int);omega),cT,e0,an,et];generalize (th a)[k]=x at hx1 hx2 hx3;have e1:fH (x.2.2.2.1,x.2.2.2.2.1,x.2.2.2.2.2.1,x.2.2.2.2.2.2.1,x.2.2.2.2.2.2.2.1)=some (jP x):=N2 hx2
   have e2:am (x.2.2.2.2.2.2.2.2.1,x.2.2.2.2.2.2.2.2.2.1,x.2.2.2.2.2.2.2.2.2.2.1,x.2.2.2.2.2.2.2.2.2.2.2.1,x.2.2.2.2.2.2.2.2.2.2.2.2.1,x.2.2.2.2.2.2.2.2.2.2.2.2.2.1,x.2.2.2.2.2.2.2.2.2.2.2.2.2.2.1,x.2.2.2.2.2.2.2.2.2.2.2.2.2.2.2.1,x.2.2.2.2.2.2.2.2.2.2.2.2.2.2.2.2.1,x.2.2.2.2.2.2.2.2.2.2.2.2.2.2.2.2.2.1,x.2.2.2.2.2.2.2.2.2.2.2.2.2.2.2.2.2.2.1)=some (jB x):=vS hx3;rw[wK hx1,an,e1,an,e2,an,tn (by rw[length_take];show _+1<=_;omega),an,tz (by omega)];exact⟨_,rfl,rfl⟩)
  (λz e=>by
   subst e;simp only;unfold fJ;rw[tW (show ¬((th a).length:Int)<(a.2.2.2.2.2.2.2.2.2.2.2.2.1.length:Int) by show ¬((th a).length:Int)<((th a).length:Int);omega),cF,take_length];exact⟨_,rfl,rfl⟩) (x:=(0,a.1,a.2.1,a.2.2.2.2.2.2.1,a.2.2.2.2.2.2.2.1,a.2.2.2.2.2.2.2.2.1,a.2.2.2.2.2.2.2.2.2.1,a.2.2.2.2.2.2.2.2.2.2.1,a.2.2.2.2.2.2.2.2.2.2.2.1,a.2.2.2.2.2.2.2.2.2.2.2.2.2.1,a.2.2.2.2.2.2.2.2.2.2.2.2.2.2,[])) rfl
 have d1':loop (λz:Int×Int×List UInt8×Int×Int×Int×Int×Int×List UInt8×Int×Int×List um=>fJ a z.1 z.2.1 z.2.2.1 z.2.2.2.1 z.2.2.2.2.1 z.2.2.2.2.2.1 z.2.2.2.2.2.2.1 z.2.2.2.2.2.2.2.1 z.2.2.2.2.2.2.2.2.1 z.2.2.2.2.2.2.2.2.2.1 z.2.2.2.2.2.2.2.2.2.2.1 z.2.2.2.2.2.2.2.2.2.2.2) (0,(aB a).1,(aB a).2.1,(aB a).2.2.2.2.2.2.1,(aB a).2.2.2.2.2.2.2.1,(aB a).2.2.2.2.2.2.2.2.1,(aB a).2.2.2.2.2.2.2.2.2.1,(aB a).2.2.2.2.2.2.2.2.2.2,a.2.2.2.2.2.2.2.2.2.2.2.1,a.2.2.2.2.2.2.2.2.2.2.2.2.2.1,a.2.2.2.2.2.2.2.2.2.2.2.2.2.2,[])=_:=d1;rw[d1'];rfl

end Go.V.W
