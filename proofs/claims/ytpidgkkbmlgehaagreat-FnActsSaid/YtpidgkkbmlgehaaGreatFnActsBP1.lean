/- The law FnActs: part of the proof that for every input it returns true. No condition. -/
import Derived.KernelRfl
import Derived.Test.YtpidgkkbmlgehaaGreatFnActs
import Derived.Test.YtpidgkkbmlgehaaGreatV4
open List (any_eq_false any_eq_true append_assoc cons_lt_cons_iff getElem_mem getElem_of_mem length_append length_map length_set length_take map_append mem_append mem_cons mem_flatMap mem_map mem_range nil_append not_mem_nil pairwise_append pairwise_iff_getElem range_succ take_add_one take_append_drop take_length)
set_option linter.unusedVariables false
set_option linter.unusedSimpArgs false
namespace Go.V.W
theorem an {α β:Type} (a:α) (f:α->Option β):(some a).bind f=f a:=rfl
abbrev Ak:Type:=Bq
abbrev M:Nat:=1048576
abbrev In (left:Int):Prop:=0<=left/\left<=1048576
theorem In.next {left r:Int} (h:In left) (h1:0<=r) (h2:r<=left):In r:=⟨h1,by have:=h.2;omega⟩
theorem To {n:Nat} (h:n<=M):n<=4294967295:=Nat.le_trans h (by decide)
def yz (n:Nat) (b:uz):Prop:=b.2.1.length<=n/\b.2.2.1.length<=n/\b.2.2.2.1.length<=n/\b.2.2.2.2.1.length<=n/\b.2.2.2.2.2.1.length<=n
def T6 (n:Nat) (v:yj):Prop:=v.2.2.1.length<=n/\v.2.2.2.length<=n
def FC (n:Nat) (x:uC):Prop:=x.1.length<=n/\T6 n x.2
def Ca (n:Nat) (l:List uC):Prop:=l.length<=n/\∀x∈l,FC n x
def xi (n:Nat) (p:v9):Prop:=Ca n p.2.2.2.2
def jP (j:vF):v9:=(j.2.2.2.1,j.2.2.2.2.1,j.2.2.2.2.2.1,j.2.2.2.2.2.2.1,j.2.2.2.2.2.2.2.1)
def jB (a0:vF):uz:=(a0.2.2.2.2.2.2.2.2.1,a0.2.2.2.2.2.2.2.2.2.1,a0.2.2.2.2.2.2.2.2.2.2.1,a0.2.2.2.2.2.2.2.2.2.2.2.1,a0.2.2.2.2.2.2.2.2.2.2.2.2.1,a0.2.2.2.2.2.2.2.2.2.2.2.2.2.1,a0.2.2.2.2.2.2.2.2.2.2.2.2.2.2.1,a0.2.2.2.2.2.2.2.2.2.2.2.2.2.2.2.1,a0.2.2.2.2.2.2.2.2.2.2.2.2.2.2.2.2.1,a0.2.2.2.2.2.2.2.2.2.2.2.2.2.2.2.2.2.1,a0.2.2.2.2.2.2.2.2.2.2.2.2.2.2.2.2.2.2.1)
def Pa (n:Nat) (j:vF):Prop:=j.2.1.length<=n/\xi n (jP j)/\yz n (jB j)
def Tp (n:Nat) (l:List vF):Prop:=l.length<=n/\∀x∈l,Pa n x
def aB (a0:uN):uz:=(a0.1,a0.2.1,a0.2.2.1,a0.2.2.2.1,a0.2.2.2.2.1,a0.2.2.2.2.2.1,a0.2.2.2.2.2.2.1,a0.2.2.2.2.2.2.2.1,a0.2.2.2.2.2.2.2.2.1,a0.2.2.2.2.2.2.2.2.2.1,a0.2.2.2.2.2.2.2.2.2.2.1)
def EW (n:Nat) (a:uN):Prop:=yz n (aB a)/\a.2.2.2.2.2.2.2.2.2.2.2.1.length<=n/\Tp n a.2.2.2.2.2.2.2.2.2.2.2.2.1
theorem Hp {α β:Type} {f g:α->Option (α⊕β)} (vu:α->Prop) (h:∀x,vu x->f x=g x) (hi:∀x y,vu x->f x=some (.inl y)->vu y) {x:α} (h0:vu x):loop f x=loop g x:=by
 have key:∀k x,vu x->yn f k x=yn g k x:=by
  intro k
  induction k with
  | zero=>intro x _;rfl
  | succ k ih =>
   intro x hx;rw[wT,wT,←h x hx];cases hf:f x with
   | none=>rfl
   | some v=>cases v with
    | inl y=>exact ih y (hi x y hx hf)
    | inr b=>rfl
 have hex:(∃k,(yn f k x).isSome)↔∃k,(yn g k x).isSome:=by
  constructor<;>rintro⟨k,hk⟩<;>exact⟨k,by first|rwa [←key k x h0]|rwa [key k x h0]⟩
 by_cases hc:∃k,(yn f k x).isSome
 · obtain⟨k,hk⟩:=hc;cases hv:yn f k x with
   | none=>rw[hv]at hk;cases hk
   | some b=>rw[zV hv,zV ((key k x h0)▸hv)]
 · have hc':¬ ∃k,(yn g k x).isSome:=λh=>hc (hex.2 h);unfold loop;rw[dif_neg hc,dif_neg hc']
theorem xo {α β:Type} {f g:α->Option (α⊕β)} (h:∀x,f x=g x) (x:α):loop f x=loop g x:=by rw[funext h]
def uE (x a b:Int):Bool:=decide (x>=a)&&decide (x<=b)
theorem xU (x a b:Int):ac x a b=some (uE x a b):=by
 unfold ac uE;cases decide (x>=a)<;>rfl
theorem Al (x a b:Int):ae x a b=some (uE x a b):=xU x a b
def DK (v:Ah):Bool:=uE v.1 1 99&&(uE v.2.1 0 100000&&(uE v.2.2.1 0 10&&(uE v.2.2.2.1 1 99&&uE v.2.2.2.2 0 7)))
theorem M2 (v:Ah):ci v=some (DK v):=by
 unfold ci DK;simp only[xU,an];cases uE v.1 1 99<;>cases uE v.2.1 0 100000<;>cases uE v.2.2.1 0 10<;>cases uE v.2.2.2.1 1 99<;>rfl
theorem Tq:fh=ci:=rfl
def zl (p:Pt):Bool:=uE p.2.1 1 1000&&(!(p.2.2.1&&!p.1)&&(cond p.2.2.1 (DK p.2.2.2) (p.2.2.2.1==0&&(p.2.2.2.2.1==0&&(p.2.2.2.2.2.1==0&&(p.2.2.2.2.2.2.1==0&&(p.2.2.2.2.2.2.2==0)))))))
theorem TZ (p:Pt):fO p=some (zl p):=by
 obtain⟨up,cost,heard,v⟩:=p;unfold fO zl;simp only[xU,M2,an];cases uE cost 1 1000<;>cases up<;>cases heard<;>rfl
theorem U0 (p:Pt):gn p=some (zl p):=by
 obtain⟨up,cost,heard,v⟩:=p;unfold gn zl;simp only[Al,Tq,M2,an];cases uE cost 1 1000<;>cases up<;>cases heard<;>rfl
theorem yC {n:Nat} {c:Int->Option Bool} {b:Nat->Bool} (hn:n<9223372036854775807) (hc:∀k,k<n->c (k:Int)=some (b k)) :
 loop (λi:Int=>cond (decide (i<(n:Int))) ((c i).bind λt=>cond t (some (.inr (.inr false))) (some (.inl (uB (i+1))))) (some (.inr (.inl ())))) 0=some (cond ((List.range n).any b) (Sum.inr false) (Sum.inl ()):Unit⊕Bool):=by
 obtain⟨v,h1,h2⟩:=uS (β:=Unit⊕Bool) (step:=λi:Int=>cond (decide (i<(n:Int))) ((c i).bind λt=>cond t (some (.inr (.inr false))) (some (.inl (uB (i+1))))) (some (.inr (.inl ()))))
  (λk i=>i=(k:Int)/\(List.range k).any b=false) n (λv=>v=cond ((List.range n).any b) (Sum.inr false) (Sum.inl ()))
  (λk i hk ⟨e,ha⟩=>by
   subst e;have hs:(cond (decide ((k:Int)<(n:Int))) ((c (k:Int)).bind λt=>cond t (some (.inr (.inr false))) (some (.inl (uB ((k:Int)+1))))) (some (.inr (.inl ()))):Option (Int⊕(Unit⊕Bool)))=cond (b k) (some (.inr (.inr false))) (some (.inl ((k+1:Nat):Int))):=by
    rw[vj (by omega),cT,hc k hk,an,uL (by omega)]
   cases hb:b k with
   | true =>
    refine .inr ⟨.inr false,by rw[hs,hb];rfl,?_⟩;have:(List.range n).any b=true:=any_eq_true.2 ⟨k,mem_range.2 hk,hb⟩
    rw[this];rfl
   | false =>
    refine .inl ⟨_,by rw[hs,hb];rfl,rfl,?_⟩;rw[range_succ,List.any_append,ha];simp[hb])
  (λi ⟨e,ha⟩=>by
   subst e;exact⟨.inl (),by rw[vd (by omega),cF],by rw[ha];rfl⟩) (x:=0) ⟨rfl,rfl⟩
 rw[h1,h2]
def xx (e:uF):Bool:=uE e.1 1 99&&(uE e.2.1 1 9999&&(uE e.2.2.1 0 7&&(uE e.2.2.2.1 0 4&&(!e.2.2.2.2||e.2.2.2.1==0))))
theorem IS (e:uF):cZ e=some (xx e):=by
 unfold cZ xx;simp only[xU,an];cases uE e.1 1 99<;>cases uE e.2.1 1 9999<;>cases uE e.2.2.1 0 7<;>cases uE e.2.2.2.1 0 4<;>cases e.2.2.2.2<;>rfl
theorem Pb:cC=cZ:=rfl
def xB (e:uF) (tag mac:Int):Bool:=decide (e.1>tag)||(e.1==tag&&decide (e.2.1>mac))
theorem KK (e:uF) (tag mac:Int):ej e tag mac=some (xB e tag mac):=by
 unfold ej xB;cases decide (e.1>tag)<;>cases (e.1==tag)<;>rfl
theorem Ra (p e:uF):bU p e.1 e.2.1=some (xB e p.1 p.2.1):=by
 unfold bU xB;by_cases h:p.1=e.1
 · simp[h]
 · have h':¬e.1=p.1:=λk=>h k.symm;have e1:(p.1 != e.1)=true:=by simpa using h
   have e2:(e.1==p.1)=false:=by simpa using h'
   rw[e1,e2,cT,Bool.false_and,Bool.or_false]
def A3 (l:List uF) (k:Nat):Bool:=match l[k]? with
 | some e=>!(xx e)||(decide (0<k)&&(match l[k-1]? with|some p=>!(xB e p.1 p.2.1)|none=>false))
 | none=>false
def zZ (l:List uF):Bool:=!((List.range l.length).any (A3 l))&&decide ((l.length:Int)<=12)
theorem Cz {α:Type} {l:List α} {k:Nat} (h:k<l.length) (hk:0<k) (hn:l.length<9223372036854775807):at? l (uB ((k:Int)-1))=some l[k-1]:=by
 rw[uX (by omega) (by omega),show (k:Int)-1=((k-1:Nat):Int) by omega,uO (by omega)]
theorem Rb {l:List uF} (hn:l.length<9223372036854775807):fP l=some (zZ l):=by
 unfold fP zZ;have h:=yC (n:=l.length) (c:=λi=>(at? l i).bind λx10=>(cZ x10).bind λt13=>(cond (!t13) (some true) ((cond (decide (i>0)) ((at? l (uB (i-1))).bind λx23=>(at? l (uB (i-1))).bind λx29=>(ej x10 x23.1 x29.2.1).bind λt32=>some (!t32)) (some false)).bind λt34=>some t34)).bind λt=>some t) (b:=A3 l) hn (λk hk=>by
  simp only[uO hk,an,IS,A3,List.getElem?_eq_getElem hk];cases xx l[k]with
  | false=>rfl
  | true =>
   by_cases h0:0<k
   · have hd:decide ((k:Int)>0)=true:=dT (by omega);simp only[hd,Cz hk h0 hn,an,KK,dT h0,List.getElem?_eq_getElem (show k-1<l.length by omega)];rfl
   · have hd:decide ((k:Int)>0)=false:=dF (by omega);simp only[hd,dF h0];rfl)
 have e:(loop (λz=>jj l z) 0)=some (cond ((List.range l.length).any (A3 l)) (Sum.inr false) (Sum.inl ())):=by
  rw[←h];refine xo (λi=>?_) 0;unfold jj;simp only[Option.bind_assoc,an]
 rw[e,an];cases (List.range l.length).any (A3 l)<;>rfl
theorem Rc {l:List uF} (hn:l.length<9223372036854775807):cB l=some (zZ l):=by
 unfold cB zZ;have h:=yC (n:=l.length) (c:=λi=>(at? l i).bind λx12=>(cC x12).bind λt14=>(cond (!t14) (some true) ((cond (decide (i>0)) ((at? l (uB (i-1))).bind λx23=>(at? l i).bind λx27=>(at? l i).bind λx32=>(bU x23 x27.1 x32.2.1).bind λt35=>some (!t35)) (some false)).bind λt37=>some t37)).bind λt=>some t) (b:=A3 l) hn (λk hk=>by
  simp only[uO hk,an,Pb,IS,A3,List.getElem?_eq_getElem hk];cases xx l[k]with
  | false=>rfl
  | true =>
   by_cases h0:0<k
   · have hd:decide ((k:Int)>0)=true:=dT (by omega);simp only[hd,Cz hk h0 hn,an,Ra,dT h0,List.getElem?_eq_getElem (show k-1<l.length by omega)];rfl
   · have hd:decide ((k:Int)>0)=false:=dF (by omega);simp only[hd,dF h0];rfl)
 have e:(loop (λz=>jp l z) 0)=some (cond ((List.range l.length).any (A3 l)) (Sum.inr false) (Sum.inl ())):=by
  rw[←h];refine xo (λi=>?_) 0;unfold jp;simp only[Option.bind_assoc,an]
 rw[e,an];cases (List.range l.length).any (A3 l)<;>rfl

theorem Re:bp=aj:=rfl
theorem Nr {v:vv} (hn:v.1.length<9223372036854775807) (id:Int):∃r,aj v id=some r:=by
 unfold aj;obtain⟨b,h1,_⟩:=uS (β:=Unit⊕Int) (step:=λz=>aJ v id z) (λk i=>i=(k:Int)) v.1.length (λ_=>True)
  (λk i hk h=>by
   subst h;unfold aJ;rw[vj (by omega),cT,uO hk,an];cases (v.1[k].1==id)with
   | true=>exact .inr ⟨_,rfl,trivial⟩
   | false=>exact .inl ⟨_,rfl,uL (by omega)⟩)
  (λi h=>by
   subst h;unfold aJ;rw[vd (by omega)];exact⟨_,rfl,trivial⟩) (x:=0) rfl
 rw[h1,an];cases b with
 | inl _=>exact⟨_,rfl⟩
 | inr r=>exact⟨r,rfl⟩
def wW (i:Int):Int:=(2:Int)^i.toNat-1
theorem Hq {i:Int} (h:uE i 1 6=true):i=1\/i=2\/i=3\/i=4\/i=5\/i=6:=by
 unfold uE at h;simp only[aT,decide_eq_true_eq]at h;omega
theorem Iz {i:Int} (h:uE i 1 6=true):fQ i=some (wW i):=by
 rcases Hq h with rfl|rfl|rfl|rfl|rfl|rfl<;>rfl
theorem M3 {i:Int} (h:uE i 1 6=true):∃t,shl .i64 1 (IntKind.u64.wrap i)=some t/\uB (t-1)=wW i:=by
 rcases Hq h with rfl|rfl|rfl|rfl|rfl|rfl<;>exact⟨_,rfl,rfl⟩
theorem IT {i:Int} (h:uE i 1 6=true):1<=wW i/\wW i<=63:=by
 rcases Hq h with rfl|rfl|rfl|rfl|rfl|rfl<;>decide
theorem Hr (x:BitVec 64):IntKind.i64.wrap (x.toNat:Int)=x.toInt:=by
 have hx:=x.isLt;rw[BitVec.toInt_eq_toNat_cond];show (let m:=(x.toNat:Int)%18446744073709551616;if (true&&decide (m>=9223372036854775808))=true then m-18446744073709551616 else m)=_
 simp only[Bool.true_and,decide_eq_true_eq];have h1:(x.toNat:Int)%18446744073709551616=(x.toNat:Int):=by omega
 rw[h1];split<;>split<;>omega
theorem BS {b:Int} (h1:-9223372036854775808<=b) (h2:b<=9223372036854775807):(BitVec.ofInt 64 b).toInt=b:=by
 rw[BitVec.toInt_ofInt];unfold Int.bmod;simp only;split<;>omega
theorem IU (a b:Int):xO .i64 a b=(BitVec.ofInt 64 a&&&BitVec.ofInt 64 b).toInt:=Hr _
theorem So (a b:Int):Dw .i64 a b=(BitVec.ofInt 64 a &&& ~~~ BitVec.ofInt 64 b).toInt:=Hr _
theorem KL (x y:BitVec 64):x&&&y=x↔x &&& ~~~ y=0:=by
 constructor
 · intro h;apply BitVec.eq_of_getLsbD_eq;intro i hi;have:=congrArg (λz=>z.getLsbD i) h
   simp only[BitVec.getLsbD_and]at this;simp only[BitVec.getLsbD_and,BitVec.getLsbD_not,BitVec.getLsbD_zero,hi,decide_true,Bool.true_and];cases hx:x.getLsbD i<;>cases hy:y.getLsbD i<;>simp_all
 · intro h;apply BitVec.eq_of_getLsbD_eq;intro i hi;have:=congrArg (λz=>z.getLsbD i) h
   simp only[BitVec.getLsbD_and,BitVec.getLsbD_not,BitVec.getLsbD_zero,hi,decide_true,Bool.true_and]at this;simp only[BitVec.getLsbD_and];cases hx:x.getLsbD i<;>cases hy:y.getLsbD i<;>simp_all
theorem IA {b m:Int} (h1:-9223372036854775808<=b) (h2:b<=9223372036854775807):(xO .i64 b m != b)=(Dw .i64 b m != 0):=by
 rw[IU,So];have e:((BitVec.ofInt 64 b&&&BitVec.ofInt 64 m).toInt=b)↔((BitVec.ofInt 64 b &&& ~~~ BitVec.ofInt 64 m).toInt=0):=by
  constructor
  · intro h;have:BitVec.ofInt 64 b&&&BitVec.ofInt 64 m=BitVec.ofInt 64 b:=BitVec.eq_of_toInt_eq (by rw[h,BS h1 h2])
    rw[(KL _ _).1 this];rfl
  · intro h;have:BitVec.ofInt 64 b &&& ~~~ BitVec.ofInt 64 m=0:=BitVec.eq_of_toInt_eq (by rw[h];rfl)
    rw[(KL _ _).2 this,BS h1 h2]
 by_cases h:(BitVec.ofInt 64 b&&&BitVec.ofInt 64 m).toInt=b
 · have h':=e.1 h;simp[h,h']
 · have h':¬(BitVec.ofInt 64 b &&& ~~~ BitVec.ofInt 64 m).toInt=0:=λk=>h (e.2 k);rw[bne_iff_ne.2 h,bne_iff_ne.2 h']
theorem KM {b m t:Int} (h1:-9223372036854775808<=b) (h2:b<=9223372036854775807) (hm:uE m 0 t=true) (ht:t<=63) (h:(xO .i64 b m != b)=false):uE b 0 t=true:=by
 unfold uE at hm ⊢;simp only[aT,decide_eq_true_eq]at hm ⊢;have h:xO .i64 b m=b:=by simpa using h
 rw[IU]at h;have e:BitVec.ofInt 64 b&&&BitVec.ofInt 64 m=BitVec.ofInt 64 b:=BitVec.eq_of_toInt_eq (by rw[h,BS h1 h2])
 have hM:(BitVec.ofInt 64 m).toNat=m.toNat:=by
  rw[BitVec.toNat_ofInt];omega
 have hle:(BitVec.ofInt 64 b).toNat<=m.toNat:=by
  rw[←e,BitVec.toNat_and,hM];exact Nat.and_le_right
 have hb:(BitVec.ofInt 64 b).toInt=((BitVec.ofInt 64 b).toNat:Int):=by
  rw[BitVec.toInt_eq_toNat_cond];split<;>omega
 rw[BS h1 h2]at hb;omega
def B0 (v:vv) (i:Int) (k:Nat):Bool:=match v.1[k]? with
 | some r=>!(uE r.1 1 99)||((decide (0<k)&&(match v.1[k-1]? with|some p=>decide (p.1>=r.1)|none=>false))||(!(uE r.2.1 0 (wW i))||(Dw .i64 r.2.2 r.2.1 != 0)))
 | none=>false
noncomputable def Co (v:vv) (k:Nat):Bool:=match v.2[k]? with
 | some x=>(match aj v x with|some t=>decide (t<0)|none=>false)
 | none=>false
noncomputable def xI (v:vv) (i:Int):Bool:=!(!(uE i 1 6)||((v.2.length:Int) != i||decide ((v.1.length:Int)>6)))&&(!((List.range v.1.length).any (B0 v i))&&!((List.range v.2.length).any (Co v)))
theorem Ns {v:vv} {i:Int} (hi:uE i 1 6=true) (hn:v.1.length<9223372036854775807):loop (λz=>jk v i z) 0=some (cond ((List.range v.1.length).any (B0 v i)) (Sum.inr false) (Sum.inl ())):=by
 rw[←yC (n:=v.1.length) (c:=λt28=>(at? v.1 t28).bind λx31 =>
  (ac x31.1 1 99).bind λt35 =>
  (cond (!t35) (some true) ((cond (decide (t28>0)) ((at? v.1 (uB (t28-1))).bind λx45=>some (decide (x45.1>=x31.1))) (some false)).bind λt51=>some t51)).bind λt52 =>
  (cond t52 (some true) ((fQ i).bind λt57=>(ac x31.2.1 0 t57).bind λt58=>some (!t58))).bind λt60 =>
  (cond t60 (some true) (some ((Dw .i64 x31.2.2 x31.2.1) != 0))).bind λt=>some t) (b:=B0 v i) hn (λk hk=>by
   simp only[uO hk,an,xU,B0,List.getElem?_eq_getElem hk,Iz hi];cases uE v.1[k].1 1 99 with
   | false=>rfl
   | true =>
    by_cases h0:0<k
    · have hd:decide ((k:Int)>0)=true:=dT (by omega);simp only[hd,Cz hk h0 hn,an,dT h0,List.getElem?_eq_getElem (show k-1<v.1.length by omega)];cases decide (v.1[k-1].1>=v.1[k].1)<;>cases uE v.1[k].2.1 0 (wW i)<;>rfl
    · have hd:decide ((k:Int)>0)=false:=dF (by omega);simp only[hd,dF h0];cases uE v.1[k].2.1 0 (wW i)<;>rfl)]
 refine xo (λi=>?_) 0;unfold jk;simp only[Option.bind_assoc,an]
theorem M4 {v:vv} {i t:Int} (hi:uE i 1 6=true) (ht:uB (t-1)=wW i) (hn:v.1.length<9223372036854775807) (hw:∀r∈v.1,-9223372036854775808<=r.2.2/\r.2.2<=9223372036854775807):loop (λz=>jq v t z) 0=some (cond ((List.range v.1.length).any (B0 v i)) (Sum.inr false) (Sum.inl ())):=by
 rw[←yC (n:=v.1.length) (c:=λt6=>(at? v.1 t6).bind λx39 =>
  (ae x39.1 1 99).bind λt43 =>
  (cond (!t43) (some true) ((ae x39.2.1 0 (uB (t-1))).bind λt49=>some (!t49))).bind λt51 =>
  (cond t51 (some true) ((ae x39.2.2 0 (uB (t-1))).bind λt56=>some (!t56))).bind λt58 =>
  (cond t58 (some true) (some ((xO .i64 x39.2.2 x39.2.1) != x39.2.2))).bind λt68 =>
  (cond t68 (some true) ((cond (decide (t6>0)) ((at? v.1 (uB (t6-1))).bind λx77=>some (decide (x77.1>=x39.1))) (some false)).bind λt83=>some t83)).bind λt=>some t) (b:=B0 v i) hn (λk hk=>by
   obtain⟨w1,w2⟩:=hw _ (getElem_mem hk);have hs:=IA (m:=v.1[k].2.1) w1 w2
   have hin:=KM (m:=v.1[k].2.1) (t:=wW i) w1 w2;have ht2:=(IT hi).2
   simp only[uO hk,an,Al,B0,List.getElem?_eq_getElem hk,ht];rw[←hs];cases h1:uE v.1[k].1 1 99 with
   | false=>rfl
   | true =>
    cases h2:uE v.1[k].2.1 0 (wW i)with
    | false =>
     by_cases h0:0<k
     · simp only[dT h0,List.getElem?_eq_getElem (show k-1<v.1.length by omega)];cases decide (v.1[k-1].1>=v.1[k].1)<;>rfl
     · simp only[dF h0];rfl
    | true =>
     cases h3:(xO .i64 v.1[k].2.2 v.1[k].2.1 != v.1[k].2.2)with
     | true =>
      by_cases h0:0<k
      · simp only[dT h0,List.getElem?_eq_getElem (show k-1<v.1.length by omega)];cases decide (v.1[k-1].1>=v.1[k].1)<;>cases uE v.1[k].2.2 0 (wW i)<;>rfl
      · simp only[dF h0];cases uE v.1[k].2.2 0 (wW i)<;>rfl
     | false =>
      have h4:=hin h2 ht2 h3;rw[h4];by_cases h0:0<k
      · have hd:decide ((k:Int)>0)=true:=dT (by omega);simp only[hd,Cz hk h0 hn,an,dT h0,List.getElem?_eq_getElem (show k-1<v.1.length by omega)];cases decide (v.1[k-1].1>=v.1[k].1)<;>rfl
      · have hd:decide ((k:Int)>0)=false:=dF (by omega);simp only[hd,dF h0];rfl)]
 refine xo (λi=>?_) 0;unfold jq;simp only[Option.bind_assoc,an]
theorem IB {v:vv} (hn:v.1.length<9223372036854775807) (hn2:v.2.length<9223372036854775807):loop (λz=>ii v z) 0=some (cond ((List.range v.2.length).any (Co v)) (Sum.inr false) (Sum.inl ())):=by
 rw[←yC (n:=v.2.length) (c:=λt73=>(at? v.2 t73).bind λx75=>(aj v x75).bind λt79=>some (decide (t79<0))) (b:=Co v) hn2 (λk hk=>by
  obtain⟨r,hr⟩:=Nr hn v.2[k];simp only[uO hk,an,Co,List.getElem?_eq_getElem hk,hr])]
 refine xo (λi=>?_) 0;unfold ii;simp only[Option.bind_assoc,an]
theorem Sp:oR=ii:=rfl
theorem Pc {v:vv} (i:Int) (hn:v.1.length<9223372036854775807) (hn2:v.2.length<9223372036854775807):em v i=some (xI v i):=by
 unfold em xI;simp only[xU,an];cases hi:uE i 1 6 with
 | false=>rfl
 | true =>
  rw[Ns hi hn,IB hn hn2];cases ((v.2.length:Int) != i)<;>cases decide ((v.1.length:Int)>6)<;>cases (List.range v.1.length).any (B0 v i)<;>cases (List.range v.2.length).any (Co v)<;>rfl
theorem M5 {v:vv} (i:Int) (hn:v.1.length<9223372036854775807) (hn2:v.2.length<9223372036854775807) (hw:∀r∈v.1,-9223372036854775808<=r.2.2/\r.2.2<=9223372036854775807):aP v i=some (xI v i):=by
 unfold aP xI;simp only[Al,an,Sp];cases hi:uE i 1 6 with
 | false=>rfl
 | true =>
  obtain⟨t,h1,h2⟩:=M3 hi;rw[h1,an,M4 hi h2 hn hw,IB hn hn2];cases ((v.2.length:Int) != i)<;>cases decide ((v.1.length:Int)>6)<;>cases (List.range v.1.length).any (B0 v i)<;>cases (List.range v.2.length).any (Co v)<;>rfl
def CZ (l:List Pt) (k:Nat):Bool:=match l[k]? with|some p=>!(zl p)|none=>false
def xa (b:uz):Bool:=uE b.2.2.2.2.2.2.1 0 1000000&&(uE b.2.2.2.2.2.2.2.1 0 1000000&&(uE b.2.2.2.2.2.2.2.2.1 0 1000000&&(uE b.2.2.2.2.2.2.2.2.2.1 0 1000000&&uE b.2.2.2.2.2.2.2.2.2.2 0 1000000)))
noncomputable def vk (b:uz):Bool:=!((List.range b.2.2.1.length).any (CZ b.2.2.1))&&(uE b.1 1 99&&(!(decide ((b.2.1.length:Int)>10))&&(uE (b.2.2.1.length:Int) 1 6&&(zZ b.2.2.2.1&&(xI (b.2.2.2.2.1,b.2.2.2.2.2.1) (b.2.2.1.length:Int)&&xa b)))))
structure xt (b:uz):Prop where
 p:b.2.2.1.length<9223372036854775807
 f:b.2.2.2.1.length<9223372036854775807
 v:b.2.2.2.2.1.length<9223372036854775807
 q:b.2.2.2.2.2.1.length<9223372036854775807
 r:∀r∈b.2.2.2.2.1,-9223372036854775808<=r.2.2/\r.2.2<=9223372036854775807
theorem M6 {b:uz} (h:xt b):loop (λz=>jl b z) 0=some (cond ((List.range b.2.2.1.length).any (CZ b.2.2.1)) (Sum.inr false) (Sum.inl ())):=by
 rw[←yC (n:=b.2.2.1.length) (c:=λt8=>(at? b.2.2.1 t8).bind λx10=>(fO x10).bind λt13=>some (!t13)) (b:=CZ b.2.2.1) h.p (λk hk=>by
  simp only[uO hk,an,CZ,List.getElem?_eq_getElem hk,TZ])]
 refine xo (λi=>?_) 0;unfold jl;simp only[Option.bind_assoc,an]
theorem Kl {b:uz} (h:xt b):loop (λz=>jr b z) 0=some (cond ((List.range b.2.2.1.length).any (CZ b.2.2.1)) (Sum.inr false) (Sum.inl ())):=by
 rw[←yC (n:=b.2.2.1.length) (c:=λt8=>(at? b.2.2.1 t8).bind λx10=>(gn x10).bind λt13=>some (!t13)) (b:=CZ b.2.2.1) h.p (λk hk=>by
  simp only[uO hk,an,CZ,List.getElem?_eq_getElem hk,U0])]
 refine xo (λi=>?_) 0;unfold jr;simp only[Option.bind_assoc,an]
theorem Q8 (b:uz):iN b=some (xa b):=by
 unfold iN xa;simp only[Al,an];cases uE b.2.2.2.2.2.2.1 0 1000000<;>cases uE b.2.2.2.2.2.2.2.1 0 1000000<;>cases uE b.2.2.2.2.2.2.2.2.1 0 1000000<;>cases uE b.2.2.2.2.2.2.2.2.2.1 0 1000000<;>rfl
theorem Nt (n:Int):bt n=some (uE n 0 1000000):=by unfold bt;rw[xU,an]
theorem yQ {b:uz} (h:xt b):aS b=some (vk b):=by
 unfold aS vk xa;rw[M6 h,an];cases (List.range b.2.2.1.length).any (CZ b.2.2.1)with
 | true=>rfl
 | false =>
  simp only[cF,Sum.elim_inl,xU,Rb h.f,Pc (v:=(b.2.2.2.2.1,b.2.2.2.2.2.1)) _ h.v h.q,Nt,an];cases uE b.1 1 99<;>cases decide ((b.2.1.length:Int)>10)<;>cases uE (b.2.2.1.length:Int) 1 6<;>cases zZ b.2.2.2.1<;>cases xI (b.2.2.2.2.1,b.2.2.2.2.2.1) (b.2.2.1.length:Int) <;>
   cases uE b.2.2.2.2.2.2.1 0 1000000<;>cases uE b.2.2.2.2.2.2.2.1 0 1000000<;>cases uE b.2.2.2.2.2.2.2.2.1 0 1000000<;>cases uE b.2.2.2.2.2.2.2.2.2.1 0 1000000<;>rfl
theorem AD {b:uz} (h:xt b):aN b=some (vk b):=by
 unfold aN vk;rw[Kl h,an];cases (List.range b.2.2.1.length).any (CZ b.2.2.1)with
 | true=>rfl
 | false =>
  have e:decide ((b.2.1.length:Int)<=10)=!(decide ((b.2.1.length:Int)>10)):=by
   by_cases hh:(b.2.1.length:Int)>10
   · rw[dT hh,dF (by omega)];rfl
   · rw[dF hh,dT (by omega)];rfl
  simp only[cF,Sum.elim_inl,Al,Rc h.f,M5 (v:=(b.2.2.2.2.1,b.2.2.2.2.2.1)) _ h.v h.q h.r,Q8,an,e];cases uE b.1 1 99<;>cases decide ((b.2.1.length:Int)>10)<;>cases uE (b.2.2.1.length:Int) 1 6<;>cases zZ b.2.2.2.1<;>cases xI (b.2.2.2.2.1,b.2.2.2.2.2.1) (b.2.2.1.length:Int)<;>cases xa b<;>rfl
theorem Pd:gt=eC:=rfl
theorem Pe (a b:Ah):∃r,eC a b=some r:=by
 unfold eC;cases (a.1 != b.1)<;>cases (a.2.1 != b.2.1)<;>cases (a.2.2.2.1 != b.2.2.2.1)<;>exact⟨_,rfl⟩
theorem Sq:iR=fY:=rfl
theorem Sr (v:Ah) (c:Int):∃r,fY v c=some r:=by
 unfold fY;simp only[M2,xU,an];cases DK v<;>cases uE c 1 1000<;>first|exact⟨_,rfl⟩|skip
 generalize DK (v.1,uB (v.2.1+c),uB (v.2.2.1+1),v.2.2.2.1,v.2.2.2.2)=q;cases q<;>exact⟨_,rfl⟩
theorem Ss (p0:Int) (l:List Pt) (t8 t9 b0 b1 b2 b3 b4 c0 c1 c2 c3 c4:Int):iS p0 l t8 t9 b0 b1 b2 b3 b4 c0 c1 c2 c3 c4=eD p0 l t8 t9 b0 b1 b2 b3 b4 c0 c1 c2 c3 c4:=by
 unfold iS eD;rw[Sq,Pd];cases h:at? l t9 with
 | none=>rfl
 | some x=>simp only[an]
theorem Pf:fi=bM:=by
 funext p0 l
 unfold fi bM;rw[xo (λz=>Ss p0 l _ _ _ _ _ _ _ _ _ _ _ _)]
theorem Su (p0:Int) {l:List Pt} (hn:l.length<9223372036854775807):∃r,bM p0 l=some r:=by
 unfold bM;obtain⟨b,h1,_⟩:=uS (step:=λz:Int×Int×Int×Int×Int×Int×Int×Int×Int×Int×Int×Int=>eD p0 l z.1 z.2.1 z.2.2.1 z.2.2.2.1 z.2.2.2.2.1 z.2.2.2.2.2.1 z.2.2.2.2.2.2.1 z.2.2.2.2.2.2.2.1 z.2.2.2.2.2.2.2.2.1 z.2.2.2.2.2.2.2.2.2.1 z.2.2.2.2.2.2.2.2.2.2.1 z.2.2.2.2.2.2.2.2.2.2.2)
  (λk z=>z.2.1=(k:Int)) l.length (λ_=>True)
  (λk z hk h=>by
   left;obtain⟨t7,t18,b0,b1,b2,b3,b4,c0,c1,c2,c3,c4⟩:=z;obtain rfl:t18=(k:Int):=h;unfold eD;simp only[vj (show (k:Int)<(l.length:Int) by omega),cT,uO hk,an];rw[show uB ((k:Int)+1)=((k+1:Nat):Int)from uL (by omega)];generalize l[k]=x;have e:(cond (!x.1) (some true) (some (!x.2.2.1)):Option Bool)=some (cond (!x.1) true (!x.2.2.1)):=by cases x.1<;>rfl
   rw[e,an];cases (cond (!x.1) true (!x.2.2.1))with
   | true=>exact⟨_,rfl,rfl⟩
   | false =>
    obtain⟨r,hr⟩:=Sr x.2.2.2 x.2.1;obtain⟨q,hq⟩:=Pe r.1 (c0,c1,c2,c3,c4);rw[cF,hr,an,hq];cases r.2<;>cases decide (r.1.1<p0)<;>cases decide (t7<0)<;>cases q<;>exact⟨_,rfl,rfl⟩)
  (λz h=>by
   obtain⟨t7,t18,b0,b1,b2,b3,b4,c0,c1,c2,c3,c4⟩:=z;obtain rfl:t18=(l.length:Int):=h;unfold eD;simp only[vd (show ¬(l.length:Int)<(l.length:Int) by omega),cF];exact⟨_,rfl,trivial⟩) (x:=((-1),0,p0,0,0,p0,0,0,0,0,0,0)) rfl
 rw[h1,an];exact⟨_,rfl⟩
theorem Ts:gu=fZ:=by
 funext id l p
 unfold gu fZ;rw[Pf]
theorem Pg:fj=aY:=by
 funext id l p
 unfold fj aY;rw[Pf,Ts,Pd];rfl
theorem M7 (id:Int) {l:List Pt} (hn:l.length<9223372036854775807) (p:Int):∃r,aY id l p=some r:=by
 obtain⟨v,hv⟩:=Su id hn;unfold aY fZ;simp only[xU,an,hv];rw[show uB ((l.length:Int)-1)=(l.length:Int)-1 from uX (by omega) (by omega)];cases hp:uE p 0 ((l.length:Int)-1)with
 | false=>exact⟨_,rfl⟩
 | true =>
  unfold uE at hp;simp only[aT,decide_eq_true_eq]at hp;obtain⟨k,rfl⟩:∃k:Nat,p=(k:Int):=⟨p.toNat,by omega⟩;simp only[uO (show k<l.length by omega),an];generalize l[k]'(by omega)=x;obtain⟨q,hq⟩:=Pe (v.1.1,v.1.2.1,v.1.2.2.1,v.1.2.2.2.1,(k:Int)) x.2.2.2;rw[hq];cases x.1<;>cases (v.2==(k:Int))<;>cases x.2.2.1<;>cases q<;>exact⟨_,rfl⟩
theorem Sv (b:uz) (c p:Int):gv b c p=cn b c p:=by
 unfold gv cn fX;rw[Pg];cases at? b.2.2.1 p with
 | none=>rfl
 | some x=>simp only[an];cases x.1<;>rfl
theorem GE {α:Type} (out:List uC) (name:List Int) (n:Int) (f:List uC->Option α):((bg n).bind λv=>(aL v name).bind λt=>(uV out [t]).bind f)=(al out name n).bind f:=by
 unfold bg aL al ah ai;simp only[an,Option.bind_assoc]
theorem Ov (b:uz) (c i:Int) (out:List uC):iU b c i out=bN b c i out:=by
 unfold iU bN;simp only[Sv,GE]
theorem Tt {r:uQ} {c:Int} (h:1<=c/\c<=3):((ix [1,r.2.1,r.2.2].length (uB (c-1))).bind λj=>([1,r.2.1,r.2.2][j]?).bind λx=>some x)=iT r c:=by
 have:c=1\/c=2\/c=3:=by omega
 rcases this with rfl|rfl|rfl<;>rfl
theorem Q9 (b:uz) {c:Int} (h:1<=c/\c<=3) (i:Int) (out:List uC):iW b c i out=bO b c i out:=by
 unfold iW bO;cases hr:at? b.2.2.2.2.1 i with
 | none=>rfl
 | some r =>
  simp only[an,←Tt (r:=r) h,Option.bind_assoc,GE]
theorem Rf (b:uz) (i:Int) (out:List uC):iX b i out=bz b i out:=by
 unfold iX bz;cases hr:at? b.2.2.2.1 i with
 | none=>rfl
 | some r=>simp only[an,GE]
theorem Sw (b:uz) (c:Int) (out:List uC):iV b c out=co b c out:=by
 unfold iV co;rw[xo (λz=>Ov b c _ _)]
theorem Sx (b:uz) {c:Int} (h:1<=c) (out:List uC):fk b c out=cp b c out:=by
 unfold fk cp;by_cases h3:c<=3
 · rw[xo (λz=>Q9 b ⟨h,h3⟩ _ _)]
 · rw[dF h3];rfl
theorem M8 (b:uz) {c:Int} {out:List uC} {y:Int×List uC} (h:1<=c) (e:fk b c out=some (.inl y)):1<=y.1:=by
 unfold fk at e;by_cases h3:c<=3
 · rw[dT h3,cT,Option.bind_eq_some_iff]at e;obtain⟨d,_,e⟩:=e;cases e;show 1<=uB (c+1)
   rw[uX (by omega) (by omega)];omega
 · rw[dF h3]at e;cases e
def B1 (b:uz):List uC:=[([1,3,1,1,1],4,0,b.2.1,[]),([1,3,1,1,2],2,b.2.2.2.2.2.2.1,[],[]),([1,3,1,1,3],2,b.2.2.2.2.2.2.2.1,[],[]),([1,3,1,1,4],2,b.2.2.2.2.2.2.2.2.1,[],[]),([1,3,1,1,5],2,b.2.2.2.2.2.2.2.2.2.1,[],[])]
theorem Tu (b:uz):aL (4,0,b.2.1,[]) ([1,1]:List Int)=some ([1,3,1,1,1],4,0,b.2.1,[]):=by kernel_rfl
theorem Tv (b:uz):yn (λz=>nH b z.1 z.2) 5 (0,[([1,3,1,1,1],4,0,b.2.1,[])])=some (B1 b):=by kernel_rfl
theorem Tw (b:uz):((ah ([1,1]:List Int)).bind λt14=>(al ([(t14,4,0,b.2.1,[])]) ([1,2]:List Int) b.2.2.2.2.2.2.1).bind λt24=>(al t24 ([1,3]:List Int) b.2.2.2.2.2.2.2.1).bind λt29 =>
 (al t29 ([1,4]:List Int) b.2.2.2.2.2.2.2.2.1).bind λt34=>(al t34 ([1,5]:List Int) b.2.2.2.2.2.2.2.2.2.1))=some (B1 b):=by kernel_rfl
noncomputable def FX (b:uz) (l:List uC):Option (List uC) :=
 (loop (λz=>co b z.1 z.2) (1,l)).bind λd_2 =>
  (loop (λz=>cp b z.1 z.2) (1,d_2)).bind λd_4 =>
  (loop (λz=>bz b z.1 z.2) (0,d_4)).bind λd_5 =>
  some d_5
theorem Rg {b:uz} (h:xt b):bP b=cond (!(vk b)) (some []) (FX b (B1 b)):=by
 unfold bP;rw[yQ h,an,Tu,an,zV (Tv b),an];rfl
theorem Rh {b:uz} (h:xt b):cG b=cond (!(vk b)) (some []) (FX b (B1 b)):=by
 unfold cG;rw[AD h,an];have hc:=Tw b
 have e:∀{α:Type} (f:List uC->Option α),((ah ([1,1]:List Int)).bind λt14=>(al ([(t14,4,0,b.2.1,[])]) ([1,2]:List Int) b.2.2.2.2.2.2.1).bind λt24=>(al t24 ([1,3]:List Int) b.2.2.2.2.2.2.2.1).bind λt29 =>
  (al t29 ([1,4]:List Int) b.2.2.2.2.2.2.2.2.1).bind λt34=>(al t34 ([1,5]:List Int) b.2.2.2.2.2.2.2.2.2.1).bind f)=f (B1 b):=by
  intro α f;have:((ah ([1,1]:List Int)).bind λt14=>(al ([(t14,4,0,b.2.1,[])]) ([1,2]:List Int) b.2.2.2.2.2.2.1).bind λt24=>(al t24 ([1,3]:List Int) b.2.2.2.2.2.2.2.1).bind λt29 =>
   (al t29 ([1,4]:List Int) b.2.2.2.2.2.2.2.2.1).bind λt34=>(al t34 ([1,5]:List Int) b.2.2.2.2.2.2.2.2.2.1)).bind f=f (B1 b):=by rw[hc,an]
  rw[←this];simp only[Option.bind_assoc]
 rw[e]
 congr 1
 unfold FX;rw[xo (λz=>Sw b _ _)]
 congr 1
 funext d
 rw[Hp (λz:Int×List uC=>1<=z.1) (λz hz=>Sx b hz _) (λz y hz e=>M8 b hz e) (show (1:Int)<=1 by omega)]
 congr 1
 funext d
 rw[xo (λz=>Rf b _ _)]
theorem GF {b:uz} (h:xt b):cG b=bP b:=by rw[Rh h,Rg h]

theorem Sy {b:uz} (h:xt b) (c:Int) {k:Nat} (hk:k<b.2.2.1.length) (hq:b.2.2.1.length=b.2.2.2.2.2.1.length):∃n,cn b c (k:Int)=some n:=by
 obtain⟨r,hr⟩:=M7 b.1 h.p (k:Int);unfold cn fX;rw[uO hk,uO (show k<b.2.2.2.2.2.1.length by omega),hr];simp only[an];cases (c==1)<;>cases (c==2)<;>cases (c==3)<;>cases (b.2.2.1[k]).1<;>exact⟨_,rfl⟩
theorem Qa {α:Type} {xs ys:List α} (h:xs.length+ys.length<=4294967296):uV xs ys=some (xs++ys):=by
 unfold uV;rw[if_pos (show xs.length+ys.length<=CB from h)]
noncomputable def A4 (id:Int) (l:List Pt) (p:Int):Int:=(aY id l p).getD 0
theorem ED (id:Int) {l:List Pt} (hn:l.length<9223372036854775807) (p:Int):aY id l p=some (A4 id l p):=by
 obtain⟨r,hr⟩:=M7 id hn p;unfold A4;rw[hr];rfl
def M9 (l:List Int) (x:Int):Bool:=decide (x∈l)
def BT (b:Nat->Bool) (m:Nat):List Int:=((List.range m).filter b).map λ(k:Nat)=>(k:Int)
theorem Ow (b:Nat->Bool) (m:Nat):(BT b m).length<=m:=by
 unfold BT;rw[length_map];exact Nat.le_trans (List.length_filter_le _ _) (by simp)
theorem Ma (b:Nat->Bool) (m:Nat):BT b (m+1)=cond (b m) (BT b m++[(m:Int)]) (BT b m):=by
 unfold BT;rw[range_succ,List.filter_append,map_append];cases h:b m<;>simp[h]
theorem As {n:Nat} {c:Int->Option Bool} {b:Nat->Bool} (hn:n<=1048576) (hc:∀k,k<n->c (k:Int)=some (b k)) :
 loop (λz:Int×List Int=>cond (decide (z.1<(n:Int))) ((c z.1).bind λt=>cond t ((uV z.2 [z.1]).bind λzs=>some (.inl (uB (z.1+1),zs))) (some (.inl (uB (z.1+1),z.2)))) (some (.inr z.2))) (0,([]:List Int))=some (BT b n):=by
 obtain⟨v,h1,rfl⟩:=uS (step:=λz:Int×List Int=>cond (decide (z.1<(n:Int))) ((c z.1).bind λt=>cond t ((uV z.2 [z.1]).bind λzs=>some (.inl (uB (z.1+1),zs))) (some (.inl (uB (z.1+1),z.2)))) (some (.inr z.2))) (λk z=>z.1=(k:Int)/\z.2=BT b k) n (λl=>l=BT b n)
  (λk z hk ⟨e1,e2⟩=>by
   obtain⟨i,l⟩:=z;simp only at e1 e2;subst e1 e2;left;have hle:=Ow b k
   refine⟨(uB ((k:Int)+1),BT b (k+1)),?_,uL (by omega),rfl⟩;simp only[vj (show (k:Int)<(n:Int) by omega),cT,hc k hk,an];rw[Ma];cases b k with
   | false=>rfl
   | true=>rw[cT,Qa (by simp;omega)];rfl)
  (λz ⟨e1,e2⟩=>by
   obtain⟨i,l⟩:=z;simp only at e1 e2;subst e1 e2;exact⟨_,by simp only[vd (show ¬(n:Int)<(n:Int) by omega),cF],rfl⟩) (x:=(0,[])) ⟨rfl,rfl⟩
 exact h1
def KN (l:List Bool):Nat:=l.count true
theorem Ri (l:List Bool):KN l<=l.length:=List.count_le_length
theorem Qb {l:List Bool} {i:Nat} (h:l[i]?=some false):KN (l.set i true)=KN l+1:=by
 obtain⟨hi,he⟩:=List.getElem?_eq_some_iff.1 h;unfold KN;rw[List.count_set hi,he];simp
theorem Rj {n:Nat} {i:Int} (h:uE i 0 ((n:Int)-1)=true):∃k:Nat,k<n/\i=(k:Int):=by
 unfold uE at h;simp only[aT,decide_eq_true_eq]at h;exact⟨i.toNat,by omega,by omega⟩
theorem Rk {n k:Nat} (h:k<n):uE (k:Int) 0 ((n:Int)-1)=true:=by
 unfold uE;rw[dT (by omega),dT (by omega)];rfl
structure JR (X:List Int) (l:List Bool):Prop where
 r:∀x∈X,∃k:Nat,k<l.length/\x=(k:Int)
 m:∀k,k<l.length->l[k]?=some (M9 X (k:Int))
 c:X.length=KN l
theorem JR.len {X:List Int} {l:List Bool} (h:JR X l):X.length<=l.length:=by rw[h.c];exact Ri l
theorem JR.add {X:List Int} {l:List Bool} (h:JR X l) {i:Nat} (hi:l[i]?=some false):JR (X++[(i:Int)]) (l.set i true):=by
 obtain⟨hi',he⟩:=List.getElem?_eq_some_iff.1 hi;refine⟨λx hx=>?_,λk hk=>?_,?_⟩
 · rw[length_set];rcases mem_append.1 hx with hx|hx
   · exact h.r x hx
   · simp at hx;exact⟨i,hi',hx⟩
 · rw[length_set]at hk;rw[List.getElem?_set];split
   · rename_i e;subst e;rw[show M9 (X++[(i:Int)]) (i:Int)=true from dT (by simp)]
   · rename_i e;rw[h.m k hk]
     congr 1
     unfold M9;apply decide_eq_decide.2;rw[mem_append,List.mem_singleton];constructor
     · exact .inl
     · rintro (h|h)
       · exact h
       · omega
 · rw[length_append,Qb hi,h.c];rfl
theorem JR.in {X:List Int} {l:List Bool} (h:JR X l) {x:Int} (hx:M9 X x=true):uE x 0 ((l.length:Int)-1)=true:=by
 obtain⟨k,hk,rfl⟩:=h.r x (of_decide_eq_true hx);exact Rk hk
def start (n:Nat) (b:Nat):List Bool:=(List.replicate n false).set b true
theorem Sz (id:Int) {l:List Pt} (hn:l.length<9223372036854775807) (p:Int):1<=A4 id l p:=by
 have h:=ED id hn p
 revert h
 generalize A4 id l p=v;unfold aY;rw[xU,an];intro h;have key:∀(o:Option Bool) (f:Bool->Option Int),(∀t x,f t=some x->1<=x)->o.bind f=some v->1<=v:=by
  intro o f hf h;cases o with
  | none=>cases h
  | some t=>exact hf t v h
 refine key _ _ (λt x hx=>?_) h;cases t with
 | true=>cases hx;decide
 | false =>
  rw[cF]at hx;cases hbv:bM id l with
  | none=>rw[hbv]at hx;cases hx
  | some w =>
   rw[hbv,an]at hx;cases hw:w.2==p with
   | true=>rw[hw]at hx;cases hx;decide
   | false =>
    rw[hw,cF]at hx;cases ha:at? l p with
    | none=>rw[ha]at hx;cases hx
    | some y =>
     rw[ha,an]at hx
     revert hx
     generalize (cond (!y.2.2.1) _ _:Option Bool)=o;intro hx;cases o with
     | none=>cases hx
     | some t=>cases t<;>(cases hx;decide)
theorem Hs {k:Nat} (h:k<64):IntKind.u64.wrap (k:Int)=(k:Int):=by
 show ((k:Int)%18446744073709551616)=_;omega
theorem SA:∀b:Fin 64,∀p:Fin 6,∃t c,shl .i64 1 (p.1:Int)=some t/\BU .i64 (b.1:Int) t=(c:Int)/\0<=c/\c<64:=by
 intro b p;have h:∀b:Fin 64,∀p:Fin 6,(decide (0<=BU .i64 (b.1:Int) (2^p.1))&&decide (BU .i64 (b.1:Int) (2^p.1)<64))=true:=by decide
 have h1:=h b p;simp only[aT,decide_eq_true_eq]at h1;have h2:∀p:Fin 6,shl .i64 1 (p.1:Int)=some (2^p.1):=by decide
 exact⟨_,_,h2 p,rfl,h1.1,h1.2⟩
theorem Rl {r:Int} (h:1<=r):decide (r<=2)=(r==1||r==2):=by
 by_cases h2:r<=2
 · rw[dT h2];rcases (show r=1\/r=2 by omega)with rfl|rfl<;>rfl
 · rw[dF h2,beq_eq_false_iff_ne.2 (show r≠1 by omega),beq_eq_false_iff_ne.2 (show r≠2 by omega)];rfl
theorem Ht (id:Int) {l:List Pt} (hn:l.length<9223372036854775807) (z:Int×Int) (hz:0<=z.2):fu id l z.1 z.2=bh id l z.1 z.2:=by
 unfold fu bh;rw[Pg,ED id hn,an];have hr:=Sz id hn z.2
 by_cases h1:z.2<(l.length:Int)
 · rw[vj h1,cT];by_cases h2:z.2<6
   · rw[vj h2,an,an,cT,cT,an,Rl hr];obtain⟨k,hk⟩:∃k:Nat,z.2=(k:Int):=⟨z.2.toNat,by omega⟩;rw[hk,Hs (by omega)];cases A4 id l (k:Int)==1<;>cases A4 id l (k:Int)==2<;>rfl
   · rw[vd h2];rfl
 · rw[vd h1];rfl
theorem Nu (id:Int) {l:List Pt} (hn:l.length<9223372036854775807):∃c:Nat,c<64/\ge id l=some (c:Int)/\gH id l=some (c:Int):=by
 obtain⟨v,h1,c,h2,rfl⟩:=uS (step:=λz:Int×Int=>bh id l z.1 z.2) (λk z=>z.2=(k:Int)/\∃c:Nat,c<64/\z.1=(c:Int)) (min l.length 6) (λv=>∃c:Nat,c<64/\v=(c:Int))
  (λk z hk ⟨e1,c,e2,e3⟩=>by
   obtain⟨b,i⟩:=z;simp only at e1 e3;subst e1 e3;left;have k6:k<6:=by omega
   obtain⟨t,d,b1,b2,b3,b4⟩:=SA ⟨c,e2⟩ ⟨k,k6⟩;have hs:bh id l (c:Int) (k:Int)=cond (A4 id l (k:Int)==1||A4 id l (k:Int)==2) (some (.inl ((d:Int),((k+1:Nat):Int)))) (some (.inl ((c:Int),((k+1:Nat):Int)))):=by
    unfold bh;rw[vj (show (k:Int)<(l.length:Int) by omega),vj (show (k:Int)<6 by omega),cT,an,cT,ED id hn,an,b1,an,b2,uL (by omega)];cases A4 id l (k:Int)==1<;>cases A4 id l (k:Int)==2<;>rfl
   show ∃y,bh id l (c:Int) (k:Int)=_/\_;rw[hs];cases (A4 id l (k:Int)==1||A4 id l (k:Int)==2)with
   | true=>exact⟨_,rfl,rfl,d.toNat,by omega,by show d=_;omega⟩
   | false=>exact⟨_,rfl,rfl,c,e2,rfl⟩)
  (λz ⟨e1,c,e2,e3⟩=>by
   obtain⟨b,i⟩:=z;simp only at e1 e3;subst e1 e3;refine⟨(c:Int),?_,c,e2,rfl⟩;show bh id l _ _=_
   unfold bh;by_cases h:l.length<=6
   · rw[Nat.min_eq_left h,vd (by omega)];rfl
   · rw[Nat.min_eq_right (by omega),vj (by omega),vd (show ¬(((6:Nat):Int)<6) by omega)];rfl) (x:=(0,0)) ⟨rfl,0,by omega,rfl⟩
 refine⟨c,h2,by unfold ge;rw[h1];rfl,?_⟩;unfold gH;rw[Hp (f:=λz:Int×Int=>fu id l z.1 z.2) (g:=λz:Int×Int=>bh id l z.1 z.2) (λz=>0<=z.2/\z.2<=9223372036854775806) (λz hz=>Ht id hn z hz.1) (λz y hz hy=>by
  have hy':fu id l z.1 z.2=some (.inl y):=hy;rw[Ht id hn z hz.1]at hy';unfold bh at hy';by_cases h1:z.2<(l.length:Int)
  · by_cases h2:z.2<6
    · rw[vj h1,vj h2,cT,an,cT,ED id hn,an]at hy';have hw:uB (z.2+1)=z.2+1:=uX (by omega) (by omega)
      rw[hw]at hy'
      revert hy'
      generalize (cond (A4 id l z.2==1) (some true) (some (A4 id l z.2==2)))=o;intro hy';cases o with
      | none=>cases hy'
      | some t =>
       rw[an]at hy';cases t with
       | false=>cases hy';exact⟨by show 0<=z.2+1;omega,by show z.2+1<=_;omega⟩
       | true =>
        rw[cT]at hy';cases hs:shl .i64 1 z.2 with
        | none=>rw[hs]at hy';cases hy'
        | some q=>rw[hs]at hy';cases hy';exact⟨by show 0<=z.2+1;omega,by show z.2+1<=_;omega⟩
    · rw[vj h1,vd h2]at hy';cases hy'
  · rw[vd h1]at hy';cases hy') (x:=(0,0)) ⟨by decide,by decide⟩,h1]
 rfl
structure CW (c:uM):Prop where
 p:0<=c.2.1
 n:c.1.length<9223372036854775807
theorem KO (x:Int):0<=xO .i64 x 255/\xO .i64 x 255<=255:=by
 rw[IU];have h1:(BitVec.ofInt 64 x&&&BitVec.ofInt 64 255).toNat<=255:=by
  rw[BitVec.toNat_and];exact Nat.le_trans Nat.and_le_right (by decide)
 rw[BitVec.toInt_eq_toNat_cond];split<;>omega
theorem Hu {c:uM} (h:CW c):∃c' r,bS c=some (c',r)/\CW c'/\0<=r/\r<=255:=by
 unfold bS;have hn:=h.n
 have hp:=h.p;by_cases hlt:c.2.1<(c.1.length:Int)
 · obtain⟨k,hk⟩:∃k:Nat,c.2.1=(k:Int):=⟨c.2.1.toNat,by omega⟩;simp only[vj hlt,cT];rw[hk,uO (by omega),an,uL (by omega)];exact⟨_,_,rfl,⟨by show (0:Int)<=((k+1:Nat):Int);omega,hn⟩,KO _⟩
 · simp only[vd hlt,cF];exact⟨_,_,rfl,⟨hp,hn⟩,KO _⟩
theorem KP {a n:Int} (ha:0<=a) (hn:1<=n):∃r,rem a n=some r/\0<=r/\r<n:=by
 unfold rem;rw[if_neg (by omega)];refine⟨_,rfl,Int.tmod_nonneg _ ha,?_⟩;have:=Int.tmod_lt_of_pos a (show 0<n by omega)
 exact this
theorem x7 {c:uM} (h:CW c) (n:Int):∃c' r,aa c n=some (c',r)/\CW c'/\0<=r/\(1<=n->r<n):=by
 unfold aa;by_cases h0:n<=0
 · rw[dT h0];exact⟨_,_,rfl,h,Int.le_refl 0,λh=>by omega⟩
 · rw[dF h0,cF];by_cases h1:n<=256
   · rw[dT h1,cT];obtain⟨c1,r1,e1,w1,a1,b1⟩:=Hu h;obtain⟨r,e,a,b⟩:=KP (n:=n) a1 (by omega);rw[e1,an,e,an];exact⟨_,_,rfl,w1,a,λ_=>b⟩
   · rw[dF h1,cF];obtain⟨c1,r1,e1,w1,a1,b1⟩:=Hu h;obtain⟨c2,r2,e2,w2,a2,b2⟩:=Hu w1;obtain⟨c3,r3,e3,w3,a3,b3⟩:=Hu w2;rw[e1,an,e2,an,e3,an];show ∃c' r,((rem (uB (uB (uB (r1*65536)+uB (r2*256))+r3)) n).bind _)=_/\_
     rw[uX (n:=r1*65536) (by omega) (by omega),uX (n:=r2*256) (by omega) (by omega),uX (n:=r1*65536+r2*256) (by omega) (by omega),uX (n:=r1*65536+r2*256+r3) (by omega) (by omega)];obtain⟨r,e,a,b⟩:=KP (a:=r1*65536+r2*256+r3) (n:=n) (by omega) (by omega);rw[e,an];exact⟨_,_,rfl,w3,a,λ_=>b⟩
theorem wI {c:uM} (h:CW c) {n:Nat} (hn:1<=n):∃c' k,aa c (n:Int)=some (c',((k:Nat):Int))/\CW c'/\k<n:=by
 obtain⟨c',r,e,w,a,b⟩:=x7 h (n:Int);have b:=b (by omega)
 exact⟨c',r.toNat,by rw[e];congr 2;omega,w,by omega⟩
theorem Hv {c:uM} (h:CW c) (n:Int):∃c' r,bo c n=some (c',r)/\CW c':=by
 obtain⟨c',r,e,w,_⟩:=x7 h n;unfold bo;rw[e,an];exact⟨_,_,rfl,w⟩
theorem yJ {c:uM} (h:CW c) {l:List Int} (hl:1<=l.length):∃c' x,af c l=some (c',x)/\CW c'/\x∈l:=by
 obtain⟨c',k,e,w,b⟩:=wI h hl;unfold af;rw[e,an];show ∃c'' x,(at? l (k:Int)).bind _=_/\_
 rw[uO b,an];exact⟨_,_,rfl,w,getElem_mem b⟩
theorem Ox {c:uM} (h:CW c) {l:List (List UInt8)} (hl:1<=l.length):∃c' x,bb c l=some (c',x)/\CW c'/\x∈l:=by
 obtain⟨c',k,e,w,b⟩:=wI h hl;unfold bb;rw[e,an];show ∃c'' x,(at? l (k:Int)).bind _=_/\_
 rw[uO b,an];exact⟨_,_,rfl,w,getElem_mem b⟩
theorem Rm {code:List Int} (h:code.length<=1048576):∃c,fH code=some c/\CW c:=by
 obtain⟨v,h1,-⟩:=uS (step:=λz:Int×Int=>dx code z.1 z.2) (λk z=>z.2=(k:Int)) (min code.length 4000) (λ_=>True)
  (λk z hk e=>by
   obtain⟨x,i⟩:=z;simp only at e;subst e;left;have k4:k<4000:=by omega
   have hs:∃y,dx code x (k:Int)=some (.inl (y,((k+1:Nat):Int))):=by
    unfold dx;rw[vj (show (k:Int)<(code.length:Int) by omega),vj (show (k:Int)<4000 by omega),cT,an,cT,uO (by omega),an,uL (by omega)];exact⟨_,rfl⟩
   obtain⟨y,hs⟩:=hs;exact⟨_,hs,rfl⟩)
  (λz e=>by
   obtain⟨x,i⟩:=z;simp only at e;subst e;refine⟨x,?_,trivial⟩;show dx code x _=_
   unfold dx;by_cases h:code.length<=4000
   · rw[Nat.min_eq_left h,vd (by omega)];rfl
   · rw[Nat.min_eq_right (by omega),vj (by omega),vd (show ¬(((4000:Nat):Int)<4000) by omega)];rfl) (x:=(uB (762762+(code.length:Int)),0)) rfl
 unfold fH;show ∃c,(loop (λz=>dx code z.1 z.2) (uB (762762+(code.length:Int)),0)).bind (λd=>some (code,0,d))=some c/\CW c
 rw[h1,an];exact⟨_,rfl,by show (0:Int)<=0;omega,by show code.length<_;omega⟩

abbrev Bs (x:Int):Prop:=-9223372036854775808<=x/\x<=9223372036854775807
structure VT (v:vv) (n:Nat):Prop where
 p:xI v (n:Int)=true
 r:∀r∈v.1,Bs r.2.2
theorem VT.len {v:vv} {n:Nat} (h:VT v n):1<=n/\n<=6/\v.2.length=n/\v.1.length<=6:=by
 have hp:=h.p;unfold xI uE at hp;simp only[aT,Bool.not_eq_true',Bool.or_eq_false_iff,Bool.not_eq_false',aT,decide_eq_true_eq,decide_eq_false_iff_not,bne_eq_false_iff_eq]at hp;obtain⟨⟨h1,h2,h3⟩,_⟩:=hp;omega
theorem T7 {v:vv} (n:Int) (h1:v.1.length<=1000) (h2:v.2.length<=1000) (hr:∀r∈v.1,Bs r.2.2):aP v n=some (xI v n):=M5 n (by omega) (by omega) hr
theorem Mb {v:vv} (h1:v.1.length<=1000) (h2:v.2.length<=1000):aO v=some v:=by
 unfold aO;unfold uV;have m:(CB:Nat)=4294967296:=rfl
 rw[if_pos (by show 0+v.1.length<=CB;omega),an,if_pos (by show 0+v.2.length<=CB;omega),an];rfl
theorem Rn {x v:vv} {n:Nat} (hv:VT v n) (h1:x.1.length<=1000) (h2:x.2.length<=1000) (hr:∀r∈x.1,Bs r.2.2):∃y ok,dG x v=some (y,ok)/\VT y n:=by
 obtain⟨l1,l2,l3,l4⟩:=hv.len;unfold dG;rw[T7 _ h1 h2 hr,an];cases h:xI x (v.2.length:Int)with
 | true=>exact⟨_,_,rfl,by rw[l3]at h;exact h,hr⟩
 | false =>
  rw[Bool.not_false,cT,Mb (by omega) (by omega),an];exact⟨_,_,rfl,hv⟩
theorem Ro {v:vv} {n:Nat} (hv:VT v n):aP v (v.2.length:Int)=some true:=by
 obtain⟨l1,l2,l3,l4⟩:=hv.len;rw[T7 _ (by omega) (by omega) hv.r,l3,hv.p]
theorem SB {v:vv} {n:Nat} (hv:VT v n) (port id:Int):∃y ok,fb v port id=some (y,ok)/\VT y n:=by
 obtain⟨l1,l2,l3,l4⟩:=hv.len;unfold fb;rw[Ro hv,an,Bool.not_true,cF,Al,an,an,Mb (by omega) (by omega),uX (n:=(v.2.length:Int)-1) (by omega) (by omega)];cases hin:uE port 0 ((v.2.length:Int)-1)with
 | false=>exact⟨_,_,rfl,hv⟩
 | true =>
  obtain⟨k,hk,rfl⟩:=Rj hin;simp only[Bool.not_true,cF,an,xh hk,List.getElem?_eq_getElem hk];obtain⟨y,ok,e,hy⟩:=Rn (x:=(v.1,v.2.set k id)) hv (by show v.1.length<=_;omega) (by show (v.2.set k id).length<=_;rw[length_set];omega) hv.r;rw[e];exact⟨_,_,rfl,hy⟩
theorem Rp {v:vv} (hn:v.1.length<9223372036854775807) (id:Int):∃r,bp v id=some r/\(r = -1\/∃k:Nat,k<v.1.length/\r=(k:Int)):=by
 rw[Re];unfold aj;obtain⟨b,h1,h2⟩:=uS (β:=Unit⊕Int) (step:=λz=>aJ v id z) (λk i=>i=(k:Int)) v.1.length (λb=>∀r,b=.inr r->∃k:Nat,k<v.1.length/\r=(k:Int))
  (λk i hk h=>by
   subst h;unfold aJ;rw[vj (by omega),cT,uO hk,an];cases (v.1[k].1==id)with
   | true=>exact .inr ⟨_,rfl,λr hr=>⟨k,hk,by cases hr;rfl⟩⟩
   | false=>exact .inl ⟨_,rfl,uL (by omega)⟩)
  (λi h=>by
   subst h;unfold aJ;rw[vd (by omega)];exact⟨_,rfl,λr hr=>by cases hr⟩) (x:=0) rfl
 rw[h1,an];cases b with
 | inl _=>exact⟨_,rfl,.inl rfl⟩
 | inr r=>exact⟨r,rfl,.inr (h2 r rfl)⟩
theorem xR {α:Type} {l:List α} {a b:Nat} (h1:a<=b) (h2:b<=l.length):cut l (a:Int) (b:Int)=some ((l.take b).drop a):=by
 unfold cut;rw[if_pos (by omega),if_pos (by omega),if_pos (by omega)];simp
theorem uG {α:Type} {xs ys:List α} (h:xs.length+ys.length<=4294967296):uV xs ys=some (xs++ys):=by
 unfold uV;rw[if_pos (show xs.length+ys.length<=CB from h)]
theorem SC {v:vv} {n:Nat} (hv:VT v n) (id:Int):∃y ok,fc v id=some (y,ok)/\VT y n:=by
 obtain⟨l1,l2,l3,l4⟩:=hv.len;obtain⟨r,hr,hr2⟩:=Rp (v:=v) (by omega) id;unfold fc;rw[hr,an,Ro hv,an,Bool.not_true,cF,Mb (by omega) (by omega),an,an,an];rcases hr2 with rfl|⟨k,hk,rfl⟩
 · exact⟨_,_,rfl,hv⟩
 · rw[vd (by omega),cF,show (0:Int)=((0:Nat):Int)from rfl,xR (by omega) (by omega),an,uL (by omega),xR (by omega) (by omega)];have t1:((v.1.take k).drop 0).length<=6:=by simp;omega
   have t2:((v.1.take v.1.length).drop (k+1)).length<=6:=by simp;omega
   rw[uG (by show 0+_<=_;omega),an,an,nil_append,uG (by omega),an];obtain⟨y,ok,e,hy⟩:=Rn (x:=((v.1.take k).drop 0++(v.1.take v.1.length).drop (k+1),v.2)) hv (by show ((v.1.take k).drop 0++(v.1.take v.1.length).drop (k+1)).length<=_;rw[length_append];omega) (by show v.2.length<=_;omega) (λr hr=>by
    rcases mem_append.1 hr with hr|hr
    · exact hv.r r (List.mem_of_mem_take (List.mem_of_mem_drop hr))
    · exact hv.r r (List.mem_of_mem_take (List.mem_of_mem_drop hr)))
   rw[e];exact⟨_,_,rfl,hy⟩
theorem Tx {v:vv} {n:Nat} (hv:VT v n) {r:uQ} (hr:Bs r.2.2):∃y,aG v r=some y/\y.1.length<=1000/\y.2.length<=1000/\∀r∈y.1,Bs r.2.2:=by
 obtain⟨l1,l2,l3,l4⟩:=hv.len;obtain⟨d,h1,h2,h3⟩:=uS (step:=λz:Bool×Int×List uQ=>az v r z.1 z.2.1 z.2.2) (λk z=>z.2.1=(k:Int)/\z.2.2.length<=2*k/\∀x∈z.2.2,Bs x.2.2) v.1.length (λd=>d.2.length<=12/\∀x∈d.2,Bs x.2.2)
  (λk z hk ⟨e1,e2,e3⟩=>by
   obtain⟨t,i,b⟩:=z;simp only at e1 e2 e3;subst e1;left;have hvk:Bs v.1[k].2.2:=hv.r _ (getElem_mem hk)
   show ∃y,az v r t (k:Int) b=_/\_;unfold az;simp only[vj (show (k:Int)<(v.1.length:Int) by omega),cT,uO hk,an,uL (show k<9223372036854775807 by omega),Int.not_lt];have ha:∀(xs:List uQ) (y:uQ),xs.length<=100->uV xs [y]=some (xs++[y]):=λxs y h=>uG (by show xs.length+1<=_;omega)
   have key:∀(tt:Bool),((cond (!t) (some (decide (v.1[k].1>=r.1))) (some false))=some tt->∃y:Bool×Int×List uQ,(cond tt ((uV b [r]).bind λzs37=>cond (v.1[k].1 != r.1) ((uV zs37 [v.1[k]]).bind λzs56=>some (.inl (true,((k+1:Nat):Int),zs56))) (some (.inl (true,((k+1:Nat):Int),zs37)))) (cond (v.1[k].1 != r.1) ((uV b [v.1[k]]).bind λzs56_1=>some (.inl (t,((k+1:Nat):Int),zs56_1))) (some (.inl (t,((k+1:Nat):Int),b)))):Option ((Bool×Int×List uQ)⊕(Bool×List uQ)))=some (.inl y)/\y.2.1=((k+1:Nat):Int)/\y.2.2.length<=2*(k+1)/\∀x∈y.2.2,Bs x.2.2):=by
    intro tt _;cases tt with
    | true =>
     rw[cT,ha b r (by omega),an];cases v.1[k].1 != r.1 with
     | true =>
      rw[cT,ha (b++[r]) _ (by simp;omega),an];refine⟨_,rfl,rfl,by simp;omega,λx hx=>?_⟩;simp at hx;rcases hx with hx|rfl|rfl
      · exact e3 x hx
      · exact hr
      · exact hvk
     | false =>
      refine⟨_,rfl,rfl,by simp;omega,λx hx=>?_⟩;simp at hx;rcases hx with hx|rfl
      · exact e3 x hx
      · exact hr
    | false =>
     rw[cF];cases v.1[k].1 != r.1 with
     | true =>
      rw[cT,ha b _ (by omega),an];refine⟨_,rfl,rfl,by simp;omega,λx hx=>?_⟩;simp at hx;rcases hx with hx|rfl
      · exact e3 x hx
      · exact hvk
     | false=>exact⟨_,rfl,rfl,by show b.length<=_;omega,e3⟩
   cases ht:(cond (!t) (some (decide (v.1[k].1>=r.1))) (some false))with
   | none=>cases t<;>cases ht
   | some tt =>
    rw[an];exact key tt ht)
  (λz ⟨e1,e2,e3⟩=>by
   obtain⟨t,i,b⟩:=z;simp only at e1 e2 e3;subst e1;refine⟨(t,b),?_,by show b.length<=12;omega,e3⟩;show az v r t _ b=_
   unfold az;rw[vd (by omega),cF]) (x:=(false,0,[])) ⟨rfl,by simp,λx hx=>absurd hx not_mem_nil⟩
 unfold aG;rw[uG (by show 0+v.2.length<=_;omega),an,h1,an,nil_append];cases d.1 with
 | true=>exact⟨_,rfl,by show d.2.length<=_;omega,by show v.2.length<=_;omega,h3⟩
 | false =>
  rw[Bool.not_false,cT,uG (by show d.2.length+1<=_;omega),an];refine⟨_,rfl,by show (d.2++[r]).length<=_;simp;omega,by show v.2.length<=_;omega,λx hx=>?_⟩;have hx:x∈d.2++[r]:=hx
  simp at hx;rcases hx with hx|rfl
  · exact h3 x hx
  · exact hr
theorem Ty {v:vv} {n:Nat} (hv:VT v n) {r:uQ} (hr:Bs r.2.2):∃y ok,fe v r=some (y,ok)/\VT y n:=by
 obtain⟨x,hx,h1,h2,h3⟩:=Tx hv hr;unfold fe;rw[Ro hv,an,Bool.not_true,cF,hx,an];obtain⟨y,ok,e,hy⟩:=Rn hv h1 h2 h3;rw[e];exact⟨_,_,rfl,hy⟩
theorem SD (a b:Int):Bs (xO .i64 a b):=by
 rw[IU];have h1:=BitVec.toInt_lt (x:=BitVec.ofInt 64 a&&&BitVec.ofInt 64 b)
 have h2:=BitVec.le_toInt (x:=BitVec.ofInt 64 a&&&BitVec.ofInt 64 b);exact⟨by omega,by omega⟩
theorem SE {c:uM} (h:CW c) {n:Nat} (h1:1<=n) (h6:n<=6):∃c' r,gq c (n:Int)=some (c',r)/\CW c'/\Bs r.2.2:=by
 obtain⟨t,ht,_⟩:=M3 (i:=(n:Int)) (by unfold uE;rw[dT (by omega),dT (by omega)];rfl);unfold gq;rw[ht,an];obtain⟨c1,r1,e1,w1,_⟩:=x7 h (uB ((uB (t-1))+1));obtain⟨c2,r2,e2,w2,_⟩:=yJ w1 (l:=[1,2,3,2]) (by decide);obtain⟨c3,r3,e3,w3,_⟩:=x7 w2 (uB ((uB (t-1))+1));rw[e1,an,e2,an,e3,an];exact⟨_,_,rfl,w3,SD _ _⟩

theorem Rq {n:Nat} (h1:1<=n) (h6:n<=6):f9 (n:Int)=some ([(1,wW (n:Int),wW (n:Int))],List.replicate n 1):=by
 have hin:uE (n:Int) 1 6=true:=by unfold uE;rw[dT (by omega),dT (by omega)];rfl
 obtain⟨t,ht,ht2⟩:=M3 hin;obtain⟨d,hd,rfl⟩:=uS (step:=λz:Int×List Int=>dA (n:Int) z.1 z.2) (λk z=>z.1=(k:Int)/\z.2=List.replicate k 1) n (λd=>d=List.replicate n 1)
  (λk z hk ⟨e1,e2⟩=>by
   obtain⟨i,l⟩:=z;simp only at e1 e2;subst e1 e2;left;refine⟨(((k+1:Nat):Int),List.replicate k 1++[1]),?_,rfl,?_⟩
   · show dA (n:Int) (k:Int) _=_;unfold dA;rw[vj (by omega),cT,uG (by simp;omega),an,uL (by omega)]
   · show List.replicate k 1++[1]=_;rw[←List.replicate_succ'])
  (λz ⟨e1,e2⟩=>by
   obtain⟨i,l⟩:=z;simp only at e1 e2;subst e1 e2;refine⟨_,?_,rfl⟩;show dA (n:Int) _ _=_
   unfold dA;rw[vd (by omega),cF]) (x:=(0,[])) ⟨rfl,rfl⟩
 unfold f9;rw[Al,an,hin,Bool.not_true,cF,ht,an,hd,an,ht2]
theorem SF {n:Nat} (h1:1<=n) (h6:n<=6):VT ([(1,wW (n:Int),wW (n:Int))],List.replicate n 1) n:=by
 have hin:uE (n:Int) 1 6=true:=by unfold uE;rw[dT (by omega),dT (by omega)];rfl
 have ht:=IT hin;have hrow:aj ([(1,wW (n:Int),wW (n:Int))],List.replicate n 1) 1=some 0:=by
  unfold aj;rw[zV (k:=1) (b:=.inr 0) (by rfl)];rfl
 have hb:(Dw .i64 (wW (n:Int)) (wW (n:Int)) != 0)=false:=by
  rcases Hq hin with h|h|h|h|h|h<;>rw[h]<;>decide
 refine⟨?_,λr hr=>?_⟩
 · unfold xI;rw[hin];show (!(!true||(((List.replicate n (1:Int)).length:Int) != (n:Int)||decide ((1:Int)>6)))&&(!(List.range 1).any _&&!(List.range (List.replicate n (1:Int)).length).any _))=true
   rw[List.length_replicate];have e1:(((n:Int)) != (n:Int))=false:=by simp
   rw[e1];have e2:(List.range 1).any (B0 ([(1,wW (n:Int),wW (n:Int))],List.replicate n 1) (n:Int))=false:=by
    show (B0 ([(1,wW (n:Int),wW (n:Int))],List.replicate n 1) (n:Int) 0||false)=false;unfold B0;show ((!(uE 1 1 99)||((decide (0<0)&&_)||(!(uE (wW (n:Int)) 0 (wW (n:Int)))||(Dw .i64 (wW (n:Int)) (wW (n:Int)) != 0))))||false)=false
    rw[hb];have:uE (wW (n:Int)) 0 (wW (n:Int))=true:=by unfold uE;rw[dT (by omega),dT (by omega)];rfl
    rw[this];rfl
   rw[e2];have e3:(List.range n).any (Co ([(1,wW (n:Int),wW (n:Int))],List.replicate n 1))=false:=by
    apply Bool.eq_false_iff.2;intro h;obtain⟨k,hk,hx⟩:=any_eq_true.1 h;have hk:=mem_range.1 hk
    unfold Co at hx;have:(List.replicate n (1:Int))[k]?=some 1:=by rw[List.getElem?_replicate,if_pos hk]
    simp only[this,hrow]at hx
    revert hx;decide
   rw[e3];rfl
 · have hr:r∈[((1:Int),wW (n:Int),wW (n:Int))]:=hr;simp at hr;subst hr;exact⟨by show _<=wW (n:Int);omega,by show wW (n:Int)<=_;omega⟩
theorem Ph {c:uM} (h:CW c) {n:Nat} (h1:1<=n) (h6:n<=6):∃c' v,cz c (n:Int)=some (c',v)/\CW c'/\VT v n:=by
 unfold cz;obtain⟨c0,m,e0,w0,hm⟩:=wI h (n:=6) (by decide);rw[Rq h1 h6,an];have e0':aa c 6=some (c0,(m:Int)):=e0
 rw[e0',an];obtain⟨d,hd,g1,g2⟩:=uS (step:=λz:Int×List Int×Int×Int×List uQ×List Int=>dH (n:Int) z.1 z.2.1 z.2.2.1 z.2.2.2.1 z.2.2.2.2.1 z.2.2.2.2.2) (λk z=>z.1=(m:Int)-(k:Int)/\CW (z.2.1,z.2.2.1,z.2.2.2.1)/\VT z.2.2.2.2 n) m (λd=>CW (d.1,d.2.1,d.2.2.1)/\VT d.2.2.2 n)
  (λk z hk ⟨a1,a2,a3⟩=>by
   obtain⟨i,x,y,s,v⟩:=z;simp only at a1 a2 a3;left;show ∃y',dH (n:Int) i x y s v.1 v.2=_/\_
   unfold dH;have hi:decide (i>0)=true:=dT (by omega)
   have hw:uB (i-1)=(m:Int)-((k+1:Nat):Int):=by rw[uX (by omega) (by omega)];omega
   obtain⟨c1,r1,e1,w1,_⟩:=x7 a2 4;rw[hi,cT,e1,an,hw];show ∃y',cond (r1==0) _ _=_/\_
   cases r1==0 with
   | true =>
    obtain⟨c2,r2,e2,w2,_⟩:=x7 w1 (n:Int);obtain⟨c3,r3,e3,w3,_⟩:=x7 w2 3;obtain⟨v',ok,e4,g4⟩:=SB a3 r2 (uB (1+r3));have e4':fb (v.1,v.2) r2 (uB (1+r3))=some (v',ok):=e4
    rw[cT,e2,an,e3,an,e4',an];exact⟨_,rfl,rfl,w3,g4⟩
   | false =>
    rw[cF];show ∃y',cond (r1==1) _ _=_/\_
    cases r1==1 with
    | true =>
     obtain⟨c2,r2,e2,w2,_⟩:=x7 w1 2;obtain⟨v',ok,e4,g4⟩:=SC a3 (uB (2+r2));have e4':fc (v.1,v.2) (uB (2+r2))=some (v',ok):=e4
     rw[cT,e2,an,e4',an];exact⟨_,rfl,rfl,w2,g4⟩
    | false =>
     obtain⟨c2,r2,e2,w2,hr2⟩:=SE w1 h1 h6;obtain⟨v',ok,e4,g4⟩:=Ty a3 hr2;have e4':fe (v.1,v.2) r2=some (v',ok):=e4
     rw[cF,e2,an,e4',an];exact⟨_,rfl,rfl,w2,g4⟩)
  (λz ⟨a1,a2,a3⟩=>by
   obtain⟨i,x,y,s,v⟩:=z;simp only at a1 a2 a3;refine⟨(x,y,s,v),?_,a2,a3⟩;show dH (n:Int) i x y s v.1 v.2=_
   unfold dH;have hi:decide (i>0)=false:=dF (by omega)
   rw[hi,cF]) (x:=((m:Int),c0.1,c0.2.1,c0.2.2,[(1,wW (n:Int),wW (n:Int))],List.replicate n 1)) ⟨by simp,w0,SF h1 h6⟩
 rw[hd,an];exact⟨_,_,rfl,g1,g2⟩
theorem Oy {c:uM} (h:CW c):∃c' v,dD c=some (c',v)/\CW c'/\DK v=true:=by
 obtain⟨c1,k1,e1,w1,b1⟩:=wI h (n:=5) (by decide);obtain⟨c2,x2,e2,w2,b2⟩:=yJ w1 (l:=[0,1,2,5,10,100]) (by decide);obtain⟨c3,x3,e3,w3,b3⟩:=yJ w2 (l:=[0,1,2,9,10]) (by decide);obtain⟨c4,k4,e4,w4,b4⟩:=wI w3 (n:=5) (by decide);obtain⟨c5,k5,e5,w5,b5⟩:=wI w4 (n:=4) (by decide);have e1':aa c 5=some (c1,(k1:Int)):=e1
 have e4':aa c3 5=some (c4,(k4:Int)):=e4;have e5':aa c4 4=some (c5,(k5:Int)):=e5
 unfold dD;rw[e1',an,e2,an,e3,an,e4',an,e5',an];refine⟨_,_,rfl,w5,?_⟩;show DK (uB (1+(k1:Int)),x2,x3,uB (1+(k4:Int)),(k5:Int))=true
 rw[uX (by omega) (by omega),uX (by omega) (by omega)];have i1:uE (1+(k1:Int)) 1 99=true:=by unfold uE;rw[dT (by omega),dT (by omega)];rfl
 have i4:uE (1+(k4:Int)) 1 99=true:=by unfold uE;rw[dT (by omega),dT (by omega)];rfl
 have i5:uE (k5:Int) 0 7=true:=by unfold uE;rw[dT (by omega),dT (by omega)];rfl
 have i2:uE x2 0 100000=true:=by
  have:∀x∈([0,1,2,5,10,100]:List Int),uE x 0 100000=true:=by decide
  exact this x2 b2
 have i3:uE x3 0 10=true:=by
  have:∀x∈([0,1,2,9,10]:List Int),uE x 0 10=true:=by decide
  exact this x3 b3
 unfold DK;rw[i1,i2,i3,i4,i5];rfl
theorem Nv {c:uM} (h:CW c) {n:Nat} (h6:n<=6):∃c' l,cw c (n:Int)=some (c',l)/\CW c'/\l.length=n/\∀x∈l,zl x=true:=by
 unfold cw;obtain⟨d,hd,g1,g2,g3⟩:=uS (step:=λz:Int×List Int×Int×Int×List Pt=>dE (n:Int) z.1 z.2.1 z.2.2.1 z.2.2.2.1 z.2.2.2.2) (λk z=>z.1=(k:Int)/\CW (z.2.1,z.2.2.1,z.2.2.2.1)/\z.2.2.2.2.length=k/\∀x∈z.2.2.2.2,zl x=true) n (λd=>CW (d.1,d.2.1,d.2.2.1)/\d.2.2.2.length=n/\∀x∈d.2.2.2,zl x=true)
  (λk z hk ⟨a1,a2,a3,a4⟩=>by
   obtain⟨i,x,y,s,l⟩:=z;simp only at a1 a2 a3 a4;subst a1;left;show ∃y',dE (n:Int) (k:Int) x y s l=_/\_
   unfold dE;obtain⟨c1,up,e1,w1⟩:=Hv a2 4;obtain⟨c2,cost,e2,w2,b2⟩:=yJ w1 (l:=[1,1,2,5,10]) (by decide);have hc:uE cost 1 1000=true:=by
    have:∀x∈([1,1,2,5,10]:List Int),uE x 1 1000=true:=by decide
    exact this cost b2
   have ha:∀q:Pt,uV l [q]=some (l++[q]):=λq=>uG (by show l.length+1<=_;omega);have hin:∀q:Pt,zl q=true->(l++[q]).length=k+1/\∀x∈l++[q],zl x=true:=λq hq=>⟨by simp;omega,λx hx=>by
    simp at hx;rcases hx with hx|rfl
    · exact a4 x hx
    · exact hq⟩
   rw[vj (by omega),cT,e1,an,e2,an,uL (by omega)];show ∃y',cond (!up) _ _=_/\_
   cases up with
   | true =>
    simp only[ha,Bool.not_true,cF,an];obtain⟨q1,q2⟩:=hin (false,cost,false,0,0,0,0,0) (by unfold zl;rw[hc];rfl);exact⟨_,rfl,rfl,w2,q1,q2⟩
   | false =>
    obtain⟨c3,has,e3,w3⟩:=Hv w2 4;rw[Bool.not_false,cT,e3,an];show ∃y',cond (!has) _ _=_/\_
    cases has with
    | true =>
     simp only[ha,Bool.not_true,cF,an];obtain⟨q1,q2⟩:=hin (true,cost,false,0,0,0,0,0) (by unfold zl;rw[hc];rfl);exact⟨_,rfl,rfl,w3,q1,q2⟩
    | false =>
     obtain⟨c4,v,e4,w4,hv⟩:=Oy w3;simp only[ha,Bool.not_false,cT,an,e4];obtain⟨q1,q2⟩:=hin (true,cost,true,v.1,v.2.1,v.2.2.1,v.2.2.2.1,v.2.2.2.2) (by unfold zl;rw[hc];exact hv);exact⟨_,rfl,rfl,w4,q1,q2⟩)
  (λz ⟨a1,a2,a3,a4⟩=>by
   obtain⟨i,x,y,s,l⟩:=z;simp only at a1 a2 a3 a4;subst a1;refine⟨(x,y,s,l),?_,a2,a3,a4⟩;show dE (n:Int) _ x y s l=_
   unfold dE;rw[vd (by omega),cF]) (x:=(0,c.1,c.2.1,c.2.2,[])) ⟨rfl,h,rfl,λx hx=>absurd hx not_mem_nil⟩
 rw[hd,an];exact⟨_,_,rfl,g1,g2,g3⟩

def lt (a b:uF):Prop:=a.1<b.1\/(a.1=b.1/\a.2.1<b.2.1)
def same (a b:uF):Prop:=a.1=b.1/\a.2.1=b.2.1
theorem lt_trans {a b c:uF} (h:lt a b) (k:lt b c):lt a c:=by unfold lt at *;omega
theorem Mc {a b:uF} (h:lt a b):¬same a b:=by unfold lt same at *;omega
structure FB (l:List uF):Prop where
 e:∀x∈l,xx x=true
 o:l.Pairwise lt
 n:l.length<=12
theorem FB.ok {l:List uF} (h:FB l):zZ l=true:=by
 unfold zZ;have hn:=h.n
 rw[dT (show (l.length:Int)<=12 by omega),Bool.and_true,Bool.not_eq_true'];apply Bool.eq_false_iff.2;intro ha;obtain⟨k,hk,hx⟩:=any_eq_true.1 ha;have hk:=mem_range.1 hk
 unfold A3 at hx;simp only[List.getElem?_eq_getElem hk,h.e _ (getElem_mem hk),Bool.not_true,Bool.false_or,aT,decide_eq_true_eq]at hx;obtain⟨h0,hx⟩:=hx;simp only[List.getElem?_eq_getElem (show k-1<l.length by omega),Bool.not_eq_true']at hx;have hl:=pairwise_iff_getElem.1 h.o (k-1) k (by omega) hk (by omega)
 unfold xB at hx;simp only[Bool.or_eq_false_iff,Bool.and_eq_false_iff,decide_eq_false_iff_not,bF]at hx;unfold lt at hl;omega
theorem T8 {l:List uF} (h:FB l):cB l=some true:=by
 have hn:=h.n;rw[Rc (by omega),h.ok]
theorem FB.copy {l:List uF} (h:FB l):bR l=some l:=by
 have hn:=h.n;unfold bR;rw[uG (by show 0+l.length<=_;omega)];rfl
theorem T9 {l:List uF} (hn:l.length<9223372036854775807) (tag mac:Int):∃r,bT l tag mac=some r/\((r = -1/\∀x∈l,¬(x.1=tag/\x.2.1=mac))\/∃k:Nat,∃hk:k<l.length,r=(k:Int)/\l[k].1=tag/\l[k].2.1=mac):=by
 obtain⟨v,h1,h2⟩:=uS (step:=λz=>aQ l tag mac z) (λk i=>i=(k:Int)/\∀x∈l.take k,¬(x.1=tag/\x.2.1=mac)) l.length (λv=>(v=.inl ()/\∀x∈l,¬(x.1=tag/\x.2.1=mac))\/∃k:Nat,∃hk:k<l.length,v=.inr (k:Int)/\l[k].1=tag/\l[k].2.1=mac)
  (λk i hk ⟨e,hx⟩=>by
   subst e;have hs:aQ l tag mac (k:Int)=cond (l[k].1==tag&&l[k].2.1==mac) (some (.inr (.inr (k:Int)))) (some (.inl ((k+1:Nat):Int))):=by
    unfold aQ;simp only[vj (show (k:Int)<(l.length:Int) by omega),cT,uO hk,an,uL (show k<9223372036854775807 by omega)];cases l[k].1==tag<;>rfl
   cases hb:(l[k].1==tag&&l[k].2.1==mac)with
   | true =>
    simp only[aT,beq_iff_eq]at hb;refine .inr ⟨_,by rw[hs];rw[show (l[k].1==tag&&l[k].2.1==mac)=true by simp[hb.1,hb.2]];rfl,.inr ⟨k,hk,rfl,hb.1,hb.2⟩⟩
   | false =>
    refine .inl ⟨_,by rw[hs,hb];rfl,rfl,λx hx'=>?_⟩;rw[take_add_one,List.getElem?_eq_getElem hk,mem_append]at hx';rcases hx' with hx'|hx'
    · exact hx x hx'
    · simp at hx';subst hx';intro ⟨q1,q2⟩;rw[q1,q2]at hb;simp at hb)
  (λi ⟨e,hx⟩=>by
   subst e;rw[take_length]at hx;refine⟨.inl (),?_,.inl ⟨rfl,hx⟩⟩;show aQ l tag mac _=_
   unfold aQ;rw[vd (by omega),cF]) (x:=0) ⟨rfl,by simp⟩
 unfold bT;rw[h1,an];rcases h2 with ⟨rfl,h2⟩|⟨k,hk,rfl,h2⟩
 · exact⟨_,rfl,.inl ⟨rfl,h2⟩⟩
 · exact⟨_,rfl,.inr ⟨k,hk,rfl,h2⟩⟩
def Bt (x e:uF):Bool:=cond (x.1 != e.1) (decide (x.1<e.1)) (decide (x.2.1<e.2.1))
theorem Oz {x e:uF} (h:Bt x e=true):lt x e:=by
 unfold Bt at h;unfold lt;by_cases hx:x.1=e.1
 · rw[show (x.1 != e.1)=false by simp[hx],cF]at h;exact .inr ⟨hx,of_decide_eq_true h⟩
 · rw[show (x.1 != e.1)=true from bne_iff_ne.2 hx,cT]at h;exact .inl (of_decide_eq_true h)
theorem Nw {x e:uF} (h:Bt x e=false):lt e x\/same x e:=by
 unfold Bt at h;unfold lt same;by_cases hx:x.1=e.1
 · rw[show (x.1 != e.1)=false by simp[hx],cF]at h;have:=of_decide_eq_false h
   omega
 · rw[show (x.1 != e.1)=true from bne_iff_ne.2 hx,cT]at h;have:=of_decide_eq_false h
   omega
def zP (x e:uF):Bool:=x.1 != e.1||x.2.1 != e.2.1
theorem EE {x e:uF} (h:zP x e=true):¬same x e:=by
 unfold zP at h;unfold same;simp only[Bool.or_eq_true,bne_iff_ne]at h;omega
theorem Km {x e:uF} (h:zP x e=false):same x e:=by
 unfold zP at h;unfold same;simp only[Bool.or_eq_false_iff,bne_eq_false_iff_eq]at h;exact h
theorem C1 {l:List uF} {x:uF} (h:l.Pairwise lt) (k:∀y∈l,lt y x):(l++[x]).Pairwise lt:=by
 rw[pairwise_append];exact⟨h,List.pairwise_singleton _ _,λa ha b hb=>by simp at hb;subst hb;exact k a ha⟩
theorem Md {l:List uF} (h:FB l) {e:uF} (he:xx e=true) (hroom:(∃x∈l,same x e)\/l.length<12):∃y,ff l e=some y/\FB y:=by
 have hn:=h.n;have hlt:∀i j (hi:i<l.length) (hj:j<l.length),i<j->lt l[i] l[j]:=pairwise_iff_getElem.1 h.o
 obtain⟨d,hd,g⟩:=uS (step:=λz:Bool×Int×List uF=>cA l e z.1 z.2.1 z.2.2)
  (λk z=>z.2.1=(k:Int)/\(∀x∈z.2.2,xx x=true)/\z.2.2.Pairwise lt /\
   (z.1=false->z.2.2=l.take k/\∀x∈l.take k,lt x e) /\
   (z.1=true->(∀x∈z.2.2,∀j (hj:j<l.length),k<=j->lt x l[j])/\(∀j (hj:j<l.length),k<=j->lt e l[j])/\z.2.2.length<=k+1/\((∃x∈l.take k,same x e)->z.2.2.length<=k))) l.length
  (λd=>(∀x∈d.2,xx x=true)/\d.2.Pairwise lt/\(d.1=false->d.2=l/\∀x∈l,lt x e)/\(d.1=true->d.2.length<=l.length+1/\((∃x∈l,same x e)->d.2.length<=l.length)))
  (λk z hk ⟨e1,e2,e3,e4,e5⟩=>by
   obtain⟨t,i,b⟩:=z;simp only at e1 e2 e3 e4 e5;subst e1;left;have hf:xx l[k]=true:=h.e _ (getElem_mem hk)
   have hbl:b.length<=100:=by
    cases t with
    | false=>rw[(e4 rfl).1,length_take];omega
    | true=>have:=(e5 rfl).2.2.1;omega
   have ha:∀(xs:List uF) (y:uF),xs.length<=101->uV xs [y]=some (xs++[y]):=λxs y h=>uG (by show xs.length+1<=_;omega);have htk:l.take (k+1)=l.take k++[l[k]]:=by rw[take_add_one,List.getElem?_eq_getElem hk];rfl
   have hs:cA l e t (k:Int) b=cond (!t&&!(Bt l[k] e))
    (cond (zP l[k] e) (some (.inl (true,((k+1:Nat):Int),b++[e]++[l[k]]))) (some (.inl (true,((k+1:Nat):Int),b++[e]))))
    (cond (zP l[k] e) (some (.inl (t,((k+1:Nat):Int),b++[l[k]]))) (some (.inl (t,((k+1:Nat):Int),b)))):=by
    have hA:bU l[k] e.1 e.2.1=some (Bt l[k] e):=by unfold bU Bt;cases (l[k].1 != e.1)<;>rfl
    have hO:(cond (l[k].1 != e.1) (some true) (some (l[k].2.1 != e.2.1)))=some (zP l[k] e):=by unfold zP;cases (l[k].1 != e.1)<;>rfl
    unfold cA;simp only[vj (show (k:Int)<(l.length:Int) by omega),cT,uO hk,an,uL (show k<9223372036854775807 by omega),hA,hO,ha b e (by omega),ha b l[k] (by omega),ha (b++[e]) l[k] (by rw[length_append];show b.length+1<=_;omega)];cases t<;>cases Bt l[k] e<;>rfl
   show ∃y,cA l e t (k:Int) b=_/\_;rw[hs];cases t with
   | false =>
    obtain⟨f1,f2⟩:=e4 rfl;subst f1;cases hah:Bt l[k] e with
    | true =>
     have hl:=Oz hah;have ho:zP l[k] e=true:=by
      cases ho:zP l[k] e with
      | true=>rfl
      | false=>exact absurd (Km ho) (Mc hl)
     rw[ho];refine⟨_,rfl,rfl,λx hx=>?_,?_,λ_=>⟨by show l.take k++[l[k]]=_;rw[htk],λx hx=>?_⟩,(λht=>by cases ht)⟩
     · have hx:x∈l.take k++[l[k]]:=hx;rcases mem_append.1 hx with hx|hx
       · exact e2 x hx
       · simp at hx;subst hx;exact hf
     · show (l.take k++[l[k]]).Pairwise lt;rw[←htk];exact List.Pairwise.sublist (List.take_sublist _ _) h.o
     · rw[htk]at hx;rcases mem_append.1 hx with hx|hx
       · exact f2 x hx
       · simp at hx;subst hx;exact hl
    | false =>
     have hge:=Nw hah;have hpe:(l.take k++[e]).Pairwise lt:=C1 e3 f2
     have hee:∀x∈l.take k++[e],xx x=true:=λx hx=>by
      rcases mem_append.1 hx with hx|hx
      · exact e2 x hx
      · simp at hx;subst hx;exact he
     have hlater:∀j (hj:j<l.length),k+1<=j->lt e l[j]:=λj hj hkj=>by
      have h1:=hlt k j hk hj (by omega);rcases hge with h2|h2
      · exact lt_trans h2 h1
      · unfold same at h2;unfold lt at h1 ⊢;omega
     have htl:∀x∈l.take k,∀j (hj:j<l.length),k+1<=j->lt x l[j]:=λx hx j hj hkj=>lt_trans (f2 x hx) (hlater j hj hkj);have hlen:(l.take k).length=k:=by rw[length_take];omega
     cases ho:zP l[k] e with
     | true =>
      have hek:lt e l[k]:=by
       rcases hge with h2|h2
       · exact h2
       · exact absurd h2 (EE ho)
      refine⟨_,rfl,rfl,λx hx=>?_,?_,(λht=>by cases ht),λ_=>⟨λx hx j hj hkj=>?_,hlater,?_,λ⟨x,hx,hxe⟩=>?_⟩⟩
      · have hx:x∈l.take k++[e]++[l[k]]:=hx;rcases mem_append.1 hx with hx|hx
        · exact hee x hx
        · simp at hx;subst hx;exact hf
      · show (l.take k++[e]++[l[k]]).Pairwise lt;refine C1 hpe λy hy=>?_;rcases mem_append.1 hy with hy|hy
        · exact lt_trans (f2 y hy) hek
        · simp at hy;subst hy;exact hek
      · have hx:x∈l.take k++[e]++[l[k]]:=hx;rcases mem_append.1 hx with hx|hx
        · rcases mem_append.1 hx with hx|hx
          · exact htl x hx j hj hkj
          · simp at hx;subst hx;exact hlater j hj hkj
        · simp at hx;subst hx;exact hlt k j hk hj (by omega)
      · show (l.take k++[e]++[l[k]]).length<=_;simp only[length_append,hlen,List.length_singleton];omega
      · rw[htk]at hx;rcases mem_append.1 hx with hx|hx
        · exact absurd hxe (Mc (f2 x hx))
        · simp at hx;subst hx;exact absurd hxe (EE ho)
     | false =>
      refine⟨_,rfl,rfl,hee,hpe,(λht=>by cases ht),λ_=>⟨λx hx j hj hkj=>?_,hlater,?_,λ_=>?_⟩⟩
      · have hx:x∈l.take k++[e]:=hx;rcases mem_append.1 hx with hx|hx
        · exact htl x hx j hj hkj
        · simp at hx;subst hx;exact hlater j hj hkj
      · show (l.take k++[e]).length<=_;simp only[length_append,hlen,List.length_singleton];omega
      · show (l.take k++[e]).length<=_;simp only[length_append,hlen,List.length_singleton];omega
   | true =>
    obtain⟨f1,f2,f3,f4⟩:=e5 rfl;cases ho:zP l[k] e with
    | true =>
     refine⟨_,rfl,rfl,λx hx=>?_,C1 e3 λy hy=>f1 y hy k hk (Nat.le_refl _),(λht=>by cases ht),λ_=>⟨λx hx j hj hkj=>?_,λj hj hkj=>f2 j hj (by omega),?_,λ⟨x,hx,hxe⟩=>?_⟩⟩
     · have hx:x∈b++[l[k]]:=hx;rcases mem_append.1 hx with hx|hx
       · exact e2 x hx
       · simp at hx;subst hx;exact hf
     · have hx:x∈b++[l[k]]:=hx;rcases mem_append.1 hx with hx|hx
       · exact f1 x hx j hj (by omega)
       · simp at hx;subst hx;exact hlt k j hk hj (by omega)
     · show (b++[l[k]]).length<=_;rw[length_append];show b.length+1<=_;omega
     · show (b++[l[k]]).length<=_;rw[htk]at hx;rcases mem_append.1 hx with hx|hx
       · have:=f4 ⟨x,hx,hxe⟩;rw[length_append];show b.length+1<=_;omega
       · simp at hx;subst hx;exact absurd hxe (EE ho)
    | false =>
     exact⟨_,rfl,rfl,e2,e3,(λht=>by cases ht),λ_=>⟨λx hx j hj hkj=>f1 x hx j hj (by omega),λj hj hkj=>f2 j hj (by omega),by show b.length<=_;omega,λ_=>by show b.length<=_;omega⟩⟩)
  (λz ⟨e1,e2,e3,e4,e5⟩=>by
   obtain⟨t,i,b⟩:=z;simp only at e1 e2 e3 e4 e5;subst e1;rw[take_length]at e4 e5;refine⟨(t,b),?_,e2,e3,e4,λht=>⟨(e5 ht).2.2.1,(e5 ht).2.2.2⟩⟩;show cA l e t _ b=_
   unfold cA;rw[vd (by omega),cF]) (x:=(false,0,[])) ⟨rfl,λx hx=>absurd hx not_mem_nil,List.Pairwise.nil,λ_=>⟨by simp,λx hx=>by simp at hx⟩,(λht=>by cases ht)⟩
 obtain⟨g1,g2,g3,g4⟩:=g;unfold ff;rw[hd,an];obtain⟨t,b⟩:=d;simp only at g1 g2 g3 g4;cases t with
 | true =>
  refine⟨b,rfl,g1,g2,?_⟩;obtain⟨k1,k2⟩:=g4 rfl;rcases hroom with hr|hr
  · have:=k2 hr;omega
  · omega
 | false =>
  obtain⟨k1,k2⟩:=g3 rfl;have hr:l.length<12:=by
   rcases hroom with ⟨x,hx,hxe⟩|hr
   · exact absurd hxe (Mc (k2 x hx))
   · exact hr
  show ∃y,((uV b [e]).bind λzs=>some zs)=some y/\FB y;rw[k1,uG (by show l.length+1<=_;omega),an];refine⟨_,rfl,λx hx=>?_,C1 h.o k2,by rw[length_append];show l.length+1<=12;omega⟩;rcases mem_append.1 hx with hx|hx
  · exact h.e x hx
  · simp at hx;subst hx;exact he
theorem Rr (e:uF):cC e=some (xx e):=by rw[Pb];exact IS e
theorem Nx {l:List uF} (h:FB l) (tag mac port:Int):∃y,fg l tag mac port=some y/\FB y:=by
 have hn:=h.n;obtain⟨r,hr,hr2⟩:=T9 (l:=l) (by omega) tag mac;unfold fg;rw[hr,an,T8 h,an,Rr,an,h.copy,an,Bool.not_true,cF,an];cases he:xx (tag,mac,port,0,false)with
 | false=>exact⟨_,rfl,h⟩
 | true =>
  rcases hr2 with ⟨rfl,hr2⟩|⟨k,hk,rfl,q1,q2⟩
  · rw[Bool.not_true,cF];by_cases hlen:l.length<12
    · obtain⟨y,hy,hy2⟩:=Md h he (.inr hlen);refine⟨y,?_,hy2⟩;rw[hy];show (cond (decide ((l.length:Int)>=12)) _ _)=_
      rw[dF (by omega)];rfl
    · refine⟨l,?_,h⟩;show (cond (decide ((l.length:Int)>=12)) _ _)=_
      rw[dT (by omega)];rfl
  · simp only[Bool.not_true,cF,dT (show (k:Int)>=0 by omega),cT,uO hk,an,vd (show ¬(k:Int)<0 by omega)];obtain⟨y,hy,hy2⟩:=Md h he (.inl ⟨l[k],getElem_mem hk,q1,q2⟩);cases l[k].2.2.2.2 with
    | true=>exact⟨_,rfl,h⟩
    | false=>exact⟨y,by rw[hy];rfl,hy2⟩
theorem KQ {l:List uF} (h:FB l) (tag mac port:Int):∃y ok,dJ l tag mac port=some (y,ok)/\FB y:=by
 have hn:=h.n;obtain⟨r,hr,hr2⟩:=T9 (l:=l) (by omega) tag mac;unfold dJ;rw[hr,an,T8 h,an,Rr,an,h.copy,an,Bool.not_true,cF,an];cases he:xx (tag,mac,port,0,true)with
 | false=>exact⟨_,_,rfl,h⟩
 | true =>
  rcases hr2 with ⟨rfl,hr2⟩|⟨k,hk,rfl,q1,q2⟩
  · rw[Bool.not_true,cF];by_cases hlen:l.length<12
    · obtain⟨y,hy,hy2⟩:=Md h he (.inr hlen);refine⟨y,true,?_,hy2⟩;rw[hy];show (cond (decide ((l.length:Int)>=12)) _ _)=_
      rw[dF (by omega)];rfl
    · refine⟨l,false,?_,h⟩;show (cond (decide ((l.length:Int)>=12)) _ _)=_
      rw[dT (by omega)];rfl
  · rw[Bool.not_true,cF,vd (show ¬(k:Int)<0 by omega),cF,an];obtain⟨y,hy,hy2⟩:=Md h he (.inl ⟨l[k],getElem_mem hk,q1,q2⟩);rw[an,cF,hy];exact⟨y,true,rfl,hy2⟩

theorem Tz {id n:Nat} (i1:1<=id) (i2:id<=99) (h1:1<=n) (h6:n<=6):∃ps rs qs,fa (id:Int) (n:Int)=some ((id:Int),[],ps,[],rs,qs,0,0,0,0,0):=by
 have hin:uE (n:Int) 1 6=true:=by unfold uE;rw[dT (by omega),dT (by omega)];rfl
 have hid:uE (id:Int) 1 99=true:=by unfold uE;rw[dT (by omega),dT (by omega)];rfl
 obtain⟨d,hd,ps,rfl⟩:=uS (step:=λz:Int×Int×List UInt8×Int×Int×Int×Int×Int×List Pt×List uF=>dC (n:Int) z.1 z.2.1 z.2.2.1 z.2.2.2.1 z.2.2.2.2.1 z.2.2.2.2.2.1 z.2.2.2.2.2.2.1 z.2.2.2.2.2.2.2.1 z.2.2.2.2.2.2.2.2.1 z.2.2.2.2.2.2.2.2.2)
  (λk z=>∃ps:List Pt,ps.length=k/\z=((k:Int),(id:Int),[],0,0,0,0,0,ps,[])) n (λd=>∃ps:List Pt,d=((id:Int),[],0,0,0,0,0,ps,[]))
  (λk z hk ⟨ps,hp,e⟩=>by
   subst e;left;refine⟨(((k+1:Nat):Int),(id:Int),[],0,0,0,0,0,ps++[(false,1,false,0,0,0,0,0)],[]),?_,ps++[(false,1,false,0,0,0,0,0)],by simp;exact hp,rfl⟩;show dC (n:Int) (k:Int) (id:Int) [] 0 0 0 0 0 ps []=_
   unfold dC;rw[vj (by omega),cT,uG (by show ps.length+1<=_;omega),an,uL (by omega)])
  (λz ⟨ps,hp,e⟩=>by
   subst e;refine⟨((id:Int),[],0,0,0,0,0,ps,[]),?_,ps,rfl⟩;show dC (n:Int) _ (id:Int) [] 0 0 0 0 0 ps []=_
   unfold dC;rw[vd (by omega),cF]) (x:=(0,(id:Int),[],0,0,0,0,0,[],[])) ⟨[],rfl,rfl⟩
 unfold fa;rw[Al,an,hid,Bool.not_true,cF,Al,an,hin,an,Bool.not_true,cF,Rq h1 h6,an,hd,an];exact⟨_,_,_,rfl⟩
theorem JS {c:uM} (h:CW c):∃c' x,bE c=some (c',x)/\CW c':=by
 obtain⟨c1,x,e,w,_⟩:=yJ h (l:=[11,12,13,14]) (by decide);unfold bE;rw[e,an];exact⟨_,_,rfl,w⟩
def Rs (b:uz):Prop:=b.2.2.2.2.2.2.2.1=0/\b.2.2.2.2.2.2.2.2.1=0/\b.2.2.2.2.2.2.2.2.2.1=0
theorem HX {c:uM} (h:CW c):∃c' b,cD c=some (c',b)/\CW c'/\xt b/\vk b=true/\Rs b:=by
 obtain⟨c1,p,e1,w1,b1⟩:=wI h (n:=4) (by decide);obtain⟨c2,q,e2,w2,b2⟩:=wI w1 (n:=5) (by decide);have e1':aa c 4=some (c1,(p:Int)):=e1
 have e2':aa c1 5=some (c2,(q:Int)):=e2;have hp:uB (1+(p:Int))=((p+1:Nat):Int):=by rw[uX (by omega) (by omega)];omega
 have hq:uB (1+(q:Int))=((q+1:Nat):Int):=by rw[uX (by omega) (by omega)];omega
 obtain⟨ps,rs,qs,e3⟩:=Tz (id:=q+1) (n:=p+1) (by omega) (by omega) (by omega) (by omega);obtain⟨c4,name,e4,w4,b4⟩:=Ox w2 (l:=[[],[121,97,114,100],[98,49]]) (by decide);obtain⟨c5,pts,e5,w5,l5,a5⟩:=Nv w4 (n:=p+1) (by omega);obtain⟨c6,v,e6,w6,a6⟩:=Ph w5 (n:=p+1) (by omega) (by omega);obtain⟨c7,m,e7,w7,b7⟩:=wI w6 (n:=6) (by decide);have e7':aa c6 6=some (c7,(m:Int)):=e7
 have hname:name.length<=10:=by
  have:∀x∈([[],[121,97,114,100],[98,49]]:List (List UInt8)),x.length<=10:=by decide
  exact this name b4
 obtain⟨d,hd,g1,g2,g3,g4⟩:=uS (step:=λz:Int×List Int×Int×Int×Int×List UInt8×Int×Int×Int×Int×Int×List uF=>dK (c1,(p:Int)) z.1 z.2.1 z.2.2.1 z.2.2.2.1 z.2.2.2.2.1 z.2.2.2.2.2.1 z.2.2.2.2.2.2.1 z.2.2.2.2.2.2.2.1 z.2.2.2.2.2.2.2.2.1 z.2.2.2.2.2.2.2.2.2.1 z.2.2.2.2.2.2.2.2.2.2.1 z.2.2.2.2.2.2.2.2.2.2.2)
  (λk z=>z.1=(m:Int)-(k:Int)/\CW (z.2.1,z.2.2.1,z.2.2.2.1)/\(z.2.2.2.2.1=((q+1:Nat):Int)/\z.2.2.2.2.2.1=name)/\(z.2.2.2.2.2.2.1,z.2.2.2.2.2.2.2.1,z.2.2.2.2.2.2.2.2.1,z.2.2.2.2.2.2.2.2.2.1,z.2.2.2.2.2.2.2.2.2.2.1)=((0:Int),(0:Int),(0:Int),(0:Int),(0:Int))/\FB z.2.2.2.2.2.2.2.2.2.2.2) m
  (λd=>CW (d.1,d.2.1,d.2.2.1)/\(d.2.2.2.1=((q+1:Nat):Int)/\d.2.2.2.2.1=name)/\(d.2.2.2.2.2.1,d.2.2.2.2.2.2.1,d.2.2.2.2.2.2.2.1,d.2.2.2.2.2.2.2.2.1,d.2.2.2.2.2.2.2.2.2.1)=((0:Int),(0:Int),(0:Int),(0:Int),(0:Int))/\FB d.2.2.2.2.2.2.2.2.2.2)
  (λk z hk ⟨a1,a2,a3,a4,a5⟩=>by
   obtain⟨i,x,y,s,bid,nm,n6,n7,n8,n9,n10,f⟩:=z;simp only at a1 a2 a3 a4 a5;left;show ∃y',dK (c1,(p:Int)) i x y s bid nm n6 n7 n8 n9 n10 f=_/\_
   unfold dK;have hi:decide (i>0)=true:=dT (by omega)
   have hw:uB (i-1)=(m:Int)-((k+1:Nat):Int):=by rw[uX (by omega) (by omega)];omega
   obtain⟨d1,r1,f1,v1,_⟩:=x7 a2 3;obtain⟨d2,r2,f2,v2⟩:=JS v1;obtain⟨d3,r3,f3,v3,_⟩:=x7 v2 (uB (1+(p:Int)));obtain⟨y',f4,g4⟩:=Nx a5 (uB (1+r1)) r2 r3;rw[hi,cT,f1,an,f2,an,f3,an,f4,an,hw];exact⟨_,rfl,rfl,v3,a3,a4,g4⟩)
  (λz ⟨a1,a2,a3,a4,a5⟩=>by
   obtain⟨i,x,y,s,bid,nm,n6,n7,n8,n9,n10,f⟩:=z;simp only at a1 a2 a3 a4 a5;refine⟨(x,y,s,bid,nm,n6,n7,n8,n9,n10,f),?_,a2,a3,a4,a5⟩;show dK (c1,(p:Int)) i x y s bid nm n6 n7 n8 n9 n10 f=_
   unfold dK;have hi:decide (i>0)=false:=dF (by omega)
   rw[hi,cF]) (x:=((m:Int),c7.1,c7.2.1,c7.2.2,((q+1:Nat):Int),name,0,0,0,0,0,[])) ⟨by simp,w7,⟨rfl,rfl⟩,rfl,⟨λx hx=>absurd hx not_mem_nil,List.Pairwise.nil,by simp⟩⟩
 obtain⟨dc,dp,ds,did,dn,n6,n7,n8,n9,n10,df⟩:=d;simp only at g1 g2 g3 g4;obtain⟨rfl,rfl⟩:=g2;simp only[Prod.mk.injEq]at g3;obtain⟨rfl,rfl,rfl,rfl,rfl⟩:=g3;obtain⟨c8,st,e8,w8⟩:=Hv g1 3;obtain⟨z1,z2,z3,z4⟩:=a6.len;have hin:∀n:Nat,n<=1000000->uE (n:Int) 0 1000000=true:=λn hn=>by unfold uE;rw[dT (by omega),dT (by omega)];rfl
 have hlast:∀(c:uM) (F:List uF),CW c->FB F->∃c' b,((aa c 5).bind λt59=>(af t59.1 ([0,1,5,1000000]:List Int)).bind λt63=>some (t63.1,((((q+1:Nat):Int),dn,pts,F,v.1,v.2,t59.2,0,0,0,t63.2):uz)))=some (c',b)/\CW c'/\xt b/\vk b=true/\Rs b:=by
  intro c F hc hF;obtain⟨k1,t,f1,u1,b1⟩:=wI hc (n:=5) (by decide);have f1':aa c 5=some (k1,(t:Int)):=f1
  obtain⟨k2,x,f2,u2,b2⟩:=yJ u1 (l:=[0,1,5,1000000]) (by decide);have hx:uE x 0 1000000=true:=by
   have:∀x∈([0,1,5,1000000]:List Int),uE x 0 1000000=true:=by decide
   exact this x b2
  have hFn:=hF.n;rw[f1',an,f2,an];refine⟨_,_,rfl,u2,⟨by show pts.length<_;omega,by show F.length<_;omega,by show v.1.length<_;omega,by show v.2.length<_;omega,a6.r⟩,?_,rfl,rfl,rfl⟩;unfold vk xa;show (!((List.range pts.length).any (CZ pts))&&(uE ((q+1:Nat):Int) 1 99&&(!(decide ((dn.length:Int)>10))&&(uE (pts.length:Int) 1 6&&(zZ F&&(xI v (pts.length:Int)&&(uE (t:Int) 0 1000000&&(uE 0 0 1000000&&(uE 0 0 1000000&&(uE 0 0 1000000&&uE x 0 1000000))))))))))=true
  have q1:(List.range pts.length).any (CZ pts)=false:=by
   apply Bool.eq_false_iff.2;intro ha;obtain⟨k,hk,hx⟩:=any_eq_true.1 ha;have hk:=mem_range.1 hk
   unfold CZ at hx;simp only[List.getElem?_eq_getElem hk,a5 _ (getElem_mem hk)]at hx
   revert hx;decide
  have q2:uE ((q+1:Nat):Int) 1 99=true:=by unfold uE;rw[dT (by omega),dT (by omega)];rfl
  have q3:decide ((dn.length:Int)>10)=false:=dF (by omega);have q4:uE (pts.length:Int) 1 6=true:=by unfold uE;rw[dT (by omega),dT (by omega)];rfl
  rw[q1,q2,q3,q4,hF.ok,l5,a6.p,hin t (by omega),hx];rfl
 have e8':bo (dc,dp,ds) 3=some (c8,st):=e8;unfold cD;rw[e1',an];show ∃c' b,((aa c1 5).bind _)=_/\_
 rw[e2',an];show ∃c' b,((fa (uB (1+(q:Int))) (uB (1+(p:Int)))).bind _)=_/\_
 rw[hp,hq,e3,an,e4,an];show ∃c' b,((cw c4 ((p+1:Nat):Int)).bind _)=_/\_
 rw[e5,an];show ∃c' b,((cz c5 ((p+1:Nat):Int)).bind _)=_/\_
 rw[e6,an];show ∃c' b,((aa c6 6).bind _)=_/\_
 rw[e7',an];show ∃c' b,((loop _ ((m:Int),c7.1,c7.2.1,c7.2.2,((q+1:Nat):Int),dn,0,0,0,0,0,[])).bind _)=_/\_
 rw[hd,an];show ∃c' b,((bo (dc,dp,ds) 3).bind _)=_/\_
 rw[e8',an];cases st with
 | false =>
  show ∃c' b,((aa c8 5).bind _)=_/\_;exact hlast c8 df w8 g4
 | true =>
  obtain⟨k1,x1,f1,u1⟩:=JS w8;obtain⟨k2,x2,f2,u2,_⟩:=x7 u1 ((p+1:Nat):Int);obtain⟨F,ok,f3,hF⟩:=KQ g4 1 x1 x2;show ∃c' b,((bE c8).bind _)=_/\_
  rw[f1,an];show ∃c' b,((aa k1 ((p+1:Nat):Int)).bind _)=_/\_
  rw[f2,an];show ∃c' b,((dJ df 1 x1 x2).bind _)=_/\_
  rw[f3,an];exact hlast k2 F u2 hF
theorem Qc {c:uM} (h:CW c):∃c' b,cD c=some (c',b)/\CW c'/\xt b/\vk b=true:=by
 obtain⟨c',b,h1,h2,h3,h4,_⟩:=HX h;exact⟨c',b,h1,h2,h3,h4⟩

noncomputable def EF (b:uz) (c p:Int):Int:=(cn b c p).getD 0
def num (name:List Int) (n:Int):uC:=([1,3,1]++name,2,n,[],[])
def FD (r:uQ) (c:Nat):Int:=match c with|0=>1|1=>r.2.1|_=>r.2.2
noncomputable def xJ (b:uz) (c:Nat):List uC:=(List.range b.2.2.1.length).map λk=>num [2,((c+1:Nat):Int),((k+1:Nat):Int)] (EF b ((c+1:Nat):Int) (k:Int))
def yK (b:uz) (c:Nat):List uC:=b.2.2.2.2.1.map λr=>num [3,((c+1:Nat):Int),r.1] (FD r c)
def DL (b:uz):List uC:=b.2.2.2.1.map λe=>num [4,1,e.1,e.2.1] (uB (e.2.2.1+1))
noncomputable def xG (b:uz):List uC:=B1 b++(List.range 4).flatMap (xJ b)++(List.range 3).flatMap (yK b)++DL b
theorem GG {out:List uC} (name:List Int) (n i:Int) (h1:out.length<=900) (h2:name.length<=900):((bg n).bind λv=>(aL v name).bind λt=>(uV out [t]).bind λzs=>some (Sum.inl (uB (i+1),zs):(Int×List uC)⊕List uC))=some (Sum.inl (uB (i+1),out++[num name n])):=by
 unfold bg aL;rw[an,uG (by show 3+name.length<=_;omega),an,an,uG (by show out.length+1<=_;omega),an];rfl
theorem SG {b:uz} (h:xt b) (hq:b.2.2.1.length=b.2.2.2.2.2.1.length) (h6:b.2.2.1.length<=6) (c:Nat) (out:List uC) (ho:out.length<=500):loop (λz=>bN b ((c+1:Nat):Int) z.1 z.2) (0,out)=some (out++xJ b c):=by
 obtain⟨v,h1,rfl⟩:=uS (step:=λz:Int×List uC=>bN b ((c+1:Nat):Int) z.1 z.2) (λk z=>z.1=(k:Int)/\z.2=out++(List.range k).map λk=>num [2,((c+1:Nat):Int),((k+1:Nat):Int)] (EF b ((c+1:Nat):Int) (k:Int))) b.2.2.1.length (λv=>v=out++xJ b c)
  (λk z hk ⟨e1,e2⟩=>by
   obtain⟨i,l⟩:=z;simp only at e1 e2;subst e1;left;obtain⟨n,hn⟩:=Sy h ((c+1:Nat):Int) hk hq;have hv:EF b ((c+1:Nat):Int) (k:Int)=n:=by unfold EF;rw[hn];rfl
   have hl:l.length<=900:=by rw[e2];simp;omega
   refine⟨(((k+1:Nat):Int),l++[num [2,((c+1:Nat):Int),((k+1:Nat):Int)] n]),?_,rfl,?_⟩
   · show bN b ((c+1:Nat):Int) (k:Int) l=_;unfold bN;rw[vj (by omega),cT,hn,an,GG _ _ _ hl (by simp),uL (by omega)]
   · show l++[num _ n]=_;rw[e2,range_succ,map_append,←append_assoc,List.map_singleton,hv])
  (λz ⟨e1,e2⟩=>by
   obtain⟨i,l⟩:=z;simp only at e1 e2;subst e1;refine⟨l,?_,e2⟩;show bN b ((c+1:Nat):Int) _ l=_
   unfold bN;rw[vd (by omega),cF]) (x:=(0,out)) ⟨rfl,by simp⟩
 exact h1
theorem Rt {b:uz} (h:xt b) (hq:b.2.2.1.length=b.2.2.2.2.2.1.length) (h6:b.2.2.1.length<=6) (out:List uC) (ho:out.length<=100):loop (λz=>co b z.1 z.2) (1,out)=some (out++(List.range 4).flatMap (xJ b)):=by
 have hg:∀c,(xJ b c).length<=6:=λc=>by unfold xJ;rw[length_map,List.length_range];exact h6
 obtain⟨v,h1,rfl⟩:=uS (step:=λz:Int×List uC=>co b z.1 z.2) (λk z=>z.1=((k+1:Nat):Int)/\z.2=out++(List.range k).flatMap (xJ b)/\z.2.length<=100+6*k) 4 (λv=>v=out++(List.range 4).flatMap (xJ b))
  (λk z hk ⟨e1,e2,e3⟩=>by
   obtain⟨i,l⟩:=z;simp only at e1 e2 e3;subst e1;left;have hg':=hg k
   refine⟨(((k+1+1:Nat):Int),l++xJ b k),?_,rfl,?_,by show (l++xJ b k).length<=_;rw[length_append];omega⟩
   · show co b ((k+1:Nat):Int) l=_;unfold co;rw[dT (show ((k+1:Nat):Int)<=4 by omega),cT,SG h hq h6 k l (by omega),an,uL (by omega)]
   · show l++xJ b k=_;rw[e2,range_succ,List.flatMap_append,←append_assoc];simp)
  (λz ⟨e1,e2,e3⟩=>by
   obtain⟨i,l⟩:=z;simp only at e1 e2 e3;subst e1;exact⟨l,rfl,e2⟩) (x:=(1,out)) ⟨rfl,by simp,by show out.length<=_;omega⟩
 exact h1
theorem TA {b:uz} (h6:b.2.2.2.2.1.length<=6) {c:Nat} (hc:c<3) (out:List uC) (ho:out.length<=500):loop (λz=>bO b ((c+1:Nat):Int) z.1 z.2) (0,out)=some (out++yK b c):=by
 obtain⟨v,h1,rfl⟩:=uS (step:=λz:Int×List uC=>bO b ((c+1:Nat):Int) z.1 z.2) (λk z=>z.1=(k:Int)/\z.2=out++(b.2.2.2.2.1.take k).map λr=>num [3,((c+1:Nat):Int),r.1] (FD r c)) b.2.2.2.2.1.length (λv=>v=out++yK b c)
  (λk z hk ⟨e1,e2⟩=>by
   obtain⟨i,l⟩:=z;simp only at e1 e2;subst e1;left;have hl:l.length<=900:=by rw[e2];simp;omega
   refine⟨(((k+1:Nat):Int),l++[num [3,((c+1:Nat):Int),b.2.2.2.2.1[k].1] (FD b.2.2.2.2.1[k] c)]),?_,rfl,?_⟩
   · show bO b ((c+1:Nat):Int) (k:Int) l=_;unfold bO;rw[vj (by omega),cT,uO hk,an];generalize b.2.2.2.2.1[k]=r;have hw:uB (((c+1:Nat):Int)-1)=(c:Int):=by rw[uX (by omega) (by omega)];omega
     have hx:(ix [1,r.2.1,r.2.2].length (uB (((c+1:Nat):Int)-1))).bind (λj91=>([1,r.2.1,r.2.2][j91]?).bind λx92=>(bg x92).bind λt93=>(aL t93 [3,((c+1:Nat):Int),r.1]).bind λt98=>(uV l [t98]).bind λzs100=>some (Sum.inl (uB ((k:Int)+1),zs100):(Int×List uC)⊕List uC))=(bg (FD r c)).bind λt93=>(aL t93 [3,((c+1:Nat):Int),r.1]).bind λt98=>(uV l [t98]).bind λzs100=>some (Sum.inl (uB ((k:Int)+1),zs100)):=by
      rw[hw,xh (show c<[1,r.2.1,r.2.2].length from hc),an];rcases (show c=0\/c=1\/c=2 by omega)with rfl|rfl|rfl<;>rfl
     rw[hx,GG _ _ _ hl (by simp),uL (by omega)]
   · show l++[num _ _]=_;rw[e2,take_add_one,List.getElem?_eq_getElem hk,map_append,←append_assoc];rfl)
  (λz ⟨e1,e2⟩=>by
   obtain⟨i,l⟩:=z;simp only at e1 e2;subst e1;rw[take_length]at e2;refine⟨l,?_,e2⟩;show bO b ((c+1:Nat):Int) _ l=_
   unfold bO;rw[vd (by omega),cF]) (x:=(0,out)) ⟨rfl,by simp⟩
 exact h1
theorem SH {b:uz} (h6:b.2.2.2.2.1.length<=6) (out:List uC) (ho:out.length<=200):loop (λz=>cp b z.1 z.2) (1,out)=some (out++(List.range 3).flatMap (yK b)):=by
 have hg:∀c,(yK b c).length<=6:=λc=>by unfold yK;rw[length_map];exact h6
 obtain⟨v,h1,rfl⟩:=uS (step:=λz:Int×List uC=>cp b z.1 z.2) (λk z=>z.1=((k+1:Nat):Int)/\z.2=out++(List.range k).flatMap (yK b)/\z.2.length<=200+6*k) 3 (λv=>v=out++(List.range 3).flatMap (yK b))
  (λk z hk ⟨e1,e2,e3⟩=>by
   obtain⟨i,l⟩:=z;simp only at e1 e2 e3;subst e1;left;have hg':=hg k
   refine⟨(((k+1+1:Nat):Int),l++yK b k),?_,rfl,?_,by show (l++yK b k).length<=_;rw[length_append];omega⟩
   · show cp b ((k+1:Nat):Int) l=_;unfold cp;rw[dT (show ((k+1:Nat):Int)<=3 by omega),cT,TA h6 hk l (by omega),an,uL (by omega)]
   · show l++yK b k=_;rw[e2,range_succ,List.flatMap_append,←append_assoc];simp)
  (λz ⟨e1,e2,e3⟩=>by
   obtain⟨i,l⟩:=z;simp only at e1 e2 e3;subst e1;exact⟨l,rfl,e2⟩) (x:=(1,out)) ⟨rfl,by simp,by show out.length<=_;omega⟩
 exact h1
theorem TB {b:uz} (h12:b.2.2.2.1.length<=12) (out:List uC) (ho:out.length<=500):loop (λz=>bz b z.1 z.2) (0,out)=some (out++DL b):=by
 obtain⟨v,h1,rfl⟩:=uS (step:=λz:Int×List uC=>bz b z.1 z.2) (λk z=>z.1=(k:Int)/\z.2=out++(b.2.2.2.1.take k).map λe=>num [4,1,e.1,e.2.1] (uB (e.2.2.1+1))) b.2.2.2.1.length (λv=>v=out++DL b)
  (λk z hk ⟨e1,e2⟩=>by
   obtain⟨i,l⟩:=z;simp only at e1 e2;subst e1;left;have hl:l.length<=900:=by rw[e2];simp;omega
   refine⟨(((k+1:Nat):Int),l++[num [4,1,b.2.2.2.1[k].1,b.2.2.2.1[k].2.1] (uB (b.2.2.2.1[k].2.2.1+1))]),?_,rfl,?_⟩
   · show bz b (k:Int) l=_;unfold bz;rw[vj (by omega),cT,uO hk,an,GG _ _ _ hl (by simp),uL (by omega)]
   · show l++[num _ _]=_;rw[e2,take_add_one,List.getElem?_eq_getElem hk,map_append,←append_assoc];rfl)
  (λz ⟨e1,e2⟩=>by
   obtain⟨i,l⟩:=z;simp only at e1 e2;subst e1;rw[take_length]at e2;refine⟨l,?_,e2⟩;show bz b _ l=_
   unfold bz;rw[vd (by omega),cF]) (x:=(0,out)) ⟨rfl,by simp⟩
 exact h1
structure vB (b:uz):Prop where
 w:xt b
 ok:vk b=true
 p:∀x∈b.2.2.1,zl x=true
 id:uE b.1 1 99=true
 name:b.2.1.length<=10
 n1:1<=b.2.2.1.length
 n6:b.2.2.1.length<=6
 f:zZ b.2.2.2.1=true
 v:xI (b.2.2.2.2.1,b.2.2.2.2.2.1) (b.2.2.1.length:Int)=true
 c:xa b=true
theorem By {b:uz} (h:xt b) (hb:vk b=true):vB b:=by
 have hb':=hb;unfold vk at hb;simp only[aT,Bool.not_eq_true',decide_eq_false_iff_not]at hb;obtain⟨h1,h2,h3,h4,h5,h6,h7⟩:=hb;refine⟨h,hb',λx hx=>?_,h2,by omega,?_,?_,h5,h6,h7⟩
 · obtain⟨k,hk,rfl⟩:=getElem_of_mem hx;cases hp:zl b.2.2.1[k]with
   | true=>rfl
   | false =>
    have:=any_eq_false.1 h1 k (mem_range.2 hk);unfold CZ at this;simp only[List.getElem?_eq_getElem hk,hp]at this;exact absurd rfl this
 · unfold uE at h4;simp only[aT,decide_eq_true_eq]at h4;omega
 · unfold uE at h4;simp only[aT,decide_eq_true_eq]at h4;omega
theorem vB.vt {b:uz} (h:vB b):VT (b.2.2.2.2.1,b.2.2.2.2.2.1) b.2.2.1.length:=⟨h.v,h.w.r⟩
theorem vB.f12 {b:uz} (h:vB b):b.2.2.2.1.length<=12:=by
 have hf:=h.f;unfold zZ at hf;simp only[aT,decide_eq_true_eq]at hf;omega
theorem OA {b:uz} (h:vB b):bP b=some (xG b):=by
 obtain⟨v1,v2,v3,v4⟩:=h.vt.len;have v3':b.2.2.2.2.2.1.length=b.2.2.1.length:=v3
 have v4':b.2.2.2.2.1.length<=6:=v4;have hp:((List.range 4).flatMap (xJ b)).length<=24:=by
  have hg:∀c,(xJ b c).length<=6:=λc=>by unfold xJ;rw[length_map,List.length_range];exact h.n6
  have h0:=hg 0;have h1:=hg 1;have h2:=hg 2;have h3:=hg 3
  show (xJ b 0++(xJ b 1++(xJ b 2++(xJ b 3++[])))).length<=24;simp only[length_append,List.length_nil];omega
 have hr:((List.range 3).flatMap (yK b)).length<=18:=by
  have hg:∀c,(yK b c).length<=6:=λc=>by unfold yK;rw[length_map];exact v4'
  have h0:=hg 0;have h1:=hg 1;have h2:=hg 2
  show (yK b 0++(yK b 1++(yK b 2++[]))).length<=18;simp only[length_append,List.length_nil];omega
 have k5:(B1 b).length=5:=rfl;rw[Rg h.w,h.ok,Bool.not_true,cF];unfold FX;rw[Rt h.w v3'.symm h.n6 (B1 b) (by omega),an,SH v4' _ (by rw[length_append];omega),an,TB h.f12 _ (by rw[length_append,length_append];omega),an];rfl

theorem EG {α:Type} {R:α->α->Prop} (tr:∀a b c,R a b->R b c->R a c) {l:List α} (h:∀k (hk:k+1<l.length),R l[k] l[k+1]):l.Pairwise R:=by
 rw[pairwise_iff_getElem];intro i j hi hj hij
 induction j with
 | zero=>omega
 | succ j ih =>
  by_cases e:i=j
  · subst e;exact h i hj
  · exact tr _ _ _ (ih (by omega) (by omega)) (h j hj)
def GH (g c:Int) (x:uC):Prop:=∃t,x.1=1::3::1::g::c::t
theorem BE {g c g' c':Int} {x y:uC} (hx:GH g c x) (hy:GH g' c' y) (h:g<g'\/(g=g'/\c<c')):x.1<y.1:=by
 obtain⟨t,ht⟩:=hx;obtain⟨s,hs⟩:=hy;rw[ht,hs];simp only[cons_lt_cons_iff,Int.lt_irrefl,false_or,true_and];rcases h with h|⟨h,k⟩
 · exact .inl h
 · exact .inr ⟨h,.inl k⟩
theorem Cp {b:uz} {c:Nat} {x:uC} (h:x∈xJ b c):GH 2 ((c+1:Nat):Int) x:=by
 unfold xJ at h;obtain⟨k,_,rfl⟩:=mem_map.1 h;exact⟨_,rfl⟩
theorem Ds {b:uz} {c:Nat} {x:uC} (h:x∈yK b c):GH 3 ((c+1:Nat):Int) x:=by
 unfold yK at h;obtain⟨k,_,rfl⟩:=mem_map.1 h;exact⟨_,rfl⟩
theorem FE {b:uz} {x:uC} (h:x∈DL b):GH 4 1 x:=by
 unfold DL at h;obtain⟨k,_,rfl⟩:=mem_map.1 h;exact⟨_,rfl⟩
theorem FF {b:uz} {x:uC} (h:x∈B1 b):∃c,GH 1 c x:=by
 unfold B1 at h;simp only[mem_cons,not_mem_nil,or_false]at h;rcases h with rfl|rfl|rfl|rfl|rfl<;>exact⟨_,_,rfl⟩
theorem Me (b:uz) (c:Nat):(xJ b c).Pairwise λx y=>x.1<y.1:=by
 unfold xJ;rw[List.pairwise_map];refine List.Pairwise.imp ?_ List.pairwise_lt_range;intro i j h;show (1::3::1::2::((c+1:Nat):Int)::((i+1:Nat):Int)::[])<(1::3::1::2::((c+1:Nat):Int)::((j+1:Nat):Int)::[])
 simp only[cons_lt_cons_iff,Int.lt_irrefl,false_or,true_and];exact .inl (by omega)
theorem IC {b:uz} (h:vB b):b.2.2.2.2.1.Pairwise λr s=>r.1<s.1:=by
 refine EG (R:=λ(r s:uQ)=>r.1<s.1) (λ_ _ _ h k=>Int.lt_trans h k) λk hk=>?_;have hv:=h.v
 unfold xI at hv;simp only[aT,Bool.not_eq_true']at hv;have hx:=any_eq_false.1 hv.2.1 (k+1) (mem_range.2 hk)
 unfold B0 at hx;simp only[List.getElem?_eq_getElem hk,Nat.add_sub_cancel,List.getElem?_eq_getElem (show k<b.2.2.2.2.1.length by omega),Bool.or_eq_true,aT,decide_eq_true_eq,not_or,not_and]at hx;have:=hx.2.1 (by omega)
 omega
theorem Ny {b:uz} (h:vB b) (c:Nat):(yK b c).Pairwise λx y=>x.1<y.1:=by
 unfold yK;rw[List.pairwise_map];refine List.Pairwise.imp ?_ (IC h);intro r s h;show (1::3::1::3::((c+1:Nat):Int)::r.1::[])<(1::3::1::3::((c+1:Nat):Int)::s.1::[])
 simp only[cons_lt_cons_iff,Int.lt_irrefl,false_or,true_and];exact .inl h
theorem OB {b:uz} (h:vB b):b.2.2.2.1.Pairwise lt:=by
 refine EG (R:=lt) (λ_ _ _=>lt_trans) λk hk=>?_;have hv:=h.f
 unfold zZ at hv;simp only[aT,Bool.not_eq_true']at hv;have hx:=any_eq_false.1 hv.1 (k+1) (mem_range.2 hk)
 unfold A3 at hx;simp only[List.getElem?_eq_getElem hk,Nat.add_sub_cancel,List.getElem?_eq_getElem (show k<b.2.2.2.1.length by omega),Bool.or_eq_true,aT,decide_eq_true_eq,not_or,not_and,Bool.not_eq_true',Bool.not_eq_false]at hx;have hp:=hx.2 (by omega)
 unfold xB at hp;simp only[Bool.or_eq_true,aT,decide_eq_true_eq,beq_iff_eq]at hp;unfold lt;omega
theorem OC {b:uz} (h:vB b):(DL b).Pairwise λx y=>x.1<y.1:=by
 unfold DL;rw[List.pairwise_map];refine List.Pairwise.imp ?_ (OB h);intro r s h;show (1::3::1::4::1::r.1::r.2.1::[])<(1::3::1::4::1::s.1::s.2.1::[])
 unfold lt at h;simp only[cons_lt_cons_iff,Int.lt_irrefl,false_or,true_and];rcases h with h|⟨h,k⟩
 · exact .inl h
 · exact .inr ⟨h,.inl k⟩
theorem Nz (b:uz):(B1 b).Pairwise λx y=>x.1<y.1:=by
 unfold B1;simp only[List.pairwise_cons,mem_cons,not_mem_nil,or_false,forall_eq_or_imp,forall_eq,List.Pairwise.nil,and_true,false_imp_iff,implies_true,cons_lt_cons_iff,Int.lt_irrefl,false_or,true_and];refine⟨⟨.inl (by decide),.inl (by decide),.inl (by decide),.inl (by decide)⟩,⟨.inl (by decide),.inl (by decide),.inl (by decide)⟩,⟨.inl (by decide),.inl (by decide)⟩,.inl (by decide)⟩
theorem SI {α:Type} (f:Nat->List α):(List.range 4).flatMap f=f 0++(f 1++(f 2++(f 3++[]))):=rfl
theorem SJ {α:Type} (f:Nat->List α):(List.range 3).flatMap f=f 0++(f 1++(f 2++[])):=rfl
theorem Hw {n:Nat} {f:Nat->List uC} {g:Int} (hp:∀c,(f c).Pairwise λx y=>x.1<y.1) (hh:∀c x,x∈f c->GH g ((c+1:Nat):Int) x):((List.range n).flatMap f).Pairwise λx y=>x.1<y.1:=by
 induction n with
 | zero=>exact List.Pairwise.nil
 | succ n ih =>
  rw[range_succ,List.flatMap_append,pairwise_append];refine⟨ih,by simp;exact hp n,λx hx y hy=>?_⟩;obtain⟨c,hc,hx⟩:=mem_flatMap.1 hx;have hc:=mem_range.1 hc
  simp at hy;exact BE (hh c x hx) (hh n y hy) (.inr ⟨rfl,by omega⟩)
theorem OD {b:uz} (h:vB b):(xG b).Pairwise λx y=>x.1<y.1:=by
 unfold xG;rw[pairwise_append,pairwise_append,pairwise_append];refine⟨⟨⟨Nz b,Hw (Me b) (λc x=>Cp),λx hx y hy=>?_⟩,Hw (Ny h) (λc x=>Ds),λx hx y hy=>?_⟩,OC h,λx hx y hy=>?_⟩
 · obtain⟨c,hc⟩:=FF hx;obtain⟨d,_,hy⟩:=mem_flatMap.1 hy;exact BE hc (Cp hy) (.inl (by decide))
 · obtain⟨d,_,hy⟩:=mem_flatMap.1 hy;rcases mem_append.1 hx with hx|hx
   · obtain⟨c,hc⟩:=FF hx;exact BE hc (Ds hy) (.inl (by decide))
   · obtain⟨e,_,hx⟩:=mem_flatMap.1 hx;exact BE (Cp hx) (Ds hy) (.inl (by decide))
 · rcases mem_append.1 hx with hx|hx
   · rcases mem_append.1 hx with hx|hx
     · obtain⟨c,hc⟩:=FF hx;exact BE hc (FE hy) (.inl (by decide))
     · obtain⟨e,_,hx⟩:=mem_flatMap.1 hx;exact BE (Cp hx) (FE hy) (.inl (by decide))
   · obtain⟨e,_,hx⟩:=mem_flatMap.1 hx;exact BE (Ds hx) (FE hy) (.inl (by decide))
theorem Ru (p s t:List Int) {x y:Int} (h:x≠y):(p++x::s<p++y::t)↔x<y:=by
 induction p with
 | nil =>
  simp only[nil_append,cons_lt_cons_iff];exact⟨λk=>k.elim id λk=>absurd k.1 h,.inl⟩
 | cons a p ih=>simp only[List.cons_append,cons_lt_cons_iff,ih,Int.lt_irrefl,false_or,true_and]
theorem Qd (p:List Int) {s:List Int} (h:s≠[]):p<p++s:=by
 induction p with
 | nil=>cases s with
  | nil=>exact absurd rfl h
  | cons a s=>exact List.nil_lt_cons a s
 | cons a p ih=>simp only[List.cons_append,cons_lt_cons_iff,Int.lt_irrefl,false_or,true_and];exact ih
theorem Qe (p s:List Int):¬p++s<p:=by
 induction p with
 | nil=>exact List.not_lt_nil s
 | cons a p ih=>simp only[List.cons_append,cons_lt_cons_iff,Int.lt_irrefl,false_or,true_and];exact ih
theorem Pi {a b:List Int} (h:b.length<9223372036854775807):ga a b=some (decide (a<b)):=by
 have hsplit:∀k,a.take k=b.take k->∀(ha:k<a.length) (hb:k<b.length),a=a.take k++a[k]::a.drop (k+1)/\b=a.take k++b[k]::b.drop (k+1):=by
  intro k e ha hb;refine⟨?_,?_⟩
  · rw[←List.drop_eq_getElem_cons ha,take_append_drop]
  · rw[e,←List.drop_eq_getElem_cons hb,take_append_drop]
 obtain⟨v,h1,h2⟩:=uS (step:=λz=>eE a b z) (λk i=>i=(k:Int)/\a.take k=b.take k) (min a.length b.length) (λv=>(v=.inr (decide (a<b)))\/(v=.inl ()/\decide ((a.length:Int)<(b.length:Int))=decide (a<b)))
  (λk i hk ⟨e,ht⟩=>by
   subst e;have ha:k<a.length:=by omega
   have hb:k<b.length:=by omega
   have hs:eE a b (k:Int)=cond (a[k] != b[k]) (some (.inr (.inr (decide (a[k]<b[k]))))) (some (.inl ((k+1:Nat):Int))):=by
    unfold eE;rw[vj (show (k:Int)<(a.length:Int) by omega),vj (show (k:Int)<(b.length:Int) by omega),cT,an,cT,uO ha,an,uO hb,an,uL (by omega),an,an]
   obtain⟨s1,s2⟩:=hsplit k ht ha hb;by_cases hne:a[k]=b[k]
   · refine .inl ⟨_,by rw[hs,show (a[k] != b[k])=false by simp[hne]];rfl,rfl,?_⟩;rw[take_add_one,take_add_one,List.getElem?_eq_getElem ha,List.getElem?_eq_getElem hb,ht,hne]
   · refine .inr ⟨_,by rw[hs,show (a[k] != b[k])=true from bne_iff_ne.2 hne];rfl,.inl ?_⟩
     congr 1
     apply decide_eq_decide.2;have:=Ru (a.take k) (a.drop (k+1)) (b.drop (k+1)) hne
     rw[←s1,←s2]at this;exact this.symm)
  (λi ⟨e,ht⟩=>by
   subst e;refine⟨.inl (),?_,.inr ⟨rfl,?_⟩⟩
   · show eE a b _=_;unfold eE;by_cases h:a.length<=b.length
     · rw[Nat.min_eq_left h,vd (by omega)];rfl
     · rw[Nat.min_eq_right (by omega),vj (by omega),vd (show ¬(b.length:Int)<(b.length:Int) by omega)];rfl
   · apply decide_eq_decide.2;by_cases h:a.length<=b.length
     · rw[Nat.min_eq_left h,take_length]at ht;have hb:b=a++b.drop a.length:=by
        have:=take_append_drop a.length b;rw[←ht]at this;exact this.symm
       constructor
       · intro hlt;have hd:b.drop a.length≠[]:=by
          intro h0;have:=congrArg List.length h0
          rw[List.length_drop]at this;simp at this;omega
         have:=Qd a hd;rw[←hb]at this;exact this
       · intro hlt;by_cases he:a.length=b.length
         · have hd:b.drop a.length=[]:=List.drop_eq_nil_of_le (by omega);rw[hd,List.append_nil]at hb;rw[hb]at hlt;exact absurd hlt (List.lt_irrefl _)
         · omega
     · rw[Nat.min_eq_right (by omega),take_length]at ht;have ha:a=b++a.drop b.length:=by
        have:=take_append_drop b.length a;rw[ht]at this;exact this.symm
       constructor
       · intro hlt;omega
       · intro hlt;have:=Qe b (a.drop b.length)
         rw[←ha]at this;exact absurd hlt this) (x:=0) ⟨rfl,by simp⟩
 unfold ga;rw[h1,an];rcases h2 with rfl|⟨rfl,h2⟩
 · rfl
 · show some (decide _)=_;rw[h2]

theorem Bu {a b:List Int} (h:b.length<9223372036854775807):ay a b=some (a==b):=by
 unfold ay;by_cases hl:a.length=b.length
 · have e:((a.length:Int) != (b.length:Int))=false:=by rw[hl];simp
   rw[e,cF];obtain⟨v,h1,rfl⟩:=uS (step:=λz=>eh a b z) (λk i=>i=(k:Int)/\a.take k=b.take k) a.length (λv=>v=cond (a==b) (.inl ()) (.inr false))
    (λk i hk ⟨e,ht⟩=>by
     subst e;have hb:k<b.length:=by omega
     have hs:eh a b (k:Int)=cond (a[k] != b[k]) (some (.inr (.inr false))) (some (.inl ((k+1:Nat):Int))):=by
      unfold eh;rw[vj (by omega),cT,uO hk,an,uO hb,an,uL (by omega)]
     by_cases hne:a[k]=b[k]
     · refine .inl ⟨_,by rw[hs,show (a[k] != b[k])=false by simp[hne]];rfl,rfl,?_⟩;rw[take_add_one,take_add_one,List.getElem?_eq_getElem hk,List.getElem?_eq_getElem hb,ht,hne]
     · refine .inr ⟨_,by rw[hs,show (a[k] != b[k])=true from bne_iff_ne.2 hne];rfl,?_⟩;have:(a==b)=false:=by
        apply beq_eq_false_iff_ne.2;intro hab;subst hab;exact hne rfl
       rw[this];rfl)
    (λi ⟨e,ht⟩=>by
     subst e;have hab:a=b:=by
      rw[take_length,List.take_of_length_le (by omega)]at ht;exact ht
     exact⟨.inl (),by show eh a b _=_;unfold eh;rw[vd (by omega),cF],by rw[show (a==b)=true from beq_iff_eq.2 hab];rfl⟩) (x:=0) ⟨rfl,by simp⟩
   rw[h1,an];cases (a==b)<;>rfl
 · have e:((a.length:Int) != (b.length:Int))=true:=by simp;omega
   have hne:(a==b)=false:=beq_eq_false_iff_ne.2 λh=>hl (by rw[h]);rw[e,cT,hne]
theorem Rv {v:yj} (h:v.2.2.2.length<9223372036854775807):aK v v=some true:=by
 unfold aK;rw[Bu h];simp
structure Nm (o:List Int):Prop where
 n1:1<=o.length
 n10:o.length<=10
 e:∀x∈o,uE x 0 100000=true
theorem Nm.ok {o:List Int} (h:Nm o):am o=some true:=by
 have h10:=h.n10;have h1:=h.n1
 unfold am;obtain⟨v,e,rfl⟩:=uS (step:=λz=>aU o z) (λk i=>i=(k:Int)) o.length (λv=>v=.inl ())
  (λk i hk e=>by
   subst e;refine .inl ⟨((k+1:Nat):Int),?_,rfl⟩;show aU o (k:Int)=_
   unfold aU;rw[vj (by omega),cT,uO hk,an,xU,an,h.e _ (getElem_mem hk),uL (by omega)];rfl)
  (λi e=>by
   subst e;exact⟨.inl (),by show aU o _=_;unfold aU;rw[vd (by omega),cF],rfl⟩) (x:=0) rfl
 rw[e,an];show ((ac (o.length:Int) 1 10).bind λt=>some t)=_
 rw[xU,an];unfold uE;rw[dT (by omega),dT (by omega)];rfl
inductive Vl:yj->Prop
 | num {n:Int} (h:uE n (-2147483648) 2147483647=true):Vl (2,n,[],[])
 | word {s:List UInt8} (h:s.length<=20):Vl (4,0,s,[])
theorem Vl.ok {v:yj} (h:Vl v):ao v=some true:=by
 cases h with
 | num h =>
  unfold ao aC aK;simp only[xU,h,an,Bu (show ([]:List Int).length<9223372036854775807 by decide)];simp
 | word h =>
  rename_i s;have hd:decide ((s.length:Int)<=20)=true:=dT (by omega)
  unfold ao aK;simp only[hd,an,Bu (show ([]:List Int).length<9223372036854775807 by decide)];simp
theorem Vl.k {v:yj} (h:Vl v):(v.1==128)=false:=by cases h<;>rfl
theorem Vl.o {v:yj} (h:Vl v):v.2.2.2=[]:=by cases h<;>rfl
theorem FG {n:Int} (h1:0<=n) (h2:n<=2147483647):uE n (-2147483648) 2147483647=true:=by unfold uE;rw[dT (by omega),dT (by omega)];rfl
theorem AH {n a c:Int} (h1:a<=n) (h2:n<=c):uE n a c=true:=by unfold uE;rw[dT (by omega),dT (by omega)];rfl
theorem EX {n a c:Int} (h:uE n a c=true):a<=n/\n<=c:=by
 unfold uE at h;simp only[aT,decide_eq_true_eq]at h;exact h
theorem Rw {v:vv} (hn:v.1.length<9223372036854775807) {id r:Int} (h:aj v id=some r) (h0:¬r<0):∃x∈v.1,x.1=id:=by
 unfold aj at h;obtain⟨b,h1,h2⟩:=uS (β:=Unit⊕Int) (step:=λz=>aJ v id z) (λk i=>i=(k:Int)) v.1.length (λb=>∀r,b=.inr r->∃x∈v.1,x.1=id)
  (λk i hk h=>by
   subst h;unfold aJ;rw[vj (by omega),cT,uO hk,an];cases hb:(v.1[k].1==id)with
   | true=>exact .inr ⟨_,rfl,λr hr=>⟨_,getElem_mem hk,eq_of_beq hb⟩⟩
   | false=>exact .inl ⟨_,rfl,uL (by omega)⟩)
  (λi h=>by
   subst h;unfold aJ;rw[vd (by omega)];exact⟨_,rfl,λr hr=>by cases hr⟩) (x:=0) rfl
 rw[h1,an]at h;cases b with
 | inl _=>cases h;exact absurd (by decide) h0
 | inr r'=>exact h2 r' rfl
theorem Qf {id:Int} {l:List Pt} {p v:Int} (h:aY id l p=some v):1<=v/\v<=4:=by
 unfold aY at h;rw[xU,an]at h;have key:∀(o:Option Bool) (f:Bool->Option Int),(∀t x,f t=some x->1<=x/\x<=4)->o.bind f=some v->1<=v/\v<=4:=by
  intro o f hf h;cases o with
  | none=>cases h
  | some t=>exact hf t v h
 refine key _ _ (λt x hx=>?_) h;cases t with
 | true=>cases hx;decide
 | false =>
  rw[cF]at hx;cases hbv:bM id l with
  | none=>rw[hbv]at hx;cases hx
  | some w =>
   rw[hbv,an]at hx;cases hw:w.2==p with
   | true=>rw[hw]at hx;cases hx;decide
   | false =>
    rw[hw,cF]at hx;cases ha:at? l p with
    | none=>rw[ha]at hx;cases hx
    | some y =>
     rw[ha,an]at hx
     revert hx
     generalize (cond (!y.2.2.1) _ _:Option Bool)=o;intro hx;cases o with
     | none=>cases hx
     | some t=>cases t<;>(cases hx;decide)
theorem KS {b:uz} (h:vB b) {r:uQ} (hr:r∈b.2.2.2.2.1):(1<=r.1/\r.1<=99)/\(0<=r.2.1/\r.2.1<=63)/\(0<=r.2.2/\r.2.2<=63):=by
 obtain⟨k,hk,rfl⟩:=getElem_of_mem hr;have hv:=h.v
 unfold xI at hv;simp only[aT,Bool.not_eq_true',Bool.or_eq_false_iff,Bool.not_eq_false']at hv;have hx:=any_eq_false.1 hv.2.1 k (mem_range.2 hk)
 unfold B0 at hx;simp only[List.getElem?_eq_getElem hk,Bool.or_eq_true,Bool.not_eq_true',not_or,Bool.not_eq_false]at hx;obtain⟨x1,_,x3,x4⟩:=hx;have ht:=IT (i:=(b.2.2.1.length:Int)) hv.1.1
 have y1:=EX x1;have y3:=EX x3
 have x4:(Dw .i64 b.2.2.2.2.1[k].2.2 b.2.2.2.2.1[k].2.1 != 0)=false:=by simpa using x4
 refine⟨y1,by omega,?_⟩;have hI:=h.w.r _ (getElem_mem hk)
 have hband:=EX (KM hI.1 hI.2 x3 ht.2 (by rw[IA hI.1 hI.2];exact x4));omega
theorem Qg {b:uz} (h:vB b) {x:Int} (hx:x∈b.2.2.2.2.2.1):1<=x/\x<=99:=by
 obtain⟨k,hk,rfl⟩:=getElem_of_mem hx;have hv:=h.v
 have hn:b.2.2.2.2.1.length<9223372036854775807:=h.w.v;unfold xI at hv;simp only[aT,Bool.not_eq_true']at hv;have hq:=any_eq_false.1 hv.2.2 k (mem_range.2 hk)
 unfold Co at hq;simp only[List.getElem?_eq_getElem hk]at hq;obtain⟨r,hr⟩:=Nr (v:=(b.2.2.2.2.1,b.2.2.2.2.2.1)) hn b.2.2.2.2.2.1[k];rw[hr]at hq;simp only[decide_eq_true_eq]at hq;obtain⟨y,hy,e⟩:=Rw (v:=(b.2.2.2.2.1,b.2.2.2.2.2.1)) hn hr hq;have:=(KS h (r:=y) hy).1
 rw[e]at this;exact this
theorem OE {b:uz} (h:vB b) (c:Int) {k:Nat} (hk:k<b.2.2.1.length):0<=EF b c (k:Int)/\EF b c (k:Int)<=1000:=by
 have v3:b.2.2.2.2.2.1.length=b.2.2.1.length:=h.vt.len.2.2.1;have hkq:k<b.2.2.2.2.2.1.length:=by omega
 obtain⟨r,hr⟩:=M7 b.1 h.w.p (k:Int);have hr2:=Qf hr
 have hp:=h.p _ (getElem_mem hk);unfold zl at hp;simp only[aT]at hp;have hc:=EX hp.1
 have hq:=Qg h (getElem_mem hkq);unfold EF cn fX;rw[uO hk,uO hkq,hr];simp only[an];cases (c==1)with
 | true =>
  cases b.2.2.1[k].1 with
  | true=>show (0:Int)<=1/\(1:Int)<=1000;decide
  | false=>show (0:Int)<=0/\(0:Int)<=1000;decide
 | false =>
  cases (c==2)with
  | true=>show 0<=b.2.2.1[k].2.1/\b.2.2.1[k].2.1<=1000;omega
  | false =>
   cases (c==3)with
   | true=>show 0<=r/\r<=1000;omega
   | false=>show 0<=b.2.2.2.2.2.1[k]/\b.2.2.2.2.2.1[k]<=1000;omega
theorem Rx {b:uz} (h:vB b) {e:uF} (he:e∈b.2.2.2.1):(1<=e.1/\e.1<=99)/\(1<=e.2.1/\e.2.1<=9999)/\(0<=e.2.2.1/\e.2.2.1<=7):=by
 obtain⟨k,hk,rfl⟩:=getElem_of_mem he;have hv:=h.f
 unfold zZ at hv;simp only[aT,Bool.not_eq_true']at hv;have hx:=any_eq_false.1 hv.1 k (mem_range.2 hk)
 unfold A3 at hx;simp only[List.getElem?_eq_getElem hk,Bool.or_eq_true,Bool.not_eq_true',not_or,Bool.not_eq_false]at hx;have hf:=hx.1
 unfold xx at hf;simp only[aT]at hf;exact⟨EX hf.1,EX hf.2.1,EX hf.2.2.1⟩
theorem NA {b:uz} (h:vB b):(0<=b.2.2.2.2.2.2.1/\b.2.2.2.2.2.2.1<=1000000)/\(0<=b.2.2.2.2.2.2.2.1/\b.2.2.2.2.2.2.2.1<=1000000)/\(0<=b.2.2.2.2.2.2.2.2.1/\b.2.2.2.2.2.2.2.2.1<=1000000)/\(0<=b.2.2.2.2.2.2.2.2.2.1/\b.2.2.2.2.2.2.2.2.2.1<=1000000)/\(0<=b.2.2.2.2.2.2.2.2.2.2/\b.2.2.2.2.2.2.2.2.2.2<=1000000):=by
 have hc:=h.c;unfold xa at hc;simp only[aT]at hc;exact⟨EX hc.1,EX hc.2.1,EX hc.2.2.1,EX hc.2.2.2.1,EX hc.2.2.2.2⟩
theorem JT {a b:Int} (ha:0<=a/\a<=100000) (hb:0<=b/\b<=100000):Nm [1,3,1,a,b]:=⟨by simp,by simp,λx hx=>by
 simp only[mem_cons,not_mem_nil,or_false]at hx;rcases hx with rfl|rfl|rfl|rfl|rfl
 · decide
 · decide
 · decide
 · exact AH ha.1 ha.2
 · exact AH hb.1 hb.2⟩
theorem KT {a b c:Int} (ha:0<=a/\a<=100000) (hb:0<=b/\b<=100000) (hc:0<=c/\c<=100000):Nm [1,3,1,a,b,c]:=⟨by simp,by simp,λx hx=>by
 simp only[mem_cons,not_mem_nil,or_false]at hx;rcases hx with rfl|rfl|rfl|rfl|rfl|rfl
 · decide
 · decide
 · decide
 · exact AH ha.1 ha.2
 · exact AH hb.1 hb.2
 · exact AH hc.1 hc.2⟩
theorem Ry {a b c d:Int} (ha:0<=a/\a<=100000) (hb:0<=b/\b<=100000) (hc:0<=c/\c<=100000) (hd:0<=d/\d<=100000):Nm [1,3,1,a,b,c,d]:=⟨by simp,by simp,λx hx=>by
 simp only[mem_cons,not_mem_nil,or_false]at hx;rcases hx with rfl|rfl|rfl|rfl|rfl|rfl|rfl
 · decide
 · decide
 · decide
 · exact AH ha.1 ha.2
 · exact AH hb.1 hb.2
 · exact AH hc.1 hc.2
 · exact AH hd.1 hd.2⟩
theorem BF {b:uz} (h:vB b):∀x∈xG b,Nm x.1/\Vl x.2:=by
 intro x hx;obtain⟨t1,t2,t3,t4,_⟩:=NA h;have hn6:=h.n6
 unfold xG at hx;simp only[mem_append]at hx;rcases hx with ((hx|hx)|hx)|hx
 · unfold B1 at hx;simp only[mem_cons,not_mem_nil,or_false]at hx;have hname:=h.name
   rcases hx with rfl|rfl|rfl|rfl|rfl
   · exact⟨JT (by decide) (by decide),.word (by omega)⟩
   · exact⟨JT (by decide) (by decide),.num (FG t1.1 (by omega))⟩
   · exact⟨JT (by decide) (by decide),.num (FG t2.1 (by omega))⟩
   · exact⟨JT (by decide) (by decide),.num (FG t3.1 (by omega))⟩
   · exact⟨JT (by decide) (by decide),.num (FG t4.1 (by omega))⟩
 · obtain⟨c,hc,hx⟩:=mem_flatMap.1 hx;have hc:=mem_range.1 hc
   unfold xJ at hx;obtain⟨k,hk,rfl⟩:=mem_map.1 hx;have hk:=mem_range.1 hk
   have hp:=OE h ((c+1:Nat):Int) hk;exact⟨KT (by decide) (by omega) (by omega),.num (FG hp.1 (by omega))⟩
 · obtain⟨c,hc,hx⟩:=mem_flatMap.1 hx;have hc:=mem_range.1 hc
   unfold yK at hx;obtain⟨r,hr,rfl⟩:=mem_map.1 hx;obtain⟨r1,r2,r3⟩:=KS h hr;refine⟨KT (by decide) (by omega) (by omega),.num ?_⟩;unfold FD;split
   · decide
   · exact FG r2.1 (by omega)
   · exact FG r3.1 (by omega)
 · unfold DL at hx;obtain⟨e,he,rfl⟩:=mem_map.1 hx;obtain⟨e1,e2,e3⟩:=Rx h he;refine⟨Ry (by decide) (by decide) (by omega) (by omega),.num ?_⟩;rw[uX (by omega) (by omega)];exact FG (by omega) (by omega)
theorem KU {b:uz} (h:vB b):(xG b).length=5+4*b.2.2.1.length+3*b.2.2.2.2.1.length+b.2.2.2.1.length:=by
 have hp:∀c,(xJ b c).length=b.2.2.1.length:=λc=>by unfold xJ;rw[length_map,List.length_range]
 have hr:∀c,(yK b c).length=b.2.2.2.2.1.length:=λc=>by unfold yK;rw[length_map]
 have hf:(DL b).length=b.2.2.2.1.length:=by unfold DL;rw[length_map]
 have k5:(B1 b).length=5:=rfl;unfold xG;rw[SI,SJ];simp only[length_append,List.length_nil,hp,hr,hf,k5];omega
theorem JU {b:uz} (h:vB b):(xG b).length<=59:=by
 have h1:=KU h;have h2:=h.n6
 have h3:b.2.2.2.2.1.length<=6:=h.vt.len.2.2.2;have h4:=h.f12
 omega
theorem TC {b:uz} (h:vB b) {o:List Int} (ho:o.length<9223372036854775807):∃v,cq b o=some v/\((∃x∈xG b,x.1=o/\v=x.2)\/((∀x∈xG b,x.1≠o)/\v=(128,0,[],[]))):=by
 have hle:=JU h;obtain⟨v,h1,h2⟩:=uS (step:=λz:Int×Int×Int×List UInt8×List Int=>bA o (xG b) z.1 z.2.1 z.2.2.1 z.2.2.2.1 z.2.2.2.2) (λk z=>z=((k:Int),0,0,[],[])/\∀x∈(xG b).take k,x.1≠o) (xG b).length (λv=>(∃x∈xG b,x.1=o/\v=.inr x.2)\/((∀x∈xG b,x.1≠o)/\∃u,v=.inl u))
  (λk z hk ⟨e,hx⟩=>by
   subst e;have hs:bA o (xG b) (k:Int) 0 0 [] []=cond ((xG b)[k].1==o) (some (.inr (.inr (xG b)[k].2))) (some (.inl (((k+1:Nat):Int),0,0,[],[]))):=by
    unfold bA;rw[vj (by omega),cT,uO hk,an,Bu ho,an,uL (by omega)]
   show (∃y,bA o (xG b) (k:Int) 0 0 [] []=_/\_)\/(∃v,bA o (xG b) (k:Int) 0 0 [] []=_/\_);rw[hs];cases hb:((xG b)[k].1==o)with
   | true=>exact .inr ⟨_,rfl,.inl ⟨_,getElem_mem hk,eq_of_beq hb,rfl⟩⟩
   | false =>
    refine .inl ⟨_,rfl,rfl,λx hx'=>?_⟩;rw[take_add_one,List.getElem?_eq_getElem hk,mem_append]at hx';rcases hx' with hx'|hx'
    · exact hx x hx'
    · simp at hx';subst hx';exact beq_eq_false_iff_ne.1 hb)
  (λz ⟨e,hx⟩=>by
   subst e;rw[take_length]at hx;refine⟨.inl (0,0,[],[]),?_,.inr ⟨hx,_,rfl⟩⟩;show bA o (xG b) _ 0 0 [] []=_
   unfold bA;rw[vd (by omega),cF]) (x:=(0,0,0,[],[])) ⟨rfl,by simp⟩
 unfold cq;rw[OA h,an,h1,an];rcases h2 with ⟨x,hx,e,rfl⟩|⟨hx,u,rfl⟩
 · exact⟨_,rfl,.inl ⟨x,hx,e,rfl⟩⟩
 · exact⟨_,rfl,.inr ⟨hx,rfl⟩⟩

theorem OF {c:uM} (h:CW c):∃c' o,aH c=some (c',o)/\CW c'/\Nm o:=by
 obtain⟨c0,m,e0,w0,hm⟩:=wI h (n:=6) (by decide);have e0':aa c 6=some (c0,(m:Int)):=e0
 obtain⟨d,hd,g1,g2,g3⟩:=uS (step:=λz:Int×List Int×Int×Int×List Int=>dL z.1 z.2.1 z.2.2.1 z.2.2.2.1 z.2.2.2.2) (λk z=>z.1=((m+1:Nat):Int)-(k:Int)/\CW (z.2.1,z.2.2.1,z.2.2.2.1)/\z.2.2.2.2.length=k/\∀x∈z.2.2.2.2,uE x 0 100000=true) (m+1) (λd=>CW (d.1,d.2.1,d.2.2.1)/\d.2.2.2.length=m+1/\∀x∈d.2.2.2,uE x 0 100000=true)
  (λk z hk ⟨a1,a2,a3,a4⟩=>by
   obtain⟨i,x,y,s,l⟩:=z;simp only at a1 a2 a3 a4;left;show ∃y',dL i x y s l=_/\_
   unfold dL;have hi:decide (i>0)=true:=dT (by omega)
   have hw:uB (i-1)=((m+1:Nat):Int)-((k+1:Nat):Int):=by rw[uX (by omega) (by omega)];omega
   obtain⟨c1,r1,e1,w1,b1⟩:=yJ a2 (l:=[0,1,2,3,127,128,16384,100000]) (by decide);have hr:uE r1 0 100000=true:=by
    have:∀x∈([0,1,2,3,127,128,16384,100000]:List Int),uE x 0 100000=true:=by decide
    exact this r1 b1
   rw[hi,cT,e1,an];show ∃y',((uV l [r1]).bind _)=_/\_
   rw[uG (by show l.length+1<=_;omega),an,hw];refine⟨_,rfl,rfl,w1,by show (l++[r1]).length=_;rw[length_append,a3];rfl,λx hx=>?_⟩;have hx:x∈l++[r1]:=hx
   simp at hx;rcases hx with hx|rfl
   · exact a4 x hx
   · exact hr)
  (λz ⟨a1,a2,a3,a4⟩=>by
   obtain⟨i,x,y,s,l⟩:=z;simp only at a1 a2 a3 a4;refine⟨(x,y,s,l),?_,a2,a3,a4⟩;show dL i x y s l=_
   unfold dL;have hi:decide (i>0)=false:=dF (by omega)
   rw[hi,cF]) (x:=(((m+1:Nat):Int),c0.1,c0.2.1,c0.2.2,[])) ⟨by simp,w0,rfl,λx hx=>absurd hx not_mem_nil⟩
 have hw:uB (1+(m:Int))=((m+1:Nat):Int):=by rw[uX (by omega) (by omega)];omega
 unfold aH;rw[e0',an];show ∃c' o,((loop _ (uB (1+(m:Int)),c0.1,c0.2.1,c0.2.2,[])).bind _)=_/\_
 rw[hw,hd,an];exact⟨_,_,rfl,g1,by omega,by omega,g3⟩
theorem Ta {a:Int} (ha:0<=a/\a<=100000):Nm [1,3,1,a]:=⟨by simp,by simp,λx hx=>by
 simp only[mem_cons,not_mem_nil,or_false]at hx;rcases hx with rfl|rfl|rfl|rfl
 · decide
 · decide
 · decide
 · exact AH ha.1 ha.2⟩
theorem Bv (l:List Int) (h:l.length<=100):ah l=some ([1,3,1]++l):=by
 unfold ah;rw[uG (by show 3+l.length<=_;omega)];rfl
theorem Mf {c:uM} (h:CW c) {b:uz} (hb:vB b):∃c' o,aq c b=some (c',o)/\CW c'/\Nm o:=by
 have hm:5<=(xG b).length:=by rw[KU hb];omega
 have hle:=JU hb;unfold aq;rw[GF hb.w,OA hb,an,dT (show ((xG b).length:Int)>0 by omega),cT];obtain⟨c1,st,e1,w1⟩:=Hv h 4;rw[e1,an];show ∃c' o,cond (!st) _ _=_/\_
 cases st with
 | false =>
  obtain⟨c2,k,e2,w2,hk⟩:=wI w1 (n:=(xG b).length) (by omega);have hn:=(BF hb _ (getElem_mem hk)).1
  have h10:=hn.n10;rw[Bool.not_false,cT,e2,an];show ∃c' o,((ix (xG b).length (k:Int)).bind _)=_/\_
  rw[xh hk,an,List.getElem?_eq_getElem hk,an,uG (by show 0+_<=_;omega),an];exact⟨_,_,rfl,w2,hn⟩
 | true =>
  obtain⟨c2,r,e2,w2,_⟩:=x7 w1 8;rw[Bool.not_true,cF,e2,an];show ∃c' o,cond (r==0) _ (cond (r==1) _ (cond (r==2) _ (cond (r==3) _ (cond (r==4) _ (cond (r==5) _ (cond (r==6) _ _))))))=_/\_
  cases r==0 with
  | true=>exact⟨_,_,rfl,w2,⟨by decide,by decide,by decide⟩⟩
  | false =>
  cases r==1 with
  | true=>exact⟨_,_,rfl,w2,⟨by decide,by decide,by decide⟩⟩
  | false =>
  cases r==2 with
  | true=>rw[Bv _ (by decide)];exact⟨_,_,rfl,w2,KT (by decide) (by decide) (by decide)⟩
  | false =>
  cases r==3 with
  | true =>
   obtain⟨c3,k,e3,w3,hk⟩:=wI w2 (n:=9) (by decide);have e3':aa c2 9=some (c3,(k:Int)):=e3
   show ∃c' o,((aa c2 9).bind _)=_/\_;rw[e3',an,Bv _ (by simp),an];refine⟨_,_,rfl,w3,?_⟩;show Nm [1,3,1,3,1,uB (1+(k:Int))]
   rw[uX (by omega) (by omega)];exact KT (by decide) (by decide) (by omega)
  | false =>
  cases r==4 with
  | true=>rw[Bv _ (by decide)];exact⟨_,_,rfl,w2,JT (by decide) (by decide)⟩
  | false =>
  cases r==5 with
  | true=>rw[Bv _ (by decide)];exact⟨_,_,rfl,w2,Ta (by decide)⟩
  | false =>
  cases r==6 with
  | true=>rw[Bv _ (by decide)];exact⟨_,_,rfl,w2,Ry (by decide) (by decide) (by decide) (by decide)⟩
  | false =>
   obtain⟨c3,o,e3,w3,hn⟩:=OF w2;show ∃c' o,((aH c2).bind _)=_/\_
   rw[e3,an];exact⟨_,_,rfl,w3,hn⟩
theorem TD {l:List uF} (h:FB l):∃y,cJ l=some y/\FB y:=by
 have hn:=h.n;have hlt:∀i j (hi:i<l.length) (hj:j<l.length),i<j->lt l[i] l[j]:=pairwise_iff_getElem.1 h.o
 obtain⟨d,hd,g1,g2,g3⟩:=uS (step:=λz:Int×List uF=>aR l z.1 z.2)
  (λk z=>z.1=(k:Int)/\(∀x∈z.2,xx x=true)/\z.2.Pairwise lt/\z.2.length<=k/\∀x∈z.2,∀j (hj:j<l.length),k<=j->lt x l[j]) l.length
  (λd=>(∀x∈d,xx x=true)/\d.Pairwise lt/\d.length<=12)
  (λk z hk ⟨e1,e2,e3,e4,e5⟩=>by
   obtain⟨i,b⟩:=z;simp only at e1 e2 e3 e4 e5;subst e1;left;have hf:xx l[k]=true:=h.e _ (getElem_mem hk)
   have hgo:∀y:uF,xx y=true->y.1=l[k].1->y.2.1=l[k].2.1->(∀x∈b++[y],xx x=true)/\(b++[y]).Pairwise lt/\(b++[y]).length<=k+1/\∀x∈b++[y],∀j (hj:j<l.length),k+1<=j->lt x l[j]:=by
    intro y hy q1 q2;refine⟨λx hx=>?_,C1 e3 λx hx=>?_,by rw[length_append];show b.length+1<=_;omega,λx hx j hj hkj=>?_⟩
    · rcases mem_append.1 hx with hx|hx
      · exact e2 x hx
      · simp at hx;subst hx;exact hy
    · have:=e5 x hx k hk (Nat.le_refl _);unfold lt at this ⊢;omega
    · rcases mem_append.1 hx with hx|hx
      · exact e5 x hx j hj (by omega)
      · simp at hx;subst hx;have:=hlt k j hk hj (by omega)
        unfold lt at this ⊢;omega
   have ha:∀y:uF,uV b [y]=some (b++[y]):=λy=>uG (by show b.length+1<=_;omega);show ∃y,aR l (k:Int) b=_/\_
   unfold aR;rw[vj (by omega),cT,uO hk,an,ha,ha,an,an,uL (by omega)];cases hs:l[k].2.2.2.2 with
   | true=>exact⟨_,rfl,rfl,hgo _ hf rfl rfl⟩
   | false =>
    rw[cF];by_cases ha4:l[k].2.2.2.1<4
    · rw[vj ha4,cT];refine⟨_,rfl,rfl,hgo _ ?_ rfl rfl⟩;unfold xx at hf ⊢;simp only[aT]at hf;obtain⟨f1,f2,f3,f4,f5⟩:=hf;have f4':=f4
      unfold uE at f4';simp only[aT,decide_eq_true_eq]at f4';show (uE l[k].1 1 99&&(uE l[k].2.1 1 9999&&(uE l[k].2.2.1 0 7&&(uE (uB (l[k].2.2.2.1+1)) 0 4&&(!false||_)))))=true
      rw[f1,f2,f3,uX (by omega) (by omega)];have:uE (l[k].2.2.2.1+1) 0 4=true:=by unfold uE;rw[dT (by omega),dT (by omega)];rfl
      rw[this];rfl
    · rw[vd ha4,cF];exact⟨_,rfl,rfl,e2,e3,by show b.length<=_;omega,λx hx j hj hkj=>e5 x hx j hj (by omega)⟩)
  (λz ⟨e1,e2,e3,e4,e5⟩=>by
   obtain⟨i,b⟩:=z;simp only at e1 e2 e3 e4 e5;subst e1;refine⟨b,?_,e2,e3,by omega⟩;show aR l _ b=_
   unfold aR;rw[vd (by omega),cF]) (x:=(0,[])) ⟨rfl,λx hx=>absurd hx not_mem_nil,List.Pairwise.nil,Nat.le_refl _,λx hx=>absurd hx not_mem_nil⟩
 unfold cJ;rw[hd,an];exact⟨_,rfl,g1,g2,g3⟩
theorem TE:FB ([]:List uF):=⟨λx hx=>absurd hx not_mem_nil,List.Pairwise.nil,by simp⟩
theorem TF {c:uM} (h:CW c):∃c' l,gz c=some (c',l)/\CW c'/\FB l:=by
 obtain⟨c0,m,e0,w0,hm⟩:=wI h (n:=10) (by decide);have e0':aa c 10=some (c0,(m:Int)):=e0
 obtain⟨d,hd,g1,g2⟩:=uS (step:=λz:Int×List Int×Int×Int×List uF=>dM z.1 z.2.1 z.2.2.1 z.2.2.2.1 z.2.2.2.2) (λk z=>z.1=(m:Int)-(k:Int)/\CW (z.2.1,z.2.2.1,z.2.2.2.1)/\FB z.2.2.2.2) m (λd=>CW (d.1,d.2.1,d.2.2.1)/\FB d.2.2.2)
  (λk z hk ⟨a1,a2,a3⟩=>by
   obtain⟨i,x,y,s,l⟩:=z;simp only at a1 a2 a3;left;show ∃y',dM i x y s l=_/\_
   unfold dM;have hi:decide (i>0)=true:=dT (by omega)
   have hw:uB (i-1)=(m:Int)-((k+1:Nat):Int):=by rw[uX (by omega) (by omega)];omega
   obtain⟨c1,r1,e1,w1,_⟩:=x7 a2 6;rw[hi,cT,e1,an,hw];show ∃y',cond (r1==0) _ (cond (r1==1) _ _)=_/\_
   cases r1==0 with
   | true =>
    obtain⟨c2,r2,e2,w2,_⟩:=x7 w1 3;obtain⟨c3,r3,e3,w3⟩:=JS w2;obtain⟨c4,r4,e4,w4,_⟩:=x7 w3 4;obtain⟨y',ok,e5,g5⟩:=KQ a3 (uB (1+r2)) r3 r4;rw[cT,e2,an,e3,an,e4,an,e5,an];exact⟨_,rfl,rfl,w4,g5⟩
   | false =>
   cases r1==1 with
   | true =>
    obtain⟨y',e5,g5⟩:=TD a3;rw[cF,cT,e5,an];exact⟨_,rfl,rfl,w1,g5⟩
   | false =>
    obtain⟨c2,r2,e2,w2,_⟩:=x7 w1 3;obtain⟨c3,r3,e3,w3⟩:=JS w2;obtain⟨c4,r4,e4,w4,_⟩:=x7 w3 3;obtain⟨c5,r5,e5,w5,_⟩:=x7 w4 4;obtain⟨y',e6,g6⟩:=Nx a3 (uB (1+r2)) (uB (r3+r4)) r5;rw[cF,cF,e2,an,e3,an,e4,an,e5,an,e6,an];exact⟨_,rfl,rfl,w5,g6⟩)
  (λz ⟨a1,a2,a3⟩=>by
   obtain⟨i,x,y,s,l⟩:=z;simp only at a1 a2 a3;refine⟨(x,y,s,l),?_,a2,a3⟩;show dM i x y s l=_
   unfold dM;have hi:decide (i>0)=false:=dF (by omega)
   rw[hi,cF]) (x:=((m:Int),c0.1,c0.2.1,c0.2.2,[])) ⟨by simp,w0,TE⟩
 unfold gz;rw[e0',an];show ∃c' l,((loop _ ((m:Int),c0.1,c0.2.1,c0.2.2,[])).bind _)=_/\_
 rw[hd,an];exact⟨_,_,rfl,g1,g2⟩
theorem TG {c:uM} (h:CW c):∃c' l,gA c=some (c',l)/\CW c'/\l.length<=100:=by
 obtain⟨c1,l,e1,w1,g1⟩:=TF h;have hn:=g1.n
 obtain⟨c2,r,e2,w2,_⟩:=x7 w1 12;unfold gA;rw[e1,an];show ∃c' l',((aa c1 12).bind _)=_/\_
 rw[e2,an];show ∃c' l',cond (r==0) _ (cond (r==1) _ _)=_/\_
 cases r==0 with
 | true =>
  obtain⟨c3,x3,e3,w3,_⟩:=yJ w2 (l:=[0,1,99,100]) (by decide);obtain⟨c4,x4,e4,w4,_⟩:=yJ w3 (l:=[0,1,9999]) (by decide);obtain⟨c5,x5,e5,w5,_⟩:=yJ w4 (l:=[(-1),7,8]) (by decide);obtain⟨c6,x6,e6,w6,_⟩:=yJ w5 (l:=[(-1),4,5]) (by decide);rw[cT,e3,an,e4,an,e5,an,e6,an];show ∃c' l',((uV l [_]).bind _)=_/\_
  rw[uG (by show l.length+1<=_;omega),an];exact⟨_,_,rfl,w6,by rw[length_append];show l.length+1<=100;omega⟩
 | false =>
 cases r==1 with
 | true =>
  rw[cF,cT];obtain⟨d,hd,g1,g2⟩:=uS (step:=λz:Int×List Int×Int×Int×List uF=>bV z.1 z.2.1 z.2.2.1 z.2.2.2.1 z.2.2.2.2) (λk z=>z.1=(k:Int)/\CW (z.2.1,z.2.2.1,z.2.2.2.1)/\z.2.2.2.2.length<=12+k) 13 (λd=>CW (d.1,d.2.1,d.2.2.1)/\d.2.2.2.length<=100)
   (λk z hk ⟨a1,a2,a3⟩=>by
    obtain⟨i,x,y,s,l⟩:=z;simp only at a1 a2 a3;subst a1;obtain⟨c3,q,e3,w3,hq⟩:=wI a2 (n:=3) (by decide);have e3':aa (x,y,s) 3=some (c3,(q:Int)):=e3
    have hs:bV (k:Int) x y s l=cond (decide ((k:Int)<uB (11+(q:Int)))) (some (.inl (((k+1:Nat):Int),c3.1,c3.2.1,c3.2.2,l++[(50,uB (100+(k:Int)),1,0,false)]))) (some (.inr (c3.1,c3.2.1,c3.2.2,l))):=by
     unfold bV;rw[e3',an,uG (by show l.length+1<=_;omega),an,uL (by omega)]
    show (∃y',bV (k:Int) x y s l=_/\_)\/(∃v,bV (k:Int) x y s l=_/\_);rw[hs];cases decide ((k:Int)<uB (11+(q:Int)))with
    | true=>exact .inl ⟨_,rfl,rfl,w3,by show (l++[_]).length<=_;rw[length_append];show l.length+1<=_;omega⟩
    | false=>exact .inr ⟨_,rfl,w3,by show l.length<=100;omega⟩)
   (λz ⟨a1,a2,a3⟩=>by
    obtain⟨i,x,y,s,l⟩:=z;simp only at a1 a2 a3;subst a1;obtain⟨c3,q,e3,w3,hq⟩:=wI a2 (n:=3) (by decide);have e3':aa (x,y,s) 3=some (c3,(q:Int)):=e3
    refine⟨(c3.1,c3.2.1,c3.2.2,l),?_,w3,by show l.length<=100;omega⟩;show bV ((13:Nat):Int) x y s l=_
    unfold bV;rw[e3',an,uX (n:=11+(q:Int)) (by omega) (by omega),vd (by omega),cF]) (x:=(0,c2.1,c2.2.1,c2.2.2,l)) ⟨rfl,w2,by show l.length<=12+0;omega⟩
  show ∃c' l',((loop _ (0,c2.1,c2.2.1,c2.2.2,l)).bind _)=_/\_;rw[hd,an];exact⟨_,_,rfl,g1,g2⟩
 | false=>exact⟨_,_,rfl,w2,by show l.length<=100;omega⟩
theorem TH {c:uM} (h:CW c):∃c' v,gx c=some (c',v)/\CW c':=by
 obtain⟨c1,v,e1,w1,_⟩:=Oy h;obtain⟨c2,r,e2,w2,_⟩:=x7 w1 12;unfold gx;rw[e1,an];show ∃c' l',((aa c1 12).bind _)=_/\_
 rw[e2,an];show ∃c' l',cond (r==0) _ (cond (r==1) _ (cond (r==2) _ (cond (r==3) _ _)))=_/\_
 cases r==0 with
 | true =>
  obtain⟨c3,x3,e3,w3,_⟩:=yJ w2 (l:=[0,99,100]) (by decide);rw[cT,e3,an];exact⟨_,_,rfl,w3⟩
 | false =>
 cases r==1 with
 | true =>
  obtain⟨c3,x3,e3,w3,_⟩:=yJ w2 (l:=[(-1),99999,100000,100001]) (by decide);rw[cF,cT,e3,an];exact⟨_,_,rfl,w3⟩
 | false =>
 cases r==2 with
 | true =>
  obtain⟨c3,x3,e3,w3,_⟩:=yJ w2 (l:=[(-1),11]) (by decide);rw[cF,cF,cT,e3,an];exact⟨_,_,rfl,w3⟩
 | false =>
 cases r==3 with
 | true =>
  obtain⟨c3,x3,e3,w3,_⟩:=yJ w2 (l:=[(-1),7,8]) (by decide);rw[cF,cF,cF,cT,e3,an];exact⟨_,_,rfl,w3⟩
 | false=>exact⟨_,_,rfl,w2⟩
theorem Rz {c:uM} (h:CW c):∃c' l,gy c=some (c',l)/\CW c'/\l.length<=100:=by
 obtain⟨c1,p,e1,w1,b1⟩:=wI h (n:=4) (by decide);have e1':aa c 4=some (c1,(p:Int)):=e1
 have hp:uB (1+(p:Int))=((p+1:Nat):Int):=by rw[uX (by omega) (by omega)];omega
 obtain⟨c2,l,e2,w2,l2,_⟩:=Nv w1 (n:=p+1) (by omega);obtain⟨c3,r,e3,w3,_⟩:=x7 w2 12;have h0:0<l.length:=by omega
 have hi:ix l.length 0=some 0:=xh h0;have hg:l[0]?=some l[0]:=List.getElem?_eq_getElem h0
 unfold gy;rw[e1',an];show ∃c' l',((cw c1 (uB (1+(p:Int)))).bind _)=_/\_
 rw[hp,e2,an];show ∃c' l',((aa c2 12).bind _)=_/\_
 rw[e3,an];show ∃c' l',cond (r==0) _ (cond (r==1) _ (cond (r==2) _ _))=_/\_
 cases r==0 with
 | true =>
  obtain⟨c4,v,e4,w4⟩:=TH w3;rw[cT,e4,an];show ∃c' l',((ix l.length 0).bind _)=_/\_
  rw[hi,an];show ∃c' l',((l[0]?).bind _)=_/\_
  rw[hg,an];exact⟨_,_,rfl,w4,by rw[length_set];show l.length<=100;omega⟩
 | false =>
 cases r==1 with
 | true =>
  obtain⟨c4,x4,e4,w4,_⟩:=yJ w3 (l:=[0,1000,1001]) (by decide);rw[cF,cT,e4,an];show ∃c' l',((ix l.length 0).bind _)=_/\_
  rw[hi,an];show ∃c' l',((l[0]?).bind _)=_/\_
  rw[hg,an];exact⟨_,_,rfl,w4,by rw[length_set];show l.length<=100;omega⟩
 | false =>
 cases r==2 with
 | true =>
  rw[cF,cF,cT];show ∃c' l',((ix l.length 0).bind _)=_/\_
  rw[hi,an];show ∃c' l',((l[0]?).bind _)=_/\_
  rw[hg,an];exact⟨_,_,rfl,w3,by rw[length_set];show l.length<=100;omega⟩
 | false=>exact⟨_,_,rfl,w3,by show l.length<=100;omega⟩

structure VS (v:vv) (n:Nat):Prop where
 a:v.1.length<=n
 b:v.2.length<=100
 r:∀r∈v.1,Bs r.2.2
theorem SK {v:vv} {n:Nat} (hn:n<=1000) (hv:VS v n) {r:uQ} (hr:Bs r.2.2):∃y,aG v r=some y/\VS y (2*n+1):=by
 have l4:=hv.a;have l3:=hv.b
 obtain⟨d,h1,h2,h3⟩:=uS (step:=λz:Bool×Int×List uQ=>az v r z.1 z.2.1 z.2.2) (λk z=>z.2.1=(k:Int)/\z.2.2.length<=2*k/\∀x∈z.2.2,Bs x.2.2) v.1.length (λd=>d.2.length<=2*n/\∀x∈d.2,Bs x.2.2)
  (λk z hk ⟨e1,e2,e3⟩=>by
   obtain⟨t,i,b⟩:=z;simp only at e1 e2 e3;subst e1;left;have hvk:Bs v.1[k].2.2:=hv.r _ (getElem_mem hk)
   show ∃y,az v r t (k:Int) b=_/\_;unfold az;simp only[vj (show (k:Int)<(v.1.length:Int) by omega),cT,uO hk,an,uL (show k<9223372036854775807 by omega),Int.not_lt];have ha:∀(xs:List uQ) (y:uQ),xs.length<=10000->uV xs [y]=some (xs++[y]):=λxs y h=>uG (by show xs.length+1<=_;omega)
   have key:∀(tt:Bool),((cond (!t) (some (decide (v.1[k].1>=r.1))) (some false))=some tt->∃y:Bool×Int×List uQ,(cond tt ((uV b [r]).bind λzs37=>cond (v.1[k].1 != r.1) ((uV zs37 [v.1[k]]).bind λzs56=>some (.inl (true,((k+1:Nat):Int),zs56))) (some (.inl (true,((k+1:Nat):Int),zs37)))) (cond (v.1[k].1 != r.1) ((uV b [v.1[k]]).bind λzs56_1=>some (.inl (t,((k+1:Nat):Int),zs56_1))) (some (.inl (t,((k+1:Nat):Int),b)))):Option ((Bool×Int×List uQ)⊕(Bool×List uQ)))=some (.inl y)/\y.2.1=((k+1:Nat):Int)/\y.2.2.length<=2*(k+1)/\∀x∈y.2.2,Bs x.2.2):=by
    intro tt _;cases tt with
    | true =>
     rw[cT,ha b r (by omega),an];cases v.1[k].1 != r.1 with
     | true =>
      rw[cT,ha (b++[r]) _ (by simp;omega),an];refine⟨_,rfl,rfl,by simp;omega,λx hx=>?_⟩;simp at hx;rcases hx with hx|rfl|rfl
      · exact e3 x hx
      · exact hr
      · exact hvk
     | false =>
      refine⟨_,rfl,rfl,by simp;omega,λx hx=>?_⟩;simp at hx;rcases hx with hx|rfl
      · exact e3 x hx
      · exact hr
    | false =>
     rw[cF];cases v.1[k].1 != r.1 with
     | true =>
      rw[cT,ha b _ (by omega),an];refine⟨_,rfl,rfl,by simp;omega,λx hx=>?_⟩;simp at hx;rcases hx with hx|rfl
      · exact e3 x hx
      · exact hvk
     | false=>exact⟨_,rfl,rfl,by show b.length<=_;omega,e3⟩
   cases ht:(cond (!t) (some (decide (v.1[k].1>=r.1))) (some false))with
   | none=>cases t<;>cases ht
   | some tt =>
    rw[an];exact key tt ht)
  (λz ⟨e1,e2,e3⟩=>by
   obtain⟨t,i,b⟩:=z;simp only at e1 e2 e3;subst e1;refine⟨(t,b),?_,by show b.length<=_;omega,e3⟩;show az v r t _ b=_
   unfold az;rw[vd (by omega),cF]) (x:=(false,0,[])) ⟨rfl,by simp,λx hx=>absurd hx not_mem_nil⟩
 unfold aG;rw[uG (by show 0+v.2.length<=_;omega),an,h1,an,nil_append];cases d.1 with
 | true=>exact⟨_,rfl,by show d.2.length<=_;omega,l3,h3⟩
 | false =>
  rw[Bool.not_false,cT,uG (by show d.2.length+1<=_;omega),an];refine⟨_,rfl,by show (d.2++[r]).length<=_;simp;omega,l3,λx hx=>?_⟩;have hx:x∈d.2++[r]:=hx
  simp at hx;rcases hx with hx|rfl
  · exact h3 x hx
  · exact hr
theorem SL {c:uM} (h:CW c):∃c' v n,gB c=some (c',v,n)/\CW c'/\VS v 1000:=by
 obtain⟨c1,p,e1,w1,b1⟩:=wI h (n:=4) (by decide);have e1':aa c 4=some (c1,(p:Int)):=e1
 have hp:uB (1+(p:Int))=((p+1:Nat):Int):=by rw[uX (by omega) (by omega)];omega
 obtain⟨c2,v,e2,w2,hv⟩:=Ph w1 (n:=p+1) (by omega) (by omega);obtain⟨l1,l2,l3,l4⟩:=hv.len;obtain⟨c3,r,e3,w3,_⟩:=x7 w2 12;unfold gB;rw[e1',an];show ∃c' v' n',((cz c1 (uB (1+(p:Int)))).bind _)=_/\_
 rw[hp,e2,an];show ∃c' v' n',((aa c2 12).bind _)=_/\_
 rw[e3,an];show ∃c' v' n',cond (r==0) _ (cond (r==1) _ (cond (r==2) _ (cond (r==3) _ _)))=_/\_
 cases r==0 with
 | true =>
  obtain⟨c4,x4,e4,w4,_⟩:=yJ w3 (l:=[0,1,9,100]) (by decide);obtain⟨c5,x5,e5,w5,_⟩:=yJ w4 (l:=[(-1),0,1,64]) (by decide);obtain⟨c6,k6,e6,w6,b6⟩:=wI w5 (n:=3) (by decide);have e6':aa c5 3=some (c6,(k6:Int)):=e6
  rw[cT,e4,an,e5,an];show ∃c' v' n',((aa c5 3).bind _)=_/\_
  rw[e6',an];show ∃c' v' n',((uV v.1 [_]).bind _)=_/\_
  rw[uG (by show v.1.length+1<=_;omega),an];refine⟨_,_,_,rfl,w6,by show (v.1++[_]).length<=_;rw[length_append];show v.1.length+1<=_;omega,by show v.2.length<=_;omega,λx hx=>?_⟩;have hx:x∈v.1++[(x4,x5,(k6:Int))]:=hx
  simp at hx;rcases hx with hx|rfl
  · exact hv.r x hx
  · show Bs (k6:Int);exact⟨by omega,by omega⟩
 | false =>
 cases r==1 with
 | true =>
  obtain⟨c4,x4,e4,w4,_⟩:=yJ w3 (l:=[0,7]) (by decide);have h0:0<v.2.length:=by omega
  rw[cF,cT,e4,an];show ∃c' v' n',((ix v.2.length 0).bind _)=_/\_
  rw[show ix v.2.length 0=some 0 from xh h0,an];show ∃c' v' n',((v.2[0]?).bind _)=_/\_
  rw[List.getElem?_eq_getElem h0,an];exact⟨_,_,_,rfl,w4,by show v.1.length<=_;omega,by show (v.2.set 0 x4).length<=_;rw[length_set];omega,hv.r⟩
 | false =>
 cases r==2 with
 | true =>
  obtain⟨c4,x4,e4,w4,_⟩:=yJ w3 (l:=[0,6,7]) (by decide);rw[cF,cF,cT,e4,an];exact⟨_,_,_,rfl,w4,by show v.1.length<=_;omega,by show v.2.length<=_;omega,hv.r⟩
 | false =>
 cases r==3 with
 | true =>
  rw[cF,cF,cF,cT];have hpow:∀k,k<=6->8*2^k<=512:=by
   intro k hk;have:2^k<=2^6:=Nat.pow_le_pow_right (by decide) hk
   omega
  obtain⟨d,hd,hv2⟩:=uS (step:=λz:Int×List uQ×List Int=>dN z.1 z.2.1 z.2.2) (λk z=>z.1=(k:Int)/\VS z.2 (8*2^k-1)) 6 (λd=>VS d 1000)
   (λk z hk ⟨a1,a2⟩=>by
    obtain⟨i,rows,qs⟩:=z;simp only at a1 a2;subst a1;left;have hk':=hpow k (by omega)
    obtain⟨y,hy,hy2⟩:=SK (by omega) a2 (r:=(uB (10+(k:Int)),0,0)) ⟨by show (-9223372036854775808:Int)<=0;decide,by show (0:Int)<=9223372036854775807;decide⟩;refine⟨(((k+1:Nat):Int),y),?_,rfl,?_⟩
    · show dN (k:Int) rows qs=_;unfold dN;rw[vj (by omega),cT,hy,an,uL (by omega)]
    · have e:2*(8*2^k-1)+1=8*2^(k+1)-1:=by
       have:1<=2^k:=Nat.one_le_two_pow;rw[Nat.pow_succ];omega
      rw[←e];exact hy2)
   (λz ⟨a1,a2⟩=>by
    obtain⟨i,rows,qs⟩:=z;simp only at a1 a2;subst a1;refine⟨(rows,qs),?_,Nat.le_trans a2.a (by decide),a2.b,a2.r⟩;show dN ((6:Nat):Int) rows qs=_
    unfold dN;rw[vd (by omega),cF]) (x:=(0,v.1,v.2)) ⟨rfl,by show v.1.length<=8*2^0-1;omega,by show v.2.length<=_;omega,hv.r⟩
  show ∃c' v' n',((loop _ (0,v.1,v.2)).bind _)=_/\_;rw[hd,an];exact⟨_,_,_,rfl,w3,hv2⟩
 | false=>exact⟨_,_,_,rfl,w3,by show v.1.length<=_;omega,by show v.2.length<=_;omega,hv.r⟩
theorem SM {c:uM} (h:CW c) {b:uz} (hb:xt b):∃c' o,aq c b=some (c',o)/\CW c'/\Nm o:=by
 cases hp:vk b with
 | true=>exact Mf h (By hb hp)
 | false =>
  unfold aq;rw[Rh hb,hp,Bool.not_false,cT,an];show ∃c' o,cond (decide ((0:Int)>0)) _ _=_/\_
  rw[show decide ((0:Int)>0)=false from rfl,cF];obtain⟨c2,r,e2,w2,_⟩:=x7 h 8;rw[e2,an];show ∃c' o,cond (r==0) _ (cond (r==1) _ (cond (r==2) _ (cond (r==3) _ (cond (r==4) _ (cond (r==5) _ (cond (r==6) _ _))))))=_/\_
  cases r==0 with
  | true=>exact⟨_,_,rfl,w2,⟨by decide,by decide,by decide⟩⟩
  | false =>
  cases r==1 with
  | true=>exact⟨_,_,rfl,w2,⟨by decide,by decide,by decide⟩⟩
  | false =>
  cases r==2 with
  | true=>rw[Bv _ (by decide)];exact⟨_,_,rfl,w2,KT (by decide) (by decide) (by decide)⟩
  | false =>
  cases r==3 with
  | true =>
   obtain⟨c3,k,e3,w3,hk⟩:=wI w2 (n:=9) (by decide);have e3':aa c2 9=some (c3,(k:Int)):=e3
   show ∃c' o,((aa c2 9).bind _)=_/\_;rw[e3',an,Bv _ (by simp),an];refine⟨_,_,rfl,w3,?_⟩;show Nm [1,3,1,3,1,uB (1+(k:Int))]
   rw[uX (by omega) (by omega)];exact KT (by decide) (by decide) (by omega)
  | false =>
  cases r==4 with
  | true=>rw[Bv _ (by decide)];exact⟨_,_,rfl,w2,JT (by decide) (by decide)⟩
  | false =>
  cases r==5 with
  | true=>rw[Bv _ (by decide)];exact⟨_,_,rfl,w2,Ta (by decide)⟩
  | false =>
  cases r==6 with
  | true=>rw[Bv _ (by decide)];exact⟨_,_,rfl,w2,Ry (by decide) (by decide) (by decide) (by decide)⟩
  | false =>
   obtain⟨c3,o,e3,w3,hn⟩:=OF w2;show ∃c' o,((aH c2).bind _)=_/\_
   rw[e3,an];exact⟨_,_,rfl,w3,hn⟩

structure At (m:List uC) (o:List Int) (j:Nat):Prop where
 le:j<=m.length
 no:∀i (hi:i<m.length),i<j->¬o<m[i].1
 yes:∀i (hi:i<m.length),j<=i->o<m[i].1
theorem SN {m:List uC} (hp:m.Pairwise λx y=>x.1<y.1) (o:List Int):∃j,At m o j:=by
 have hp:=pairwise_iff_getElem.1 hp;have key:∀n,n<=m.length->(∀i (hi:i<m.length),i<n->¬o<m[i].1)\/∃j,At m o j:=by
  intro n
  induction n with
  | zero=>exact λ_=>.inl λi hi h=>by omega
  | succ n ih =>
   intro hn;rcases ih (by omega)with h|h
   · by_cases hlt:o<m[n].1
     · refine .inr ⟨n,by omega,h,λi hi hni=>?_⟩;by_cases e:i=n
       · subst e;exact hlt
       · exact List.lt_trans hlt (hp n i (by omega) hi (by omega))
     · refine .inl λi hi hin=>?_;by_cases e:i=n
       · subst e;exact hlt
       · exact h i hi (by omega)
   · exact .inr h
 rcases key m.length (Nat.le_refl _)with h|h
 · exact⟨m.length,Nat.le_refl _,λi hi _=>h i hi hi,λi hi h=>by omega⟩
 · exact h
theorem SO {b:uz} (h:vB b) {o:List Int} (ho:o.length<=1000) {j:Nat} (hj:At (xG b) o j):bB b o=some (if h:j<(xG b).length then (xG b)[j]else (o,130,0,[],[])):=by
 have hle:=JU h;have hjl:=hj.le
 obtain⟨v,h1,h2⟩:=uS (step:=λz:Int×Int×Int×List UInt8×List Int×List Int=>cr o (xG b) z.1 z.2.1 z.2.2.1 z.2.2.2.1 z.2.2.2.2.1 z.2.2.2.2.2) (λk z=>z=((k:Int),0,0,[],[],[])) j (λv=>if h:j<(xG b).length then v=.inr (xG b)[j]else ∃u,v=.inl u)
  (λk z hk e=>by
   subst e;have hkl:k<(xG b).length:=by omega
   have hn:=(BF h _ (getElem_mem hkl)).1.n10;refine .inl ⟨(((k+1:Nat):Int),0,0,[],[],[]),?_,rfl⟩;show cr o (xG b) (k:Int) 0 0 [] [] []=_
   unfold cr;rw[vj (by omega),cT,uO hkl,an,Pi (by omega),dF (hj.no k hkl hk),an,cF,uL (by omega)])
  (λz e=>by
   subst e;show ∃v,cr o (xG b) (j:Int) 0 0 [] [] []=_/\_
   unfold cr;by_cases hjn:j<(xG b).length
   · have hn:=(BF h _ (getElem_mem hjn)).1.n10;rw[vj (by omega),cT,uO hjn,an,Pi (by omega),dT (hj.yes j hjn (Nat.le_refl _)),an,cT];exact⟨_,rfl,by rw[dif_pos hjn]⟩
   · rw[vd (by omega),cF];exact⟨_,rfl,by rw[dif_neg hjn];exact⟨_,rfl⟩⟩) (x:=(0,0,0,[],[],[])) rfl
 unfold bB;rw[OA h,an,h1,an];by_cases hjn:j<(xG b).length
 · rw[dif_pos hjn]at h2;rw[dif_pos hjn,h2];rfl
 · rw[dif_neg hjn]at h2;obtain⟨u,rfl⟩:=h2;rw[dif_neg hjn];show ((bf o).bind _)=_
   unfold bf;rw[uG (by show 0+o.length<=_;omega)];rfl
theorem yb {α:Type} {ys:List α} (h:ys.length<=M):uV [] ys=some ys:=by
 unfold uV;rw[if_pos (by show 0+ys.length<=4294967296;have h':ys.length<=1048576:=h;omega)];rfl
theorem EH {l:List Int} (h:l.length<=M):bf l=some l:=by unfold bf;rw[yb h];rfl
theorem Am {l:List Int} (h:l.length<=M):bu l=some l:=by unfold bu;rw[yb h];rfl
theorem FY {l:List uF} (h:l.length<=M):ch l=some l:=by unfold ch;rw[yb h];rfl
theorem OG {l:List uF} (h:l.length<=M):bR l=some l:=by unfold bR;rw[yb h];rfl
theorem GI {v:vv} (h:v.1.length<=M/\v.2.length<=M):ei v=some v:=by
 unfold ei;rw[yb h.1,an,EH h.2];rfl
theorem NC {v:vv} (h:v.1.length<=M/\v.2.length<=M):aO v=some v:=by
 unfold aO;rw[yb h.1,an,yb h.2];rfl
theorem wl {b:uz} (h:yz M b):ak b=some b:=by
 obtain⟨h1,h2,h3,h4,h5⟩:=h;unfold ak;rw[yb h2,an,FY h3,an,GI ⟨h4,h5⟩];rfl
theorem xp {b:uz} (h:yz M b):ap b=some b:=by
 obtain⟨h1,h2,h3,h4,h5⟩:=h;unfold ap;rw[yb h2,an,OG h3,an,NC ⟨h4,h5⟩];rfl
def HY (o:List Int) (k:Nat):Bool:=match o[k]? with|some x=>!(uE x 0 100000)|none=>false
def y8 (o:List Int):Bool:=!((List.range o.length).any (HY o))&&uE (o.length:Int) 1 10
theorem EI {o:List Int} (h:o.length<9223372036854775807):am o=some (y8 o):=by
 unfold am y8;have e:loop (λz=>aU o z) 0=some (cond ((List.range o.length).any (HY o)) (Sum.inr false) (Sum.inl ())):=by
  rw[←yC (n:=o.length) (c:=λi=>(at? o i).bind λx=>(ac x 0 100000).bind λt=>some (!t)) (b:=HY o) h (λk hk=>by
   simp only[uO hk,an,HY,List.getElem?_eq_getElem hk,xU])]
  refine xo (λi=>?_) 0;unfold aU;simp only[Option.bind_assoc,an]
 rw[e,an];cases (List.range o.length).any (HY o)with
 | true=>rfl
 | false=>simp only[cF,Sum.elim_inl,xU,an,Bool.not_false,Bool.true_and]
theorem JV:bC=am:=rfl
theorem Pj (n:Int):∃c,aw n=some c/\(c==n)=uE n (-2147483648) 2147483647:=by
 unfold aw uE;by_cases h1:n>2147483647
 · refine⟨_,by rw[dT h1];rfl,?_⟩;rw[dF (show ¬n<=2147483647 by omega),Bool.and_false];exact beq_eq_false_iff_ne.2 (by omega)
 · by_cases h2:n < -2147483648
   · refine⟨_,by rw[dF h1,dT h2];rfl,?_⟩;rw[dF (show ¬n >= -2147483648 by omega),Bool.false_and];exact beq_eq_false_iff_ne.2 (by omega)
   · refine⟨_,by rw[dF h1,dF h2];rfl,?_⟩;rw[dT (show n >= -2147483648 by omega),dT (show n<=2147483647 by omega),beq_self_eq_true];rfl
theorem Qh (l:List Int):ay l []=some ((l.length:Int)==0):=by
 cases l with
 | nil=>exact N0 (n:=0) (JC (a:=[]) (by decide))
 | cons x l =>
  unfold ay;have e:(((x::l).length:Int) != (([]:List Int).length:Int))=true:=by simp;omega
  rw[e,cT,beq_eq_false_iff_ne.2 (by simp;omega)]
theorem OH {l:List Int} (h:l.length<=M):ay l l=some true:=N0 (JC (To h))
def yo (v:yj):Bool :=
 cond (v.1==5||(v.1==128||v.1==130)) (v.2.1==0&&(v.2.2.1==[]&&((v.2.2.2.length:Int)==0)))
  (cond (v.1==2) (uE v.2.1 (-2147483648) 2147483647&&(v.2.2.1==[]&&((v.2.2.2.length:Int)==0)))
   (cond (v.1==4) (decide ((v.2.2.1.length:Int)<=20)&&(v.2.1==0&&((v.2.2.2.length:Int)==0)))
    (cond (v.1==6) (y8 v.2.2.2&&(v.2.1==0&&(v.2.2.1==[]))) false)))
theorem GJ {v:yj} (h:v.2.2.2.length<=M):ao v=some (yo v):=by
 obtain⟨k,n,s,o⟩:=v;have h':o.length<=1048576:=h
 have ho:o.length<=M:=h;have hb:o.length<9223372036854775807:=by omega
 unfold ao yo aK aC;simp only[xU,Qh,OH ho,EI hb,an];by_cases h2:k=2
 · subst h2;cases uE n (-2147483648) 2147483647<;>cases s==[]<;>cases (o.length:Int)==0<;>simp
 by_cases h4:k=4
 · subst h4;cases decide ((s.length:Int)<=20)<;>cases n==0<;>cases (o.length:Int)==0<;>simp
 by_cases h6:k=6
 · subst h6;cases y8 o<;>cases n==0<;>cases s==[]<;>simp
 rw[beq_eq_false_iff_ne.2 h2,beq_eq_false_iff_ne.2 h4,beq_eq_false_iff_ne.2 h6];by_cases h5:k=5
 · subst h5;cases n==0<;>cases s==[]<;>cases (o.length:Int)==0<;>simp
 by_cases h128:k=128
 · subst h128;cases n==0<;>cases s==[]<;>cases (o.length:Int)==0<;>simp
 by_cases h130:k=130
 · subst h130;cases n==0<;>cases s==[]<;>cases (o.length:Int)==0<;>simp
 rw[beq_eq_false_iff_ne.2 h5,beq_eq_false_iff_ne.2 h128,beq_eq_false_iff_ne.2 h130];rfl
theorem HZ {v:yj} (h:v.2.2.2.length<=M):bj v=some (yo v):=by
 obtain⟨k,n,s,o⟩:=v;have h':o.length<=1048576:=h
 have hb:o.length<9223372036854775807:=by omega
 obtain⟨c,hc,hc2⟩:=Pj n;unfold bj yo;simp only[JV,EI hb,hc,hc2,an];by_cases h5:k=5
 · subst h5;cases n==0<;>cases s==[]<;>cases (o.length:Int)==0<;>simp
 by_cases h128:k=128
 · subst h128;cases n==0<;>cases s==[]<;>cases (o.length:Int)==0<;>simp
 by_cases h130:k=130
 · subst h130;cases n==0<;>cases s==[]<;>cases (o.length:Int)==0<;>simp
 rw[beq_eq_false_iff_ne.2 h5,beq_eq_false_iff_ne.2 h128,beq_eq_false_iff_ne.2 h130];by_cases h2:k=2
 · subst h2;cases uE n (-2147483648) 2147483647<;>cases s==[]<;>cases (o.length:Int)==0<;>simp
 by_cases h4:k=4
 · subst h4;cases decide ((s.length:Int)<=20)<;>cases n==0<;>cases (o.length:Int)==0<;>simp
 by_cases h6:k=6
 · subst h6;cases y8 o<;>cases n==0<;>cases s==[]<;>simp
 rw[beq_eq_false_iff_ne.2 h2,beq_eq_false_iff_ne.2 h4,beq_eq_false_iff_ne.2 h6];rfl
def yD (x:uC):Bool:=y8 x.1&&yo x.2
def bX (l:List uC) (k:Nat):Bool:=match l[k]? with|some x=>!(yD x)|none=>false
def wG (p:v9):Bool :=
 (!((List.range p.2.2.2.2.length).any (bX p.2.2.2.2))&&decide ((p.2.2.2.2.length:Int)<=10)) &&
 (cond (p.1==162||p.1==165) (uE p.2.2.1 0 1000&&uE p.2.2.2.1 0 1000)
  (cond (p.1==160||(p.1==161||p.1==163)) (p.2.2.1==0&&p.2.2.2.1==0) false)&&uE p.2.1 (-2147483648) 2147483647)
theorem RA {n:Nat} {f g:Nat->Bool}:(List.range n).any (λk=>f k||g k)=((List.range n).any f||(List.range n).any g):=by
 generalize List.range n=l
 induction l with
 | nil=>rfl
 | cons a l ih=>simp only[List.any_cons,ih];cases f a<;>cases g a<;>simp
theorem Qi (n:Nat):(List.range n).any (λk=>decide ((k:Int)>=10))=!(decide ((n:Int)<=10)):=by
 by_cases h:(n:Int)<=10
 · rw[dT h];refine Bool.eq_false_iff.2 λha=>?_;obtain⟨k,h1,h2⟩:=any_eq_true.1 ha;have:=mem_range.1 h1
   have:=of_decide_eq_true h2;omega
 · rw[dF h];exact any_eq_true.2 ⟨10,mem_range.2 (by omega),by decide⟩
theorem OI {p:v9} (h:xi M p):loop (λz=>ij p z) 0=some (cond (!(decide ((p.2.2.2.2.length:Int)<=10))||(List.range p.2.2.2.2.length).any (bX p.2.2.2.2)) (Sum.inr false) (Sum.inl ())):=by
 obtain⟨k,i,e,x,l⟩:=p;have h':Ca M l:=h
 have hl:l.length<=1048576:=h'.1;show loop (λz=>ij (k,i,e,x,l) z) 0=some (cond (!(decide ((l.length:Int)<=10))||(List.range l.length).any (bX l)) (Sum.inr false) (Sum.inl ()))
 rw[←Qi,←RA,←yC (n:=l.length) (c:=λi=>(at? l i).bind λx=>(cond (decide (i>=10)) (some true) ((am x.1).bind λt=>some (!t))).bind λt=>(cond t (some true) ((ao x.2).bind λt=>some (!t)))) (b:=λk=>decide ((k:Int)>=10)||bX l k) (by omega) (λk hk=>by
  have hx:FC M l[k]:=h'.2 _ (getElem_mem hk);have h1:l[k].1.length<=1048576:=hx.1
  have h2:l[k].2.2.2.2.length<=M:=hx.2.2;simp only[uO hk,an,bX,List.getElem?_eq_getElem hk,EI (show l[k].1.length<9223372036854775807 by omega),GJ (v:=l[k].2) h2,yD];cases decide ((k:Int)>=10)<;>cases y8 l[k].1<;>cases yo l[k].2<;>rfl)]
 refine xo (λi=>?_) 0;unfold ij;simp only[Option.bind_assoc,an]
theorem ND {p:v9} (h:xi M p):loop (λz=>gp p z) 0=some (cond ((List.range p.2.2.2.2.length).any (bX p.2.2.2.2)) (Sum.inr false) (Sum.inl ())):=by
 obtain⟨k,i,e,x,l⟩:=p;have h':Ca M l:=h
 have hl:l.length<=1048576:=h'.1;show loop (λz=>gp (k,i,e,x,l) z) 0=some (cond ((List.range l.length).any (bX l)) (Sum.inr false) (Sum.inl ()))
 rw[←yC (n:=l.length) (c:=λi=>(at? l i).bind λx=>(bC x.1).bind λt=>(cond (!t) (some true) ((at? l i).bind λx=>(bj x.2).bind λt=>some (!t)))) (b:=bX l) (by omega) (λk hk=>by
  have hx:FC M l[k]:=h'.2 _ (getElem_mem hk);have h1:l[k].1.length<=1048576:=hx.1
  have h2:l[k].2.2.2.2.length<=M:=hx.2.2;simp only[uO hk,an,bX,List.getElem?_eq_getElem hk,JV,EI (show l[k].1.length<9223372036854775807 by omega),HZ (v:=l[k].2) h2,yD];cases y8 l[k].1<;>cases yo l[k].2<;>rfl)]
 refine xo (λi=>?_) 0;unfold gp;simp only[Option.bind_assoc,an]
theorem OJ {p:v9} (h:xi M p):da p=some (wG p):=by
 have e0:=OI h;have e1:loop (λz=>mF p z) 0=_:=e0
 have e2:loop (λz=>mG p z) 0=_:=e0;have e3:loop (λz=>mH p z) 0=_:=e0
 have e4:loop (λz=>mI p z) 0=_:=e0;have e5:loop (λz=>mJ p z) 0=_:=e0
 have e6:loop (λz=>mK p z) 0=_:=e0;have e7:loop (λz=>mL p z) 0=_:=e0
 have e8:loop (λz=>mM p z) 0=_:=e0;unfold da wG aC;rw[e0,e1,e2,e3,e4,e5,e6,e7,e8];simp only[xU,an];generalize (List.range p.2.2.2.2.length).any (bX p.2.2.2.2)=u;generalize decide ((p.2.2.2.2.length:Int)<=10)=w;generalize uE p.2.1 (-2147483648) 2147483647=x;generalize p.2.2.1=e;generalize p.2.2.2.1=i;generalize p.1=k;by_cases h0:k=160
 · subst h0;have b1:(e != 0)=!(e==0):=rfl
   have b2:(i != 0)=!(i==0):=rfl;rw[b1,b2];cases e==0<;>cases i==0<;>cases u<;>cases w<;>cases x<;>rfl
 by_cases h1:k=161
 · subst h1;have b1:(e != 0)=!(e==0):=rfl
   have b2:(i != 0)=!(i==0):=rfl;rw[b1,b2];cases e==0<;>cases i==0<;>cases u<;>cases w<;>cases x<;>rfl
 by_cases h3:k=163
 · subst h3;have b1:(e != 0)=!(e==0):=rfl
   have b2:(i != 0)=!(i==0):=rfl;rw[b1,b2];cases e==0<;>cases i==0<;>cases u<;>cases w<;>cases x<;>rfl
 by_cases h2:k=162
 · subst h2;cases uE e 0 1000<;>cases uE i 0 1000<;>cases u<;>cases w<;>cases x<;>rfl
 by_cases h5:k=165
 · subst h5;cases uE e 0 1000<;>cases uE i 0 1000<;>cases u<;>cases w<;>cases x<;>rfl
 rw[beq_eq_false_iff_ne.2 h0,beq_eq_false_iff_ne.2 h1,beq_eq_false_iff_ne.2 h2,beq_eq_false_iff_ne.2 h3,beq_eq_false_iff_ne.2 h5];cases u<;>cases w<;>rfl
theorem Mg {p:v9} (h:xi M p):bD p=some (wG p):=by
 obtain⟨c,hc,hc2⟩:=Pj p.2.1;unfold bD wG iO;rw[ND h];simp only[Al,hc,hc2,an];generalize (List.range p.2.2.2.2.length).any (bX p.2.2.2.2)=u;generalize decide ((p.2.2.2.2.length:Int)<=10)=w;generalize uE p.2.1 (-2147483648) 2147483647=x;generalize p.2.2.1=e;generalize p.2.2.2.1=i;generalize p.1=k;have b1:(e != 0)=!(e==0):=rfl
 have b2:(i != 0)=!(i==0):=rfl;rw[b1,b2];have z1:(e==0)=true->uE e 0 1000=true:=λh=>by rw[eq_of_beq h];rfl
 have z2:(i==0)=true->uE i 0 1000=true:=λh=>by rw[eq_of_beq h];rfl
 by_cases h2:k=162
 · subst h2;cases uE e 0 1000<;>cases uE i 0 1000<;>cases u<;>cases w<;>cases x<;>rfl
 by_cases h5:k=165
 · subst h5;cases uE e 0 1000<;>cases uE i 0 1000<;>cases u<;>cases w<;>cases x<;>rfl
 have n2:(k != 162)=true:=bne_iff_ne.2 h2;have n5:(k != 165)=true:=bne_iff_ne.2 h5
 rw[n2,n5,beq_eq_false_iff_ne.2 h2,beq_eq_false_iff_ne.2 h5];cases he:e==0 with
 | false=>cases hi:i==0<;>cases u<;>cases w<;>cases x<;>cases k==160<;>cases k==161<;>cases k==163<;>rfl
 | true =>
  rw[z1 he];cases hi:i==0 with
  | false=>cases u<;>cases w<;>cases x<;>cases k==160<;>cases k==161<;>cases k==163<;>rfl
  | true =>
   rw[z2 hi];cases u<;>cases w<;>cases x<;>cases k==160<;>cases k==161<;>cases k==163<;>rfl
def vl (j:vF):Int:=j.2.2.2.2.2.2.2.2.2.2.2.2.2.2.2.2.2.2.2.2
def yp (j:vF):Int:=j.2.2.2.2.2.2.2.2.2.2.2.2.2.2.2.2.2.2.2.1
noncomputable def B2 (j:vF):Bool:=uE j.2.2.1 0 2&&(uE (yp j) 0 (j.2.2.2.2.2.2.2.1.length:Int)&&(uE (vl j) 0 3&&(j.2.2.1==0||(wG (jP j)&&((j.2.2.2.1 != 162)&&vk (jB j))))))
structure KV (j:vF):Prop where
 p:xi M (jP j)
 b:xt (jB j)
theorem TI {j:vF} (h:KV j):fR j=some (B2 j):=by
 have hp:da (j.2.2.2.1,j.2.2.2.2.1,j.2.2.2.2.2.1,j.2.2.2.2.2.2.1,j.2.2.2.2.2.2.2.1)=some (wG (jP j)):=OJ h.p;have hb:=yQ h.b
 unfold jB at hb;unfold fR B2;rw[hp,hb];simp only[xU,an,yp,vl];cases uE j.2.2.1 0 2<;>cases uE j.2.2.2.2.2.2.2.2.2.2.2.2.2.2.2.2.2.2.2.1 0 (j.2.2.2.2.2.2.2.1.length:Int)<;>cases uE j.2.2.2.2.2.2.2.2.2.2.2.2.2.2.2.2.2.2.2.2 0 3<;>cases j.2.2.1==0<;>cases wG (jP j)<;>cases j.2.2.2.1 != 162<;>rfl
theorem TJ {j:vF} (h:KV j) (last:Int):eY j last=some (uE j.1 1 last&&B2 j):=by
 have hp:bD (j.2.2.2.1,j.2.2.2.2.1,j.2.2.2.2.2.1,j.2.2.2.2.2.2.1,j.2.2.2.2.2.2.2.1)=some (wG (jP j)):=Mg h.p;have hb:=AD h.b
 unfold jB at hb;unfold eY iP B2;rw[hp,hb];simp only[Al,an,yp,vl];cases uE j.1 1 last<;>cases uE j.2.2.1 0 2<;>cases uE j.2.2.2.2.2.2.2.2.2.2.2.2.2.2.2.2.2.2.2.1 0 (j.2.2.2.2.2.2.2.1.length:Int)<;>cases uE j.2.2.2.2.2.2.2.2.2.2.2.2.2.2.2.2.2.2.2.2 0 3<;>cases j.2.2.1==0<;>cases wG (jP j)<;>cases j.2.2.2.1 != 162<;>rfl
def uD (a:uN):List vF:=a.2.2.2.2.2.2.2.2.2.2.2.2.1
def va (a:uN):Int:=a.2.2.2.2.2.2.2.2.2.2.2.2.2.2
def vM (a:uN):Int:=a.2.2.2.2.2.2.2.2.2.2.2.2.2.1
noncomputable def DM (l:List vF) (last:Int) (k:Nat):Bool:=match l[k]? with
 | some j=>!(uE j.1 1 last&&B2 j)||(decide (0<k)&&(match l[k-1]? with|some p=>decide (p.1>=j.1)|none=>false))
 | none=>false
noncomputable def xj (a:uN):Bool:=!((List.range (uD a).length).any (DM (uD a) (va a)))&&(vk (aB a)&&(decide ((a.2.2.2.2.2.2.2.2.2.2.2.1.length:Int)<=20)&&(decide (((uD a).length:Int)<=6)&&(uE (vM a) 0 1000000&&uE (va a) 0 1000000))))
structure Hx (a:uN):Prop where
 b:xt (aB a)
 n:(uD a).length<=1048576
 j:∀x∈uD a,KV x
theorem Mh {a:uN} (h:Hx a):loop (λz=>jm a z) 0=some (cond ((List.range (uD a).length).any (DM (uD a) (va a))) (Sum.inr false) (Sum.inl ())):=by
 have hn:=h.n;rw[←yC (n:=(uD a).length) (c:=λi=>(at? (uD a) i).bind λx=>(ac x.1 1 (va a)).bind λt=>(cond (!t) (some true) ((cond (decide (i>0)) ((at? (uD a) (uB (i-1))).bind λy=>some (decide (y.1>=x.1))) (some false)).bind λt=>some t)).bind λt=>(cond t (some true) ((fR x).bind λt=>some (!t))).bind λt=>some t) (b:=DM (uD a) (va a)) (by omega) (λk hk=>by
  simp only[uO hk,an,xU,TI (h.j _ (getElem_mem hk)),DM,List.getElem?_eq_getElem hk];by_cases h0:0<k
  · have hd:decide ((k:Int)>0)=true:=dT (by omega);simp only[hd,Cz hk h0 (by omega),an,dT h0,List.getElem?_eq_getElem (show k-1<(uD a).length by omega),cT];cases uE (uD a)[k].1 1 (va a)<;>cases decide ((uD a)[k-1].1>=(uD a)[k].1)<;>cases B2 (uD a)[k]<;>rfl
  · have hd:decide ((k:Int)>0)=false:=dF (by omega);simp only[hd,dF h0];cases uE (uD a)[k].1 1 (va a)<;>cases B2 (uD a)[k]<;>rfl)]
 refine xo (λi=>?_) 0;unfold jm uD va;simp only[Option.bind_assoc,an]
theorem Kn {a:uN} (h:Hx a):loop (λz=>iQ a z) 0=some (cond ((List.range (uD a).length).any (DM (uD a) (va a))) (Sum.inr false) (Sum.inl ())):=by
 have hn:=h.n;rw[←yC (n:=(uD a).length) (c:=λi=>(at? (uD a) i).bind λx=>(eY x (va a)).bind λt=>(cond (!t) (some true) ((cond (decide (i>0)) ((at? (uD a) (uB (i-1))).bind λy=>(at? (uD a) i).bind λx=>some (decide (y.1>=x.1))) (some false)).bind λt=>some t))) (b:=DM (uD a) (va a)) (by omega) (λk hk=>by
  simp only[uO hk,an,TJ (h.j _ (getElem_mem hk)),DM,List.getElem?_eq_getElem hk];by_cases h0:0<k
  · have hd:decide ((k:Int)>0)=true:=dT (by omega);simp only[hd,Cz hk h0 (by omega),an,dT h0,List.getElem?_eq_getElem (show k-1<(uD a).length by omega),cT];cases uE (uD a)[k].1 1 (va a)<;>cases decide ((uD a)[k-1].1>=(uD a)[k].1)<;>cases B2 (uD a)[k]<;>rfl
  · have hd:decide ((k:Int)>0)=false:=dF (by omega);simp only[hd,dF h0];cases uE (uD a)[k].1 1 (va a)<;>cases B2 (uD a)[k]<;>rfl)]
 refine xo (λi=>?_) 0;unfold iQ uD va;simp only[Option.bind_assoc,an]
theorem SP (n m:Int):decide (n>m)=!(decide (n<=m)):=by
 by_cases h:n<=m
 · rw[dT h,dF (by omega)];rfl
 · rw[dF h,dT (by omega)];rfl
theorem D1 {a:uN} (h:Hx a):ed a=some (xj a):=by
 have hb:aS (a.1,a.2.1,a.2.2.1,a.2.2.2.1,a.2.2.2.2.1,a.2.2.2.2.2.1,a.2.2.2.2.2.2.1,a.2.2.2.2.2.2.2.1,a.2.2.2.2.2.2.2.2.1,a.2.2.2.2.2.2.2.2.2.1,a.2.2.2.2.2.2.2.2.2.2.1)=some (vk (aB a)):=yQ h.b;unfold ed xj;rw[Mh h,hb];simp only[Nt,an,SP,vM,va];generalize (List.range (uD a).length).any _=u;show _=some (!u&&(vk (aB a)&&(_&&(decide ((a.2.2.2.2.2.2.2.2.2.2.2.2.1.length:Int)<=6)&&(_)))))
 cases u<;>cases vk (aB a)<;>cases decide ((a.2.2.2.2.2.2.2.2.2.2.2.1.length:Int)<=20)<;>cases decide ((a.2.2.2.2.2.2.2.2.2.2.2.2.1.length:Int)<=6)<;>cases uE a.2.2.2.2.2.2.2.2.2.2.2.2.2.1 0 1000000<;>cases uE a.2.2.2.2.2.2.2.2.2.2.2.2.2.2 0 1000000<;>rfl
theorem Hy {a:uN} (h:Hx a):dy a=some (xj a):=by
 have hb:aN (a.1,a.2.1,a.2.2.1,a.2.2.2.1,a.2.2.2.2.1,a.2.2.2.2.2.1,a.2.2.2.2.2.2.1,a.2.2.2.2.2.2.2.1,a.2.2.2.2.2.2.2.2.1,a.2.2.2.2.2.2.2.2.2.1,a.2.2.2.2.2.2.2.2.2.2.1)=some (vk (aB a)):=AD h.b;unfold dy xj;rw[Kn h,hb];simp only[Al,an,vM,va];generalize (List.range (uD a).length).any _=u;show _=some (!u&&(vk (aB a)&&(_&&(decide ((a.2.2.2.2.2.2.2.2.2.2.2.2.1.length:Int)<=6)&&(_)))))
 cases u<;>cases vk (aB a)<;>cases decide ((a.2.2.2.2.2.2.2.2.2.2.2.1.length:Int)<=20)<;>cases decide ((a.2.2.2.2.2.2.2.2.2.2.2.2.1.length:Int)<=6)<;>cases uE a.2.2.2.2.2.2.2.2.2.2.2.2.2.1 0 1000000<;>cases uE a.2.2.2.2.2.2.2.2.2.2.2.2.2.2 0 1000000<;>rfl
theorem FH {α:Type} {l:List α} {step:Int×List α->Option ((Int×List α)⊕List α)} (hn:l.length<=M)
 (hs:∀k (hk:k<l.length) out,step ((k:Int),out)=(uV out [l[k]]).bind λzs=>some (.inl (((k+1:Nat):Int),zs)))
 (he:∀out,step ((l.length:Int),out)=some (.inr out)):loop step (0,[])=some l:=by
 have hn':l.length<=1048576:=hn;obtain⟨b,h1,rfl⟩:=uS (step:=step) (λk z=>z=((k:Int),l.take k)) l.length (λb=>b=l)
  (λk z hk e=>by
   subst e;left;refine⟨_,by rw[hs k hk,uG (by rw[length_take];show _+1<=_;omega),an],?_⟩;rw[take_add_one,List.getElem?_eq_getElem hk];rfl)
  (λz e=>by
   subst e;exact⟨_,he _,by rw[take_length]⟩) (x:=(0,[])) rfl
 exact h1
theorem Qj {v:yj} (h:T6 M v):il v=some v:=by unfold il;rw[EH h.2];rfl
theorem FI {l:List uC} (h:Ca M l):ep l=some l:=by
 have hn:l.length<=1048576:=h.1;unfold ep;rw[FH (step:=λz=>eo l z.1 z.2) h.1 (λk hk out=>by
  show eo l (k:Int) out=_;unfold eo;have hx:=h.2 _ (getElem_mem hk)
  rw[vj (by omega),cT,uO hk,an,EH hx.1,an,Qj hx.2,an,uL (by omega)]) (λout=>by
  show eo l (l.length:Int) out=_;unfold eo;rw[vd (by omega),cF])];rfl
theorem Cq {l:List uC} (h:Ca M l):cu l=some l:=by
 have hn:l.length<=1048576:=h.1;unfold cu;rw[FH (step:=λz=>dz l z.1 z.2) h.1 (λk hk out=>by
  show dz l (k:Int) out=_;unfold dz;have hx:=h.2 _ (getElem_mem hk)
  rw[vj (by omega),cT,uO hk,an,yb hx.2.2,an,an,yb hx.1,an,uL (by omega)]) (λout=>by
  show dz l (l.length:Int) out=_;unfold dz;rw[vd (by omega),cF])];rfl
theorem Qk {p:v9} (h:xi M p):fS p=some p:=by unfold fS;rw[FI h];rfl
theorem OK {p:v9} (h:xi M p):eZ p=some p:=by unfold eZ;rw[Cq h];rfl
theorem zH {a:uN} (h:EW M a):cW a=some a:=by
 obtain⟨h1,h2,h3,h4⟩:=h;have hn:(uD a).length<=1048576:=h3
 unfold cW;have hb:ak (a.1,a.2.1,a.2.2.1,a.2.2.2.1,a.2.2.2.2.1,a.2.2.2.2.2.1,a.2.2.2.2.2.2.1,a.2.2.2.2.2.2.2.1,a.2.2.2.2.2.2.2.2.1,a.2.2.2.2.2.2.2.2.2.1,a.2.2.2.2.2.2.2.2.2.2.1)=some (aB a):=wl h1
 rw[hb,an,FH (l:=uD a) (step:=λz=>eq a z.1 z.2) h3 (λk hk out=>by
  show eq a (k:Int) out=_;unfold eq;obtain⟨hx1,hx2,hx3⟩:=h4 _ (getElem_mem hk);have e0:at? a.2.2.2.2.2.2.2.2.2.2.2.2.1 (k:Int)=some (uD a)[k]:=uO hk
  rw[vj (show (k:Int)<(a.2.2.2.2.2.2.2.2.2.2.2.2.1.length:Int) by show (k:Int)<((uD a).length:Int);omega),cT,e0,an];generalize (uD a)[k]=x at hx1 hx2 hx3;have e1:fS (x.2.2.2.1,x.2.2.2.2.1,x.2.2.2.2.2.1,x.2.2.2.2.2.2.1,x.2.2.2.2.2.2.2.1)=some (jP x):=Qk hx2
  have e2:ak (x.2.2.2.2.2.2.2.2.1,x.2.2.2.2.2.2.2.2.2.1,x.2.2.2.2.2.2.2.2.2.2.1,x.2.2.2.2.2.2.2.2.2.2.2.1,x.2.2.2.2.2.2.2.2.2.2.2.2.1,x.2.2.2.2.2.2.2.2.2.2.2.2.2.1,x.2.2.2.2.2.2.2.2.2.2.2.2.2.2.1,x.2.2.2.2.2.2.2.2.2.2.2.2.2.2.2.1,x.2.2.2.2.2.2.2.2.2.2.2.2.2.2.2.2.1,x.2.2.2.2.2.2.2.2.2.2.2.2.2.2.2.2.2.1,x.2.2.2.2.2.2.2.2.2.2.2.2.2.2.2.2.2.2.1)=some (jB x):=wl hx3;rw[Am hx1,an,e1,an,e2,an,uL (by omega)];rfl) (λout=>by
  show eq a ((uD a).length:Int) out=_;unfold eq;rw[vd (show ¬((uD a).length:Int)<(a.2.2.2.2.2.2.2.2.2.2.2.2.1.length:Int) by show ¬((uD a).length:Int)<((uD a).length:Int);omega),cF])]
 rfl
theorem Cr {a:uN} (h:EW M a):f7 a=some a:=by
 obtain⟨h1,h2,h3,h4⟩:=h;have hn:(uD a).length<=1048576:=h3
 unfold f7;have hb:ap (a.1,a.2.1,a.2.2.1,a.2.2.2.1,a.2.2.2.2.1,a.2.2.2.2.2.1,a.2.2.2.2.2.2.1,a.2.2.2.2.2.2.2.1,a.2.2.2.2.2.2.2.2.1,a.2.2.2.2.2.2.2.2.2.1,a.2.2.2.2.2.2.2.2.2.2.1)=some (aB a):=xp h1
 rw[hb,an];obtain⟨d,d1,rfl⟩:=uS (step:=λz:Int×Int×List UInt8×Int×Int×Int×Int×Int×List UInt8×Int×Int×List vF=>f6 a z.1 z.2.1 z.2.2.1 z.2.2.2.1 z.2.2.2.2.1 z.2.2.2.2.2.1 z.2.2.2.2.2.2.1 z.2.2.2.2.2.2.2.1 z.2.2.2.2.2.2.2.2.1 z.2.2.2.2.2.2.2.2.2.1 z.2.2.2.2.2.2.2.2.2.2.1 z.2.2.2.2.2.2.2.2.2.2.2)
  (λk z=>z=((k:Int),a.1,a.2.1,a.2.2.2.2.2.2.1,a.2.2.2.2.2.2.2.1,a.2.2.2.2.2.2.2.2.1,a.2.2.2.2.2.2.2.2.2.1,a.2.2.2.2.2.2.2.2.2.2.1,a.2.2.2.2.2.2.2.2.2.2.2.1,a.2.2.2.2.2.2.2.2.2.2.2.2.2.1,a.2.2.2.2.2.2.2.2.2.2.2.2.2.2,(uD a).take k)) (uD a).length
  (λd=>d=(a.1,a.2.1,a.2.2.2.2.2.2.1,a.2.2.2.2.2.2.2.1,a.2.2.2.2.2.2.2.2.1,a.2.2.2.2.2.2.2.2.2.1,a.2.2.2.2.2.2.2.2.2.2.1,a.2.2.2.2.2.2.2.2.2.2.2.1,a.2.2.2.2.2.2.2.2.2.2.2.2.2.1,a.2.2.2.2.2.2.2.2.2.2.2.2.2.2,uD a))
  (λk z hk e=>by
   subst e;left;simp only;unfold f6;obtain⟨hx1,hx2,hx3⟩:=h4 _ (getElem_mem hk);have e0:at? a.2.2.2.2.2.2.2.2.2.2.2.2.1 (k:Int)=some (uD a)[k]:=uO hk
   have et:(uD a).take (k+1)=(uD a).take k++[(uD a)[k]]:=by rw[take_add_one,List.getElem?_eq_getElem hk];rfl
   rw[vj (show (k:Int)<(a.2.2.2.2.2.2.2.2.2.2.2.2.1.length:Int) by show (k:Int)<((uD a).length:Int);omega),cT,e0,an,et];generalize (uD a)[k]=x at hx1 hx2 hx3;have e1:eZ (x.2.2.2.1,x.2.2.2.2.1,x.2.2.2.2.2.1,x.2.2.2.2.2.2.1,x.2.2.2.2.2.2.2.1)=some (jP x):=OK hx2
   have e2:ap (x.2.2.2.2.2.2.2.2.1,x.2.2.2.2.2.2.2.2.2.1,x.2.2.2.2.2.2.2.2.2.2.1,x.2.2.2.2.2.2.2.2.2.2.2.1,x.2.2.2.2.2.2.2.2.2.2.2.2.1,x.2.2.2.2.2.2.2.2.2.2.2.2.2.1,x.2.2.2.2.2.2.2.2.2.2.2.2.2.2.1,x.2.2.2.2.2.2.2.2.2.2.2.2.2.2.2.1,x.2.2.2.2.2.2.2.2.2.2.2.2.2.2.2.2.1,x.2.2.2.2.2.2.2.2.2.2.2.2.2.2.2.2.2.1,x.2.2.2.2.2.2.2.2.2.2.2.2.2.2.2.2.2.2.1)=some (jB x):=xp hx3;rw[yb hx1,an,e1,an,e2,an,uG (by rw[length_take];show _+1<=_;omega),an,uL (by omega)];exact⟨_,rfl,rfl⟩)
  (λz e=>by
   subst e;simp only;unfold f6;rw[vd (show ¬((uD a).length:Int)<(a.2.2.2.2.2.2.2.2.2.2.2.2.1.length:Int) by show ¬((uD a).length:Int)<((uD a).length:Int);omega),cF,take_length];exact⟨_,rfl,rfl⟩) (x:=(0,a.1,a.2.1,a.2.2.2.2.2.2.1,a.2.2.2.2.2.2.2.1,a.2.2.2.2.2.2.2.2.1,a.2.2.2.2.2.2.2.2.2.1,a.2.2.2.2.2.2.2.2.2.2.1,a.2.2.2.2.2.2.2.2.2.2.2.1,a.2.2.2.2.2.2.2.2.2.2.2.2.2.1,a.2.2.2.2.2.2.2.2.2.2.2.2.2.2,[])) rfl
 have d1':loop (λz:Int×Int×List UInt8×Int×Int×Int×Int×Int×List UInt8×Int×Int×List vF=>f6 a z.1 z.2.1 z.2.2.1 z.2.2.2.1 z.2.2.2.2.1 z.2.2.2.2.2.1 z.2.2.2.2.2.2.1 z.2.2.2.2.2.2.2.1 z.2.2.2.2.2.2.2.2.1 z.2.2.2.2.2.2.2.2.2.1 z.2.2.2.2.2.2.2.2.2.2.1 z.2.2.2.2.2.2.2.2.2.2.2) (0,(aB a).1,(aB a).2.1,(aB a).2.2.2.2.2.2.1,(aB a).2.2.2.2.2.2.2.1,(aB a).2.2.2.2.2.2.2.2.1,(aB a).2.2.2.2.2.2.2.2.2.1,(aB a).2.2.2.2.2.2.2.2.2.2,a.2.2.2.2.2.2.2.2.2.2.2.1,a.2.2.2.2.2.2.2.2.2.2.2.2.2.1,a.2.2.2.2.2.2.2.2.2.2.2.2.2.2,[])=_:=d1;rw[d1'];rfl

theorem An {n:Nat} {step:Int->Option (Int⊕(Unit⊕Bool))} (h:∀k,k<n->step (k:Int)=some (.inl ((k+1:Nat):Int))) (he:step (n:Int)=some (.inr (.inl ()))):loop step 0=some (.inl ()):=by
 obtain⟨v,e,rfl⟩:=uS (step:=step) (λk i=>i=(k:Int)) n (λv=>v=.inl ()) (λk i hk e=>by subst e;exact .inl ⟨_,h k hk,rfl⟩) (λi e=>by subst e;exact⟨_,he,rfl⟩) (x:=0) rfl;exact e
def wP (l:List uQ) (id:Int):Int:=match l.findIdx? (λr=>r.1==id)with|some k=>(k:Int)|none=>-1
theorem C2 {v:vv} (hn:v.1.length<9223372036854775807) (id:Int):aj v id=some (wP v.1 id):=by
 unfold aj wP;obtain⟨b,h1,rfl⟩:=uS (β:=Unit⊕Int) (step:=λz=>aJ v id z) (λk i=>i=(k:Int)/\∀j (hj:j<k),∀(hl:j<v.1.length),¬((v.1[j].1==id)=true)) v.1.length (λb=>b=match v.1.findIdx? (λr=>r.1==id)with|some k=>.inr (k:Int)|none=>.inl ())
  (λk i hk ⟨h,hy⟩=>by
   subst h;unfold aJ;rw[vj (by omega),cT,uO hk,an];cases hb:(v.1[k].1==id)with
   | true =>
    refine .inr ⟨_,rfl,?_⟩;rw[List.findIdx?_eq_some_iff_getElem.2 ⟨hk,hb,λj hj=>hy j hj (by omega)⟩]
   | false =>
    refine .inl ⟨_,rfl,uL (by omega),λj hj hl=>?_⟩;by_cases hjk:j=k
    · subst hjk;rw[hb];simp
    · exact hy j (by omega) hl)
  (λi ⟨h,hy⟩=>by
   subst h;refine⟨.inl (),by unfold aJ;rw[vd (by omega),cF],?_⟩;rw[List.findIdx?_eq_none_iff.2 λx hx=>by
    obtain⟨j,hj,rfl⟩:=getElem_of_mem hx;have:=hy j hj hj
    simpa using this]) (x:=0) ⟨rfl,λj hj=>by omega⟩
 rw[h1,an];cases v.1.findIdx? (λr=>r.1==id)<;>rfl
theorem Ql {v:vv} (hn:v.1.length<9223372036854775807) (id:Int):bp v id=some (wP v.1 id):=C2 hn id
theorem Bw {l:List uQ} {id:Int} (h:0<=wP l id):∃k,∃hk:k<l.length,wP l id=(k:Int)/\l[k].1=id:=by
 unfold wP at h ⊢;cases hf:l.findIdx? (λr=>r.1==id)with
 | none=>rw[hf]at h;simp at h
 | some k =>
  obtain⟨hk,h1,_⟩:=List.findIdx?_eq_some_iff_getElem.1 hf;exact⟨k,hk,rfl,by simpa using h1⟩
theorem Mi {l:List uQ} {id:Int} (h:wP l id<0):∀x∈l,x.1≠id:=by
 unfold wP at h;cases hf:l.findIdx? (λr=>r.1==id)with
 | some k=>rw[hf]at h;simp at h;omega
 | none =>
  intro x hx;have:=List.findIdx?_eq_none_iff.1 hf x hx
  simpa using this
def Ct (l:List uF) (tag mac:Int):Int:=match l.findIdx? (λe=>e.1==tag&&e.2.1==mac)with|some k=>(k:Int)|none=>-1
theorem Hz {l:List uF} (hn:l.length<9223372036854775807) (tag mac:Int):dt l tag mac=some (Ct l tag mac):=by
 unfold dt Ct;obtain⟨b,h1,rfl⟩:=uS (β:=Unit⊕Int) (step:=λz=>dq l tag mac z) (λk i=>i=(k:Int)/\∀j (hj:j<k),∀(hl:j<l.length),¬((l[j].1==tag&&l[j].2.1==mac)=true)) l.length (λb=>b=match l.findIdx? (λe=>e.1==tag&&e.2.1==mac)with|some k=>.inr (k:Int)|none=>.inl ())
  (λk i hk ⟨h,hy⟩=>by
   subst h;have hs:dq l tag mac (k:Int)=cond (l[k].1==tag&&l[k].2.1==mac) (some (.inr (.inr (k:Int)))) (some (.inl ((k+1:Nat):Int))):=by
    unfold dq;simp only[vj (show (k:Int)<(l.length:Int) by omega),cT,uO hk,an,uL (show k<9223372036854775807 by omega)];cases l[k].1==tag<;>rfl
   show (∃y,dq l tag mac (k:Int)=some (.inl y)/\_)\/∃b,dq l tag mac (k:Int)=some (.inr b)/\_;rw[hs];cases hb:(l[k].1==tag&&l[k].2.1==mac)with
   | true =>
    refine .inr ⟨_,rfl,?_⟩;rw[List.findIdx?_eq_some_iff_getElem.2 ⟨hk,hb,λj hj=>hy j hj (by omega)⟩]
   | false =>
    refine .inl ⟨_,rfl,rfl,λj hj hl=>?_⟩;by_cases hjk:j=k
    · subst hjk;rw[hb];simp
    · exact hy j (by omega) hl)
  (λi ⟨h,hy⟩=>by
   subst h;refine⟨.inl (),by unfold dq;rw[vd (by omega),cF],?_⟩;rw[List.findIdx?_eq_none_iff.2 λx hx=>by
    obtain⟨j,hj,rfl⟩:=getElem_of_mem hx;have:=hy j hj hj
    simpa using this]) (x:=0) ⟨rfl,λj hj=>by omega⟩
 rw[h1,an];cases l.findIdx? (λe=>e.1==tag&&e.2.1==mac)<;>rfl
theorem Qm {l:List uF} (hn:l.length<9223372036854775807) (tag mac:Int):bT l tag mac=some (Ct l tag mac):=by
 unfold bT Ct;obtain⟨b,h1,rfl⟩:=uS (β:=Unit⊕Int) (step:=λz=>aQ l tag mac z) (λk i=>i=(k:Int)/\∀j (hj:j<k),∀(hl:j<l.length),¬((l[j].1==tag&&l[j].2.1==mac)=true)) l.length (λb=>b=match l.findIdx? (λe=>e.1==tag&&e.2.1==mac)with|some k=>.inr (k:Int)|none=>.inl ())
  (λk i hk ⟨h,hy⟩=>by
   subst h;have hs:aQ l tag mac (k:Int)=cond (l[k].1==tag&&l[k].2.1==mac) (some (.inr (.inr (k:Int)))) (some (.inl ((k+1:Nat):Int))):=by
    unfold aQ;simp only[vj (show (k:Int)<(l.length:Int) by omega),cT,uO hk,an,uL (show k<9223372036854775807 by omega)];cases l[k].1==tag<;>rfl
   show (∃y,aQ l tag mac (k:Int)=some (.inl y)/\_)\/∃b,aQ l tag mac (k:Int)=some (.inr b)/\_;rw[hs];cases hb:(l[k].1==tag&&l[k].2.1==mac)with
   | true =>
    refine .inr ⟨_,rfl,?_⟩;rw[List.findIdx?_eq_some_iff_getElem.2 ⟨hk,hb,λj hj=>hy j hj (by omega)⟩]
   | false =>
    refine .inl ⟨_,rfl,rfl,λj hj hl=>?_⟩;by_cases hjk:j=k
    · subst hjk;rw[hb];simp
    · exact hy j (by omega) hl)
  (λi ⟨h,hy⟩=>by
   subst h;refine⟨.inl (),by unfold aQ;rw[vd (by omega),cF],?_⟩;rw[List.findIdx?_eq_none_iff.2 λx hx=>by
    obtain⟨j,hj,rfl⟩:=getElem_of_mem hx;have:=hy j hj hj
    simpa using this]) (x:=0) ⟨rfl,λj hj=>by omega⟩
 rw[h1,an];cases l.findIdx? (λe=>e.1==tag&&e.2.1==mac)<;>rfl

def xe (o:List Int) (lo hi:Int) (head:List Int):Bool:=(o.length==head.length+4)&&((o.take (head.length+3)==[1,3,1]++head)&&(match o[head.length+3]? with|some x=>uE x lo hi|none=>false))
theorem EJ {o:List Int} (lo hi:Int) {head:List Int} (ho:o.length<=M) (hh:head.length<=100):aZ o lo hi head=some (xe o lo hi head):=by
 have ho':o.length<=1048576:=ho;have hw:uB ((head.length:Int)+4)=((head.length+4:Nat):Int):=by rw[uX (by omega) (by omega)];omega
 unfold aZ xe;rw[hw];by_cases hl:o.length=head.length+4
 · have hw2:uB ((o.length:Int)-1)=((head.length+3:Nat):Int):=by rw[uX (by omega) (by omega)];omega
   have hc:cut o 0 ((head.length+3:Nat):Int)=some (o.take (head.length+3)):=by
    rw[show (0:Int)=((0:Nat):Int)from rfl,xR (Nat.zero_le _) (by omega),List.drop_zero]
   have hlt:head.length+3<o.length:=by omega
   rw[show ((o.length:Int)==((head.length+4:Nat):Int))=true from beq_iff_eq.2 (by omega),cT,hw2,hc,an,uG (by show 3+head.length<=_;omega),an,Bu (by rw[length_append];show 3+head.length<_;omega),an,uO hlt,an,xU,an,List.getElem?_eq_getElem hlt];rw[show (o.length==head.length+4)=true from beq_iff_eq.2 hl];cases (o.take (head.length+3)==[1,3,1]++head)<;>rfl
 · rw[show ((o.length:Int)==((head.length+4:Nat):Int))=false from beq_eq_false_iff_ne.2 (by omega),cF,show (o.length==head.length+4)=false from beq_eq_false_iff_ne.2 hl];rfl
abbrev xS (b:uz):Int:=(b.2.2.1.length:Int)
abbrev yY (b:uz):List uQ:=b.2.2.2.2.1
def Mj (b:uz) (o:List Int):Bool:=xe o 1 1 [1]||(xe o 1 (xS b) [2,2]||(xe o 1 (xS b) [2,4]||(xe o 1 99 [3,1]||((xe o 1 99 [3,2]||xe o 1 99 [3,3])&&(match o[5]? with|some x=>decide (wP (yY b) x>=0)|none=>false)))))
theorem JW {o:List Int} {lo hi:Int} {head:List Int} (h:xe o lo hi head=true):o.length=head.length+4:=by
 unfold xe at h;simp only[aT,beq_iff_eq]at h;exact h.1
theorem TK {b:uz} (hb:yz M b) {o:List Int} (ho:o.length<=M):iw b o=some (Mj b o):=by
 have hr:b.2.2.2.2.1.length<9223372036854775807:=by have:b.2.2.2.2.1.length<=1048576:=hb.2.2.2.1;omega
 unfold iw Mj;rw[EJ 1 1 ho (by decide),EJ 1 _ ho (by decide),EJ 1 _ ho (by decide),EJ 1 99 ho (by decide),EJ 1 99 ho (by decide),EJ 1 99 ho (by decide)];simp only[an];cases xe o 1 1 [1]with
 | true=>rfl
 | false =>
 cases xe o 1 (xS b) [2,2]with
 | true=>rfl
 | false =>
 cases xe o 1 (xS b) [2,4]with
 | true=>rfl
 | false =>
 cases xe o 1 99 [3,1]with
 | true=>rfl
 | false =>
 have key:o.length=6->((at? o 5).bind λx41=>(aj (b.2.2.2.2.1,b.2.2.2.2.2.1) x41).bind λt43=>some (decide (t43>=0)))=some (match o[5]? with|some x=>decide (wP (yY b) x>=0)|none=>false):=by
  intro h6;have h5:5<o.length:=by omega
  rw[show (5:Int)=((5:Nat):Int)from rfl,uO h5,an,C2 hr,an,List.getElem?_eq_getElem h5]
 cases h2:xe o 1 99 [3,2]with
 | true =>
  simp only[cF,cT,an,Bool.false_or,Bool.true_or,Bool.true_and];rw[key (JW h2)];rfl
 | false =>
  cases h3:xe o 1 99 [3,3]with
  | true =>
   simp only[cF,cT,an,Bool.false_or,Bool.or_true,Bool.true_and];rw[key (JW h3)];rfl
  | false=>rfl
end Go.V.W
