/- The law FnReplies: part of the proof that for every input it returns true. No condition. -/
import Derived.KernelRfl
import Derived.Test.YtpidgkkbmlgehaaGreatFnReplies
import Derived.Test.YtpidgkkbmlgehaaGreatV4
open List (any_eq_false any_eq_true append_assoc cons_lt_cons_iff getElem_mem getElem_of_mem length_append length_map map_append mem_append mem_cons mem_flatMap mem_map mem_range not_mem_nil pairwise_append pairwise_iff_getElem range_succ take_add_one take_append_drop take_length)
set_option linter.unusedVariables false
set_option linter.unusedSimpArgs false
namespace Go.V.W
theorem nH {α β:Type} (a:α) (f:α->Option β):(some a).bind f=f a:=rfl
abbrev M:Nat:=1048576
abbrev In (left:Int):Prop:=0<=left/\left<=1048576
theorem In.next {left r:Int} (h:In left) (h1:0<=r) (h2:r<=left):In r:=⟨h1,by have:=h.2;omega⟩
theorem J6 {n:Nat} (h:n<=M):n<=4294967295:=Nat.le_trans h (by decide)
def vj (n:Nat) (b:nI):Prop:=b.2.1.length<=n/\b.2.2.1.length<=n/\b.2.2.2.1.length<=n/\b.2.2.2.2.1.length<=n/\b.2.2.2.2.2.1.length<=n
def IO (n:Nat) (v:qB):Prop:=v.2.2.1.length<=n/\v.2.2.2.length<=n
def xW (n:Nat) (x:nJ):Prop:=x.1.length<=n/\IO n x.2
def wa (n:Nat) (l:List nJ):Prop:=l.length<=n/\∀x∈l,xW n x
def tQ (n:Nat) (p:oe):Prop:=wa n p.2.2.2.2
theorem zE {α β:Type} {f g:α->Option (α⊕β)} (om:α->Prop) (h:∀x,om x->f x=g x) (hi:∀x y,om x->f x=some (.inl y)->om y) {x:α} (h0:om x):loop f x=loop g x:=by
 have key:∀k x,om x->qz f k x=qz g k x:=by
  intro k
  induction k with
  | zero=>intro x _;rfl
  | succ k ih =>
   intro x hx;rw[ph,ph,←h x hx];cases hf:f x with
   | none=>rfl
   | some v=>cases v with
    | inl y=>exact ih y (hi x y hx hf)
    | inr b=>rfl
 have hex:(∃k,(qz f k x).isSome)↔∃k,(qz g k x).isSome:=by
  constructor<;>rintro⟨k,hk⟩<;>exact⟨k,by first|rwa [←key k x h0]|rwa [key k x h0]⟩
 by_cases hc:∃k,(qz f k x).isSome
 · obtain⟨k,hk⟩:=hc;cases hv:qz f k x with
   | none=>rw[hv]at hk;cases hk
   | some b=>rw[sa hv,sa ((key k x h0)▸hv)]
 · have hc':¬ ∃k,(qz g k x).isSome:=λh=>hc (hex.2 h);unfold loop;rw[dif_neg hc,dif_neg hc']
theorem q7 {α β:Type} {f g:α->Option (α⊕β)} (h:∀x,f x=g x) (x:α):loop f x=loop g x:=by rw[funext h]
def nN (x a b:Int):Bool:=decide (x>=a)&&decide (x<=b)
theorem ra (x a b:Int):ae x a b=some (nN x a b):=by
 unfold ae nN;cases decide (x>=a)<;>rfl
theorem tV (x a b:Int):af x a b=some (nN x a b):=ra x a b
def xX (v:tP):Bool:=nN v.1 1 99&&(nN v.2.1 0 100000&&(nN v.2.2.1 0 10&&(nN v.2.2.2.1 1 99&&nN v.2.2.2.2 0 7)))
theorem Fi (v:tP):bN v=some (xX v):=by
 unfold bN xX;simp only[ra,nH];cases nN v.1 1 99<;>cases nN v.2.1 0 100000<;>cases nN v.2.2.1 0 10<;>cases nN v.2.2.2.1 1 99<;>rfl
theorem J7:cY=bN:=rfl
def tz (p:Pt):Bool:=nN p.2.1 1 1000&&(!(p.2.2.1&&!p.1)&&(cond p.2.2.1 (xX p.2.2.2) (p.2.2.2.1==0&&(p.2.2.2.2.1==0&&(p.2.2.2.2.2.1==0&&(p.2.2.2.2.2.2.1==0&&(p.2.2.2.2.2.2.2==0)))))))
theorem Jw (p:Pt):dg p=some (tz p):=by
 obtain⟨up,cost,heard,v⟩:=p;unfold dg tz;simp only[ra,Fi,nH];cases nN cost 1 1000<;>cases up<;>cases heard<;>rfl
theorem Jx (p:Pt):cZ p=some (tz p):=by
 obtain⟨up,cost,heard,v⟩:=p;unfold cZ tz;simp only[tV,J7,Fi,nH];cases nN cost 1 1000<;>cases up<;>cases heard<;>rfl
theorem rB {n:Nat} {c:Int->Option Bool} {b:Nat->Bool} (hn:n<9223372036854775807) (hc:∀k,k<n->c (k:Int)=some (b k)) :
 loop (λi:Int=>cond (decide (i<(n:Int))) ((c i).bind λt=>cond t (some (.inr (.inr false))) (some (.inl (nK (i+1))))) (some (.inr (.inl ())))) 0=some (cond ((List.range n).any b) (Sum.inr false) (Sum.inl ()):Unit⊕Bool):=by
 obtain⟨v,h1,h2⟩:=o9 (β:=Unit⊕Bool) (step:=λi:Int=>cond (decide (i<(n:Int))) ((c i).bind λt=>cond t (some (.inr (.inr false))) (some (.inl (nK (i+1))))) (some (.inr (.inl ()))))
  (λk i=>i=(k:Int)/\(List.range k).any b=false) n (λv=>v=cond ((List.range n).any b) (Sum.inr false) (Sum.inl ()))
  (λk i hk ⟨e,ha⟩=>by
   subst e;have hs:(cond (decide ((k:Int)<(n:Int))) ((c (k:Int)).bind λt=>cond t (some (.inr (.inr false))) (some (.inl (nK ((k:Int)+1))))) (some (.inr (.inl ()))):Option (Int⊕(Unit⊕Bool)))=cond (b k) (some (.inr (.inr false))) (some (.inl ((k+1:Nat):Int))):=by
    rw[oE (by omega),cT,hc k hk,nH,nZ (by omega)]
   cases hb:b k with
   | true =>
    refine .inr ⟨.inr false,by rw[hs,hb];rfl,?_⟩;have:(List.range n).any b=true:=any_eq_true.2 ⟨k,mem_range.2 hk,hb⟩
    rw[this];rfl
   | false =>
    refine .inl ⟨_,by rw[hs,hb];rfl,rfl,?_⟩;rw[range_succ,List.any_append,ha];simp[hb])
  (λi ⟨e,ha⟩=>by
   subst e;exact⟨.inl (),by rw[oq (by omega),cF],by rw[ha];rfl⟩) (x:=0) ⟨rfl,rfl⟩
 rw[h1,h2]
def rX (e:nO):Bool:=nN e.1 1 99&&(nN e.2.1 1 9999&&(nN e.2.2.1 0 7&&(nN e.2.2.2.1 0 4&&(!e.2.2.2.2||e.2.2.2.1==0))))
theorem Dj (e:nO):cq e=some (rX e):=by
 unfold cq rX;simp only[ra,nH];cases nN e.1 1 99<;>cases nN e.2.1 1 9999<;>cases nN e.2.2.1 0 7<;>cases nN e.2.2.2.1 0 4<;>cases e.2.2.2.2<;>rfl
theorem FO:bE=cq:=rfl
def tA (e:nO) (tag mac:Int):Bool:=decide (e.1>tag)||(e.1==tag&&decide (e.2.1>mac))
theorem Gt (e:nO) (tag mac:Int):dh e tag mac=some (tA e tag mac):=by
 unfold dh tA;cases decide (e.1>tag)<;>cases (e.1==tag)<;>rfl
theorem Hr (p e:nO):bm p e.1 e.2.1=some (tA e p.1 p.2.1):=by
 unfold bm tA;by_cases h:p.1=e.1
 · simp[h]
 · have h':¬e.1=p.1:=λk=>h k.symm;have e1:(p.1 != e.1)=true:=by simpa using h
   have e2:(e.1==p.1)=false:=by simpa using h'
   rw[e1,e2,cT,Bool.false_and,Bool.or_false]
def sk (l:List nO) (k:Nat):Bool:=match l[k]? with
 | some e=>!(rX e)||(decide (0<k)&&(match l[k-1]? with|some p=>!(tA e p.1 p.2.1)|none=>false))
 | none=>false
def si (l:List nO):Bool:=!((List.range l.length).any (sk l))&&decide ((l.length:Int)<=12)
theorem yk {α:Type} {l:List α} {k:Nat} (h:k<l.length) (hk:0<k) (hn:l.length<9223372036854775807):at? l (nK ((k:Int)-1))=some l[k-1]:=by
 rw[oC (by omega) (by omega),show (k:Int)-1=((k-1:Nat):Int) by omega,nX (by omega)]
theorem J8 {l:List nO} (hn:l.length<9223372036854775807):eg l=some (si l):=by
 unfold eg si;have h:=rB (n:=l.length) (c:=λi=>(at? l i).bind λx10=>(cq x10).bind λt13=>(cond (!t13) (some true) ((cond (decide (i>0)) ((at? l (nK (i-1))).bind λx23=>(at? l (nK (i-1))).bind λx29=>(dh x10 x23.1 x29.2.1).bind λt32=>some (!t32)) (some false)).bind λt34=>some t34)).bind λt=>some t) (b:=sk l) hn (λk hk=>by
  simp only[nX hk,nH,Dj,sk,List.getElem?_eq_getElem hk];cases rX l[k]with
  | false=>rfl
  | true =>
   by_cases h0:0<k
   · have hd:decide ((k:Int)>0)=true:=dT (by omega);simp only[hd,yk hk h0 hn,nH,Gt,dT h0,List.getElem?_eq_getElem (show k-1<l.length by omega)];rfl
   · have hd:decide ((k:Int)>0)=false:=dF (by omega);simp only[hd,dF h0];rfl)
 have e:(loop (λz=>fj l z) 0)=some (cond ((List.range l.length).any (sk l)) (Sum.inr false) (Sum.inl ())):=by
  rw[←h];refine q7 (λi=>?_) 0;unfold fj;simp only[Option.bind_assoc,nH]
 rw[e,nH];cases (List.range l.length).any (sk l)<;>rfl
theorem Hs {l:List nO} (hn:l.length<9223372036854775807):bG l=some (si l):=by
 unfold bG si;have h:=rB (n:=l.length) (c:=λi=>(at? l i).bind λx12=>(bE x12).bind λt14=>(cond (!t14) (some true) ((cond (decide (i>0)) ((at? l (nK (i-1))).bind λx23=>(at? l i).bind λx27=>(at? l i).bind λx32=>(bm x23 x27.1 x32.2.1).bind λt35=>some (!t35)) (some false)).bind λt37=>some t37)).bind λt=>some t) (b:=sk l) hn (λk hk=>by
  simp only[nX hk,nH,FO,Dj,sk,List.getElem?_eq_getElem hk];cases rX l[k]with
  | false=>rfl
  | true =>
   by_cases h0:0<k
   · have hd:decide ((k:Int)>0)=true:=dT (by omega);simp only[hd,yk hk h0 hn,nH,Hr,dT h0,List.getElem?_eq_getElem (show k-1<l.length by omega)];rfl
   · have hd:decide ((k:Int)>0)=false:=dF (by omega);simp only[hd,dF h0];rfl)
 have e:(loop (λz=>f9 l z) 0)=some (cond ((List.range l.length).any (sk l)) (Sum.inr false) (Sum.inl ())):=by
  rw[←h];refine q7 (λi=>?_) 0;unfold f9;simp only[Option.bind_assoc,nH]
 rw[e,nH];cases (List.range l.length).any (sk l)<;>rfl

theorem Ht:aP=al:=rfl
theorem En {v:oy} (hn:v.1.length<9223372036854775807) (id:Int):∃r,al v id=some r:=by
 unfold al;obtain⟨b,h1,_⟩:=o9 (β:=Unit⊕Int) (step:=λz=>ax v id z) (λk i=>i=(k:Int)) v.1.length (λ_=>True)
  (λk i hk h=>by
   subst h;unfold ax;rw[oE (by omega),cT,nX hk,nH];cases (v.1[k].1==id)with
   | true=>exact .inr ⟨_,rfl,trivial⟩
   | false=>exact .inl ⟨_,rfl,nZ (by omega)⟩)
  (λi h=>by
   subst h;unfold ax;rw[oq (by omega)];exact⟨_,rfl,trivial⟩) (x:=0) rfl
 rw[h1,nH];cases b with
 | inl _=>exact⟨_,rfl⟩
 | inr r=>exact⟨r,rfl⟩
def po (i:Int):Int:=(2:Int)^i.toNat-1
theorem zF {i:Int} (h:nN i 1 6=true):i=1\/i=2\/i=3\/i=4\/i=5\/i=6:=by
 unfold nN at h;simp only[aT,decide_eq_true_eq]at h;omega
theorem Aw {i:Int} (h:nN i 1 6=true):dj i=some (po i):=by
 rcases zF h with rfl|rfl|rfl|rfl|rfl|rfl<;>rfl
theorem Dk {i:Int} (h:nN i 1 6=true):∃t,shl .i64 1 (IntKind.u64.wrap i)=some t/\nK (t-1)=po i:=by
 rcases zF h with rfl|rfl|rfl|rfl|rfl|rfl<;>exact⟨_,rfl,rfl⟩
theorem AN {i:Int} (h:nN i 1 6=true):1<=po i/\po i<=63:=by
 rcases zF h with rfl|rfl|rfl|rfl|rfl|rfl<;>decide
theorem zG (x:BitVec 64):IntKind.i64.wrap (x.toNat:Int)=x.toInt:=by
 have hx:=x.isLt;rw[BitVec.toInt_eq_toNat_cond];show (let m:=(x.toNat:Int)%18446744073709551616;if (true&&decide (m>=9223372036854775808))=true then m-18446744073709551616 else m)=_
 simp only[Bool.true_and,decide_eq_true_eq];have h1:(x.toNat:Int)%18446744073709551616=(x.toNat:Int):=by omega
 rw[h1];split<;>split<;>omega
theorem uk {b:Int} (h1:-9223372036854775808<=b) (h2:b<=9223372036854775807):(BitVec.ofInt 64 b).toInt=b:=by
 rw[BitVec.toInt_ofInt];unfold Int.bmod;simp only;split<;>omega
theorem AO (a b:Int):qL .i64 a b=(BitVec.ofInt 64 a&&&BitVec.ofInt 64 b).toInt:=zG _
theorem Id (a b:Int):vP .i64 a b=(BitVec.ofInt 64 a &&& ~~~ BitVec.ofInt 64 b).toInt:=zG _
theorem Co (x y:BitVec 64):x&&&y=x↔x &&& ~~~ y=0:=by
 constructor
 · intro h;apply BitVec.eq_of_getLsbD_eq;intro i hi;have:=congrArg (λz=>z.getLsbD i) h
   simp only[BitVec.getLsbD_and]at this;simp only[BitVec.getLsbD_and,BitVec.getLsbD_not,BitVec.getLsbD_zero,hi,decide_true,Bool.true_and];cases hx:x.getLsbD i<;>cases hy:y.getLsbD i<;>simp_all
 · intro h;apply BitVec.eq_of_getLsbD_eq;intro i hi;have:=congrArg (λz=>z.getLsbD i) h
   simp only[BitVec.getLsbD_and,BitVec.getLsbD_not,BitVec.getLsbD_zero,hi,decide_true,Bool.true_and]at this;simp only[BitVec.getLsbD_and];cases hx:x.getLsbD i<;>cases hy:y.getLsbD i<;>simp_all
theorem Ax {b m:Int} (h1:-9223372036854775808<=b) (h2:b<=9223372036854775807):(qL .i64 b m != b)=(vP .i64 b m != 0):=by
 rw[AO,Id];have e:((BitVec.ofInt 64 b&&&BitVec.ofInt 64 m).toInt=b)↔((BitVec.ofInt 64 b &&& ~~~ BitVec.ofInt 64 m).toInt=0):=by
  constructor
  · intro h;have:BitVec.ofInt 64 b&&&BitVec.ofInt 64 m=BitVec.ofInt 64 b:=BitVec.eq_of_toInt_eq (by rw[h,uk h1 h2])
    rw[(Co _ _).1 this];rfl
  · intro h;have:BitVec.ofInt 64 b &&& ~~~ BitVec.ofInt 64 m=0:=BitVec.eq_of_toInt_eq (by rw[h];rfl)
    rw[(Co _ _).2 this,uk h1 h2]
 by_cases h:(BitVec.ofInt 64 b&&&BitVec.ofInt 64 m).toInt=b
 · have h':=e.1 h;simp[h,h']
 · have h':¬(BitVec.ofInt 64 b &&& ~~~ BitVec.ofInt 64 m).toInt=0:=λk=>h (e.2 k);rw[bne_iff_ne.2 h,bne_iff_ne.2 h']
theorem Cp {b m t:Int} (h1:-9223372036854775808<=b) (h2:b<=9223372036854775807) (hm:nN m 0 t=true) (ht:t<=63) (h:(qL .i64 b m != b)=false):nN b 0 t=true:=by
 unfold nN at hm ⊢;simp only[aT,decide_eq_true_eq]at hm ⊢;have h:qL .i64 b m=b:=by simpa using h
 rw[AO]at h;have e:BitVec.ofInt 64 b&&&BitVec.ofInt 64 m=BitVec.ofInt 64 b:=BitVec.eq_of_toInt_eq (by rw[h,uk h1 h2])
 have hM:(BitVec.ofInt 64 m).toNat=m.toNat:=by
  rw[BitVec.toNat_ofInt];omega
 have hle:(BitVec.ofInt 64 b).toNat<=m.toNat:=by
  rw[←e,BitVec.toNat_and,hM];exact Nat.and_le_right
 have hb:(BitVec.ofInt 64 b).toInt=((BitVec.ofInt 64 b).toNat:Int):=by
  rw[BitVec.toInt_eq_toNat_cond];split<;>omega
 rw[uk h1 h2]at hb;omega
def tg (v:oy) (i:Int) (k:Nat):Bool:=match v.1[k]? with
 | some r=>!(nN r.1 1 99)||((decide (0<k)&&(match v.1[k-1]? with|some p=>decide (p.1>=r.1)|none=>false))||(!(nN r.2.1 0 (po i))||(vP .i64 r.2.2 r.2.1 != 0)))
 | none=>false
noncomputable def uI (v:oy) (k:Nat):Bool:=match v.2[k]? with
 | some x=>(match al v x with|some t=>decide (t<0)|none=>false)
 | none=>false
noncomputable def qn (v:oy) (i:Int):Bool:=!(!(nN i 1 6)||((v.2.length:Int) != i||decide ((v.1.length:Int)>6)))&&(!((List.range v.1.length).any (tg v i))&&!((List.range v.2.length).any (uI v)))
theorem Eo {v:oy} {i:Int} (hi:nN i 1 6=true) (hn:v.1.length<9223372036854775807):loop (λz=>fk v i z) 0=some (cond ((List.range v.1.length).any (tg v i)) (Sum.inr false) (Sum.inl ())):=by
 rw[←rB (n:=v.1.length) (c:=λt28=>(at? v.1 t28).bind λx31 =>
  (ae x31.1 1 99).bind λt35 =>
  (cond (!t35) (some true) ((cond (decide (t28>0)) ((at? v.1 (nK (t28-1))).bind λx45=>some (decide (x45.1>=x31.1))) (some false)).bind λt51=>some t51)).bind λt52 =>
  (cond t52 (some true) ((dj i).bind λt57=>(ae x31.2.1 0 t57).bind λt58=>some (!t58))).bind λt60 =>
  (cond t60 (some true) (some ((vP .i64 x31.2.2 x31.2.1) != 0))).bind λt=>some t) (b:=tg v i) hn (λk hk=>by
   simp only[nX hk,nH,ra,tg,List.getElem?_eq_getElem hk,Aw hi];cases nN v.1[k].1 1 99 with
   | false=>rfl
   | true =>
    by_cases h0:0<k
    · have hd:decide ((k:Int)>0)=true:=dT (by omega);simp only[hd,yk hk h0 hn,nH,dT h0,List.getElem?_eq_getElem (show k-1<v.1.length by omega)];cases decide (v.1[k-1].1>=v.1[k].1)<;>cases nN v.1[k].2.1 0 (po i)<;>rfl
    · have hd:decide ((k:Int)>0)=false:=dF (by omega);simp only[hd,dF h0];cases nN v.1[k].2.1 0 (po i)<;>rfl)]
 refine q7 (λi=>?_) 0;unfold fk;simp only[Option.bind_assoc,nH]
theorem Dl {v:oy} {i t:Int} (hi:nN i 1 6=true) (ht:nK (t-1)=po i) (hn:v.1.length<9223372036854775807) (hw:∀r∈v.1,-9223372036854775808<=r.2.2/\r.2.2<=9223372036854775807):loop (λz=>f8 v t z) 0=some (cond ((List.range v.1.length).any (tg v i)) (Sum.inr false) (Sum.inl ())):=by
 rw[←rB (n:=v.1.length) (c:=λt6=>(at? v.1 t6).bind λx39 =>
  (af x39.1 1 99).bind λt43 =>
  (cond (!t43) (some true) ((af x39.2.1 0 (nK (t-1))).bind λt49=>some (!t49))).bind λt51 =>
  (cond t51 (some true) ((af x39.2.2 0 (nK (t-1))).bind λt56=>some (!t56))).bind λt58 =>
  (cond t58 (some true) (some ((qL .i64 x39.2.2 x39.2.1) != x39.2.2))).bind λt68 =>
  (cond t68 (some true) ((cond (decide (t6>0)) ((at? v.1 (nK (t6-1))).bind λx77=>some (decide (x77.1>=x39.1))) (some false)).bind λt83=>some t83)).bind λt=>some t) (b:=tg v i) hn (λk hk=>by
   obtain⟨w1,w2⟩:=hw _ (getElem_mem hk);have hs:=Ax (m:=v.1[k].2.1) w1 w2
   have hin:=Cp (m:=v.1[k].2.1) (t:=po i) w1 w2;have ht2:=(AN hi).2
   simp only[nX hk,nH,tV,tg,List.getElem?_eq_getElem hk,ht];rw[←hs];cases h1:nN v.1[k].1 1 99 with
   | false=>rfl
   | true =>
    cases h2:nN v.1[k].2.1 0 (po i)with
    | false =>
     by_cases h0:0<k
     · simp only[dT h0,List.getElem?_eq_getElem (show k-1<v.1.length by omega)];cases decide (v.1[k-1].1>=v.1[k].1)<;>rfl
     · simp only[dF h0];rfl
    | true =>
     cases h3:(qL .i64 v.1[k].2.2 v.1[k].2.1 != v.1[k].2.2)with
     | true =>
      by_cases h0:0<k
      · simp only[dT h0,List.getElem?_eq_getElem (show k-1<v.1.length by omega)];cases decide (v.1[k-1].1>=v.1[k].1)<;>cases nN v.1[k].2.2 0 (po i)<;>rfl
      · simp only[dF h0];cases nN v.1[k].2.2 0 (po i)<;>rfl
     | false =>
      have h4:=hin h2 ht2 h3;rw[h4];by_cases h0:0<k
      · have hd:decide ((k:Int)>0)=true:=dT (by omega);simp only[hd,yk hk h0 hn,nH,dT h0,List.getElem?_eq_getElem (show k-1<v.1.length by omega)];cases decide (v.1[k-1].1>=v.1[k].1)<;>rfl
      · have hd:decide ((k:Int)>0)=false:=dF (by omega);simp only[hd,dF h0];rfl)]
 refine q7 (λi=>?_) 0;unfold f8;simp only[Option.bind_assoc,nH]
theorem Ay {v:oy} (hn:v.1.length<9223372036854775807) (hn2:v.2.length<9223372036854775807):loop (λz=>eh v z) 0=some (cond ((List.range v.2.length).any (uI v)) (Sum.inr false) (Sum.inl ())):=by
 rw[←rB (n:=v.2.length) (c:=λt73=>(at? v.2 t73).bind λx75=>(al v x75).bind λt79=>some (decide (t79<0))) (b:=uI v) hn2 (λk hk=>by
  obtain⟨r,hr⟩:=En hn v.2[k];simp only[nX hk,nH,uI,List.getElem?_eq_getElem hk,hr])]
 refine q7 (λi=>?_) 0;unfold eh;simp only[Option.bind_assoc,nH]
theorem Ie:fP=eh:=rfl
theorem FP {v:oy} (i:Int) (hn:v.1.length<9223372036854775807) (hn2:v.2.length<9223372036854775807):cr v i=some (qn v i):=by
 unfold cr qn;simp only[ra,nH];cases hi:nN i 1 6 with
 | false=>rfl
 | true =>
  rw[Eo hi hn,Ay hn hn2];cases ((v.2.length:Int) != i)<;>cases decide ((v.1.length:Int)>6)<;>cases (List.range v.1.length).any (tg v i)<;>cases (List.range v.2.length).any (uI v)<;>rfl
theorem Dm {v:oy} (i:Int) (hn:v.1.length<9223372036854775807) (hn2:v.2.length<9223372036854775807) (hw:∀r∈v.1,-9223372036854775808<=r.2.2/\r.2.2<=9223372036854775807):az v i=some (qn v i):=by
 unfold az qn;simp only[tV,nH,Ie];cases hi:nN i 1 6 with
 | false=>rfl
 | true =>
  obtain⟨t,h1,h2⟩:=Dk hi;rw[h1,nH,Dl hi h2 hn hw,Ay hn hn2];cases ((v.2.length:Int) != i)<;>cases decide ((v.1.length:Int)>6)<;>cases (List.range v.1.length).any (tg v i)<;>cases (List.range v.2.length).any (uI v)<;>rfl
def vk (l:List Pt) (k:Nat):Bool:=match l[k]? with|some p=>!(tz p)|none=>false
def rM (b:nI):Bool:=nN b.2.2.2.2.2.2.1 0 1000000&&(nN b.2.2.2.2.2.2.2.1 0 1000000&&(nN b.2.2.2.2.2.2.2.2.1 0 1000000&&(nN b.2.2.2.2.2.2.2.2.2.1 0 1000000&&nN b.2.2.2.2.2.2.2.2.2.2 0 1000000)))
noncomputable def pd (b:nI):Bool:=!((List.range b.2.2.1.length).any (vk b.2.2.1))&&(nN b.1 1 99&&(!(decide ((b.2.1.length:Int)>10))&&(nN (b.2.2.1.length:Int) 1 6&&(si b.2.2.2.1&&(qn (b.2.2.2.2.1,b.2.2.2.2.2.1) (b.2.2.1.length:Int)&&rM b)))))
structure tB (b:nI):Prop where
 p:b.2.2.1.length<9223372036854775807
 f:b.2.2.2.1.length<9223372036854775807
 v:b.2.2.2.2.1.length<9223372036854775807
 q:b.2.2.2.2.2.1.length<9223372036854775807
 r:∀r∈b.2.2.2.2.1,-9223372036854775808<=r.2.2/\r.2.2<=9223372036854775807
theorem Dn {b:nI} (h:tB b):loop (λz=>fm b z) 0=some (cond ((List.range b.2.2.1.length).any (vk b.2.2.1)) (Sum.inr false) (Sum.inl ())):=by
 rw[←rB (n:=b.2.2.1.length) (c:=λt8=>(at? b.2.2.1 t8).bind λx10=>(dg x10).bind λt13=>some (!t13)) (b:=vk b.2.2.1) h.p (λk hk=>by
  simp only[nX hk,nH,vk,List.getElem?_eq_getElem hk,Jw])]
 refine q7 (λi=>?_) 0;unfold fm;simp only[Option.bind_assoc,nH]
theorem C0 {b:nI} (h:tB b):loop (λz=>fa b z) 0=some (cond ((List.range b.2.2.1.length).any (vk b.2.2.1)) (Sum.inr false) (Sum.inl ())):=by
 rw[←rB (n:=b.2.2.1.length) (c:=λt8=>(at? b.2.2.1 t8).bind λx10=>(cZ x10).bind λt13=>some (!t13)) (b:=vk b.2.2.1) h.p (λk hk=>by
  simp only[nX hk,nH,vk,List.getElem?_eq_getElem hk,Jx])]
 refine q7 (λi=>?_) 0;unfold fa;simp only[Option.bind_assoc,nH]
theorem Gu (b:nI):dU b=some (rM b):=by
 unfold dU rM;simp only[tV,nH];cases nN b.2.2.2.2.2.2.1 0 1000000<;>cases nN b.2.2.2.2.2.2.2.1 0 1000000<;>cases nN b.2.2.2.2.2.2.2.2.1 0 1000000<;>cases nN b.2.2.2.2.2.2.2.2.2.1 0 1000000<;>rfl
theorem Hu (n:Int):bq n=some (nN n 0 1000000):=by unfold bq;rw[ra,nH]
theorem A3 {b:nI} (h:tB b):ct b=some (pd b):=by
 unfold ct pd rM;rw[Dn h,nH];cases (List.range b.2.2.1.length).any (vk b.2.2.1)with
 | true=>rfl
 | false =>
  simp only[cF,Sum.elim_inl,ra,J8 h.f,FP (v:=(b.2.2.2.2.1,b.2.2.2.2.2.1)) _ h.v h.q,Hu,nH];cases nN b.1 1 99<;>cases decide ((b.2.1.length:Int)>10)<;>cases nN (b.2.2.1.length:Int) 1 6<;>cases si b.2.2.2.1<;>cases qn (b.2.2.2.2.1,b.2.2.2.2.2.1) (b.2.2.1.length:Int) <;>
   cases nN b.2.2.2.2.2.2.1 0 1000000<;>cases nN b.2.2.2.2.2.2.2.1 0 1000000<;>cases nN b.2.2.2.2.2.2.2.2.1 0 1000000<;>cases nN b.2.2.2.2.2.2.2.2.2.1 0 1000000<;>rfl
theorem A4 {b:nI} (h:tB b):cj b=some (pd b):=by
 unfold cj pd;rw[C0 h,nH];cases (List.range b.2.2.1.length).any (vk b.2.2.1)with
 | true=>rfl
 | false =>
  have e:decide ((b.2.1.length:Int)<=10)=!(decide ((b.2.1.length:Int)>10)):=by
   by_cases hh:(b.2.1.length:Int)>10
   · rw[dT hh,dF (by omega)];rfl
   · rw[dF hh,dT (by omega)];rfl
  simp only[cF,Sum.elim_inl,tV,Hs h.f,Dm (v:=(b.2.2.2.2.1,b.2.2.2.2.2.1)) _ h.v h.q h.r,Gu,nH,e];cases nN b.1 1 99<;>cases decide ((b.2.1.length:Int)>10)<;>cases nN (b.2.2.1.length:Int) 1 6<;>cases si b.2.2.2.1<;>cases qn (b.2.2.2.2.1,b.2.2.2.2.2.1) (b.2.2.1.length:Int)<;>cases rM b<;>rfl
theorem FQ:dV=cu:=rfl
theorem FR (a b:tP):∃r,cu a b=some r:=by
 unfold cu;cases (a.1 != b.1)<;>cases (a.2.1 != b.2.1)<;>cases (a.2.2.2.1 != b.2.2.2.1)<;>exact⟨_,rfl⟩
theorem If:fb=dl:=rfl
theorem Ig (v:tP) (c:Int):∃r,dl v c=some r:=by
 unfold dl;simp only[Fi,ra,nH];cases xX v<;>cases nN c 1 1000<;>first|exact⟨_,rfl⟩|skip
 generalize xX (v.1,nK (v.2.1+c),nK (v.2.2.1+1),v.2.2.2.1,v.2.2.2.2)=q;cases q<;>exact⟨_,rfl⟩
theorem Ih (p0:Int) (l:List Pt) (t8 t9 b0 b1 b2 b3 b4 c0 c1 c2 c3 c4:Int):fc p0 l t8 t9 b0 b1 b2 b3 b4 c0 c1 c2 c3 c4=cw p0 l t8 t9 b0 b1 b2 b3 b4 c0 c1 c2 c3 c4:=by
 unfold fc cw;rw[If,FQ];cases h:at? l t9 with
 | none=>rfl
 | some x=>simp only[nH]
theorem FS:d6=bb:=by
 funext p0 l
 unfold d6 bb;rw[q7 (λz=>Ih p0 l _ _ _ _ _ _ _ _ _ _ _ _)]
theorem Ii (p0:Int) {l:List Pt} (hn:l.length<9223372036854775807):∃r,bb p0 l=some r:=by
 unfold bb;obtain⟨b,h1,_⟩:=o9 (step:=λz:Int×Int×Int×Int×Int×Int×Int×Int×Int×Int×Int×Int=>cw p0 l z.1 z.2.1 z.2.2.1 z.2.2.2.1 z.2.2.2.2.1 z.2.2.2.2.2.1 z.2.2.2.2.2.2.1 z.2.2.2.2.2.2.2.1 z.2.2.2.2.2.2.2.2.1 z.2.2.2.2.2.2.2.2.2.1 z.2.2.2.2.2.2.2.2.2.2.1 z.2.2.2.2.2.2.2.2.2.2.2)
  (λk z=>z.2.1=(k:Int)) l.length (λ_=>True)
  (λk z hk h=>by
   left;obtain⟨t7,t18,b0,b1,b2,b3,b4,c0,c1,c2,c3,c4⟩:=z;obtain rfl:t18=(k:Int):=h;unfold cw;simp only[oE (show (k:Int)<(l.length:Int) by omega),cT,nX hk,nH];rw[show nK ((k:Int)+1)=((k+1:Nat):Int)from nZ (by omega)];generalize l[k]=x;have e:(cond (!x.1) (some true) (some (!x.2.2.1)):Option Bool)=some (cond (!x.1) true (!x.2.2.1)):=by cases x.1<;>rfl
   rw[e,nH];cases (cond (!x.1) true (!x.2.2.1))with
   | true=>exact⟨_,rfl,rfl⟩
   | false =>
    obtain⟨r,hr⟩:=Ig x.2.2.2 x.2.1;obtain⟨q,hq⟩:=FR r.1 (c0,c1,c2,c3,c4);rw[cF,hr,nH,hq];cases r.2<;>cases decide (r.1.1<p0)<;>cases decide (t7<0)<;>cases q<;>exact⟨_,rfl,rfl⟩)
  (λz h=>by
   obtain⟨t7,t18,b0,b1,b2,b3,b4,c0,c1,c2,c3,c4⟩:=z;obtain rfl:t18=(l.length:Int):=h;unfold cw;simp only[oq (show ¬(l.length:Int)<(l.length:Int) by omega),cF];exact⟨_,rfl,trivial⟩) (x:=((-1),0,p0,0,0,p0,0,0,0,0,0,0)) rfl
 rw[h1,nH];exact⟨_,rfl⟩
theorem J9:dW=dq:=by
 funext id l p
 unfold dW dq;rw[FS]
theorem FT:d7=aG:=by
 funext id l p
 unfold d7 aG;rw[FS,J9,FQ];rfl
theorem Do (id:Int) {l:List Pt} (hn:l.length<9223372036854775807) (p:Int):∃r,aG id l p=some r:=by
 obtain⟨v,hv⟩:=Ii id hn;unfold aG dq;simp only[ra,nH,hv];rw[show nK ((l.length:Int)-1)=(l.length:Int)-1 from oC (by omega) (by omega)];cases hp:nN p 0 ((l.length:Int)-1)with
 | false=>exact⟨_,rfl⟩
 | true =>
  unfold nN at hp;simp only[aT,decide_eq_true_eq]at hp;obtain⟨k,rfl⟩:∃k:Nat,p=(k:Int):=⟨p.toNat,by omega⟩;simp only[nX (show k<l.length by omega),nH];generalize l[k]'(by omega)=x;obtain⟨q,hq⟩:=FR (v.1.1,v.1.2.1,v.1.2.2.1,v.1.2.2.2.1,(k:Int)) x.2.2.2;rw[hq];cases x.1<;>cases (v.2==(k:Int))<;>cases x.2.2.1<;>cases q<;>exact⟨_,rfl⟩
theorem Ij (b:nI) (c p:Int):dX b c p=br b c p:=by
 unfold dX br dk;rw[FT];cases at? b.2.2.1 p with
 | none=>rfl
 | some x=>simp only[nH];cases x.1<;>rfl
theorem yS {α:Type} (out:List nJ) (name:List Int) (n:Int) (f:List nJ->Option α):((aK n).bind λv=>(ay v name).bind λt=>(od out [t]).bind f)=(aj out name n).bind f:=by
 unfold aK ay aj ac ah;simp only[nH,Option.bind_assoc]
theorem Fj (b:nI) (c i:Int) (out:List nJ):ff b c i out=bc b c i out:=by
 unfold ff bc;simp only[Ij,yS]
theorem Ja {r:nW} {c:Int} (h:1<=c/\c<=3):((ix [1,r.2.1,r.2.2].length (nK (c-1))).bind λj=>([1,r.2.1,r.2.2][j]?).bind λx=>some x)=fe r c:=by
 have:c=1\/c=2\/c=3:=by omega
 rcases this with rfl|rfl|rfl<;>rfl
theorem Gv (b:nI) {c:Int} (h:1<=c/\c<=3) (i:Int) (out:List nJ):fh b c i out=bd b c i out:=by
 unfold fh bd;cases hr:at? b.2.2.2.2.1 i with
 | none=>rfl
 | some r =>
  simp only[nH,←Ja (r:=r) h,Option.bind_assoc,yS]
theorem Hv (b:nI) (i:Int) (out:List nJ):fi b i out=aU b i out:=by
 unfold fi aU;cases hr:at? b.2.2.2.1 i with
 | none=>rfl
 | some r=>simp only[nH,yS]
theorem Ik (b:nI) (c:Int) (out:List nJ):fg b c out=bt b c out:=by
 unfold fg bt;rw[q7 (λz=>Fj b c _ _)]
theorem Il (b:nI) {c:Int} (h:1<=c) (out:List nJ):d8 b c out=bu b c out:=by
 unfold d8 bu;by_cases h3:c<=3
 · rw[q7 (λz=>Gv b ⟨h,h3⟩ _ _)]
 · rw[dF h3];rfl
theorem Dp (b:nI) {c:Int} {out:List nJ} {y:Int×List nJ} (h:1<=c) (e:d8 b c out=some (.inl y)):1<=y.1:=by
 unfold d8 at e;by_cases h3:c<=3
 · rw[dT h3,cT,Option.bind_eq_some_iff]at e;obtain⟨d,_,e⟩:=e;cases e;show 1<=nK (c+1)
   rw[oC (by omega) (by omega)];omega
 · rw[dF h3]at e;cases e
def th (b:nI):List nJ:=[([1,3,1,1,1],4,0,b.2.1,[]),([1,3,1,1,2],2,b.2.2.2.2.2.2.1,[],[]),([1,3,1,1,3],2,b.2.2.2.2.2.2.2.1,[],[]),([1,3,1,1,4],2,b.2.2.2.2.2.2.2.2.1,[],[]),([1,3,1,1,5],2,b.2.2.2.2.2.2.2.2.2.1,[],[])]
theorem Jb (b:nI):ay (4,0,b.2.1,[]) ([1,1]:List Int)=some ([1,3,1,1,1],4,0,b.2.1,[]):=by kernel_rfl
theorem Jc (b:nI):qz (λz=>iH b z.1 z.2) 5 (0,[([1,3,1,1,1],4,0,b.2.1,[])])=some (th b):=by kernel_rfl
theorem Jd (b:nI):((ac ([1,1]:List Int)).bind λt14=>(aj ([(t14,4,0,b.2.1,[])]) ([1,2]:List Int) b.2.2.2.2.2.2.1).bind λt24=>(aj t24 ([1,3]:List Int) b.2.2.2.2.2.2.2.1).bind λt29 =>
 (aj t29 ([1,4]:List Int) b.2.2.2.2.2.2.2.2.1).bind λt34=>(aj t34 ([1,5]:List Int) b.2.2.2.2.2.2.2.2.2.1))=some (th b):=by kernel_rfl
noncomputable def yl (b:nI) (l:List nJ):Option (List nJ) :=
 (loop (λz=>bt b z.1 z.2) (1,l)).bind λd_2 =>
  (loop (λz=>bu b z.1 z.2) (1,d_2)).bind λd_4 =>
  (loop (λz=>aU b z.1 z.2) (0,d_4)).bind λd_5 =>
  some d_5
theorem Hw {b:nI} (h:tB b):bf b=cond (!(pd b)) (some []) (yl b (th b)):=by
 unfold bf;rw[A3 h,nH,Jb,nH,sa (Jc b),nH];rfl
theorem Je {b:nI} (h:tB b):bI b=cond (!(pd b)) (some []) (yl b (th b)):=by
 unfold bI;rw[A4 h,nH];have hc:=Jd b
 have e:∀{α:Type} (f:List nJ->Option α),((ac ([1,1]:List Int)).bind λt14=>(aj ([(t14,4,0,b.2.1,[])]) ([1,2]:List Int) b.2.2.2.2.2.2.1).bind λt24=>(aj t24 ([1,3]:List Int) b.2.2.2.2.2.2.2.1).bind λt29 =>
  (aj t29 ([1,4]:List Int) b.2.2.2.2.2.2.2.2.1).bind λt34=>(aj t34 ([1,5]:List Int) b.2.2.2.2.2.2.2.2.2.1).bind f)=f (th b):=by
  intro α f;have:((ac ([1,1]:List Int)).bind λt14=>(aj ([(t14,4,0,b.2.1,[])]) ([1,2]:List Int) b.2.2.2.2.2.2.1).bind λt24=>(aj t24 ([1,3]:List Int) b.2.2.2.2.2.2.2.1).bind λt29 =>
   (aj t29 ([1,4]:List Int) b.2.2.2.2.2.2.2.2.1).bind λt34=>(aj t34 ([1,5]:List Int) b.2.2.2.2.2.2.2.2.2.1)).bind f=f (th b):=by rw[hc,nH]
  rw[←this];simp only[Option.bind_assoc]
 rw[e]
 congr 1
 unfold yl;rw[q7 (λz=>Ik b _ _)]
 congr 1
 funext d
 rw[zE (λz:Int×List nJ=>1<=z.1) (λz hz=>Il b hz _) (λz y hz e=>Dp b hz e) (show (1:Int)<=1 by omega)]
 congr 1
 funext d
 rw[q7 (λz=>Hv b _ _)]
theorem yT {b:nI} (h:tB b):bI b=bf b:=by rw[Je h,Hw h]

theorem Im {b:nI} (h:tB b) (c:Int) {k:Nat} (hk:k<b.2.2.1.length) (hq:b.2.2.1.length=b.2.2.2.2.2.1.length):∃n,br b c (k:Int)=some n:=by
 obtain⟨r,hr⟩:=Do b.1 h.p (k:Int);unfold br dk;rw[nX hk,nX (show k<b.2.2.2.2.2.1.length by omega),hr];simp only[nH];cases (c==1)<;>cases (c==2)<;>cases (c==3)<;>cases (b.2.2.1[k]).1<;>exact⟨_,rfl⟩
theorem Gw {α:Type} {xs ys:List α} (h:xs.length+ys.length<=4294967296):od xs ys=some (xs++ys):=by
 unfold od;rw[if_pos (show xs.length+ys.length<=uQ from h)]
noncomputable def sm (id:Int) (l:List Pt) (p:Int):Int:=(aG id l p).getD 0
theorem xa (id:Int) {l:List Pt} (hn:l.length<9223372036854775807) (p:Int):aG id l p=some (sm id l p):=by
 obtain⟨r,hr⟩:=Do id hn p;unfold sm;rw[hr];rfl
def Dq (l:List Int) (x:Int):Bool:=decide (x∈l)
def ul (b:Nat->Bool) (m:Nat):List Int:=((List.range m).filter b).map λ(k:Nat)=>(k:Int)
theorem Fk (b:Nat->Bool) (m:Nat):(ul b m).length<=m:=by
 unfold ul;rw[length_map];exact Nat.le_trans (List.length_filter_le _ _) (by simp)
theorem Ds (b:Nat->Bool) (m:Nat):ul b (m+1)=cond (b m) (ul b m++[(m:Int)]) (ul b m):=by
 unfold ul;rw[range_succ,List.filter_append,map_append];cases h:b m<;>simp[h]
theorem sF {n:Nat} {c:Int->Option Bool} {b:Nat->Bool} (hn:n<=1048576) (hc:∀k,k<n->c (k:Int)=some (b k)) :
 loop (λz:Int×List Int=>cond (decide (z.1<(n:Int))) ((c z.1).bind λt=>cond t ((od z.2 [z.1]).bind λzs=>some (.inl (nK (z.1+1),zs))) (some (.inl (nK (z.1+1),z.2)))) (some (.inr z.2))) (0,([]:List Int))=some (ul b n):=by
 obtain⟨v,h1,rfl⟩:=o9 (step:=λz:Int×List Int=>cond (decide (z.1<(n:Int))) ((c z.1).bind λt=>cond t ((od z.2 [z.1]).bind λzs=>some (.inl (nK (z.1+1),zs))) (some (.inl (nK (z.1+1),z.2)))) (some (.inr z.2))) (λk z=>z.1=(k:Int)/\z.2=ul b k) n (λl=>l=ul b n)
  (λk z hk ⟨e1,e2⟩=>by
   obtain⟨i,l⟩:=z;simp only at e1 e2;subst e1 e2;left;have hle:=Fk b k
   refine⟨(nK ((k:Int)+1),ul b (k+1)),?_,nZ (by omega),rfl⟩;simp only[oE (show (k:Int)<(n:Int) by omega),cT,hc k hk,nH];rw[Ds];cases b k with
   | false=>rfl
   | true=>rw[cT,Gw (by simp;omega)];rfl)
  (λz ⟨e1,e2⟩=>by
   obtain⟨i,l⟩:=z;simp only at e1 e2;subst e1 e2;exact⟨_,by simp only[oq (show ¬(n:Int)<(n:Int) by omega),cF],rfl⟩) (x:=(0,[])) ⟨rfl,rfl⟩
 exact h1
def Cq (l:List Bool):Nat:=l.count true
theorem Hx (l:List Bool):Cq l<=l.length:=List.count_le_length
theorem Gx {l:List Bool} {i:Nat} (h:l[i]?=some false):Cq (l.set i true)=Cq l+1:=by
 obtain⟨hi,he⟩:=List.getElem?_eq_some_iff.1 h;unfold Cq;rw[List.count_set hi,he];simp
theorem Hy {n:Nat} {i:Int} (h:nN i 0 ((n:Int)-1)=true):∃k:Nat,k<n/\i=(k:Int):=by
 unfold nN at h;simp only[aT,decide_eq_true_eq]at h;exact⟨i.toNat,by omega,by omega⟩
theorem Hz {n k:Nat} (h:k<n):nN (k:Int) 0 ((n:Int)-1)=true:=by
 unfold nN;rw[dT (by omega),dT (by omega)];rfl
structure BH (X:List Int) (l:List Bool):Prop where
 r:∀x∈X,∃k:Nat,k<l.length/\x=(k:Int)
 m:∀k,k<l.length->l[k]?=some (Dq X (k:Int))
 c:X.length=Cq l
theorem BH.len {X:List Int} {l:List Bool} (h:BH X l):X.length<=l.length:=by rw[h.c];exact Hx l
theorem BH.add {X:List Int} {l:List Bool} (h:BH X l) {i:Nat} (hi:l[i]?=some false):BH (X++[(i:Int)]) (l.set i true):=by
 obtain⟨hi',he⟩:=List.getElem?_eq_some_iff.1 hi;refine⟨λx hx=>?_,λk hk=>?_,?_⟩
 · rw[List.length_set];rcases mem_append.1 hx with hx|hx
   · exact h.r x hx
   · simp at hx;exact⟨i,hi',hx⟩
 · rw[List.length_set]at hk;rw[List.getElem?_set];split
   · rename_i e;subst e;rw[show Dq (X++[(i:Int)]) (i:Int)=true from dT (by simp)]
   · rename_i e;rw[h.m k hk]
     congr 1
     unfold Dq;apply decide_eq_decide.2;rw[mem_append,List.mem_singleton];constructor
     · exact .inl
     · rintro (h|h)
       · exact h
       · omega
 · rw[length_append,Gx hi,h.c];rfl
theorem BH.in {X:List Int} {l:List Bool} (h:BH X l) {x:Int} (hx:Dq X x=true):nN x 0 ((l.length:Int)-1)=true:=by
 obtain⟨k,hk,rfl⟩:=h.r x (of_decide_eq_true hx);exact Hz hk
def start (n:Nat) (b:Nat):List Bool:=(List.replicate n false).set b true
theorem Io (id:Int) {l:List Pt} (hn:l.length<9223372036854775807) (p:Int):1<=sm id l p:=by
 have h:=xa id hn p
 revert h
 generalize sm id l p=v;unfold aG;rw[ra,nH];intro h;have key:∀(o:Option Bool) (f:Bool->Option Int),(∀t x,f t=some x->1<=x)->o.bind f=some v->1<=v:=by
  intro o f hf h;cases o with
  | none=>cases h
  | some t=>exact hf t v h
 refine key _ _ (λt x hx=>?_) h;cases t with
 | true=>cases hx;decide
 | false =>
  rw[cF]at hx;cases hbv:bb id l with
  | none=>rw[hbv]at hx;cases hx
  | some w =>
   rw[hbv,nH]at hx;cases hw:w.2==p with
   | true=>rw[hw]at hx;cases hx;decide
   | false =>
    rw[hw,cF]at hx;cases ha:at? l p with
    | none=>rw[ha]at hx;cases hx
    | some y =>
     rw[ha,nH]at hx
     revert hx
     generalize (cond (!y.2.2.1) _ _:Option Bool)=o;intro hx;cases o with
     | none=>cases hx
     | some t=>cases t<;>(cases hx;decide)
theorem zH {k:Nat} (h:k<64):IntKind.u64.wrap (k:Int)=(k:Int):=by
 show ((k:Int)%18446744073709551616)=_;omega
theorem Ip:∀b:Fin 64,∀p:Fin 6,∃t c,shl .i64 1 (p.1:Int)=some t/\z0 .i64 (b.1:Int) t=(c:Int)/\0<=c/\c<64:=by
 intro b p;have h:∀b:Fin 64,∀p:Fin 6,(decide (0<=z0 .i64 (b.1:Int) (2^p.1))&&decide (z0 .i64 (b.1:Int) (2^p.1)<64))=true:=by decide
 have h1:=h b p;simp only[aT,decide_eq_true_eq]at h1;have h2:∀p:Fin 6,shl .i64 1 (p.1:Int)=some (2^p.1):=by decide
 exact⟨_,_,h2 p,rfl,h1.1,h1.2⟩
theorem HA {r:Int} (h:1<=r):decide (r<=2)=(r==1||r==2):=by
 by_cases h2:r<=2
 · rw[dT h2];rcases (show r=1\/r=2 by omega)with rfl|rfl<;>rfl
 · rw[dF h2,beq_eq_false_iff_ne.2 (show r≠1 by omega),beq_eq_false_iff_ne.2 (show r≠2 by omega)];rfl
theorem zI (id:Int) {l:List Pt} (hn:l.length<9223372036854775807) (z:Int×Int) (hz:0<=z.2):dJ id l z.1 z.2=aN id l z.1 z.2:=by
 unfold dJ aN;rw[FT,xa id hn,nH];have hr:=Io id hn z.2
 by_cases h1:z.2<(l.length:Int)
 · rw[oE h1,cT];by_cases h2:z.2<6
   · rw[oE h2,nH,nH,cT,cT,nH,HA hr];obtain⟨k,hk⟩:∃k:Nat,z.2=(k:Int):=⟨z.2.toNat,by omega⟩;rw[hk,zH (by omega)];cases sm id l (k:Int)==1<;>cases sm id l (k:Int)==2<;>rfl
   · rw[oq h2];rfl
 · rw[oq h1];rfl
theorem HB (id:Int) {l:List Pt} (hn:l.length<9223372036854775807):∃c:Nat,c<64/\et id l=some (c:Int)/\eM id l=some (c:Int):=by
 obtain⟨v,h1,c,h2,rfl⟩:=o9 (step:=λz:Int×Int=>aN id l z.1 z.2) (λk z=>z.2=(k:Int)/\∃c:Nat,c<64/\z.1=(c:Int)) (min l.length 6) (λv=>∃c:Nat,c<64/\v=(c:Int))
  (λk z hk ⟨e1,c,e2,e3⟩=>by
   obtain⟨b,i⟩:=z;simp only at e1 e3;subst e1 e3;left;have k6:k<6:=by omega
   obtain⟨t,d,b1,b2,b3,b4⟩:=Ip ⟨c,e2⟩ ⟨k,k6⟩;have hs:aN id l (c:Int) (k:Int)=cond (sm id l (k:Int)==1||sm id l (k:Int)==2) (some (.inl ((d:Int),((k+1:Nat):Int)))) (some (.inl ((c:Int),((k+1:Nat):Int)))):=by
    unfold aN;rw[oE (show (k:Int)<(l.length:Int) by omega),oE (show (k:Int)<6 by omega),cT,nH,cT,xa id hn,nH,b1,nH,b2,nZ (by omega)];cases sm id l (k:Int)==1<;>cases sm id l (k:Int)==2<;>rfl
   show ∃y,aN id l (c:Int) (k:Int)=_/\_;rw[hs];cases (sm id l (k:Int)==1||sm id l (k:Int)==2)with
   | true=>exact⟨_,rfl,rfl,d.toNat,by omega,by show d=_;omega⟩
   | false=>exact⟨_,rfl,rfl,c,e2,rfl⟩)
  (λz ⟨e1,c,e2,e3⟩=>by
   obtain⟨b,i⟩:=z;simp only at e1 e3;subst e1 e3;refine⟨(c:Int),?_,c,e2,rfl⟩;show aN id l _ _=_
   unfold aN;by_cases h:l.length<=6
   · rw[Nat.min_eq_left h,oq (by omega)];rfl
   · rw[Nat.min_eq_right (by omega),oE (by omega),oq (show ¬(((6:Nat):Int)<6) by omega)];rfl) (x:=(0,0)) ⟨rfl,0,by omega,rfl⟩
 refine⟨c,h2,by unfold et;rw[h1];rfl,?_⟩;unfold eM;rw[zE (f:=λz:Int×Int=>dJ id l z.1 z.2) (g:=λz:Int×Int=>aN id l z.1 z.2) (λz=>0<=z.2/\z.2<=9223372036854775806) (λz hz=>zI id hn z hz.1) (λz y hz hy=>by
  have hy':dJ id l z.1 z.2=some (.inl y):=hy;rw[zI id hn z hz.1]at hy';unfold aN at hy';by_cases h1:z.2<(l.length:Int)
  · by_cases h2:z.2<6
    · rw[oE h1,oE h2,cT,nH,cT,xa id hn,nH]at hy';have hw:nK (z.2+1)=z.2+1:=oC (by omega) (by omega)
      rw[hw]at hy'
      revert hy'
      generalize (cond (sm id l z.2==1) (some true) (some (sm id l z.2==2)))=o;intro hy';cases o with
      | none=>cases hy'
      | some t =>
       rw[nH]at hy';cases t with
       | false=>cases hy';exact⟨by show 0<=z.2+1;omega,by show z.2+1<=_;omega⟩
       | true =>
        rw[cT]at hy';cases hs:shl .i64 1 z.2 with
        | none=>rw[hs]at hy';cases hy'
        | some q=>rw[hs]at hy';cases hy';exact⟨by show 0<=z.2+1;omega,by show z.2+1<=_;omega⟩
    · rw[oE h1,oq h2]at hy';cases hy'
  · rw[oq h1]at hy';cases hy') (x:=(0,0)) ⟨by decide,by decide⟩,h1]
 rfl
structure CW (c:ob):Prop where
 p:0<=c.2.1
 n:c.1.length<9223372036854775807
theorem Cr (x:Int):0<=qL .i64 x 255/\qL .i64 x 255<=255:=by
 rw[AO];have h1:(BitVec.ofInt 64 x&&&BitVec.ofInt 64 255).toNat<=255:=by
  rw[BitVec.toNat_and];exact Nat.le_trans Nat.and_le_right (by decide)
 rw[BitVec.toInt_eq_toNat_cond];split<;>omega
theorem AP {c:ob} (h:CW c):∃c' r,bD c=some (c',r)/\CW c'/\0<=r/\r<=255:=by
 unfold bD;have hn:=h.n
 have hp:=h.p;by_cases hlt:c.2.1<(c.1.length:Int)
 · obtain⟨k,hk⟩:∃k:Nat,c.2.1=(k:Int):=⟨c.2.1.toNat,by omega⟩;simp only[oE hlt,cT];rw[hk,nX (by omega),nH,nZ (by omega)];exact⟨_,_,rfl,⟨by show (0:Int)<=((k+1:Nat):Int);omega,hn⟩,Cr _⟩
 · simp only[oq hlt,cF];exact⟨_,_,rfl,⟨hp,hn⟩,Cr _⟩
theorem Ct {a n:Int} (ha:0<=a) (hn:1<=n):∃r,rem a n=some r/\0<=r/\r<n:=by
 unfold rem;rw[if_neg (by omega)];refine⟨_,rfl,Int.tmod_nonneg _ ha,?_⟩;have:=Int.tmod_lt_of_pos a (show 0<n by omega)
 exact this
theorem rN {c:ob} (h:CW c) (n:Int):∃c' r,aa c n=some (c',r)/\CW c'/\0<=r/\(1<=n->r<n):=by
 unfold aa;by_cases h0:n<=0
 · rw[dT h0];exact⟨_,_,rfl,h,Int.le_refl 0,λh=>by omega⟩
 · rw[dF h0,cF];by_cases h1:n<=256
   · rw[dT h1,cT];obtain⟨c1,r1,e1,w1,a1,b1⟩:=AP h;obtain⟨r,e,a,b⟩:=Ct (n:=n) a1 (by omega);rw[e1,nH,e,nH];exact⟨_,_,rfl,w1,a,λ_=>b⟩
   · rw[dF h1,cF];obtain⟨c1,r1,e1,w1,a1,b1⟩:=AP h;obtain⟨c2,r2,e2,w2,a2,b2⟩:=AP w1;obtain⟨c3,r3,e3,w3,a3,b3⟩:=AP w2;rw[e1,nH,e2,nH,e3,nH];show ∃c' r,((rem (nK (nK (nK (r1*65536)+nK (r2*256))+r3)) n).bind _)=_/\_
     rw[oC (n:=r1*65536) (by omega) (by omega),oC (n:=r2*256) (by omega) (by omega),oC (n:=r1*65536+r2*256) (by omega) (by omega),oC (n:=r1*65536+r2*256+r3) (by omega) (by omega)];obtain⟨r,e,a,b⟩:=Ct (a:=r1*65536+r2*256+r3) (n:=n) (by omega) (by omega);rw[e,nH];exact⟨_,_,rfl,w3,a,λ_=>b⟩
theorem qX {c:ob} (h:CW c) {n:Nat} (hn:1<=n):∃c' k,aa c (n:Int)=some (c',((k:Nat):Int))/\CW c'/\k<n:=by
 obtain⟨c',r,e,w,a,b⟩:=rN h (n:Int);have b:=b (by omega)
 exact⟨c',r.toNat,by rw[e];congr 2;omega,w,by omega⟩
theorem AQ {c:ob} (h:CW c) (n:Int):∃c' r,aZ c n=some (c',r)/\CW c':=by
 obtain⟨c',r,e,w,_⟩:=rN h n;unfold aZ;rw[e,nH];exact⟨_,_,rfl,w⟩
theorem xb {c:ob} (h:CW c) {l:List Int} (hl:1<=l.length):∃c' x,ai c l=some (c',x)/\CW c'/\x∈l:=by
 obtain⟨c',k,e,w,b⟩:=qX h hl;unfold ai;rw[e,nH];show ∃c'' x,(at? l (k:Int)).bind _=_/\_
 rw[nX b,nH];exact⟨_,_,rfl,w,getElem_mem b⟩
theorem HC {c:ob} (h:CW c) {l:List (List UInt8)} (hl:1<=l.length):∃c' x,aO c l=some (c',x)/\CW c'/\x∈l:=by
 obtain⟨c',k,e,w,b⟩:=qX h hl;unfold aO;rw[e,nH];show ∃c'' x,(at? l (k:Int)).bind _=_/\_
 rw[nX b,nH];exact⟨_,_,rfl,w,getElem_mem b⟩
theorem Jf {code:List Int} (h:code.length<=1048576):∃c,dN code=some c/\CW c:=by
 obtain⟨v,h1,-⟩:=o9 (step:=λz:Int×Int=>bC code z.1 z.2) (λk z=>z.2=(k:Int)) (min code.length 4000) (λ_=>True)
  (λk z hk e=>by
   obtain⟨x,i⟩:=z;simp only at e;subst e;left;have k4:k<4000:=by omega
   have hs:∃y,bC code x (k:Int)=some (.inl (y,((k+1:Nat):Int))):=by
    unfold bC;rw[oE (show (k:Int)<(code.length:Int) by omega),oE (show (k:Int)<4000 by omega),cT,nH,cT,nX (by omega),nH,nZ (by omega)];exact⟨_,rfl⟩
   obtain⟨y,hs⟩:=hs;exact⟨_,hs,rfl⟩)
  (λz e=>by
   obtain⟨x,i⟩:=z;simp only at e;subst e;refine⟨x,?_,trivial⟩;show bC code x _=_
   unfold bC;by_cases h:code.length<=4000
   · rw[Nat.min_eq_left h,oq (by omega)];rfl
   · rw[Nat.min_eq_right (by omega),oE (by omega),oq (show ¬(((4000:Nat):Int)<4000) by omega)];rfl) (x:=(nK (762762+(code.length:Int)),0)) rfl
 unfold dN;show ∃c,(loop (λz=>bC code z.1 z.2) (nK (762762+(code.length:Int)),0)).bind (λd=>some (code,0,d))=some c/\CW c
 rw[h1,nH];exact⟨_,rfl,by show (0:Int)<=0;omega,by show code.length<_;omega⟩

abbrev xp (x:Int):Prop:=-9223372036854775808<=x/\x<=9223372036854775807
structure VT (v:oy) (n:Nat):Prop where
 p:qn v (n:Int)=true
 r:∀r∈v.1,xp r.2.2
theorem VT.len {v:oy} {n:Nat} (h:VT v n):1<=n/\n<=6/\v.2.length=n/\v.1.length<=6:=by
 have hp:=h.p;unfold qn nN at hp;simp only[aT,Bool.not_eq_true',Bool.or_eq_false_iff,Bool.not_eq_false',aT,decide_eq_true_eq,decide_eq_false_iff_not,bne_eq_false_iff_eq]at hp;obtain⟨⟨h1,h2,h3⟩,_⟩:=hp;omega
theorem IP {v:oy} (n:Int) (h1:v.1.length<=1000) (h2:v.2.length<=1000) (hr:∀r∈v.1,xp r.2.2):az v n=some (qn v n):=Dm n (by omega) (by omega) hr
theorem Dt {v:oy} (h1:v.1.length<=1000) (h2:v.2.length<=1000):aA v=some v:=by
 unfold aA;unfold od;have m:(uQ:Nat)=4294967296:=rfl
 rw[if_pos (by show 0+v.1.length<=uQ;omega),nH,if_pos (by show 0+v.2.length<=uQ;omega),nH];rfl
theorem HD {x v:oy} {n:Nat} (hv:VT v n) (h1:x.1.length<=1000) (h2:x.2.length<=1000) (hr:∀r∈x.1,xp r.2.2):∃y ok,cc x v=some (y,ok)/\VT y n:=by
 obtain⟨l1,l2,l3,l4⟩:=hv.len;unfold cc;rw[IP _ h1 h2 hr,nH];cases h:qn x (v.2.length:Int)with
 | true=>exact⟨_,_,rfl,by rw[l3]at h;exact h,hr⟩
 | false =>
  rw[Bool.not_false,cT,Dt (by omega) (by omega),nH];exact⟨_,_,rfl,hv⟩
theorem HE {v:oy} {n:Nat} (hv:VT v n):az v (v.2.length:Int)=some true:=by
 obtain⟨l1,l2,l3,l4⟩:=hv.len;rw[IP _ (by omega) (by omega) hv.r,l3,hv.p]
theorem Iq {v:oy} {n:Nat} (hv:VT v n) (port id:Int):∃y ok,cR v port id=some (y,ok)/\VT y n:=by
 obtain⟨l1,l2,l3,l4⟩:=hv.len;unfold cR;rw[HE hv,nH,Bool.not_true,cF,tV,nH,nH,Dt (by omega) (by omega),oC (n:=(v.2.length:Int)-1) (by omega) (by omega)];cases hin:nN port 0 ((v.2.length:Int)-1)with
 | false=>exact⟨_,_,rfl,hv⟩
 | true =>
  obtain⟨k,hk,rfl⟩:=Hy hin;simp only[Bool.not_true,cF,nH,ve hk,List.getElem?_eq_getElem hk];obtain⟨y,ok,e,hy⟩:=HD (x:=(v.1,v.2.set k id)) hv (by show v.1.length<=_;omega) (by show (v.2.set k id).length<=_;rw[List.length_set];omega) hv.r;rw[e];exact⟨_,_,rfl,hy⟩
theorem HF {v:oy} (hn:v.1.length<9223372036854775807) (id:Int):∃r,aP v id=some r/\(r = -1\/∃k:Nat,k<v.1.length/\r=(k:Int)):=by
 rw[Ht];unfold al;obtain⟨b,h1,h2⟩:=o9 (β:=Unit⊕Int) (step:=λz=>ax v id z) (λk i=>i=(k:Int)) v.1.length (λb=>∀r,b=.inr r->∃k:Nat,k<v.1.length/\r=(k:Int))
  (λk i hk h=>by
   subst h;unfold ax;rw[oE (by omega),cT,nX hk,nH];cases (v.1[k].1==id)with
   | true=>exact .inr ⟨_,rfl,λr hr=>⟨k,hk,by cases hr;rfl⟩⟩
   | false=>exact .inl ⟨_,rfl,nZ (by omega)⟩)
  (λi h=>by
   subst h;unfold ax;rw[oq (by omega)];exact⟨_,rfl,λr hr=>by cases hr⟩) (x:=0) rfl
 rw[h1,nH];cases b with
 | inl _=>exact⟨_,rfl,.inl rfl⟩
 | inr r=>exact⟨r,rfl,.inr (h2 r rfl)⟩
theorem qY {α:Type} {l:List α} {a b:Nat} (h1:a<=b) (h2:b<=l.length):cut l (a:Int) (b:Int)=some ((l.take b).drop a):=by
 unfold cut;rw[if_pos (by omega),if_pos (by omega),if_pos (by omega)];simp
theorem nP {α:Type} {xs ys:List α} (h:xs.length+ys.length<=4294967296):od xs ys=some (xs++ys):=by
 unfold od;rw[if_pos (show xs.length+ys.length<=uQ from h)]
theorem Ir {v:oy} {n:Nat} (hv:VT v n) (id:Int):∃y ok,cS v id=some (y,ok)/\VT y n:=by
 obtain⟨l1,l2,l3,l4⟩:=hv.len;obtain⟨r,hr,hr2⟩:=HF (v:=v) (by omega) id;unfold cS;rw[hr,nH,HE hv,nH,Bool.not_true,cF,Dt (by omega) (by omega),nH,nH,nH];rcases hr2 with rfl|⟨k,hk,rfl⟩
 · exact⟨_,_,rfl,hv⟩
 · rw[oq (by omega),cF,show (0:Int)=((0:Nat):Int)from rfl,qY (by omega) (by omega),nH,nZ (by omega),qY (by omega) (by omega)];have t1:((v.1.take k).drop 0).length<=6:=by simp;omega
   have t2:((v.1.take v.1.length).drop (k+1)).length<=6:=by simp;omega
   rw[nP (by show 0+_<=_;omega),nH,nH,List.nil_append,nP (by omega),nH];obtain⟨y,ok,e,hy⟩:=HD (x:=((v.1.take k).drop 0++(v.1.take v.1.length).drop (k+1),v.2)) hv (by show ((v.1.take k).drop 0++(v.1.take v.1.length).drop (k+1)).length<=_;rw[length_append];omega) (by show v.2.length<=_;omega) (λr hr=>by
    rcases mem_append.1 hr with hr|hr
    · exact hv.r r (List.mem_of_mem_take (List.mem_of_mem_drop hr))
    · exact hv.r r (List.mem_of_mem_take (List.mem_of_mem_drop hr)))
   rw[e];exact⟨_,_,rfl,hy⟩
theorem Jg {v:oy} {n:Nat} (hv:VT v n) {r:nW} (hr:xp r.2.2):∃y,aQ v r=some y/\y.1.length<=1000/\y.2.length<=1000/\∀r∈y.1,xp r.2.2:=by
 obtain⟨l1,l2,l3,l4⟩:=hv.len;obtain⟨d,h1,h2,h3⟩:=o9 (step:=λz:Bool×Int×List nW=>ba v r z.1 z.2.1 z.2.2) (λk z=>z.2.1=(k:Int)/\z.2.2.length<=2*k/\∀x∈z.2.2,xp x.2.2) v.1.length (λd=>d.2.length<=12/\∀x∈d.2,xp x.2.2)
  (λk z hk ⟨e1,e2,e3⟩=>by
   obtain⟨t,i,b⟩:=z;simp only at e1 e2 e3;subst e1;left;have hvk:xp v.1[k].2.2:=hv.r _ (getElem_mem hk)
   show ∃y,ba v r t (k:Int) b=_/\_;unfold ba;simp only[oE (show (k:Int)<(v.1.length:Int) by omega),cT,nX hk,nH,nZ (show k<9223372036854775807 by omega),Int.not_lt];have ha:∀(xs:List nW) (y:nW),xs.length<=100->od xs [y]=some (xs++[y]):=λxs y h=>nP (by show xs.length+1<=_;omega)
   have key:∀(tt:Bool),((cond (!t) (some (decide (v.1[k].1>=r.1))) (some false))=some tt->∃y:Bool×Int×List nW,(cond tt ((od b [r]).bind λzs37=>cond (v.1[k].1 != r.1) ((od zs37 [v.1[k]]).bind λzs56=>some (.inl (true,((k+1:Nat):Int),zs56))) (some (.inl (true,((k+1:Nat):Int),zs37)))) (cond (v.1[k].1 != r.1) ((od b [v.1[k]]).bind λzs56_1=>some (.inl (t,((k+1:Nat):Int),zs56_1))) (some (.inl (t,((k+1:Nat):Int),b)))):Option ((Bool×Int×List nW)⊕(Bool×List nW)))=some (.inl y)/\y.2.1=((k+1:Nat):Int)/\y.2.2.length<=2*(k+1)/\∀x∈y.2.2,xp x.2.2):=by
    intro tt _;cases tt with
    | true =>
     rw[cT,ha b r (by omega),nH];cases v.1[k].1 != r.1 with
     | true =>
      rw[cT,ha (b++[r]) _ (by simp;omega),nH];refine⟨_,rfl,rfl,by simp;omega,λx hx=>?_⟩;simp at hx;rcases hx with hx|rfl|rfl
      · exact e3 x hx
      · exact hr
      · exact hvk
     | false =>
      refine⟨_,rfl,rfl,by simp;omega,λx hx=>?_⟩;simp at hx;rcases hx with hx|rfl
      · exact e3 x hx
      · exact hr
    | false =>
     rw[cF];cases v.1[k].1 != r.1 with
     | true =>
      rw[cT,ha b _ (by omega),nH];refine⟨_,rfl,rfl,by simp;omega,λx hx=>?_⟩;simp at hx;rcases hx with hx|rfl
      · exact e3 x hx
      · exact hvk
     | false=>exact⟨_,rfl,rfl,by show b.length<=_;omega,e3⟩
   cases ht:(cond (!t) (some (decide (v.1[k].1>=r.1))) (some false))with
   | none=>cases t<;>cases ht
   | some tt =>
    rw[nH];exact key tt ht)
  (λz ⟨e1,e2,e3⟩=>by
   obtain⟨t,i,b⟩:=z;simp only at e1 e2 e3;subst e1;refine⟨(t,b),?_,by show b.length<=12;omega,e3⟩;show ba v r t _ b=_
   unfold ba;rw[oq (by omega),cF]) (x:=(false,0,[])) ⟨rfl,by simp,λx hx=>absurd hx not_mem_nil⟩
 unfold aQ;rw[nP (by show 0+v.2.length<=_;omega),nH,h1,nH,List.nil_append];cases d.1 with
 | true=>exact⟨_,rfl,by show d.2.length<=_;omega,by show v.2.length<=_;omega,h3⟩
 | false =>
  rw[Bool.not_false,cT,nP (by show d.2.length+1<=_;omega),nH];refine⟨_,rfl,by show (d.2++[r]).length<=_;simp;omega,by show v.2.length<=_;omega,λx hx=>?_⟩;have hx:x∈d.2++[r]:=hx
  simp at hx;rcases hx with hx|rfl
  · exact h3 x hx
  · exact hr
theorem Jh {v:oy} {n:Nat} (hv:VT v n) {r:nW} (hr:xp r.2.2):∃y ok,cU v r=some (y,ok)/\VT y n:=by
 obtain⟨x,hx,h1,h2,h3⟩:=Jg hv hr;unfold cU;rw[HE hv,nH,Bool.not_true,cF,hx,nH];obtain⟨y,ok,e,hy⟩:=HD hv h1 h2 h3;rw[e];exact⟨_,_,rfl,hy⟩
theorem Is (a b:Int):xp (qL .i64 a b):=by
 rw[AO];have h1:=BitVec.toInt_lt (x:=BitVec.ofInt 64 a&&&BitVec.ofInt 64 b)
 have h2:=BitVec.le_toInt (x:=BitVec.ofInt 64 a&&&BitVec.ofInt 64 b);exact⟨by omega,by omega⟩
theorem It {c:ob} (h:CW c) {n:Nat} (h1:1<=n) (h6:n<=6):∃c' r,dP c (n:Int)=some (c',r)/\CW c'/\xp r.2.2:=by
 obtain⟨t,ht,_⟩:=Dk (i:=(n:Int)) (by unfold nN;rw[dT (by omega),dT (by omega)];rfl);unfold dP;rw[ht,nH];obtain⟨c1,r1,e1,w1,_⟩:=rN h (nK ((nK (t-1))+1));obtain⟨c2,r2,e2,w2,_⟩:=xb w1 (l:=[1,2,3,2]) (by decide);obtain⟨c3,r3,e3,w3,_⟩:=rN w2 (nK ((nK (t-1))+1));rw[e1,nH,e2,nH,e3,nH];exact⟨_,_,rfl,w3,Is _ _⟩

theorem HG {n:Nat} (h1:1<=n) (h6:n<=6):cO (n:Int)=some ([(1,po (n:Int),po (n:Int))],List.replicate n 1):=by
 have hin:nN (n:Int) 1 6=true:=by unfold nN;rw[dT (by omega),dT (by omega)];rfl
 obtain⟨t,ht,ht2⟩:=Dk hin;obtain⟨d,hd,rfl⟩:=o9 (step:=λz:Int×List Int=>bZ (n:Int) z.1 z.2) (λk z=>z.1=(k:Int)/\z.2=List.replicate k 1) n (λd=>d=List.replicate n 1)
  (λk z hk ⟨e1,e2⟩=>by
   obtain⟨i,l⟩:=z;simp only at e1 e2;subst e1 e2;left;refine⟨(((k+1:Nat):Int),List.replicate k 1++[1]),?_,rfl,?_⟩
   · show bZ (n:Int) (k:Int) _=_;unfold bZ;rw[oE (by omega),cT,nP (by simp;omega),nH,nZ (by omega)]
   · show List.replicate k 1++[1]=_;rw[←List.replicate_succ'])
  (λz ⟨e1,e2⟩=>by
   obtain⟨i,l⟩:=z;simp only at e1 e2;subst e1 e2;refine⟨_,?_,rfl⟩;show bZ (n:Int) _ _=_
   unfold bZ;rw[oq (by omega),cF]) (x:=(0,[])) ⟨rfl,rfl⟩
 unfold cO;rw[tV,nH,hin,Bool.not_true,cF,ht,nH,hd,nH,ht2]
theorem Iu {n:Nat} (h1:1<=n) (h6:n<=6):VT ([(1,po (n:Int),po (n:Int))],List.replicate n 1) n:=by
 have hin:nN (n:Int) 1 6=true:=by unfold nN;rw[dT (by omega),dT (by omega)];rfl
 have ht:=AN hin;have hrow:al ([(1,po (n:Int),po (n:Int))],List.replicate n 1) 1=some 0:=by
  unfold al;rw[sa (k:=1) (b:=.inr 0) (by rfl)];rfl
 have hb:(vP .i64 (po (n:Int)) (po (n:Int)) != 0)=false:=by
  rcases zF hin with h|h|h|h|h|h<;>rw[h]<;>decide
 refine⟨?_,λr hr=>?_⟩
 · unfold qn;rw[hin];show (!(!true||(((List.replicate n (1:Int)).length:Int) != (n:Int)||decide ((1:Int)>6)))&&(!(List.range 1).any _&&!(List.range (List.replicate n (1:Int)).length).any _))=true
   rw[List.length_replicate];have e1:(((n:Int)) != (n:Int))=false:=by simp
   rw[e1];have e2:(List.range 1).any (tg ([(1,po (n:Int),po (n:Int))],List.replicate n 1) (n:Int))=false:=by
    show (tg ([(1,po (n:Int),po (n:Int))],List.replicate n 1) (n:Int) 0||false)=false;unfold tg;show ((!(nN 1 1 99)||((decide (0<0)&&_)||(!(nN (po (n:Int)) 0 (po (n:Int)))||(vP .i64 (po (n:Int)) (po (n:Int)) != 0))))||false)=false
    rw[hb];have:nN (po (n:Int)) 0 (po (n:Int))=true:=by unfold nN;rw[dT (by omega),dT (by omega)];rfl
    rw[this];rfl
   rw[e2];have e3:(List.range n).any (uI ([(1,po (n:Int),po (n:Int))],List.replicate n 1))=false:=by
    apply Bool.eq_false_iff.2;intro h;obtain⟨k,hk,hx⟩:=any_eq_true.1 h;have hk:=mem_range.1 hk
    unfold uI at hx;have:(List.replicate n (1:Int))[k]?=some 1:=by rw[List.getElem?_replicate,if_pos hk]
    simp only[this,hrow]at hx
    revert hx;decide
   rw[e3];rfl
 · have hr:r∈[((1:Int),po (n:Int),po (n:Int))]:=hr;simp at hr;subst hr;exact⟨by show _<=po (n:Int);omega,by show po (n:Int)<=_;omega⟩
theorem Iv {c:ob} (h:CW c) {n:Nat} (h1:1<=n) (h6:n<=6):∃c' v,cV c (n:Int)=some (c',v)/\CW c'/\VT v n:=by
 unfold cV;obtain⟨c0,m,e0,w0,hm⟩:=qX h (n:=6) (by decide);rw[HG h1 h6,nH];have e0':aa c 6=some (c0,(m:Int)):=e0
 rw[e0',nH];obtain⟨d,hd,g1,g2⟩:=o9 (step:=λz:Int×List Int×Int×Int×List nW×List Int=>ce (n:Int) z.1 z.2.1 z.2.2.1 z.2.2.2.1 z.2.2.2.2.1 z.2.2.2.2.2) (λk z=>z.1=(m:Int)-(k:Int)/\CW (z.2.1,z.2.2.1,z.2.2.2.1)/\VT z.2.2.2.2 n) m (λd=>CW (d.1,d.2.1,d.2.2.1)/\VT d.2.2.2 n)
  (λk z hk ⟨a1,a2,a3⟩=>by
   obtain⟨i,x,y,s,v⟩:=z;simp only at a1 a2 a3;left;show ∃y',ce (n:Int) i x y s v.1 v.2=_/\_
   unfold ce;have hi:decide (i>0)=true:=dT (by omega)
   have hw:nK (i-1)=(m:Int)-((k+1:Nat):Int):=by rw[oC (by omega) (by omega)];omega
   obtain⟨c1,r1,e1,w1,_⟩:=rN a2 4;rw[hi,cT,e1,nH,hw];show ∃y',cond (r1==0) _ _=_/\_
   cases r1==0 with
   | true =>
    obtain⟨c2,r2,e2,w2,_⟩:=rN w1 (n:Int);obtain⟨c3,r3,e3,w3,_⟩:=rN w2 3;obtain⟨v',ok,e4,g4⟩:=Iq a3 r2 (nK (1+r3));have e4':cR (v.1,v.2) r2 (nK (1+r3))=some (v',ok):=e4
    rw[cT,e2,nH,e3,nH,e4',nH];exact⟨_,rfl,rfl,w3,g4⟩
   | false =>
    rw[cF];show ∃y',cond (r1==1) _ _=_/\_
    cases r1==1 with
    | true =>
     obtain⟨c2,r2,e2,w2,_⟩:=rN w1 2;obtain⟨v',ok,e4,g4⟩:=Ir a3 (nK (2+r2));have e4':cS (v.1,v.2) (nK (2+r2))=some (v',ok):=e4
     rw[cT,e2,nH,e4',nH];exact⟨_,rfl,rfl,w2,g4⟩
    | false =>
     obtain⟨c2,r2,e2,w2,hr2⟩:=It w1 h1 h6;obtain⟨v',ok,e4,g4⟩:=Jh a3 hr2;have e4':cU (v.1,v.2) r2=some (v',ok):=e4
     rw[cF,e2,nH,e4',nH];exact⟨_,rfl,rfl,w2,g4⟩)
  (λz ⟨a1,a2,a3⟩=>by
   obtain⟨i,x,y,s,v⟩:=z;simp only at a1 a2 a3;refine⟨(x,y,s,v),?_,a2,a3⟩;show ce (n:Int) i x y s v.1 v.2=_
   unfold ce;have hi:decide (i>0)=false:=dF (by omega)
   rw[hi,cF]) (x:=((m:Int),c0.1,c0.2.1,c0.2.2,[(1,po (n:Int),po (n:Int))],List.replicate n 1)) ⟨by simp,w0,Iu h1 h6⟩
 rw[hd,nH];exact⟨_,_,rfl,g1,g2⟩
theorem Ji {c:ob} (h:CW c):∃c' v,dO c=some (c',v)/\CW c'/\xX v=true:=by
 obtain⟨c1,k1,e1,w1,b1⟩:=qX h (n:=5) (by decide);obtain⟨c2,x2,e2,w2,b2⟩:=xb w1 (l:=[0,1,2,5,10,100]) (by decide);obtain⟨c3,x3,e3,w3,b3⟩:=xb w2 (l:=[0,1,2,9,10]) (by decide);obtain⟨c4,k4,e4,w4,b4⟩:=qX w3 (n:=5) (by decide);obtain⟨c5,k5,e5,w5,b5⟩:=qX w4 (n:=4) (by decide);have e1':aa c 5=some (c1,(k1:Int)):=e1
 have e4':aa c3 5=some (c4,(k4:Int)):=e4;have e5':aa c4 4=some (c5,(k5:Int)):=e5
 unfold dO;rw[e1',nH,e2,nH,e3,nH,e4',nH,e5',nH];refine⟨_,_,rfl,w5,?_⟩;show xX (nK (1+(k1:Int)),x2,x3,nK (1+(k4:Int)),(k5:Int))=true
 rw[oC (by omega) (by omega),oC (by omega) (by omega)];have i1:nN (1+(k1:Int)) 1 99=true:=by unfold nN;rw[dT (by omega),dT (by omega)];rfl
 have i4:nN (1+(k4:Int)) 1 99=true:=by unfold nN;rw[dT (by omega),dT (by omega)];rfl
 have i5:nN (k5:Int) 0 7=true:=by unfold nN;rw[dT (by omega),dT (by omega)];rfl
 have i2:nN x2 0 100000=true:=by
  have:∀x∈([0,1,2,5,10,100]:List Int),nN x 0 100000=true:=by decide
  exact this x2 b2
 have i3:nN x3 0 10=true:=by
  have:∀x∈([0,1,2,9,10]:List Int),nN x 0 10=true:=by decide
  exact this x3 b3
 unfold xX;rw[i1,i2,i3,i4,i5];rfl
theorem HH {c:ob} (h:CW c) {n:Nat} (h6:n<=6):∃c' l,cQ c (n:Int)=some (c',l)/\CW c'/\l.length=n/\∀x∈l,tz x=true:=by
 unfold cQ;obtain⟨d,hd,g1,g2,g3⟩:=o9 (step:=λz:Int×List Int×Int×Int×List Pt=>cb (n:Int) z.1 z.2.1 z.2.2.1 z.2.2.2.1 z.2.2.2.2) (λk z=>z.1=(k:Int)/\CW (z.2.1,z.2.2.1,z.2.2.2.1)/\z.2.2.2.2.length=k/\∀x∈z.2.2.2.2,tz x=true) n (λd=>CW (d.1,d.2.1,d.2.2.1)/\d.2.2.2.length=n/\∀x∈d.2.2.2,tz x=true)
  (λk z hk ⟨a1,a2,a3,a4⟩=>by
   obtain⟨i,x,y,s,l⟩:=z;simp only at a1 a2 a3 a4;subst a1;left;show ∃y',cb (n:Int) (k:Int) x y s l=_/\_
   unfold cb;obtain⟨c1,up,e1,w1⟩:=AQ a2 4;obtain⟨c2,cost,e2,w2,b2⟩:=xb w1 (l:=[1,1,2,5,10]) (by decide);have hc:nN cost 1 1000=true:=by
    have:∀x∈([1,1,2,5,10]:List Int),nN x 1 1000=true:=by decide
    exact this cost b2
   have ha:∀q:Pt,od l [q]=some (l++[q]):=λq=>nP (by show l.length+1<=_;omega);have hin:∀q:Pt,tz q=true->(l++[q]).length=k+1/\∀x∈l++[q],tz x=true:=λq hq=>⟨by simp;omega,λx hx=>by
    simp at hx;rcases hx with hx|rfl
    · exact a4 x hx
    · exact hq⟩
   rw[oE (by omega),cT,e1,nH,e2,nH,nZ (by omega)];show ∃y',cond (!up) _ _=_/\_
   cases up with
   | true =>
    simp only[ha,Bool.not_true,cF,nH];obtain⟨q1,q2⟩:=hin (false,cost,false,0,0,0,0,0) (by unfold tz;rw[hc];rfl);exact⟨_,rfl,rfl,w2,q1,q2⟩
   | false =>
    obtain⟨c3,has,e3,w3⟩:=AQ w2 4;rw[Bool.not_false,cT,e3,nH];show ∃y',cond (!has) _ _=_/\_
    cases has with
    | true =>
     simp only[ha,Bool.not_true,cF,nH];obtain⟨q1,q2⟩:=hin (true,cost,false,0,0,0,0,0) (by unfold tz;rw[hc];rfl);exact⟨_,rfl,rfl,w3,q1,q2⟩
    | false =>
     obtain⟨c4,v,e4,w4,hv⟩:=Ji w3;simp only[ha,Bool.not_false,cT,nH,e4];obtain⟨q1,q2⟩:=hin (true,cost,true,v.1,v.2.1,v.2.2.1,v.2.2.2.1,v.2.2.2.2) (by unfold tz;rw[hc];exact hv);exact⟨_,rfl,rfl,w4,q1,q2⟩)
  (λz ⟨a1,a2,a3,a4⟩=>by
   obtain⟨i,x,y,s,l⟩:=z;simp only at a1 a2 a3 a4;subst a1;refine⟨(x,y,s,l),?_,a2,a3,a4⟩;show cb (n:Int) _ x y s l=_
   unfold cb;rw[oq (by omega),cF]) (x:=(0,c.1,c.2.1,c.2.2,[])) ⟨rfl,h,rfl,λx hx=>absurd hx not_mem_nil⟩
 rw[hd,nH];exact⟨_,_,rfl,g1,g2,g3⟩

def lt (a b:nO):Prop:=a.1<b.1\/(a.1=b.1/\a.2.1<b.2.1)
def same (a b:nO):Prop:=a.1=b.1/\a.2.1=b.2.1
theorem lt_trans {a b c:nO} (h:lt a b) (k:lt b c):lt a c:=by unfold lt at *;omega
theorem Du {a b:nO} (h:lt a b):¬same a b:=by unfold lt same at *;omega
structure FB (l:List nO):Prop where
 e:∀x∈l,rX x=true
 o:l.Pairwise lt
 n:l.length<=12
theorem FB.ok {l:List nO} (h:FB l):si l=true:=by
 unfold si;have hn:=h.n
 rw[dT (show (l.length:Int)<=12 by omega),Bool.and_true,Bool.not_eq_true'];apply Bool.eq_false_iff.2;intro ha;obtain⟨k,hk,hx⟩:=any_eq_true.1 ha;have hk:=mem_range.1 hk
 unfold sk at hx;simp only[List.getElem?_eq_getElem hk,h.e _ (getElem_mem hk),Bool.not_true,Bool.false_or,aT,decide_eq_true_eq]at hx;obtain⟨h0,hx⟩:=hx;simp only[List.getElem?_eq_getElem (show k-1<l.length by omega),Bool.not_eq_true']at hx;have hl:=pairwise_iff_getElem.1 h.o (k-1) k (by omega) hk (by omega)
 unfold tA at hx;simp only[Bool.or_eq_false_iff,Bool.and_eq_false_iff,decide_eq_false_iff_not,bF]at hx;unfold lt at hl;omega
theorem IQ {l:List nO} (h:FB l):bG l=some true:=by
 have hn:=h.n;rw[Hs (by omega),h.ok]
theorem FB.copy {l:List nO} (h:FB l):bn l=some l:=by
 have hn:=h.n;unfold bn;rw[nP (by show 0+l.length<=_;omega)];rfl
theorem IR {l:List nO} (hn:l.length<9223372036854775807) (tag mac:Int):∃r,bo l tag mac=some r/\((r = -1/\∀x∈l,¬(x.1=tag/\x.2.1=mac))\/∃k:Nat,∃hk:k<l.length,r=(k:Int)/\l[k].1=tag/\l[k].2.1=mac):=by
 obtain⟨v,h1,h2⟩:=o9 (step:=λz=>aB l tag mac z) (λk i=>i=(k:Int)/\∀x∈l.take k,¬(x.1=tag/\x.2.1=mac)) l.length (λv=>(v=.inl ()/\∀x∈l,¬(x.1=tag/\x.2.1=mac))\/∃k:Nat,∃hk:k<l.length,v=.inr (k:Int)/\l[k].1=tag/\l[k].2.1=mac)
  (λk i hk ⟨e,hx⟩=>by
   subst e;have hs:aB l tag mac (k:Int)=cond (l[k].1==tag&&l[k].2.1==mac) (some (.inr (.inr (k:Int)))) (some (.inl ((k+1:Nat):Int))):=by
    unfold aB;simp only[oE (show (k:Int)<(l.length:Int) by omega),cT,nX hk,nH,nZ (show k<9223372036854775807 by omega)];cases l[k].1==tag<;>rfl
   cases hb:(l[k].1==tag&&l[k].2.1==mac)with
   | true =>
    simp only[aT,beq_iff_eq]at hb;refine .inr ⟨_,by rw[hs];rw[show (l[k].1==tag&&l[k].2.1==mac)=true by simp[hb.1,hb.2]];rfl,.inr ⟨k,hk,rfl,hb.1,hb.2⟩⟩
   | false =>
    refine .inl ⟨_,by rw[hs,hb];rfl,rfl,λx hx'=>?_⟩;rw[take_add_one,List.getElem?_eq_getElem hk,mem_append]at hx';rcases hx' with hx'|hx'
    · exact hx x hx'
    · simp at hx';subst hx';intro ⟨q1,q2⟩;rw[q1,q2]at hb;simp at hb)
  (λi ⟨e,hx⟩=>by
   subst e;rw[take_length]at hx;refine⟨.inl (),?_,.inl ⟨rfl,hx⟩⟩;show aB l tag mac _=_
   unfold aB;rw[oq (by omega),cF]) (x:=0) ⟨rfl,by simp⟩
 unfold bo;rw[h1,nH];rcases h2 with ⟨rfl,h2⟩|⟨k,hk,rfl,h2⟩
 · exact⟨_,rfl,.inl ⟨rfl,h2⟩⟩
 · exact⟨_,rfl,.inr ⟨k,hk,rfl,h2⟩⟩
def tR (x e:nO):Bool:=cond (x.1 != e.1) (decide (x.1<e.1)) (decide (x.2.1<e.2.1))
theorem Fl {x e:nO} (h:tR x e=true):lt x e:=by
 unfold tR at h;unfold lt;by_cases hx:x.1=e.1
 · rw[show (x.1 != e.1)=false by simp[hx],cF]at h;exact .inr ⟨hx,of_decide_eq_true h⟩
 · rw[show (x.1 != e.1)=true from bne_iff_ne.2 hx,cT]at h;exact .inl (of_decide_eq_true h)
theorem Ep {x e:nO} (h:tR x e=false):lt e x\/same x e:=by
 unfold tR at h;unfold lt same;by_cases hx:x.1=e.1
 · rw[show (x.1 != e.1)=false by simp[hx],cF]at h;have:=of_decide_eq_false h
   omega
 · rw[show (x.1 != e.1)=true from bne_iff_ne.2 hx,cT]at h;have:=of_decide_eq_false h
   omega
def s4 (x e:nO):Bool:=x.1 != e.1||x.2.1 != e.2.1
theorem xc {x e:nO} (h:s4 x e=true):¬same x e:=by
 unfold s4 at h;unfold same;simp only[Bool.or_eq_true,bne_iff_ne]at h;omega
theorem C1 {x e:nO} (h:s4 x e=false):same x e:=by
 unfold s4 at h;unfold same;simp only[Bool.or_eq_false_iff,bne_eq_false_iff_eq]at h;exact h
theorem vN {l:List nO} {x:nO} (h:l.Pairwise lt) (k:∀y∈l,lt y x):(l++[x]).Pairwise lt:=by
 rw[pairwise_append];exact⟨h,List.pairwise_singleton _ _,λa ha b hb=>by simp at hb;subst hb;exact k a ha⟩
theorem Dv {l:List nO} (h:FB l) {e:nO} (he:rX e=true) (hroom:(∃x∈l,same x e)\/l.length<12):∃y,cW l e=some y/\FB y:=by
 have hn:=h.n;have hlt:∀i j (hi:i<l.length) (hj:j<l.length),i<j->lt l[i] l[j]:=pairwise_iff_getElem.1 h.o
 obtain⟨d,hd,g⟩:=o9 (step:=λz:Bool×Int×List nO=>bH l e z.1 z.2.1 z.2.2)
  (λk z=>z.2.1=(k:Int)/\(∀x∈z.2.2,rX x=true)/\z.2.2.Pairwise lt /\
   (z.1=false->z.2.2=l.take k/\∀x∈l.take k,lt x e) /\
   (z.1=true->(∀x∈z.2.2,∀j (hj:j<l.length),k<=j->lt x l[j])/\(∀j (hj:j<l.length),k<=j->lt e l[j])/\z.2.2.length<=k+1/\((∃x∈l.take k,same x e)->z.2.2.length<=k))) l.length
  (λd=>(∀x∈d.2,rX x=true)/\d.2.Pairwise lt/\(d.1=false->d.2=l/\∀x∈l,lt x e)/\(d.1=true->d.2.length<=l.length+1/\((∃x∈l,same x e)->d.2.length<=l.length)))
  (λk z hk ⟨e1,e2,e3,e4,e5⟩=>by
   obtain⟨t,i,b⟩:=z;simp only at e1 e2 e3 e4 e5;subst e1;left;have hf:rX l[k]=true:=h.e _ (getElem_mem hk)
   have hbl:b.length<=100:=by
    cases t with
    | false=>rw[(e4 rfl).1,List.length_take];omega
    | true=>have:=(e5 rfl).2.2.1;omega
   have ha:∀(xs:List nO) (y:nO),xs.length<=101->od xs [y]=some (xs++[y]):=λxs y h=>nP (by show xs.length+1<=_;omega);have htk:l.take (k+1)=l.take k++[l[k]]:=by rw[take_add_one,List.getElem?_eq_getElem hk];rfl
   have hs:bH l e t (k:Int) b=cond (!t&&!(tR l[k] e))
    (cond (s4 l[k] e) (some (.inl (true,((k+1:Nat):Int),b++[e]++[l[k]]))) (some (.inl (true,((k+1:Nat):Int),b++[e]))))
    (cond (s4 l[k] e) (some (.inl (t,((k+1:Nat):Int),b++[l[k]]))) (some (.inl (t,((k+1:Nat):Int),b)))):=by
    have hA:bm l[k] e.1 e.2.1=some (tR l[k] e):=by unfold bm tR;cases (l[k].1 != e.1)<;>rfl
    have hO:(cond (l[k].1 != e.1) (some true) (some (l[k].2.1 != e.2.1)))=some (s4 l[k] e):=by unfold s4;cases (l[k].1 != e.1)<;>rfl
    unfold bH;simp only[oE (show (k:Int)<(l.length:Int) by omega),cT,nX hk,nH,nZ (show k<9223372036854775807 by omega),hA,hO,ha b e (by omega),ha b l[k] (by omega),ha (b++[e]) l[k] (by rw[length_append];show b.length+1<=_;omega)];cases t<;>cases tR l[k] e<;>rfl
   show ∃y,bH l e t (k:Int) b=_/\_;rw[hs];cases t with
   | false =>
    obtain⟨f1,f2⟩:=e4 rfl;subst f1;cases hah:tR l[k] e with
    | true =>
     have hl:=Fl hah;have ho:s4 l[k] e=true:=by
      cases ho:s4 l[k] e with
      | true=>rfl
      | false=>exact absurd (C1 ho) (Du hl)
     rw[ho];refine⟨_,rfl,rfl,λx hx=>?_,?_,λ_=>⟨by show l.take k++[l[k]]=_;rw[htk],λx hx=>?_⟩,(λht=>by cases ht)⟩
     · have hx:x∈l.take k++[l[k]]:=hx;rcases mem_append.1 hx with hx|hx
       · exact e2 x hx
       · simp at hx;subst hx;exact hf
     · show (l.take k++[l[k]]).Pairwise lt;rw[←htk];exact List.Pairwise.sublist (List.take_sublist _ _) h.o
     · rw[htk]at hx;rcases mem_append.1 hx with hx|hx
       · exact f2 x hx
       · simp at hx;subst hx;exact hl
    | false =>
     have hge:=Ep hah;have hpe:(l.take k++[e]).Pairwise lt:=vN e3 f2
     have hee:∀x∈l.take k++[e],rX x=true:=λx hx=>by
      rcases mem_append.1 hx with hx|hx
      · exact e2 x hx
      · simp at hx;subst hx;exact he
     have hlater:∀j (hj:j<l.length),k+1<=j->lt e l[j]:=λj hj hkj=>by
      have h1:=hlt k j hk hj (by omega);rcases hge with h2|h2
      · exact lt_trans h2 h1
      · unfold same at h2;unfold lt at h1 ⊢;omega
     have htl:∀x∈l.take k,∀j (hj:j<l.length),k+1<=j->lt x l[j]:=λx hx j hj hkj=>lt_trans (f2 x hx) (hlater j hj hkj);have hlen:(l.take k).length=k:=by rw[List.length_take];omega
     cases ho:s4 l[k] e with
     | true =>
      have hek:lt e l[k]:=by
       rcases hge with h2|h2
       · exact h2
       · exact absurd h2 (xc ho)
      refine⟨_,rfl,rfl,λx hx=>?_,?_,(λht=>by cases ht),λ_=>⟨λx hx j hj hkj=>?_,hlater,?_,λ⟨x,hx,hxe⟩=>?_⟩⟩
      · have hx:x∈l.take k++[e]++[l[k]]:=hx;rcases mem_append.1 hx with hx|hx
        · exact hee x hx
        · simp at hx;subst hx;exact hf
      · show (l.take k++[e]++[l[k]]).Pairwise lt;refine vN hpe λy hy=>?_;rcases mem_append.1 hy with hy|hy
        · exact lt_trans (f2 y hy) hek
        · simp at hy;subst hy;exact hek
      · have hx:x∈l.take k++[e]++[l[k]]:=hx;rcases mem_append.1 hx with hx|hx
        · rcases mem_append.1 hx with hx|hx
          · exact htl x hx j hj hkj
          · simp at hx;subst hx;exact hlater j hj hkj
        · simp at hx;subst hx;exact hlt k j hk hj (by omega)
      · show (l.take k++[e]++[l[k]]).length<=_;simp only[length_append,hlen,List.length_singleton];omega
      · rw[htk]at hx;rcases mem_append.1 hx with hx|hx
        · exact absurd hxe (Du (f2 x hx))
        · simp at hx;subst hx;exact absurd hxe (xc ho)
     | false =>
      refine⟨_,rfl,rfl,hee,hpe,(λht=>by cases ht),λ_=>⟨λx hx j hj hkj=>?_,hlater,?_,λ_=>?_⟩⟩
      · have hx:x∈l.take k++[e]:=hx;rcases mem_append.1 hx with hx|hx
        · exact htl x hx j hj hkj
        · simp at hx;subst hx;exact hlater j hj hkj
      · show (l.take k++[e]).length<=_;simp only[length_append,hlen,List.length_singleton];omega
      · show (l.take k++[e]).length<=_;simp only[length_append,hlen,List.length_singleton];omega
   | true =>
    obtain⟨f1,f2,f3,f4⟩:=e5 rfl;cases ho:s4 l[k] e with
    | true =>
     refine⟨_,rfl,rfl,λx hx=>?_,vN e3 λy hy=>f1 y hy k hk (Nat.le_refl _),(λht=>by cases ht),λ_=>⟨λx hx j hj hkj=>?_,λj hj hkj=>f2 j hj (by omega),?_,λ⟨x,hx,hxe⟩=>?_⟩⟩
     · have hx:x∈b++[l[k]]:=hx;rcases mem_append.1 hx with hx|hx
       · exact e2 x hx
       · simp at hx;subst hx;exact hf
     · have hx:x∈b++[l[k]]:=hx;rcases mem_append.1 hx with hx|hx
       · exact f1 x hx j hj (by omega)
       · simp at hx;subst hx;exact hlt k j hk hj (by omega)
     · show (b++[l[k]]).length<=_;rw[length_append];show b.length+1<=_;omega
     · show (b++[l[k]]).length<=_;rw[htk]at hx;rcases mem_append.1 hx with hx|hx
       · have:=f4 ⟨x,hx,hxe⟩;rw[length_append];show b.length+1<=_;omega
       · simp at hx;subst hx;exact absurd hxe (xc ho)
    | false =>
     exact⟨_,rfl,rfl,e2,e3,(λht=>by cases ht),λ_=>⟨λx hx j hj hkj=>f1 x hx j hj (by omega),λj hj hkj=>f2 j hj (by omega),by show b.length<=_;omega,λ_=>by show b.length<=_;omega⟩⟩)
  (λz ⟨e1,e2,e3,e4,e5⟩=>by
   obtain⟨t,i,b⟩:=z;simp only at e1 e2 e3 e4 e5;subst e1;rw[take_length]at e4 e5;refine⟨(t,b),?_,e2,e3,e4,λht=>⟨(e5 ht).2.2.1,(e5 ht).2.2.2⟩⟩;show bH l e t _ b=_
   unfold bH;rw[oq (by omega),cF]) (x:=(false,0,[])) ⟨rfl,λx hx=>absurd hx not_mem_nil,List.Pairwise.nil,λ_=>⟨by simp,λx hx=>by simp at hx⟩,(λht=>by cases ht)⟩
 obtain⟨g1,g2,g3,g4⟩:=g;unfold cW;rw[hd,nH];obtain⟨t,b⟩:=d;simp only at g1 g2 g3 g4;cases t with
 | true =>
  refine⟨b,rfl,g1,g2,?_⟩;obtain⟨k1,k2⟩:=g4 rfl;rcases hroom with hr|hr
  · have:=k2 hr;omega
  · omega
 | false =>
  obtain⟨k1,k2⟩:=g3 rfl;have hr:l.length<12:=by
   rcases hroom with ⟨x,hx,hxe⟩|hr
   · exact absurd hxe (Du (k2 x hx))
   · exact hr
  show ∃y,((od b [e]).bind λzs=>some zs)=some y/\FB y;rw[k1,nP (by show l.length+1<=_;omega),nH];refine⟨_,rfl,λx hx=>?_,vN h.o k2,by rw[length_append];show l.length+1<=12;omega⟩;rcases mem_append.1 hx with hx|hx
  · exact h.e x hx
  · simp at hx;subst hx;exact he
theorem HI (e:nO):bE e=some (rX e):=by rw[FO];exact Dj e
theorem HJ {l:List nO} (h:FB l) (tag mac port:Int):∃y,dQ l tag mac port=some y/\FB y:=by
 have hn:=h.n;obtain⟨r,hr,hr2⟩:=IR (l:=l) (by omega) tag mac;unfold dQ;rw[hr,nH,IQ h,nH,HI,nH,h.copy,nH,Bool.not_true,cF,nH];cases he:rX (tag,mac,port,0,false)with
 | false=>exact⟨_,rfl,h⟩
 | true =>
  rcases hr2 with ⟨rfl,hr2⟩|⟨k,hk,rfl,q1,q2⟩
  · rw[Bool.not_true,cF];by_cases hlen:l.length<12
    · obtain⟨y,hy,hy2⟩:=Dv h he (.inr hlen);refine⟨y,?_,hy2⟩;rw[hy];show (cond (decide ((l.length:Int)>=12)) _ _)=_
      rw[dF (by omega)];rfl
    · refine⟨l,?_,h⟩;show (cond (decide ((l.length:Int)>=12)) _ _)=_
      rw[dT (by omega)];rfl
  · simp only[Bool.not_true,cF,dT (show (k:Int)>=0 by omega),cT,nX hk,nH,oq (show ¬(k:Int)<0 by omega)];obtain⟨y,hy,hy2⟩:=Dv h he (.inl ⟨l[k],getElem_mem hk,q1,q2⟩);cases l[k].2.2.2.2 with
    | true=>exact⟨_,rfl,h⟩
    | false=>exact⟨y,by rw[hy];rfl,hy2⟩
theorem Gy {l:List nO} (h:FB l) (tag mac port:Int):∃y ok,cX l tag mac port=some (y,ok)/\FB y:=by
 have hn:=h.n;obtain⟨r,hr,hr2⟩:=IR (l:=l) (by omega) tag mac;unfold cX;rw[hr,nH,IQ h,nH,HI,nH,h.copy,nH,Bool.not_true,cF,nH];cases he:rX (tag,mac,port,0,true)with
 | false=>exact⟨_,_,rfl,h⟩
 | true =>
  rcases hr2 with ⟨rfl,hr2⟩|⟨k,hk,rfl,q1,q2⟩
  · rw[Bool.not_true,cF];by_cases hlen:l.length<12
    · obtain⟨y,hy,hy2⟩:=Dv h he (.inr hlen);refine⟨y,true,?_,hy2⟩;rw[hy];show (cond (decide ((l.length:Int)>=12)) _ _)=_
      rw[dF (by omega)];rfl
    · refine⟨l,false,?_,h⟩;show (cond (decide ((l.length:Int)>=12)) _ _)=_
      rw[dT (by omega)];rfl
  · rw[Bool.not_true,cF,oq (show ¬(k:Int)<0 by omega),cF,nH];obtain⟨y,hy,hy2⟩:=Dv h he (.inl ⟨l[k],getElem_mem hk,q1,q2⟩);rw[nH,cF,hy];exact⟨y,true,rfl,hy2⟩

theorem Jj {id n:Nat} (i1:1<=id) (i2:id<=99) (h1:1<=n) (h6:n<=6):∃ps rs qs,cP (id:Int) (n:Int)=some ((id:Int),[],ps,[],rs,qs,0,0,0,0,0):=by
 have hin:nN (n:Int) 1 6=true:=by unfold nN;rw[dT (by omega),dT (by omega)];rfl
 have hid:nN (id:Int) 1 99=true:=by unfold nN;rw[dT (by omega),dT (by omega)];rfl
 obtain⟨d,hd,ps,rfl⟩:=o9 (step:=λz:Int×Int×List UInt8×Int×Int×Int×Int×Int×List Pt×List nO=>ca (n:Int) z.1 z.2.1 z.2.2.1 z.2.2.2.1 z.2.2.2.2.1 z.2.2.2.2.2.1 z.2.2.2.2.2.2.1 z.2.2.2.2.2.2.2.1 z.2.2.2.2.2.2.2.2.1 z.2.2.2.2.2.2.2.2.2)
  (λk z=>∃ps:List Pt,ps.length=k/\z=((k:Int),(id:Int),[],0,0,0,0,0,ps,[])) n (λd=>∃ps:List Pt,d=((id:Int),[],0,0,0,0,0,ps,[]))
  (λk z hk ⟨ps,hp,e⟩=>by
   subst e;left;refine⟨(((k+1:Nat):Int),(id:Int),[],0,0,0,0,0,ps++[(false,1,false,0,0,0,0,0)],[]),?_,ps++[(false,1,false,0,0,0,0,0)],by simp;exact hp,rfl⟩;show ca (n:Int) (k:Int) (id:Int) [] 0 0 0 0 0 ps []=_
   unfold ca;rw[oE (by omega),cT,nP (by show ps.length+1<=_;omega),nH,nZ (by omega)])
  (λz ⟨ps,hp,e⟩=>by
   subst e;refine⟨((id:Int),[],0,0,0,0,0,ps,[]),?_,ps,rfl⟩;show ca (n:Int) _ (id:Int) [] 0 0 0 0 0 ps []=_
   unfold ca;rw[oq (by omega),cF]) (x:=(0,(id:Int),[],0,0,0,0,0,[],[])) ⟨[],rfl,rfl⟩
 unfold cP;rw[tV,nH,hid,Bool.not_true,cF,tV,nH,hin,nH,Bool.not_true,cF,HG h1 h6,nH,hd,nH];exact⟨_,_,_,rfl⟩
theorem HK {c:ob} (h:CW c):∃c' x,cf c=some (c',x)/\CW c':=by
 obtain⟨c1,x,e,w,_⟩:=xb h (l:=[11,12,13,14]) (by decide);unfold cf;rw[e,nH];exact⟨_,_,rfl,w⟩
def Fm (b:nI):Prop:=b.2.2.2.2.2.2.2.1=0/\b.2.2.2.2.2.2.2.2.1=0/\b.2.2.2.2.2.2.2.2.2.1=0
theorem Gz {c:ob} (h:CW c):∃c' b,dR c=some (c',b)/\CW c'/\tB b/\pd b=true/\Fm b:=by
 obtain⟨c1,p,e1,w1,b1⟩:=qX h (n:=4) (by decide);obtain⟨c2,q,e2,w2,b2⟩:=qX w1 (n:=5) (by decide);have e1':aa c 4=some (c1,(p:Int)):=e1
 have e2':aa c1 5=some (c2,(q:Int)):=e2;have hp:nK (1+(p:Int))=((p+1:Nat):Int):=by rw[oC (by omega) (by omega)];omega
 have hq:nK (1+(q:Int))=((q+1:Nat):Int):=by rw[oC (by omega) (by omega)];omega
 obtain⟨ps,rs,qs,e3⟩:=Jj (id:=q+1) (n:=p+1) (by omega) (by omega) (by omega) (by omega);obtain⟨c4,name,e4,w4,b4⟩:=HC w2 (l:=[[],[121,97,114,100],[98,49]]) (by decide);obtain⟨c5,pts,e5,w5,l5,a5⟩:=HH w4 (n:=p+1) (by omega);obtain⟨c6,v,e6,w6,a6⟩:=Iv w5 (n:=p+1) (by omega) (by omega);obtain⟨c7,m,e7,w7,b7⟩:=qX w6 (n:=6) (by decide);have e7':aa c6 6=some (c7,(m:Int)):=e7
 have hname:name.length<=10:=by
  have:∀x∈([[],[121,97,114,100],[98,49]]:List (List UInt8)),x.length<=10:=by decide
  exact this name b4
 obtain⟨d,hd,g1,g2,g3,g4⟩:=o9 (step:=λz:Int×List Int×Int×Int×Int×List UInt8×Int×Int×Int×Int×Int×List nO=>cg (c1,(p:Int)) z.1 z.2.1 z.2.2.1 z.2.2.2.1 z.2.2.2.2.1 z.2.2.2.2.2.1 z.2.2.2.2.2.2.1 z.2.2.2.2.2.2.2.1 z.2.2.2.2.2.2.2.2.1 z.2.2.2.2.2.2.2.2.2.1 z.2.2.2.2.2.2.2.2.2.2.1 z.2.2.2.2.2.2.2.2.2.2.2)
  (λk z=>z.1=(m:Int)-(k:Int)/\CW (z.2.1,z.2.2.1,z.2.2.2.1)/\(z.2.2.2.2.1=((q+1:Nat):Int)/\z.2.2.2.2.2.1=name)/\(z.2.2.2.2.2.2.1,z.2.2.2.2.2.2.2.1,z.2.2.2.2.2.2.2.2.1,z.2.2.2.2.2.2.2.2.2.1,z.2.2.2.2.2.2.2.2.2.2.1)=((0:Int),(0:Int),(0:Int),(0:Int),(0:Int))/\FB z.2.2.2.2.2.2.2.2.2.2.2) m
  (λd=>CW (d.1,d.2.1,d.2.2.1)/\(d.2.2.2.1=((q+1:Nat):Int)/\d.2.2.2.2.1=name)/\(d.2.2.2.2.2.1,d.2.2.2.2.2.2.1,d.2.2.2.2.2.2.2.1,d.2.2.2.2.2.2.2.2.1,d.2.2.2.2.2.2.2.2.2.1)=((0:Int),(0:Int),(0:Int),(0:Int),(0:Int))/\FB d.2.2.2.2.2.2.2.2.2.2)
  (λk z hk ⟨a1,a2,a3,a4,a5⟩=>by
   obtain⟨i,x,y,s,bid,nm,n6,n7,n8,n9,n10,f⟩:=z;simp only at a1 a2 a3 a4 a5;left;show ∃y',cg (c1,(p:Int)) i x y s bid nm n6 n7 n8 n9 n10 f=_/\_
   unfold cg;have hi:decide (i>0)=true:=dT (by omega)
   have hw:nK (i-1)=(m:Int)-((k+1:Nat):Int):=by rw[oC (by omega) (by omega)];omega
   obtain⟨d1,r1,f1,v1,_⟩:=rN a2 3;obtain⟨d2,r2,f2,v2⟩:=HK v1;obtain⟨d3,r3,f3,v3,_⟩:=rN v2 (nK (1+(p:Int)));obtain⟨y',f4,g4⟩:=HJ a5 (nK (1+r1)) r2 r3;rw[hi,cT,f1,nH,f2,nH,f3,nH,f4,nH,hw];exact⟨_,rfl,rfl,v3,a3,a4,g4⟩)
  (λz ⟨a1,a2,a3,a4,a5⟩=>by
   obtain⟨i,x,y,s,bid,nm,n6,n7,n8,n9,n10,f⟩:=z;simp only at a1 a2 a3 a4 a5;refine⟨(x,y,s,bid,nm,n6,n7,n8,n9,n10,f),?_,a2,a3,a4,a5⟩;show cg (c1,(p:Int)) i x y s bid nm n6 n7 n8 n9 n10 f=_
   unfold cg;have hi:decide (i>0)=false:=dF (by omega)
   rw[hi,cF]) (x:=((m:Int),c7.1,c7.2.1,c7.2.2,((q+1:Nat):Int),name,0,0,0,0,0,[])) ⟨by simp,w7,⟨rfl,rfl⟩,rfl,⟨λx hx=>absurd hx not_mem_nil,List.Pairwise.nil,by simp⟩⟩
 obtain⟨dc,dp,ds,did,dn,n6,n7,n8,n9,n10,df⟩:=d;simp only at g1 g2 g3 g4;obtain⟨rfl,rfl⟩:=g2;simp only[Prod.mk.injEq]at g3;obtain⟨rfl,rfl,rfl,rfl,rfl⟩:=g3;obtain⟨c8,st,e8,w8⟩:=AQ g1 3;obtain⟨z1,z2,z3,z4⟩:=a6.len;have hin:∀n:Nat,n<=1000000->nN (n:Int) 0 1000000=true:=λn hn=>by unfold nN;rw[dT (by omega),dT (by omega)];rfl
 have hlast:∀(c:ob) (F:List nO),CW c->FB F->∃c' b,((aa c 5).bind λt59=>(ai t59.1 ([0,1,5,1000000]:List Int)).bind λt63=>some (t63.1,((((q+1:Nat):Int),dn,pts,F,v.1,v.2,t59.2,0,0,0,t63.2):nI)))=some (c',b)/\CW c'/\tB b/\pd b=true/\Fm b:=by
  intro c F hc hF;obtain⟨k1,t,f1,u1,b1⟩:=qX hc (n:=5) (by decide);have f1':aa c 5=some (k1,(t:Int)):=f1
  obtain⟨k2,x,f2,u2,b2⟩:=xb u1 (l:=[0,1,5,1000000]) (by decide);have hx:nN x 0 1000000=true:=by
   have:∀x∈([0,1,5,1000000]:List Int),nN x 0 1000000=true:=by decide
   exact this x b2
  have hFn:=hF.n;rw[f1',nH,f2,nH];refine⟨_,_,rfl,u2,⟨by show pts.length<_;omega,by show F.length<_;omega,by show v.1.length<_;omega,by show v.2.length<_;omega,a6.r⟩,?_,rfl,rfl,rfl⟩;unfold pd rM;show (!((List.range pts.length).any (vk pts))&&(nN ((q+1:Nat):Int) 1 99&&(!(decide ((dn.length:Int)>10))&&(nN (pts.length:Int) 1 6&&(si F&&(qn v (pts.length:Int)&&(nN (t:Int) 0 1000000&&(nN 0 0 1000000&&(nN 0 0 1000000&&(nN 0 0 1000000&&nN x 0 1000000))))))))))=true
  have q1:(List.range pts.length).any (vk pts)=false:=by
   apply Bool.eq_false_iff.2;intro ha;obtain⟨k,hk,hx⟩:=any_eq_true.1 ha;have hk:=mem_range.1 hk
   unfold vk at hx;simp only[List.getElem?_eq_getElem hk,a5 _ (getElem_mem hk)]at hx
   revert hx;decide
  have q2:nN ((q+1:Nat):Int) 1 99=true:=by unfold nN;rw[dT (by omega),dT (by omega)];rfl
  have q3:decide ((dn.length:Int)>10)=false:=dF (by omega);have q4:nN (pts.length:Int) 1 6=true:=by unfold nN;rw[dT (by omega),dT (by omega)];rfl
  rw[q1,q2,q3,q4,hF.ok,l5,a6.p,hin t (by omega),hx];rfl
 have e8':aZ (dc,dp,ds) 3=some (c8,st):=e8;unfold dR;rw[e1',nH];show ∃c' b,((aa c1 5).bind _)=_/\_
 rw[e2',nH];show ∃c' b,((cP (nK (1+(q:Int))) (nK (1+(p:Int)))).bind _)=_/\_
 rw[hp,hq,e3,nH,e4,nH];show ∃c' b,((cQ c4 ((p+1:Nat):Int)).bind _)=_/\_
 rw[e5,nH];show ∃c' b,((cV c5 ((p+1:Nat):Int)).bind _)=_/\_
 rw[e6,nH];show ∃c' b,((aa c6 6).bind _)=_/\_
 rw[e7',nH];show ∃c' b,((loop _ ((m:Int),c7.1,c7.2.1,c7.2.2,((q+1:Nat):Int),dn,0,0,0,0,0,[])).bind _)=_/\_
 rw[hd,nH];show ∃c' b,((aZ (dc,dp,ds) 3).bind _)=_/\_
 rw[e8',nH];cases st with
 | false =>
  show ∃c' b,((aa c8 5).bind _)=_/\_;exact hlast c8 df w8 g4
 | true =>
  obtain⟨k1,x1,f1,u1⟩:=HK w8;obtain⟨k2,x2,f2,u2,_⟩:=rN u1 ((p+1:Nat):Int);obtain⟨F,ok,f3,hF⟩:=Gy g4 1 x1 x2;show ∃c' b,((cf c8).bind _)=_/\_
  rw[f1,nH];show ∃c' b,((aa k1 ((p+1:Nat):Int)).bind _)=_/\_
  rw[f2,nH];show ∃c' b,((cX df 1 x1 x2).bind _)=_/\_
  rw[f3,nH];exact hlast k2 F u2 hF
noncomputable def xd (b:nI) (c p:Int):Int:=(br b c p).getD 0
def num (name:List Int) (n:Int):nJ:=([1,3,1]++name,2,n,[],[])
def xY (r:nW) (c:Nat):Int:=match c with|0=>1|1=>r.2.1|_=>r.2.2
noncomputable def pY (b:nI) (c:Nat):List nJ:=(List.range b.2.2.1.length).map λk=>num [2,((c+1:Nat):Int),((k+1:Nat):Int)] (xd b ((c+1:Nat):Int) (k:Int))
def qP (b:nI) (c:Nat):List nJ:=b.2.2.2.2.1.map λr=>num [3,((c+1:Nat):Int),r.1] (xY r c)
def wb (b:nI):List nJ:=b.2.2.2.1.map λe=>num [4,1,e.1,e.2.1] (nK (e.2.2.1+1))
noncomputable def pV (b:nI):List nJ:=th b++(List.range 4).flatMap (pY b)++(List.range 3).flatMap (qP b)++wb b
theorem yU {out:List nJ} (name:List Int) (n i:Int) (h1:out.length<=900) (h2:name.length<=900):((aK n).bind λv=>(ay v name).bind λt=>(od out [t]).bind λzs=>some (Sum.inl (nK (i+1),zs):(Int×List nJ)⊕List nJ))=some (Sum.inl (nK (i+1),out++[num name n])):=by
 unfold aK ay;rw[nH,nP (by show 3+name.length<=_;omega),nH,nH,nP (by show out.length+1<=_;omega),nH];rfl
theorem Iw {b:nI} (h:tB b) (hq:b.2.2.1.length=b.2.2.2.2.2.1.length) (h6:b.2.2.1.length<=6) (c:Nat) (out:List nJ) (ho:out.length<=500):loop (λz=>bc b ((c+1:Nat):Int) z.1 z.2) (0,out)=some (out++pY b c):=by
 obtain⟨v,h1,rfl⟩:=o9 (step:=λz:Int×List nJ=>bc b ((c+1:Nat):Int) z.1 z.2) (λk z=>z.1=(k:Int)/\z.2=out++(List.range k).map λk=>num [2,((c+1:Nat):Int),((k+1:Nat):Int)] (xd b ((c+1:Nat):Int) (k:Int))) b.2.2.1.length (λv=>v=out++pY b c)
  (λk z hk ⟨e1,e2⟩=>by
   obtain⟨i,l⟩:=z;simp only at e1 e2;subst e1;left;obtain⟨n,hn⟩:=Im h ((c+1:Nat):Int) hk hq;have hv:xd b ((c+1:Nat):Int) (k:Int)=n:=by unfold xd;rw[hn];rfl
   have hl:l.length<=900:=by rw[e2];simp;omega
   refine⟨(((k+1:Nat):Int),l++[num [2,((c+1:Nat):Int),((k+1:Nat):Int)] n]),?_,rfl,?_⟩
   · show bc b ((c+1:Nat):Int) (k:Int) l=_;unfold bc;rw[oE (by omega),cT,hn,nH,yU _ _ _ hl (by simp),nZ (by omega)]
   · show l++[num _ n]=_;rw[e2,range_succ,map_append,←append_assoc,List.map_singleton,hv])
  (λz ⟨e1,e2⟩=>by
   obtain⟨i,l⟩:=z;simp only at e1 e2;subst e1;refine⟨l,?_,e2⟩;show bc b ((c+1:Nat):Int) _ l=_
   unfold bc;rw[oq (by omega),cF]) (x:=(0,out)) ⟨rfl,by simp⟩
 exact h1
theorem HL {b:nI} (h:tB b) (hq:b.2.2.1.length=b.2.2.2.2.2.1.length) (h6:b.2.2.1.length<=6) (out:List nJ) (ho:out.length<=100):loop (λz=>bt b z.1 z.2) (1,out)=some (out++(List.range 4).flatMap (pY b)):=by
 have hg:∀c,(pY b c).length<=6:=λc=>by unfold pY;rw[length_map,List.length_range];exact h6
 obtain⟨v,h1,rfl⟩:=o9 (step:=λz:Int×List nJ=>bt b z.1 z.2) (λk z=>z.1=((k+1:Nat):Int)/\z.2=out++(List.range k).flatMap (pY b)/\z.2.length<=100+6*k) 4 (λv=>v=out++(List.range 4).flatMap (pY b))
  (λk z hk ⟨e1,e2,e3⟩=>by
   obtain⟨i,l⟩:=z;simp only at e1 e2 e3;subst e1;left;have hg':=hg k
   refine⟨(((k+1+1:Nat):Int),l++pY b k),?_,rfl,?_,by show (l++pY b k).length<=_;rw[length_append];omega⟩
   · show bt b ((k+1:Nat):Int) l=_;unfold bt;rw[dT (show ((k+1:Nat):Int)<=4 by omega),cT,Iw h hq h6 k l (by omega),nH,nZ (by omega)]
   · show l++pY b k=_;rw[e2,range_succ,List.flatMap_append,←append_assoc];simp)
  (λz ⟨e1,e2,e3⟩=>by
   obtain⟨i,l⟩:=z;simp only at e1 e2 e3;subst e1;exact⟨l,rfl,e2⟩) (x:=(1,out)) ⟨rfl,by simp,by show out.length<=_;omega⟩
 exact h1
theorem Jk {b:nI} (h6:b.2.2.2.2.1.length<=6) {c:Nat} (hc:c<3) (out:List nJ) (ho:out.length<=500):loop (λz=>bd b ((c+1:Nat):Int) z.1 z.2) (0,out)=some (out++qP b c):=by
 obtain⟨v,h1,rfl⟩:=o9 (step:=λz:Int×List nJ=>bd b ((c+1:Nat):Int) z.1 z.2) (λk z=>z.1=(k:Int)/\z.2=out++(b.2.2.2.2.1.take k).map λr=>num [3,((c+1:Nat):Int),r.1] (xY r c)) b.2.2.2.2.1.length (λv=>v=out++qP b c)
  (λk z hk ⟨e1,e2⟩=>by
   obtain⟨i,l⟩:=z;simp only at e1 e2;subst e1;left;have hl:l.length<=900:=by rw[e2];simp;omega
   refine⟨(((k+1:Nat):Int),l++[num [3,((c+1:Nat):Int),b.2.2.2.2.1[k].1] (xY b.2.2.2.2.1[k] c)]),?_,rfl,?_⟩
   · show bd b ((c+1:Nat):Int) (k:Int) l=_;unfold bd;rw[oE (by omega),cT,nX hk,nH];generalize b.2.2.2.2.1[k]=r;have hw:nK (((c+1:Nat):Int)-1)=(c:Int):=by rw[oC (by omega) (by omega)];omega
     have hx:(ix [1,r.2.1,r.2.2].length (nK (((c+1:Nat):Int)-1))).bind (λj91=>([1,r.2.1,r.2.2][j91]?).bind λx92=>(aK x92).bind λt93=>(ay t93 [3,((c+1:Nat):Int),r.1]).bind λt98=>(od l [t98]).bind λzs100=>some (Sum.inl (nK ((k:Int)+1),zs100):(Int×List nJ)⊕List nJ))=(aK (xY r c)).bind λt93=>(ay t93 [3,((c+1:Nat):Int),r.1]).bind λt98=>(od l [t98]).bind λzs100=>some (Sum.inl (nK ((k:Int)+1),zs100)):=by
      rw[hw,ve (show c<[1,r.2.1,r.2.2].length from hc),nH];rcases (show c=0\/c=1\/c=2 by omega)with rfl|rfl|rfl<;>rfl
     rw[hx,yU _ _ _ hl (by simp),nZ (by omega)]
   · show l++[num _ _]=_;rw[e2,take_add_one,List.getElem?_eq_getElem hk,map_append,←append_assoc];rfl)
  (λz ⟨e1,e2⟩=>by
   obtain⟨i,l⟩:=z;simp only at e1 e2;subst e1;rw[take_length]at e2;refine⟨l,?_,e2⟩;show bd b ((c+1:Nat):Int) _ l=_
   unfold bd;rw[oq (by omega),cF]) (x:=(0,out)) ⟨rfl,by simp⟩
 exact h1
theorem Ix {b:nI} (h6:b.2.2.2.2.1.length<=6) (out:List nJ) (ho:out.length<=200):loop (λz=>bu b z.1 z.2) (1,out)=some (out++(List.range 3).flatMap (qP b)):=by
 have hg:∀c,(qP b c).length<=6:=λc=>by unfold qP;rw[length_map];exact h6
 obtain⟨v,h1,rfl⟩:=o9 (step:=λz:Int×List nJ=>bu b z.1 z.2) (λk z=>z.1=((k+1:Nat):Int)/\z.2=out++(List.range k).flatMap (qP b)/\z.2.length<=200+6*k) 3 (λv=>v=out++(List.range 3).flatMap (qP b))
  (λk z hk ⟨e1,e2,e3⟩=>by
   obtain⟨i,l⟩:=z;simp only at e1 e2 e3;subst e1;left;have hg':=hg k
   refine⟨(((k+1+1:Nat):Int),l++qP b k),?_,rfl,?_,by show (l++qP b k).length<=_;rw[length_append];omega⟩
   · show bu b ((k+1:Nat):Int) l=_;unfold bu;rw[dT (show ((k+1:Nat):Int)<=3 by omega),cT,Jk h6 hk l (by omega),nH,nZ (by omega)]
   · show l++qP b k=_;rw[e2,range_succ,List.flatMap_append,←append_assoc];simp)
  (λz ⟨e1,e2,e3⟩=>by
   obtain⟨i,l⟩:=z;simp only at e1 e2 e3;subst e1;exact⟨l,rfl,e2⟩) (x:=(1,out)) ⟨rfl,by simp,by show out.length<=_;omega⟩
 exact h1
theorem Jl {b:nI} (h12:b.2.2.2.1.length<=12) (out:List nJ) (ho:out.length<=500):loop (λz=>aU b z.1 z.2) (0,out)=some (out++wb b):=by
 obtain⟨v,h1,rfl⟩:=o9 (step:=λz:Int×List nJ=>aU b z.1 z.2) (λk z=>z.1=(k:Int)/\z.2=out++(b.2.2.2.1.take k).map λe=>num [4,1,e.1,e.2.1] (nK (e.2.2.1+1))) b.2.2.2.1.length (λv=>v=out++wb b)
  (λk z hk ⟨e1,e2⟩=>by
   obtain⟨i,l⟩:=z;simp only at e1 e2;subst e1;left;have hl:l.length<=900:=by rw[e2];simp;omega
   refine⟨(((k+1:Nat):Int),l++[num [4,1,b.2.2.2.1[k].1,b.2.2.2.1[k].2.1] (nK (b.2.2.2.1[k].2.2.1+1))]),?_,rfl,?_⟩
   · show aU b (k:Int) l=_;unfold aU;rw[oE (by omega),cT,nX hk,nH,yU _ _ _ hl (by simp),nZ (by omega)]
   · show l++[num _ _]=_;rw[e2,take_add_one,List.getElem?_eq_getElem hk,map_append,←append_assoc];rfl)
  (λz ⟨e1,e2⟩=>by
   obtain⟨i,l⟩:=z;simp only at e1 e2;subst e1;rw[take_length]at e2;refine⟨l,?_,e2⟩;show aU b _ l=_
   unfold aU;rw[oq (by omega),cF]) (x:=(0,out)) ⟨rfl,by simp⟩
 exact h1
structure oY (b:nI):Prop where
 w:tB b
 ok:pd b=true
 p:∀x∈b.2.2.1,tz x=true
 id:nN b.1 1 99=true
 name:b.2.1.length<=10
 n1:1<=b.2.2.1.length
 n6:b.2.2.1.length<=6
 f:si b.2.2.2.1=true
 v:qn (b.2.2.2.2.1,b.2.2.2.2.2.1) (b.2.2.1.length:Int)=true
 c:rM b=true
theorem Cu {b:nI} (h:tB b) (hb:pd b=true):oY b:=by
 have hb':=hb;unfold pd at hb;simp only[aT,Bool.not_eq_true',decide_eq_false_iff_not]at hb;obtain⟨h1,h2,h3,h4,h5,h6,h7⟩:=hb;refine⟨h,hb',λx hx=>?_,h2,by omega,?_,?_,h5,h6,h7⟩
 · obtain⟨k,hk,rfl⟩:=getElem_of_mem hx;cases hp:tz b.2.2.1[k]with
   | true=>rfl
   | false =>
    have:=any_eq_false.1 h1 k (mem_range.2 hk);unfold vk at this;simp only[List.getElem?_eq_getElem hk,hp]at this;exact absurd rfl this
 · unfold nN at h4;simp only[aT,decide_eq_true_eq]at h4;omega
 · unfold nN at h4;simp only[aT,decide_eq_true_eq]at h4;omega
theorem oY.vt {b:nI} (h:oY b):VT (b.2.2.2.2.1,b.2.2.2.2.2.1) b.2.2.1.length:=⟨h.v,h.w.r⟩
theorem oY.f12 {b:nI} (h:oY b):b.2.2.2.1.length<=12:=by
 have hf:=h.f;unfold si at hf;simp only[aT,decide_eq_true_eq]at hf;omega
theorem Fo {b:nI} (h:oY b):bf b=some (pV b):=by
 obtain⟨v1,v2,v3,v4⟩:=h.vt.len;have v3':b.2.2.2.2.2.1.length=b.2.2.1.length:=v3
 have v4':b.2.2.2.2.1.length<=6:=v4;have hp:((List.range 4).flatMap (pY b)).length<=24:=by
  have hg:∀c,(pY b c).length<=6:=λc=>by unfold pY;rw[length_map,List.length_range];exact h.n6
  have h0:=hg 0;have h1:=hg 1;have h2:=hg 2;have h3:=hg 3
  show (pY b 0++(pY b 1++(pY b 2++(pY b 3++[])))).length<=24;simp only[length_append,List.length_nil];omega
 have hr:((List.range 3).flatMap (qP b)).length<=18:=by
  have hg:∀c,(qP b c).length<=6:=λc=>by unfold qP;rw[length_map];exact v4'
  have h0:=hg 0;have h1:=hg 1;have h2:=hg 2
  show (qP b 0++(qP b 1++(qP b 2++[]))).length<=18;simp only[length_append,List.length_nil];omega
 have k5:(th b).length=5:=rfl;rw[Hw h.w,h.ok,Bool.not_true,cF];unfold yl;rw[HL h.w v3'.symm h.n6 (th b) (by omega),nH,Ix v4' _ (by rw[length_append];omega),nH,Jl h.f12 _ (by rw[length_append,length_append];omega),nH];rfl

theorem yV {α:Type} {R:α->α->Prop} (tr:∀a b c,R a b->R b c->R a c) {l:List α} (h:∀k (hk:k+1<l.length),R l[k] l[k+1]):l.Pairwise R:=by
 rw[pairwise_iff_getElem];intro i j hi hj hij
 induction j with
 | zero=>omega
 | succ j ih =>
  by_cases e:i=j
  · subst e;exact h i hj
  · exact tr _ _ _ (ih (by omega) (by omega)) (h j hj)
def yW (g c:Int) (x:nJ):Prop:=∃t,x.1=1::3::1::g::c::t
theorem ua {g c g' c':Int} {x y:nJ} (hx:yW g c x) (hy:yW g' c' y) (h:g<g'\/(g=g'/\c<c')):x.1<y.1:=by
 obtain⟨t,ht⟩:=hx;obtain⟨s,hs⟩:=hy;rw[ht,hs];simp only[cons_lt_cons_iff,Int.lt_irrefl,false_or,true_and];rcases h with h|⟨h,k⟩
 · exact .inl h
 · exact .inr ⟨h,.inl k⟩
theorem uJ {b:nI} {c:Nat} {x:nJ} (h:x∈pY b c):yW 2 ((c+1:Nat):Int) x:=by
 unfold pY at h;obtain⟨k,_,rfl⟩:=mem_map.1 h;exact⟨_,rfl⟩
theorem vO {b:nI} {c:Nat} {x:nJ} (h:x∈qP b c):yW 3 ((c+1:Nat):Int) x:=by
 unfold qP at h;obtain⟨k,_,rfl⟩:=mem_map.1 h;exact⟨_,rfl⟩
theorem xZ {b:nI} {x:nJ} (h:x∈wb b):yW 4 1 x:=by
 unfold wb at h;obtain⟨k,_,rfl⟩:=mem_map.1 h;exact⟨_,rfl⟩
theorem y0 {b:nI} {x:nJ} (h:x∈th b):∃c,yW 1 c x:=by
 unfold th at h;simp only[mem_cons,not_mem_nil,or_false]at h;rcases h with rfl|rfl|rfl|rfl|rfl<;>exact⟨_,_,rfl⟩
theorem Dw (b:nI) (c:Nat):(pY b c).Pairwise λx y=>x.1<y.1:=by
 unfold pY;rw[List.pairwise_map];refine List.Pairwise.imp ?_ List.pairwise_lt_range;intro i j h;show (1::3::1::2::((c+1:Nat):Int)::((i+1:Nat):Int)::[])<(1::3::1::2::((c+1:Nat):Int)::((j+1:Nat):Int)::[])
 simp only[cons_lt_cons_iff,Int.lt_irrefl,false_or,true_and];exact .inl (by omega)
theorem Az {b:nI} (h:oY b):b.2.2.2.2.1.Pairwise λr s=>r.1<s.1:=by
 refine yV (R:=λ(r s:nW)=>r.1<s.1) (λ_ _ _ h k=>Int.lt_trans h k) λk hk=>?_;have hv:=h.v
 unfold qn at hv;simp only[aT,Bool.not_eq_true']at hv;have hx:=any_eq_false.1 hv.2.1 (k+1) (mem_range.2 hk)
 unfold tg at hx;simp only[List.getElem?_eq_getElem hk,Nat.add_sub_cancel,List.getElem?_eq_getElem (show k<b.2.2.2.2.1.length by omega),Bool.or_eq_true,aT,decide_eq_true_eq,not_or,not_and]at hx;have:=hx.2.1 (by omega)
 omega
theorem Eq {b:nI} (h:oY b) (c:Nat):(qP b c).Pairwise λx y=>x.1<y.1:=by
 unfold qP;rw[List.pairwise_map];refine List.Pairwise.imp ?_ (Az h);intro r s h;show (1::3::1::3::((c+1:Nat):Int)::r.1::[])<(1::3::1::3::((c+1:Nat):Int)::s.1::[])
 simp only[cons_lt_cons_iff,Int.lt_irrefl,false_or,true_and];exact .inl h
theorem Fp {b:nI} (h:oY b):b.2.2.2.1.Pairwise lt:=by
 refine yV (R:=lt) (λ_ _ _=>lt_trans) λk hk=>?_;have hv:=h.f
 unfold si at hv;simp only[aT,Bool.not_eq_true']at hv;have hx:=any_eq_false.1 hv.1 (k+1) (mem_range.2 hk)
 unfold sk at hx;simp only[List.getElem?_eq_getElem hk,Nat.add_sub_cancel,List.getElem?_eq_getElem (show k<b.2.2.2.1.length by omega),Bool.or_eq_true,aT,decide_eq_true_eq,not_or,not_and,Bool.not_eq_true',Bool.not_eq_false]at hx;have hp:=hx.2 (by omega)
 unfold tA at hp;simp only[Bool.or_eq_true,aT,decide_eq_true_eq,beq_iff_eq]at hp;unfold lt;omega
theorem Fq {b:nI} (h:oY b):(wb b).Pairwise λx y=>x.1<y.1:=by
 unfold wb;rw[List.pairwise_map];refine List.Pairwise.imp ?_ (Fp h);intro r s h;show (1::3::1::4::1::r.1::r.2.1::[])<(1::3::1::4::1::s.1::s.2.1::[])
 unfold lt at h;simp only[cons_lt_cons_iff,Int.lt_irrefl,false_or,true_and];rcases h with h|⟨h,k⟩
 · exact .inl h
 · exact .inr ⟨h,.inl k⟩
theorem Er (b:nI):(th b).Pairwise λx y=>x.1<y.1:=by
 unfold th;simp only[List.pairwise_cons,mem_cons,not_mem_nil,or_false,forall_eq_or_imp,forall_eq,List.Pairwise.nil,and_true,false_imp_iff,implies_true,cons_lt_cons_iff,Int.lt_irrefl,false_or,true_and];refine⟨⟨.inl (by decide),.inl (by decide),.inl (by decide),.inl (by decide)⟩,⟨.inl (by decide),.inl (by decide),.inl (by decide)⟩,⟨.inl (by decide),.inl (by decide)⟩,.inl (by decide)⟩
theorem Iy {α:Type} (f:Nat->List α):(List.range 4).flatMap f=f 0++(f 1++(f 2++(f 3++[]))):=rfl
theorem Iz {α:Type} (f:Nat->List α):(List.range 3).flatMap f=f 0++(f 1++(f 2++[])):=rfl
theorem zJ {n:Nat} {f:Nat->List nJ} {g:Int} (hp:∀c,(f c).Pairwise λx y=>x.1<y.1) (hh:∀c x,x∈f c->yW g ((c+1:Nat):Int) x):((List.range n).flatMap f).Pairwise λx y=>x.1<y.1:=by
 induction n with
 | zero=>exact List.Pairwise.nil
 | succ n ih =>
  rw[range_succ,List.flatMap_append,pairwise_append];refine⟨ih,by simp;exact hp n,λx hx y hy=>?_⟩;obtain⟨c,hc,hx⟩:=mem_flatMap.1 hx;have hc:=mem_range.1 hc
  simp at hy;exact ua (hh c x hx) (hh n y hy) (.inr ⟨rfl,by omega⟩)
theorem Fr {b:nI} (h:oY b):(pV b).Pairwise λx y=>x.1<y.1:=by
 unfold pV;rw[pairwise_append,pairwise_append,pairwise_append];refine⟨⟨⟨Er b,zJ (Dw b) (λc x=>uJ),λx hx y hy=>?_⟩,zJ (Eq h) (λc x=>vO),λx hx y hy=>?_⟩,Fq h,λx hx y hy=>?_⟩
 · obtain⟨c,hc⟩:=y0 hx;obtain⟨d,_,hy⟩:=mem_flatMap.1 hy;exact ua hc (uJ hy) (.inl (by decide))
 · obtain⟨d,_,hy⟩:=mem_flatMap.1 hy;rcases mem_append.1 hx with hx|hx
   · obtain⟨c,hc⟩:=y0 hx;exact ua hc (vO hy) (.inl (by decide))
   · obtain⟨e,_,hx⟩:=mem_flatMap.1 hx;exact ua (uJ hx) (vO hy) (.inl (by decide))
 · rcases mem_append.1 hx with hx|hx
   · rcases mem_append.1 hx with hx|hx
     · obtain⟨c,hc⟩:=y0 hx;exact ua hc (xZ hy) (.inl (by decide))
     · obtain⟨e,_,hx⟩:=mem_flatMap.1 hx;exact ua (uJ hx) (xZ hy) (.inl (by decide))
   · obtain⟨e,_,hx⟩:=mem_flatMap.1 hx;exact ua (vO hx) (xZ hy) (.inl (by decide))
theorem HM (p s t:List Int) {x y:Int} (h:x≠y):(p++x::s<p++y::t)↔x<y:=by
 induction p with
 | nil =>
  simp only[List.nil_append,cons_lt_cons_iff];exact⟨λk=>k.elim id λk=>absurd k.1 h,.inl⟩
 | cons a p ih=>simp only[List.cons_append,cons_lt_cons_iff,ih,Int.lt_irrefl,false_or,true_and]
theorem GA (p:List Int) {s:List Int} (h:s≠[]):p<p++s:=by
 induction p with
 | nil=>cases s with
  | nil=>exact absurd rfl h
  | cons a s=>exact List.nil_lt_cons a s
 | cons a p ih=>simp only[List.cons_append,cons_lt_cons_iff,Int.lt_irrefl,false_or,true_and];exact ih
theorem GB (p s:List Int):¬p++s<p:=by
 induction p with
 | nil=>exact List.not_lt_nil s
 | cons a p ih=>simp only[List.cons_append,cons_lt_cons_iff,Int.lt_irrefl,false_or,true_and];exact ih
theorem FU {a b:List Int} (h:b.length<9223372036854775807):dt a b=some (decide (a<b)):=by
 have hsplit:∀k,a.take k=b.take k->∀(ha:k<a.length) (hb:k<b.length),a=a.take k++a[k]::a.drop (k+1)/\b=a.take k++b[k]::b.drop (k+1):=by
  intro k e ha hb;refine⟨?_,?_⟩
  · rw[←List.drop_eq_getElem_cons ha,take_append_drop]
  · rw[e,←List.drop_eq_getElem_cons hb,take_append_drop]
 obtain⟨v,h1,h2⟩:=o9 (step:=λz=>cz a b z) (λk i=>i=(k:Int)/\a.take k=b.take k) (min a.length b.length) (λv=>(v=.inr (decide (a<b)))\/(v=.inl ()/\decide ((a.length:Int)<(b.length:Int))=decide (a<b)))
  (λk i hk ⟨e,ht⟩=>by
   subst e;have ha:k<a.length:=by omega
   have hb:k<b.length:=by omega
   have hs:cz a b (k:Int)=cond (a[k] != b[k]) (some (.inr (.inr (decide (a[k]<b[k]))))) (some (.inl ((k+1:Nat):Int))):=by
    unfold cz;rw[oE (show (k:Int)<(a.length:Int) by omega),oE (show (k:Int)<(b.length:Int) by omega),cT,nH,cT,nX ha,nH,nX hb,nH,nZ (by omega),nH,nH]
   obtain⟨s1,s2⟩:=hsplit k ht ha hb;by_cases hne:a[k]=b[k]
   · refine .inl ⟨_,by rw[hs,show (a[k] != b[k])=false by simp[hne]];rfl,rfl,?_⟩;rw[take_add_one,take_add_one,List.getElem?_eq_getElem ha,List.getElem?_eq_getElem hb,ht,hne]
   · refine .inr ⟨_,by rw[hs,show (a[k] != b[k])=true from bne_iff_ne.2 hne];rfl,.inl ?_⟩
     congr 1
     apply decide_eq_decide.2;have:=HM (a.take k) (a.drop (k+1)) (b.drop (k+1)) hne
     rw[←s1,←s2]at this;exact this.symm)
  (λi ⟨e,ht⟩=>by
   subst e;refine⟨.inl (),?_,.inr ⟨rfl,?_⟩⟩
   · show cz a b _=_;unfold cz;by_cases h:a.length<=b.length
     · rw[Nat.min_eq_left h,oq (by omega)];rfl
     · rw[Nat.min_eq_right (by omega),oE (by omega),oq (show ¬(b.length:Int)<(b.length:Int) by omega)];rfl
   · apply decide_eq_decide.2;by_cases h:a.length<=b.length
     · rw[Nat.min_eq_left h,take_length]at ht;have hb:b=a++b.drop a.length:=by
        have:=take_append_drop a.length b;rw[←ht]at this;exact this.symm
       constructor
       · intro hlt;have hd:b.drop a.length≠[]:=by
          intro h0;have:=congrArg List.length h0
          rw[List.length_drop]at this;simp at this;omega
         have:=GA a hd;rw[←hb]at this;exact this
       · intro hlt;by_cases he:a.length=b.length
         · have hd:b.drop a.length=[]:=List.drop_eq_nil_of_le (by omega);rw[hd,List.append_nil]at hb;rw[hb]at hlt;exact absurd hlt (List.lt_irrefl _)
         · omega
     · rw[Nat.min_eq_right (by omega),take_length]at ht;have ha:a=b++a.drop b.length:=by
        have:=take_append_drop b.length a;rw[ht]at this;exact this.symm
       constructor
       · intro hlt;omega
       · intro hlt;have:=GB b (a.drop b.length)
         rw[←ha]at this;exact absurd hlt this) (x:=0) ⟨rfl,by simp⟩
 unfold dt;rw[h1,nH];rcases h2 with rfl|⟨rfl,h2⟩
 · rfl
 · show some (decide _)=_;rw[h2]

theorem sO {a b:List Int} (h:b.length<9223372036854775807):am a b=some (a==b):=by
 unfold am;by_cases hl:a.length=b.length
 · have e:((a.length:Int) != (b.length:Int))=false:=by rw[hl];simp
   rw[e,cF];obtain⟨v,h1,rfl⟩:=o9 (step:=λz=>ck a b z) (λk i=>i=(k:Int)/\a.take k=b.take k) a.length (λv=>v=cond (a==b) (.inl ()) (.inr false))
    (λk i hk ⟨e,ht⟩=>by
     subst e;have hb:k<b.length:=by omega
     have hs:ck a b (k:Int)=cond (a[k] != b[k]) (some (.inr (.inr false))) (some (.inl ((k+1:Nat):Int))):=by
      unfold ck;rw[oE (by omega),cT,nX hk,nH,nX hb,nH,nZ (by omega)]
     by_cases hne:a[k]=b[k]
     · refine .inl ⟨_,by rw[hs,show (a[k] != b[k])=false by simp[hne]];rfl,rfl,?_⟩;rw[take_add_one,take_add_one,List.getElem?_eq_getElem hk,List.getElem?_eq_getElem hb,ht,hne]
     · refine .inr ⟨_,by rw[hs,show (a[k] != b[k])=true from bne_iff_ne.2 hne];rfl,?_⟩;have:(a==b)=false:=by
        apply beq_eq_false_iff_ne.2;intro hab;subst hab;exact hne rfl
       rw[this];rfl)
    (λi ⟨e,ht⟩=>by
     subst e;have hab:a=b:=by
      rw[take_length,List.take_of_length_le (by omega)]at ht;exact ht
     exact⟨.inl (),by show ck a b _=_;unfold ck;rw[oq (by omega),cF],by rw[show (a==b)=true from beq_iff_eq.2 hab];rfl⟩) (x:=0) ⟨rfl,by simp⟩
   rw[h1,nH];cases (a==b)<;>rfl
 · have e:((a.length:Int) != (b.length:Int))=true:=by simp;omega
   have hne:(a==b)=false:=beq_eq_false_iff_ne.2 λh=>hl (by rw[h]);rw[e,cT,hne]
theorem BI {v:qB} (h:v.2.2.2.length<9223372036854775807):ar v v=some true:=by
 unfold ar;rw[sO h];simp
structure Nm (o:List Int):Prop where
 n1:1<=o.length
 n10:o.length<=10
 e:∀x∈o,nN x 0 100000=true
theorem Nm.ok {o:List Int} (h:Nm o):ak o=some true:=by
 have h10:=h.n10;have h1:=h.n1
 unfold ak;obtain⟨v,e,rfl⟩:=o9 (step:=λz=>aD o z) (λk i=>i=(k:Int)) o.length (λv=>v=.inl ())
  (λk i hk e=>by
   subst e;refine .inl ⟨((k+1:Nat):Int),?_,rfl⟩;show aD o (k:Int)=_
   unfold aD;rw[oE (by omega),cT,nX hk,nH,ra,nH,h.e _ (getElem_mem hk),nZ (by omega)];rfl)
  (λi e=>by
   subst e;exact⟨.inl (),by show aD o _=_;unfold aD;rw[oq (by omega),cF],rfl⟩) (x:=0) rfl
 rw[e,nH];show ((ae (o.length:Int) 1 10).bind λt=>some t)=_
 rw[ra,nH];unfold nN;rw[dT (by omega),dT (by omega)];rfl
inductive Vl:qB->Prop
 | num {n:Int} (h:nN n (-2147483648) 2147483647=true):Vl (2,n,[],[])
 | word {s:List UInt8} (h:s.length<=20):Vl (4,0,s,[])
theorem Vl.ok {v:qB} (h:Vl v):ao v=some true:=by
 cases h with
 | num h =>
  unfold ao av ar;simp only[ra,h,nH,sO (show ([]:List Int).length<9223372036854775807 by decide)];simp
 | word h =>
  rename_i s;have hd:decide ((s.length:Int)<=20)=true:=dT (by omega)
  unfold ao ar;simp only[hd,nH,sO (show ([]:List Int).length<9223372036854775807 by decide)];simp
theorem Vl.k {v:qB} (h:Vl v):(v.1==128)=false:=by cases h<;>rfl
theorem Vl.o {v:qB} (h:Vl v):v.2.2.2=[]:=by cases h<;>rfl
theorem y4 {n:Int} (h1:0<=n) (h2:n<=2147483647):nN n (-2147483648) 2147483647=true:=by unfold nN;rw[dT (by omega),dT (by omega)];rfl
theorem tS {n a c:Int} (h1:a<=n) (h2:n<=c):nN n a c=true:=by unfold nN;rw[dT (by omega),dT (by omega)];rfl
theorem xq {n a c:Int} (h:nN n a c=true):a<=n/\n<=c:=by
 unfold nN at h;simp only[aT,decide_eq_true_eq]at h;exact h
theorem HN {v:oy} (hn:v.1.length<9223372036854775807) {id r:Int} (h:al v id=some r) (h0:¬r<0):∃x∈v.1,x.1=id:=by
 unfold al at h;obtain⟨b,h1,h2⟩:=o9 (β:=Unit⊕Int) (step:=λz=>ax v id z) (λk i=>i=(k:Int)) v.1.length (λb=>∀r,b=.inr r->∃x∈v.1,x.1=id)
  (λk i hk h=>by
   subst h;unfold ax;rw[oE (by omega),cT,nX hk,nH];cases hb:(v.1[k].1==id)with
   | true=>exact .inr ⟨_,rfl,λr hr=>⟨_,getElem_mem hk,eq_of_beq hb⟩⟩
   | false=>exact .inl ⟨_,rfl,nZ (by omega)⟩)
  (λi h=>by
   subst h;unfold ax;rw[oq (by omega)];exact⟨_,rfl,λr hr=>by cases hr⟩) (x:=0) rfl
 rw[h1,nH]at h;cases b with
 | inl _=>cases h;exact absurd (by decide) h0
 | inr r'=>exact h2 r' rfl
theorem GC {id:Int} {l:List Pt} {p v:Int} (h:aG id l p=some v):1<=v/\v<=4:=by
 unfold aG at h;rw[ra,nH]at h;have key:∀(o:Option Bool) (f:Bool->Option Int),(∀t x,f t=some x->1<=x/\x<=4)->o.bind f=some v->1<=v/\v<=4:=by
  intro o f hf h;cases o with
  | none=>cases h
  | some t=>exact hf t v h
 refine key _ _ (λt x hx=>?_) h;cases t with
 | true=>cases hx;decide
 | false =>
  rw[cF]at hx;cases hbv:bb id l with
  | none=>rw[hbv]at hx;cases hx
  | some w =>
   rw[hbv,nH]at hx;cases hw:w.2==p with
   | true=>rw[hw]at hx;cases hx;decide
   | false =>
    rw[hw,cF]at hx;cases ha:at? l p with
    | none=>rw[ha]at hx;cases hx
    | some y =>
     rw[ha,nH]at hx
     revert hx
     generalize (cond (!y.2.2.1) _ _:Option Bool)=o;intro hx;cases o with
     | none=>cases hx
     | some t=>cases t<;>(cases hx;decide)
theorem Cv {b:nI} (h:oY b) {r:nW} (hr:r∈b.2.2.2.2.1):(1<=r.1/\r.1<=99)/\(0<=r.2.1/\r.2.1<=63)/\(0<=r.2.2/\r.2.2<=63):=by
 obtain⟨k,hk,rfl⟩:=getElem_of_mem hr;have hv:=h.v
 unfold qn at hv;simp only[aT,Bool.not_eq_true',Bool.or_eq_false_iff,Bool.not_eq_false']at hv;have hx:=any_eq_false.1 hv.2.1 k (mem_range.2 hk)
 unfold tg at hx;simp only[List.getElem?_eq_getElem hk,Bool.or_eq_true,Bool.not_eq_true',not_or,Bool.not_eq_false]at hx;obtain⟨x1,_,x3,x4⟩:=hx;have ht:=AN (i:=(b.2.2.1.length:Int)) hv.1.1
 have y1:=xq x1;have y3:=xq x3
 have x4:(vP .i64 b.2.2.2.2.1[k].2.2 b.2.2.2.2.1[k].2.1 != 0)=false:=by simpa using x4
 refine⟨y1,by omega,?_⟩;have hI:=h.w.r _ (getElem_mem hk)
 have hband:=xq (Cp hI.1 hI.2 x3 ht.2 (by rw[Ax hI.1 hI.2];exact x4));omega
theorem GD {b:nI} (h:oY b) {x:Int} (hx:x∈b.2.2.2.2.2.1):1<=x/\x<=99:=by
 obtain⟨k,hk,rfl⟩:=getElem_of_mem hx;have hv:=h.v
 have hn:b.2.2.2.2.1.length<9223372036854775807:=h.w.v;unfold qn at hv;simp only[aT,Bool.not_eq_true']at hv;have hq:=any_eq_false.1 hv.2.2 k (mem_range.2 hk)
 unfold uI at hq;simp only[List.getElem?_eq_getElem hk]at hq;obtain⟨r,hr⟩:=En (v:=(b.2.2.2.2.1,b.2.2.2.2.2.1)) hn b.2.2.2.2.2.1[k];rw[hr]at hq;simp only[decide_eq_true_eq]at hq;obtain⟨y,hy,e⟩:=HN (v:=(b.2.2.2.2.1,b.2.2.2.2.2.1)) hn hr hq;have:=(Cv h (r:=y) hy).1
 rw[e]at this;exact this
theorem Ft {b:nI} (h:oY b) (c:Int) {k:Nat} (hk:k<b.2.2.1.length):0<=xd b c (k:Int)/\xd b c (k:Int)<=1000:=by
 have v3:b.2.2.2.2.2.1.length=b.2.2.1.length:=h.vt.len.2.2.1;have hkq:k<b.2.2.2.2.2.1.length:=by omega
 obtain⟨r,hr⟩:=Do b.1 h.w.p (k:Int);have hr2:=GC hr
 have hp:=h.p _ (getElem_mem hk);unfold tz at hp;simp only[aT]at hp;have hc:=xq hp.1
 have hq:=GD h (getElem_mem hkq);unfold xd br dk;rw[nX hk,nX hkq,hr];simp only[nH];cases (c==1)with
 | true =>
  cases b.2.2.1[k].1 with
  | true=>show (0:Int)<=1/\(1:Int)<=1000;decide
  | false=>show (0:Int)<=0/\(0:Int)<=1000;decide
 | false =>
  cases (c==2)with
  | true=>show 0<=b.2.2.1[k].2.1/\b.2.2.1[k].2.1<=1000;omega
  | false =>
   cases (c==3)with
   | true=>show 0<=r/\r<=1000;omega
   | false=>show 0<=b.2.2.2.2.2.1[k]/\b.2.2.2.2.2.1[k]<=1000;omega
theorem HO {b:nI} (h:oY b) {e:nO} (he:e∈b.2.2.2.1):(1<=e.1/\e.1<=99)/\(1<=e.2.1/\e.2.1<=9999)/\(0<=e.2.2.1/\e.2.2.1<=7):=by
 obtain⟨k,hk,rfl⟩:=getElem_of_mem he;have hv:=h.f
 unfold si at hv;simp only[aT,Bool.not_eq_true']at hv;have hx:=any_eq_false.1 hv.1 k (mem_range.2 hk)
 unfold sk at hx;simp only[List.getElem?_eq_getElem hk,Bool.or_eq_true,Bool.not_eq_true',not_or,Bool.not_eq_false]at hx;have hf:=hx.1
 unfold rX at hf;simp only[aT]at hf;exact⟨xq hf.1,xq hf.2.1,xq hf.2.2.1⟩
theorem Es {b:nI} (h:oY b):(0<=b.2.2.2.2.2.2.1/\b.2.2.2.2.2.2.1<=1000000)/\(0<=b.2.2.2.2.2.2.2.1/\b.2.2.2.2.2.2.2.1<=1000000)/\(0<=b.2.2.2.2.2.2.2.2.1/\b.2.2.2.2.2.2.2.2.1<=1000000)/\(0<=b.2.2.2.2.2.2.2.2.2.1/\b.2.2.2.2.2.2.2.2.2.1<=1000000)/\(0<=b.2.2.2.2.2.2.2.2.2.2/\b.2.2.2.2.2.2.2.2.2.2<=1000000):=by
 have hc:=h.c;unfold rM at hc;simp only[aT]at hc;exact⟨xq hc.1,xq hc.2.1,xq hc.2.2.1,xq hc.2.2.2.1,xq hc.2.2.2.2⟩
theorem BJ {a b:Int} (ha:0<=a/\a<=100000) (hb:0<=b/\b<=100000):Nm [1,3,1,a,b]:=⟨by simp,by simp,λx hx=>by
 simp only[mem_cons,not_mem_nil,or_false]at hx;rcases hx with rfl|rfl|rfl|rfl|rfl
 · decide
 · decide
 · decide
 · exact tS ha.1 ha.2
 · exact tS hb.1 hb.2⟩
theorem AA {a b c:Int} (ha:0<=a/\a<=100000) (hb:0<=b/\b<=100000) (hc:0<=c/\c<=100000):Nm [1,3,1,a,b,c]:=⟨by simp,by simp,λx hx=>by
 simp only[mem_cons,not_mem_nil,or_false]at hx;rcases hx with rfl|rfl|rfl|rfl|rfl|rfl
 · decide
 · decide
 · decide
 · exact tS ha.1 ha.2
 · exact tS hb.1 hb.2
 · exact tS hc.1 hc.2⟩
theorem IS {a b c d:Int} (ha:0<=a/\a<=100000) (hb:0<=b/\b<=100000) (hc:0<=c/\c<=100000) (hd:0<=d/\d<=100000):Nm [1,3,1,a,b,c,d]:=⟨by simp,by simp,λx hx=>by
 simp only[mem_cons,not_mem_nil,or_false]at hx;rcases hx with rfl|rfl|rfl|rfl|rfl|rfl|rfl
 · decide
 · decide
 · decide
 · exact tS ha.1 ha.2
 · exact tS hb.1 hb.2
 · exact tS hc.1 hc.2
 · exact tS hd.1 hd.2⟩
theorem ub {b:nI} (h:oY b):∀x∈pV b,Nm x.1/\Vl x.2:=by
 intro x hx;obtain⟨t1,t2,t3,t4,_⟩:=Es h;have hn6:=h.n6
 unfold pV at hx;simp only[mem_append]at hx;rcases hx with ((hx|hx)|hx)|hx
 · unfold th at hx;simp only[mem_cons,not_mem_nil,or_false]at hx;have hname:=h.name
   rcases hx with rfl|rfl|rfl|rfl|rfl
   · exact⟨BJ (by decide) (by decide),.word (by omega)⟩
   · exact⟨BJ (by decide) (by decide),.num (y4 t1.1 (by omega))⟩
   · exact⟨BJ (by decide) (by decide),.num (y4 t2.1 (by omega))⟩
   · exact⟨BJ (by decide) (by decide),.num (y4 t3.1 (by omega))⟩
   · exact⟨BJ (by decide) (by decide),.num (y4 t4.1 (by omega))⟩
 · obtain⟨c,hc,hx⟩:=mem_flatMap.1 hx;have hc:=mem_range.1 hc
   unfold pY at hx;obtain⟨k,hk,rfl⟩:=mem_map.1 hx;have hk:=mem_range.1 hk
   have hp:=Ft h ((c+1:Nat):Int) hk;exact⟨AA (by decide) (by omega) (by omega),.num (y4 hp.1 (by omega))⟩
 · obtain⟨c,hc,hx⟩:=mem_flatMap.1 hx;have hc:=mem_range.1 hc
   unfold qP at hx;obtain⟨r,hr,rfl⟩:=mem_map.1 hx;obtain⟨r1,r2,r3⟩:=Cv h hr;refine⟨AA (by decide) (by omega) (by omega),.num ?_⟩;unfold xY;split
   · decide
   · exact y4 r2.1 (by omega)
   · exact y4 r3.1 (by omega)
 · unfold wb at hx;obtain⟨e,he,rfl⟩:=mem_map.1 hx;obtain⟨e1,e2,e3⟩:=HO h he;refine⟨IS (by decide) (by decide) (by omega) (by omega),.num ?_⟩;rw[oC (by omega) (by omega)];exact y4 (by omega) (by omega)
theorem Cw {b:nI} (h:oY b):(pV b).length=5+4*b.2.2.1.length+3*b.2.2.2.2.1.length+b.2.2.2.1.length:=by
 have hp:∀c,(pY b c).length=b.2.2.1.length:=λc=>by unfold pY;rw[length_map,List.length_range]
 have hr:∀c,(qP b c).length=b.2.2.2.2.1.length:=λc=>by unfold qP;rw[length_map]
 have hf:(wb b).length=b.2.2.2.1.length:=by unfold wb;rw[length_map]
 have k5:(th b).length=5:=rfl;unfold pV;rw[Iy,Iz];simp only[length_append,List.length_nil,hp,hr,hf,k5];omega
theorem BK {b:nI} (h:oY b):(pV b).length<=59:=by
 have h1:=Cw h;have h2:=h.n6
 have h3:b.2.2.2.2.1.length<=6:=h.vt.len.2.2.2;have h4:=h.f12
 omega
theorem Jm {b:nI} (h:oY b) {o:List Int} (ho:o.length<9223372036854775807):∃v,bg b o=some v/\((∃x∈pV b,x.1=o/\v=x.2)\/((∀x∈pV b,x.1≠o)/\v=(128,0,[],[]))):=by
 have hle:=BK h;obtain⟨v,h1,h2⟩:=o9 (step:=λz:Int×Int×Int×List UInt8×List Int=>aV o (pV b) z.1 z.2.1 z.2.2.1 z.2.2.2.1 z.2.2.2.2) (λk z=>z=((k:Int),0,0,[],[])/\∀x∈(pV b).take k,x.1≠o) (pV b).length (λv=>(∃x∈pV b,x.1=o/\v=.inr x.2)\/((∀x∈pV b,x.1≠o)/\∃u,v=.inl u))
  (λk z hk ⟨e,hx⟩=>by
   subst e;have hs:aV o (pV b) (k:Int) 0 0 [] []=cond ((pV b)[k].1==o) (some (.inr (.inr (pV b)[k].2))) (some (.inl (((k+1:Nat):Int),0,0,[],[]))):=by
    unfold aV;rw[oE (by omega),cT,nX hk,nH,sO ho,nH,nZ (by omega)]
   show (∃y,aV o (pV b) (k:Int) 0 0 [] []=_/\_)\/(∃v,aV o (pV b) (k:Int) 0 0 [] []=_/\_);rw[hs];cases hb:((pV b)[k].1==o)with
   | true=>exact .inr ⟨_,rfl,.inl ⟨_,getElem_mem hk,eq_of_beq hb,rfl⟩⟩
   | false =>
    refine .inl ⟨_,rfl,rfl,λx hx'=>?_⟩;rw[take_add_one,List.getElem?_eq_getElem hk,mem_append]at hx';rcases hx' with hx'|hx'
    · exact hx x hx'
    · simp at hx';subst hx';exact beq_eq_false_iff_ne.1 hb)
  (λz ⟨e,hx⟩=>by
   subst e;rw[take_length]at hx;refine⟨.inl (0,0,[],[]),?_,.inr ⟨hx,_,rfl⟩⟩;show aV o (pV b) _ 0 0 [] []=_
   unfold aV;rw[oq (by omega),cF]) (x:=(0,0,0,[],[])) ⟨rfl,by simp⟩
 unfold bg;rw[Fo h,nH,h1,nH];rcases h2 with ⟨x,hx,e,rfl⟩|⟨hx,u,rfl⟩
 · exact⟨_,rfl,.inl ⟨x,hx,e,rfl⟩⟩
 · exact⟨_,rfl,.inr ⟨hx,rfl⟩⟩

theorem HP {c:ob} (h:CW c):∃c' o,aR c=some (c',o)/\CW c'/\Nm o:=by
 obtain⟨c0,m,e0,w0,hm⟩:=qX h (n:=6) (by decide);have e0':aa c 6=some (c0,(m:Int)):=e0
 obtain⟨d,hd,g1,g2,g3⟩:=o9 (step:=λz:Int×List Int×Int×Int×List Int=>ch z.1 z.2.1 z.2.2.1 z.2.2.2.1 z.2.2.2.2) (λk z=>z.1=((m+1:Nat):Int)-(k:Int)/\CW (z.2.1,z.2.2.1,z.2.2.2.1)/\z.2.2.2.2.length=k/\∀x∈z.2.2.2.2,nN x 0 100000=true) (m+1) (λd=>CW (d.1,d.2.1,d.2.2.1)/\d.2.2.2.length=m+1/\∀x∈d.2.2.2,nN x 0 100000=true)
  (λk z hk ⟨a1,a2,a3,a4⟩=>by
   obtain⟨i,x,y,s,l⟩:=z;simp only at a1 a2 a3 a4;left;show ∃y',ch i x y s l=_/\_
   unfold ch;have hi:decide (i>0)=true:=dT (by omega)
   have hw:nK (i-1)=((m+1:Nat):Int)-((k+1:Nat):Int):=by rw[oC (by omega) (by omega)];omega
   obtain⟨c1,r1,e1,w1,b1⟩:=xb a2 (l:=[0,1,2,3,127,128,16384,100000]) (by decide);have hr:nN r1 0 100000=true:=by
    have:∀x∈([0,1,2,3,127,128,16384,100000]:List Int),nN x 0 100000=true:=by decide
    exact this r1 b1
   rw[hi,cT,e1,nH];show ∃y',((od l [r1]).bind _)=_/\_
   rw[nP (by show l.length+1<=_;omega),nH,hw];refine⟨_,rfl,rfl,w1,by show (l++[r1]).length=_;rw[length_append,a3];rfl,λx hx=>?_⟩;have hx:x∈l++[r1]:=hx
   simp at hx;rcases hx with hx|rfl
   · exact a4 x hx
   · exact hr)
  (λz ⟨a1,a2,a3,a4⟩=>by
   obtain⟨i,x,y,s,l⟩:=z;simp only at a1 a2 a3 a4;refine⟨(x,y,s,l),?_,a2,a3,a4⟩;show ch i x y s l=_
   unfold ch;have hi:decide (i>0)=false:=dF (by omega)
   rw[hi,cF]) (x:=(((m+1:Nat):Int),c0.1,c0.2.1,c0.2.2,[])) ⟨by simp,w0,rfl,λx hx=>absurd hx not_mem_nil⟩
 have hw:nK (1+(m:Int))=((m+1:Nat):Int):=by rw[oC (by omega) (by omega)];omega
 unfold aR;rw[e0',nH];show ∃c' o,((loop _ (nK (1+(m:Int)),c0.1,c0.2.1,c0.2.2,[])).bind _)=_/\_
 rw[hw,hd,nH];exact⟨_,_,rfl,g1,by omega,by omega,g3⟩
theorem Jy {a:Int} (ha:0<=a/\a<=100000):Nm [1,3,1,a]:=⟨by simp,by simp,λx hx=>by
 simp only[mem_cons,not_mem_nil,or_false]at hx;rcases hx with rfl|rfl|rfl|rfl
 · decide
 · decide
 · decide
 · exact tS ha.1 ha.2⟩
theorem ym (l:List Int) (h:l.length<=100):ac l=some ([1,3,1]++l):=by
 unfold ac;rw[nP (by show 3+l.length<=_;omega)];rfl
theorem IA {c:ob} (h:CW c) {b:nI} (hb:oY b):∃c' o,ap c b=some (c',o)/\CW c'/\Nm o:=by
 have hm:5<=(pV b).length:=by rw[Cw hb];omega
 have hle:=BK hb;unfold ap;rw[yT hb.w,Fo hb,nH,dT (show ((pV b).length:Int)>0 by omega),cT];obtain⟨c1,st,e1,w1⟩:=AQ h 4;rw[e1,nH];show ∃c' o,cond (!st) _ _=_/\_
 cases st with
 | false =>
  obtain⟨c2,k,e2,w2,hk⟩:=qX w1 (n:=(pV b).length) (by omega);have hn:=(ub hb _ (getElem_mem hk)).1
  have h10:=hn.n10;rw[Bool.not_false,cT,e2,nH];show ∃c' o,((ix (pV b).length (k:Int)).bind _)=_/\_
  rw[ve hk,nH,List.getElem?_eq_getElem hk,nH,nP (by show 0+_<=_;omega),nH];exact⟨_,_,rfl,w2,hn⟩
 | true =>
  obtain⟨c2,r,e2,w2,_⟩:=rN w1 8;rw[Bool.not_true,cF,e2,nH];show ∃c' o,cond (r==0) _ (cond (r==1) _ (cond (r==2) _ (cond (r==3) _ (cond (r==4) _ (cond (r==5) _ (cond (r==6) _ _))))))=_/\_
  cases r==0 with
  | true=>exact⟨_,_,rfl,w2,⟨by decide,by decide,by decide⟩⟩
  | false =>
  cases r==1 with
  | true=>exact⟨_,_,rfl,w2,⟨by decide,by decide,by decide⟩⟩
  | false =>
  cases r==2 with
  | true=>rw[ym _ (by decide)];exact⟨_,_,rfl,w2,AA (by decide) (by decide) (by decide)⟩
  | false =>
  cases r==3 with
  | true =>
   obtain⟨c3,k,e3,w3,hk⟩:=qX w2 (n:=9) (by decide);have e3':aa c2 9=some (c3,(k:Int)):=e3
   show ∃c' o,((aa c2 9).bind _)=_/\_;rw[e3',nH,ym _ (by simp),nH];refine⟨_,_,rfl,w3,?_⟩;show Nm [1,3,1,3,1,nK (1+(k:Int))]
   rw[oC (by omega) (by omega)];exact AA (by decide) (by decide) (by omega)
  | false =>
  cases r==4 with
  | true=>rw[ym _ (by decide)];exact⟨_,_,rfl,w2,BJ (by decide) (by decide)⟩
  | false =>
  cases r==5 with
  | true=>rw[ym _ (by decide)];exact⟨_,_,rfl,w2,Jy (by decide)⟩
  | false =>
  cases r==6 with
  | true=>rw[ym _ (by decide)];exact⟨_,_,rfl,w2,IS (by decide) (by decide) (by decide) (by decide)⟩
  | false =>
   obtain⟨c3,o,e3,w3,hn⟩:=HP w2;show ∃c' o,((aR c2).bind _)=_/\_
   rw[e3,nH];exact⟨_,_,rfl,w3,hn⟩
structure At (m:List nJ) (o:List Int) (j:Nat):Prop where
 le:j<=m.length
 no:∀i (hi:i<m.length),i<j->¬o<m[i].1
 yes:∀i (hi:i<m.length),j<=i->o<m[i].1
theorem IB {m:List nJ} (hp:m.Pairwise λx y=>x.1<y.1) (o:List Int):∃j,At m o j:=by
 have hp:=pairwise_iff_getElem.1 hp;have key:∀n,n<=m.length->(∀i (hi:i<m.length),i<n->¬o<m[i].1)\/∃j,At m o j:=by
  intro n
  induction n with
  | zero=>exact λ_=>.inl λi hi h=>by omega
  | succ n ih =>
   intro hn;rcases ih (by omega)with h|h
   · by_cases hlt:o<m[n].1
     · refine .inr ⟨n,by omega,h,λi hi hni=>?_⟩;by_cases e:i=n
       · subst e;exact hlt
       · exact List.lt_trans hlt (hp n i (by omega) hi (by omega))
     · refine .inl λi hi hin=>?_;by_cases e:i=n
       · subst e;exact hlt
       · exact h i hi (by omega)
   · exact .inr h
 rcases key m.length (Nat.le_refl _)with h|h
 · exact⟨m.length,Nat.le_refl _,λi hi _=>h i hi hi,λi hi h=>by omega⟩
 · exact h
theorem IC {b:nI} (h:oY b) {o:List Int} (ho:o.length<=1000) {j:Nat} (hj:At (pV b) o j):aM b o=some (if h:j<(pV b).length then (pV b)[j]else (o,130,0,[],[])):=by
 have hle:=BK h;have hjl:=hj.le
 obtain⟨v,h1,h2⟩:=o9 (step:=λz:Int×Int×Int×List UInt8×List Int×List Int=>bv o (pV b) z.1 z.2.1 z.2.2.1 z.2.2.2.1 z.2.2.2.2.1 z.2.2.2.2.2) (λk z=>z=((k:Int),0,0,[],[],[])) j (λv=>if h:j<(pV b).length then v=.inr (pV b)[j]else ∃u,v=.inl u)
  (λk z hk e=>by
   subst e;have hkl:k<(pV b).length:=by omega
   have hn:=(ub h _ (getElem_mem hkl)).1.n10;refine .inl ⟨(((k+1:Nat):Int),0,0,[],[],[]),?_,rfl⟩;show bv o (pV b) (k:Int) 0 0 [] [] []=_
   unfold bv;rw[oE (by omega),cT,nX hkl,nH,FU (by omega),dF (hj.no k hkl hk),nH,cF,nZ (by omega)])
  (λz e=>by
   subst e;show ∃v,bv o (pV b) (j:Int) 0 0 [] [] []=_/\_
   unfold bv;by_cases hjn:j<(pV b).length
   · have hn:=(ub h _ (getElem_mem hjn)).1.n10;rw[oE (by omega),cT,nX hjn,nH,FU (by omega),dT (hj.yes j hjn (Nat.le_refl _)),nH,cT];exact⟨_,rfl,by rw[dif_pos hjn]⟩
   · rw[oq (by omega),cF];exact⟨_,rfl,by rw[dif_neg hjn];exact⟨_,rfl⟩⟩) (x:=(0,0,0,[],[],[])) rfl
 unfold aM;rw[Fo h,nH,h1,nH];by_cases hjn:j<(pV b).length
 · rw[dif_pos hjn]at h2;rw[dif_pos hjn,h2];rfl
 · rw[dif_neg hjn]at h2;obtain⟨u,rfl⟩:=h2;rw[dif_neg hjn];show ((aL o).bind _)=_
   unfold aL;rw[nP (by show 0+o.length<=_;omega)];rfl
theorem rf {α:Type} {ys:List α} (h:ys.length<=M):od [] ys=some ys:=by
 unfold od;rw[if_pos (by show 0+ys.length<=4294967296;have h':ys.length<=1048576:=h;omega)];rfl
theorem xe {l:List Int} (h:l.length<=M):aL l=some l:=by unfold aL;rw[rf h];rfl
theorem Et {l:List Int} (h:l.length<=M):da l=some l:=by unfold da;rw[rf h];rfl
theorem GE {l:List nO} (h:l.length<=M):ei l=some l:=by unfold ei;rw[rf h];rfl
theorem Fu {l:List nO} (h:l.length<=M):bn l=some l:=by unfold bn;rw[rf h];rfl
theorem yX {v:oy} (h:v.1.length<=M/\v.2.length<=M):cA v=some v:=by
 unfold cA;rw[rf h.1,nH,xe h.2];rfl
theorem Eu {v:oy} (h:v.1.length<=M/\v.2.length<=M):aA v=some v:=by
 unfold aA;rw[rf h.1,nH,rf h.2];rfl
theorem tT {b:nI} (h:vj M b):aH b=some b:=by
 obtain⟨h1,h2,h3,h4,h5⟩:=h;unfold aH;rw[rf h2,nH,GE h3,nH,yX ⟨h4,h5⟩];rfl
theorem sc {b:nI} (h:vj M b):aJ b=some b:=by
 obtain⟨h1,h2,h3,h4,h5⟩:=h;unfold aJ;rw[rf h2,nH,Fu h3,nH,Eu ⟨h4,h5⟩];rfl
def A5 (o:List Int) (k:Nat):Bool:=match o[k]? with|some x=>!(nN x 0 100000)|none=>false
def qC (o:List Int):Bool:=!((List.range o.length).any (A5 o))&&nN (o.length:Int) 1 10
theorem yY {o:List Int} (h:o.length<9223372036854775807):ak o=some (qC o):=by
 unfold ak qC;have e:loop (λz=>aD o z) 0=some (cond ((List.range o.length).any (A5 o)) (Sum.inr false) (Sum.inl ())):=by
  rw[←rB (n:=o.length) (c:=λi=>(at? o i).bind λx=>(ae x 0 100000).bind λt=>some (!t)) (b:=A5 o) h (λk hk=>by
   simp only[nX hk,nH,A5,List.getElem?_eq_getElem hk,ra])]
  refine q7 (λi=>?_) 0;unfold aD;simp only[Option.bind_assoc,nH]
 rw[e,nH];cases (List.range o.length).any (A5 o)with
 | true=>rfl
 | false=>simp only[cF,Sum.elim_inl,ra,nH,Bool.not_false,Bool.true_and]
theorem Fv:bx=ak:=rfl
theorem FV (n:Int):∃c,aq n=some c/\(c==n)=nN n (-2147483648) 2147483647:=by
 unfold aq nN;by_cases h1:n>2147483647
 · refine⟨_,by rw[dT h1];rfl,?_⟩;rw[dF (show ¬n<=2147483647 by omega),Bool.and_false];exact beq_eq_false_iff_ne.2 (by omega)
 · by_cases h2:n < -2147483648
   · refine⟨_,by rw[dF h1,dT h2];rfl,?_⟩;rw[dF (show ¬n >= -2147483648 by omega),Bool.false_and];exact beq_eq_false_iff_ne.2 (by omega)
   · refine⟨_,by rw[dF h1,dF h2];rfl,?_⟩;rw[dT (show n >= -2147483648 by omega),dT (show n<=2147483647 by omega),beq_self_eq_true];rfl
theorem GF (l:List Int):am l []=some ((l.length:Int)==0):=by
 cases l with
 | nil=>exact E7 (n:=0) (Bz (a:=[]) (by decide))
 | cons x l =>
  unfold am;have e:(((x::l).length:Int) != (([]:List Int).length:Int))=true:=by simp;omega
  rw[e,cT,beq_eq_false_iff_ne.2 (by simp;omega)]
theorem Fw {l:List Int} (h:l.length<=M):am l l=some true:=E7 (Bz (J6 h))
def qj (v:qB):Bool :=
 cond (v.1==5||(v.1==128||v.1==130)) (v.2.1==0&&(v.2.2.1==[]&&((v.2.2.2.length:Int)==0)))
  (cond (v.1==2) (nN v.2.1 (-2147483648) 2147483647&&(v.2.2.1==[]&&((v.2.2.2.length:Int)==0)))
   (cond (v.1==4) (decide ((v.2.2.1.length:Int)<=20)&&(v.2.1==0&&((v.2.2.2.length:Int)==0)))
    (cond (v.1==6) (qC v.2.2.2&&(v.2.1==0&&(v.2.2.1==[]))) false)))
theorem Fx {v:qB} (h:v.2.2.2.length<=M):ao v=some (qj v):=by
 obtain⟨k,n,s,o⟩:=v;have h':o.length<=1048576:=h
 have ho:o.length<=M:=h;have hb:o.length<9223372036854775807:=by omega
 unfold ao qj ar av;simp only[ra,GF,Fw ho,yY hb,nH];by_cases h2:k=2
 · subst h2;cases nN n (-2147483648) 2147483647<;>cases s==[]<;>cases (o.length:Int)==0<;>simp
 by_cases h4:k=4
 · subst h4;cases decide ((s.length:Int)<=20)<;>cases n==0<;>cases (o.length:Int)==0<;>simp
 by_cases h6:k=6
 · subst h6;cases qC o<;>cases n==0<;>cases s==[]<;>simp
 rw[beq_eq_false_iff_ne.2 h2,beq_eq_false_iff_ne.2 h4,beq_eq_false_iff_ne.2 h6];by_cases h5:k=5
 · subst h5;cases n==0<;>cases s==[]<;>cases (o.length:Int)==0<;>simp
 by_cases h128:k=128
 · subst h128;cases n==0<;>cases s==[]<;>cases (o.length:Int)==0<;>simp
 by_cases h130:k=130
 · subst h130;cases n==0<;>cases s==[]<;>cases (o.length:Int)==0<;>simp
 rw[beq_eq_false_iff_ne.2 h5,beq_eq_false_iff_ne.2 h128,beq_eq_false_iff_ne.2 h130];rfl
theorem HQ {v:qB} (h:v.2.2.2.length<=M):cG v=some (qj v):=by
 obtain⟨k,n,s,o⟩:=v;have h':o.length<=1048576:=h
 have hb:o.length<9223372036854775807:=by omega
 obtain⟨c,hc,hc2⟩:=FV n;unfold cG qj;simp only[Fv,yY hb,hc,hc2,nH];by_cases h5:k=5
 · subst h5;cases n==0<;>cases s==[]<;>cases (o.length:Int)==0<;>simp
 by_cases h128:k=128
 · subst h128;cases n==0<;>cases s==[]<;>cases (o.length:Int)==0<;>simp
 by_cases h130:k=130
 · subst h130;cases n==0<;>cases s==[]<;>cases (o.length:Int)==0<;>simp
 rw[beq_eq_false_iff_ne.2 h5,beq_eq_false_iff_ne.2 h128,beq_eq_false_iff_ne.2 h130];by_cases h2:k=2
 · subst h2;cases nN n (-2147483648) 2147483647<;>cases s==[]<;>cases (o.length:Int)==0<;>simp
 by_cases h4:k=4
 · subst h4;cases decide ((s.length:Int)<=20)<;>cases n==0<;>cases (o.length:Int)==0<;>simp
 by_cases h6:k=6
 · subst h6;cases qC o<;>cases n==0<;>cases s==[]<;>simp
 rw[beq_eq_false_iff_ne.2 h2,beq_eq_false_iff_ne.2 h4,beq_eq_false_iff_ne.2 h6];rfl
def qK (x:nJ):Bool:=qC x.1&&qj x.2
def bX (l:List nJ) (k:Nat):Bool:=match l[k]? with|some x=>!(qK x)|none=>false
def pK (p:oe):Bool :=
 (!((List.range p.2.2.2.2.length).any (bX p.2.2.2.2))&&decide ((p.2.2.2.2.length:Int)<=10)) &&
 (cond (p.1==162||p.1==165) (nN p.2.2.1 0 1000&&nN p.2.2.2.1 0 1000)
  (cond (p.1==160||(p.1==161||p.1==163)) (p.2.2.1==0&&p.2.2.2.1==0) false)&&nN p.2.1 (-2147483648) 2147483647)
theorem HR {n:Nat} {f g:Nat->Bool}:(List.range n).any (λk=>f k||g k)=((List.range n).any f||(List.range n).any g):=by
 generalize List.range n=l
 induction l with
 | nil=>rfl
 | cons a l ih=>simp only[List.any_cons,ih];cases f a<;>cases g a<;>simp
theorem GG (n:Nat):(List.range n).any (λk=>decide ((k:Int)>=10))=!(decide ((n:Int)<=10)):=by
 by_cases h:(n:Int)<=10
 · rw[dT h];refine Bool.eq_false_iff.2 λha=>?_;obtain⟨k,h1,h2⟩:=any_eq_true.1 ha;have:=mem_range.1 h1
   have:=of_decide_eq_true h2;omega
 · rw[dF h];exact any_eq_true.2 ⟨10,mem_range.2 (by omega),by decide⟩
theorem Fy {p:oe} (h:tQ M p):loop (λz=>ea p z) 0=some (cond (!(decide ((p.2.2.2.2.length:Int)<=10))||(List.range p.2.2.2.2.length).any (bX p.2.2.2.2)) (Sum.inr false) (Sum.inl ())):=by
 obtain⟨k,i,e,x,l⟩:=p;have h':wa M l:=h
 have hl:l.length<=1048576:=h'.1;show loop (λz=>ea (k,i,e,x,l) z) 0=some (cond (!(decide ((l.length:Int)<=10))||(List.range l.length).any (bX l)) (Sum.inr false) (Sum.inl ()))
 rw[←GG,←HR,←rB (n:=l.length) (c:=λi=>(at? l i).bind λx=>(cond (decide (i>=10)) (some true) ((ak x.1).bind λt=>some (!t))).bind λt=>(cond t (some true) ((ao x.2).bind λt=>some (!t)))) (b:=λk=>decide ((k:Int)>=10)||bX l k) (by omega) (λk hk=>by
  have hx:xW M l[k]:=h'.2 _ (getElem_mem hk);have h1:l[k].1.length<=1048576:=hx.1
  have h2:l[k].2.2.2.2.length<=M:=hx.2.2;simp only[nX hk,nH,bX,List.getElem?_eq_getElem hk,yY (show l[k].1.length<9223372036854775807 by omega),Fx (v:=l[k].2) h2,qK];cases decide ((k:Int)>=10)<;>cases qC l[k].1<;>cases qj l[k].2<;>rfl)]
 refine q7 (λi=>?_) 0;unfold ea;simp only[Option.bind_assoc,nH]
theorem Ew {p:oe} (h:tQ M p):loop (λz=>eD p z) 0=some (cond ((List.range p.2.2.2.2.length).any (bX p.2.2.2.2)) (Sum.inr false) (Sum.inl ())):=by
 obtain⟨k,i,e,x,l⟩:=p;have h':wa M l:=h
 have hl:l.length<=1048576:=h'.1;show loop (λz=>eD (k,i,e,x,l) z) 0=some (cond ((List.range l.length).any (bX l)) (Sum.inr false) (Sum.inl ()))
 rw[←rB (n:=l.length) (c:=λi=>(at? l i).bind λx=>(bx x.1).bind λt=>(cond (!t) (some true) ((at? l i).bind λx=>(cG x.2).bind λt=>some (!t)))) (b:=bX l) (by omega) (λk hk=>by
  have hx:xW M l[k]:=h'.2 _ (getElem_mem hk);have h1:l[k].1.length<=1048576:=hx.1
  have h2:l[k].2.2.2.2.length<=M:=hx.2.2;simp only[nX hk,nH,bX,List.getElem?_eq_getElem hk,Fv,yY (show l[k].1.length<9223372036854775807 by omega),HQ (v:=l[k].2) h2,qK];cases qC l[k].1<;>cases qj l[k].2<;>rfl)]
 refine q7 (λi=>?_) 0;unfold eD;simp only[Option.bind_assoc,nH]
theorem Fz {p:oe} (h:tQ M p):cl p=some (pK p):=by
 have e0:=Fy h;have e1:loop (λz=>gT p z) 0=_:=e0
 have e2:loop (λz=>gU p z) 0=_:=e0;have e3:loop (λz=>gV p z) 0=_:=e0
 have e4:loop (λz=>gW p z) 0=_:=e0;have e5:loop (λz=>gX p z) 0=_:=e0
 have e6:loop (λz=>gY p z) 0=_:=e0;have e7:loop (λz=>gZ p z) 0=_:=e0
 have e8:loop (λz=>hC p z) 0=_:=e0;unfold cl pK av;rw[e0,e1,e2,e3,e4,e5,e6,e7,e8];simp only[ra,nH];generalize (List.range p.2.2.2.2.length).any (bX p.2.2.2.2)=u;generalize decide ((p.2.2.2.2.length:Int)<=10)=w;generalize nN p.2.1 (-2147483648) 2147483647=x;generalize p.2.2.1=e;generalize p.2.2.2.1=i;generalize p.1=k;by_cases h0:k=160
 · subst h0;have b1:(e != 0)=!(e==0):=rfl
   have b2:(i != 0)=!(i==0):=rfl;rw[b1,b2];cases e==0<;>cases i==0<;>cases u<;>cases w<;>cases x<;>rfl
 by_cases h1:k=161
 · subst h1;have b1:(e != 0)=!(e==0):=rfl
   have b2:(i != 0)=!(i==0):=rfl;rw[b1,b2];cases e==0<;>cases i==0<;>cases u<;>cases w<;>cases x<;>rfl
 by_cases h3:k=163
 · subst h3;have b1:(e != 0)=!(e==0):=rfl
   have b2:(i != 0)=!(i==0):=rfl;rw[b1,b2];cases e==0<;>cases i==0<;>cases u<;>cases w<;>cases x<;>rfl
 by_cases h2:k=162
 · subst h2;cases nN e 0 1000<;>cases nN i 0 1000<;>cases u<;>cases w<;>cases x<;>rfl
 by_cases h5:k=165
 · subst h5;cases nN e 0 1000<;>cases nN i 0 1000<;>cases u<;>cases w<;>cases x<;>rfl
 rw[beq_eq_false_iff_ne.2 h0,beq_eq_false_iff_ne.2 h1,beq_eq_false_iff_ne.2 h2,beq_eq_false_iff_ne.2 h3,beq_eq_false_iff_ne.2 h5];cases u<;>cases w<;>rfl
theorem HS {p:oe} (h:tQ M p):dC p=some (pK p):=by
 obtain⟨c,hc,hc2⟩:=FV p.2.1;unfold dC pK fp;rw[Ew h];simp only[tV,hc,hc2,nH];generalize (List.range p.2.2.2.2.length).any (bX p.2.2.2.2)=u;generalize decide ((p.2.2.2.2.length:Int)<=10)=w;generalize nN p.2.1 (-2147483648) 2147483647=x;generalize p.2.2.1=e;generalize p.2.2.2.1=i;generalize p.1=k;have b1:(e != 0)=!(e==0):=rfl
 have b2:(i != 0)=!(i==0):=rfl;rw[b1,b2];have z1:(e==0)=true->nN e 0 1000=true:=λh=>by rw[eq_of_beq h];rfl
 have z2:(i==0)=true->nN i 0 1000=true:=λh=>by rw[eq_of_beq h];rfl
 by_cases h2:k=162
 · subst h2;cases nN e 0 1000<;>cases nN i 0 1000<;>cases u<;>cases w<;>cases x<;>rfl
 by_cases h5:k=165
 · subst h5;cases nN e 0 1000<;>cases nN i 0 1000<;>cases u<;>cases w<;>cases x<;>rfl
 have n2:(k != 162)=true:=bne_iff_ne.2 h2;have n5:(k != 165)=true:=bne_iff_ne.2 h5
 rw[n2,n5,beq_eq_false_iff_ne.2 h2,beq_eq_false_iff_ne.2 h5];cases he:e==0 with
 | false=>cases hi:i==0<;>cases u<;>cases w<;>cases x<;>cases k==160<;>cases k==161<;>cases k==163<;>rfl
 | true =>
  rw[z1 he];cases hi:i==0 with
  | false=>cases u<;>cases w<;>cases x<;>cases k==160<;>cases k==161<;>cases k==163<;>rfl
  | true =>
   rw[z2 hi];cases u<;>cases w<;>cases x<;>cases k==160<;>cases k==161<;>cases k==163<;>rfl
theorem AB {α:Type} {l:List α} {step:Int×List α->Option ((Int×List α)⊕List α)} (hn:l.length<=M)
 (hs:∀k (hk:k<l.length) out,step ((k:Int),out)=(od out [l[k]]).bind λzs=>some (.inl (((k+1:Nat):Int),zs)))
 (he:∀out,step ((l.length:Int),out)=some (.inr out)):loop step (0,[])=some l:=by
 have hn':l.length<=1048576:=hn;obtain⟨b,h1,rfl⟩:=o9 (step:=step) (λk z=>z=((k:Int),l.take k)) l.length (λb=>b=l)
  (λk z hk e=>by
   subst e;left;refine⟨_,by rw[hs k hk,nP (by rw[List.length_take];show _+1<=_;omega),nH],?_⟩;rw[take_add_one,List.getElem?_eq_getElem hk];rfl)
  (λz e=>by
   subst e;exact⟨_,he _,by rw[take_length]⟩) (x:=(0,[])) rfl
 exact h1
theorem GH {v:qB} (h:IO M v):eA v=some v:=by unfold eA;rw[xe h.2];rfl
theorem Ex {l:List nJ} (h:wa M l):eB l=some l:=by
 have hn:l.length<=1048576:=h.1;unfold eB;rw[AB (step:=λz=>cE l z.1 z.2) h.1 (λk hk out=>by
  show cE l (k:Int) out=_;unfold cE;have hx:=h.2 _ (getElem_mem hk)
  rw[oE (by omega),cT,nX hk,nH,xe hx.1,nH,GH hx.2,nH,nZ (by omega)]) (λout=>by
  show cE l (l.length:Int) out=_;unfold cE;rw[oq (by omega),cF])];rfl
theorem zK {l:List nJ} (h:wa M l):dE l=some l:=by
 have hn:l.length<=1048576:=h.1;unfold dE;rw[AB (step:=λz=>cI l z.1 z.2) h.1 (λk hk out=>by
  show cI l (k:Int) out=_;unfold cI;have hx:=h.2 _ (getElem_mem hk)
  rw[oE (by omega),cT,nX hk,nH,rf hx.2.2,nH,nH,rf hx.1,nH,nZ (by omega)]) (λout=>by
  show cI l (l.length:Int) out=_;unfold cI;rw[oq (by omega),cF])];rfl
theorem uc {n:Nat} {step:Int->Option (Int⊕(Unit⊕Bool))} (h:∀k,k<n->step (k:Int)=some (.inl ((k+1:Nat):Int))) (he:step (n:Int)=some (.inr (.inl ()))):loop step 0=some (.inl ()):=by
 obtain⟨v,e,rfl⟩:=o9 (step:=step) (λk i=>i=(k:Int)) n (λv=>v=.inl ()) (λk i hk e=>by subst e;exact .inl ⟨_,h k hk,rfl⟩) (λi e=>by subst e;exact⟨_,he,rfl⟩) (x:=0) rfl;exact e
def pD (l:List nW) (id:Int):Int:=match l.findIdx? (λr=>r.1==id)with|some k=>(k:Int)|none=>-1
theorem y5 {v:oy} (hn:v.1.length<9223372036854775807) (id:Int):al v id=some (pD v.1 id):=by
 unfold al pD;obtain⟨b,h1,rfl⟩:=o9 (β:=Unit⊕Int) (step:=λz=>ax v id z) (λk i=>i=(k:Int)/\∀j (hj:j<k),∀(hl:j<v.1.length),¬((v.1[j].1==id)=true)) v.1.length (λb=>b=match v.1.findIdx? (λr=>r.1==id)with|some k=>.inr (k:Int)|none=>.inl ())
  (λk i hk ⟨h,hy⟩=>by
   subst h;unfold ax;rw[oE (by omega),cT,nX hk,nH];cases hb:(v.1[k].1==id)with
   | true =>
    refine .inr ⟨_,rfl,?_⟩;rw[List.findIdx?_eq_some_iff_getElem.2 ⟨hk,hb,λj hj=>hy j hj (by omega)⟩]
   | false =>
    refine .inl ⟨_,rfl,nZ (by omega),λj hj hl=>?_⟩;by_cases hjk:j=k
    · subst hjk;rw[hb];simp
    · exact hy j (by omega) hl)
  (λi ⟨h,hy⟩=>by
   subst h;refine⟨.inl (),by unfold ax;rw[oq (by omega),cF],?_⟩;rw[List.findIdx?_eq_none_iff.2 λx hx=>by
    obtain⟨j,hj,rfl⟩:=getElem_of_mem hx;have:=hy j hj hj
    simpa using this]) (x:=0) ⟨rfl,λj hj=>by omega⟩
 rw[h1,nH];cases v.1.findIdx? (λr=>r.1==id)<;>rfl
theorem GI {v:oy} (hn:v.1.length<9223372036854775807) (id:Int):aP v id=some (pD v.1 id):=y5 hn id
theorem uK {l:List nW} {id:Int} (h:0<=pD l id):∃k,∃hk:k<l.length,pD l id=(k:Int)/\l[k].1=id:=by
 unfold pD at h ⊢;cases hf:l.findIdx? (λr=>r.1==id)with
 | none=>rw[hf]at h;simp at h
 | some k =>
  obtain⟨hk,h1,_⟩:=List.findIdx?_eq_some_iff_getElem.1 hf;exact⟨k,hk,rfl,by simpa using h1⟩
theorem Dx {l:List nW} {id:Int} (h:pD l id<0):∀x∈l,x.1≠id:=by
 unfold pD at h;cases hf:l.findIdx? (λr=>r.1==id)with
 | some k=>rw[hf]at h;simp at h;omega
 | none =>
  intro x hx;have:=List.findIdx?_eq_none_iff.1 hf x hx
  simpa using this
def yn (l:List nO) (tag mac:Int):Int:=match l.findIdx? (λe=>e.1==tag&&e.2.1==mac)with|some k=>(k:Int)|none=>-1
theorem HT {l:List nO} (hn:l.length<9223372036854775807) (tag mac:Int):eq l tag mac=some (yn l tag mac):=by
 unfold eq yn;obtain⟨b,h1,rfl⟩:=o9 (β:=Unit⊕Int) (step:=λz=>bP l tag mac z) (λk i=>i=(k:Int)/\∀j (hj:j<k),∀(hl:j<l.length),¬((l[j].1==tag&&l[j].2.1==mac)=true)) l.length (λb=>b=match l.findIdx? (λe=>e.1==tag&&e.2.1==mac)with|some k=>.inr (k:Int)|none=>.inl ())
  (λk i hk ⟨h,hy⟩=>by
   subst h;have hs:bP l tag mac (k:Int)=cond (l[k].1==tag&&l[k].2.1==mac) (some (.inr (.inr (k:Int)))) (some (.inl ((k+1:Nat):Int))):=by
    unfold bP;simp only[oE (show (k:Int)<(l.length:Int) by omega),cT,nX hk,nH,nZ (show k<9223372036854775807 by omega)];cases l[k].1==tag<;>rfl
   show (∃y,bP l tag mac (k:Int)=some (.inl y)/\_)\/∃b,bP l tag mac (k:Int)=some (.inr b)/\_;rw[hs];cases hb:(l[k].1==tag&&l[k].2.1==mac)with
   | true =>
    refine .inr ⟨_,rfl,?_⟩;rw[List.findIdx?_eq_some_iff_getElem.2 ⟨hk,hb,λj hj=>hy j hj (by omega)⟩]
   | false =>
    refine .inl ⟨_,rfl,rfl,λj hj hl=>?_⟩;by_cases hjk:j=k
    · subst hjk;rw[hb];simp
    · exact hy j (by omega) hl)
  (λi ⟨h,hy⟩=>by
   subst h;refine⟨.inl (),by unfold bP;rw[oq (by omega),cF],?_⟩;rw[List.findIdx?_eq_none_iff.2 λx hx=>by
    obtain⟨j,hj,rfl⟩:=getElem_of_mem hx;have:=hy j hj hj
    simpa using this]) (x:=0) ⟨rfl,λj hj=>by omega⟩
 rw[h1,nH];cases l.findIdx? (λe=>e.1==tag&&e.2.1==mac)<;>rfl
theorem GJ {l:List nO} (hn:l.length<9223372036854775807) (tag mac:Int):bo l tag mac=some (yn l tag mac):=by
 unfold bo yn;obtain⟨b,h1,rfl⟩:=o9 (β:=Unit⊕Int) (step:=λz=>aB l tag mac z) (λk i=>i=(k:Int)/\∀j (hj:j<k),∀(hl:j<l.length),¬((l[j].1==tag&&l[j].2.1==mac)=true)) l.length (λb=>b=match l.findIdx? (λe=>e.1==tag&&e.2.1==mac)with|some k=>.inr (k:Int)|none=>.inl ())
  (λk i hk ⟨h,hy⟩=>by
   subst h;have hs:aB l tag mac (k:Int)=cond (l[k].1==tag&&l[k].2.1==mac) (some (.inr (.inr (k:Int)))) (some (.inl ((k+1:Nat):Int))):=by
    unfold aB;simp only[oE (show (k:Int)<(l.length:Int) by omega),cT,nX hk,nH,nZ (show k<9223372036854775807 by omega)];cases l[k].1==tag<;>rfl
   show (∃y,aB l tag mac (k:Int)=some (.inl y)/\_)\/∃b,aB l tag mac (k:Int)=some (.inr b)/\_;rw[hs];cases hb:(l[k].1==tag&&l[k].2.1==mac)with
   | true =>
    refine .inr ⟨_,rfl,?_⟩;rw[List.findIdx?_eq_some_iff_getElem.2 ⟨hk,hb,λj hj=>hy j hj (by omega)⟩]
   | false =>
    refine .inl ⟨_,rfl,rfl,λj hj hl=>?_⟩;by_cases hjk:j=k
    · subst hjk;rw[hb];simp
    · exact hy j (by omega) hl)
  (λi ⟨h,hy⟩=>by
   subst h;refine⟨.inl (),by unfold aB;rw[oq (by omega),cF],?_⟩;rw[List.findIdx?_eq_none_iff.2 λx hx=>by
    obtain⟨j,hj,rfl⟩:=getElem_of_mem hx;have:=hy j hj hj
    simpa using this]) (x:=0) ⟨rfl,λj hj=>by omega⟩
 rw[h1,nH];cases l.findIdx? (λe=>e.1==tag&&e.2.1==mac)<;>rfl

def pA (o:List Int) (lo hi:Int) (head:List Int):Bool:=(o.length==head.length+4)&&((o.take (head.length+3)==[1,3,1]++head)&&(match o[head.length+3]? with|some x=>nN x lo hi|none=>false))
theorem xf {o:List Int} (lo hi:Int) {head:List Int} (ho:o.length<=M) (hh:head.length<=100):aI o lo hi head=some (pA o lo hi head):=by
 have ho':o.length<=1048576:=ho;have hw:nK ((head.length:Int)+4)=((head.length+4:Nat):Int):=by rw[oC (by omega) (by omega)];omega
 unfold aI pA;rw[hw];by_cases hl:o.length=head.length+4
 · have hw2:nK ((o.length:Int)-1)=((head.length+3:Nat):Int):=by rw[oC (by omega) (by omega)];omega
   have hc:cut o 0 ((head.length+3:Nat):Int)=some (o.take (head.length+3)):=by
    rw[show (0:Int)=((0:Nat):Int)from rfl,qY (Nat.zero_le _) (by omega),List.drop_zero]
   have hlt:head.length+3<o.length:=by omega
   rw[show ((o.length:Int)==((head.length+4:Nat):Int))=true from beq_iff_eq.2 (by omega),cT,hw2,hc,nH,nP (by show 3+head.length<=_;omega),nH,sO (by rw[length_append];show 3+head.length<_;omega),nH,nX hlt,nH,ra,nH,List.getElem?_eq_getElem hlt];rw[show (o.length==head.length+4)=true from beq_iff_eq.2 hl];cases (o.take (head.length+3)==[1,3,1]++head)<;>rfl
 · rw[show ((o.length:Int)==((head.length+4:Nat):Int))=false from beq_eq_false_iff_ne.2 (by omega),cF,show (o.length==head.length+4)=false from beq_eq_false_iff_ne.2 hl];rfl
abbrev q9 (b:nI):Int:=(b.2.2.1.length:Int)
abbrev r9 (b:nI):List nW:=b.2.2.2.2.1
def Dy (b:nI) (o:List Int):Bool:=pA o 1 1 [1]||(pA o 1 (q9 b) [2,2]||(pA o 1 (q9 b) [2,4]||(pA o 1 99 [3,1]||((pA o 1 99 [3,2]||pA o 1 99 [3,3])&&(match o[5]? with|some x=>decide (pD (r9 b) x>=0)|none=>false)))))
theorem BL {o:List Int} {lo hi:Int} {head:List Int} (h:pA o lo hi head=true):o.length=head.length+4:=by
 unfold pA at h;simp only[aT,beq_iff_eq]at h;exact h.1
theorem Jn {b:nI} (hb:vj M b) {o:List Int} (ho:o.length<=M):em b o=some (Dy b o):=by
 have hr:b.2.2.2.2.1.length<9223372036854775807:=by have:b.2.2.2.2.1.length<=1048576:=hb.2.2.2.1;omega
 unfold em Dy;rw[xf 1 1 ho (by decide),xf 1 _ ho (by decide),xf 1 _ ho (by decide),xf 1 99 ho (by decide),xf 1 99 ho (by decide),xf 1 99 ho (by decide)];simp only[nH];cases pA o 1 1 [1]with
 | true=>rfl
 | false =>
 cases pA o 1 (q9 b) [2,2]with
 | true=>rfl
 | false =>
 cases pA o 1 (q9 b) [2,4]with
 | true=>rfl
 | false =>
 cases pA o 1 99 [3,1]with
 | true=>rfl
 | false =>
 have key:o.length=6->((at? o 5).bind λx41=>(al (b.2.2.2.2.1,b.2.2.2.2.2.1) x41).bind λt43=>some (decide (t43>=0)))=some (match o[5]? with|some x=>decide (pD (r9 b) x>=0)|none=>false):=by
  intro h6;have h5:5<o.length:=by omega
  rw[show (5:Int)=((5:Nat):Int)from rfl,nX h5,nH,y5 hr,nH,List.getElem?_eq_getElem h5]
 cases h2:pA o 1 99 [3,2]with
 | true =>
  simp only[cF,cT,nH,Bool.false_or,Bool.true_or,Bool.true_and];rw[key (BL h2)];rfl
 | false =>
  cases h3:pA o 1 99 [3,3]with
  | true =>
   simp only[cF,cT,nH,Bool.false_or,Bool.or_true,Bool.true_and];rw[key (BL h3)];rfl
  | false=>rfl
def AR (b:nI) (o:List Int):Bool:=pA o 2 5 [1]||(pA o 1 (q9 b) [2,1]||(pA o 1 (q9 b) [2,3]||(((o.length==7)&&(o.take 5==[1,3,1,4,1]))&&(match o[5]?,o[6]? with|some x,some y=>decide (yn b.2.2.2.1 x y>=0)|_,_=>false))))
theorem ID {b:nI} (hb:vj M b) {o:List Int} (ho:o.length<=M):es b o=some (AR b o):=by
 have hr:b.2.2.2.1.length<9223372036854775807:=by have:b.2.2.2.1.length<=1048576:=hb.2.2.1;omega
 unfold es AR;rw[xf 2 5 ho (by decide),xf 1 _ ho (by decide),xf 1 _ ho (by decide)];simp only[nH];cases pA o 2 5 [1]with
 | true=>rfl
 | false =>
 cases pA o 1 (q9 b) [2,1]with
 | true=>rfl
 | false =>
 cases pA o 1 (q9 b) [2,3]with
 | true=>rfl
 | false =>
 by_cases h7:o.length=7
 · have h5:5<o.length:=by omega
   have h6:6<o.length:=by omega
   have hc:cut o 0 5=some (o.take 5):=by
    rw[show (0:Int)=((0:Nat):Int)from rfl,show (5:Int)=((5:Nat):Int)from rfl,qY (Nat.zero_le _) (by omega),List.drop_zero]
   rw[show ((o.length:Int)==7)=true from beq_iff_eq.2 (by omega),show (o.length==7)=true from beq_iff_eq.2 h7];simp only[cF,cT,nH,hc,sO (show ([1,3,1,4,1]:List Int).length<9223372036854775807 by decide),Bool.false_or,Bool.true_and];cases (o.take 5==[1,3,1,4,1])with
   | false=>rfl
   | true =>
    rw[show (5:Int)=((5:Nat):Int)from rfl,show (6:Int)=((6:Nat):Int)from rfl];simp only[cT,nX h5,nX h6,nH,HT hr,List.getElem?_eq_getElem h5,List.getElem?_eq_getElem h6,Bool.true_and]
 · rw[show ((o.length:Int)==7)=false from beq_eq_false_iff_ne.2 (by omega),show (o.length==7)=false from beq_eq_false_iff_ne.2 h7];rfl

def ud (o:List Int):Bool:=decide (o.length>3)&&(o.take 3==[1,3,1])
theorem HU {o:List Int} (ho:o.length<=M):dG o=some (cond (ud o) (o.drop 3,true) ([],false)):=by
 have ho':o.length<=1048576:=ho;unfold dG ft ud;by_cases h:o.length>3
 · have hc:cut o 0 ((([1,3,1]:List Int).length:Nat):Int)=some (o.take 3):=by
    rw[show (0:Int)=((0:Nat):Int)from rfl,qY (Nat.zero_le _) (by show 3<=_;omega),List.drop_zero];rfl
   have hc2:cut o 3 (o.length:Int)=some (o.drop 3):=by
    rw[show (3:Int)=((3:Nat):Int)from rfl,qY (by omega) (Nat.le_refl _),take_length]
   have hs:bV (o.take 3) [1,3,1]=some (o.take 3==[1,3,1]):=sO (a:=o.take 3) (b:=[1,3,1]) (by decide);rw[dT (show (o.length:Int)>(([1,3,1]:List Int).length:Int) by show (o.length:Int)>3;omega),cT,hc,nH,hs,dT h];simp only[nH,Bool.true_and];cases (o.take 3==[1,3,1])with
   | false=>rfl
   | true=>simp only[Bool.not_true,cF,cT,hc2,nH]
 · rw[dF (show ¬(o.length:Int)>(([1,3,1]:List Int).length:Int) by show ¬(o.length:Int)>3;omega),dF h];rfl
def yZ (b:nI) (o:List Int):Bool:=ud o&&(match o.drop 3 with
 | [a,c]=>a==1&&c==1
 | [a,c,p]=>(a==2&&((c==2||c==4)&&nN p 1 (q9 b)))||(a==3&&((c==1&&nN p 1 99)||((c==2||c==3)&&decide (pD (r9 b) p>=0))))
 | _=>false)
theorem Jo {b:nI} (hb:vj M b) {o:List Int} (ho:o.length<=M):eI b o=some (yZ b o):=by
 have hr:b.2.2.2.2.1.length<9223372036854775807:=by have:b.2.2.2.2.1.length<=1048576:=hb.2.2.2.1;omega
 unfold eI yZ;rw[HU ho,nH];cases ud o with
 | false=>rfl
 | true =>
  simp only[cT,Bool.not_true,cF,Bool.true_and]
  match o.drop 3 with
  | []=>rfl
  | [a]=>rfl
  | [a,c] =>
   rw[show (([a,c].length:Int)==2)=true from rfl,cT,show at? [a,c] 0=some a from rfl,show at? [a,c] 1=some c from rfl];simp only[nH];cases a==1<;>rfl
  | [a,c,p] =>
   rw[show (([a,c,p].length:Int)==2)=false from rfl,cF,show (([a,c,p].length:Int) != 3)=false from rfl,cF,show at? [a,c,p] 0=some a from rfl,show at? [a,c,p] 1=some c from rfl,show at? [a,c,p] 2=some p from rfl];simp only[nH,tV,GI (v:=(b.2.2.2.2.1,b.2.2.2.2.2.1)) hr];by_cases h2:a=2
   · subst h2;cases c==2<;>cases c==4<;>simp
   · by_cases h3:a=3
     · subst h3;cases c==1<;>cases c==2<;>cases c==3<;>cases nN p 1 99<;>simp
     · rw[show (a==2)=false from beq_eq_false_iff_ne.2 h2,show (a==3)=false from beq_eq_false_iff_ne.2 h3];rfl
  | a::c::p::q::l =>
   simp only[List.length_cons];rw[show ((((l.length+1+1+1+1:Nat):Int))==2)=false from beq_eq_false_iff_ne.2 (by omega),show ((((l.length+1+1+1+1:Nat):Int)) != 3)=true from bne_iff_ne.2 (by omega)];rfl
def zL (b:nI) (o:List Int):Bool:=ud o&&(match o.drop 3 with
 | [a,c]=>a==1&&nN c 2 5
 | [a,c,p]=>a==2&&((c==1||c==3)&&nN p 1 (q9 b))
 | [a,c,p,q]=>(a==4&&c==1)&&decide (yn b.2.2.2.1 p q>=0)
 | _=>false)
theorem IE {b:nI} (hb:vj M b) {o:List Int} (ho:o.length<=M):eJ b o=some (zL b o):=by
 have hr:b.2.2.2.1.length<9223372036854775807:=by have:b.2.2.2.1.length<=1048576:=hb.2.2.1;omega
 unfold eJ zL;rw[HU ho,nH];cases ud o with
 | false=>rfl
 | true =>
  simp only[cT,Bool.not_true,cF,Bool.true_and]
  match o.drop 3 with
  | []=>rfl
  | [a]=>rfl
  | [a,c] =>
   rw[show (([a,c].length:Int)==2)=true from rfl,cT,show at? [a,c] 0=some a from rfl,show at? [a,c] 1=some c from rfl];simp only[nH,tV];cases a==1<;>rfl
  | [a,c,p] =>
   rw[show (([a,c,p].length:Int)==2)=false from rfl,cF,show (([a,c,p].length:Int)==3)=true from rfl,cT,show at? [a,c,p] 0=some a from rfl,show at? [a,c,p] 1=some c from rfl,show at? [a,c,p] 2=some p from rfl];simp only[nH,tV];cases a==2<;>cases c==1<;>cases c==3<;>simp
  | [a,c,p,q] =>
   rw[show (([a,c,p,q].length:Int)==2)=false from rfl,cF,show (([a,c,p,q].length:Int)==3)=false from rfl,cF,show (([a,c,p,q].length:Int)==4)=true from rfl,cT,show at? [a,c,p,q] 0=some a from rfl,show at? [a,c,p,q] 1=some c from rfl,show at? [a,c,p,q] 2=some p from rfl,show at? [a,c,p,q] 3=some q from rfl];simp only[nH,GJ hr];cases a==4<;>cases c==1<;>simp
  | a::c::p::q::r::l =>
   simp only[List.length_cons];rw[show ((((l.length+1+1+1+1+1:Nat):Int))==2)=false from beq_eq_false_iff_ne.2 (by omega),show ((((l.length+1+1+1+1+1:Nat):Int))==3)=false from beq_eq_false_iff_ne.2 (by omega),show ((((l.length+1+1+1+1+1:Nat):Int))==4)=false from beq_eq_false_iff_ne.2 (by omega)];rfl

structure rO (b:nI):Prop where
 id:nN b.1 1 99=true
 name:b.2.1.length<=10
 n1:1<=b.2.2.1.length
 n6:b.2.2.1.length<=6
 p:∀x∈b.2.2.1,tz x=true
 f:si b.2.2.2.1=true
 c:rM b=true
 q:b.2.2.2.2.2.1.length=b.2.2.1.length
 v:b.2.2.2.2.1.length<=6
 s:b.2.2.2.2.1.Pairwise λr s=>r.1<s.1
 i:∀r∈b.2.2.2.2.1,nN r.1 1 99=true
 h:∀r∈b.2.2.2.2.1,-9223372036854775808<=r.2.2/\r.2.2<=9223372036854775807
theorem rO.f12 {b:nI} (h:rO b):b.2.2.2.1.length<=12:=by
 have hf:=h.f;unfold si at hf;simp only[aT,decide_eq_true_eq]at hf;omega
theorem rO.le {b:nI} (h:rO b):vj M b:=by
 have h1:=h.name;have h2:=h.n6;have h3:=h.f12;have h4:=h.v;have h5:=h.q
 have hM:M=1048576:=rfl;exact⟨by omega,by omega,by omega,by omega,by omega⟩
theorem oY.sok {b:nI} (h:oY b):rO b:=by
 obtain⟨v1,v2,v3,v4⟩:=h.vt.len;refine⟨h.id,h.name,h.n1,h.n6,h.p,h.f,h.c,v3,v4,Az h,λr hr=>?_,h.w.r⟩;obtain⟨k,hk,rfl⟩:=getElem_of_mem hr;have hv:=h.v
 unfold qn at hv;simp only[aT,Bool.not_eq_true']at hv;have hx:=any_eq_false.1 hv.2.1 k (mem_range.2 hk)
 unfold tg at hx;simp only[List.getElem?_eq_getElem hk]at hx;cases hq:nN b.2.2.2.2.1[k].1 1 99 with
 | true=>rfl
 | false=>rw[hq]at hx;simp at hx
theorem s5 {o:List Int} (h:o.length<=2):(∀lo hi head,pA o lo hi head=false)/\ud o=false:=by
 refine⟨λlo hi head=>?_,?_⟩
 · unfold pA;rw[beq_eq_false_iff_ne.2 (by omega),Bool.false_and]
 · unfold ud;rw[dF (by omega),Bool.false_and]
end Go.V.W
