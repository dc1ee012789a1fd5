/- The law FnAllGo: part of the proof that for every input it returns true. No condition. -/
import Derived.KernelRfl
import Derived.Test.YtpidgkkbmlgehaaGreatFnAllGo
import Derived.Test.YtpidgkkbmlgehaaGreatV4
open List (any_eq_false any_eq_true append_assoc cons_lt_cons_iff getElem_mem getElem_of_mem length_append length_map length_set map_append mem_append mem_cons mem_flatMap mem_map mem_range nil_append not_mem_nil pairwise_append pairwise_iff_getElem range_succ take_add_one take_append_drop take_length)
set_option linter.unusedVariables false
set_option linter.unusedSimpArgs false
namespace Go.V.W
theorem an {α β:Type} (a:α) (f:α->Option β):(some a).bind f=f a:=rfl
abbrev M:Nat:=1048576
abbrev In (left:Int):Prop:=0<=left/\left<=1048576
theorem In.next {left r:Int} (h:In left) (h1:0<=r) (h2:r<=left):In r:=⟨h1,by have:=h.2;omega⟩
theorem Qv {n:Nat} (h:n<=M):n<=4294967295:=Nat.le_trans h (by decide)
def yt (n:Nat) (b:sx):Prop:=b.2.1.length<=n/\b.2.2.1.length<=n/\b.2.2.2.1.length<=n/\b.2.2.2.2.1.length<=n/\b.2.2.2.2.2.1.length<=n
def Qd (n:Nat) (v:wl):Prop:=v.2.2.1.length<=n/\v.2.2.2.length<=n
def E8 (n:Nat) (x:sB):Prop:=x.1.length<=n/\Qd n x.2
def B1 (n:Nat) (l:List sB):Prop:=l.length<=n/\∀x∈l,E8 n x
def wM (n:Nat) (p:tg):Prop:=B1 n p.2.2.2.2
def jP (j:tQ):tg:=(j.2.2.2.1,j.2.2.2.2.1,j.2.2.2.2.2.1,j.2.2.2.2.2.2.1,j.2.2.2.2.2.2.2.1)
def jB (a0:tQ):sx:=(a0.2.2.2.2.2.2.2.2.1,a0.2.2.2.2.2.2.2.2.2.1,a0.2.2.2.2.2.2.2.2.2.2.1,a0.2.2.2.2.2.2.2.2.2.2.2.1,a0.2.2.2.2.2.2.2.2.2.2.2.2.1,a0.2.2.2.2.2.2.2.2.2.2.2.2.2.1,a0.2.2.2.2.2.2.2.2.2.2.2.2.2.2.1,a0.2.2.2.2.2.2.2.2.2.2.2.2.2.2.2.1,a0.2.2.2.2.2.2.2.2.2.2.2.2.2.2.2.2.1,a0.2.2.2.2.2.2.2.2.2.2.2.2.2.2.2.2.2.1,a0.2.2.2.2.2.2.2.2.2.2.2.2.2.2.2.2.2.2.1)
def Ou (n:Nat) (j:tQ):Prop:=j.2.1.length<=n/\wM n (jP j)/\yt n (jB j)
def Qw (n:Nat) (l:List tQ):Prop:=l.length<=n/\∀x∈l,Ou n x
def aB (a0:sL):sx:=(a0.1,a0.2.1,a0.2.2.1,a0.2.2.2.1,a0.2.2.2.2.1,a0.2.2.2.2.2.1,a0.2.2.2.2.2.2.1,a0.2.2.2.2.2.2.2.1,a0.2.2.2.2.2.2.2.2.1,a0.2.2.2.2.2.2.2.2.2.1,a0.2.2.2.2.2.2.2.2.2.2.1)
def Do (n:Nat) (a:sL):Prop:=yt n (aB a)/\a.2.2.2.2.2.2.2.2.2.2.2.1.length<=n/\Qw n a.2.2.2.2.2.2.2.2.2.2.2.2.1
theorem Fe {α β:Type} {f g:α->Option (α⊕β)} (tz:α->Prop) (h:∀x,tz x->f x=g x) (hi:∀x y,tz x->f x=some (.inl y)->tz y) {x:α} (h0:tz x):loop f x=loop g x:=by
 have key:∀k x,tz x->w9 f k x=w9 g k x:=by
  intro k
  induction k with
  | zero=>intro x _;rfl
  | succ k ih =>
   intro x hx;rw[ud,ud,←h x hx];cases hf:f x with
   | none=>rfl
   | some v=>cases v with
    | inl y=>exact ih y (hi x y hx hf)
    | inr b=>rfl
 have hex:(∃k,(w9 f k x).isSome)↔∃k,(w9 g k x).isSome:=by
  constructor<;>rintro⟨k,hk⟩<;>exact⟨k,by first|rwa [←key k x h0]|rwa [key k x h0]⟩
 by_cases hc:∃k,(w9 f k x).isSome
 · obtain⟨k,hk⟩:=hc;cases hv:w9 f k x with
   | none=>rw[hv]at hk;cases hk
   | some b=>rw[wX hv,wX ((key k x h0)▸hv)]
 · have hc':¬ ∃k,(w9 g k x).isSome:=λh=>hc (hex.2 h);unfold loop;rw[dif_neg hc,dif_neg hc']
theorem vi {α β:Type} {f g:α->Option (α⊕β)} (h:∀x,f x=g x) (x:α):loop f x=loop g x:=by rw[funext h]
def sC (x a b:Int):Bool:=decide (x>=a)&&decide (x<=b)
theorem wm (x a b:Int):ac x a b=some (sC x a b):=by
 unfold ac sC;cases decide (x>=a)<;>rfl
theorem yu (x a b:Int):ae x a b=some (sC x a b):=wm x a b
def Dp (v:zg):Bool:=sC v.1 1 99&&(sC v.2.1 0 100000&&(sC v.2.2.1 0 10&&(sC v.2.2.2.1 1 99&&sC v.2.2.2.2 0 7)))
theorem M0 (v:zg):cu v=some (Dp v):=by
 unfold cu Dp;simp only[wm,an];cases sC v.1 1 99<;>cases sC v.2.1 0 100000<;>cases sC v.2.2.1 0 10<;>cases sC v.2.2.2.1 1 99<;>rfl
theorem Qx:f8=cu:=rfl
def zj (p:Pt):Bool:=sC p.2.1 1 1000&&(!(p.2.2.1&&!p.1)&&(cond p.2.2.1 (Dp p.2.2.2) (p.2.2.2.1==0&&(p.2.2.2.2.1==0&&(p.2.2.2.2.2.1==0&&(p.2.2.2.2.2.2.1==0&&(p.2.2.2.2.2.2.2==0)))))))
theorem R9 (p:Pt):eC p=some (zj p):=by
 obtain⟨up,cost,heard,v⟩:=p;unfold eC zj;simp only[wm,M0,an];cases sC cost 1 1000<;>cases up<;>cases heard<;>rfl
theorem Ra (p:Pt):f9 p=some (zj p):=by
 obtain⟨up,cost,heard,v⟩:=p;unfold f9 zj;simp only[yu,Qx,M0,an];cases sC cost 1 1000<;>cases up<;>cases heard<;>rfl
theorem wD {n:Nat} {c:Int->Option Bool} {b:Nat->Bool} (hn:n<9223372036854775807) (hc:∀k,k<n->c (k:Int)=some (b k)) :
 loop (λi:Int=>cond (decide (i<(n:Int))) ((c i).bind λt=>cond t (some (.inr (.inr false))) (some (.inl (sy (i+1))))) (some (.inr (.inl ())))) 0=some (cond ((List.range n).any b) (Sum.inr false) (Sum.inl ()):Unit⊕Bool):=by
 obtain⟨v,h1,h2⟩:=sQ (β:=Unit⊕Bool) (step:=λi:Int=>cond (decide (i<(n:Int))) ((c i).bind λt=>cond t (some (.inr (.inr false))) (some (.inl (sy (i+1))))) (some (.inr (.inl ()))))
  (λk i=>i=(k:Int)/\(List.range k).any b=false) n (λv=>v=cond ((List.range n).any b) (Sum.inr false) (Sum.inl ()))
  (λk i hk ⟨e,ha⟩=>by
   subst e;have hs:(cond (decide ((k:Int)<(n:Int))) ((c (k:Int)).bind λt=>cond t (some (.inr (.inr false))) (some (.inl (sy ((k:Int)+1))))) (some (.inr (.inl ()))):Option (Int⊕(Unit⊕Bool)))=cond (b k) (some (.inr (.inr false))) (some (.inl ((k+1:Nat):Int))):=by
    rw[tC (by omega),cT,hc k hk,an,sK (by omega)]
   cases hb:b k with
   | true =>
    refine .inr ⟨.inr false,by rw[hs,hb];rfl,?_⟩;have:(List.range n).any b=true:=any_eq_true.2 ⟨k,mem_range.2 hk,hb⟩
    rw[this];rfl
   | false =>
    refine .inl ⟨_,by rw[hs,hb];rfl,rfl,?_⟩;rw[range_succ,List.any_append,ha];simp[hb])
  (λi ⟨e,ha⟩=>by
   subst e;exact⟨.inl (),by rw[tk (by omega),cF],by rw[ha];rfl⟩) (x:=0) ⟨rfl,rfl⟩
 rw[h1,h2]
def vL (e:sD):Bool:=sC e.1 1 99&&(sC e.2.1 1 9999&&(sC e.2.2.1 0 7&&(sC e.2.2.2.1 0 4&&(!e.2.2.2.2||e.2.2.2.1==0))))
theorem Jy (e:sD):dq e=some (vL e):=by
 unfold dq vL;simp only[wm,an];cases sC e.1 1 99<;>cases sC e.2.1 1 9999<;>cases sC e.2.2.1 0 7<;>cases sC e.2.2.2.1 0 4<;>cases e.2.2.2.2<;>rfl
theorem MC:cQ=dq:=rfl
def zk (e:sD) (tag mac:Int):Bool:=decide (e.1>tag)||(e.1==tag&&decide (e.2.1>mac))
theorem Ny (e:sD) (tag mac:Int):eD e tag mac=some (zk e tag mac):=by
 unfold eD zk;cases decide (e.1>tag)<;>cases (e.1==tag)<;>rfl
theorem Ov (p e:sD):cf p e.1 e.2.1=some (zk e p.1 p.2.1):=by
 unfold cf zk;by_cases h:p.1=e.1
 · simp[h]
 · have h':¬e.1=p.1:=λk=>h k.symm;have e1:(p.1 != e.1)=true:=by simpa using h
   have e2:(e.1==p.1)=false:=by simpa using h'
   rw[e1,e2,cT,Bool.false_and,Bool.or_false]
def ya (l:List sD) (k:Nat):Bool:=match l[k]? with
 | some e=>!(vL e)||(decide (0<k)&&(match l[k-1]? with|some p=>!(zk e p.1 p.2.1)|none=>false))
 | none=>false
def y6 (l:List sD):Bool:=!((List.range l.length).any (ya l))&&decide ((l.length:Int)<=12)
theorem AA {α:Type} {l:List α} {k:Nat} (h:k<l.length) (hk:0<k) (hn:l.length<9223372036854775807):at? l (sy ((k:Int)-1))=some l[k-1]:=by
 rw[sV (by omega) (by omega),show (k:Int)-1=((k-1:Nat):Int) by omega,sO (by omega)]
theorem Qy {l:List sD} (hn:l.length<9223372036854775807):fJ l=some (y6 l):=by
 unfold fJ y6;have h:=wD (n:=l.length) (c:=λi=>(at? l i).bind λx10=>(dq x10).bind λt13=>(cond (!t13) (some true) ((cond (decide (i>0)) ((at? l (sy (i-1))).bind λx23=>(at? l (sy (i-1))).bind λx29=>(eD x10 x23.1 x29.2.1).bind λt32=>some (!t32)) (some false)).bind λt34=>some t34)).bind λt=>some t) (b:=ya l) hn (λk hk=>by
  simp only[sO hk,an,Jy,ya,List.getElem?_eq_getElem hk];cases vL l[k]with
  | false=>rfl
  | true =>
   by_cases h0:0<k
   · have hd:decide ((k:Int)>0)=true:=dT (by omega);simp only[hd,AA hk h0 hn,an,Ny,dT h0,List.getElem?_eq_getElem (show k-1<l.length by omega)];rfl
   · have hd:decide ((k:Int)>0)=false:=dF (by omega);simp only[hd,dF h0];rfl)
 have e:(loop (λz=>gW l z) 0)=some (cond ((List.range l.length).any (ya l)) (Sum.inr false) (Sum.inl ())):=by
  rw[←h];refine vi (λi=>?_) 0;unfold gW;simp only[Option.bind_assoc,an]
 rw[e,an];cases (List.range l.length).any (ya l)<;>rfl
theorem Ow {l:List sD} (hn:l.length<9223372036854775807):cR l=some (y6 l):=by
 unfold cR y6;have h:=wD (n:=l.length) (c:=λi=>(at? l i).bind λx12=>(cQ x12).bind λt14=>(cond (!t14) (some true) ((cond (decide (i>0)) ((at? l (sy (i-1))).bind λx23=>(at? l i).bind λx27=>(at? l i).bind λx32=>(cf x23 x27.1 x32.2.1).bind λt35=>some (!t35)) (some false)).bind λt37=>some t37)).bind λt=>some t) (b:=ya l) hn (λk hk=>by
  simp only[sO hk,an,MC,Jy,ya,List.getElem?_eq_getElem hk];cases vL l[k]with
  | false=>rfl
  | true =>
   by_cases h0:0<k
   · have hd:decide ((k:Int)>0)=true:=dT (by omega);simp only[hd,AA hk h0 hn,an,Ov,dT h0,List.getElem?_eq_getElem (show k-1<l.length by omega)];rfl
   · have hd:decide ((k:Int)>0)=false:=dF (by omega);simp only[hd,dF h0];rfl)
 have e:(loop (λz=>hZ l z) 0)=some (cond ((List.range l.length).any (ya l)) (Sum.inr false) (Sum.inl ())):=by
  rw[←h];refine vi (λi=>?_) 0;unfold hZ;simp only[Option.bind_assoc,an]
 rw[e,an];cases (List.range l.length).any (ya l)<;>rfl

theorem Ox:bu=ao:=rfl
theorem KM {v:tH} (hn:v.1.length<9223372036854775807) (id:Int):∃r,ao v id=some r:=by
 unfold ao;obtain⟨b,h1,_⟩:=sQ (β:=Unit⊕Int) (step:=λz=>aE v id z) (λk i=>i=(k:Int)) v.1.length (λ_=>True)
  (λk i hk h=>by
   subst h;unfold aE;rw[tC (by omega),cT,sO hk,an];cases (v.1[k].1==id)with
   | true=>exact .inr ⟨_,rfl,trivial⟩
   | false=>exact .inl ⟨_,rfl,sK (by omega)⟩)
  (λi h=>by
   subst h;unfold aE;rw[tk (by omega)];exact⟨_,rfl,trivial⟩) (x:=0) rfl
 rw[h1,an];cases b with
 | inl _=>exact⟨_,rfl⟩
 | inr r=>exact⟨r,rfl⟩
def uP (i:Int):Int:=(2:Int)^i.toNat-1
theorem Ff {i:Int} (h:sC i 1 6=true):i=1\/i=2\/i=3\/i=4\/i=5\/i=6:=by
 unfold sC at h;simp only[aT,decide_eq_true_eq]at h;omega
theorem Gr {i:Int} (h:sC i 1 6=true):eE i=some (uP i):=by
 rcases Ff h with rfl|rfl|rfl|rfl|rfl|rfl<;>rfl
theorem Jz {i:Int} (h:sC i 1 6=true):∃t,shl .i64 1 (IntKind.u64.wrap i)=some t/\sy (t-1)=uP i:=by
 rcases Ff h with rfl|rfl|rfl|rfl|rfl|rfl<;>exact⟨_,rfl,rfl⟩
theorem GK {i:Int} (h:sC i 1 6=true):1<=uP i/\uP i<=63:=by
 rcases Ff h with rfl|rfl|rfl|rfl|rfl|rfl<;>decide
theorem Fg (x:BitVec 64):IntKind.i64.wrap (x.toNat:Int)=x.toInt:=by
 have hx:=x.isLt;rw[BitVec.toInt_eq_toNat_cond];show (let m:=(x.toNat:Int)%18446744073709551616;if (true&&decide (m>=9223372036854775808))=true then m-18446744073709551616 else m)=_
 simp only[Bool.true_and,decide_eq_true_eq];have h1:(x.toNat:Int)%18446744073709551616=(x.toNat:Int):=by omega
 rw[h1];split<;>split<;>omega
theorem zX {b:Int} (h1:-9223372036854775808<=b) (h2:b<=9223372036854775807):(BitVec.ofInt 64 b).toInt=b:=by
 rw[BitVec.toInt_ofInt];unfold Int.bmod;simp only;split<;>omega
theorem GL (a b:Int):wh .i64 a b=(BitVec.ofInt 64 a&&&BitVec.ofInt 64 b).toInt:=Fg _
theorem PB (a b:Int):Bw .i64 a b=(BitVec.ofInt 64 a &&& ~~~ BitVec.ofInt 64 b).toInt:=Fg _
theorem IA (x y:BitVec 64):x&&&y=x↔x &&& ~~~ y=0:=by
 constructor
 · intro h;apply BitVec.eq_of_getLsbD_eq;intro i hi;have:=congrArg (λz=>z.getLsbD i) h
   simp only[BitVec.getLsbD_and]at this;simp only[BitVec.getLsbD_and,BitVec.getLsbD_not,BitVec.getLsbD_zero,hi,decide_true,Bool.true_and];cases hx:x.getLsbD i<;>cases hy:y.getLsbD i<;>simp_all
 · intro h;apply BitVec.eq_of_getLsbD_eq;intro i hi;have:=congrArg (λz=>z.getLsbD i) h
   simp only[BitVec.getLsbD_and,BitVec.getLsbD_not,BitVec.getLsbD_zero,hi,decide_true,Bool.true_and]at this;simp only[BitVec.getLsbD_and];cases hx:x.getLsbD i<;>cases hy:y.getLsbD i<;>simp_all
theorem Gt {b m:Int} (h1:-9223372036854775808<=b) (h2:b<=9223372036854775807):(wh .i64 b m != b)=(Bw .i64 b m != 0):=by
 rw[GL,PB];have e:((BitVec.ofInt 64 b&&&BitVec.ofInt 64 m).toInt=b)↔((BitVec.ofInt 64 b &&& ~~~ BitVec.ofInt 64 m).toInt=0):=by
  constructor
  · intro h;have:BitVec.ofInt 64 b&&&BitVec.ofInt 64 m=BitVec.ofInt 64 b:=BitVec.eq_of_toInt_eq (by rw[h,zX h1 h2])
    rw[(IA _ _).1 this];rfl
  · intro h;have:BitVec.ofInt 64 b &&& ~~~ BitVec.ofInt 64 m=0:=BitVec.eq_of_toInt_eq (by rw[h];rfl)
    rw[(IA _ _).2 this,zX h1 h2]
 by_cases h:(BitVec.ofInt 64 b&&&BitVec.ofInt 64 m).toInt=b
 · have h':=e.1 h;simp[h,h']
 · have h':¬(BitVec.ofInt 64 b &&& ~~~ BitVec.ofInt 64 m).toInt=0:=λk=>h (e.2 k);rw[bne_iff_ne.2 h,bne_iff_ne.2 h']
theorem IB {b m t:Int} (h1:-9223372036854775808<=b) (h2:b<=9223372036854775807) (hm:sC m 0 t=true) (ht:t<=63) (h:(wh .i64 b m != b)=false):sC b 0 t=true:=by
 unfold sC at hm ⊢;simp only[aT,decide_eq_true_eq]at hm ⊢;have h:wh .i64 b m=b:=by simpa using h
 rw[GL]at h;have e:BitVec.ofInt 64 b&&&BitVec.ofInt 64 m=BitVec.ofInt 64 b:=BitVec.eq_of_toInt_eq (by rw[h,zX h1 h2])
 have hM:(BitVec.ofInt 64 m).toNat=m.toNat:=by
  rw[BitVec.toNat_ofInt];omega
 have hle:(BitVec.ofInt 64 b).toNat<=m.toNat:=by
  rw[←e,BitVec.toNat_and,hM];exact Nat.and_le_right
 have hb:(BitVec.ofInt 64 b).toInt=((BitVec.ofInt 64 b).toNat:Int):=by
  rw[BitVec.toInt_eq_toNat_cond];split<;>omega
 rw[zX h1 h2]at hb;omega
def z7 (v:tH) (i:Int) (k:Nat):Bool:=match v.1[k]? with
 | some r=>!(sC r.1 1 99)||((decide (0<k)&&(match v.1[k-1]? with|some p=>decide (p.1>=r.1)|none=>false))||(!(sC r.2.1 0 (uP i))||(Bw .i64 r.2.2 r.2.1 != 0)))
 | none=>false
noncomputable def Aq (v:tH) (k:Nat):Bool:=match v.2[k]? with
 | some x=>(match ao v x with|some t=>decide (t<0)|none=>false)
 | none=>false
noncomputable def vU (v:tH) (i:Int):Bool:=!(!(sC i 1 6)||((v.2.length:Int) != i||decide ((v.1.length:Int)>6)))&&(!((List.range v.1.length).any (z7 v i))&&!((List.range v.2.length).any (Aq v)))
theorem KN {v:tH} {i:Int} (hi:sC i 1 6=true) (hn:v.1.length<9223372036854775807):loop (λz=>gX v i z) 0=some (cond ((List.range v.1.length).any (z7 v i)) (Sum.inr false) (Sum.inl ())):=by
 rw[←wD (n:=v.1.length) (c:=λt28=>(at? v.1 t28).bind λx31 =>
  (ac x31.1 1 99).bind λt35 =>
  (cond (!t35) (some true) ((cond (decide (t28>0)) ((at? v.1 (sy (t28-1))).bind λx45=>some (decide (x45.1>=x31.1))) (some false)).bind λt51=>some t51)).bind λt52 =>
  (cond t52 (some true) ((eE i).bind λt57=>(ac x31.2.1 0 t57).bind λt58=>some (!t58))).bind λt60 =>
  (cond t60 (some true) (some ((Bw .i64 x31.2.2 x31.2.1) != 0))).bind λt=>some t) (b:=z7 v i) hn (λk hk=>by
   simp only[sO hk,an,wm,z7,List.getElem?_eq_getElem hk,Gr hi];cases sC v.1[k].1 1 99 with
   | false=>rfl
   | true =>
    by_cases h0:0<k
    · have hd:decide ((k:Int)>0)=true:=dT (by omega);simp only[hd,AA hk h0 hn,an,dT h0,List.getElem?_eq_getElem (show k-1<v.1.length by omega)];cases decide (v.1[k-1].1>=v.1[k].1)<;>cases sC v.1[k].2.1 0 (uP i)<;>rfl
    · have hd:decide ((k:Int)>0)=false:=dF (by omega);simp only[hd,dF h0];cases sC v.1[k].2.1 0 (uP i)<;>rfl)]
 refine vi (λi=>?_) 0;unfold gX;simp only[Option.bind_assoc,an]
theorem JA {v:tH} {i t:Int} (hi:sC i 1 6=true) (ht:sy (t-1)=uP i) (hn:v.1.length<9223372036854775807) (hw:∀r∈v.1,-9223372036854775808<=r.2.2/\r.2.2<=9223372036854775807):loop (λz=>i0 v t z) 0=some (cond ((List.range v.1.length).any (z7 v i)) (Sum.inr false) (Sum.inl ())):=by
 rw[←wD (n:=v.1.length) (c:=λt6=>(at? v.1 t6).bind λx39 =>
  (ae x39.1 1 99).bind λt43 =>
  (cond (!t43) (some true) ((ae x39.2.1 0 (sy (t-1))).bind λt49=>some (!t49))).bind λt51 =>
  (cond t51 (some true) ((ae x39.2.2 0 (sy (t-1))).bind λt56=>some (!t56))).bind λt58 =>
  (cond t58 (some true) (some ((wh .i64 x39.2.2 x39.2.1) != x39.2.2))).bind λt68 =>
  (cond t68 (some true) ((cond (decide (t6>0)) ((at? v.1 (sy (t6-1))).bind λx77=>some (decide (x77.1>=x39.1))) (some false)).bind λt83=>some t83)).bind λt=>some t) (b:=z7 v i) hn (λk hk=>by
   obtain⟨w1,w2⟩:=hw _ (getElem_mem hk);have hs:=Gt (m:=v.1[k].2.1) w1 w2
   have hin:=IB (m:=v.1[k].2.1) (t:=uP i) w1 w2;have ht2:=(GK hi).2
   simp only[sO hk,an,yu,z7,List.getElem?_eq_getElem hk,ht];rw[←hs];cases h1:sC v.1[k].1 1 99 with
   | false=>rfl
   | true =>
    cases h2:sC v.1[k].2.1 0 (uP i)with
    | false =>
     by_cases h0:0<k
     · simp only[dT h0,List.getElem?_eq_getElem (show k-1<v.1.length by omega)];cases decide (v.1[k-1].1>=v.1[k].1)<;>rfl
     · simp only[dF h0];rfl
    | true =>
     cases h3:(wh .i64 v.1[k].2.2 v.1[k].2.1 != v.1[k].2.2)with
     | true =>
      by_cases h0:0<k
      · simp only[dT h0,List.getElem?_eq_getElem (show k-1<v.1.length by omega)];cases decide (v.1[k-1].1>=v.1[k].1)<;>cases sC v.1[k].2.2 0 (uP i)<;>rfl
      · simp only[dF h0];cases sC v.1[k].2.2 0 (uP i)<;>rfl
     | false =>
      have h4:=hin h2 ht2 h3;rw[h4];by_cases h0:0<k
      · have hd:decide ((k:Int)>0)=true:=dT (by omega);simp only[hd,AA hk h0 hn,an,dT h0,List.getElem?_eq_getElem (show k-1<v.1.length by omega)];cases decide (v.1[k-1].1>=v.1[k].1)<;>rfl
      · have hd:decide ((k:Int)>0)=false:=dF (by omega);simp only[hd,dF h0];rfl)]
 refine vi (λi=>?_) 0;unfold i0;simp only[Option.bind_assoc,an]
theorem Gu {v:tH} (hn:v.1.length<9223372036854775807) (hn2:v.2.length<9223372036854775807):loop (λz=>fK v z) 0=some (cond ((List.range v.2.length).any (Aq v)) (Sum.inr false) (Sum.inl ())):=by
 rw[←wD (n:=v.2.length) (c:=λt73=>(at? v.2 t73).bind λx75=>(ao v x75).bind λt79=>some (decide (t79<0))) (b:=Aq v) hn2 (λk hk=>by
  obtain⟨r,hr⟩:=KM hn v.2[k];simp only[sO hk,an,Aq,List.getElem?_eq_getElem hk,hr])]
 refine vi (λi=>?_) 0;unfold fK;simp only[Option.bind_assoc,an]
theorem PC:ll=fK:=rfl
theorem MD {v:tH} (i:Int) (hn:v.1.length<9223372036854775807) (hn2:v.2.length<9223372036854775807):dt v i=some (vU v i):=by
 unfold dt vU;simp only[wm,an];cases hi:sC i 1 6 with
 | false=>rfl
 | true =>
  rw[KN hi hn,Gu hn hn2];cases ((v.2.length:Int) != i)<;>cases decide ((v.1.length:Int)>6)<;>cases (List.range v.1.length).any (z7 v i)<;>cases (List.range v.2.length).any (Aq v)<;>rfl
theorem JB {v:tH} (i:Int) (hn:v.1.length<9223372036854775807) (hn2:v.2.length<9223372036854775807) (hw:∀r∈v.1,-9223372036854775808<=r.2.2/\r.2.2<=9223372036854775807):aQ v i=some (vU v i):=by
 unfold aQ vU;simp only[yu,an,PC];cases hi:sC i 1 6 with
 | false=>rfl
 | true =>
  obtain⟨t,h1,h2⟩:=Jz hi;rw[h1,an,JA hi h2 hn hw,Gu hn hn2];cases ((v.2.length:Int) != i)<;>cases decide ((v.1.length:Int)>6)<;>cases (List.range v.1.length).any (z7 v i)<;>cases (List.range v.2.length).any (Aq v)<;>rfl
def B2 (l:List Pt) (k:Nat):Bool:=match l[k]? with|some p=>!(zj p)|none=>false
def vd (b:sx):Bool:=sC b.2.2.2.2.2.2.1 0 1000000&&(sC b.2.2.2.2.2.2.2.1 0 1000000&&(sC b.2.2.2.2.2.2.2.2.1 0 1000000&&(sC b.2.2.2.2.2.2.2.2.2.1 0 1000000&&sC b.2.2.2.2.2.2.2.2.2.2 0 1000000)))
noncomputable def tI (b:sx):Bool:=!((List.range b.2.2.1.length).any (B2 b.2.2.1))&&(sC b.1 1 99&&(!(decide ((b.2.1.length:Int)>10))&&(sC (b.2.2.1.length:Int) 1 6&&(y6 b.2.2.2.1&&(vU (b.2.2.2.2.1,b.2.2.2.2.2.1) (b.2.2.1.length:Int)&&vd b)))))
structure wU (b:sx):Prop where
 p:b.2.2.1.length<9223372036854775807
 f:b.2.2.2.1.length<9223372036854775807
 v:b.2.2.2.2.1.length<9223372036854775807
 q:b.2.2.2.2.2.1.length<9223372036854775807
 r:∀r∈b.2.2.2.2.1,-9223372036854775808<=r.2.2/\r.2.2<=9223372036854775807
theorem JC {b:sx} (h:wU b):loop (λz=>gY b z) 0=some (cond ((List.range b.2.2.1.length).any (B2 b.2.2.1)) (Sum.inr false) (Sum.inl ())):=by
 rw[←wD (n:=b.2.2.1.length) (c:=λt8=>(at? b.2.2.1 t8).bind λx10=>(eC x10).bind λt13=>some (!t13)) (b:=B2 b.2.2.1) h.p (λk hk=>by
  simp only[sO hk,an,B2,List.getElem?_eq_getElem hk,R9])]
 refine vi (λi=>?_) 0;unfold gY;simp only[Option.bind_assoc,an]
theorem I9 {b:sx} (h:wU b):loop (λz=>ia b z) 0=some (cond ((List.range b.2.2.1.length).any (B2 b.2.2.1)) (Sum.inr false) (Sum.inl ())):=by
 rw[←wD (n:=b.2.2.1.length) (c:=λt8=>(at? b.2.2.1 t8).bind λx10=>(f9 x10).bind λt13=>some (!t13)) (b:=B2 b.2.2.1) h.p (λk hk=>by
  simp only[sO hk,an,B2,List.getElem?_eq_getElem hk,Ra])]
 refine vi (λi=>?_) 0;unfold ia;simp only[Option.bind_assoc,an]
theorem Nz (b:sx):gu b=some (vd b):=by
 unfold gu vd;simp only[yu,an];cases sC b.2.2.2.2.2.2.1 0 1000000<;>cases sC b.2.2.2.2.2.2.2.1 0 1000000<;>cases sC b.2.2.2.2.2.2.2.2.1 0 1000000<;>cases sC b.2.2.2.2.2.2.2.2.2.1 0 1000000<;>rfl
theorem KO (n:Int):bj n=some (sC n 0 1000000):=by unfold bj;rw[wm,an]
theorem AB {b:sx} (h:wU b):bm b=some (tI b):=by
 unfold bm tI vd;rw[JC h,an];cases (List.range b.2.2.1.length).any (B2 b.2.2.1)with
 | true=>rfl
 | false =>
  simp only[cF,Sum.elim_inl,wm,Qy h.f,MD (v:=(b.2.2.2.2.1,b.2.2.2.2.2.1)) _ h.v h.q,KO,an];cases sC b.1 1 99<;>cases decide ((b.2.1.length:Int)>10)<;>cases sC (b.2.2.1.length:Int) 1 6<;>cases y6 b.2.2.2.1<;>cases vU (b.2.2.2.2.1,b.2.2.2.2.2.1) (b.2.2.1.length:Int) <;>
   cases sC b.2.2.2.2.2.2.1 0 1000000<;>cases sC b.2.2.2.2.2.2.2.1 0 1000000<;>cases sC b.2.2.2.2.2.2.2.2.1 0 1000000<;>cases sC b.2.2.2.2.2.2.2.2.2.1 0 1000000<;>rfl
theorem zL {b:sx} (h:wU b):aV b=some (tI b):=by
 unfold aV tI;rw[I9 h,an];cases (List.range b.2.2.1.length).any (B2 b.2.2.1)with
 | true=>rfl
 | false =>
  have e:decide ((b.2.1.length:Int)<=10)=!(decide ((b.2.1.length:Int)>10)):=by
   by_cases hh:(b.2.1.length:Int)>10
   · rw[dT hh,dF (by omega)];rfl
   · rw[dF hh,dT (by omega)];rfl
  simp only[cF,Sum.elim_inl,yu,Ow h.f,JB (v:=(b.2.2.2.2.1,b.2.2.2.2.2.1)) _ h.v h.q h.r,Nz,an,e];cases sC b.1 1 99<;>cases decide ((b.2.1.length:Int)>10)<;>cases sC (b.2.2.1.length:Int) 1 6<;>cases y6 b.2.2.2.1<;>cases vU (b.2.2.2.2.1,b.2.2.2.2.2.1) (b.2.2.1.length:Int)<;>cases vd b<;>rfl
theorem ME:gB=dH:=rfl
theorem MF (a b:zg):∃r,dH a b=some r:=by
 unfold dH;cases (a.1 != b.1)<;>cases (a.2.1 != b.2.1)<;>cases (a.2.2.2.1 != b.2.2.2.1)<;>exact⟨_,rfl⟩
theorem PD:iq=eM:=rfl
theorem PE (v:zg) (c:Int):∃r,eM v c=some r:=by
 unfold eM;simp only[M0,wm,an];cases Dp v<;>cases sC c 1 1000<;>first|exact⟨_,rfl⟩|skip
 generalize Dp (v.1,sy (v.2.1+c),sy (v.2.2.1+1),v.2.2.2.1,v.2.2.2.2)=q;cases q<;>exact⟨_,rfl⟩
theorem PF (p0:Int) (l:List Pt) (t8 t9 b0 b1 b2 b3 b4 c0 c1 c2 c3 c4:Int):ir p0 l t8 t9 b0 b1 b2 b3 b4 c0 c1 c2 c3 c4=dJ p0 l t8 t9 b0 b1 b2 b3 b4 c0 c1 c2 c3 c4:=by
 unfold ir dJ;rw[PD,ME];cases h:at? l t9 with
 | none=>rfl
 | some x=>simp only[an]
theorem MG:fi=bC:=by
 funext p0 l
 unfold fi bC;rw[vi (λz=>PF p0 l _ _ _ _ _ _ _ _ _ _ _ _)]
theorem PG (p0:Int) {l:List Pt} (hn:l.length<9223372036854775807):∃r,bC p0 l=some r:=by
 unfold bC;obtain⟨b,h1,_⟩:=sQ (step:=λz:Int×Int×Int×Int×Int×Int×Int×Int×Int×Int×Int×Int=>dJ p0 l z.1 z.2.1 z.2.2.1 z.2.2.2.1 z.2.2.2.2.1 z.2.2.2.2.2.1 z.2.2.2.2.2.2.1 z.2.2.2.2.2.2.2.1 z.2.2.2.2.2.2.2.2.1 z.2.2.2.2.2.2.2.2.2.1 z.2.2.2.2.2.2.2.2.2.2.1 z.2.2.2.2.2.2.2.2.2.2.2)
  (λk z=>z.2.1=(k:Int)) l.length (λ_=>True)
  (λk z hk h=>by
   left;obtain⟨t7,t18,b0,b1,b2,b3,b4,c0,c1,c2,c3,c4⟩:=z;obtain rfl:t18=(k:Int):=h;unfold dJ;simp only[tC (show (k:Int)<(l.length:Int) by omega),cT,sO hk,an];rw[show sy ((k:Int)+1)=((k+1:Nat):Int)from sK (by omega)];generalize l[k]=x;have e:(cond (!x.1) (some true) (some (!x.2.2.1)):Option Bool)=some (cond (!x.1) true (!x.2.2.1)):=by cases x.1<;>rfl
   rw[e,an];cases (cond (!x.1) true (!x.2.2.1))with
   | true=>exact⟨_,rfl,rfl⟩
   | false =>
    obtain⟨r,hr⟩:=PE x.2.2.2 x.2.1;obtain⟨q,hq⟩:=MF r.1 (c0,c1,c2,c3,c4);rw[cF,hr,an,hq];cases r.2<;>cases decide (r.1.1<p0)<;>cases decide (t7<0)<;>cases q<;>exact⟨_,rfl,rfl⟩)
  (λz h=>by
   obtain⟨t7,t18,b0,b1,b2,b3,b4,c0,c1,c2,c3,c4⟩:=z;obtain rfl:t18=(l.length:Int):=h;unfold dJ;simp only[tk (show ¬(l.length:Int)<(l.length:Int) by omega),cF];exact⟨_,rfl,trivial⟩) (x:=((-1),0,p0,0,0,p0,0,0,0,0,0,0)) rfl
 rw[h1,an];exact⟨_,rfl⟩
theorem Qz:gC=eN:=by
 funext id l p
 unfold gC eN;rw[MG]
theorem MH:fj=aO:=by
 funext id l p
 unfold fj aO;rw[MG,Qz,ME];rfl
theorem JD (id:Int) {l:List Pt} (hn:l.length<9223372036854775807) (p:Int):∃r,aO id l p=some r:=by
 obtain⟨v,hv⟩:=PG id hn;unfold aO eN;simp only[wm,an,hv];rw[show sy ((l.length:Int)-1)=(l.length:Int)-1 from sV (by omega) (by omega)];cases hp:sC p 0 ((l.length:Int)-1)with
 | false=>exact⟨_,rfl⟩
 | true =>
  unfold sC at hp;simp only[aT,decide_eq_true_eq]at hp;obtain⟨k,rfl⟩:∃k:Nat,p=(k:Int):=⟨p.toNat,by omega⟩;simp only[sO (show k<l.length by omega),an];generalize l[k]'(by omega)=x;obtain⟨q,hq⟩:=MF (v.1.1,v.1.2.1,v.1.2.2.1,v.1.2.2.2.1,(k:Int)) x.2.2.2;rw[hq];cases x.1<;>cases (v.2==(k:Int))<;>cases x.2.2.1<;>cases q<;>exact⟨_,rfl⟩
theorem PH (b:sx) (c p:Int):gJ b c p=bV b c p:=by
 unfold gJ bV eL;rw[MH];cases at? b.2.2.1 p with
 | none=>rfl
 | some x=>simp only[an];cases x.1<;>rfl
theorem El {α:Type} (out:List sB) (name:List Int) (n:Int) (f:List sB->Option α):((aZ n).bind λv=>(aG v name).bind λt=>(sT out [t]).bind f)=(aj out name n).bind f:=by
 unfold aZ aG aj af ai;simp only[an,Option.bind_assoc]
theorem M1 (b:sx) (c i:Int) (out:List sB):iv b c i out=bD b c i out:=by
 unfold iv bD;simp only[PH,El]
theorem QA {r:sM} {c:Int} (h:1<=c/\c<=3):((ix [1,r.2.1,r.2.2].length (sy (c-1))).bind λj=>([1,r.2.1,r.2.2][j]?).bind λx=>some x)=iu r c:=by
 have:c=1\/c=2\/c=3:=by omega
 rcases this with rfl|rfl|rfl<;>rfl
theorem NA (b:sx) {c:Int} (h:1<=c/\c<=3) (i:Int) (out:List sB):iy b c i out=bE b c i out:=by
 unfold iy bE;cases hr:at? b.2.2.2.2.1 i with
 | none=>rfl
 | some r =>
  simp only[an,←QA (r:=r) h,Option.bind_assoc,El]
theorem Oy (b:sx) (i:Int) (out:List sB):iz b i out=bq b i out:=by
 unfold iz bq;cases hr:at? b.2.2.2.1 i with
 | none=>rfl
 | some r=>simp only[an,El]
theorem PI (b:sx) (c:Int) (out:List sB):iw b c out=bW b c out:=by
 unfold iw bW;rw[vi (λz=>M1 b c _ _)]
theorem PJ (b:sx) {c:Int} (h:1<=c) (out:List sB):fp b c out=bY b c out:=by
 unfold fp bY;by_cases h3:c<=3
 · rw[vi (λz=>NA b ⟨h,h3⟩ _ _)]
 · rw[dF h3];rfl
theorem JE (b:sx) {c:Int} {out:List sB} {y:Int×List sB} (h:1<=c) (e:fp b c out=some (.inl y)):1<=y.1:=by
 unfold fp at e;by_cases h3:c<=3
 · rw[dT h3,cT,Option.bind_eq_some_iff]at e;obtain⟨d,_,e⟩:=e;cases e;show 1<=sy (c+1)
   rw[sV (by omega) (by omega)];omega
 · rw[dF h3]at e;cases e
def z8 (b:sx):List sB:=[([1,3,1,1,1],4,0,b.2.1,[]),([1,3,1,1,2],2,b.2.2.2.2.2.2.1,[],[]),([1,3,1,1,3],2,b.2.2.2.2.2.2.2.1,[],[]),([1,3,1,1,4],2,b.2.2.2.2.2.2.2.2.1,[],[]),([1,3,1,1,5],2,b.2.2.2.2.2.2.2.2.2.1,[],[])]
theorem QB (b:sx):aG (4,0,b.2.1,[]) ([1,1]:List Int)=some ([1,3,1,1,1],4,0,b.2.1,[]):=by kernel_rfl
theorem QC (b:sx):w9 (λz=>ki b z.1 z.2) 5 (0,[([1,3,1,1,1],4,0,b.2.1,[])])=some (z8 b):=by kernel_rfl
theorem QD (b:sx):((af ([1,1]:List Int)).bind λt14=>(aj ([(t14,4,0,b.2.1,[])]) ([1,2]:List Int) b.2.2.2.2.2.2.1).bind λt24=>(aj t24 ([1,3]:List Int) b.2.2.2.2.2.2.2.1).bind λt29 =>
 (aj t29 ([1,4]:List Int) b.2.2.2.2.2.2.2.2.1).bind λt34=>(aj t34 ([1,5]:List Int) b.2.2.2.2.2.2.2.2.2.1))=some (z8 b):=by kernel_rfl
noncomputable def DO (b:sx) (l:List sB):Option (List sB) :=
 (loop (λz=>bW b z.1 z.2) (1,l)).bind λd_2 =>
  (loop (λz=>bY b z.1 z.2) (1,d_2)).bind λd_4 =>
  (loop (λz=>bq b z.1 z.2) (0,d_4)).bind λd_5 =>
  some d_5
theorem Oz {b:sx} (h:wU b):bG b=cond (!(tI b)) (some []) (DO b (z8 b)):=by
 unfold bG;rw[AB h,an,QB,an,wX (QC b),an];rfl
theorem QE {b:sx} (h:wU b):cY b=cond (!(tI b)) (some []) (DO b (z8 b)):=by
 unfold cY;rw[zL h,an];have hc:=QD b
 have e:∀{α:Type} (f:List sB->Option α),((af ([1,1]:List Int)).bind λt14=>(aj ([(t14,4,0,b.2.1,[])]) ([1,2]:List Int) b.2.2.2.2.2.2.1).bind λt24=>(aj t24 ([1,3]:List Int) b.2.2.2.2.2.2.2.1).bind λt29 =>
  (aj t29 ([1,4]:List Int) b.2.2.2.2.2.2.2.2.1).bind λt34=>(aj t34 ([1,5]:List Int) b.2.2.2.2.2.2.2.2.2.1).bind f)=f (z8 b):=by
  intro α f;have:((af ([1,1]:List Int)).bind λt14=>(aj ([(t14,4,0,b.2.1,[])]) ([1,2]:List Int) b.2.2.2.2.2.2.1).bind λt24=>(aj t24 ([1,3]:List Int) b.2.2.2.2.2.2.2.1).bind λt29 =>
   (aj t29 ([1,4]:List Int) b.2.2.2.2.2.2.2.2.1).bind λt34=>(aj t34 ([1,5]:List Int) b.2.2.2.2.2.2.2.2.2.1)).bind f=f (z8 b):=by rw[hc,an]
  rw[←this];simp only[Option.bind_assoc]
 rw[e]
 congr 1
 unfold DO;rw[vi (λz=>PI b _ _)]
 congr 1
 funext d
 rw[Fe (λz:Int×List sB=>1<=z.1) (λz hz=>PJ b hz _) (λz y hz e=>JE b hz e) (show (1:Int)<=1 by omega)]
 congr 1
 funext d
 rw[vi (λz=>Oy b _ _)]
theorem Em {b:sx} (h:wU b):cY b=bG b:=by rw[QE h,Oz h]

theorem PK {b:sx} (h:wU b) (c:Int) {k:Nat} (hk:k<b.2.2.1.length) (hq:b.2.2.1.length=b.2.2.2.2.2.1.length):∃n,bV b c (k:Int)=some n:=by
 obtain⟨r,hr⟩:=JD b.1 h.p (k:Int);unfold bV eL;rw[sO hk,sO (show k<b.2.2.2.2.2.1.length by omega),hr];simp only[an];cases (c==1)<;>cases (c==2)<;>cases (c==3)<;>cases (b.2.2.1[k]).1<;>exact⟨_,rfl⟩
theorem NC {α:Type} {xs ys:List α} (h:xs.length+ys.length<=4294967296):sT xs ys=some (xs++ys):=by
 unfold sT;rw[if_pos (show xs.length+ys.length<=AD from h)]
noncomputable def yb (id:Int) (l:List Pt) (p:Int):Int:=(aO id l p).getD 0
theorem CA (id:Int) {l:List Pt} (hn:l.length<9223372036854775807) (p:Int):aO id l p=some (yb id l p):=by
 obtain⟨r,hr⟩:=JD id hn p;unfold yb;rw[hr];rfl
def JF (l:List Int) (x:Int):Bool:=decide (x∈l)
def zY (b:Nat->Bool) (m:Nat):List Int:=((List.range m).filter b).map λ(k:Nat)=>(k:Int)
theorem M2 (b:Nat->Bool) (m:Nat):(zY b m).length<=m:=by
 unfold zY;rw[length_map];exact Nat.le_trans (List.length_filter_le _ _) (by simp)
theorem JG (b:Nat->Bool) (m:Nat):zY b (m+1)=cond (b m) (zY b m++[(m:Int)]) (zY b m):=by
 unfold zY;rw[range_succ,List.filter_append,map_append];cases h:b m<;>simp[h]
theorem yB {n:Nat} {c:Int->Option Bool} {b:Nat->Bool} (hn:n<=1048576) (hc:∀k,k<n->c (k:Int)=some (b k)) :
 loop (λz:Int×List Int=>cond (decide (z.1<(n:Int))) ((c z.1).bind λt=>cond t ((sT z.2 [z.1]).bind λzs=>some (.inl (sy (z.1+1),zs))) (some (.inl (sy (z.1+1),z.2)))) (some (.inr z.2))) (0,([]:List Int))=some (zY b n):=by
 obtain⟨v,h1,rfl⟩:=sQ (step:=λz:Int×List Int=>cond (decide (z.1<(n:Int))) ((c z.1).bind λt=>cond t ((sT z.2 [z.1]).bind λzs=>some (.inl (sy (z.1+1),zs))) (some (.inl (sy (z.1+1),z.2)))) (some (.inr z.2))) (λk z=>z.1=(k:Int)/\z.2=zY b k) n (λl=>l=zY b n)
  (λk z hk ⟨e1,e2⟩=>by
   obtain⟨i,l⟩:=z;simp only at e1 e2;subst e1 e2;left;have hle:=M2 b k
   refine⟨(sy ((k:Int)+1),zY b (k+1)),?_,sK (by omega),rfl⟩;simp only[tC (show (k:Int)<(n:Int) by omega),cT,hc k hk,an];rw[JG];cases b k with
   | false=>rfl
   | true=>rw[cT,NC (by simp;omega)];rfl)
  (λz ⟨e1,e2⟩=>by
   obtain⟨i,l⟩:=z;simp only at e1 e2;subst e1 e2;exact⟨_,by simp only[tk (show ¬(n:Int)<(n:Int) by omega),cF],rfl⟩) (x:=(0,[])) ⟨rfl,rfl⟩
 exact h1
def IC (l:List Bool):Nat:=l.count true
theorem OA (l:List Bool):IC l<=l.length:=List.count_le_length
theorem ND {l:List Bool} {i:Nat} (h:l[i]?=some false):IC (l.set i true)=IC l+1:=by
 obtain⟨hi,he⟩:=List.getElem?_eq_some_iff.1 h;unfold IC;rw[List.count_set hi,he];simp
theorem OB {n:Nat} {i:Int} (h:sC i 0 ((n:Int)-1)=true):∃k:Nat,k<n/\i=(k:Int):=by
 unfold sC at h;simp only[aT,decide_eq_true_eq]at h;exact⟨i.toNat,by omega,by omega⟩
theorem OC {n k:Nat} (h:k<n):sC (k:Int) 0 ((n:Int)-1)=true:=by
 unfold sC;rw[dT (by omega),dT (by omega)];rfl
structure HH (X:List Int) (l:List Bool):Prop where
 r:∀x∈X,∃k:Nat,k<l.length/\x=(k:Int)
 m:∀k,k<l.length->l[k]?=some (JF X (k:Int))
 c:X.length=IC l
theorem HH.len {X:List Int} {l:List Bool} (h:HH X l):X.length<=l.length:=by rw[h.c];exact OA l
theorem HH.add {X:List Int} {l:List Bool} (h:HH X l) {i:Nat} (hi:l[i]?=some false):HH (X++[(i:Int)]) (l.set i true):=by
 obtain⟨hi',he⟩:=List.getElem?_eq_some_iff.1 hi;refine⟨λx hx=>?_,λk hk=>?_,?_⟩
 · rw[length_set];rcases mem_append.1 hx with hx|hx
   · exact h.r x hx
   · simp at hx;exact⟨i,hi',hx⟩
 · rw[length_set]at hk;rw[List.getElem?_set];split
   · rename_i e;subst e;rw[show JF (X++[(i:Int)]) (i:Int)=true from dT (by simp)]
   · rename_i e;rw[h.m k hk]
     congr 1
     unfold JF;apply decide_eq_decide.2;rw[mem_append,List.mem_singleton];constructor
     · exact .inl
     · rintro (h|h)
       · exact h
       · omega
 · rw[length_append,ND hi,h.c];rfl
theorem HH.in {X:List Int} {l:List Bool} (h:HH X l) {x:Int} (hx:JF X x=true):sC x 0 ((l.length:Int)-1)=true:=by
 obtain⟨k,hk,rfl⟩:=h.r x (of_decide_eq_true hx);exact OC hk
def start (n:Nat) (b:Nat):List Bool:=(List.replicate n false).set b true
theorem PL (id:Int) {l:List Pt} (hn:l.length<9223372036854775807) (p:Int):1<=yb id l p:=by
 have h:=CA id hn p
 revert h
 generalize yb id l p=v;unfold aO;rw[wm,an];intro h;have key:∀(o:Option Bool) (f:Bool->Option Int),(∀t x,f t=some x->1<=x)->o.bind f=some v->1<=v:=by
  intro o f hf h;cases o with
  | none=>cases h
  | some t=>exact hf t v h
 refine key _ _ (λt x hx=>?_) h;cases t with
 | true=>cases hx;decide
 | false =>
  rw[cF]at hx;cases hbv:bC id l with
  | none=>rw[hbv]at hx;cases hx
  | some w =>
   rw[hbv,an]at hx;cases hw:w.2==p with
   | true=>rw[hw]at hx;cases hx;decide
   | false =>
    rw[hw,cF]at hx;cases ha:at? l p with
    | none=>rw[ha]at hx;cases hx
    | some y =>
     rw[ha,an]at hx
     revert hx
     generalize (cond (!y.2.2.1) _ _:Option Bool)=o;intro hx;cases o with
     | none=>cases hx
     | some t=>cases t<;>(cases hx;decide)
theorem Fh {k:Nat} (h:k<64):IntKind.u64.wrap (k:Int)=(k:Int):=by
 show ((k:Int)%18446744073709551616)=_;omega
theorem PM:∀b:Fin 64,∀p:Fin 6,∃t c,shl .i64 1 (p.1:Int)=some t/\zZ .i64 (b.1:Int) t=(c:Int)/\0<=c/\c<64:=by
 intro b p;have h:∀b:Fin 64,∀p:Fin 6,(decide (0<=zZ .i64 (b.1:Int) (2^p.1))&&decide (zZ .i64 (b.1:Int) (2^p.1)<64))=true:=by decide
 have h1:=h b p;simp only[aT,decide_eq_true_eq]at h1;have h2:∀p:Fin 6,shl .i64 1 (p.1:Int)=some (2^p.1):=by decide
 exact⟨_,_,h2 p,rfl,h1.1,h1.2⟩
theorem OD {r:Int} (h:1<=r):decide (r<=2)=(r==1||r==2):=by
 by_cases h2:r<=2
 · rw[dT h2];rcases (show r=1\/r=2 by omega)with rfl|rfl<;>rfl
 · rw[dF h2,beq_eq_false_iff_ne.2 (show r≠1 by omega),beq_eq_false_iff_ne.2 (show r≠2 by omega)];rfl
theorem Fi (id:Int) {l:List Pt} (hn:l.length<9223372036854775807) (z:Int×Int) (hz:0<=z.2):fk id l z.1 z.2=ba id l z.1 z.2:=by
 unfold fk ba;rw[MH,CA id hn,an];have hr:=PL id hn z.2
 by_cases h1:z.2<(l.length:Int)
 · rw[tC h1,cT];by_cases h2:z.2<6
   · rw[tC h2,an,an,cT,cT,an,OD hr];obtain⟨k,hk⟩:∃k:Nat,z.2=(k:Int):=⟨z.2.toNat,by omega⟩;rw[hk,Fh (by omega)];cases yb id l (k:Int)==1<;>cases yb id l (k:Int)==2<;>rfl
   · rw[tk h2];rfl
 · rw[tk h1];rfl
theorem OE (id:Int) {l:List Pt} (hn:l.length<9223372036854775807):∃c:Nat,c<64/\fY id l=some (c:Int)/\gD id l=some (c:Int):=by
 obtain⟨v,h1,c,h2,rfl⟩:=sQ (step:=λz:Int×Int=>ba id l z.1 z.2) (λk z=>z.2=(k:Int)/\∃c:Nat,c<64/\z.1=(c:Int)) (min l.length 6) (λv=>∃c:Nat,c<64/\v=(c:Int))
  (λk z hk ⟨e1,c,e2,e3⟩=>by
   obtain⟨b,i⟩:=z;simp only at e1 e3;subst e1 e3;left;have k6:k<6:=by omega
   obtain⟨t,d,b1,b2,b3,b4⟩:=PM ⟨c,e2⟩ ⟨k,k6⟩;have hs:ba id l (c:Int) (k:Int)=cond (yb id l (k:Int)==1||yb id l (k:Int)==2) (some (.inl ((d:Int),((k+1:Nat):Int)))) (some (.inl ((c:Int),((k+1:Nat):Int)))):=by
    unfold ba;rw[tC (show (k:Int)<(l.length:Int) by omega),tC (show (k:Int)<6 by omega),cT,an,cT,CA id hn,an,b1,an,b2,sK (by omega)];cases yb id l (k:Int)==1<;>cases yb id l (k:Int)==2<;>rfl
   show ∃y,ba id l (c:Int) (k:Int)=_/\_;rw[hs];cases (yb id l (k:Int)==1||yb id l (k:Int)==2)with
   | true=>exact⟨_,rfl,rfl,d.toNat,by omega,by show d=_;omega⟩
   | false=>exact⟨_,rfl,rfl,c,e2,rfl⟩)
  (λz ⟨e1,c,e2,e3⟩=>by
   obtain⟨b,i⟩:=z;simp only at e1 e3;subst e1 e3;refine⟨(c:Int),?_,c,e2,rfl⟩;show ba id l _ _=_
   unfold ba;by_cases h:l.length<=6
   · rw[Nat.min_eq_left h,tk (by omega)];rfl
   · rw[Nat.min_eq_right (by omega),tC (by omega),tk (show ¬(((6:Nat):Int)<6) by omega)];rfl) (x:=(0,0)) ⟨rfl,0,by omega,rfl⟩
 refine⟨c,h2,by unfold fY;rw[h1];rfl,?_⟩;unfold gD;rw[Fe (f:=λz:Int×Int=>fk id l z.1 z.2) (g:=λz:Int×Int=>ba id l z.1 z.2) (λz=>0<=z.2/\z.2<=9223372036854775806) (λz hz=>Fi id hn z hz.1) (λz y hz hy=>by
  have hy':fk id l z.1 z.2=some (.inl y):=hy;rw[Fi id hn z hz.1]at hy';unfold ba at hy';by_cases h1:z.2<(l.length:Int)
  · by_cases h2:z.2<6
    · rw[tC h1,tC h2,cT,an,cT,CA id hn,an]at hy';have hw:sy (z.2+1)=z.2+1:=sV (by omega) (by omega)
      rw[hw]at hy'
      revert hy'
      generalize (cond (yb id l z.2==1) (some true) (some (yb id l z.2==2)))=o;intro hy';cases o with
      | none=>cases hy'
      | some t =>
       rw[an]at hy';cases t with
       | false=>cases hy';exact⟨by show 0<=z.2+1;omega,by show z.2+1<=_;omega⟩
       | true =>
        rw[cT]at hy';cases hs:shl .i64 1 z.2 with
        | none=>rw[hs]at hy';cases hy'
        | some q=>rw[hs]at hy';cases hy';exact⟨by show 0<=z.2+1;omega,by show z.2+1<=_;omega⟩
    · rw[tC h1,tk h2]at hy';cases hy'
  · rw[tk h1]at hy';cases hy') (x:=(0,0)) ⟨by decide,by decide⟩,h1]
 rfl
structure CW (c:sN):Prop where
 p:0<=c.2.1
 n:c.1.length<9223372036854775807
theorem ID (x:Int):0<=wh .i64 x 255/\wh .i64 x 255<=255:=by
 rw[GL];have h1:(BitVec.ofInt 64 x&&&BitVec.ofInt 64 255).toNat<=255:=by
  rw[BitVec.toNat_and];exact Nat.le_trans Nat.and_le_right (by decide)
 rw[BitVec.toInt_eq_toNat_cond];split<;>omega
theorem GM {c:sN} (h:CW c):∃c' r,dg c=some (c',r)/\CW c'/\0<=r/\r<=255:=by
 unfold dg;have hn:=h.n
 have hp:=h.p;by_cases hlt:c.2.1<(c.1.length:Int)
 · obtain⟨k,hk⟩:∃k:Nat,c.2.1=(k:Int):=⟨c.2.1.toNat,by omega⟩;simp only[tC hlt,cT];rw[hk,sO (by omega),an,sK (by omega)];exact⟨_,_,rfl,⟨by show (0:Int)<=((k+1:Nat):Int);omega,hn⟩,ID _⟩
 · simp only[tk hlt,cF];exact⟨_,_,rfl,⟨hp,hn⟩,ID _⟩
theorem IE {a n:Int} (ha:0<=a) (hn:1<=n):∃r,rem a n=some r/\0<=r/\r<n:=by
 unfold rem;rw[if_neg (by omega)];refine⟨_,rfl,Int.tmod_nonneg _ ha,?_⟩;have:=Int.tmod_lt_of_pos a (show 0<n by omega)
 exact this
theorem v8 {c:sN} (h:CW c) (n:Int):∃c' r,aa c n=some (c',r)/\CW c'/\0<=r/\(1<=n->r<n):=by
 unfold aa;by_cases h0:n<=0
 · rw[dT h0];exact⟨_,_,rfl,h,Int.le_refl 0,λh=>by omega⟩
 · rw[dF h0,cF];by_cases h1:n<=256
   · rw[dT h1,cT];obtain⟨c1,r1,e1,w1,a1,b1⟩:=GM h;obtain⟨r,e,a,b⟩:=IE (n:=n) a1 (by omega);rw[e1,an,e,an];exact⟨_,_,rfl,w1,a,λ_=>b⟩
   · rw[dF h1,cF];obtain⟨c1,r1,e1,w1,a1,b1⟩:=GM h;obtain⟨c2,r2,e2,w2,a2,b2⟩:=GM w1;obtain⟨c3,r3,e3,w3,a3,b3⟩:=GM w2;rw[e1,an,e2,an,e3,an];show ∃c' r,((rem (sy (sy (sy (r1*65536)+sy (r2*256))+r3)) n).bind _)=_/\_
     rw[sV (n:=r1*65536) (by omega) (by omega),sV (n:=r2*256) (by omega) (by omega),sV (n:=r1*65536+r2*256) (by omega) (by omega),sV (n:=r1*65536+r2*256+r3) (by omega) (by omega)];obtain⟨r,e,a,b⟩:=IE (a:=r1*65536+r2*256+r3) (n:=n) (by omega) (by omega);rw[e,an];exact⟨_,_,rfl,w3,a,λ_=>b⟩
theorem uJ {c:sN} (h:CW c) {n:Nat} (hn:1<=n):∃c' k,aa c (n:Int)=some (c',((k:Nat):Int))/\CW c'/\k<n:=by
 obtain⟨c',r,e,w,a,b⟩:=v8 h (n:Int);have b:=b (by omega)
 exact⟨c',r.toNat,by rw[e];congr 2;omega,w,by omega⟩
theorem GN {c:sN} (h:CW c) (n:Int):∃c' r,bN c n=some (c',r)/\CW c':=by
 obtain⟨c',r,e,w,_⟩:=v8 h n;unfold bN;rw[e,an];exact⟨_,_,rfl,w⟩
theorem wH {c:sN} (h:CW c) {l:List Int} (hl:1<=l.length):∃c' x,ah c l=some (c',x)/\CW c'/\x∈l:=by
 obtain⟨c',k,e,w,b⟩:=uJ h hl;unfold ah;rw[e,an];show ∃c'' x,(at? l (k:Int)).bind _=_/\_
 rw[sO b,an];exact⟨_,_,rfl,w,getElem_mem b⟩
theorem M3 {c:sN} (h:CW c) {l:List (List UInt8)} (hl:1<=l.length):∃c' x,bc c l=some (c',x)/\CW c'/\x∈l:=by
 obtain⟨c',k,e,w,b⟩:=uJ h hl;unfold bc;rw[e,an];show ∃c'' x,(at? l (k:Int)).bind _=_/\_
 rw[sO b,an];exact⟨_,_,rfl,w,getElem_mem b⟩
theorem OF {code:List Int} (h:code.length<=1048576):∃c,eB code=some c/\CW c:=by
 obtain⟨v,h1,-⟩:=sQ (step:=λz:Int×Int=>cP code z.1 z.2) (λk z=>z.2=(k:Int)) (min code.length 4000) (λ_=>True)
  (λk z hk e=>by
   obtain⟨x,i⟩:=z;simp only at e;subst e;left;have k4:k<4000:=by omega
   have hs:∃y,cP code x (k:Int)=some (.inl (y,((k+1:Nat):Int))):=by
    unfold cP;rw[tC (show (k:Int)<(code.length:Int) by omega),tC (show (k:Int)<4000 by omega),cT,an,cT,sO (by omega),an,sK (by omega)];exact⟨_,rfl⟩
   obtain⟨y,hs⟩:=hs;exact⟨_,hs,rfl⟩)
  (λz e=>by
   obtain⟨x,i⟩:=z;simp only at e;subst e;refine⟨x,?_,trivial⟩;show cP code x _=_
   unfold cP;by_cases h:code.length<=4000
   · rw[Nat.min_eq_left h,tk (by omega)];rfl
   · rw[Nat.min_eq_right (by omega),tC (by omega),tk (show ¬(((4000:Nat):Int)<4000) by omega)];rfl) (x:=(sy (762762+(code.length:Int)),0)) rfl
 unfold eB;show ∃c,(loop (λz=>cP code z.1 z.2) (sy (762762+(code.length:Int)),0)).bind (λd=>some (code,0,d))=some c/\CW c
 rw[h1,an];exact⟨_,rfl,by show (0:Int)<=0;omega,by show code.length<_;omega⟩

abbrev zC (x:Int):Prop:=-9223372036854775808<=x/\x<=9223372036854775807
structure VT (v:tH) (n:Nat):Prop where
 p:vU v (n:Int)=true
 r:∀r∈v.1,zC r.2.2
theorem VT.len {v:tH} {n:Nat} (h:VT v n):1<=n/\n<=6/\v.2.length=n/\v.1.length<=6:=by
 have hp:=h.p;unfold vU sC at hp;simp only[aT,Bool.not_eq_true',Bool.or_eq_false_iff,Bool.not_eq_false',aT,decide_eq_true_eq,decide_eq_false_iff_not,bne_eq_false_iff_eq]at hp;obtain⟨⟨h1,h2,h3⟩,_⟩:=hp;omega
theorem Qe {v:tH} (n:Int) (h1:v.1.length<=1000) (h2:v.2.length<=1000) (hr:∀r∈v.1,zC r.2.2):aQ v n=some (vU v n):=JB n (by omega) (by omega) hr
theorem JH {v:tH} (h1:v.1.length<=1000) (h2:v.2.length<=1000):aR v=some v:=by
 unfold aR;unfold sT;have m:(AD:Nat)=4294967296:=rfl
 rw[if_pos (by show 0+v.1.length<=AD;omega),an,if_pos (by show 0+v.2.length<=AD;omega),an];rfl
theorem OG {x v:tH} {n:Nat} (hv:VT v n) (h1:x.1.length<=1000) (h2:x.2.length<=1000) (hr:∀r∈x.1,zC r.2.2):∃y ok,eq x v=some (y,ok)/\VT y n:=by
 obtain⟨l1,l2,l3,l4⟩:=hv.len;unfold eq;rw[Qe _ h1 h2 hr,an];cases h:vU x (v.2.length:Int)with
 | true=>exact⟨_,_,rfl,by rw[l3]at h;exact h,hr⟩
 | false =>
  rw[Bool.not_false,cT,JH (by omega) (by omega),an];exact⟨_,_,rfl,hv⟩
theorem OH {v:tH} {n:Nat} (hv:VT v n):aQ v (v.2.length:Int)=some true:=by
 obtain⟨l1,l2,l3,l4⟩:=hv.len;rw[Qe _ (by omega) (by omega) hv.r,l3,hv.p]
theorem PN {v:tH} {n:Nat} (hv:VT v n) (port id:Int):∃y ok,fx v port id=some (y,ok)/\VT y n:=by
 obtain⟨l1,l2,l3,l4⟩:=hv.len;unfold fx;rw[OH hv,an,Bool.not_true,cF,yu,an,an,JH (by omega) (by omega),sV (n:=(v.2.length:Int)-1) (by omega) (by omega)];cases hin:sC port 0 ((v.2.length:Int)-1)with
 | false=>exact⟨_,_,rfl,hv⟩
 | true =>
  obtain⟨k,hk,rfl⟩:=OB hin;simp only[Bool.not_true,cF,an,vI hk,List.getElem?_eq_getElem hk];obtain⟨y,ok,e,hy⟩:=OG (x:=(v.1,v.2.set k id)) hv (by show v.1.length<=_;omega) (by show (v.2.set k id).length<=_;rw[length_set];omega) hv.r;rw[e];exact⟨_,_,rfl,hy⟩
theorem OI {v:tH} (hn:v.1.length<9223372036854775807) (id:Int):∃r,bu v id=some r/\(r = -1\/∃k:Nat,k<v.1.length/\r=(k:Int)):=by
 rw[Ox];unfold ao;obtain⟨b,h1,h2⟩:=sQ (β:=Unit⊕Int) (step:=λz=>aE v id z) (λk i=>i=(k:Int)) v.1.length (λb=>∀r,b=.inr r->∃k:Nat,k<v.1.length/\r=(k:Int))
  (λk i hk h=>by
   subst h;unfold aE;rw[tC (by omega),cT,sO hk,an];cases (v.1[k].1==id)with
   | true=>exact .inr ⟨_,rfl,λr hr=>⟨k,hk,by cases hr;rfl⟩⟩
   | false=>exact .inl ⟨_,rfl,sK (by omega)⟩)
  (λi h=>by
   subst h;unfold aE;rw[tk (by omega)];exact⟨_,rfl,λr hr=>by cases hr⟩) (x:=0) rfl
 rw[h1,an];cases b with
 | inl _=>exact⟨_,rfl,.inl rfl⟩
 | inr r=>exact⟨r,rfl,.inr (h2 r rfl)⟩
theorem wg {α:Type} {l:List α} {a b:Nat} (h1:a<=b) (h2:b<=l.length):cut l (a:Int) (b:Int)=some ((l.take b).drop a):=by
 unfold cut;rw[if_pos (by omega),if_pos (by omega),if_pos (by omega)];simp
theorem sE {α:Type} {xs ys:List α} (h:xs.length+ys.length<=4294967296):sT xs ys=some (xs++ys):=by
 unfold sT;rw[if_pos (show xs.length+ys.length<=AD from h)]
theorem PP {v:tH} {n:Nat} (hv:VT v n) (id:Int):∃y ok,fy v id=some (y,ok)/\VT y n:=by
 obtain⟨l1,l2,l3,l4⟩:=hv.len;obtain⟨r,hr,hr2⟩:=OI (v:=v) (by omega) id;unfold fy;rw[hr,an,OH hv,an,Bool.not_true,cF,JH (by omega) (by omega),an,an,an];rcases hr2 with rfl|⟨k,hk,rfl⟩
 · exact⟨_,_,rfl,hv⟩
 · rw[tk (by omega),cF,show (0:Int)=((0:Nat):Int)from rfl,wg (by omega) (by omega),an,sK (by omega),wg (by omega) (by omega)];have t1:((v.1.take k).drop 0).length<=6:=by simp;omega
   have t2:((v.1.take v.1.length).drop (k+1)).length<=6:=by simp;omega
   rw[sE (by show 0+_<=_;omega),an,an,nil_append,sE (by omega),an];obtain⟨y,ok,e,hy⟩:=OG (x:=((v.1.take k).drop 0++(v.1.take v.1.length).drop (k+1),v.2)) hv (by show ((v.1.take k).drop 0++(v.1.take v.1.length).drop (k+1)).length<=_;rw[length_append];omega) (by show v.2.length<=_;omega) (λr hr=>by
    rcases mem_append.1 hr with hr|hr
    · exact hv.r r (List.mem_of_mem_take (List.mem_of_mem_drop hr))
    · exact hv.r r (List.mem_of_mem_take (List.mem_of_mem_drop hr)))
   rw[e];exact⟨_,_,rfl,hy⟩
theorem QF {v:tH} {n:Nat} (hv:VT v n) {r:sM} (hr:zC r.2.2):∃y,aH v r=some y/\y.1.length<=1000/\y.2.length<=1000/\∀r∈y.1,zC r.2.2:=by
 obtain⟨l1,l2,l3,l4⟩:=hv.len;obtain⟨d,h1,h2,h3⟩:=sQ (step:=λz:Bool×Int×List sM=>aD v r z.1 z.2.1 z.2.2) (λk z=>z.2.1=(k:Int)/\z.2.2.length<=2*k/\∀x∈z.2.2,zC x.2.2) v.1.length (λd=>d.2.length<=12/\∀x∈d.2,zC x.2.2)
  (λk z hk ⟨e1,e2,e3⟩=>by
   obtain⟨t,i,b⟩:=z;simp only at e1 e2 e3;subst e1;left;have hvk:zC v.1[k].2.2:=hv.r _ (getElem_mem hk)
   show ∃y,aD v r t (k:Int) b=_/\_;unfold aD;simp only[tC (show (k:Int)<(v.1.length:Int) by omega),cT,sO hk,an,sK (show k<9223372036854775807 by omega),Int.not_lt];have ha:∀(xs:List sM) (y:sM),xs.length<=100->sT xs [y]=some (xs++[y]):=λxs y h=>sE (by show xs.length+1<=_;omega)
   have key:∀(tt:Bool),((cond (!t) (some (decide (v.1[k].1>=r.1))) (some false))=some tt->∃y:Bool×Int×List sM,(cond tt ((sT b [r]).bind λzs37=>cond (v.1[k].1 != r.1) ((sT zs37 [v.1[k]]).bind λzs56=>some (.inl (true,((k+1:Nat):Int),zs56))) (some (.inl (true,((k+1:Nat):Int),zs37)))) (cond (v.1[k].1 != r.1) ((sT b [v.1[k]]).bind λzs56_1=>some (.inl (t,((k+1:Nat):Int),zs56_1))) (some (.inl (t,((k+1:Nat):Int),b)))):Option ((Bool×Int×List sM)⊕(Bool×List sM)))=some (.inl y)/\y.2.1=((k+1:Nat):Int)/\y.2.2.length<=2*(k+1)/\∀x∈y.2.2,zC x.2.2):=by
    intro tt _;cases tt with
    | true =>
     rw[cT,ha b r (by omega),an];cases v.1[k].1 != r.1 with
     | true =>
      rw[cT,ha (b++[r]) _ (by simp;omega),an];refine⟨_,rfl,rfl,by simp;omega,λx hx=>?_⟩;simp at hx;rcases hx with hx|rfl|rfl
      · exact e3 x hx
      · exact hr
      · exact hvk
     | false =>
      refine⟨_,rfl,rfl,by simp;omega,λx hx=>?_⟩;simp at hx;rcases hx with hx|rfl
      · exact e3 x hx
      · exact hr
    | false =>
     rw[cF];cases v.1[k].1 != r.1 with
     | true =>
      rw[cT,ha b _ (by omega),an];refine⟨_,rfl,rfl,by simp;omega,λx hx=>?_⟩;simp at hx;rcases hx with hx|rfl
      · exact e3 x hx
      · exact hvk
     | false=>exact⟨_,rfl,rfl,by show b.length<=_;omega,e3⟩
   cases ht:(cond (!t) (some (decide (v.1[k].1>=r.1))) (some false))with
   | none=>cases t<;>cases ht
   | some tt =>
    rw[an];exact key tt ht)
  (λz ⟨e1,e2,e3⟩=>by
   obtain⟨t,i,b⟩:=z;simp only at e1 e2 e3;subst e1;refine⟨(t,b),?_,by show b.length<=12;omega,e3⟩;show aD v r t _ b=_
   unfold aD;rw[tk (by omega),cF]) (x:=(false,0,[])) ⟨rfl,by simp,λx hx=>absurd hx not_mem_nil⟩
 unfold aH;rw[sE (by show 0+v.2.length<=_;omega),an,h1,an,nil_append];cases d.1 with
 | true=>exact⟨_,rfl,by show d.2.length<=_;omega,by show v.2.length<=_;omega,h3⟩
 | false =>
  rw[Bool.not_false,cT,sE (by show d.2.length+1<=_;omega),an];refine⟨_,rfl,by show (d.2++[r]).length<=_;simp;omega,by show v.2.length<=_;omega,λx hx=>?_⟩;have hx:x∈d.2++[r]:=hx
  simp at hx;rcases hx with hx|rfl
  · exact h3 x hx
  · exact hr
theorem QG {v:tH} {n:Nat} (hv:VT v n) {r:sM} (hr:zC r.2.2):∃y ok,fA v r=some (y,ok)/\VT y n:=by
 obtain⟨x,hx,h1,h2,h3⟩:=QF hv hr;unfold fA;rw[OH hv,an,Bool.not_true,cF,hx,an];obtain⟨y,ok,e,hy⟩:=OG hv h1 h2 h3;rw[e];exact⟨_,_,rfl,hy⟩
theorem PQ (a b:Int):zC (wh .i64 a b):=by
 rw[GL];have h1:=BitVec.toInt_lt (x:=BitVec.ofInt 64 a&&&BitVec.ofInt 64 b)
 have h2:=BitVec.le_toInt (x:=BitVec.ofInt 64 a&&&BitVec.ofInt 64 b);exact⟨by omega,by omega⟩
theorem PR {c:sN} (h:CW c) {n:Nat} (h1:1<=n) (h6:n<=6):∃c' r,gU c (n:Int)=some (c',r)/\CW c'/\zC r.2.2:=by
 obtain⟨t,ht,_⟩:=Jz (i:=(n:Int)) (by unfold sC;rw[dT (by omega),dT (by omega)];rfl);unfold gU;rw[ht,an];obtain⟨c1,r1,e1,w1,_⟩:=v8 h (sy ((sy (t-1))+1));obtain⟨c2,r2,e2,w2,_⟩:=wH w1 (l:=[1,2,3,2]) (by decide);obtain⟨c3,r3,e3,w3,_⟩:=v8 w2 (sy ((sy (t-1))+1));rw[e1,an,e2,an,e3,an];exact⟨_,_,rfl,w3,PQ _ _⟩

theorem OJ {n:Nat} (h1:1<=n) (h6:n<=6):fv (n:Int)=some ([(1,uP (n:Int),uP (n:Int))],List.replicate n 1):=by
 have hin:sC (n:Int) 1 6=true:=by unfold sC;rw[dT (by omega),dT (by omega)];rfl
 obtain⟨t,ht,ht2⟩:=Jz hin;obtain⟨d,hd,rfl⟩:=sQ (step:=λz:Int×List Int=>em (n:Int) z.1 z.2) (λk z=>z.1=(k:Int)/\z.2=List.replicate k 1) n (λd=>d=List.replicate n 1)
  (λk z hk ⟨e1,e2⟩=>by
   obtain⟨i,l⟩:=z;simp only at e1 e2;subst e1 e2;left;refine⟨(((k+1:Nat):Int),List.replicate k 1++[1]),?_,rfl,?_⟩
   · show em (n:Int) (k:Int) _=_;unfold em;rw[tC (by omega),cT,sE (by simp;omega),an,sK (by omega)]
   · show List.replicate k 1++[1]=_;rw[←List.replicate_succ'])
  (λz ⟨e1,e2⟩=>by
   obtain⟨i,l⟩:=z;simp only at e1 e2;subst e1 e2;refine⟨_,?_,rfl⟩;show em (n:Int) _ _=_
   unfold em;rw[tk (by omega),cF]) (x:=(0,[])) ⟨rfl,rfl⟩
 unfold fv;rw[yu,an,hin,Bool.not_true,cF,ht,an,hd,an,ht2]
theorem PS {n:Nat} (h1:1<=n) (h6:n<=6):VT ([(1,uP (n:Int),uP (n:Int))],List.replicate n 1) n:=by
 have hin:sC (n:Int) 1 6=true:=by unfold sC;rw[dT (by omega),dT (by omega)];rfl
 have ht:=GK hin;have hrow:ao ([(1,uP (n:Int),uP (n:Int))],List.replicate n 1) 1=some 0:=by
  unfold ao;rw[wX (k:=1) (b:=.inr 0) (by rfl)];rfl
 have hb:(Bw .i64 (uP (n:Int)) (uP (n:Int)) != 0)=false:=by
  rcases Ff hin with h|h|h|h|h|h<;>rw[h]<;>decide
 refine⟨?_,λr hr=>?_⟩
 · unfold vU;rw[hin];show (!(!true||(((List.replicate n (1:Int)).length:Int) != (n:Int)||decide ((1:Int)>6)))&&(!(List.range 1).any _&&!(List.range (List.replicate n (1:Int)).length).any _))=true
   rw[List.length_replicate];have e1:(((n:Int)) != (n:Int))=false:=by simp
   rw[e1];have e2:(List.range 1).any (z7 ([(1,uP (n:Int),uP (n:Int))],List.replicate n 1) (n:Int))=false:=by
    show (z7 ([(1,uP (n:Int),uP (n:Int))],List.replicate n 1) (n:Int) 0||false)=false;unfold z7;show ((!(sC 1 1 99)||((decide (0<0)&&_)||(!(sC (uP (n:Int)) 0 (uP (n:Int)))||(Bw .i64 (uP (n:Int)) (uP (n:Int)) != 0))))||false)=false
    rw[hb];have:sC (uP (n:Int)) 0 (uP (n:Int))=true:=by unfold sC;rw[dT (by omega),dT (by omega)];rfl
    rw[this];rfl
   rw[e2];have e3:(List.range n).any (Aq ([(1,uP (n:Int),uP (n:Int))],List.replicate n 1))=false:=by
    apply Bool.eq_false_iff.2;intro h;obtain⟨k,hk,hx⟩:=any_eq_true.1 h;have hk:=mem_range.1 hk
    unfold Aq at hx;have:(List.replicate n (1:Int))[k]?=some 1:=by rw[List.getElem?_replicate,if_pos hk]
    simp only[this,hrow]at hx
    revert hx;decide
   rw[e3];rfl
 · have hr:r∈[((1:Int),uP (n:Int),uP (n:Int))]:=hr;simp at hr;subst hr;exact⟨by show _<=uP (n:Int);omega,by show uP (n:Int)<=_;omega⟩
theorem MI {c:sN} (h:CW c) {n:Nat} (h1:1<=n) (h6:n<=6):∃c' v,cM c (n:Int)=some (c',v)/\CW c'/\VT v n:=by
 unfold cM;obtain⟨c0,m,e0,w0,hm⟩:=uJ h (n:=6) (by decide);rw[OJ h1 h6,an];have e0':aa c 6=some (c0,(m:Int)):=e0
 rw[e0',an];obtain⟨d,hd,g1,g2⟩:=sQ (step:=λz:Int×List Int×Int×Int×List sM×List Int=>es (n:Int) z.1 z.2.1 z.2.2.1 z.2.2.2.1 z.2.2.2.2.1 z.2.2.2.2.2) (λk z=>z.1=(m:Int)-(k:Int)/\CW (z.2.1,z.2.2.1,z.2.2.2.1)/\VT z.2.2.2.2 n) m (λd=>CW (d.1,d.2.1,d.2.2.1)/\VT d.2.2.2 n)
  (λk z hk ⟨a1,a2,a3⟩=>by
   obtain⟨i,x,y,s,v⟩:=z;simp only at a1 a2 a3;left;show ∃y',es (n:Int) i x y s v.1 v.2=_/\_
   unfold es;have hi:decide (i>0)=true:=dT (by omega)
   have hw:sy (i-1)=(m:Int)-((k+1:Nat):Int):=by rw[sV (by omega) (by omega)];omega
   obtain⟨c1,r1,e1,w1,_⟩:=v8 a2 4;rw[hi,cT,e1,an,hw];show ∃y',cond (r1==0) _ _=_/\_
   cases r1==0 with
   | true =>
    obtain⟨c2,r2,e2,w2,_⟩:=v8 w1 (n:Int);obtain⟨c3,r3,e3,w3,_⟩:=v8 w2 3;obtain⟨v',ok,e4,g4⟩:=PN a3 r2 (sy (1+r3));have e4':fx (v.1,v.2) r2 (sy (1+r3))=some (v',ok):=e4
    rw[cT,e2,an,e3,an,e4',an];exact⟨_,rfl,rfl,w3,g4⟩
   | false =>
    rw[cF];show ∃y',cond (r1==1) _ _=_/\_
    cases r1==1 with
    | true =>
     obtain⟨c2,r2,e2,w2,_⟩:=v8 w1 2;obtain⟨v',ok,e4,g4⟩:=PP a3 (sy (2+r2));have e4':fy (v.1,v.2) (sy (2+r2))=some (v',ok):=e4
     rw[cT,e2,an,e4',an];exact⟨_,rfl,rfl,w2,g4⟩
    | false =>
     obtain⟨c2,r2,e2,w2,hr2⟩:=PR w1 h1 h6;obtain⟨v',ok,e4,g4⟩:=QG a3 hr2;have e4':fA (v.1,v.2) r2=some (v',ok):=e4
     rw[cF,e2,an,e4',an];exact⟨_,rfl,rfl,w2,g4⟩)
  (λz ⟨a1,a2,a3⟩=>by
   obtain⟨i,x,y,s,v⟩:=z;simp only at a1 a2 a3;refine⟨(x,y,s,v),?_,a2,a3⟩;show es (n:Int) i x y s v.1 v.2=_
   unfold es;have hi:decide (i>0)=false:=dF (by omega)
   rw[hi,cF]) (x:=((m:Int),c0.1,c0.2.1,c0.2.2,[(1,uP (n:Int),uP (n:Int))],List.replicate n 1)) ⟨by simp,w0,PS h1 h6⟩
 rw[hd,an];exact⟨_,_,rfl,g1,g2⟩
theorem OK {c:sN} (h:CW c):∃c' v,eZ c=some (c',v)/\CW c'/\Dp v=true:=by
 obtain⟨c1,k1,e1,w1,b1⟩:=uJ h (n:=5) (by decide);obtain⟨c2,x2,e2,w2,b2⟩:=wH w1 (l:=[0,1,2,5,10,100]) (by decide);obtain⟨c3,x3,e3,w3,b3⟩:=wH w2 (l:=[0,1,2,9,10]) (by decide);obtain⟨c4,k4,e4,w4,b4⟩:=uJ w3 (n:=5) (by decide);obtain⟨c5,k5,e5,w5,b5⟩:=uJ w4 (n:=4) (by decide);have e1':aa c 5=some (c1,(k1:Int)):=e1
 have e4':aa c3 5=some (c4,(k4:Int)):=e4;have e5':aa c4 4=some (c5,(k5:Int)):=e5
 unfold eZ;rw[e1',an,e2,an,e3,an,e4',an,e5',an];refine⟨_,_,rfl,w5,?_⟩;show Dp (sy (1+(k1:Int)),x2,x3,sy (1+(k4:Int)),(k5:Int))=true
 rw[sV (by omega) (by omega),sV (by omega) (by omega)];have i1:sC (1+(k1:Int)) 1 99=true:=by unfold sC;rw[dT (by omega),dT (by omega)];rfl
 have i4:sC (1+(k4:Int)) 1 99=true:=by unfold sC;rw[dT (by omega),dT (by omega)];rfl
 have i5:sC (k5:Int) 0 7=true:=by unfold sC;rw[dT (by omega),dT (by omega)];rfl
 have i2:sC x2 0 100000=true:=by
  have:∀x∈([0,1,2,5,10,100]:List Int),sC x 0 100000=true:=by decide
  exact this x2 b2
 have i3:sC x3 0 10=true:=by
  have:∀x∈([0,1,2,9,10]:List Int),sC x 0 10=true:=by decide
  exact this x3 b3
 unfold Dp;rw[i1,i2,i3,i4,i5];rfl
theorem KP {c:sN} (h:CW c) {n:Nat} (h6:n<=6):∃c' l,cL c (n:Int)=some (c',l)/\CW c'/\l.length=n/\∀x∈l,zj x=true:=by
 unfold cL;obtain⟨d,hd,g1,g2,g3⟩:=sQ (step:=λz:Int×List Int×Int×Int×List Pt=>ep (n:Int) z.1 z.2.1 z.2.2.1 z.2.2.2.1 z.2.2.2.2) (λk z=>z.1=(k:Int)/\CW (z.2.1,z.2.2.1,z.2.2.2.1)/\z.2.2.2.2.length=k/\∀x∈z.2.2.2.2,zj x=true) n (λd=>CW (d.1,d.2.1,d.2.2.1)/\d.2.2.2.length=n/\∀x∈d.2.2.2,zj x=true)
  (λk z hk ⟨a1,a2,a3,a4⟩=>by
   obtain⟨i,x,y,s,l⟩:=z;simp only at a1 a2 a3 a4;subst a1;left;show ∃y',ep (n:Int) (k:Int) x y s l=_/\_
   unfold ep;obtain⟨c1,up,e1,w1⟩:=GN a2 4;obtain⟨c2,cost,e2,w2,b2⟩:=wH w1 (l:=[1,1,2,5,10]) (by decide);have hc:sC cost 1 1000=true:=by
    have:∀x∈([1,1,2,5,10]:List Int),sC x 1 1000=true:=by decide
    exact this cost b2
   have ha:∀q:Pt,sT l [q]=some (l++[q]):=λq=>sE (by show l.length+1<=_;omega);have hin:∀q:Pt,zj q=true->(l++[q]).length=k+1/\∀x∈l++[q],zj x=true:=λq hq=>⟨by simp;omega,λx hx=>by
    simp at hx;rcases hx with hx|rfl
    · exact a4 x hx
    · exact hq⟩
   rw[tC (by omega),cT,e1,an,e2,an,sK (by omega)];show ∃y',cond (!up) _ _=_/\_
   cases up with
   | true =>
    simp only[ha,Bool.not_true,cF,an];obtain⟨q1,q2⟩:=hin (false,cost,false,0,0,0,0,0) (by unfold zj;rw[hc];rfl);exact⟨_,rfl,rfl,w2,q1,q2⟩
   | false =>
    obtain⟨c3,has,e3,w3⟩:=GN w2 4;rw[Bool.not_false,cT,e3,an];show ∃y',cond (!has) _ _=_/\_
    cases has with
    | true =>
     simp only[ha,Bool.not_true,cF,an];obtain⟨q1,q2⟩:=hin (true,cost,false,0,0,0,0,0) (by unfold zj;rw[hc];rfl);exact⟨_,rfl,rfl,w3,q1,q2⟩
    | false =>
     obtain⟨c4,v,e4,w4,hv⟩:=OK w3;simp only[ha,Bool.not_false,cT,an,e4];obtain⟨q1,q2⟩:=hin (true,cost,true,v.1,v.2.1,v.2.2.1,v.2.2.2.1,v.2.2.2.2) (by unfold zj;rw[hc];exact hv);exact⟨_,rfl,rfl,w4,q1,q2⟩)
  (λz ⟨a1,a2,a3,a4⟩=>by
   obtain⟨i,x,y,s,l⟩:=z;simp only at a1 a2 a3 a4;subst a1;refine⟨(x,y,s,l),?_,a2,a3,a4⟩;show ep (n:Int) _ x y s l=_
   unfold ep;rw[tk (by omega),cF]) (x:=(0,c.1,c.2.1,c.2.2,[])) ⟨rfl,h,rfl,λx hx=>absurd hx not_mem_nil⟩
 rw[hd,an];exact⟨_,_,rfl,g1,g2,g3⟩

def lt (a b:sD):Prop:=a.1<b.1\/(a.1=b.1/\a.2.1<b.2.1)
def same (a b:sD):Prop:=a.1=b.1/\a.2.1=b.2.1
theorem lt_trans {a b c:sD} (h:lt a b) (k:lt b c):lt a c:=by unfold lt at *;omega
theorem JI {a b:sD} (h:lt a b):¬same a b:=by unfold lt same at *;omega
structure FB (l:List sD):Prop where
 e:∀x∈l,vL x=true
 o:l.Pairwise lt
 n:l.length<=12
theorem FB.ok {l:List sD} (h:FB l):y6 l=true:=by
 unfold y6;have hn:=h.n
 rw[dT (show (l.length:Int)<=12 by omega),Bool.and_true,Bool.not_eq_true'];apply Bool.eq_false_iff.2;intro ha;obtain⟨k,hk,hx⟩:=any_eq_true.1 ha;have hk:=mem_range.1 hk
 unfold ya at hx;simp only[List.getElem?_eq_getElem hk,h.e _ (getElem_mem hk),Bool.not_true,Bool.false_or,aT,decide_eq_true_eq]at hx;obtain⟨h0,hx⟩:=hx;simp only[List.getElem?_eq_getElem (show k-1<l.length by omega),Bool.not_eq_true']at hx;have hl:=pairwise_iff_getElem.1 h.o (k-1) k (by omega) hk (by omega)
 unfold zk at hx;simp only[Bool.or_eq_false_iff,Bool.and_eq_false_iff,decide_eq_false_iff_not,bF]at hx;unfold lt at hl;omega
theorem Qf {l:List sD} (h:FB l):cR l=some true:=by
 have hn:=h.n;rw[Ow (by omega),h.ok]
theorem FB.copy {l:List sD} (h:FB l):cg l=some l:=by
 have hn:=h.n;unfold cg;rw[sE (by show 0+l.length<=_;omega)];rfl
theorem Qg {l:List sD} (hn:l.length<9223372036854775807) (tag mac:Int):∃r,ck l tag mac=some r/\((r = -1/\∀x∈l,¬(x.1=tag/\x.2.1=mac))\/∃k:Nat,∃hk:k<l.length,r=(k:Int)/\l[k].1=tag/\l[k].2.1=mac):=by
 obtain⟨v,h1,h2⟩:=sQ (step:=λz=>aS l tag mac z) (λk i=>i=(k:Int)/\∀x∈l.take k,¬(x.1=tag/\x.2.1=mac)) l.length (λv=>(v=.inl ()/\∀x∈l,¬(x.1=tag/\x.2.1=mac))\/∃k:Nat,∃hk:k<l.length,v=.inr (k:Int)/\l[k].1=tag/\l[k].2.1=mac)
  (λk i hk ⟨e,hx⟩=>by
   subst e;have hs:aS l tag mac (k:Int)=cond (l[k].1==tag&&l[k].2.1==mac) (some (.inr (.inr (k:Int)))) (some (.inl ((k+1:Nat):Int))):=by
    unfold aS;simp only[tC (show (k:Int)<(l.length:Int) by omega),cT,sO hk,an,sK (show k<9223372036854775807 by omega)];cases l[k].1==tag<;>rfl
   cases hb:(l[k].1==tag&&l[k].2.1==mac)with
   | true =>
    simp only[aT,beq_iff_eq]at hb;refine .inr ⟨_,by rw[hs];rw[show (l[k].1==tag&&l[k].2.1==mac)=true by simp[hb.1,hb.2]];rfl,.inr ⟨k,hk,rfl,hb.1,hb.2⟩⟩
   | false =>
    refine .inl ⟨_,by rw[hs,hb];rfl,rfl,λx hx'=>?_⟩;rw[take_add_one,List.getElem?_eq_getElem hk,mem_append]at hx';rcases hx' with hx'|hx'
    · exact hx x hx'
    · simp at hx';subst hx';intro ⟨q1,q2⟩;rw[q1,q2]at hb;simp at hb)
  (λi ⟨e,hx⟩=>by
   subst e;rw[take_length]at hx;refine⟨.inl (),?_,.inl ⟨rfl,hx⟩⟩;show aS l tag mac _=_
   unfold aS;rw[tk (by omega),cF]) (x:=0) ⟨rfl,by simp⟩
 unfold ck;rw[h1,an];rcases h2 with ⟨rfl,h2⟩|⟨k,hk,rfl,h2⟩
 · exact⟨_,rfl,.inl ⟨rfl,h2⟩⟩
 · exact⟨_,rfl,.inr ⟨k,hk,rfl,h2⟩⟩
def zD (x e:sD):Bool:=cond (x.1 != e.1) (decide (x.1<e.1)) (decide (x.2.1<e.2.1))
theorem M4 {x e:sD} (h:zD x e=true):lt x e:=by
 unfold zD at h;unfold lt;by_cases hx:x.1=e.1
 · rw[show (x.1 != e.1)=false by simp[hx],cF]at h;exact .inr ⟨hx,of_decide_eq_true h⟩
 · rw[show (x.1 != e.1)=true from bne_iff_ne.2 hx,cT]at h;exact .inl (of_decide_eq_true h)
theorem KQ {x e:sD} (h:zD x e=false):lt e x\/same x e:=by
 unfold zD at h;unfold lt same;by_cases hx:x.1=e.1
 · rw[show (x.1 != e.1)=false by simp[hx],cF]at h;have:=of_decide_eq_false h
   omega
 · rw[show (x.1 != e.1)=true from bne_iff_ne.2 hx,cT]at h;have:=of_decide_eq_false h
   omega
def xR (x e:sD):Bool:=x.1 != e.1||x.2.1 != e.2.1
theorem CB {x e:sD} (h:xR x e=true):¬same x e:=by
 unfold xR at h;unfold same;simp only[Bool.or_eq_true,bne_iff_ne]at h;omega
theorem Ia {x e:sD} (h:xR x e=false):same x e:=by
 unfold xR at h;unfold same;simp only[Bool.or_eq_false_iff,bne_eq_false_iff_eq]at h;exact h
theorem A5 {l:List sD} {x:sD} (h:l.Pairwise lt) (k:∀y∈l,lt y x):(l++[x]).Pairwise lt:=by
 rw[pairwise_append];exact⟨h,List.pairwise_singleton _ _,λa ha b hb=>by simp at hb;subst hb;exact k a ha⟩
theorem JJ {l:List sD} (h:FB l) {e:sD} (he:vL e=true) (hroom:(∃x∈l,same x e)\/l.length<12):∃y,fB l e=some y/\FB y:=by
 have hn:=h.n;have hlt:∀i j (hi:i<l.length) (hj:j<l.length),i<j->lt l[i] l[j]:=pairwise_iff_getElem.1 h.o
 obtain⟨d,hd,g⟩:=sQ (step:=λz:Bool×Int×List sD=>dh l e z.1 z.2.1 z.2.2)
  (λk z=>z.2.1=(k:Int)/\(∀x∈z.2.2,vL x=true)/\z.2.2.Pairwise lt /\
   (z.1=false->z.2.2=l.take k/\∀x∈l.take k,lt x e) /\
   (z.1=true->(∀x∈z.2.2,∀j (hj:j<l.length),k<=j->lt x l[j])/\(∀j (hj:j<l.length),k<=j->lt e l[j])/\z.2.2.length<=k+1/\((∃x∈l.take k,same x e)->z.2.2.length<=k))) l.length
  (λd=>(∀x∈d.2,vL x=true)/\d.2.Pairwise lt/\(d.1=false->d.2=l/\∀x∈l,lt x e)/\(d.1=true->d.2.length<=l.length+1/\((∃x∈l,same x e)->d.2.length<=l.length)))
  (λk z hk ⟨e1,e2,e3,e4,e5⟩=>by
   obtain⟨t,i,b⟩:=z;simp only at e1 e2 e3 e4 e5;subst e1;left;have hf:vL l[k]=true:=h.e _ (getElem_mem hk)
   have hbl:b.length<=100:=by
    cases t with
    | false=>rw[(e4 rfl).1,List.length_take];omega
    | true=>have:=(e5 rfl).2.2.1;omega
   have ha:∀(xs:List sD) (y:sD),xs.length<=101->sT xs [y]=some (xs++[y]):=λxs y h=>sE (by show xs.length+1<=_;omega);have htk:l.take (k+1)=l.take k++[l[k]]:=by rw[take_add_one,List.getElem?_eq_getElem hk];rfl
   have hs:dh l e t (k:Int) b=cond (!t&&!(zD l[k] e))
    (cond (xR l[k] e) (some (.inl (true,((k+1:Nat):Int),b++[e]++[l[k]]))) (some (.inl (true,((k+1:Nat):Int),b++[e]))))
    (cond (xR l[k] e) (some (.inl (t,((k+1:Nat):Int),b++[l[k]]))) (some (.inl (t,((k+1:Nat):Int),b)))):=by
    have hA:cf l[k] e.1 e.2.1=some (zD l[k] e):=by unfold cf zD;cases (l[k].1 != e.1)<;>rfl
    have hO:(cond (l[k].1 != e.1) (some true) (some (l[k].2.1 != e.2.1)))=some (xR l[k] e):=by unfold xR;cases (l[k].1 != e.1)<;>rfl
    unfold dh;simp only[tC (show (k:Int)<(l.length:Int) by omega),cT,sO hk,an,sK (show k<9223372036854775807 by omega),hA,hO,ha b e (by omega),ha b l[k] (by omega),ha (b++[e]) l[k] (by rw[length_append];show b.length+1<=_;omega)];cases t<;>cases zD l[k] e<;>rfl
   show ∃y,dh l e t (k:Int) b=_/\_;rw[hs];cases t with
   | false =>
    obtain⟨f1,f2⟩:=e4 rfl;subst f1;cases hah:zD l[k] e with
    | true =>
     have hl:=M4 hah;have ho:xR l[k] e=true:=by
      cases ho:xR l[k] e with
      | true=>rfl
      | false=>exact absurd (Ia ho) (JI hl)
     rw[ho];refine⟨_,rfl,rfl,λx hx=>?_,?_,λ_=>⟨by show l.take k++[l[k]]=_;rw[htk],λx hx=>?_⟩,(λht=>by cases ht)⟩
     · have hx:x∈l.take k++[l[k]]:=hx;rcases mem_append.1 hx with hx|hx
       · exact e2 x hx
       · simp at hx;subst hx;exact hf
     · show (l.take k++[l[k]]).Pairwise lt;rw[←htk];exact List.Pairwise.sublist (List.take_sublist _ _) h.o
     · rw[htk]at hx;rcases mem_append.1 hx with hx|hx
       · exact f2 x hx
       · simp at hx;subst hx;exact hl
    | false =>
     have hge:=KQ hah;have hpe:(l.take k++[e]).Pairwise lt:=A5 e3 f2
     have hee:∀x∈l.take k++[e],vL x=true:=λx hx=>by
      rcases mem_append.1 hx with hx|hx
      · exact e2 x hx
      · simp at hx;subst hx;exact he
     have hlater:∀j (hj:j<l.length),k+1<=j->lt e l[j]:=λj hj hkj=>by
      have h1:=hlt k j hk hj (by omega);rcases hge with h2|h2
      · exact lt_trans h2 h1
      · unfold same at h2;unfold lt at h1 ⊢;omega
     have htl:∀x∈l.take k,∀j (hj:j<l.length),k+1<=j->lt x l[j]:=λx hx j hj hkj=>lt_trans (f2 x hx) (hlater j hj hkj);have hlen:(l.take k).length=k:=by rw[List.length_take];omega
     cases ho:xR l[k] e with
     | true =>
      have hek:lt e l[k]:=by
       rcases hge with h2|h2
       · exact h2
       · exact absurd h2 (CB ho)
      refine⟨_,rfl,rfl,λx hx=>?_,?_,(λht=>by cases ht),λ_=>⟨λx hx j hj hkj=>?_,hlater,?_,λ⟨x,hx,hxe⟩=>?_⟩⟩
      · have hx:x∈l.take k++[e]++[l[k]]:=hx;rcases mem_append.1 hx with hx|hx
        · exact hee x hx
        · simp at hx;subst hx;exact hf
      · show (l.take k++[e]++[l[k]]).Pairwise lt;refine A5 hpe λy hy=>?_;rcases mem_append.1 hy with hy|hy
        · exact lt_trans (f2 y hy) hek
        · simp at hy;subst hy;exact hek
      · have hx:x∈l.take k++[e]++[l[k]]:=hx;rcases mem_append.1 hx with hx|hx
        · rcases mem_append.1 hx with hx|hx
          · exact htl x hx j hj hkj
          · simp at hx;subst hx;exact hlater j hj hkj
        · simp at hx;subst hx;exact hlt k j hk hj (by omega)
      · show (l.take k++[e]++[l[k]]).length<=_;simp only[length_append,hlen,List.length_singleton];omega
      · rw[htk]at hx;rcases mem_append.1 hx with hx|hx
        · exact absurd hxe (JI (f2 x hx))
        · simp at hx;subst hx;exact absurd hxe (CB ho)
     | false =>
      refine⟨_,rfl,rfl,hee,hpe,(λht=>by cases ht),λ_=>⟨λx hx j hj hkj=>?_,hlater,?_,λ_=>?_⟩⟩
      · have hx:x∈l.take k++[e]:=hx;rcases mem_append.1 hx with hx|hx
        · exact htl x hx j hj hkj
        · simp at hx;subst hx;exact hlater j hj hkj
      · show (l.take k++[e]).length<=_;simp only[length_append,hlen,List.length_singleton];omega
      · show (l.take k++[e]).length<=_;simp only[length_append,hlen,List.length_singleton];omega
   | true =>
    obtain⟨f1,f2,f3,f4⟩:=e5 rfl;cases ho:xR l[k] e with
    | true =>
     refine⟨_,rfl,rfl,λx hx=>?_,A5 e3 λy hy=>f1 y hy k hk (Nat.le_refl _),(λht=>by cases ht),λ_=>⟨λx hx j hj hkj=>?_,λj hj hkj=>f2 j hj (by omega),?_,λ⟨x,hx,hxe⟩=>?_⟩⟩
     · have hx:x∈b++[l[k]]:=hx;rcases mem_append.1 hx with hx|hx
       · exact e2 x hx
       · simp at hx;subst hx;exact hf
     · have hx:x∈b++[l[k]]:=hx;rcases mem_append.1 hx with hx|hx
       · exact f1 x hx j hj (by omega)
       · simp at hx;subst hx;exact hlt k j hk hj (by omega)
     · show (b++[l[k]]).length<=_;rw[length_append];show b.length+1<=_;omega
     · show (b++[l[k]]).length<=_;rw[htk]at hx;rcases mem_append.1 hx with hx|hx
       · have:=f4 ⟨x,hx,hxe⟩;rw[length_append];show b.length+1<=_;omega
       · simp at hx;subst hx;exact absurd hxe (CB ho)
    | false =>
     exact⟨_,rfl,rfl,e2,e3,(λht=>by cases ht),λ_=>⟨λx hx j hj hkj=>f1 x hx j hj (by omega),λj hj hkj=>f2 j hj (by omega),by show b.length<=_;omega,λ_=>by show b.length<=_;omega⟩⟩)
  (λz ⟨e1,e2,e3,e4,e5⟩=>by
   obtain⟨t,i,b⟩:=z;simp only at e1 e2 e3 e4 e5;subst e1;rw[take_length]at e4 e5;refine⟨(t,b),?_,e2,e3,e4,λht=>⟨(e5 ht).2.2.1,(e5 ht).2.2.2⟩⟩;show dh l e t _ b=_
   unfold dh;rw[tk (by omega),cF]) (x:=(false,0,[])) ⟨rfl,λx hx=>absurd hx not_mem_nil,List.Pairwise.nil,λ_=>⟨by simp,λx hx=>by simp at hx⟩,(λht=>by cases ht)⟩
 obtain⟨g1,g2,g3,g4⟩:=g;unfold fB;rw[hd,an];obtain⟨t,b⟩:=d;simp only at g1 g2 g3 g4;cases t with
 | true =>
  refine⟨b,rfl,g1,g2,?_⟩;obtain⟨k1,k2⟩:=g4 rfl;rcases hroom with hr|hr
  · have:=k2 hr;omega
  · omega
 | false =>
  obtain⟨k1,k2⟩:=g3 rfl;have hr:l.length<12:=by
   rcases hroom with ⟨x,hx,hxe⟩|hr
   · exact absurd hxe (JI (k2 x hx))
   · exact hr
  show ∃y,((sT b [e]).bind λzs=>some zs)=some y/\FB y;rw[k1,sE (by show l.length+1<=_;omega),an];refine⟨_,rfl,λx hx=>?_,A5 h.o k2,by rw[length_append];show l.length+1<=12;omega⟩;rcases mem_append.1 hx with hx|hx
  · exact h.e x hx
  · simp at hx;subst hx;exact he
theorem OL (e:sD):cQ e=some (vL e):=by rw[MC];exact Jy e
theorem KS {l:List sD} (h:FB l) (tag mac port:Int):∃y,f0 l tag mac port=some y/\FB y:=by
 have hn:=h.n;obtain⟨r,hr,hr2⟩:=Qg (l:=l) (by omega) tag mac;unfold f0;rw[hr,an,Qf h,an,OL,an,h.copy,an,Bool.not_true,cF,an];cases he:vL (tag,mac,port,0,false)with
 | false=>exact⟨_,rfl,h⟩
 | true =>
  rcases hr2 with ⟨rfl,hr2⟩|⟨k,hk,rfl,q1,q2⟩
  · rw[Bool.not_true,cF];by_cases hlen:l.length<12
    · obtain⟨y,hy,hy2⟩:=JJ h he (.inr hlen);refine⟨y,?_,hy2⟩;rw[hy];show (cond (decide ((l.length:Int)>=12)) _ _)=_
      rw[dF (by omega)];rfl
    · refine⟨l,?_,h⟩;show (cond (decide ((l.length:Int)>=12)) _ _)=_
      rw[dT (by omega)];rfl
  · simp only[Bool.not_true,cF,dT (show (k:Int)>=0 by omega),cT,sO hk,an,tk (show ¬(k:Int)<0 by omega)];obtain⟨y,hy,hy2⟩:=JJ h he (.inl ⟨l[k],getElem_mem hk,q1,q2⟩);cases l[k].2.2.2.2 with
    | true=>exact⟨_,rfl,h⟩
    | false=>exact⟨y,by rw[hy];rfl,hy2⟩
theorem IF {l:List sD} (h:FB l) (tag mac port:Int):∃y ok,dR l tag mac port=some (y,ok)/\FB y:=by
 have hn:=h.n;obtain⟨r,hr,hr2⟩:=Qg (l:=l) (by omega) tag mac;unfold dR;rw[hr,an,Qf h,an,OL,an,h.copy,an,Bool.not_true,cF,an];cases he:vL (tag,mac,port,0,true)with
 | false=>exact⟨_,_,rfl,h⟩
 | true =>
  rcases hr2 with ⟨rfl,hr2⟩|⟨k,hk,rfl,q1,q2⟩
  · rw[Bool.not_true,cF];by_cases hlen:l.length<12
    · obtain⟨y,hy,hy2⟩:=JJ h he (.inr hlen);refine⟨y,true,?_,hy2⟩;rw[hy];show (cond (decide ((l.length:Int)>=12)) _ _)=_
      rw[dF (by omega)];rfl
    · refine⟨l,false,?_,h⟩;show (cond (decide ((l.length:Int)>=12)) _ _)=_
      rw[dT (by omega)];rfl
  · rw[Bool.not_true,cF,tk (show ¬(k:Int)<0 by omega),cF,an];obtain⟨y,hy,hy2⟩:=JJ h he (.inl ⟨l[k],getElem_mem hk,q1,q2⟩);rw[an,cF,hy];exact⟨y,true,rfl,hy2⟩

theorem QH {id n:Nat} (i1:1<=id) (i2:id<=99) (h1:1<=n) (h6:n<=6):∃ps rs qs,fw (id:Int) (n:Int)=some ((id:Int),[],ps,[],rs,qs,0,0,0,0,0):=by
 have hin:sC (n:Int) 1 6=true:=by unfold sC;rw[dT (by omega),dT (by omega)];rfl
 have hid:sC (id:Int) 1 99=true:=by unfold sC;rw[dT (by omega),dT (by omega)];rfl
 obtain⟨d,hd,ps,rfl⟩:=sQ (step:=λz:Int×Int×List UInt8×Int×Int×Int×Int×Int×List Pt×List sD=>eo (n:Int) z.1 z.2.1 z.2.2.1 z.2.2.2.1 z.2.2.2.2.1 z.2.2.2.2.2.1 z.2.2.2.2.2.2.1 z.2.2.2.2.2.2.2.1 z.2.2.2.2.2.2.2.2.1 z.2.2.2.2.2.2.2.2.2)
  (λk z=>∃ps:List Pt,ps.length=k/\z=((k:Int),(id:Int),[],0,0,0,0,0,ps,[])) n (λd=>∃ps:List Pt,d=((id:Int),[],0,0,0,0,0,ps,[]))
  (λk z hk ⟨ps,hp,e⟩=>by
   subst e;left;refine⟨(((k+1:Nat):Int),(id:Int),[],0,0,0,0,0,ps++[(false,1,false,0,0,0,0,0)],[]),?_,ps++[(false,1,false,0,0,0,0,0)],by simp;exact hp,rfl⟩;show eo (n:Int) (k:Int) (id:Int) [] 0 0 0 0 0 ps []=_
   unfold eo;rw[tC (by omega),cT,sE (by show ps.length+1<=_;omega),an,sK (by omega)])
  (λz ⟨ps,hp,e⟩=>by
   subst e;refine⟨((id:Int),[],0,0,0,0,0,ps,[]),?_,ps,rfl⟩;show eo (n:Int) _ (id:Int) [] 0 0 0 0 0 ps []=_
   unfold eo;rw[tk (by omega),cF]) (x:=(0,(id:Int),[],0,0,0,0,0,[],[])) ⟨[],rfl,rfl⟩
 unfold fw;rw[yu,an,hid,Bool.not_true,cF,yu,an,hin,an,Bool.not_true,cF,OJ h1 h6,an,hd,an];exact⟨_,_,_,rfl⟩
theorem JK {c:sN} (h:CW c):∃c' x,cc c=some (c',x)/\CW c':=by
 obtain⟨c1,x,e,w,_⟩:=wH h (l:=[11,12,13,14]) (by decide);unfold cc;rw[e,an];exact⟨_,_,rfl,w⟩
def OM (b:sx):Prop:=b.2.2.2.2.2.2.2.1=0/\b.2.2.2.2.2.2.2.2.1=0/\b.2.2.2.2.2.2.2.2.2.1=0
theorem FM {c:sN} (h:CW c):∃c' b,ct c=some (c',b)/\CW c'/\wU b/\tI b=true/\OM b:=by
 obtain⟨c1,p,e1,w1,b1⟩:=uJ h (n:=4) (by decide);obtain⟨c2,q,e2,w2,b2⟩:=uJ w1 (n:=5) (by decide);have e1':aa c 4=some (c1,(p:Int)):=e1
 have e2':aa c1 5=some (c2,(q:Int)):=e2;have hp:sy (1+(p:Int))=((p+1:Nat):Int):=by rw[sV (by omega) (by omega)];omega
 have hq:sy (1+(q:Int))=((q+1:Nat):Int):=by rw[sV (by omega) (by omega)];omega
 obtain⟨ps,rs,qs,e3⟩:=QH (id:=q+1) (n:=p+1) (by omega) (by omega) (by omega) (by omega);obtain⟨c4,name,e4,w4,b4⟩:=M3 w2 (l:=[[],[121,97,114,100],[98,49]]) (by decide);obtain⟨c5,pts,e5,w5,l5,a5⟩:=KP w4 (n:=p+1) (by omega);obtain⟨c6,v,e6,w6,a6⟩:=MI w5 (n:=p+1) (by omega) (by omega);obtain⟨c7,m,e7,w7,b7⟩:=uJ w6 (n:=6) (by decide);have e7':aa c6 6=some (c7,(m:Int)):=e7
 have hname:name.length<=10:=by
  have:∀x∈([[],[121,97,114,100],[98,49]]:List (List UInt8)),x.length<=10:=by decide
  exact this name b4
 obtain⟨d,hd,g1,g2,g3,g4⟩:=sQ (step:=λz:Int×List Int×Int×Int×Int×List UInt8×Int×Int×Int×Int×Int×List sD=>eu (c1,(p:Int)) z.1 z.2.1 z.2.2.1 z.2.2.2.1 z.2.2.2.2.1 z.2.2.2.2.2.1 z.2.2.2.2.2.2.1 z.2.2.2.2.2.2.2.1 z.2.2.2.2.2.2.2.2.1 z.2.2.2.2.2.2.2.2.2.1 z.2.2.2.2.2.2.2.2.2.2.1 z.2.2.2.2.2.2.2.2.2.2.2)
  (λk z=>z.1=(m:Int)-(k:Int)/\CW (z.2.1,z.2.2.1,z.2.2.2.1)/\(z.2.2.2.2.1=((q+1:Nat):Int)/\z.2.2.2.2.2.1=name)/\(z.2.2.2.2.2.2.1,z.2.2.2.2.2.2.2.1,z.2.2.2.2.2.2.2.2.1,z.2.2.2.2.2.2.2.2.2.1,z.2.2.2.2.2.2.2.2.2.2.1)=((0:Int),(0:Int),(0:Int),(0:Int),(0:Int))/\FB z.2.2.2.2.2.2.2.2.2.2.2) m
  (λd=>CW (d.1,d.2.1,d.2.2.1)/\(d.2.2.2.1=((q+1:Nat):Int)/\d.2.2.2.2.1=name)/\(d.2.2.2.2.2.1,d.2.2.2.2.2.2.1,d.2.2.2.2.2.2.2.1,d.2.2.2.2.2.2.2.2.1,d.2.2.2.2.2.2.2.2.2.1)=((0:Int),(0:Int),(0:Int),(0:Int),(0:Int))/\FB d.2.2.2.2.2.2.2.2.2.2)
  (λk z hk ⟨a1,a2,a3,a4,a5⟩=>by
   obtain⟨i,x,y,s,bid,nm,n6,n7,n8,n9,n10,f⟩:=z;simp only at a1 a2 a3 a4 a5;left;show ∃y',eu (c1,(p:Int)) i x y s bid nm n6 n7 n8 n9 n10 f=_/\_
   unfold eu;have hi:decide (i>0)=true:=dT (by omega)
   have hw:sy (i-1)=(m:Int)-((k+1:Nat):Int):=by rw[sV (by omega) (by omega)];omega
   obtain⟨d1,r1,f1,v1,_⟩:=v8 a2 3;obtain⟨d2,r2,f2,v2⟩:=JK v1;obtain⟨d3,r3,f3,v3,_⟩:=v8 v2 (sy (1+(p:Int)));obtain⟨y',f4,g4⟩:=KS a5 (sy (1+r1)) r2 r3;rw[hi,cT,f1,an,f2,an,f3,an,f4,an,hw];exact⟨_,rfl,rfl,v3,a3,a4,g4⟩)
  (λz ⟨a1,a2,a3,a4,a5⟩=>by
   obtain⟨i,x,y,s,bid,nm,n6,n7,n8,n9,n10,f⟩:=z;simp only at a1 a2 a3 a4 a5;refine⟨(x,y,s,bid,nm,n6,n7,n8,n9,n10,f),?_,a2,a3,a4,a5⟩;show eu (c1,(p:Int)) i x y s bid nm n6 n7 n8 n9 n10 f=_
   unfold eu;have hi:decide (i>0)=false:=dF (by omega)
   rw[hi,cF]) (x:=((m:Int),c7.1,c7.2.1,c7.2.2,((q+1:Nat):Int),name,0,0,0,0,0,[])) ⟨by simp,w7,⟨rfl,rfl⟩,rfl,⟨λx hx=>absurd hx not_mem_nil,List.Pairwise.nil,by simp⟩⟩
 obtain⟨dc,dp,ds,did,dn,n6,n7,n8,n9,n10,df⟩:=d;simp only at g1 g2 g3 g4;obtain⟨rfl,rfl⟩:=g2;simp only[Prod.mk.injEq]at g3;obtain⟨rfl,rfl,rfl,rfl,rfl⟩:=g3;obtain⟨c8,st,e8,w8⟩:=GN g1 3;obtain⟨z1,z2,z3,z4⟩:=a6.len;have hin:∀n:Nat,n<=1000000->sC (n:Int) 0 1000000=true:=λn hn=>by unfold sC;rw[dT (by omega),dT (by omega)];rfl
 have hlast:∀(c:sN) (F:List sD),CW c->FB F->∃c' b,((aa c 5).bind λt59=>(ah t59.1 ([0,1,5,1000000]:List Int)).bind λt63=>some (t63.1,((((q+1:Nat):Int),dn,pts,F,v.1,v.2,t59.2,0,0,0,t63.2):sx)))=some (c',b)/\CW c'/\wU b/\tI b=true/\OM b:=by
  intro c F hc hF;obtain⟨k1,t,f1,u1,b1⟩:=uJ hc (n:=5) (by decide);have f1':aa c 5=some (k1,(t:Int)):=f1
  obtain⟨k2,x,f2,u2,b2⟩:=wH u1 (l:=[0,1,5,1000000]) (by decide);have hx:sC x 0 1000000=true:=by
   have:∀x∈([0,1,5,1000000]:List Int),sC x 0 1000000=true:=by decide
   exact this x b2
  have hFn:=hF.n;rw[f1',an,f2,an];refine⟨_,_,rfl,u2,⟨by show pts.length<_;omega,by show F.length<_;omega,by show v.1.length<_;omega,by show v.2.length<_;omega,a6.r⟩,?_,rfl,rfl,rfl⟩;unfold tI vd;show (!((List.range pts.length).any (B2 pts))&&(sC ((q+1:Nat):Int) 1 99&&(!(decide ((dn.length:Int)>10))&&(sC (pts.length:Int) 1 6&&(y6 F&&(vU v (pts.length:Int)&&(sC (t:Int) 0 1000000&&(sC 0 0 1000000&&(sC 0 0 1000000&&(sC 0 0 1000000&&sC x 0 1000000))))))))))=true
  have q1:(List.range pts.length).any (B2 pts)=false:=by
   apply Bool.eq_false_iff.2;intro ha;obtain⟨k,hk,hx⟩:=any_eq_true.1 ha;have hk:=mem_range.1 hk
   unfold B2 at hx;simp only[List.getElem?_eq_getElem hk,a5 _ (getElem_mem hk)]at hx
   revert hx;decide
  have q2:sC ((q+1:Nat):Int) 1 99=true:=by unfold sC;rw[dT (by omega),dT (by omega)];rfl
  have q3:decide ((dn.length:Int)>10)=false:=dF (by omega);have q4:sC (pts.length:Int) 1 6=true:=by unfold sC;rw[dT (by omega),dT (by omega)];rfl
  rw[q1,q2,q3,q4,hF.ok,l5,a6.p,hin t (by omega),hx];rfl
 have e8':bN (dc,dp,ds) 3=some (c8,st):=e8;unfold ct;rw[e1',an];show ∃c' b,((aa c1 5).bind _)=_/\_
 rw[e2',an];show ∃c' b,((fw (sy (1+(q:Int))) (sy (1+(p:Int)))).bind _)=_/\_
 rw[hp,hq,e3,an,e4,an];show ∃c' b,((cL c4 ((p+1:Nat):Int)).bind _)=_/\_
 rw[e5,an];show ∃c' b,((cM c5 ((p+1:Nat):Int)).bind _)=_/\_
 rw[e6,an];show ∃c' b,((aa c6 6).bind _)=_/\_
 rw[e7',an];show ∃c' b,((loop _ ((m:Int),c7.1,c7.2.1,c7.2.2,((q+1:Nat):Int),dn,0,0,0,0,0,[])).bind _)=_/\_
 rw[hd,an];show ∃c' b,((bN (dc,dp,ds) 3).bind _)=_/\_
 rw[e8',an];cases st with
 | false =>
  show ∃c' b,((aa c8 5).bind _)=_/\_;exact hlast c8 df w8 g4
 | true =>
  obtain⟨k1,x1,f1,u1⟩:=JK w8;obtain⟨k2,x2,f2,u2,_⟩:=v8 u1 ((p+1:Nat):Int);obtain⟨F,ok,f3,hF⟩:=IF g4 1 x1 x2;show ∃c' b,((cc c8).bind _)=_/\_
  rw[f1,an];show ∃c' b,((aa k1 ((p+1:Nat):Int)).bind _)=_/\_
  rw[f2,an];show ∃c' b,((dR df 1 x1 x2).bind _)=_/\_
  rw[f3,an];exact hlast k2 F u2 hF
theorem NE {c:sN} (h:CW c):∃c' b,ct c=some (c',b)/\CW c'/\wU b/\tI b=true:=by
 obtain⟨c',b,h1,h2,h3,h4,_⟩:=FM h;exact⟨c',b,h1,h2,h3,h4⟩

noncomputable def CC (b:sx) (c p:Int):Int:=(bV b c p).getD 0
def num (name:List Int) (n:Int):sB:=([1,3,1]++name,2,n,[],[])
def Dq (r:sM) (c:Nat):Int:=match c with|0=>1|1=>r.2.1|_=>r.2.2
noncomputable def vC (b:sx) (c:Nat):List sB:=(List.range b.2.2.1.length).map λk=>num [2,((c+1:Nat):Int),((k+1:Nat):Int)] (CC b ((c+1:Nat):Int) (k:Int))
def wI (b:sx) (c:Nat):List sB:=b.2.2.2.2.1.map λr=>num [3,((c+1:Nat):Int),r.1] (Dq r c)
def BJ (b:sx):List sB:=b.2.2.2.1.map λe=>num [4,1,e.1,e.2.1] (sy (e.2.2.1+1))
noncomputable def vz (b:sx):List sB:=z8 b++(List.range 4).flatMap (vC b)++(List.range 3).flatMap (wI b)++BJ b
theorem En {out:List sB} (name:List Int) (n i:Int) (h1:out.length<=900) (h2:name.length<=900):((aZ n).bind λv=>(aG v name).bind λt=>(sT out [t]).bind λzs=>some (Sum.inl (sy (i+1),zs):(Int×List sB)⊕List sB))=some (Sum.inl (sy (i+1),out++[num name n])):=by
 unfold aZ aG;rw[an,sE (by show 3+name.length<=_;omega),an,an,sE (by show out.length+1<=_;omega),an];rfl
theorem PT {b:sx} (h:wU b) (hq:b.2.2.1.length=b.2.2.2.2.2.1.length) (h6:b.2.2.1.length<=6) (c:Nat) (out:List sB) (ho:out.length<=500):loop (λz=>bD b ((c+1:Nat):Int) z.1 z.2) (0,out)=some (out++vC b c):=by
 obtain⟨v,h1,rfl⟩:=sQ (step:=λz:Int×List sB=>bD b ((c+1:Nat):Int) z.1 z.2) (λk z=>z.1=(k:Int)/\z.2=out++(List.range k).map λk=>num [2,((c+1:Nat):Int),((k+1:Nat):Int)] (CC b ((c+1:Nat):Int) (k:Int))) b.2.2.1.length (λv=>v=out++vC b c)
  (λk z hk ⟨e1,e2⟩=>by
   obtain⟨i,l⟩:=z;simp only at e1 e2;subst e1;left;obtain⟨n,hn⟩:=PK h ((c+1:Nat):Int) hk hq;have hv:CC b ((c+1:Nat):Int) (k:Int)=n:=by unfold CC;rw[hn];rfl
   have hl:l.length<=900:=by rw[e2];simp;omega
   refine⟨(((k+1:Nat):Int),l++[num [2,((c+1:Nat):Int),((k+1:Nat):Int)] n]),?_,rfl,?_⟩
   · show bD b ((c+1:Nat):Int) (k:Int) l=_;unfold bD;rw[tC (by omega),cT,hn,an,En _ _ _ hl (by simp),sK (by omega)]
   · show l++[num _ n]=_;rw[e2,range_succ,map_append,←append_assoc,List.map_singleton,hv])
  (λz ⟨e1,e2⟩=>by
   obtain⟨i,l⟩:=z;simp only at e1 e2;subst e1;refine⟨l,?_,e2⟩;show bD b ((c+1:Nat):Int) _ l=_
   unfold bD;rw[tk (by omega),cF]) (x:=(0,out)) ⟨rfl,by simp⟩
 exact h1
theorem ON {b:sx} (h:wU b) (hq:b.2.2.1.length=b.2.2.2.2.2.1.length) (h6:b.2.2.1.length<=6) (out:List sB) (ho:out.length<=100):loop (λz=>bW b z.1 z.2) (1,out)=some (out++(List.range 4).flatMap (vC b)):=by
 have hg:∀c,(vC b c).length<=6:=λc=>by unfold vC;rw[length_map,List.length_range];exact h6
 obtain⟨v,h1,rfl⟩:=sQ (step:=λz:Int×List sB=>bW b z.1 z.2) (λk z=>z.1=((k+1:Nat):Int)/\z.2=out++(List.range k).flatMap (vC b)/\z.2.length<=100+6*k) 4 (λv=>v=out++(List.range 4).flatMap (vC b))
  (λk z hk ⟨e1,e2,e3⟩=>by
   obtain⟨i,l⟩:=z;simp only at e1 e2 e3;subst e1;left;have hg':=hg k
   refine⟨(((k+1+1:Nat):Int),l++vC b k),?_,rfl,?_,by show (l++vC b k).length<=_;rw[length_append];omega⟩
   · show bW b ((k+1:Nat):Int) l=_;unfold bW;rw[dT (show ((k+1:Nat):Int)<=4 by omega),cT,PT h hq h6 k l (by omega),an,sK (by omega)]
   · show l++vC b k=_;rw[e2,range_succ,List.flatMap_append,←append_assoc];simp)
  (λz ⟨e1,e2,e3⟩=>by
   obtain⟨i,l⟩:=z;simp only at e1 e2 e3;subst e1;exact⟨l,rfl,e2⟩) (x:=(1,out)) ⟨rfl,by simp,by show out.length<=_;omega⟩
 exact h1
theorem QI {b:sx} (h6:b.2.2.2.2.1.length<=6) {c:Nat} (hc:c<3) (out:List sB) (ho:out.length<=500):loop (λz=>bE b ((c+1:Nat):Int) z.1 z.2) (0,out)=some (out++wI b c):=by
 obtain⟨v,h1,rfl⟩:=sQ (step:=λz:Int×List sB=>bE b ((c+1:Nat):Int) z.1 z.2) (λk z=>z.1=(k:Int)/\z.2=out++(b.2.2.2.2.1.take k).map λr=>num [3,((c+1:Nat):Int),r.1] (Dq r c)) b.2.2.2.2.1.length (λv=>v=out++wI b c)
  (λk z hk ⟨e1,e2⟩=>by
   obtain⟨i,l⟩:=z;simp only at e1 e2;subst e1;left;have hl:l.length<=900:=by rw[e2];simp;omega
   refine⟨(((k+1:Nat):Int),l++[num [3,((c+1:Nat):Int),b.2.2.2.2.1[k].1] (Dq b.2.2.2.2.1[k] c)]),?_,rfl,?_⟩
   · show bE b ((c+1:Nat):Int) (k:Int) l=_;unfold bE;rw[tC (by omega),cT,sO hk,an];generalize b.2.2.2.2.1[k]=r;have hw:sy (((c+1:Nat):Int)-1)=(c:Int):=by rw[sV (by omega) (by omega)];omega
     have hx:(ix [1,r.2.1,r.2.2].length (sy (((c+1:Nat):Int)-1))).bind (λj91=>([1,r.2.1,r.2.2][j91]?).bind λx92=>(aZ x92).bind λt93=>(aG t93 [3,((c+1:Nat):Int),r.1]).bind λt98=>(sT l [t98]).bind λzs100=>some (Sum.inl (sy ((k:Int)+1),zs100):(Int×List sB)⊕List sB))=(aZ (Dq r c)).bind λt93=>(aG t93 [3,((c+1:Nat):Int),r.1]).bind λt98=>(sT l [t98]).bind λzs100=>some (Sum.inl (sy ((k:Int)+1),zs100)):=by
      rw[hw,vI (show c<[1,r.2.1,r.2.2].length from hc),an];rcases (show c=0\/c=1\/c=2 by omega)with rfl|rfl|rfl<;>rfl
     rw[hx,En _ _ _ hl (by simp),sK (by omega)]
   · show l++[num _ _]=_;rw[e2,take_add_one,List.getElem?_eq_getElem hk,map_append,←append_assoc];rfl)
  (λz ⟨e1,e2⟩=>by
   obtain⟨i,l⟩:=z;simp only at e1 e2;subst e1;rw[take_length]at e2;refine⟨l,?_,e2⟩;show bE b ((c+1:Nat):Int) _ l=_
   unfold bE;rw[tk (by omega),cF]) (x:=(0,out)) ⟨rfl,by simp⟩
 exact h1
theorem PU {b:sx} (h6:b.2.2.2.2.1.length<=6) (out:List sB) (ho:out.length<=200):loop (λz=>bY b z.1 z.2) (1,out)=some (out++(List.range 3).flatMap (wI b)):=by
 have hg:∀c,(wI b c).length<=6:=λc=>by unfold wI;rw[length_map];exact h6
 obtain⟨v,h1,rfl⟩:=sQ (step:=λz:Int×List sB=>bY b z.1 z.2) (λk z=>z.1=((k+1:Nat):Int)/\z.2=out++(List.range k).flatMap (wI b)/\z.2.length<=200+6*k) 3 (λv=>v=out++(List.range 3).flatMap (wI b))
  (λk z hk ⟨e1,e2,e3⟩=>by
   obtain⟨i,l⟩:=z;simp only at e1 e2 e3;subst e1;left;have hg':=hg k
   refine⟨(((k+1+1:Nat):Int),l++wI b k),?_,rfl,?_,by show (l++wI b k).length<=_;rw[length_append];omega⟩
   · show bY b ((k+1:Nat):Int) l=_;unfold bY;rw[dT (show ((k+1:Nat):Int)<=3 by omega),cT,QI h6 hk l (by omega),an,sK (by omega)]
   · show l++wI b k=_;rw[e2,range_succ,List.flatMap_append,←append_assoc];simp)
  (λz ⟨e1,e2,e3⟩=>by
   obtain⟨i,l⟩:=z;simp only at e1 e2 e3;subst e1;exact⟨l,rfl,e2⟩) (x:=(1,out)) ⟨rfl,by simp,by show out.length<=_;omega⟩
 exact h1
theorem QJ {b:sx} (h12:b.2.2.2.1.length<=12) (out:List sB) (ho:out.length<=500):loop (λz=>bq b z.1 z.2) (0,out)=some (out++BJ b):=by
 obtain⟨v,h1,rfl⟩:=sQ (step:=λz:Int×List sB=>bq b z.1 z.2) (λk z=>z.1=(k:Int)/\z.2=out++(b.2.2.2.1.take k).map λe=>num [4,1,e.1,e.2.1] (sy (e.2.2.1+1))) b.2.2.2.1.length (λv=>v=out++BJ b)
  (λk z hk ⟨e1,e2⟩=>by
   obtain⟨i,l⟩:=z;simp only at e1 e2;subst e1;left;have hl:l.length<=900:=by rw[e2];simp;omega
   refine⟨(((k+1:Nat):Int),l++[num [4,1,b.2.2.2.1[k].1,b.2.2.2.1[k].2.1] (sy (b.2.2.2.1[k].2.2.1+1))]),?_,rfl,?_⟩
   · show bq b (k:Int) l=_;unfold bq;rw[tC (by omega),cT,sO hk,an,En _ _ _ hl (by simp),sK (by omega)]
   · show l++[num _ _]=_;rw[e2,take_add_one,List.getElem?_eq_getElem hk,map_append,←append_assoc];rfl)
  (λz ⟨e1,e2⟩=>by
   obtain⟨i,l⟩:=z;simp only at e1 e2;subst e1;rw[take_length]at e2;refine⟨l,?_,e2⟩;show bq b _ l=_
   unfold bq;rw[tk (by omega),cF]) (x:=(0,out)) ⟨rfl,by simp⟩
 exact h1
structure tW (b:sx):Prop where
 w:wU b
 ok:tI b=true
 p:∀x∈b.2.2.1,zj x=true
 id:sC b.1 1 99=true
 name:b.2.1.length<=10
 n1:1<=b.2.2.1.length
 n6:b.2.2.1.length<=6
 f:y6 b.2.2.2.1=true
 v:vU (b.2.2.2.2.1,b.2.2.2.2.2.1) (b.2.2.1.length:Int)=true
 c:vd b=true
theorem CR {b:sx} (h:wU b) (hb:tI b=true):tW b:=by
 have hb':=hb;unfold tI at hb;simp only[aT,Bool.not_eq_true',decide_eq_false_iff_not]at hb;obtain⟨h1,h2,h3,h4,h5,h6,h7⟩:=hb;refine⟨h,hb',λx hx=>?_,h2,by omega,?_,?_,h5,h6,h7⟩
 · obtain⟨k,hk,rfl⟩:=getElem_of_mem hx;cases hp:zj b.2.2.1[k]with
   | true=>rfl
   | false =>
    have:=any_eq_false.1 h1 k (mem_range.2 hk);unfold B2 at this;simp only[List.getElem?_eq_getElem hk,hp]at this;exact absurd rfl this
 · unfold sC at h4;simp only[aT,decide_eq_true_eq]at h4;omega
 · unfold sC at h4;simp only[aT,decide_eq_true_eq]at h4;omega
theorem tW.vt {b:sx} (h:tW b):VT (b.2.2.2.2.1,b.2.2.2.2.2.1) b.2.2.1.length:=⟨h.v,h.w.r⟩
theorem tW.f12 {b:sx} (h:tW b):b.2.2.2.1.length<=12:=by
 have hf:=h.f;unfold y6 at hf;simp only[aT,decide_eq_true_eq]at hf;omega
theorem M5 {b:sx} (h:tW b):bG b=some (vz b):=by
 obtain⟨v1,v2,v3,v4⟩:=h.vt.len;have v3':b.2.2.2.2.2.1.length=b.2.2.1.length:=v3
 have v4':b.2.2.2.2.1.length<=6:=v4;have hp:((List.range 4).flatMap (vC b)).length<=24:=by
  have hg:∀c,(vC b c).length<=6:=λc=>by unfold vC;rw[length_map,List.length_range];exact h.n6
  have h0:=hg 0;have h1:=hg 1;have h2:=hg 2;have h3:=hg 3
  show (vC b 0++(vC b 1++(vC b 2++(vC b 3++[])))).length<=24;simp only[length_append,List.length_nil];omega
 have hr:((List.range 3).flatMap (wI b)).length<=18:=by
  have hg:∀c,(wI b c).length<=6:=λc=>by unfold wI;rw[length_map];exact v4'
  have h0:=hg 0;have h1:=hg 1;have h2:=hg 2
  show (wI b 0++(wI b 1++(wI b 2++[]))).length<=18;simp only[length_append,List.length_nil];omega
 have k5:(z8 b).length=5:=rfl;rw[Oz h.w,h.ok,Bool.not_true,cF];unfold DO;rw[ON h.w v3'.symm h.n6 (z8 b) (by omega),an,PU v4' _ (by rw[length_append];omega),an,QJ h.f12 _ (by rw[length_append,length_append];omega),an];rfl

theorem CD {α:Type} {R:α->α->Prop} (tr:∀a b c,R a b->R b c->R a c) {l:List α} (h:∀k (hk:k+1<l.length),R l[k] l[k+1]):l.Pairwise R:=by
 rw[pairwise_iff_getElem];intro i j hi hj hij
 induction j with
 | zero=>omega
 | succ j ih =>
  by_cases e:i=j
  · subst e;exact h i hj
  · exact tr _ _ _ (ih (by omega) (by omega)) (h j hj)
def Eo (g c:Int) (x:sB):Prop:=∃t,x.1=1::3::1::g::c::t
theorem zM {g c g' c':Int} {x y:sB} (hx:Eo g c x) (hy:Eo g' c' y) (h:g<g'\/(g=g'/\c<c')):x.1<y.1:=by
 obtain⟨t,ht⟩:=hx;obtain⟨s,hs⟩:=hy;rw[ht,hs];simp only[cons_lt_cons_iff,Int.lt_irrefl,false_or,true_and];rcases h with h|⟨h,k⟩
 · exact .inl h
 · exact .inr ⟨h,.inl k⟩
theorem Ar {b:sx} {c:Nat} {x:sB} (h:x∈vC b c):Eo 2 ((c+1:Nat):Int) x:=by
 unfold vC at h;obtain⟨k,_,rfl⟩:=mem_map.1 h;exact⟨_,rfl⟩
theorem Bq {b:sx} {c:Nat} {x:sB} (h:x∈wI b c):Eo 3 ((c+1:Nat):Int) x:=by
 unfold wI at h;obtain⟨k,_,rfl⟩:=mem_map.1 h;exact⟨_,rfl⟩
theorem Ds {b:sx} {x:sB} (h:x∈BJ b):Eo 4 1 x:=by
 unfold BJ at h;obtain⟨k,_,rfl⟩:=mem_map.1 h;exact⟨_,rfl⟩
theorem Dt {b:sx} {x:sB} (h:x∈z8 b):∃c,Eo 1 c x:=by
 unfold z8 at h;simp only[mem_cons,not_mem_nil,or_false]at h;rcases h with rfl|rfl|rfl|rfl|rfl<;>exact⟨_,_,rfl⟩
theorem JL (b:sx) (c:Nat):(vC b c).Pairwise λx y=>x.1<y.1:=by
 unfold vC;rw[List.pairwise_map];refine List.Pairwise.imp ?_ List.pairwise_lt_range;intro i j h;show (1::3::1::2::((c+1:Nat):Int)::((i+1:Nat):Int)::[])<(1::3::1::2::((c+1:Nat):Int)::((j+1:Nat):Int)::[])
 simp only[cons_lt_cons_iff,Int.lt_irrefl,false_or,true_and];exact .inl (by omega)
theorem Gv {b:sx} (h:tW b):b.2.2.2.2.1.Pairwise λr s=>r.1<s.1:=by
 refine CD (R:=λ(r s:sM)=>r.1<s.1) (λ_ _ _ h k=>Int.lt_trans h k) λk hk=>?_;have hv:=h.v
 unfold vU at hv;simp only[aT,Bool.not_eq_true']at hv;have hx:=any_eq_false.1 hv.2.1 (k+1) (mem_range.2 hk)
 unfold z7 at hx;simp only[List.getElem?_eq_getElem hk,Nat.add_sub_cancel,List.getElem?_eq_getElem (show k<b.2.2.2.2.1.length by omega),Bool.or_eq_true,aT,decide_eq_true_eq,not_or,not_and]at hx;have:=hx.2.1 (by omega)
 omega
theorem KT {b:sx} (h:tW b) (c:Nat):(wI b c).Pairwise λx y=>x.1<y.1:=by
 unfold wI;rw[List.pairwise_map];refine List.Pairwise.imp ?_ (Gv h);intro r s h;show (1::3::1::3::((c+1:Nat):Int)::r.1::[])<(1::3::1::3::((c+1:Nat):Int)::s.1::[])
 simp only[cons_lt_cons_iff,Int.lt_irrefl,false_or,true_and];exact .inl h
theorem M6 {b:sx} (h:tW b):b.2.2.2.1.Pairwise lt:=by
 refine CD (R:=lt) (λ_ _ _=>lt_trans) λk hk=>?_;have hv:=h.f
 unfold y6 at hv;simp only[aT,Bool.not_eq_true']at hv;have hx:=any_eq_false.1 hv.1 (k+1) (mem_range.2 hk)
 unfold ya at hx;simp only[List.getElem?_eq_getElem hk,Nat.add_sub_cancel,List.getElem?_eq_getElem (show k<b.2.2.2.1.length by omega),Bool.or_eq_true,aT,decide_eq_true_eq,not_or,not_and,Bool.not_eq_true',Bool.not_eq_false]at hx;have hp:=hx.2 (by omega)
 unfold zk at hp;simp only[Bool.or_eq_true,aT,decide_eq_true_eq,beq_iff_eq]at hp;unfold lt;omega
theorem M7 {b:sx} (h:tW b):(BJ b).Pairwise λx y=>x.1<y.1:=by
 unfold BJ;rw[List.pairwise_map];refine List.Pairwise.imp ?_ (M6 h);intro r s h;show (1::3::1::4::1::r.1::r.2.1::[])<(1::3::1::4::1::s.1::s.2.1::[])
 unfold lt at h;simp only[cons_lt_cons_iff,Int.lt_irrefl,false_or,true_and];rcases h with h|⟨h,k⟩
 · exact .inl h
 · exact .inr ⟨h,.inl k⟩
theorem KU (b:sx):(z8 b).Pairwise λx y=>x.1<y.1:=by
 unfold z8;simp only[List.pairwise_cons,mem_cons,not_mem_nil,or_false,forall_eq_or_imp,forall_eq,List.Pairwise.nil,and_true,false_imp_iff,implies_true,cons_lt_cons_iff,Int.lt_irrefl,false_or,true_and];refine⟨⟨.inl (by decide),.inl (by decide),.inl (by decide),.inl (by decide)⟩,⟨.inl (by decide),.inl (by decide),.inl (by decide)⟩,⟨.inl (by decide),.inl (by decide)⟩,.inl (by decide)⟩
theorem PV {α:Type} (f:Nat->List α):(List.range 4).flatMap f=f 0++(f 1++(f 2++(f 3++[]))):=rfl
theorem PW {α:Type} (f:Nat->List α):(List.range 3).flatMap f=f 0++(f 1++(f 2++[])):=rfl
theorem Fj {n:Nat} {f:Nat->List sB} {g:Int} (hp:∀c,(f c).Pairwise λx y=>x.1<y.1) (hh:∀c x,x∈f c->Eo g ((c+1:Nat):Int) x):((List.range n).flatMap f).Pairwise λx y=>x.1<y.1:=by
 induction n with
 | zero=>exact List.Pairwise.nil
 | succ n ih =>
  rw[range_succ,List.flatMap_append,pairwise_append];refine⟨ih,by simp;exact hp n,λx hx y hy=>?_⟩;obtain⟨c,hc,hx⟩:=mem_flatMap.1 hx;have hc:=mem_range.1 hc
  simp at hy;exact zM (hh c x hx) (hh n y hy) (.inr ⟨rfl,by omega⟩)
theorem M8 {b:sx} (h:tW b):(vz b).Pairwise λx y=>x.1<y.1:=by
 unfold vz;rw[pairwise_append,pairwise_append,pairwise_append];refine⟨⟨⟨KU b,Fj (JL b) (λc x=>Ar),λx hx y hy=>?_⟩,Fj (KT h) (λc x=>Bq),λx hx y hy=>?_⟩,M7 h,λx hx y hy=>?_⟩
 · obtain⟨c,hc⟩:=Dt hx;obtain⟨d,_,hy⟩:=mem_flatMap.1 hy;exact zM hc (Ar hy) (.inl (by decide))
 · obtain⟨d,_,hy⟩:=mem_flatMap.1 hy;rcases mem_append.1 hx with hx|hx
   · obtain⟨c,hc⟩:=Dt hx;exact zM hc (Bq hy) (.inl (by decide))
   · obtain⟨e,_,hx⟩:=mem_flatMap.1 hx;exact zM (Ar hx) (Bq hy) (.inl (by decide))
 · rcases mem_append.1 hx with hx|hx
   · rcases mem_append.1 hx with hx|hx
     · obtain⟨c,hc⟩:=Dt hx;exact zM hc (Ds hy) (.inl (by decide))
     · obtain⟨e,_,hx⟩:=mem_flatMap.1 hx;exact zM (Ar hx) (Ds hy) (.inl (by decide))
   · obtain⟨e,_,hx⟩:=mem_flatMap.1 hx;exact zM (Bq hx) (Ds hy) (.inl (by decide))
theorem OO (p s t:List Int) {x y:Int} (h:x≠y):(p++x::s<p++y::t)↔x<y:=by
 induction p with
 | nil =>
  simp only[nil_append,cons_lt_cons_iff];exact⟨λk=>k.elim id λk=>absurd k.1 h,.inl⟩
 | cons a p ih=>simp only[List.cons_append,cons_lt_cons_iff,ih,Int.lt_irrefl,false_or,true_and]
theorem NF (p:List Int) {s:List Int} (h:s≠[]):p<p++s:=by
 induction p with
 | nil=>cases s with
  | nil=>exact absurd rfl h
  | cons a s=>exact List.nil_lt_cons a s
 | cons a p ih=>simp only[List.cons_append,cons_lt_cons_iff,Int.lt_irrefl,false_or,true_and];exact ih
theorem NG (p s:List Int):¬p++s<p:=by
 induction p with
 | nil=>exact List.not_lt_nil s
 | cons a p ih=>simp only[List.cons_append,cons_lt_cons_iff,Int.lt_irrefl,false_or,true_and];exact ih
theorem MJ {a b:List Int} (h:b.length<9223372036854775807):eO a b=some (decide (a<b)):=by
 have hsplit:∀k,a.take k=b.take k->∀(ha:k<a.length) (hb:k<b.length),a=a.take k++a[k]::a.drop (k+1)/\b=a.take k++b[k]::b.drop (k+1):=by
  intro k e ha hb;refine⟨?_,?_⟩
  · rw[←List.drop_eq_getElem_cons ha,take_append_drop]
  · rw[e,←List.drop_eq_getElem_cons hb,take_append_drop]
 obtain⟨v,h1,h2⟩:=sQ (step:=λz=>dK a b z) (λk i=>i=(k:Int)/\a.take k=b.take k) (min a.length b.length) (λv=>(v=.inr (decide (a<b)))\/(v=.inl ()/\decide ((a.length:Int)<(b.length:Int))=decide (a<b)))
  (λk i hk ⟨e,ht⟩=>by
   subst e;have ha:k<a.length:=by omega
   have hb:k<b.length:=by omega
   have hs:dK a b (k:Int)=cond (a[k] != b[k]) (some (.inr (.inr (decide (a[k]<b[k]))))) (some (.inl ((k+1:Nat):Int))):=by
    unfold dK;rw[tC (show (k:Int)<(a.length:Int) by omega),tC (show (k:Int)<(b.length:Int) by omega),cT,an,cT,sO ha,an,sO hb,an,sK (by omega),an,an]
   obtain⟨s1,s2⟩:=hsplit k ht ha hb;by_cases hne:a[k]=b[k]
   · refine .inl ⟨_,by rw[hs,show (a[k] != b[k])=false by simp[hne]];rfl,rfl,?_⟩;rw[take_add_one,take_add_one,List.getElem?_eq_getElem ha,List.getElem?_eq_getElem hb,ht,hne]
   · refine .inr ⟨_,by rw[hs,show (a[k] != b[k])=true from bne_iff_ne.2 hne];rfl,.inl ?_⟩
     congr 1
     apply decide_eq_decide.2;have:=OO (a.take k) (a.drop (k+1)) (b.drop (k+1)) hne
     rw[←s1,←s2]at this;exact this.symm)
  (λi ⟨e,ht⟩=>by
   subst e;refine⟨.inl (),?_,.inr ⟨rfl,?_⟩⟩
   · show dK a b _=_;unfold dK;by_cases h:a.length<=b.length
     · rw[Nat.min_eq_left h,tk (by omega)];rfl
     · rw[Nat.min_eq_right (by omega),tC (by omega),tk (show ¬(b.length:Int)<(b.length:Int) by omega)];rfl
   · apply decide_eq_decide.2;by_cases h:a.length<=b.length
     · rw[Nat.min_eq_left h,take_length]at ht;have hb:b=a++b.drop a.length:=by
        have:=take_append_drop a.length b;rw[←ht]at this;exact this.symm
       constructor
       · intro hlt;have hd:b.drop a.length≠[]:=by
          intro h0;have:=congrArg List.length h0
          rw[List.length_drop]at this;simp at this;omega
         have:=NF a hd;rw[←hb]at this;exact this
       · intro hlt;by_cases he:a.length=b.length
         · have hd:b.drop a.length=[]:=List.drop_eq_nil_of_le (by omega);rw[hd,List.append_nil]at hb;rw[hb]at hlt;exact absurd hlt (List.lt_irrefl _)
         · omega
     · rw[Nat.min_eq_right (by omega),take_length]at ht;have ha:a=b++a.drop b.length:=by
        have:=take_append_drop b.length a;rw[ht]at this;exact this.symm
       constructor
       · intro hlt;omega
       · intro hlt;have:=NG b (a.drop b.length)
         rw[←ha]at this;exact absurd hlt this) (x:=0) ⟨rfl,by simp⟩
 unfold eO;rw[h1,an];rcases h2 with rfl|⟨rfl,h2⟩
 · rfl
 · show some (decide _)=_;rw[h2]

theorem Br {a b:List Int} (h:b.length<9223372036854775807):aF a b=some (a==b):=by
 unfold aF;by_cases hl:a.length=b.length
 · have e:((a.length:Int) != (b.length:Int))=false:=by rw[hl];simp
   rw[e,cF];obtain⟨v,h1,rfl⟩:=sQ (step:=λz=>du a b z) (λk i=>i=(k:Int)/\a.take k=b.take k) a.length (λv=>v=cond (a==b) (.inl ()) (.inr false))
    (λk i hk ⟨e,ht⟩=>by
     subst e;have hb:k<b.length:=by omega
     have hs:du a b (k:Int)=cond (a[k] != b[k]) (some (.inr (.inr false))) (some (.inl ((k+1:Nat):Int))):=by
      unfold du;rw[tC (by omega),cT,sO hk,an,sO hb,an,sK (by omega)]
     by_cases hne:a[k]=b[k]
     · refine .inl ⟨_,by rw[hs,show (a[k] != b[k])=false by simp[hne]];rfl,rfl,?_⟩;rw[take_add_one,take_add_one,List.getElem?_eq_getElem hk,List.getElem?_eq_getElem hb,ht,hne]
     · refine .inr ⟨_,by rw[hs,show (a[k] != b[k])=true from bne_iff_ne.2 hne];rfl,?_⟩;have:(a==b)=false:=by
        apply beq_eq_false_iff_ne.2;intro hab;subst hab;exact hne rfl
       rw[this];rfl)
    (λi ⟨e,ht⟩=>by
     subst e;have hab:a=b:=by
      rw[take_length,List.take_of_length_le (by omega)]at ht;exact ht
     exact⟨.inl (),by show du a b _=_;unfold du;rw[tk (by omega),cF],by rw[show (a==b)=true from beq_iff_eq.2 hab];rfl⟩) (x:=0) ⟨rfl,by simp⟩
   rw[h1,an];cases (a==b)<;>rfl
 · have e:((a.length:Int) != (b.length:Int))=true:=by simp;omega
   have hne:(a==b)=false:=beq_eq_false_iff_ne.2 λh=>hl (by rw[h]);rw[e,cT,hne]
structure Nm (o:List Int):Prop where
 n1:1<=o.length
 n10:o.length<=10
 e:∀x∈o,sC x 0 100000=true
theorem Nm.ok {o:List Int} (h:Nm o):ak o=some true:=by
 have h10:=h.n10;have h1:=h.n1
 unfold ak;obtain⟨v,e,rfl⟩:=sQ (step:=λz=>aL o z) (λk i=>i=(k:Int)) o.length (λv=>v=.inl ())
  (λk i hk e=>by
   subst e;refine .inl ⟨((k+1:Nat):Int),?_,rfl⟩;show aL o (k:Int)=_
   unfold aL;rw[tC (by omega),cT,sO hk,an,wm,an,h.e _ (getElem_mem hk),sK (by omega)];rfl)
  (λi e=>by
   subst e;exact⟨.inl (),by show aL o _=_;unfold aL;rw[tk (by omega),cF],rfl⟩) (x:=0) rfl
 rw[e,an];show ((ac (o.length:Int) 1 10).bind λt=>some t)=_
 rw[wm,an];unfold sC;rw[dT (by omega),dT (by omega)];rfl
inductive Vl:wl->Prop
 | num {n:Int} (h:sC n (-2147483648) 2147483647=true):Vl (2,n,[],[])
 | word {s:List UInt8} (h:s.length<=20):Vl (4,0,s,[])
theorem Vl.ok {v:wl} (h:Vl v):al v=some true:=by
 cases h with
 | num h =>
  unfold al az bn;simp only[wm,h,an,Br (show ([]:List Int).length<9223372036854775807 by decide)];simp
 | word h =>
  rename_i s;have hd:decide ((s.length:Int)<=20)=true:=dT (by omega)
  unfold al bn;simp only[hd,an,Br (show ([]:List Int).length<9223372036854775807 by decide)];simp
theorem Vl.k {v:wl} (h:Vl v):(v.1==128)=false:=by cases h<;>rfl
theorem Vl.o {v:wl} (h:Vl v):v.2.2.2=[]:=by cases h<;>rfl
theorem Du {n:Int} (h1:0<=n) (h2:n<=2147483647):sC n (-2147483648) 2147483647=true:=by unfold sC;rw[dT (by omega),dT (by omega)];rfl
theorem zl {n a c:Int} (h1:a<=n) (h2:n<=c):sC n a c=true:=by unfold sC;rw[dT (by omega),dT (by omega)];rfl
theorem CS {n a c:Int} (h:sC n a c=true):a<=n/\n<=c:=by
 unfold sC at h;simp only[aT,decide_eq_true_eq]at h;exact h
theorem OP {v:tH} (hn:v.1.length<9223372036854775807) {id r:Int} (h:ao v id=some r) (h0:¬r<0):∃x∈v.1,x.1=id:=by
 unfold ao at h;obtain⟨b,h1,h2⟩:=sQ (β:=Unit⊕Int) (step:=λz=>aE v id z) (λk i=>i=(k:Int)) v.1.length (λb=>∀r,b=.inr r->∃x∈v.1,x.1=id)
  (λk i hk h=>by
   subst h;unfold aE;rw[tC (by omega),cT,sO hk,an];cases hb:(v.1[k].1==id)with
   | true=>exact .inr ⟨_,rfl,λr hr=>⟨_,getElem_mem hk,eq_of_beq hb⟩⟩
   | false=>exact .inl ⟨_,rfl,sK (by omega)⟩)
  (λi h=>by
   subst h;unfold aE;rw[tk (by omega)];exact⟨_,rfl,λr hr=>by cases hr⟩) (x:=0) rfl
 rw[h1,an]at h;cases b with
 | inl _=>cases h;exact absurd (by decide) h0
 | inr r'=>exact h2 r' rfl
theorem NH {id:Int} {l:List Pt} {p v:Int} (h:aO id l p=some v):1<=v/\v<=4:=by
 unfold aO at h;rw[wm,an]at h;have key:∀(o:Option Bool) (f:Bool->Option Int),(∀t x,f t=some x->1<=x/\x<=4)->o.bind f=some v->1<=v/\v<=4:=by
  intro o f hf h;cases o with
  | none=>cases h
  | some t=>exact hf t v h
 refine key _ _ (λt x hx=>?_) h;cases t with
 | true=>cases hx;decide
 | false =>
  rw[cF]at hx;cases hbv:bC id l with
  | none=>rw[hbv]at hx;cases hx
  | some w =>
   rw[hbv,an]at hx;cases hw:w.2==p with
   | true=>rw[hw]at hx;cases hx;decide
   | false =>
    rw[hw,cF]at hx;cases ha:at? l p with
    | none=>rw[ha]at hx;cases hx
    | some y =>
     rw[ha,an]at hx
     revert hx
     generalize (cond (!y.2.2.1) _ _:Option Bool)=o;intro hx;cases o with
     | none=>cases hx
     | some t=>cases t<;>(cases hx;decide)
theorem IG {b:sx} (h:tW b) {r:sM} (hr:r∈b.2.2.2.2.1):(1<=r.1/\r.1<=99)/\(0<=r.2.1/\r.2.1<=63)/\(0<=r.2.2/\r.2.2<=63):=by
 obtain⟨k,hk,rfl⟩:=getElem_of_mem hr;have hv:=h.v
 unfold vU at hv;simp only[aT,Bool.not_eq_true',Bool.or_eq_false_iff,Bool.not_eq_false']at hv;have hx:=any_eq_false.1 hv.2.1 k (mem_range.2 hk)
 unfold z7 at hx;simp only[List.getElem?_eq_getElem hk,Bool.or_eq_true,Bool.not_eq_true',not_or,Bool.not_eq_false]at hx;obtain⟨x1,_,x3,x4⟩:=hx;have ht:=GK (i:=(b.2.2.1.length:Int)) hv.1.1
 have y1:=CS x1;have y3:=CS x3
 have x4:(Bw .i64 b.2.2.2.2.1[k].2.2 b.2.2.2.2.1[k].2.1 != 0)=false:=by simpa using x4
 refine⟨y1,by omega,?_⟩;have hI:=h.w.r _ (getElem_mem hk)
 have hband:=CS (IB hI.1 hI.2 x3 ht.2 (by rw[Gt hI.1 hI.2];exact x4));omega
theorem NJ {b:sx} (h:tW b) {x:Int} (hx:x∈b.2.2.2.2.2.1):1<=x/\x<=99:=by
 obtain⟨k,hk,rfl⟩:=getElem_of_mem hx;have hv:=h.v
 have hn:b.2.2.2.2.1.length<9223372036854775807:=h.w.v;unfold vU at hv;simp only[aT,Bool.not_eq_true']at hv;have hq:=any_eq_false.1 hv.2.2 k (mem_range.2 hk)
 unfold Aq at hq;simp only[List.getElem?_eq_getElem hk]at hq;obtain⟨r,hr⟩:=KM (v:=(b.2.2.2.2.1,b.2.2.2.2.2.1)) hn b.2.2.2.2.2.1[k];rw[hr]at hq;simp only[decide_eq_true_eq]at hq;obtain⟨y,hy,e⟩:=OP (v:=(b.2.2.2.2.1,b.2.2.2.2.2.1)) hn hr hq;have:=(IG h (r:=y) hy).1
 rw[e]at this;exact this
theorem M9 {b:sx} (h:tW b) (c:Int) {k:Nat} (hk:k<b.2.2.1.length):0<=CC b c (k:Int)/\CC b c (k:Int)<=1000:=by
 have v3:b.2.2.2.2.2.1.length=b.2.2.1.length:=h.vt.len.2.2.1;have hkq:k<b.2.2.2.2.2.1.length:=by omega
 obtain⟨r,hr⟩:=JD b.1 h.w.p (k:Int);have hr2:=NH hr
 have hp:=h.p _ (getElem_mem hk);unfold zj at hp;simp only[aT]at hp;have hc:=CS hp.1
 have hq:=NJ h (getElem_mem hkq);unfold CC bV eL;rw[sO hk,sO hkq,hr];simp only[an];cases (c==1)with
 | true =>
  cases b.2.2.1[k].1 with
  | true=>show (0:Int)<=1/\(1:Int)<=1000;decide
  | false=>show (0:Int)<=0/\(0:Int)<=1000;decide
 | false =>
  cases (c==2)with
  | true=>show 0<=b.2.2.1[k].2.1/\b.2.2.1[k].2.1<=1000;omega
  | false =>
   cases (c==3)with
   | true=>show 0<=r/\r<=1000;omega
   | false=>show 0<=b.2.2.2.2.2.1[k]/\b.2.2.2.2.2.1[k]<=1000;omega
theorem OQ {b:sx} (h:tW b) {e:sD} (he:e∈b.2.2.2.1):(1<=e.1/\e.1<=99)/\(1<=e.2.1/\e.2.1<=9999)/\(0<=e.2.2.1/\e.2.2.1<=7):=by
 obtain⟨k,hk,rfl⟩:=getElem_of_mem he;have hv:=h.f
 unfold y6 at hv;simp only[aT,Bool.not_eq_true']at hv;have hx:=any_eq_false.1 hv.1 k (mem_range.2 hk)
 unfold ya at hx;simp only[List.getElem?_eq_getElem hk,Bool.or_eq_true,Bool.not_eq_true',not_or,Bool.not_eq_false]at hx;have hf:=hx.1
 unfold vL at hf;simp only[aT]at hf;exact⟨CS hf.1,CS hf.2.1,CS hf.2.2.1⟩
theorem KV {b:sx} (h:tW b):(0<=b.2.2.2.2.2.2.1/\b.2.2.2.2.2.2.1<=1000000)/\(0<=b.2.2.2.2.2.2.2.1/\b.2.2.2.2.2.2.2.1<=1000000)/\(0<=b.2.2.2.2.2.2.2.2.1/\b.2.2.2.2.2.2.2.2.1<=1000000)/\(0<=b.2.2.2.2.2.2.2.2.2.1/\b.2.2.2.2.2.2.2.2.2.1<=1000000)/\(0<=b.2.2.2.2.2.2.2.2.2.2/\b.2.2.2.2.2.2.2.2.2.2<=1000000):=by
 have hc:=h.c;unfold vd at hc;simp only[aT]at hc;exact⟨CS hc.1,CS hc.2.1,CS hc.2.2.1,CS hc.2.2.2.1,CS hc.2.2.2.2⟩
theorem II {a b:Int} (ha:0<=a/\a<=100000) (hb:0<=b/\b<=100000):Nm [1,3,1,a,b]:=⟨by simp,by simp,λx hx=>by
 simp only[mem_cons,not_mem_nil,or_false]at hx;rcases hx with rfl|rfl|rfl|rfl|rfl
 · decide
 · decide
 · decide
 · exact zl ha.1 ha.2
 · exact zl hb.1 hb.2⟩
theorem MK {a b c:Int} (ha:0<=a/\a<=100000) (hb:0<=b/\b<=100000) (hc:0<=c/\c<=100000):Nm [1,3,1,a,b,c]:=⟨by simp,by simp,λx hx=>by
 simp only[mem_cons,not_mem_nil,or_false]at hx;rcases hx with rfl|rfl|rfl|rfl|rfl|rfl
 · decide
 · decide
 · decide
 · exact zl ha.1 ha.2
 · exact zl hb.1 hb.2
 · exact zl hc.1 hc.2⟩
theorem Qh {a b c d:Int} (ha:0<=a/\a<=100000) (hb:0<=b/\b<=100000) (hc:0<=c/\c<=100000) (hd:0<=d/\d<=100000):Nm [1,3,1,a,b,c,d]:=⟨by simp,by simp,λx hx=>by
 simp only[mem_cons,not_mem_nil,or_false]at hx;rcases hx with rfl|rfl|rfl|rfl|rfl|rfl|rfl
 · decide
 · decide
 · decide
 · exact zl ha.1 ha.2
 · exact zl hb.1 hb.2
 · exact zl hc.1 hc.2
 · exact zl hd.1 hd.2⟩
theorem zN {b:sx} (h:tW b):∀x∈vz b,Nm x.1/\Vl x.2:=by
 intro x hx;obtain⟨t1,t2,t3,t4,_⟩:=KV h;have hn6:=h.n6
 unfold vz at hx;simp only[mem_append]at hx;rcases hx with ((hx|hx)|hx)|hx
 · unfold z8 at hx;simp only[mem_cons,not_mem_nil,or_false]at hx;have hname:=h.name
   rcases hx with rfl|rfl|rfl|rfl|rfl
   · exact⟨II (by decide) (by decide),.word (by omega)⟩
   · exact⟨II (by decide) (by decide),.num (Du t1.1 (by omega))⟩
   · exact⟨II (by decide) (by decide),.num (Du t2.1 (by omega))⟩
   · exact⟨II (by decide) (by decide),.num (Du t3.1 (by omega))⟩
   · exact⟨II (by decide) (by decide),.num (Du t4.1 (by omega))⟩
 · obtain⟨c,hc,hx⟩:=mem_flatMap.1 hx;have hc:=mem_range.1 hc
   unfold vC at hx;obtain⟨k,hk,rfl⟩:=mem_map.1 hx;have hk:=mem_range.1 hk
   have hp:=M9 h ((c+1:Nat):Int) hk;exact⟨MK (by decide) (by omega) (by omega),.num (Du hp.1 (by omega))⟩
 · obtain⟨c,hc,hx⟩:=mem_flatMap.1 hx;have hc:=mem_range.1 hc
   unfold wI at hx;obtain⟨r,hr,rfl⟩:=mem_map.1 hx;obtain⟨r1,r2,r3⟩:=IG h hr;refine⟨MK (by decide) (by omega) (by omega),.num ?_⟩;unfold Dq;split
   · decide
   · exact Du r2.1 (by omega)
   · exact Du r3.1 (by omega)
 · unfold BJ at hx;obtain⟨e,he,rfl⟩:=mem_map.1 hx;obtain⟨e1,e2,e3⟩:=OQ h he;refine⟨Qh (by decide) (by decide) (by omega) (by omega),.num ?_⟩;rw[sV (by omega) (by omega)];exact Du (by omega) (by omega)
theorem IJ {b:sx} (h:tW b):(vz b).length=5+4*b.2.2.1.length+3*b.2.2.2.2.1.length+b.2.2.2.1.length:=by
 have hp:∀c,(vC b c).length=b.2.2.1.length:=λc=>by unfold vC;rw[length_map,List.length_range]
 have hr:∀c,(wI b c).length=b.2.2.2.2.1.length:=λc=>by unfold wI;rw[length_map]
 have hf:(BJ b).length=b.2.2.2.1.length:=by unfold BJ;rw[length_map]
 have k5:(z8 b).length=5:=rfl;unfold vz;rw[PV,PW];simp only[length_append,List.length_nil,hp,hr,hf,k5];omega
theorem HI {b:sx} (h:tW b):(vz b).length<=59:=by
 have h1:=IJ h;have h2:=h.n6
 have h3:b.2.2.2.2.1.length<=6:=h.vt.len.2.2.2;have h4:=h.f12
 omega
theorem QK {b:sx} (h:tW b) {o:List Int} (ho:o.length<9223372036854775807):∃v,bZ b o=some v/\((∃x∈vz b,x.1=o/\v=x.2)\/((∀x∈vz b,x.1≠o)/\v=(128,0,[],[]))):=by
 have hle:=HI h;obtain⟨v,h1,h2⟩:=sQ (step:=λz:Int×Int×Int×List UInt8×List Int=>br o (vz b) z.1 z.2.1 z.2.2.1 z.2.2.2.1 z.2.2.2.2) (λk z=>z=((k:Int),0,0,[],[])/\∀x∈(vz b).take k,x.1≠o) (vz b).length (λv=>(∃x∈vz b,x.1=o/\v=.inr x.2)\/((∀x∈vz b,x.1≠o)/\∃u,v=.inl u))
  (λk z hk ⟨e,hx⟩=>by
   subst e;have hs:br o (vz b) (k:Int) 0 0 [] []=cond ((vz b)[k].1==o) (some (.inr (.inr (vz b)[k].2))) (some (.inl (((k+1:Nat):Int),0,0,[],[]))):=by
    unfold br;rw[tC (by omega),cT,sO hk,an,Br ho,an,sK (by omega)]
   show (∃y,br o (vz b) (k:Int) 0 0 [] []=_/\_)\/(∃v,br o (vz b) (k:Int) 0 0 [] []=_/\_);rw[hs];cases hb:((vz b)[k].1==o)with
   | true=>exact .inr ⟨_,rfl,.inl ⟨_,getElem_mem hk,eq_of_beq hb,rfl⟩⟩
   | false =>
    refine .inl ⟨_,rfl,rfl,λx hx'=>?_⟩;rw[take_add_one,List.getElem?_eq_getElem hk,mem_append]at hx';rcases hx' with hx'|hx'
    · exact hx x hx'
    · simp at hx';subst hx';exact beq_eq_false_iff_ne.1 hb)
  (λz ⟨e,hx⟩=>by
   subst e;rw[take_length]at hx;refine⟨.inl (0,0,[],[]),?_,.inr ⟨hx,_,rfl⟩⟩;show br o (vz b) _ 0 0 [] []=_
   unfold br;rw[tk (by omega),cF]) (x:=(0,0,0,[],[])) ⟨rfl,by simp⟩
 unfold bZ;rw[M5 h,an,h1,an];rcases h2 with ⟨x,hx,e,rfl⟩|⟨hx,u,rfl⟩
 · exact⟨_,rfl,.inl ⟨x,hx,e,rfl⟩⟩
 · exact⟨_,rfl,.inr ⟨hx,rfl⟩⟩

theorem OR {c:sN} (h:CW c):∃c' o,aJ c=some (c',o)/\CW c'/\Nm o:=by
 obtain⟨c0,m,e0,w0,hm⟩:=uJ h (n:=6) (by decide);have e0':aa c 6=some (c0,(m:Int)):=e0
 obtain⟨d,hd,g1,g2,g3⟩:=sQ (step:=λz:Int×List Int×Int×Int×List Int=>ev z.1 z.2.1 z.2.2.1 z.2.2.2.1 z.2.2.2.2) (λk z=>z.1=((m+1:Nat):Int)-(k:Int)/\CW (z.2.1,z.2.2.1,z.2.2.2.1)/\z.2.2.2.2.length=k/\∀x∈z.2.2.2.2,sC x 0 100000=true) (m+1) (λd=>CW (d.1,d.2.1,d.2.2.1)/\d.2.2.2.length=m+1/\∀x∈d.2.2.2,sC x 0 100000=true)
  (λk z hk ⟨a1,a2,a3,a4⟩=>by
   obtain⟨i,x,y,s,l⟩:=z;simp only at a1 a2 a3 a4;left;show ∃y',ev i x y s l=_/\_
   unfold ev;have hi:decide (i>0)=true:=dT (by omega)
   have hw:sy (i-1)=((m+1:Nat):Int)-((k+1:Nat):Int):=by rw[sV (by omega) (by omega)];omega
   obtain⟨c1,r1,e1,w1,b1⟩:=wH a2 (l:=[0,1,2,3,127,128,16384,100000]) (by decide);have hr:sC r1 0 100000=true:=by
    have:∀x∈([0,1,2,3,127,128,16384,100000]:List Int),sC x 0 100000=true:=by decide
    exact this r1 b1
   rw[hi,cT,e1,an];show ∃y',((sT l [r1]).bind _)=_/\_
   rw[sE (by show l.length+1<=_;omega),an,hw];refine⟨_,rfl,rfl,w1,by show (l++[r1]).length=_;rw[length_append,a3];rfl,λx hx=>?_⟩;have hx:x∈l++[r1]:=hx
   simp at hx;rcases hx with hx|rfl
   · exact a4 x hx
   · exact hr)
  (λz ⟨a1,a2,a3,a4⟩=>by
   obtain⟨i,x,y,s,l⟩:=z;simp only at a1 a2 a3 a4;refine⟨(x,y,s,l),?_,a2,a3,a4⟩;show ev i x y s l=_
   unfold ev;have hi:decide (i>0)=false:=dF (by omega)
   rw[hi,cF]) (x:=(((m+1:Nat):Int),c0.1,c0.2.1,c0.2.2,[])) ⟨by simp,w0,rfl,λx hx=>absurd hx not_mem_nil⟩
 have hw:sy (1+(m:Int))=((m+1:Nat):Int):=by rw[sV (by omega) (by omega)];omega
 unfold aJ;rw[e0',an];show ∃c' o,((loop _ (sy (1+(m:Int)),c0.1,c0.2.1,c0.2.2,[])).bind _)=_/\_
 rw[hw,hd,an];exact⟨_,_,rfl,g1,by omega,by omega,g3⟩
theorem Rb {a:Int} (ha:0<=a/\a<=100000):Nm [1,3,1,a]:=⟨by simp,by simp,λx hx=>by
 simp only[mem_cons,not_mem_nil,or_false]at hx;rcases hx with rfl|rfl|rfl|rfl
 · decide
 · decide
 · decide
 · exact zl ha.1 ha.2⟩
theorem DP (l:List Int) (h:l.length<=100):af l=some ([1,3,1]++l):=by
 unfold af;rw[sE (by show 3+l.length<=_;omega)];rfl
theorem ML {c:sN} (h:CW c) {b:sx} (hb:tW b):∃c' o,ax c b=some (c',o)/\CW c'/\Nm o:=by
 have hm:5<=(vz b).length:=by rw[IJ hb];omega
 have hle:=HI hb;unfold ax;rw[Em hb.w,M5 hb,an,dT (show ((vz b).length:Int)>0 by omega),cT];obtain⟨c1,st,e1,w1⟩:=GN h 4;rw[e1,an];show ∃c' o,cond (!st) _ _=_/\_
 cases st with
 | false =>
  obtain⟨c2,k,e2,w2,hk⟩:=uJ w1 (n:=(vz b).length) (by omega);have hn:=(zN hb _ (getElem_mem hk)).1
  have h10:=hn.n10;rw[Bool.not_false,cT,e2,an];show ∃c' o,((ix (vz b).length (k:Int)).bind _)=_/\_
  rw[vI hk,an,List.getElem?_eq_getElem hk,an,sE (by show 0+_<=_;omega),an];exact⟨_,_,rfl,w2,hn⟩
 | true =>
  obtain⟨c2,r,e2,w2,_⟩:=v8 w1 8;rw[Bool.not_true,cF,e2,an];show ∃c' o,cond (r==0) _ (cond (r==1) _ (cond (r==2) _ (cond (r==3) _ (cond (r==4) _ (cond (r==5) _ (cond (r==6) _ _))))))=_/\_
  cases r==0 with
  | true=>exact⟨_,_,rfl,w2,⟨by decide,by decide,by decide⟩⟩
  | false =>
  cases r==1 with
  | true=>exact⟨_,_,rfl,w2,⟨by decide,by decide,by decide⟩⟩
  | false =>
  cases r==2 with
  | true=>rw[DP _ (by decide)];exact⟨_,_,rfl,w2,MK (by decide) (by decide) (by decide)⟩
  | false =>
  cases r==3 with
  | true =>
   obtain⟨c3,k,e3,w3,hk⟩:=uJ w2 (n:=9) (by decide);have e3':aa c2 9=some (c3,(k:Int)):=e3
   show ∃c' o,((aa c2 9).bind _)=_/\_;rw[e3',an,DP _ (by simp),an];refine⟨_,_,rfl,w3,?_⟩;show Nm [1,3,1,3,1,sy (1+(k:Int))]
   rw[sV (by omega) (by omega)];exact MK (by decide) (by decide) (by omega)
  | false =>
  cases r==4 with
  | true=>rw[DP _ (by decide)];exact⟨_,_,rfl,w2,II (by decide) (by decide)⟩
  | false =>
  cases r==5 with
  | true=>rw[DP _ (by decide)];exact⟨_,_,rfl,w2,Rb (by decide)⟩
  | false =>
  cases r==6 with
  | true=>rw[DP _ (by decide)];exact⟨_,_,rfl,w2,Qh (by decide) (by decide) (by decide) (by decide)⟩
  | false =>
   obtain⟨c3,o,e3,w3,hn⟩:=OR w2;show ∃c' o,((aJ c2).bind _)=_/\_
   rw[e3,an];exact⟨_,_,rfl,w3,hn⟩
theorem QL {l:List sD} (h:FB l):∃y,cr l=some y/\FB y:=by
 have hn:=h.n;have hlt:∀i j (hi:i<l.length) (hj:j<l.length),i<j->lt l[i] l[j]:=pairwise_iff_getElem.1 h.o
 obtain⟨d,hd,g1,g2,g3⟩:=sQ (step:=λz:Int×List sD=>aK l z.1 z.2)
  (λk z=>z.1=(k:Int)/\(∀x∈z.2,vL x=true)/\z.2.Pairwise lt/\z.2.length<=k/\∀x∈z.2,∀j (hj:j<l.length),k<=j->lt x l[j]) l.length
  (λd=>(∀x∈d,vL x=true)/\d.Pairwise lt/\d.length<=12)
  (λk z hk ⟨e1,e2,e3,e4,e5⟩=>by
   obtain⟨i,b⟩:=z;simp only at e1 e2 e3 e4 e5;subst e1;left;have hf:vL l[k]=true:=h.e _ (getElem_mem hk)
   have hgo:∀y:sD,vL y=true->y.1=l[k].1->y.2.1=l[k].2.1->(∀x∈b++[y],vL x=true)/\(b++[y]).Pairwise lt/\(b++[y]).length<=k+1/\∀x∈b++[y],∀j (hj:j<l.length),k+1<=j->lt x l[j]:=by
    intro y hy q1 q2;refine⟨λx hx=>?_,A5 e3 λx hx=>?_,by rw[length_append];show b.length+1<=_;omega,λx hx j hj hkj=>?_⟩
    · rcases mem_append.1 hx with hx|hx
      · exact e2 x hx
      · simp at hx;subst hx;exact hy
    · have:=e5 x hx k hk (Nat.le_refl _);unfold lt at this ⊢;omega
    · rcases mem_append.1 hx with hx|hx
      · exact e5 x hx j hj (by omega)
      · simp at hx;subst hx;have:=hlt k j hk hj (by omega)
        unfold lt at this ⊢;omega
   have ha:∀y:sD,sT b [y]=some (b++[y]):=λy=>sE (by show b.length+1<=_;omega);show ∃y,aK l (k:Int) b=_/\_
   unfold aK;rw[tC (by omega),cT,sO hk,an,ha,ha,an,an,sK (by omega)];cases hs:l[k].2.2.2.2 with
   | true=>exact⟨_,rfl,rfl,hgo _ hf rfl rfl⟩
   | false =>
    rw[cF];by_cases ha4:l[k].2.2.2.1<4
    · rw[tC ha4,cT];refine⟨_,rfl,rfl,hgo _ ?_ rfl rfl⟩;unfold vL at hf ⊢;simp only[aT]at hf;obtain⟨f1,f2,f3,f4,f5⟩:=hf;have f4':=f4
      unfold sC at f4';simp only[aT,decide_eq_true_eq]at f4';show (sC l[k].1 1 99&&(sC l[k].2.1 1 9999&&(sC l[k].2.2.1 0 7&&(sC (sy (l[k].2.2.2.1+1)) 0 4&&(!false||_)))))=true
      rw[f1,f2,f3,sV (by omega) (by omega)];have:sC (l[k].2.2.2.1+1) 0 4=true:=by unfold sC;rw[dT (by omega),dT (by omega)];rfl
      rw[this];rfl
    · rw[tk ha4,cF];exact⟨_,rfl,rfl,e2,e3,by show b.length<=_;omega,λx hx j hj hkj=>e5 x hx j hj (by omega)⟩)
  (λz ⟨e1,e2,e3,e4,e5⟩=>by
   obtain⟨i,b⟩:=z;simp only at e1 e2 e3 e4 e5;subst e1;refine⟨b,?_,e2,e3,by omega⟩;show aK l _ b=_
   unfold aK;rw[tk (by omega),cF]) (x:=(0,[])) ⟨rfl,λx hx=>absurd hx not_mem_nil,List.Pairwise.nil,Nat.le_refl _,λx hx=>absurd hx not_mem_nil⟩
 unfold cr;rw[hd,an];exact⟨_,rfl,g1,g2,g3⟩
theorem QM:FB ([]:List sD):=⟨λx hx=>absurd hx not_mem_nil,List.Pairwise.nil,by simp⟩
theorem QN {c:sN} (h:CW c):∃c' l,gh c=some (c',l)/\CW c'/\FB l:=by
 obtain⟨c0,m,e0,w0,hm⟩:=uJ h (n:=10) (by decide);have e0':aa c 10=some (c0,(m:Int)):=e0
 obtain⟨d,hd,g1,g2⟩:=sQ (step:=λz:Int×List Int×Int×Int×List sD=>dQ z.1 z.2.1 z.2.2.1 z.2.2.2.1 z.2.2.2.2) (λk z=>z.1=(m:Int)-(k:Int)/\CW (z.2.1,z.2.2.1,z.2.2.2.1)/\FB z.2.2.2.2) m (λd=>CW (d.1,d.2.1,d.2.2.1)/\FB d.2.2.2)
  (λk z hk ⟨a1,a2,a3⟩=>by
   obtain⟨i,x,y,s,l⟩:=z;simp only at a1 a2 a3;left;show ∃y',dQ i x y s l=_/\_
   unfold dQ;have hi:decide (i>0)=true:=dT (by omega)
   have hw:sy (i-1)=(m:Int)-((k+1:Nat):Int):=by rw[sV (by omega) (by omega)];omega
   obtain⟨c1,r1,e1,w1,_⟩:=v8 a2 6;rw[hi,cT,e1,an,hw];show ∃y',cond (r1==0) _ (cond (r1==1) _ _)=_/\_
   cases r1==0 with
   | true =>
    obtain⟨c2,r2,e2,w2,_⟩:=v8 w1 3;obtain⟨c3,r3,e3,w3⟩:=JK w2;obtain⟨c4,r4,e4,w4,_⟩:=v8 w3 4;obtain⟨y',ok,e5,g5⟩:=IF a3 (sy (1+r2)) r3 r4;rw[cT,e2,an,e3,an,e4,an,e5,an];exact⟨_,rfl,rfl,w4,g5⟩
   | false =>
   cases r1==1 with
   | true =>
    obtain⟨y',e5,g5⟩:=QL a3;rw[cF,cT,e5,an];exact⟨_,rfl,rfl,w1,g5⟩
   | false =>
    obtain⟨c2,r2,e2,w2,_⟩:=v8 w1 3;obtain⟨c3,r3,e3,w3⟩:=JK w2;obtain⟨c4,r4,e4,w4,_⟩:=v8 w3 3;obtain⟨c5,r5,e5,w5,_⟩:=v8 w4 4;obtain⟨y',e6,g6⟩:=KS a3 (sy (1+r2)) (sy (r3+r4)) r5;rw[cF,cF,e2,an,e3,an,e4,an,e5,an,e6,an];exact⟨_,rfl,rfl,w5,g6⟩)
  (λz ⟨a1,a2,a3⟩=>by
   obtain⟨i,x,y,s,l⟩:=z;simp only at a1 a2 a3;refine⟨(x,y,s,l),?_,a2,a3⟩;show dQ i x y s l=_
   unfold dQ;have hi:decide (i>0)=false:=dF (by omega)
   rw[hi,cF]) (x:=((m:Int),c0.1,c0.2.1,c0.2.2,[])) ⟨by simp,w0,QM⟩
 unfold gh;rw[e0',an];show ∃c' l,((loop _ ((m:Int),c0.1,c0.2.1,c0.2.2,[])).bind _)=_/\_
 rw[hd,an];exact⟨_,_,rfl,g1,g2⟩
theorem QO {c:sN} (h:CW c):∃c' l,gi c=some (c',l)/\CW c'/\l.length<=100:=by
 obtain⟨c1,l,e1,w1,g1⟩:=QN h;have hn:=g1.n
 obtain⟨c2,r,e2,w2,_⟩:=v8 w1 12;unfold gi;rw[e1,an];show ∃c' l',((aa c1 12).bind _)=_/\_
 rw[e2,an];show ∃c' l',cond (r==0) _ (cond (r==1) _ _)=_/\_
 cases r==0 with
 | true =>
  obtain⟨c3,x3,e3,w3,_⟩:=wH w2 (l:=[0,1,99,100]) (by decide);obtain⟨c4,x4,e4,w4,_⟩:=wH w3 (l:=[0,1,9999]) (by decide);obtain⟨c5,x5,e5,w5,_⟩:=wH w4 (l:=[(-1),7,8]) (by decide);obtain⟨c6,x6,e6,w6,_⟩:=wH w5 (l:=[(-1),4,5]) (by decide);rw[cT,e3,an,e4,an,e5,an,e6,an];show ∃c' l',((sT l [_]).bind _)=_/\_
  rw[sE (by show l.length+1<=_;omega),an];exact⟨_,_,rfl,w6,by rw[length_append];show l.length+1<=100;omega⟩
 | false =>
 cases r==1 with
 | true =>
  rw[cF,cT];obtain⟨d,hd,g1,g2⟩:=sQ (step:=λz:Int×List Int×Int×Int×List sD=>ce z.1 z.2.1 z.2.2.1 z.2.2.2.1 z.2.2.2.2) (λk z=>z.1=(k:Int)/\CW (z.2.1,z.2.2.1,z.2.2.2.1)/\z.2.2.2.2.length<=12+k) 13 (λd=>CW (d.1,d.2.1,d.2.2.1)/\d.2.2.2.length<=100)
   (λk z hk ⟨a1,a2,a3⟩=>by
    obtain⟨i,x,y,s,l⟩:=z;simp only at a1 a2 a3;subst a1;obtain⟨c3,q,e3,w3,hq⟩:=uJ a2 (n:=3) (by decide);have e3':aa (x,y,s) 3=some (c3,(q:Int)):=e3
    have hs:ce (k:Int) x y s l=cond (decide ((k:Int)<sy (11+(q:Int)))) (some (.inl (((k+1:Nat):Int),c3.1,c3.2.1,c3.2.2,l++[(50,sy (100+(k:Int)),1,0,false)]))) (some (.inr (c3.1,c3.2.1,c3.2.2,l))):=by
     unfold ce;rw[e3',an,sE (by show l.length+1<=_;omega),an,sK (by omega)]
    show (∃y',ce (k:Int) x y s l=_/\_)\/(∃v,ce (k:Int) x y s l=_/\_);rw[hs];cases decide ((k:Int)<sy (11+(q:Int)))with
    | true=>exact .inl ⟨_,rfl,rfl,w3,by show (l++[_]).length<=_;rw[length_append];show l.length+1<=_;omega⟩
    | false=>exact .inr ⟨_,rfl,w3,by show l.length<=100;omega⟩)
   (λz ⟨a1,a2,a3⟩=>by
    obtain⟨i,x,y,s,l⟩:=z;simp only at a1 a2 a3;subst a1;obtain⟨c3,q,e3,w3,hq⟩:=uJ a2 (n:=3) (by decide);have e3':aa (x,y,s) 3=some (c3,(q:Int)):=e3
    refine⟨(c3.1,c3.2.1,c3.2.2,l),?_,w3,by show l.length<=100;omega⟩;show ce ((13:Nat):Int) x y s l=_
    unfold ce;rw[e3',an,sV (n:=11+(q:Int)) (by omega) (by omega),tk (by omega),cF]) (x:=(0,c2.1,c2.2.1,c2.2.2,l)) ⟨rfl,w2,by show l.length<=12+0;omega⟩
  show ∃c' l',((loop _ (0,c2.1,c2.2.1,c2.2.2,l)).bind _)=_/\_;rw[hd,an];exact⟨_,_,rfl,g1,g2⟩
 | false=>exact⟨_,_,rfl,w2,by show l.length<=100;omega⟩
theorem QP {c:sN} (h:CW c):∃c' v,ge c=some (c',v)/\CW c':=by
 obtain⟨c1,v,e1,w1,_⟩:=OK h;obtain⟨c2,r,e2,w2,_⟩:=v8 w1 12;unfold ge;rw[e1,an];show ∃c' l',((aa c1 12).bind _)=_/\_
 rw[e2,an];show ∃c' l',cond (r==0) _ (cond (r==1) _ (cond (r==2) _ (cond (r==3) _ _)))=_/\_
 cases r==0 with
 | true =>
  obtain⟨c3,x3,e3,w3,_⟩:=wH w2 (l:=[0,99,100]) (by decide);rw[cT,e3,an];exact⟨_,_,rfl,w3⟩
 | false =>
 cases r==1 with
 | true =>
  obtain⟨c3,x3,e3,w3,_⟩:=wH w2 (l:=[(-1),99999,100000,100001]) (by decide);rw[cF,cT,e3,an];exact⟨_,_,rfl,w3⟩
 | false =>
 cases r==2 with
 | true =>
  obtain⟨c3,x3,e3,w3,_⟩:=wH w2 (l:=[(-1),11]) (by decide);rw[cF,cF,cT,e3,an];exact⟨_,_,rfl,w3⟩
 | false =>
 cases r==3 with
 | true =>
  obtain⟨c3,x3,e3,w3,_⟩:=wH w2 (l:=[(-1),7,8]) (by decide);rw[cF,cF,cF,cT,e3,an];exact⟨_,_,rfl,w3⟩
 | false=>exact⟨_,_,rfl,w2⟩
theorem OS {c:sN} (h:CW c):∃c' l,gg c=some (c',l)/\CW c'/\l.length<=100:=by
 obtain⟨c1,p,e1,w1,b1⟩:=uJ h (n:=4) (by decide);have e1':aa c 4=some (c1,(p:Int)):=e1
 have hp:sy (1+(p:Int))=((p+1:Nat):Int):=by rw[sV (by omega) (by omega)];omega
 obtain⟨c2,l,e2,w2,l2,_⟩:=KP w1 (n:=p+1) (by omega);obtain⟨c3,r,e3,w3,_⟩:=v8 w2 12;have h0:0<l.length:=by omega
 have hi:ix l.length 0=some 0:=vI h0;have hg:l[0]?=some l[0]:=List.getElem?_eq_getElem h0
 unfold gg;rw[e1',an];show ∃c' l',((cL c1 (sy (1+(p:Int)))).bind _)=_/\_
 rw[hp,e2,an];show ∃c' l',((aa c2 12).bind _)=_/\_
 rw[e3,an];show ∃c' l',cond (r==0) _ (cond (r==1) _ (cond (r==2) _ _))=_/\_
 cases r==0 with
 | true =>
  obtain⟨c4,v,e4,w4⟩:=QP w3;rw[cT,e4,an];show ∃c' l',((ix l.length 0).bind _)=_/\_
  rw[hi,an];show ∃c' l',((l[0]?).bind _)=_/\_
  rw[hg,an];exact⟨_,_,rfl,w4,by rw[length_set];show l.length<=100;omega⟩
 | false =>
 cases r==1 with
 | true =>
  obtain⟨c4,x4,e4,w4,_⟩:=wH w3 (l:=[0,1000,1001]) (by decide);rw[cF,cT,e4,an];show ∃c' l',((ix l.length 0).bind _)=_/\_
  rw[hi,an];show ∃c' l',((l[0]?).bind _)=_/\_
  rw[hg,an];exact⟨_,_,rfl,w4,by rw[length_set];show l.length<=100;omega⟩
 | false =>
 cases r==2 with
 | true =>
  rw[cF,cF,cT];show ∃c' l',((ix l.length 0).bind _)=_/\_
  rw[hi,an];show ∃c' l',((l[0]?).bind _)=_/\_
  rw[hg,an];exact⟨_,_,rfl,w3,by rw[length_set];show l.length<=100;omega⟩
 | false=>exact⟨_,_,rfl,w3,by show l.length<=100;omega⟩

structure VS (v:tH) (n:Nat):Prop where
 a:v.1.length<=n
 b:v.2.length<=100
 r:∀r∈v.1,zC r.2.2
theorem PX {v:tH} {n:Nat} (hn:n<=1000) (hv:VS v n) {r:sM} (hr:zC r.2.2):∃y,aH v r=some y/\VS y (2*n+1):=by
 have l4:=hv.a;have l3:=hv.b
 obtain⟨d,h1,h2,h3⟩:=sQ (step:=λz:Bool×Int×List sM=>aD v r z.1 z.2.1 z.2.2) (λk z=>z.2.1=(k:Int)/\z.2.2.length<=2*k/\∀x∈z.2.2,zC x.2.2) v.1.length (λd=>d.2.length<=2*n/\∀x∈d.2,zC x.2.2)
  (λk z hk ⟨e1,e2,e3⟩=>by
   obtain⟨t,i,b⟩:=z;simp only at e1 e2 e3;subst e1;left;have hvk:zC v.1[k].2.2:=hv.r _ (getElem_mem hk)
   show ∃y,aD v r t (k:Int) b=_/\_;unfold aD;simp only[tC (show (k:Int)<(v.1.length:Int) by omega),cT,sO hk,an,sK (show k<9223372036854775807 by omega),Int.not_lt];have ha:∀(xs:List sM) (y:sM),xs.length<=10000->sT xs [y]=some (xs++[y]):=λxs y h=>sE (by show xs.length+1<=_;omega)
   have key:∀(tt:Bool),((cond (!t) (some (decide (v.1[k].1>=r.1))) (some false))=some tt->∃y:Bool×Int×List sM,(cond tt ((sT b [r]).bind λzs37=>cond (v.1[k].1 != r.1) ((sT zs37 [v.1[k]]).bind λzs56=>some (.inl (true,((k+1:Nat):Int),zs56))) (some (.inl (true,((k+1:Nat):Int),zs37)))) (cond (v.1[k].1 != r.1) ((sT b [v.1[k]]).bind λzs56_1=>some (.inl (t,((k+1:Nat):Int),zs56_1))) (some (.inl (t,((k+1:Nat):Int),b)))):Option ((Bool×Int×List sM)⊕(Bool×List sM)))=some (.inl y)/\y.2.1=((k+1:Nat):Int)/\y.2.2.length<=2*(k+1)/\∀x∈y.2.2,zC x.2.2):=by
    intro tt _;cases tt with
    | true =>
     rw[cT,ha b r (by omega),an];cases v.1[k].1 != r.1 with
     | true =>
      rw[cT,ha (b++[r]) _ (by simp;omega),an];refine⟨_,rfl,rfl,by simp;omega,λx hx=>?_⟩;simp at hx;rcases hx with hx|rfl|rfl
      · exact e3 x hx
      · exact hr
      · exact hvk
     | false =>
      refine⟨_,rfl,rfl,by simp;omega,λx hx=>?_⟩;simp at hx;rcases hx with hx|rfl
      · exact e3 x hx
      · exact hr
    | false =>
     rw[cF];cases v.1[k].1 != r.1 with
     | true =>
      rw[cT,ha b _ (by omega),an];refine⟨_,rfl,rfl,by simp;omega,λx hx=>?_⟩;simp at hx;rcases hx with hx|rfl
      · exact e3 x hx
      · exact hvk
     | false=>exact⟨_,rfl,rfl,by show b.length<=_;omega,e3⟩
   cases ht:(cond (!t) (some (decide (v.1[k].1>=r.1))) (some false))with
   | none=>cases t<;>cases ht
   | some tt =>
    rw[an];exact key tt ht)
  (λz ⟨e1,e2,e3⟩=>by
   obtain⟨t,i,b⟩:=z;simp only at e1 e2 e3;subst e1;refine⟨(t,b),?_,by show b.length<=_;omega,e3⟩;show aD v r t _ b=_
   unfold aD;rw[tk (by omega),cF]) (x:=(false,0,[])) ⟨rfl,by simp,λx hx=>absurd hx not_mem_nil⟩
 unfold aH;rw[sE (by show 0+v.2.length<=_;omega),an,h1,an,nil_append];cases d.1 with
 | true=>exact⟨_,rfl,by show d.2.length<=_;omega,l3,h3⟩
 | false =>
  rw[Bool.not_false,cT,sE (by show d.2.length+1<=_;omega),an];refine⟨_,rfl,by show (d.2++[r]).length<=_;simp;omega,l3,λx hx=>?_⟩;have hx:x∈d.2++[r]:=hx
  simp at hx;rcases hx with hx|rfl
  · exact h3 x hx
  · exact hr
theorem PY {c:sN} (h:CW c):∃c' v n,gj c=some (c',v,n)/\CW c'/\VS v 1000:=by
 obtain⟨c1,p,e1,w1,b1⟩:=uJ h (n:=4) (by decide);have e1':aa c 4=some (c1,(p:Int)):=e1
 have hp:sy (1+(p:Int))=((p+1:Nat):Int):=by rw[sV (by omega) (by omega)];omega
 obtain⟨c2,v,e2,w2,hv⟩:=MI w1 (n:=p+1) (by omega) (by omega);obtain⟨l1,l2,l3,l4⟩:=hv.len;obtain⟨c3,r,e3,w3,_⟩:=v8 w2 12;unfold gj;rw[e1',an];show ∃c' v' n',((cM c1 (sy (1+(p:Int)))).bind _)=_/\_
 rw[hp,e2,an];show ∃c' v' n',((aa c2 12).bind _)=_/\_
 rw[e3,an];show ∃c' v' n',cond (r==0) _ (cond (r==1) _ (cond (r==2) _ (cond (r==3) _ _)))=_/\_
 cases r==0 with
 | true =>
  obtain⟨c4,x4,e4,w4,_⟩:=wH w3 (l:=[0,1,9,100]) (by decide);obtain⟨c5,x5,e5,w5,_⟩:=wH w4 (l:=[(-1),0,1,64]) (by decide);obtain⟨c6,k6,e6,w6,b6⟩:=uJ w5 (n:=3) (by decide);have e6':aa c5 3=some (c6,(k6:Int)):=e6
  rw[cT,e4,an,e5,an];show ∃c' v' n',((aa c5 3).bind _)=_/\_
  rw[e6',an];show ∃c' v' n',((sT v.1 [_]).bind _)=_/\_
  rw[sE (by show v.1.length+1<=_;omega),an];refine⟨_,_,_,rfl,w6,by show (v.1++[_]).length<=_;rw[length_append];show v.1.length+1<=_;omega,by show v.2.length<=_;omega,λx hx=>?_⟩;have hx:x∈v.1++[(x4,x5,(k6:Int))]:=hx
  simp at hx;rcases hx with hx|rfl
  · exact hv.r x hx
  · show zC (k6:Int);exact⟨by omega,by omega⟩
 | false =>
 cases r==1 with
 | true =>
  obtain⟨c4,x4,e4,w4,_⟩:=wH w3 (l:=[0,7]) (by decide);have h0:0<v.2.length:=by omega
  rw[cF,cT,e4,an];show ∃c' v' n',((ix v.2.length 0).bind _)=_/\_
  rw[show ix v.2.length 0=some 0 from vI h0,an];show ∃c' v' n',((v.2[0]?).bind _)=_/\_
  rw[List.getElem?_eq_getElem h0,an];exact⟨_,_,_,rfl,w4,by show v.1.length<=_;omega,by show (v.2.set 0 x4).length<=_;rw[length_set];omega,hv.r⟩
 | false =>
 cases r==2 with
 | true =>
  obtain⟨c4,x4,e4,w4,_⟩:=wH w3 (l:=[0,6,7]) (by decide);rw[cF,cF,cT,e4,an];exact⟨_,_,_,rfl,w4,by show v.1.length<=_;omega,by show v.2.length<=_;omega,hv.r⟩
 | false =>
 cases r==3 with
 | true =>
  rw[cF,cF,cF,cT];have hpow:∀k,k<=6->8*2^k<=512:=by
   intro k hk;have:2^k<=2^6:=Nat.pow_le_pow_right (by decide) hk
   omega
  obtain⟨d,hd,hv2⟩:=sQ (step:=λz:Int×List sM×List Int=>dU z.1 z.2.1 z.2.2) (λk z=>z.1=(k:Int)/\VS z.2 (8*2^k-1)) 6 (λd=>VS d 1000)
   (λk z hk ⟨a1,a2⟩=>by
    obtain⟨i,rows,qs⟩:=z;simp only at a1 a2;subst a1;left;have hk':=hpow k (by omega)
    obtain⟨y,hy,hy2⟩:=PX (by omega) a2 (r:=(sy (10+(k:Int)),0,0)) ⟨by show (-9223372036854775808:Int)<=0;decide,by show (0:Int)<=9223372036854775807;decide⟩;refine⟨(((k+1:Nat):Int),y),?_,rfl,?_⟩
    · show dU (k:Int) rows qs=_;unfold dU;rw[tC (by omega),cT,hy,an,sK (by omega)]
    · have e:2*(8*2^k-1)+1=8*2^(k+1)-1:=by
       have:1<=2^k:=Nat.one_le_two_pow;rw[Nat.pow_succ];omega
      rw[←e];exact hy2)
   (λz ⟨a1,a2⟩=>by
    obtain⟨i,rows,qs⟩:=z;simp only at a1 a2;subst a1;refine⟨(rows,qs),?_,Nat.le_trans a2.a (by decide),a2.b,a2.r⟩;show dU ((6:Nat):Int) rows qs=_
    unfold dU;rw[tk (by omega),cF]) (x:=(0,v.1,v.2)) ⟨rfl,by show v.1.length<=8*2^0-1;omega,by show v.2.length<=_;omega,hv.r⟩
  show ∃c' v' n',((loop _ (0,v.1,v.2)).bind _)=_/\_;rw[hd,an];exact⟨_,_,_,rfl,w3,hv2⟩
 | false=>exact⟨_,_,_,rfl,w3,by show v.1.length<=_;omega,by show v.2.length<=_;omega,hv.r⟩
structure At (m:List sB) (o:List Int) (j:Nat):Prop where
 le:j<=m.length
 no:∀i (hi:i<m.length),i<j->¬o<m[i].1
 yes:∀i (hi:i<m.length),j<=i->o<m[i].1
theorem PZ {m:List sB} (hp:m.Pairwise λx y=>x.1<y.1) (o:List Int):∃j,At m o j:=by
 have hp:=pairwise_iff_getElem.1 hp;have key:∀n,n<=m.length->(∀i (hi:i<m.length),i<n->¬o<m[i].1)\/∃j,At m o j:=by
  intro n
  induction n with
  | zero=>exact λ_=>.inl λi hi h=>by omega
  | succ n ih =>
   intro hn;rcases ih (by omega)with h|h
   · by_cases hlt:o<m[n].1
     · refine .inr ⟨n,by omega,h,λi hi hni=>?_⟩;by_cases e:i=n
       · subst e;exact hlt
       · exact List.lt_trans hlt (hp n i (by omega) hi (by omega))
     · refine .inl λi hi hin=>?_;by_cases e:i=n
       · subst e;exact hlt
       · exact h i hi (by omega)
   · exact .inr h
 rcases key m.length (Nat.le_refl _)with h|h
 · exact⟨m.length,Nat.le_refl _,λi hi _=>h i hi hi,λi hi h=>by omega⟩
 · exact h
theorem Q0 {b:sx} (h:tW b) {o:List Int} (ho:o.length<=1000) {j:Nat} (hj:At (vz b) o j):bt b o=some (if h:j<(vz b).length then (vz b)[j]else (o,130,0,[],[])):=by
 have hle:=HI h;have hjl:=hj.le
 obtain⟨v,h1,h2⟩:=sQ (step:=λz:Int×Int×Int×List UInt8×List Int×List Int=>ca o (vz b) z.1 z.2.1 z.2.2.1 z.2.2.2.1 z.2.2.2.2.1 z.2.2.2.2.2) (λk z=>z=((k:Int),0,0,[],[],[])) j (λv=>if h:j<(vz b).length then v=.inr (vz b)[j]else ∃u,v=.inl u)
  (λk z hk e=>by
   subst e;have hkl:k<(vz b).length:=by omega
   have hn:=(zN h _ (getElem_mem hkl)).1.n10;refine .inl ⟨(((k+1:Nat):Int),0,0,[],[],[]),?_,rfl⟩;show ca o (vz b) (k:Int) 0 0 [] [] []=_
   unfold ca;rw[tC (by omega),cT,sO hkl,an,MJ (by omega),dF (hj.no k hkl hk),an,cF,sK (by omega)])
  (λz e=>by
   subst e;show ∃v,ca o (vz b) (j:Int) 0 0 [] [] []=_/\_
   unfold ca;by_cases hjn:j<(vz b).length
   · have hn:=(zN h _ (getElem_mem hjn)).1.n10;rw[tC (by omega),cT,sO hjn,an,MJ (by omega),dT (hj.yes j hjn (Nat.le_refl _)),an,cT];exact⟨_,rfl,by rw[dif_pos hjn]⟩
   · rw[tk (by omega),cF];exact⟨_,rfl,by rw[dif_neg hjn];exact⟨_,rfl⟩⟩) (x:=(0,0,0,[],[],[])) rfl
 unfold bt;rw[M5 h,an,h1,an];by_cases hjn:j<(vz b).length
 · rw[dif_pos hjn]at h2;rw[dif_pos hjn,h2];rfl
 · rw[dif_neg hjn]at h2;obtain⟨u,rfl⟩:=h2;rw[dif_neg hjn];show ((aX o).bind _)=_
   unfold aX;rw[sE (by show 0+o.length<=_;omega)];rfl
theorem vY {α:Type} {ys:List α} (h:ys.length<=M):sT [] ys=some ys:=by
 unfold sT;rw[if_pos (by show 0+ys.length<=4294967296;have h':ys.length<=1048576:=h;omega)];rfl
theorem CE {l:List Int} (h:l.length<=M):aX l=some l:=by unfold aX;rw[vY h];rfl
theorem zm {l:List Int} (h:l.length<=M):bA l=some l:=by unfold bA;rw[vY h];rfl
theorem NK {l:List sD} (h:l.length<=M):fM l=some l:=by unfold fM;rw[vY h];rfl
theorem Ma {l:List sD} (h:l.length<=M):cg l=some l:=by unfold cg;rw[vY h];rfl
theorem Ep {v:tH} (h:v.1.length<=M/\v.2.length<=M):dv v=some v:=by
 unfold dv;rw[vY h.1,an,CE h.2];rfl
theorem KW {v:tH} (h:v.1.length<=M/\v.2.length<=M):aR v=some v:=by
 unfold aR;rw[vY h.1,an,vY h.2];rfl
theorem xi {b:sx} (h:yt M b):ap b=some b:=by
 obtain⟨h1,h2,h3,h4,h5⟩:=h;unfold ap;rw[vY h2,an,NK h3,an,Ep ⟨h4,h5⟩];rfl
theorem vA {b:sx} (h:yt M b):am b=some b:=by
 obtain⟨h1,h2,h3,h4,h5⟩:=h;unfold am;rw[vY h2,an,Ma h3,an,KW ⟨h4,h5⟩];rfl
def FO (o:List Int) (k:Nat):Bool:=match o[k]? with|some x=>!(sC x 0 100000)|none=>false
def vV (o:List Int):Bool:=!((List.range o.length).any (FO o))&&sC (o.length:Int) 1 10
theorem CF {o:List Int} (h:o.length<9223372036854775807):ak o=some (vV o):=by
 unfold ak vV;have e:loop (λz=>aL o z) 0=some (cond ((List.range o.length).any (FO o)) (Sum.inr false) (Sum.inl ())):=by
  rw[←wD (n:=o.length) (c:=λi=>(at? o i).bind λx=>(ac x 0 100000).bind λt=>some (!t)) (b:=FO o) h (λk hk=>by
   simp only[sO hk,an,FO,List.getElem?_eq_getElem hk,wm])]
  refine vi (λi=>?_) 0;unfold aL;simp only[Option.bind_assoc,an]
 rw[e,an];cases (List.range o.length).any (FO o)with
 | true=>rfl
 | false=>simp only[cF,Sum.elim_inl,wm,an,Bool.not_false,Bool.true_and]
theorem HJ:bJ=ak:=rfl
theorem MM (n:Int):∃c,av n=some c/\(c==n)=sC n (-2147483648) 2147483647:=by
 unfold av sC;by_cases h1:n>2147483647
 · refine⟨_,by rw[dT h1];rfl,?_⟩;rw[dF (show ¬n<=2147483647 by omega),Bool.and_false];exact beq_eq_false_iff_ne.2 (by omega)
 · by_cases h2:n < -2147483648
   · refine⟨_,by rw[dF h1,dT h2];rfl,?_⟩;rw[dF (show ¬n >= -2147483648 by omega),Bool.false_and];exact beq_eq_false_iff_ne.2 (by omega)
   · refine⟨_,by rw[dF h1,dF h2];rfl,?_⟩;rw[dT (show n >= -2147483648 by omega),dT (show n<=2147483647 by omega),beq_self_eq_true];rfl
theorem NL (l:List Int):aF l []=some ((l.length:Int)==0):=by
 cases l with
 | nil=>exact Ku (n:=0) (Hw (a:=[]) (by decide))
 | cons x l =>
  unfold aF;have e:(((x::l).length:Int) != (([]:List Int).length:Int))=true:=by simp;omega
  rw[e,cT,beq_eq_false_iff_ne.2 (by simp;omega)]
theorem Mb {l:List Int} (h:l.length<=M):aF l l=some true:=Ku (Hw (Qv h))
def wq (v:wl):Bool :=
 cond (v.1==5||(v.1==128||v.1==130)) (v.2.1==0&&(v.2.2.1==[]&&((v.2.2.2.length:Int)==0)))
  (cond (v.1==2) (sC v.2.1 (-2147483648) 2147483647&&(v.2.2.1==[]&&((v.2.2.2.length:Int)==0)))
   (cond (v.1==4) (decide ((v.2.2.1.length:Int)<=20)&&(v.2.1==0&&((v.2.2.2.length:Int)==0)))
    (cond (v.1==6) (vV v.2.2.2&&(v.2.1==0&&(v.2.2.1==[]))) false)))
theorem Eq {v:wl} (h:v.2.2.2.length<=M):al v=some (wq v):=by
 obtain⟨k,n,s,o⟩:=v;have h':o.length<=1048576:=h
 have ho:o.length<=M:=h;have hb:o.length<9223372036854775807:=by omega
 unfold al wq bn az;simp only[wm,NL,Mb ho,CF hb,an];by_cases h2:k=2
 · subst h2;cases sC n (-2147483648) 2147483647<;>cases s==[]<;>cases (o.length:Int)==0<;>simp
 by_cases h4:k=4
 · subst h4;cases decide ((s.length:Int)<=20)<;>cases n==0<;>cases (o.length:Int)==0<;>simp
 by_cases h6:k=6
 · subst h6;cases vV o<;>cases n==0<;>cases s==[]<;>simp
 rw[beq_eq_false_iff_ne.2 h2,beq_eq_false_iff_ne.2 h4,beq_eq_false_iff_ne.2 h6];by_cases h5:k=5
 · subst h5;cases n==0<;>cases s==[]<;>cases (o.length:Int)==0<;>simp
 by_cases h128:k=128
 · subst h128;cases n==0<;>cases s==[]<;>cases (o.length:Int)==0<;>simp
 by_cases h130:k=130
 · subst h130;cases n==0<;>cases s==[]<;>cases (o.length:Int)==0<;>simp
 rw[beq_eq_false_iff_ne.2 h5,beq_eq_false_iff_ne.2 h128,beq_eq_false_iff_ne.2 h130];rfl
theorem FP {v:wl} (h:v.2.2.2.length<=M):bv v=some (wq v):=by
 obtain⟨k,n,s,o⟩:=v;have h':o.length<=1048576:=h
 have hb:o.length<9223372036854775807:=by omega
 obtain⟨c,hc,hc2⟩:=MM n;unfold bv wq;simp only[HJ,CF hb,hc,hc2,an];by_cases h5:k=5
 · subst h5;cases n==0<;>cases s==[]<;>cases (o.length:Int)==0<;>simp
 by_cases h128:k=128
 · subst h128;cases n==0<;>cases s==[]<;>cases (o.length:Int)==0<;>simp
 by_cases h130:k=130
 · subst h130;cases n==0<;>cases s==[]<;>cases (o.length:Int)==0<;>simp
 rw[beq_eq_false_iff_ne.2 h5,beq_eq_false_iff_ne.2 h128,beq_eq_false_iff_ne.2 h130];by_cases h2:k=2
 · subst h2;cases sC n (-2147483648) 2147483647<;>cases s==[]<;>cases (o.length:Int)==0<;>simp
 by_cases h4:k=4
 · subst h4;cases decide ((s.length:Int)<=20)<;>cases n==0<;>cases (o.length:Int)==0<;>simp
 by_cases h6:k=6
 · subst h6;cases vV o<;>cases n==0<;>cases s==[]<;>simp
 rw[beq_eq_false_iff_ne.2 h2,beq_eq_false_iff_ne.2 h4,beq_eq_false_iff_ne.2 h6];rfl
def wE (x:sB):Bool:=vV x.1&&wq x.2
def bX (l:List sB) (k:Nat):Bool:=match l[k]? with|some x=>!(wE x)|none=>false
def uF (p:tg):Bool :=
 (!((List.range p.2.2.2.2.length).any (bX p.2.2.2.2))&&decide ((p.2.2.2.2.length:Int)<=10)) &&
 (cond (p.1==162||p.1==165) (sC p.2.2.1 0 1000&&sC p.2.2.2.1 0 1000)
  (cond (p.1==160||(p.1==161||p.1==163)) (p.2.2.1==0&&p.2.2.2.1==0) false)&&sC p.2.1 (-2147483648) 2147483647)
theorem OT {n:Nat} {f g:Nat->Bool}:(List.range n).any (λk=>f k||g k)=((List.range n).any f||(List.range n).any g):=by
 generalize List.range n=l
 induction l with
 | nil=>rfl
 | cons a l ih=>simp only[List.any_cons,ih];cases f a<;>cases g a<;>simp
theorem NM (n:Nat):(List.range n).any (λk=>decide ((k:Int)>=10))=!(decide ((n:Int)<=10)):=by
 by_cases h:(n:Int)<=10
 · rw[dT h];refine Bool.eq_false_iff.2 λha=>?_;obtain⟨k,h1,h2⟩:=any_eq_true.1 ha;have:=mem_range.1 h1
   have:=of_decide_eq_true h2;omega
 · rw[dF h];exact any_eq_true.2 ⟨10,mem_range.2 (by omega),by decide⟩
theorem Mc {p:tg} (h:wM M p):loop (λz=>fL p z) 0=some (cond (!(decide ((p.2.2.2.2.length:Int)<=10))||(List.range p.2.2.2.2.length).any (bX p.2.2.2.2)) (Sum.inr false) (Sum.inl ())):=by
 obtain⟨k,i,e,x,l⟩:=p;have h':B1 M l:=h
 have hl:l.length<=1048576:=h'.1;show loop (λz=>fL (k,i,e,x,l) z) 0=some (cond (!(decide ((l.length:Int)<=10))||(List.range l.length).any (bX l)) (Sum.inr false) (Sum.inl ()))
 rw[←NM,←OT,←wD (n:=l.length) (c:=λi=>(at? l i).bind λx=>(cond (decide (i>=10)) (some true) ((ak x.1).bind λt=>some (!t))).bind λt=>(cond t (some true) ((al x.2).bind λt=>some (!t)))) (b:=λk=>decide ((k:Int)>=10)||bX l k) (by omega) (λk hk=>by
  have hx:E8 M l[k]:=h'.2 _ (getElem_mem hk);have h1:l[k].1.length<=1048576:=hx.1
  have h2:l[k].2.2.2.2.length<=M:=hx.2.2;simp only[sO hk,an,bX,List.getElem?_eq_getElem hk,CF (show l[k].1.length<9223372036854775807 by omega),Eq (v:=l[k].2) h2,wE];cases decide ((k:Int)>=10)<;>cases vV l[k].1<;>cases wq l[k].2<;>rfl)]
 refine vi (λi=>?_) 0;unfold fL;simp only[Option.bind_assoc,an]
theorem KY {p:tg} (h:wM M p):loop (λz=>gv p z) 0=some (cond ((List.range p.2.2.2.2.length).any (bX p.2.2.2.2)) (Sum.inr false) (Sum.inl ())):=by
 obtain⟨k,i,e,x,l⟩:=p;have h':B1 M l:=h
 have hl:l.length<=1048576:=h'.1;show loop (λz=>gv (k,i,e,x,l) z) 0=some (cond ((List.range l.length).any (bX l)) (Sum.inr false) (Sum.inl ()))
 rw[←wD (n:=l.length) (c:=λi=>(at? l i).bind λx=>(bJ x.1).bind λt=>(cond (!t) (some true) ((at? l i).bind λx=>(bv x.2).bind λt=>some (!t)))) (b:=bX l) (by omega) (λk hk=>by
  have hx:E8 M l[k]:=h'.2 _ (getElem_mem hk);have h1:l[k].1.length<=1048576:=hx.1
  have h2:l[k].2.2.2.2.length<=M:=hx.2.2;simp only[sO hk,an,bX,List.getElem?_eq_getElem hk,HJ,CF (show l[k].1.length<9223372036854775807 by omega),FP (v:=l[k].2) h2,wE];cases vV l[k].1<;>cases wq l[k].2<;>rfl)]
 refine vi (λi=>?_) 0;unfold gv;simp only[Option.bind_assoc,an]
theorem Md {p:tg} (h:wM M p):cw p=some (uF p):=by
 have e0:=Mc h;have e1:loop (λz=>jd p z) 0=_:=e0
 have e2:loop (λz=>je p z) 0=_:=e0;have e3:loop (λz=>jf p z) 0=_:=e0
 have e4:loop (λz=>jg p z) 0=_:=e0;have e5:loop (λz=>jh p z) 0=_:=e0
 have e6:loop (λz=>ji p z) 0=_:=e0;have e7:loop (λz=>jj p z) 0=_:=e0
 have e8:loop (λz=>jk p z) 0=_:=e0;unfold cw uF az;rw[e0,e1,e2,e3,e4,e5,e6,e7,e8];simp only[wm,an];generalize (List.range p.2.2.2.2.length).any (bX p.2.2.2.2)=u;generalize decide ((p.2.2.2.2.length:Int)<=10)=w;generalize sC p.2.1 (-2147483648) 2147483647=x;generalize p.2.2.1=e;generalize p.2.2.2.1=i;generalize p.1=k;by_cases h0:k=160
 · subst h0;have b1:(e != 0)=!(e==0):=rfl
   have b2:(i != 0)=!(i==0):=rfl;rw[b1,b2];cases e==0<;>cases i==0<;>cases u<;>cases w<;>cases x<;>rfl
 by_cases h1:k=161
 · subst h1;have b1:(e != 0)=!(e==0):=rfl
   have b2:(i != 0)=!(i==0):=rfl;rw[b1,b2];cases e==0<;>cases i==0<;>cases u<;>cases w<;>cases x<;>rfl
 by_cases h3:k=163
 · subst h3;have b1:(e != 0)=!(e==0):=rfl
   have b2:(i != 0)=!(i==0):=rfl;rw[b1,b2];cases e==0<;>cases i==0<;>cases u<;>cases w<;>cases x<;>rfl
 by_cases h2:k=162
 · subst h2;cases sC e 0 1000<;>cases sC i 0 1000<;>cases u<;>cases w<;>cases x<;>rfl
 by_cases h5:k=165
 · subst h5;cases sC e 0 1000<;>cases sC i 0 1000<;>cases u<;>cases w<;>cases x<;>rfl
 rw[beq_eq_false_iff_ne.2 h0,beq_eq_false_iff_ne.2 h1,beq_eq_false_iff_ne.2 h2,beq_eq_false_iff_ne.2 h3,beq_eq_false_iff_ne.2 h5];cases u<;>cases w<;>rfl
theorem JM {p:tg} (h:wM M p):bK p=some (uF p):=by
 obtain⟨c,hc,hc2⟩:=MM p.2.1;unfold bK uF ib;rw[KY h];simp only[yu,hc,hc2,an];generalize (List.range p.2.2.2.2.length).any (bX p.2.2.2.2)=u;generalize decide ((p.2.2.2.2.length:Int)<=10)=w;generalize sC p.2.1 (-2147483648) 2147483647=x;generalize p.2.2.1=e;generalize p.2.2.2.1=i;generalize p.1=k;have b1:(e != 0)=!(e==0):=rfl
 have b2:(i != 0)=!(i==0):=rfl;rw[b1,b2];have z1:(e==0)=true->sC e 0 1000=true:=λh=>by rw[eq_of_beq h];rfl
 have z2:(i==0)=true->sC i 0 1000=true:=λh=>by rw[eq_of_beq h];rfl
 by_cases h2:k=162
 · subst h2;cases sC e 0 1000<;>cases sC i 0 1000<;>cases u<;>cases w<;>cases x<;>rfl
 by_cases h5:k=165
 · subst h5;cases sC e 0 1000<;>cases sC i 0 1000<;>cases u<;>cases w<;>cases x<;>rfl
 have n2:(k != 162)=true:=bne_iff_ne.2 h2;have n5:(k != 165)=true:=bne_iff_ne.2 h5
 rw[n2,n5,beq_eq_false_iff_ne.2 h2,beq_eq_false_iff_ne.2 h5];cases he:e==0 with
 | false=>cases hi:i==0<;>cases u<;>cases w<;>cases x<;>cases k==160<;>cases k==161<;>cases k==163<;>rfl
 | true =>
  rw[z1 he];cases hi:i==0 with
  | false=>cases u<;>cases w<;>cases x<;>cases k==160<;>cases k==161<;>cases k==163<;>rfl
  | true =>
   rw[z2 hi];cases u<;>cases w<;>cases x<;>cases k==160<;>cases k==161<;>cases k==163<;>rfl
def tA (j:tQ):Int:=j.2.2.2.2.2.2.2.2.2.2.2.2.2.2.2.2.2.2.2.2
def wB (j:tQ):Int:=j.2.2.2.2.2.2.2.2.2.2.2.2.2.2.2.2.2.2.2.1
noncomputable def z9 (j:tQ):Bool:=sC j.2.2.1 0 2&&(sC (wB j) 0 (j.2.2.2.2.2.2.2.1.length:Int)&&(sC (tA j) 0 3&&(j.2.2.1==0||(uF (jP j)&&((j.2.2.2.1 != 162)&&tI (jB j))))))
structure IK (j:tQ):Prop where
 p:wM M (jP j)
 b:wU (jB j)
theorem QQ {j:tQ} (h:IK j):eF j=some (z9 j):=by
 have hp:cw (j.2.2.2.1,j.2.2.2.2.1,j.2.2.2.2.2.1,j.2.2.2.2.2.2.1,j.2.2.2.2.2.2.2.1)=some (uF (jP j)):=Md h.p;have hb:=AB h.b
 unfold jB at hb;unfold eF z9;rw[hp,hb];simp only[wm,an,wB,tA];cases sC j.2.2.1 0 2<;>cases sC j.2.2.2.2.2.2.2.2.2.2.2.2.2.2.2.2.2.2.2.1 0 (j.2.2.2.2.2.2.2.1.length:Int)<;>cases sC j.2.2.2.2.2.2.2.2.2.2.2.2.2.2.2.2.2.2.2.2 0 3<;>cases j.2.2.1==0<;>cases uF (jP j)<;>cases j.2.2.2.1 != 162<;>rfl
theorem QR {j:tQ} (h:IK j) (last:Int):fa j last=some (sC j.1 1 last&&z9 j):=by
 have hp:bK (j.2.2.2.1,j.2.2.2.2.1,j.2.2.2.2.2.1,j.2.2.2.2.2.2.1,j.2.2.2.2.2.2.2.1)=some (uF (jP j)):=JM h.p;have hb:=zL h.b
 unfold jB at hb;unfold fa ic z9;rw[hp,hb];simp only[yu,an,wB,tA];cases sC j.1 1 last<;>cases sC j.2.2.1 0 2<;>cases sC j.2.2.2.2.2.2.2.2.2.2.2.2.2.2.2.2.2.2.2.1 0 (j.2.2.2.2.2.2.2.1.length:Int)<;>cases sC j.2.2.2.2.2.2.2.2.2.2.2.2.2.2.2.2.2.2.2.2 0 3<;>cases j.2.2.1==0<;>cases uF (jP j)<;>cases j.2.2.2.1 != 162<;>rfl
def sA (a:sL):List tQ:=a.2.2.2.2.2.2.2.2.2.2.2.2.1
def sZ (a:sL):Int:=a.2.2.2.2.2.2.2.2.2.2.2.2.2.2
def tN (a:sL):Int:=a.2.2.2.2.2.2.2.2.2.2.2.2.2.1
noncomputable def BK (l:List tQ) (last:Int) (k:Nat):Bool:=match l[k]? with
 | some j=>!(sC j.1 1 last&&z9 j)||(decide (0<k)&&(match l[k-1]? with|some p=>decide (p.1>=j.1)|none=>false))
 | none=>false
noncomputable def xj (a:sL):Bool:=!((List.range (sA a).length).any (BK (sA a) (sZ a)))&&(tI (aB a)&&(decide ((a.2.2.2.2.2.2.2.2.2.2.2.1.length:Int)<=20)&&(decide (((sA a).length:Int)<=6)&&(sC (tN a) 0 1000000&&sC (sZ a) 0 1000000))))
structure Fk (a:sL):Prop where
 b:wU (aB a)
 n:(sA a).length<=1048576
 j:∀x∈sA a,IK x
theorem JN {a:sL} (h:Fk a):loop (λz=>gZ a z) 0=some (cond ((List.range (sA a).length).any (BK (sA a) (sZ a))) (Sum.inr false) (Sum.inl ())):=by
 have hn:=h.n;rw[←wD (n:=(sA a).length) (c:=λi=>(at? (sA a) i).bind λx=>(ac x.1 1 (sZ a)).bind λt=>(cond (!t) (some true) ((cond (decide (i>0)) ((at? (sA a) (sy (i-1))).bind λy=>some (decide (y.1>=x.1))) (some false)).bind λt=>some t)).bind λt=>(cond t (some true) ((eF x).bind λt=>some (!t))).bind λt=>some t) (b:=BK (sA a) (sZ a)) (by omega) (λk hk=>by
  simp only[sO hk,an,wm,QQ (h.j _ (getElem_mem hk)),BK,List.getElem?_eq_getElem hk];by_cases h0:0<k
  · have hd:decide ((k:Int)>0)=true:=dT (by omega);simp only[hd,AA hk h0 (by omega),an,dT h0,List.getElem?_eq_getElem (show k-1<(sA a).length by omega),cT];cases sC (sA a)[k].1 1 (sZ a)<;>cases decide ((sA a)[k-1].1>=(sA a)[k].1)<;>cases z9 (sA a)[k]<;>rfl
  · have hd:decide ((k:Int)>0)=false:=dF (by omega);simp only[hd,dF h0];cases sC (sA a)[k].1 1 (sZ a)<;>cases z9 (sA a)[k]<;>rfl)]
 refine vi (λi=>?_) 0;unfold gZ sA sZ;simp only[Option.bind_assoc,an]
theorem Ib {a:sL} (h:Fk a):loop (λz=>ie a z) 0=some (cond ((List.range (sA a).length).any (BK (sA a) (sZ a))) (Sum.inr false) (Sum.inl ())):=by
 have hn:=h.n;rw[←wD (n:=(sA a).length) (c:=λi=>(at? (sA a) i).bind λx=>(fa x (sZ a)).bind λt=>(cond (!t) (some true) ((cond (decide (i>0)) ((at? (sA a) (sy (i-1))).bind λy=>(at? (sA a) i).bind λx=>some (decide (y.1>=x.1))) (some false)).bind λt=>some t))) (b:=BK (sA a) (sZ a)) (by omega) (λk hk=>by
  simp only[sO hk,an,QR (h.j _ (getElem_mem hk)),BK,List.getElem?_eq_getElem hk];by_cases h0:0<k
  · have hd:decide ((k:Int)>0)=true:=dT (by omega);simp only[hd,AA hk h0 (by omega),an,dT h0,List.getElem?_eq_getElem (show k-1<(sA a).length by omega),cT];cases sC (sA a)[k].1 1 (sZ a)<;>cases decide ((sA a)[k-1].1>=(sA a)[k].1)<;>cases z9 (sA a)[k]<;>rfl
  · have hd:decide ((k:Int)>0)=false:=dF (by omega);simp only[hd,dF h0];cases sC (sA a)[k].1 1 (sZ a)<;>cases z9 (sA a)[k]<;>rfl)]
 refine vi (λi=>?_) 0;unfold ie sA sZ;simp only[Option.bind_assoc,an]
theorem Q1 (n m:Int):decide (n>m)=!(decide (n<=m)):=by
 by_cases h:n<=m
 · rw[dT h,dF (by omega)];rfl
 · rw[dF h,dT (by omega)];rfl
theorem A6 {a:sL} (h:Fk a):bQ a=some (xj a):=by
 have hb:bm (a.1,a.2.1,a.2.2.1,a.2.2.2.1,a.2.2.2.2.1,a.2.2.2.2.2.1,a.2.2.2.2.2.2.1,a.2.2.2.2.2.2.2.1,a.2.2.2.2.2.2.2.2.1,a.2.2.2.2.2.2.2.2.2.1,a.2.2.2.2.2.2.2.2.2.2.1)=some (tI (aB a)):=AB h.b;unfold bQ xj;rw[JN h,hb];simp only[KO,an,Q1,tN,sZ];generalize (List.range (sA a).length).any _=u;show _=some (!u&&(tI (aB a)&&(_&&(decide ((a.2.2.2.2.2.2.2.2.2.2.2.2.1.length:Int)<=6)&&(_)))))
 cases u<;>cases tI (aB a)<;>cases decide ((a.2.2.2.2.2.2.2.2.2.2.2.1.length:Int)<=20)<;>cases decide ((a.2.2.2.2.2.2.2.2.2.2.2.2.1.length:Int)<=6)<;>cases sC a.2.2.2.2.2.2.2.2.2.2.2.2.2.1 0 1000000<;>cases sC a.2.2.2.2.2.2.2.2.2.2.2.2.2.2 0 1000000<;>rfl
theorem Fl {a:sL} (h:Fk a):dX a=some (xj a):=by
 have hb:aV (a.1,a.2.1,a.2.2.1,a.2.2.2.1,a.2.2.2.2.1,a.2.2.2.2.2.1,a.2.2.2.2.2.2.1,a.2.2.2.2.2.2.2.1,a.2.2.2.2.2.2.2.2.1,a.2.2.2.2.2.2.2.2.2.1,a.2.2.2.2.2.2.2.2.2.2.1)=some (tI (aB a)):=zL h.b;unfold dX xj;rw[Ib h,hb];simp only[yu,an,tN,sZ];generalize (List.range (sA a).length).any _=u;show _=some (!u&&(tI (aB a)&&(_&&(decide ((a.2.2.2.2.2.2.2.2.2.2.2.2.1.length:Int)<=6)&&(_)))))
 cases u<;>cases tI (aB a)<;>cases decide ((a.2.2.2.2.2.2.2.2.2.2.2.1.length:Int)<=20)<;>cases decide ((a.2.2.2.2.2.2.2.2.2.2.2.2.1.length:Int)<=6)<;>cases sC a.2.2.2.2.2.2.2.2.2.2.2.2.2.1 0 1000000<;>cases sC a.2.2.2.2.2.2.2.2.2.2.2.2.2.2 0 1000000<;>rfl
theorem Dv {α:Type} {l:List α} {step:Int×List α->Option ((Int×List α)⊕List α)} (hn:l.length<=M)
 (hs:∀k (hk:k<l.length) out,step ((k:Int),out)=(sT out [l[k]]).bind λzs=>some (.inl (((k+1:Nat):Int),zs)))
 (he:∀out,step ((l.length:Int),out)=some (.inr out)):loop step (0,[])=some l:=by
 have hn':l.length<=1048576:=hn;obtain⟨b,h1,rfl⟩:=sQ (step:=step) (λk z=>z=((k:Int),l.take k)) l.length (λb=>b=l)
  (λk z hk e=>by
   subst e;left;refine⟨_,by rw[hs k hk,sE (by rw[List.length_take];show _+1<=_;omega),an],?_⟩;rw[take_add_one,List.getElem?_eq_getElem hk];rfl)
  (λz e=>by
   subst e;exact⟨_,he _,by rw[take_length]⟩) (x:=(0,[])) rfl
 exact h1
theorem NN {v:wl} (h:Qd M v):fN v=some v:=by unfold fN;rw[CE h.2];rfl
theorem Dw {l:List sB} (h:B1 M l):dx l=some l:=by
 have hn:l.length<=1048576:=h.1;unfold dx;rw[Dv (step:=λz=>dw l z.1 z.2) h.1 (λk hk out=>by
  show dw l (k:Int) out=_;unfold dw;have hx:=h.2 _ (getElem_mem hk)
  rw[tC (by omega),cT,sO hk,an,CE hx.1,an,NN hx.2,an,sK (by omega)]) (λout=>by
  show dw l (l.length:Int) out=_;unfold dw;rw[tk (by omega),cF])];rfl
theorem As {l:List sB} (h:B1 M l):cS l=some l:=by
 have hn:l.length<=1048576:=h.1;unfold cS;rw[Dv (step:=λz=>dY l z.1 z.2) h.1 (λk hk out=>by
  show dY l (k:Int) out=_;unfold dY;have hx:=h.2 _ (getElem_mem hk)
  rw[tC (by omega),cT,sO hk,an,vY hx.2.2,an,an,vY hx.1,an,sK (by omega)]) (λout=>by
  show dY l (l.length:Int) out=_;unfold dY;rw[tk (by omega),cF])];rfl
theorem NO {p:tg} (h:wM M p):eG p=some p:=by unfold eG;rw[Dw h];rfl
theorem Me {p:tg} (h:wM M p):fb p=some p:=by unfold fb;rw[As h];rfl
theorem yv {a:sL} (h:Do M a):dz a=some a:=by
 obtain⟨h1,h2,h3,h4⟩:=h;have hn:(sA a).length<=1048576:=h3
 unfold dz;have hb:ap (a.1,a.2.1,a.2.2.1,a.2.2.2.1,a.2.2.2.2.1,a.2.2.2.2.2.1,a.2.2.2.2.2.2.1,a.2.2.2.2.2.2.2.1,a.2.2.2.2.2.2.2.2.1,a.2.2.2.2.2.2.2.2.2.1,a.2.2.2.2.2.2.2.2.2.2.1)=some (aB a):=xi h1
 rw[hb,an,Dv (l:=sA a) (step:=λz=>dy a z.1 z.2) h3 (λk hk out=>by
  show dy a (k:Int) out=_;unfold dy;obtain⟨hx1,hx2,hx3⟩:=h4 _ (getElem_mem hk);have e0:at? a.2.2.2.2.2.2.2.2.2.2.2.2.1 (k:Int)=some (sA a)[k]:=sO hk
  rw[tC (show (k:Int)<(a.2.2.2.2.2.2.2.2.2.2.2.2.1.length:Int) by show (k:Int)<((sA a).length:Int);omega),cT,e0,an];generalize (sA a)[k]=x at hx1 hx2 hx3;have e1:eG (x.2.2.2.1,x.2.2.2.2.1,x.2.2.2.2.2.1,x.2.2.2.2.2.2.1,x.2.2.2.2.2.2.2.1)=some (jP x):=NO hx2
  have e2:ap (x.2.2.2.2.2.2.2.2.1,x.2.2.2.2.2.2.2.2.2.1,x.2.2.2.2.2.2.2.2.2.2.1,x.2.2.2.2.2.2.2.2.2.2.2.1,x.2.2.2.2.2.2.2.2.2.2.2.2.1,x.2.2.2.2.2.2.2.2.2.2.2.2.2.1,x.2.2.2.2.2.2.2.2.2.2.2.2.2.2.1,x.2.2.2.2.2.2.2.2.2.2.2.2.2.2.2.1,x.2.2.2.2.2.2.2.2.2.2.2.2.2.2.2.2.1,x.2.2.2.2.2.2.2.2.2.2.2.2.2.2.2.2.2.1,x.2.2.2.2.2.2.2.2.2.2.2.2.2.2.2.2.2.2.1)=some (jB x):=xi hx3;rw[zm hx1,an,e1,an,e2,an,sK (by omega)];rfl) (λout=>by
  show dy a ((sA a).length:Int) out=_;unfold dy;rw[tk (show ¬((sA a).length:Int)<(a.2.2.2.2.2.2.2.2.2.2.2.2.1.length:Int) by show ¬((sA a).length:Int)<((sA a).length:Int);omega),cF])]
 rfl
end Go.V.W
