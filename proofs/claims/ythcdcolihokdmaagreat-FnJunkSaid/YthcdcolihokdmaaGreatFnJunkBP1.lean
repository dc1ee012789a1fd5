/- The law FnJunk: part of the proof that for every input it returns true. No condition. -/
import Derived.KernelRfl
import Derived.Test.YthcdcolihokdmaaGreatFnJunk
import Derived.Test.YthcdcolihokdmaaGreatV4
open List (any_eq_false any_eq_true append_assoc cons_lt_cons_iff drop_eq_getElem_cons drop_zero getElem_mem getElem_of_mem length_append length_cons length_drop length_map length_nil length_set length_take map_append mem_append mem_cons mem_cons_of_mem mem_flatMap mem_map mem_of_mem_take mem_range nil_append not_mem_nil pairwise_append pairwise_cons pairwise_iff_getElem range_succ take_add_one take_append_drop take_length take_succ_cons)
set_option linter.unusedVariables false
set_option linter.unusedSimpArgs false
namespace Go.V.W
theorem rG {α β:Type} (a:α) (f:α->Option β):(some a).bind f=f a:=rfl
abbrev M:Nat:=1048576
abbrev In (left:Int):Prop:=0<=left/\left<=1048576
theorem In.next {left r:Int} (h:In left) (h1:0<=r) (h2:r<=left):In r:=⟨h1,by have:=h.2;omega⟩
theorem Qt {n:Nat} (h:n<=M):n<=4294967295:=Nat.le_trans h (by decide)
def yb (n:Nat) (b:rI):Prop:=b.2.1.length<=n/\b.2.2.1.length<=n/\b.2.2.2.1.length<=n/\b.2.2.2.2.1.length<=n/\b.2.2.2.2.2.1.length<=n
def Qa (n:Nat) (v:vl):Prop:=v.2.2.1.length<=n/\v.2.2.2.length<=n
def CS (n:Nat) (x:rK):Prop:=x.1.length<=n/\Qa n x.2
def zO (n:Nat) (l:List rK):Prop:=l.length<=n/\∀x∈l,CS n x
def vM (n:Nat) (p:sj):Prop:=zO n p.2.2.2.2
def jP (j:sY):sj:=(j.2.2.2.1,j.2.2.2.2.1,j.2.2.2.2.2.1,j.2.2.2.2.2.2.1,j.2.2.2.2.2.2.2.1)
def jB (a0:sY):rI:=(a0.2.2.2.2.2.2.2.2.1,a0.2.2.2.2.2.2.2.2.2.1,a0.2.2.2.2.2.2.2.2.2.2.1,a0.2.2.2.2.2.2.2.2.2.2.2.1,a0.2.2.2.2.2.2.2.2.2.2.2.2.1,a0.2.2.2.2.2.2.2.2.2.2.2.2.2.1,a0.2.2.2.2.2.2.2.2.2.2.2.2.2.2.1,a0.2.2.2.2.2.2.2.2.2.2.2.2.2.2.2.1,a0.2.2.2.2.2.2.2.2.2.2.2.2.2.2.2.2.1,a0.2.2.2.2.2.2.2.2.2.2.2.2.2.2.2.2.2.1,a0.2.2.2.2.2.2.2.2.2.2.2.2.2.2.2.2.2.2.1)
def Oq (n:Nat) (j:sY):Prop:=j.2.1.length<=n/\vM n (jP j)/\yb n (jB j)
def Qu (n:Nat) (l:List sY):Prop:=l.length<=n/\∀x∈l,Oq n x
def aB (a0:s9):rI:=(a0.1,a0.2.1,a0.2.2.1,a0.2.2.2.1,a0.2.2.2.2.1,a0.2.2.2.2.2.1,a0.2.2.2.2.2.2.1,a0.2.2.2.2.2.2.2.1,a0.2.2.2.2.2.2.2.2.1,a0.2.2.2.2.2.2.2.2.2.1,a0.2.2.2.2.2.2.2.2.2.2.1)
def Iw (n:Nat) (a:s9):Prop:=yb n (aB a)/\a.2.2.2.2.2.2.2.2.2.2.2.1.length<=n/\Qu n a.2.2.2.2.2.2.2.2.2.2.2.2.1
theorem EG {α β:Type} {f g:α->Option (α⊕β)} (sC:α->Prop) (h:∀x,sC x->f x=g x) (hi:∀x y,sC x->f x=some (.inl y)->sC y) {x:α} (h0:sC x):loop f x=loop g x:=by
 have key:∀k x,sC x->vu f k x=vu g k x:=by
  intro k
  induction k with
  | zero=>intro x _;rfl
  | succ k ih =>
   intro x hx;rw[u4,u4,←h x hx];cases hf:f x with
   | none=>rfl
   | some v=>cases v with
    | inl y=>exact ih y (hi x y hx hf)
    | inr b=>rfl
 have hex:(∃k,(vu f k x).isSome)↔∃k,(vu g k x).isSome:=by
  constructor<;>rintro⟨k,hk⟩<;>exact⟨k,by first|rwa [←key k x h0]|rwa [key k x h0]⟩
 by_cases hc:∃k,(vu f k x).isSome
 · obtain⟨k,hk⟩:=hc;cases hv:vu f k x with
   | none=>rw[hv]at hk;cases hk
   | some b=>rw[xp hv,xp ((key k x h0)▸hv)]
 · have hc':¬ ∃k,(vu g k x).isSome:=λh=>hc (hex.2 h);unfold loop;rw[dif_neg hc,dif_neg hc']
theorem uC {α β:Type} {f g:α->Option (α⊕β)} (h:∀x,f x=g x) (x:α):loop f x=loop g x:=by rw[funext h]
def rM (x a b:Int):Bool:=decide (x>=a)&&decide (x<=b)
theorem vI (x a b:Int):ac x a b=some (rM x a b):=by
 unfold ac rM;cases decide (x>=a)<;>rfl
theorem xP (x a b:Int):ae x a b=some (rM x a b):=vI x a b
def CU (v:zb):Bool:=rM v.1 1 99&&(rM v.2.1 0 100000&&(rM v.2.2.1 0 10&&(rM v.2.2.2.1 1 99&&rM v.2.2.2.2 0 7)))
theorem M3 (v:zb):cw v=some (CU v):=by
 unfold cw CU;simp only[vI,rG];cases rM v.1 1 99<;>cases rM v.2.1 0 100000<;>cases rM v.2.2.1 0 10<;>cases rM v.2.2.2.1 1 99<;>rfl
theorem Qv:f6=cw:=rfl
def yH (p:Pt):Bool:=rM p.2.1 1 1000&&(!(p.2.2.1&&!p.1)&&(cond p.2.2.1 (CU p.2.2.2) (p.2.2.2.1==0&&(p.2.2.2.2.1==0&&(p.2.2.2.2.2.1==0&&(p.2.2.2.2.2.2.1==0&&(p.2.2.2.2.2.2.2==0)))))))
theorem QW (p:Pt):eC p=some (yH p):=by
 obtain⟨up,cost,heard,v⟩:=p;unfold eC yH;simp only[vI,M3,rG];cases rM cost 1 1000<;>cases up<;>cases heard<;>rfl
theorem QX (p:Pt):f7 p=some (yH p):=by
 obtain⟨up,cost,heard,v⟩:=p;unfold f7 yH;simp only[xP,Qv,M3,rG];cases rM cost 1 1000<;>cases up<;>cases heard<;>rfl
theorem vK {n:Nat} {c:Int->Option Bool} {b:Nat->Bool} (hn:n<9223372036854775807) (hc:∀k,k<n->c (k:Int)=some (b k)) :
 loop (λi:Int=>cond (decide (i<(n:Int))) ((c i).bind λt=>cond t (some (.inr (.inr false))) (some (.inl (rJ (i+1))))) (some (.inr (.inl ())))) 0=some (cond ((List.range n).any b) (Sum.inr false) (Sum.inl ()):Unit⊕Bool):=by
 obtain⟨v,h1,h2⟩:=se (β:=Unit⊕Bool) (step:=λi:Int=>cond (decide (i<(n:Int))) ((c i).bind λt=>cond t (some (.inr (.inr false))) (some (.inl (rJ (i+1))))) (some (.inr (.inl ()))))
  (λk i=>i=(k:Int)/\(List.range k).any b=false) n (λv=>v=cond ((List.range n).any b) (Sum.inr false) (Sum.inl ()))
  (λk i hk ⟨e,ha⟩=>by
   subst e;have hs:(cond (decide ((k:Int)<(n:Int))) ((c (k:Int)).bind λt=>cond t (some (.inr (.inr false))) (some (.inl (rJ ((k:Int)+1))))) (some (.inr (.inl ()))):Option (Int⊕(Unit⊕Bool)))=cond (b k) (some (.inr (.inr false))) (some (.inl ((k+1:Nat):Int))):=by
    rw[sG (by omega),cT,hc k hk,rG,rW (by omega)]
   cases hb:b k with
   | true =>
    refine .inr ⟨.inr false,by rw[hs,hb];rfl,?_⟩;have:(List.range n).any b=true:=any_eq_true.2 ⟨k,mem_range.2 hk,hb⟩
    rw[this];rfl
   | false =>
    refine .inl ⟨_,by rw[hs,hb];rfl,rfl,?_⟩;rw[range_succ,List.any_append,ha];simp[hb])
  (λi ⟨e,ha⟩=>by
   subst e;exact⟨.inl (),by rw[sv (by omega),cF],by rw[ha];rfl⟩) (x:=0) ⟨rfl,rfl⟩
 rw[h1,h2]
def wh (e:rR):Bool:=rM e.1 1 99&&(rM e.2.1 1 9999&&(rM e.2.2.1 0 7&&(rM e.2.2.2.1 0 4&&(!e.2.2.2.2||e.2.2.2.1==0))))
theorem JB (e:rR):dA e=some (wh e):=by
 unfold dA wh;simp only[vI,rG];cases rM e.1 1 99<;>cases rM e.2.1 1 9999<;>cases rM e.2.2.1 0 7<;>cases rM e.2.2.2.1 0 4<;>cases e.2.2.2.2<;>rfl
theorem Mz:ci=dA:=rfl
def yI (e:rR) (tag mac:Int):Bool:=decide (e.1>tag)||(e.1==tag&&decide (e.2.1>mac))
theorem Nk (e:rR) (tag mac:Int):eD e tag mac=some (yI e tag mac):=by
 unfold eD yI;cases decide (e.1>tag)<;>cases (e.1==tag)<;>rfl
theorem Ot (p e:rR):ca p e.1 e.2.1=some (yI e p.1 p.2.1):=by
 unfold ca yI;by_cases h:p.1=e.1
 · simp[h]
 · have h':¬e.1=p.1:=λk=>h k.symm;have e1:(p.1 != e.1)=true:=by simpa using h
   have e2:(e.1==p.1)=false:=by simpa using h'
   rw[e1,e2,cT,Bool.false_and,Bool.or_false]
def xz (l:List rR) (k:Nat):Bool:=match l[k]? with
 | some e=>!(wh e)||(decide (0<k)&&(match l[k-1]? with|some p=>!(yI e p.1 p.2.1)|none=>false))
 | none=>false
def xu (l:List rR):Bool:=!((List.range l.length).any (xz l))&&decide ((l.length:Int)<=12)
theorem A9 {α:Type} {l:List α} {k:Nat} (h:k<l.length) (hk:0<k) (hn:l.length<9223372036854775807):at? l (rJ ((k:Int)-1))=some l[k-1]:=by
 rw[sg (by omega) (by omega),show (k:Int)-1=((k-1:Nat):Int) by omega,sa (by omega)]
theorem Qw {l:List rR} (hn:l.length<9223372036854775807):fM l=some (xu l):=by
 unfold fM xu;have h:=vK (n:=l.length) (c:=λi=>(at? l i).bind λx10=>(dA x10).bind λt13=>(cond (!t13) (some true) ((cond (decide (i>0)) ((at? l (rJ (i-1))).bind λx23=>(at? l (rJ (i-1))).bind λx29=>(eD x10 x23.1 x29.2.1).bind λt32=>some (!t32)) (some false)).bind λt34=>some t34)).bind λt=>some t) (b:=xz l) hn (λk hk=>by
  simp only[sa hk,rG,JB,xz,List.getElem?_eq_getElem hk];cases wh l[k]with
  | false=>rfl
  | true =>
   by_cases h0:0<k
   · have hd:decide ((k:Int)>0)=true:=dT (by omega);simp only[hd,A9 hk h0 hn,rG,Nk,dT h0,List.getElem?_eq_getElem (show k-1<l.length by omega)];rfl
   · have hd:decide ((k:Int)>0)=false:=dF (by omega);simp only[hd,dF h0];rfl)
 have e:(loop (λz=>gF l z) 0)=some (cond ((List.range l.length).any (xz l)) (Sum.inr false) (Sum.inl ())):=by
  rw[←h];refine uC (λi=>?_) 0;unfold gF;simp only[Option.bind_assoc,rG]
 rw[e,rG];cases (List.range l.length).any (xz l)<;>rfl
theorem Ou {l:List rR} (hn:l.length<9223372036854775807):ch l=some (xu l):=by
 unfold ch xu;have h:=vK (n:=l.length) (c:=λi=>(at? l i).bind λx12=>(ci x12).bind λt14=>(cond (!t14) (some true) ((cond (decide (i>0)) ((at? l (rJ (i-1))).bind λx23=>(at? l i).bind λx27=>(at? l i).bind λx32=>(ca x23 x27.1 x32.2.1).bind λt35=>some (!t35)) (some false)).bind λt37=>some t37)).bind λt=>some t) (b:=xz l) hn (λk hk=>by
  simp only[sa hk,rG,Mz,JB,xz,List.getElem?_eq_getElem hk];cases wh l[k]with
  | false=>rfl
  | true =>
   by_cases h0:0<k
   · have hd:decide ((k:Int)>0)=true:=dT (by omega);simp only[hd,A9 hk h0 hn,rG,Ot,dT h0,List.getElem?_eq_getElem (show k-1<l.length by omega)];rfl
   · have hd:decide ((k:Int)>0)=false:=dF (by omega);simp only[hd,dF h0];rfl)
 have e:(loop (λz=>gK l z) 0)=some (cond ((List.range l.length).any (xz l)) (Sum.inr false) (Sum.inl ())):=by
  rw[←h];refine uC (λi=>?_) 0;unfold gK;simp only[Option.bind_assoc,rG]
 rw[e,rG];cases (List.range l.length).any (xz l)<;>rfl

theorem Ov:bc=aq:=rfl
theorem KU {v:sR} (hn:v.1.length<9223372036854775807) (id:Int):∃r,aq v id=some r:=by
 unfold aq;obtain⟨b,h1,_⟩:=se (β:=Unit⊕Int) (step:=λz=>aF v id z) (λk i=>i=(k:Int)) v.1.length (λ_=>True)
  (λk i hk h=>by
   subst h;unfold aF;rw[sG (by omega),cT,sa hk,rG];cases (v.1[k].1==id)with
   | true=>exact .inr ⟨_,rfl,trivial⟩
   | false=>exact .inl ⟨_,rfl,rW (by omega)⟩)
  (λi h=>by
   subst h;unfold aF;rw[sv (by omega)];exact⟨_,rfl,trivial⟩) (x:=0) rfl
 rw[h1,rG];cases b with
 | inl _=>exact⟨_,rfl⟩
 | inr r=>exact⟨r,rfl⟩
def ua (i:Int):Int:=(2:Int)^i.toNat-1
theorem EH {i:Int} (h:rM i 1 6=true):i=1\/i=2\/i=3\/i=4\/i=5\/i=6:=by
 unfold rM at h;simp only[aT,decide_eq_true_eq]at h;omega
theorem FX {i:Int} (h:rM i 1 6=true):eE i=some (ua i):=by
 rcases EH h with rfl|rfl|rfl|rfl|rfl|rfl<;>rfl
theorem JC {i:Int} (h:rM i 1 6=true):∃t,shl .i64 1 (IntKind.u64.wrap i)=some t/\rJ (t-1)=ua i:=by
 rcases EH h with rfl|rfl|rfl|rfl|rfl|rfl<;>exact⟨_,rfl,rfl⟩
theorem Gm {i:Int} (h:rM i 1 6=true):1<=ua i/\ua i<=63:=by
 rcases EH h with rfl|rfl|rfl|rfl|rfl|rfl<;>decide
theorem EI (x:BitVec 64):IntKind.i64.wrap (x.toNat:Int)=x.toInt:=by
 have hx:=x.isLt;rw[BitVec.toInt_eq_toNat_cond];show (let m:=(x.toNat:Int)%18446744073709551616;if (true&&decide (m>=9223372036854775808))=true then m-18446744073709551616 else m)=_
 simp only[Bool.true_and,decide_eq_true_eq];have h1:(x.toNat:Int)%18446744073709551616=(x.toNat:Int):=by omega
 rw[h1];split<;>split<;>omega
theorem zA {b:Int} (h1:-9223372036854775808<=b) (h2:b<=9223372036854775807):(BitVec.ofInt 64 b).toInt=b:=by
 rw[BitVec.toInt_ofInt];unfold Int.bmod;simp only;split<;>omega
theorem Gn (a b:Int):vn .i64 a b=(BitVec.ofInt 64 a&&&BitVec.ofInt 64 b).toInt:=EI _
theorem PD (a b:Int):B1 .i64 a b=(BitVec.ofInt 64 a &&& ~~~ BitVec.ofInt 64 b).toInt:=EI _
theorem Ix (x y:BitVec 64):x&&&y=x↔x &&& ~~~ y=0:=by
 constructor
 · intro h;apply BitVec.eq_of_getLsbD_eq;intro i hi;have:=congrArg (λz=>z.getLsbD i) h
   simp only[BitVec.getLsbD_and]at this;simp only[BitVec.getLsbD_and,BitVec.getLsbD_not,BitVec.getLsbD_zero,hi,decide_true,Bool.true_and];cases hx:x.getLsbD i<;>cases hy:y.getLsbD i<;>simp_all
 · intro h;apply BitVec.eq_of_getLsbD_eq;intro i hi;have:=congrArg (λz=>z.getLsbD i) h
   simp only[BitVec.getLsbD_and,BitVec.getLsbD_not,BitVec.getLsbD_zero,hi,decide_true,Bool.true_and]at this;simp only[BitVec.getLsbD_and];cases hx:x.getLsbD i<;>cases hy:y.getLsbD i<;>simp_all
theorem FY {b m:Int} (h1:-9223372036854775808<=b) (h2:b<=9223372036854775807):(vn .i64 b m != b)=(B1 .i64 b m != 0):=by
 rw[Gn,PD];have e:((BitVec.ofInt 64 b&&&BitVec.ofInt 64 m).toInt=b)↔((BitVec.ofInt 64 b &&& ~~~ BitVec.ofInt 64 m).toInt=0):=by
  constructor
  · intro h;have:BitVec.ofInt 64 b&&&BitVec.ofInt 64 m=BitVec.ofInt 64 b:=BitVec.eq_of_toInt_eq (by rw[h,zA h1 h2])
    rw[(Ix _ _).1 this];rfl
  · intro h;have:BitVec.ofInt 64 b &&& ~~~ BitVec.ofInt 64 m=0:=BitVec.eq_of_toInt_eq (by rw[h];rfl)
    rw[(Ix _ _).2 this,zA h1 h2]
 by_cases h:(BitVec.ofInt 64 b&&&BitVec.ofInt 64 m).toInt=b
 · have h':=e.1 h;simp[h,h']
 · have h':¬(BitVec.ofInt 64 b &&& ~~~ BitVec.ofInt 64 m).toInt=0:=λk=>h (e.2 k);rw[bne_iff_ne.2 h,bne_iff_ne.2 h']
theorem Iy {b m t:Int} (h1:-9223372036854775808<=b) (h2:b<=9223372036854775807) (hm:rM m 0 t=true) (ht:t<=63) (h:(vn .i64 b m != b)=false):rM b 0 t=true:=by
 unfold rM at hm ⊢;simp only[aT,decide_eq_true_eq]at hm ⊢;have h:vn .i64 b m=b:=by simpa using h
 rw[Gn]at h;have e:BitVec.ofInt 64 b&&&BitVec.ofInt 64 m=BitVec.ofInt 64 b:=BitVec.eq_of_toInt_eq (by rw[h,zA h1 h2])
 have hM:(BitVec.ofInt 64 m).toNat=m.toNat:=by
  rw[BitVec.toNat_ofInt];omega
 have hle:(BitVec.ofInt 64 b).toNat<=m.toNat:=by
  rw[←e,BitVec.toNat_and,hM];exact Nat.and_le_right
 have hb:(BitVec.ofInt 64 b).toInt=((BitVec.ofInt 64 b).toNat:Int):=by
  rw[BitVec.toInt_eq_toNat_cond];split<;>omega
 rw[zA h1 h2]at hb;omega
def yv (v:sR) (i:Int) (k:Nat):Bool:=match v.1[k]? with
 | some r=>!(rM r.1 1 99)||((decide (0<k)&&(match v.1[k-1]? with|some p=>decide (p.1>=r.1)|none=>false))||(!(rM r.2.1 0 (ua i))||(B1 .i64 r.2.2 r.2.1 != 0)))
 | none=>false
noncomputable def A1 (v:sR) (k:Nat):Bool:=match v.2[k]? with
 | some x=>(match aq v x with|some t=>decide (t<0)|none=>false)
 | none=>false
noncomputable def vc (v:sR) (i:Int):Bool:=!(!(rM i 1 6)||((v.2.length:Int) != i||decide ((v.1.length:Int)>6)))&&(!((List.range v.1.length).any (yv v i))&&!((List.range v.2.length).any (A1 v)))
theorem KV {v:sR} {i:Int} (hi:rM i 1 6=true) (hn:v.1.length<9223372036854775807):loop (λz=>gG v i z) 0=some (cond ((List.range v.1.length).any (yv v i)) (Sum.inr false) (Sum.inl ())):=by
 rw[←vK (n:=v.1.length) (c:=λt28=>(at? v.1 t28).bind λx31 =>
  (ac x31.1 1 99).bind λt35 =>
  (cond (!t35) (some true) ((cond (decide (t28>0)) ((at? v.1 (rJ (t28-1))).bind λx45=>some (decide (x45.1>=x31.1))) (some false)).bind λt51=>some t51)).bind λt52 =>
  (cond t52 (some true) ((eE i).bind λt57=>(ac x31.2.1 0 t57).bind λt58=>some (!t58))).bind λt60 =>
  (cond t60 (some true) (some ((B1 .i64 x31.2.2 x31.2.1) != 0))).bind λt=>some t) (b:=yv v i) hn (λk hk=>by
   simp only[sa hk,rG,vI,yv,List.getElem?_eq_getElem hk,FX hi];cases rM v.1[k].1 1 99 with
   | false=>rfl
   | true =>
    by_cases h0:0<k
    · have hd:decide ((k:Int)>0)=true:=dT (by omega);simp only[hd,A9 hk h0 hn,rG,dT h0,List.getElem?_eq_getElem (show k-1<v.1.length by omega)];cases decide (v.1[k-1].1>=v.1[k].1)<;>cases rM v.1[k].2.1 0 (ua i)<;>rfl
    · have hd:decide ((k:Int)>0)=false:=dF (by omega);simp only[hd,dF h0];cases rM v.1[k].2.1 0 (ua i)<;>rfl)]
 refine uC (λi=>?_) 0;unfold gG;simp only[Option.bind_assoc,rG]
theorem JD {v:sR} {i t:Int} (hi:rM i 1 6=true) (ht:rJ (t-1)=ua i) (hn:v.1.length<9223372036854775807) (hw:∀r∈v.1,-9223372036854775808<=r.2.2/\r.2.2<=9223372036854775807):loop (λz=>gL v t z) 0=some (cond ((List.range v.1.length).any (yv v i)) (Sum.inr false) (Sum.inl ())):=by
 rw[←vK (n:=v.1.length) (c:=λt6=>(at? v.1 t6).bind λx39 =>
  (ae x39.1 1 99).bind λt43 =>
  (cond (!t43) (some true) ((ae x39.2.1 0 (rJ (t-1))).bind λt49=>some (!t49))).bind λt51 =>
  (cond t51 (some true) ((ae x39.2.2 0 (rJ (t-1))).bind λt56=>some (!t56))).bind λt58 =>
  (cond t58 (some true) (some ((vn .i64 x39.2.2 x39.2.1) != x39.2.2))).bind λt68 =>
  (cond t68 (some true) ((cond (decide (t6>0)) ((at? v.1 (rJ (t6-1))).bind λx77=>some (decide (x77.1>=x39.1))) (some false)).bind λt83=>some t83)).bind λt=>some t) (b:=yv v i) hn (λk hk=>by
   obtain⟨w1,w2⟩:=hw _ (getElem_mem hk);have hs:=FY (m:=v.1[k].2.1) w1 w2
   have hin:=Iy (m:=v.1[k].2.1) (t:=ua i) w1 w2;have ht2:=(Gm hi).2
   simp only[sa hk,rG,xP,yv,List.getElem?_eq_getElem hk,ht];rw[←hs];cases h1:rM v.1[k].1 1 99 with
   | false=>rfl
   | true =>
    cases h2:rM v.1[k].2.1 0 (ua i)with
    | false =>
     by_cases h0:0<k
     · simp only[dT h0,List.getElem?_eq_getElem (show k-1<v.1.length by omega)];cases decide (v.1[k-1].1>=v.1[k].1)<;>rfl
     · simp only[dF h0];rfl
    | true =>
     cases h3:(vn .i64 v.1[k].2.2 v.1[k].2.1 != v.1[k].2.2)with
     | true =>
      by_cases h0:0<k
      · simp only[dT h0,List.getElem?_eq_getElem (show k-1<v.1.length by omega)];cases decide (v.1[k-1].1>=v.1[k].1)<;>cases rM v.1[k].2.2 0 (ua i)<;>rfl
      · simp only[dF h0];cases rM v.1[k].2.2 0 (ua i)<;>rfl
     | false =>
      have h4:=hin h2 ht2 h3;rw[h4];by_cases h0:0<k
      · have hd:decide ((k:Int)>0)=true:=dT (by omega);simp only[hd,A9 hk h0 hn,rG,dT h0,List.getElem?_eq_getElem (show k-1<v.1.length by omega)];cases decide (v.1[k-1].1>=v.1[k].1)<;>rfl
      · have hd:decide ((k:Int)>0)=false:=dF (by omega);simp only[hd,dF h0];rfl)]
 refine uC (λi=>?_) 0;unfold gL;simp only[Option.bind_assoc,rG]
theorem FZ {v:sR} (hn:v.1.length<9223372036854775807) (hn2:v.2.length<9223372036854775807):loop (λz=>fN v z) 0=some (cond ((List.range v.2.length).any (A1 v)) (Sum.inr false) (Sum.inl ())):=by
 rw[←vK (n:=v.2.length) (c:=λt73=>(at? v.2 t73).bind λx75=>(aq v x75).bind λt79=>some (decide (t79<0))) (b:=A1 v) hn2 (λk hk=>by
  obtain⟨r,hr⟩:=KU hn v.2[k];simp only[sa hk,rG,A1,List.getElem?_eq_getElem hk,hr])]
 refine uC (λi=>?_) 0;unfold fN;simp only[Option.bind_assoc,rG]
theorem PE:kZ=fN:=rfl
theorem MA {v:sR} (i:Int) (hn:v.1.length<9223372036854775807) (hn2:v.2.length<9223372036854775807):dC v i=some (vc v i):=by
 unfold dC vc;simp only[vI,rG];cases hi:rM i 1 6 with
 | false=>rfl
 | true =>
  rw[KV hi hn,FZ hn hn2];cases ((v.2.length:Int) != i)<;>cases decide ((v.1.length:Int)>6)<;>cases (List.range v.1.length).any (yv v i)<;>cases (List.range v.2.length).any (A1 v)<;>rfl
theorem JE {v:sR} (i:Int) (hn:v.1.length<9223372036854775807) (hn2:v.2.length<9223372036854775807) (hw:∀r∈v.1,-9223372036854775808<=r.2.2/\r.2.2<=9223372036854775807):aI v i=some (vc v i):=by
 unfold aI vc;simp only[xP,rG,PE];cases hi:rM i 1 6 with
 | false=>rfl
 | true =>
  obtain⟨t,h1,h2⟩:=JC hi;rw[h1,rG,JD hi h2 hn hw,FZ hn hn2];cases ((v.2.length:Int) != i)<;>cases decide ((v.1.length:Int)>6)<;>cases (List.range v.1.length).any (yv v i)<;>cases (List.range v.2.length).any (A1 v)<;>rfl
def AC (l:List Pt) (k:Nat):Bool:=match l[k]? with|some p=>!(yH p)|none=>false
def ux (b:rI):Bool:=rM b.2.2.2.2.2.2.1 0 1000000&&(rM b.2.2.2.2.2.2.2.1 0 1000000&&(rM b.2.2.2.2.2.2.2.2.1 0 1000000&&(rM b.2.2.2.2.2.2.2.2.2.1 0 1000000&&rM b.2.2.2.2.2.2.2.2.2.2 0 1000000)))
noncomputable def sO (b:rI):Bool:=!((List.range b.2.2.1.length).any (AC b.2.2.1))&&(rM b.1 1 99&&(!(decide ((b.2.1.length:Int)>10))&&(rM (b.2.2.1.length:Int) 1 6&&(xu b.2.2.2.1&&(vc (b.2.2.2.2.1,b.2.2.2.2.2.1) (b.2.2.1.length:Int)&&ux b)))))
structure wI (b:rI):Prop where
 p:b.2.2.1.length<9223372036854775807
 f:b.2.2.2.1.length<9223372036854775807
 v:b.2.2.2.2.1.length<9223372036854775807
 q:b.2.2.2.2.2.1.length<9223372036854775807
 r:∀r∈b.2.2.2.2.1,-9223372036854775808<=r.2.2/\r.2.2<=9223372036854775807
theorem JF {b:rI} (h:wI b):loop (λz=>gH b z) 0=some (cond ((List.range b.2.2.1.length).any (AC b.2.2.1)) (Sum.inr false) (Sum.inl ())):=by
 rw[←vK (n:=b.2.2.1.length) (c:=λt8=>(at? b.2.2.1 t8).bind λx10=>(eC x10).bind λt13=>some (!t13)) (b:=AC b.2.2.1) h.p (λk hk=>by
  simp only[sa hk,rG,AC,List.getElem?_eq_getElem hk,QW])]
 refine uC (λi=>?_) 0;unfold gH;simp only[Option.bind_assoc,rG]
theorem HX {b:rI} (h:wI b):loop (λz=>gM b z) 0=some (cond ((List.range b.2.2.1.length).any (AC b.2.2.1)) (Sum.inr false) (Sum.inl ())):=by
 rw[←vK (n:=b.2.2.1.length) (c:=λt8=>(at? b.2.2.1 t8).bind λx10=>(f7 x10).bind λt13=>some (!t13)) (b:=AC b.2.2.1) h.p (λk hk=>by
  simp only[sa hk,rG,AC,List.getElem?_eq_getElem hk,QX])]
 refine uC (λi=>?_) 0;unfold gM;simp only[Option.bind_assoc,rG]
theorem Nl (b:rI):fY b=some (ux b):=by
 unfold fY ux;simp only[xP,rG];cases rM b.2.2.2.2.2.2.1 0 1000000<;>cases rM b.2.2.2.2.2.2.2.1 0 1000000<;>cases rM b.2.2.2.2.2.2.2.2.1 0 1000000<;>cases rM b.2.2.2.2.2.2.2.2.2.1 0 1000000<;>rfl
theorem KW (n:Int):bm n=some (rM n 0 1000000):=by unfold bm;rw[vI,rG]
theorem BE {b:rI} (h:wI b):bx b=some (sO b):=by
 unfold bx sO ux;rw[JF h,rG];cases (List.range b.2.2.1.length).any (AC b.2.2.1)with
 | true=>rfl
 | false =>
  simp only[cF,Sum.elim_inl,vI,Qw h.f,MA (v:=(b.2.2.2.2.1,b.2.2.2.2.2.1)) _ h.v h.q,KW,rG];cases rM b.1 1 99<;>cases decide ((b.2.1.length:Int)>10)<;>cases rM (b.2.2.1.length:Int) 1 6<;>cases xu b.2.2.2.1<;>cases vc (b.2.2.2.2.1,b.2.2.2.2.2.1) (b.2.2.1.length:Int) <;>
   cases rM b.2.2.2.2.2.2.1 0 1000000<;>cases rM b.2.2.2.2.2.2.2.1 0 1000000<;>cases rM b.2.2.2.2.2.2.2.2.1 0 1000000<;>cases rM b.2.2.2.2.2.2.2.2.2.1 0 1000000<;>rfl
theorem zm {b:rI} (h:wI b):aV b=some (sO b):=by
 unfold aV sO;rw[HX h,rG];cases (List.range b.2.2.1.length).any (AC b.2.2.1)with
 | true=>rfl
 | false =>
  have e:decide ((b.2.1.length:Int)<=10)=!(decide ((b.2.1.length:Int)>10)):=by
   by_cases hh:(b.2.1.length:Int)>10
   · rw[dT hh,dF (by omega)];rfl
   · rw[dF hh,dT (by omega)];rfl
  simp only[cF,Sum.elim_inl,xP,Ou h.f,JE (v:=(b.2.2.2.2.1,b.2.2.2.2.2.1)) _ h.v h.q h.r,Nl,rG,e];cases rM b.1 1 99<;>cases decide ((b.2.1.length:Int)>10)<;>cases rM (b.2.2.1.length:Int) 1 6<;>cases xu b.2.2.2.1<;>cases vc (b.2.2.2.2.1,b.2.2.2.2.2.1) (b.2.2.1.length:Int)<;>cases ux b<;>rfl
theorem MB:gh=dD:=rfl
theorem MC (a b:zb):∃r,dD a b=some r:=by
 unfold dD;cases (a.1 != b.1)<;>cases (a.2.1 != b.2.1)<;>cases (a.2.2.2.1 != b.2.2.2.1)<;>exact⟨_,rfl⟩
theorem PF:gR=eJ:=rfl
theorem PG (v:zb) (c:Int):∃r,eJ v c=some r:=by
 unfold eJ;simp only[M3,vI,rG];cases CU v<;>cases rM c 1 1000<;>first|exact⟨_,rfl⟩|skip
 generalize CU (v.1,rJ (v.2.1+c),rJ (v.2.2.1+1),v.2.2.2.1,v.2.2.2.2)=q;cases q<;>exact⟨_,rfl⟩
theorem PH (p0:Int) (l:List Pt) (t8 t9 b0 b1 b2 b3 b4 c0 c1 c2 c3 c4:Int):gS p0 l t8 t9 b0 b1 b2 b3 b4 c0 c1 c2 c3 c4=dE p0 l t8 t9 b0 b1 b2 b3 b4 c0 c1 c2 c3 c4:=by
 unfold gS dE;rw[PF,MB];cases h:at? l t9 with
 | none=>rfl
 | some x=>simp only[rG]
theorem MD:ff=bz:=by
 funext p0 l
 unfold ff bz;rw[uC (λz=>PH p0 l _ _ _ _ _ _ _ _ _ _ _ _)]
theorem PI (p0:Int) {l:List Pt} (hn:l.length<9223372036854775807):∃r,bz p0 l=some r:=by
 unfold bz;obtain⟨b,h1,_⟩:=se (step:=λz:Int×Int×Int×Int×Int×Int×Int×Int×Int×Int×Int×Int=>dE p0 l z.1 z.2.1 z.2.2.1 z.2.2.2.1 z.2.2.2.2.1 z.2.2.2.2.2.1 z.2.2.2.2.2.2.1 z.2.2.2.2.2.2.2.1 z.2.2.2.2.2.2.2.2.1 z.2.2.2.2.2.2.2.2.2.1 z.2.2.2.2.2.2.2.2.2.2.1 z.2.2.2.2.2.2.2.2.2.2.2)
  (λk z=>z.2.1=(k:Int)) l.length (λ_=>True)
  (λk z hk h=>by
   left;obtain⟨t7,t18,b0,b1,b2,b3,b4,c0,c1,c2,c3,c4⟩:=z;obtain rfl:t18=(k:Int):=h;unfold dE;simp only[sG (show (k:Int)<(l.length:Int) by omega),cT,sa hk,rG];rw[show rJ ((k:Int)+1)=((k+1:Nat):Int)from rW (by omega)];generalize l[k]=x;have e:(cond (!x.1) (some true) (some (!x.2.2.1)):Option Bool)=some (cond (!x.1) true (!x.2.2.1)):=by cases x.1<;>rfl
   rw[e,rG];cases (cond (!x.1) true (!x.2.2.1))with
   | true=>exact⟨_,rfl,rfl⟩
   | false =>
    obtain⟨r,hr⟩:=PG x.2.2.2 x.2.1;obtain⟨q,hq⟩:=MC r.1 (c0,c1,c2,c3,c4);rw[cF,hr,rG,hq];cases r.2<;>cases decide (r.1.1<p0)<;>cases decide (t7<0)<;>cases q<;>exact⟨_,rfl,rfl⟩)
  (λz h=>by
   obtain⟨t7,t18,b0,b1,b2,b3,b4,c0,c1,c2,c3,c4⟩:=z;obtain rfl:t18=(l.length:Int):=h;unfold dE;simp only[sv (show ¬(l.length:Int)<(l.length:Int) by omega),cF];exact⟨_,rfl,trivial⟩) (x:=((-1),0,p0,0,0,p0,0,0,0,0,0,0)) rfl
 rw[h1,rG];exact⟨_,rfl⟩
theorem Qx:gi=eK:=by
 funext id l p
 unfold gi eK;rw[MD]
theorem ME:fg=aN:=by
 funext id l p
 unfold fg aN;rw[MD,Qx,MB];rfl
theorem JG (id:Int) {l:List Pt} (hn:l.length<9223372036854775807) (p:Int):∃r,aN id l p=some r:=by
 obtain⟨v,hv⟩:=PI id hn;unfold aN eK;simp only[vI,rG,hv];rw[show rJ ((l.length:Int)-1)=(l.length:Int)-1 from sg (by omega) (by omega)];cases hp:rM p 0 ((l.length:Int)-1)with
 | false=>exact⟨_,rfl⟩
 | true =>
  unfold rM at hp;simp only[aT,decide_eq_true_eq]at hp;obtain⟨k,rfl⟩:∃k:Nat,p=(k:Int):=⟨p.toNat,by omega⟩;simp only[sa (show k<l.length by omega),rG];generalize l[k]'(by omega)=x;obtain⟨q,hq⟩:=MC (v.1.1,v.1.2.1,v.1.2.2.1,v.1.2.2.2.1,(k:Int)) x.2.2.2;rw[hq];cases x.1<;>cases (v.2==(k:Int))<;>cases x.2.2.1<;>cases q<;>exact⟨_,rfl⟩
theorem PJ (b:rI) (c p:Int):gw b c p=bU b c p:=by
 unfold gw bU eL;rw[ME];cases at? b.2.2.1 p with
 | none=>rfl
 | some x=>simp only[rG];cases x.1<;>rfl
theorem DW {α:Type} (out:List rK) (name:List Int) (n:Int) (f:List rK->Option α):((aY n).bind λv=>(aG v name).bind λt=>(sf out [t]).bind f)=(aj out name n).bind f:=by
 unfold aY aG aj af ah;simp only[rG,Option.bind_assoc]
theorem M4 (b:rI) (c i:Int) (out:List rK):gY b c i out=bA b c i out:=by
 unfold gY bA;simp only[PJ,DW]
theorem Qy {r:s5} {c:Int} (h:1<=c/\c<=3):((ix [1,r.2.1,r.2.2].length (rJ (c-1))).bind λj=>([1,r.2.1,r.2.2][j]?).bind λx=>some x)=gX r c:=by
 have:c=1\/c=2\/c=3:=by omega
 rcases this with rfl|rfl|rfl<;>rfl
theorem Nn (b:rI) {c:Int} (h:1<=c/\c<=3) (i:Int) (out:List rK):hC b c i out=bB b c i out:=by
 unfold hC bB;cases hr:at? b.2.2.2.2.1 i with
 | none=>rfl
 | some r =>
  simp only[rG,←Qy (r:=r) h,Option.bind_assoc,DW]
theorem Ow (b:rI) (i:Int) (out:List rK):hN b i out=bo b i out:=by
 unfold hN bo;cases hr:at? b.2.2.2.1 i with
 | none=>rfl
 | some r=>simp only[rG,DW]
theorem PK (b:rI) (c:Int) (out:List rK):gZ b c out=bV b c out:=by
 unfold gZ bV;rw[uC (λz=>M4 b c _ _)]
theorem PL (b:rI) {c:Int} (h:1<=c) (out:List rK):fo b c out=bW b c out:=by
 unfold fo bW;by_cases h3:c<=3
 · rw[uC (λz=>Nn b ⟨h,h3⟩ _ _)]
 · rw[dF h3];rfl
theorem JH (b:rI) {c:Int} {out:List rK} {y:Int×List rK} (h:1<=c) (e:fo b c out=some (.inl y)):1<=y.1:=by
 unfold fo at e;by_cases h3:c<=3
 · rw[dT h3,cT,Option.bind_eq_some_iff]at e;obtain⟨d,_,e⟩:=e;cases e;show 1<=rJ (c+1)
   rw[sg (by omega) (by omega)];omega
 · rw[dF h3]at e;cases e
def yw (b:rI):List rK:=[([1,3,1,1,1],4,0,b.2.1,[]),([1,3,1,1,2],2,b.2.2.2.2.2.2.1,[],[]),([1,3,1,1,3],2,b.2.2.2.2.2.2.2.1,[],[]),([1,3,1,1,4],2,b.2.2.2.2.2.2.2.2.1,[],[]),([1,3,1,1,5],2,b.2.2.2.2.2.2.2.2.2.1,[],[])]
theorem Qz (b:rI):aG (4,0,b.2.1,[]) ([1,1]:List Int)=some ([1,3,1,1,1],4,0,b.2.1,[]):=by kernel_rfl
theorem QA (b:rI):vu (λz=>jX b z.1 z.2) 5 (0,[([1,3,1,1,1],4,0,b.2.1,[])])=some (yw b):=by kernel_rfl
theorem QB (b:rI):((af ([1,1]:List Int)).bind λt14=>(aj ([(t14,4,0,b.2.1,[])]) ([1,2]:List Int) b.2.2.2.2.2.2.1).bind λt24=>(aj t24 ([1,3]:List Int) b.2.2.2.2.2.2.2.1).bind λt29 =>
 (aj t29 ([1,4]:List Int) b.2.2.2.2.2.2.2.2.1).bind λt34=>(aj t34 ([1,5]:List Int) b.2.2.2.2.2.2.2.2.2.1))=some (yw b):=by kernel_rfl
noncomputable def Dl (b:rI) (l:List rK):Option (List rK) :=
 (loop (λz=>bV b z.1 z.2) (1,l)).bind λd_2 =>
  (loop (λz=>bW b z.1 z.2) (1,d_2)).bind λd_4 =>
  (loop (λz=>bo b z.1 z.2) (0,d_4)).bind λd_5 =>
  some d_5
theorem Ox {b:rI} (h:wI b):bC b=cond (!(sO b)) (some []) (Dl b (yw b)):=by
 unfold bC;rw[BE h,rG,Qz,rG,xp (QA b),rG];rfl
theorem QC {b:rI} (h:wI b):cL b=cond (!(sO b)) (some []) (Dl b (yw b)):=by
 unfold cL;rw[zm h,rG];have hc:=QB b
 have e:∀{α:Type} (f:List rK->Option α),((af ([1,1]:List Int)).bind λt14=>(aj ([(t14,4,0,b.2.1,[])]) ([1,2]:List Int) b.2.2.2.2.2.2.1).bind λt24=>(aj t24 ([1,3]:List Int) b.2.2.2.2.2.2.2.1).bind λt29 =>
  (aj t29 ([1,4]:List Int) b.2.2.2.2.2.2.2.2.1).bind λt34=>(aj t34 ([1,5]:List Int) b.2.2.2.2.2.2.2.2.2.1).bind f)=f (yw b):=by
  intro α f;have:((af ([1,1]:List Int)).bind λt14=>(aj ([(t14,4,0,b.2.1,[])]) ([1,2]:List Int) b.2.2.2.2.2.2.1).bind λt24=>(aj t24 ([1,3]:List Int) b.2.2.2.2.2.2.2.1).bind λt29 =>
   (aj t29 ([1,4]:List Int) b.2.2.2.2.2.2.2.2.1).bind λt34=>(aj t34 ([1,5]:List Int) b.2.2.2.2.2.2.2.2.2.1)).bind f=f (yw b):=by rw[hc,rG]
  rw[←this];simp only[Option.bind_assoc]
 rw[e]
 congr 1
 unfold Dl;rw[uC (λz=>PK b _ _)]
 congr 1
 funext d
 rw[EG (λz:Int×List rK=>1<=z.1) (λz hz=>PL b hz _) (λz y hz e=>JH b hz e) (show (1:Int)<=1 by omega)]
 congr 1
 funext d
 rw[uC (λz=>Ow b _ _)]
theorem DX {b:rI} (h:wI b):cL b=bC b:=by rw[QC h,Ox h]

theorem PM {b:rI} (h:wI b) (c:Int) {k:Nat} (hk:k<b.2.2.1.length) (hq:b.2.2.1.length=b.2.2.2.2.2.1.length):∃n,bU b c (k:Int)=some n:=by
 obtain⟨r,hr⟩:=JG b.1 h.p (k:Int);unfold bU eL;rw[sa hk,sa (show k<b.2.2.2.2.2.1.length by omega),hr];simp only[rG];cases (c==1)<;>cases (c==2)<;>cases (c==3)<;>cases (b.2.2.1[k]).1<;>exact⟨_,rfl⟩
theorem Np {α:Type} {xs ys:List α} (h:xs.length+ys.length<=4294967296):sf xs ys=some (xs++ys):=by
 unfold sf;rw[if_pos (show xs.length+ys.length<=Aa from h)]
noncomputable def xA (id:Int) (l:List Pt) (p:Int):Int:=(aN id l p).getD 0
theorem C4 (id:Int) {l:List Pt} (hn:l.length<9223372036854775807) (p:Int):aN id l p=some (xA id l p):=by
 obtain⟨r,hr⟩:=JG id hn p;unfold xA;rw[hr];rfl
def JI (l:List Int) (x:Int):Bool:=decide (x∈l)
def zB (b:Nat->Bool) (m:Nat):List Int:=((List.range m).filter b).map λ(k:Nat)=>(k:Int)
theorem M5 (b:Nat->Bool) (m:Nat):(zB b m).length<=m:=by
 unfold zB;rw[length_map];exact Nat.le_trans (List.length_filter_le _ _) (by simp)
theorem JJ (b:Nat->Bool) (m:Nat):zB b (m+1)=cond (b m) (zB b m++[(m:Int)]) (zB b m):=by
 unfold zB;rw[range_succ,List.filter_append,map_append];cases h:b m<;>simp[h]
theorem xS {n:Nat} {c:Int->Option Bool} {b:Nat->Bool} (hn:n<=1048576) (hc:∀k,k<n->c (k:Int)=some (b k)) :
 loop (λz:Int×List Int=>cond (decide (z.1<(n:Int))) ((c z.1).bind λt=>cond t ((sf z.2 [z.1]).bind λzs=>some (.inl (rJ (z.1+1),zs))) (some (.inl (rJ (z.1+1),z.2)))) (some (.inr z.2))) (0,([]:List Int))=some (zB b n):=by
 obtain⟨v,h1,rfl⟩:=se (step:=λz:Int×List Int=>cond (decide (z.1<(n:Int))) ((c z.1).bind λt=>cond t ((sf z.2 [z.1]).bind λzs=>some (.inl (rJ (z.1+1),zs))) (some (.inl (rJ (z.1+1),z.2)))) (some (.inr z.2))) (λk z=>z.1=(k:Int)/\z.2=zB b k) n (λl=>l=zB b n)
  (λk z hk ⟨e1,e2⟩=>by
   obtain⟨i,l⟩:=z;simp only at e1 e2;subst e1 e2;left;have hle:=M5 b k
   refine⟨(rJ ((k:Int)+1),zB b (k+1)),?_,rW (by omega),rfl⟩;simp only[sG (show (k:Int)<(n:Int) by omega),cT,hc k hk,rG];rw[JJ];cases b k with
   | false=>rfl
   | true=>rw[cT,Np (by simp;omega)];rfl)
  (λz ⟨e1,e2⟩=>by
   obtain⟨i,l⟩:=z;simp only at e1 e2;subst e1 e2;exact⟨_,by simp only[sv (show ¬(n:Int)<(n:Int) by omega),cF],rfl⟩) (x:=(0,[])) ⟨rfl,rfl⟩
 exact h1
def Iz (l:List Bool):Nat:=l.count true
theorem Oy (l:List Bool):Iz l<=l.length:=List.count_le_length
theorem Nq {l:List Bool} {i:Nat} (h:l[i]?=some false):Iz (l.set i true)=Iz l+1:=by
 obtain⟨hi,he⟩:=List.getElem?_eq_some_iff.1 h;unfold Iz;rw[List.count_set hi,he];simp
theorem Oz {n:Nat} {i:Int} (h:rM i 0 ((n:Int)-1)=true):∃k:Nat,k<n/\i=(k:Int):=by
 unfold rM at h;simp only[aT,decide_eq_true_eq]at h;exact⟨i.toNat,by omega,by omega⟩
theorem OA {n k:Nat} (h:k<n):rM (k:Int) 0 ((n:Int)-1)=true:=by
 unfold rM;rw[dT (by omega),dT (by omega)];rfl
structure Hw (X:List Int) (l:List Bool):Prop where
 r:∀x∈X,∃k:Nat,k<l.length/\x=(k:Int)
 m:∀k,k<l.length->l[k]?=some (JI X (k:Int))
 c:X.length=Iz l
theorem Hw.len {X:List Int} {l:List Bool} (h:Hw X l):X.length<=l.length:=by rw[h.c];exact Oy l
theorem Hw.add {X:List Int} {l:List Bool} (h:Hw X l) {i:Nat} (hi:l[i]?=some false):Hw (X++[(i:Int)]) (l.set i true):=by
 obtain⟨hi',he⟩:=List.getElem?_eq_some_iff.1 hi;refine⟨λx hx=>?_,λk hk=>?_,?_⟩
 · rw[length_set];rcases mem_append.1 hx with hx|hx
   · exact h.r x hx
   · simp at hx;exact⟨i,hi',hx⟩
 · rw[length_set]at hk;rw[List.getElem?_set];split
   · rename_i e;subst e;rw[show JI (X++[(i:Int)]) (i:Int)=true from dT (by simp)]
   · rename_i e;rw[h.m k hk]
     congr 1
     unfold JI;apply decide_eq_decide.2;rw[mem_append,List.mem_singleton];constructor
     · exact .inl
     · rintro (h|h)
       · exact h
       · omega
 · rw[length_append,Nq hi,h.c];rfl
theorem Hw.in {X:List Int} {l:List Bool} (h:Hw X l) {x:Int} (hx:JI X x=true):rM x 0 ((l.length:Int)-1)=true:=by
 obtain⟨k,hk,rfl⟩:=h.r x (of_decide_eq_true hx);exact OA hk
def start (n:Nat) (b:Nat):List Bool:=(List.replicate n false).set b true
theorem PN (id:Int) {l:List Pt} (hn:l.length<9223372036854775807) (p:Int):1<=xA id l p:=by
 have h:=C4 id hn p
 revert h
 generalize xA id l p=v;unfold aN;rw[vI,rG];intro h;have key:∀(o:Option Bool) (f:Bool->Option Int),(∀t x,f t=some x->1<=x)->o.bind f=some v->1<=v:=by
  intro o f hf h;cases o with
  | none=>cases h
  | some t=>exact hf t v h
 refine key _ _ (λt x hx=>?_) h;cases t with
 | true=>cases hx;decide
 | false =>
  rw[cF]at hx;cases hbv:bz id l with
  | none=>rw[hbv]at hx;cases hx
  | some w =>
   rw[hbv,rG]at hx;cases hw:w.2==p with
   | true=>rw[hw]at hx;cases hx;decide
   | false =>
    rw[hw,cF]at hx;cases ha:at? l p with
    | none=>rw[ha]at hx;cases hx
    | some y =>
     rw[ha,rG]at hx
     revert hx
     generalize (cond (!y.2.2.1) _ _:Option Bool)=o;intro hx;cases o with
     | none=>cases hx
     | some t=>cases t<;>(cases hx;decide)
theorem EJ {k:Nat} (h:k<64):IntKind.u64.wrap (k:Int)=(k:Int):=by
 show ((k:Int)%18446744073709551616)=_;omega
theorem PP:∀b:Fin 64,∀p:Fin 6,∃t c,shl .i64 1 (p.1:Int)=some t/\zC .i64 (b.1:Int) t=(c:Int)/\0<=c/\c<64:=by
 intro b p;have h:∀b:Fin 64,∀p:Fin 6,(decide (0<=zC .i64 (b.1:Int) (2^p.1))&&decide (zC .i64 (b.1:Int) (2^p.1)<64))=true:=by decide
 have h1:=h b p;simp only[aT,decide_eq_true_eq]at h1;have h2:∀p:Fin 6,shl .i64 1 (p.1:Int)=some (2^p.1):=by decide
 exact⟨_,_,h2 p,rfl,h1.1,h1.2⟩
theorem OB {r:Int} (h:1<=r):decide (r<=2)=(r==1||r==2):=by
 by_cases h2:r<=2
 · rw[dT h2];rcases (show r=1\/r=2 by omega)with rfl|rfl<;>rfl
 · rw[dF h2,beq_eq_false_iff_ne.2 (show r≠1 by omega),beq_eq_false_iff_ne.2 (show r≠2 by omega)];rfl
theorem EK (id:Int) {l:List Pt} (hn:l.length<9223372036854775807) (z:Int×Int) (hz:0<=z.2):fh id l z.1 z.2=ba id l z.1 z.2:=by
 unfold fh ba;rw[ME,C4 id hn,rG];have hr:=PN id hn z.2
 by_cases h1:z.2<(l.length:Int)
 · rw[sG h1,cT];by_cases h2:z.2<6
   · rw[sG h2,rG,rG,cT,cT,rG,OB hr];obtain⟨k,hk⟩:∃k:Nat,z.2=(k:Int):=⟨z.2.toNat,by omega⟩;rw[hk,EJ (by omega)];cases xA id l (k:Int)==1<;>cases xA id l (k:Int)==2<;>rfl
   · rw[sv h2];rfl
 · rw[sv h1];rfl
theorem OC (id:Int) {l:List Pt} (hn:l.length<9223372036854775807):∃c:Nat,c<64/\fQ id l=some (c:Int)/\gj id l=some (c:Int):=by
 obtain⟨v,h1,c,h2,rfl⟩:=se (step:=λz:Int×Int=>ba id l z.1 z.2) (λk z=>z.2=(k:Int)/\∃c:Nat,c<64/\z.1=(c:Int)) (min l.length 6) (λv=>∃c:Nat,c<64/\v=(c:Int))
  (λk z hk ⟨e1,c,e2,e3⟩=>by
   obtain⟨b,i⟩:=z;simp only at e1 e3;subst e1 e3;left;have k6:k<6:=by omega
   obtain⟨t,d,b1,b2,b3,b4⟩:=PP ⟨c,e2⟩ ⟨k,k6⟩;have hs:ba id l (c:Int) (k:Int)=cond (xA id l (k:Int)==1||xA id l (k:Int)==2) (some (.inl ((d:Int),((k+1:Nat):Int)))) (some (.inl ((c:Int),((k+1:Nat):Int)))):=by
    unfold ba;rw[sG (show (k:Int)<(l.length:Int) by omega),sG (show (k:Int)<6 by omega),cT,rG,cT,C4 id hn,rG,b1,rG,b2,rW (by omega)];cases xA id l (k:Int)==1<;>cases xA id l (k:Int)==2<;>rfl
   show ∃y,ba id l (c:Int) (k:Int)=_/\_;rw[hs];cases (xA id l (k:Int)==1||xA id l (k:Int)==2)with
   | true=>exact⟨_,rfl,rfl,d.toNat,by omega,by show d=_;omega⟩
   | false=>exact⟨_,rfl,rfl,c,e2,rfl⟩)
  (λz ⟨e1,c,e2,e3⟩=>by
   obtain⟨b,i⟩:=z;simp only at e1 e3;subst e1 e3;refine⟨(c:Int),?_,c,e2,rfl⟩;show ba id l _ _=_
   unfold ba;by_cases h:l.length<=6
   · rw[Nat.min_eq_left h,sv (by omega)];rfl
   · rw[Nat.min_eq_right (by omega),sG (by omega),sv (show ¬(((6:Nat):Int)<6) by omega)];rfl) (x:=(0,0)) ⟨rfl,0,by omega,rfl⟩
 refine⟨c,h2,by unfold fQ;rw[h1];rfl,?_⟩;unfold gj;rw[EG (f:=λz:Int×Int=>fh id l z.1 z.2) (g:=λz:Int×Int=>ba id l z.1 z.2) (λz=>0<=z.2/\z.2<=9223372036854775806) (λz hz=>EK id hn z hz.1) (λz y hz hy=>by
  have hy':fh id l z.1 z.2=some (.inl y):=hy;rw[EK id hn z hz.1]at hy';unfold ba at hy';by_cases h1:z.2<(l.length:Int)
  · by_cases h2:z.2<6
    · rw[sG h1,sG h2,cT,rG,cT,C4 id hn,rG]at hy';have hw:rJ (z.2+1)=z.2+1:=sg (by omega) (by omega)
      rw[hw]at hy'
      revert hy'
      generalize (cond (xA id l z.2==1) (some true) (some (xA id l z.2==2)))=o;intro hy';cases o with
      | none=>cases hy'
      | some t =>
       rw[rG]at hy';cases t with
       | false=>cases hy';exact⟨by show 0<=z.2+1;omega,by show z.2+1<=_;omega⟩
       | true =>
        rw[cT]at hy';cases hs:shl .i64 1 z.2 with
        | none=>rw[hs]at hy';cases hy'
        | some q=>rw[hs]at hy';cases hy';exact⟨by show 0<=z.2+1;omega,by show z.2+1<=_;omega⟩
    · rw[sG h1,sv h2]at hy';cases hy'
  · rw[sv h1]at hy';cases hy') (x:=(0,0)) ⟨by decide,by decide⟩,h1]
 rfl
structure CW (c:sc):Prop where
 p:0<=c.2.1
 n:c.1.length<9223372036854775807
theorem IA (x:Int):0<=vn .i64 x 255/\vn .i64 x 255<=255:=by
 rw[Gn];have h1:(BitVec.ofInt 64 x&&&BitVec.ofInt 64 255).toNat<=255:=by
  rw[BitVec.toNat_and];exact Nat.le_trans Nat.and_le_right (by decide)
 rw[BitVec.toInt_eq_toNat_cond];split<;>omega
theorem Gp {c:sc} (h:CW c):∃c' r,cN c=some (c',r)/\CW c'/\0<=r/\r<=255:=by
 unfold cN;have hn:=h.n
 have hp:=h.p;by_cases hlt:c.2.1<(c.1.length:Int)
 · obtain⟨k,hk⟩:∃k:Nat,c.2.1=(k:Int):=⟨c.2.1.toNat,by omega⟩;simp only[sG hlt,cT];rw[hk,sa (by omega),rG,rW (by omega)];exact⟨_,_,rfl,⟨by show (0:Int)<=((k+1:Nat):Int);omega,hn⟩,IA _⟩
 · simp only[sv hlt,cF];exact⟨_,_,rfl,⟨hp,hn⟩,IA _⟩
theorem IB {a n:Int} (ha:0<=a) (hn:1<=n):∃r,rem a n=some r/\0<=r/\r<n:=by
 unfold rem;rw[if_neg (by omega)];refine⟨_,rfl,Int.tmod_nonneg _ ha,?_⟩;have:=Int.tmod_lt_of_pos a (show 0<n by omega)
 exact this
theorem wU {c:sc} (h:CW c) (n:Int):∃c' r,aa c n=some (c',r)/\CW c'/\0<=r/\(1<=n->r<n):=by
 unfold aa;by_cases h0:n<=0
 · rw[dT h0];exact⟨_,_,rfl,h,Int.le_refl 0,λh=>by omega⟩
 · rw[dF h0,cF];by_cases h1:n<=256
   · rw[dT h1,cT];obtain⟨c1,r1,e1,w1,a1,b1⟩:=Gp h;obtain⟨r,e,a,b⟩:=IB (n:=n) a1 (by omega);rw[e1,rG,e,rG];exact⟨_,_,rfl,w1,a,λ_=>b⟩
   · rw[dF h1,cF];obtain⟨c1,r1,e1,w1,a1,b1⟩:=Gp h;obtain⟨c2,r2,e2,w2,a2,b2⟩:=Gp w1;obtain⟨c3,r3,e3,w3,a3,b3⟩:=Gp w2;rw[e1,rG,e2,rG,e3,rG];show ∃c' r,((rem (rJ (rJ (rJ (r1*65536)+rJ (r2*256))+r3)) n).bind _)=_/\_
     rw[sg (n:=r1*65536) (by omega) (by omega),sg (n:=r2*256) (by omega) (by omega),sg (n:=r1*65536+r2*256) (by omega) (by omega),sg (n:=r1*65536+r2*256+r3) (by omega) (by omega)];obtain⟨r,e,a,b⟩:=IB (a:=r1*65536+r2*256+r3) (n:=n) (by omega) (by omega);rw[e,rG];exact⟨_,_,rfl,w3,a,λ_=>b⟩
theorem uI {c:sc} (h:CW c) {n:Nat} (hn:1<=n):∃c' k,aa c (n:Int)=some (c',((k:Nat):Int))/\CW c'/\k<n:=by
 obtain⟨c',r,e,w,a,b⟩:=wU h (n:Int);have b:=b (by omega)
 exact⟨c',r.toNat,by rw[e];congr 2;omega,w,by omega⟩
theorem EL {c:sc} (h:CW c) (n:Int):∃c' r,bb c n=some (c',r)/\CW c':=by
 obtain⟨c',r,e,w,_⟩:=wU h n;unfold bb;rw[e,rG];exact⟨_,_,rfl,w⟩
theorem C5 {c:sc} (h:CW c) {l:List Int} (hl:1<=l.length):∃c' x,ai c l=some (c',x)/\CW c'/\x∈l:=by
 obtain⟨c',k,e,w,b⟩:=uI h hl;unfold ai;rw[e,rG];show ∃c'' x,(at? l (k:Int)).bind _=_/\_
 rw[sa b,rG];exact⟨_,_,rfl,w,getElem_mem b⟩
theorem M6 {c:sc} (h:CW c) {l:List (List UInt8)} (hl:1<=l.length):∃c' x,aU c l=some (c',x)/\CW c'/\x∈l:=by
 obtain⟨c',k,e,w,b⟩:=uI h hl;unfold aU;rw[e,rG];show ∃c'' x,(at? l (k:Int)).bind _=_/\_
 rw[sa b,rG];exact⟨_,_,rfl,w,getElem_mem b⟩
theorem OD {code:List Int} (h:code.length<=1048576):∃c,es code=some c/\CW c:=by
 obtain⟨v,h1,-⟩:=se (step:=λz:Int×Int=>cC code z.1 z.2) (λk z=>z.2=(k:Int)) (min code.length 4000) (λ_=>True)
  (λk z hk e=>by
   obtain⟨x,i⟩:=z;simp only at e;subst e;left;have k4:k<4000:=by omega
   have hs:∃y,cC code x (k:Int)=some (.inl (y,((k+1:Nat):Int))):=by
    unfold cC;rw[sG (show (k:Int)<(code.length:Int) by omega),sG (show (k:Int)<4000 by omega),cT,rG,cT,sa (by omega),rG,rW (by omega)];exact⟨_,rfl⟩
   obtain⟨y,hs⟩:=hs;exact⟨_,hs,rfl⟩)
  (λz e=>by
   obtain⟨x,i⟩:=z;simp only at e;subst e;refine⟨x,?_,trivial⟩;show cC code x _=_
   unfold cC;by_cases h:code.length<=4000
   · rw[Nat.min_eq_left h,sv (by omega)];rfl
   · rw[Nat.min_eq_right (by omega),sG (by omega),sv (show ¬(((4000:Nat):Int)<4000) by omega)];rfl) (x:=(rJ (762762+(code.length:Int)),0)) rfl
 unfold es;show ∃c,(loop (λz=>cC code z.1 z.2) (rJ (762762+(code.length:Int)),0)).bind (λd=>some (code,0,d))=some c/\CW c
 rw[h1,rG];exact⟨_,rfl,by show (0:Int)<=0;omega,by show code.length<_;omega⟩

abbrev Co (x:Int):Prop:=-9223372036854775808<=x/\x<=9223372036854775807
structure VT (v:sR) (n:Nat):Prop where
 p:vc v (n:Int)=true
 r:∀r∈v.1,Co r.2.2
theorem VT.len {v:sR} {n:Nat} (h:VT v n):1<=n/\n<=6/\v.2.length=n/\v.1.length<=6:=by
 have hp:=h.p;unfold vc rM at hp;simp only[aT,Bool.not_eq_true',Bool.or_eq_false_iff,Bool.not_eq_false',aT,decide_eq_true_eq,decide_eq_false_iff_not,bne_eq_false_iff_eq]at hp;obtain⟨⟨h1,h2,h3⟩,_⟩:=hp;omega
theorem Qb {v:sR} (n:Int) (h1:v.1.length<=1000) (h2:v.2.length<=1000) (hr:∀r∈v.1,Co r.2.2):aI v n=some (vc v n):=JE n (by omega) (by omega) hr
theorem JK {v:sR} (h1:v.1.length<=1000) (h2:v.2.length<=1000):aJ v=some v:=by
 unfold aJ;unfold sf;have m:(Aa:Nat)=4294967296:=rfl
 rw[if_pos (by show 0+v.1.length<=Aa;omega),rG,if_pos (by show 0+v.2.length<=Aa;omega),rG];rfl
theorem OE {x v:sR} {n:Nat} (hv:VT v n) (h1:x.1.length<=1000) (h2:x.2.length<=1000) (hr:∀r∈x.1,Co r.2.2):∃y ok,cZ x v=some (y,ok)/\VT y n:=by
 obtain⟨l1,l2,l3,l4⟩:=hv.len;unfold cZ;rw[Qb _ h1 h2 hr,rG];cases h:vc x (v.2.length:Int)with
 | true=>exact⟨_,_,rfl,by rw[l3]at h;exact h,hr⟩
 | false =>
  rw[Bool.not_false,cT,JK (by omega) (by omega),rG];exact⟨_,_,rfl,hv⟩
theorem OF {v:sR} {n:Nat} (hv:VT v n):aI v (v.2.length:Int)=some true:=by
 obtain⟨l1,l2,l3,l4⟩:=hv.len;rw[Qb _ (by omega) (by omega) hv.r,l3,hv.p]
theorem PQ {v:sR} {n:Nat} (hv:VT v n) (port id:Int):∃y ok,ej v port id=some (y,ok)/\VT y n:=by
 obtain⟨l1,l2,l3,l4⟩:=hv.len;unfold ej;rw[OF hv,rG,Bool.not_true,cF,xP,rG,rG,JK (by omega) (by omega),sg (n:=(v.2.length:Int)-1) (by omega) (by omega)];cases hin:rM port 0 ((v.2.length:Int)-1)with
 | false=>exact⟨_,_,rfl,hv⟩
 | true =>
  obtain⟨k,hk,rfl⟩:=Oz hin;simp only[Bool.not_true,cF,rG,vk hk,List.getElem?_eq_getElem hk];obtain⟨y,ok,e,hy⟩:=OE (x:=(v.1,v.2.set k id)) hv (by show v.1.length<=_;omega) (by show (v.2.set k id).length<=_;rw[length_set];omega) hv.r;rw[e];exact⟨_,_,rfl,hy⟩
theorem OG {v:sR} (hn:v.1.length<9223372036854775807) (id:Int):∃r,bc v id=some r/\(r = -1\/∃k:Nat,k<v.1.length/\r=(k:Int)):=by
 rw[Ov];unfold aq;obtain⟨b,h1,h2⟩:=se (β:=Unit⊕Int) (step:=λz=>aF v id z) (λk i=>i=(k:Int)) v.1.length (λb=>∀r,b=.inr r->∃k:Nat,k<v.1.length/\r=(k:Int))
  (λk i hk h=>by
   subst h;unfold aF;rw[sG (by omega),cT,sa hk,rG];cases (v.1[k].1==id)with
   | true=>exact .inr ⟨_,rfl,λr hr=>⟨k,hk,by cases hr;rfl⟩⟩
   | false=>exact .inl ⟨_,rfl,rW (by omega)⟩)
  (λi h=>by
   subst h;unfold aF;rw[sv (by omega)];exact⟨_,rfl,λr hr=>by cases hr⟩) (x:=0) rfl
 rw[h1,rG];cases b with
 | inl _=>exact⟨_,rfl,.inl rfl⟩
 | inr r=>exact⟨r,rfl,.inr (h2 r rfl)⟩
theorem vw {α:Type} {l:List α} {a b:Nat} (h1:a<=b) (h2:b<=l.length):cut l (a:Int) (b:Int)=some ((l.take b).drop a):=by
 unfold cut;rw[if_pos (by omega),if_pos (by omega),if_pos (by omega)];simp
theorem rP {α:Type} {xs ys:List α} (h:xs.length+ys.length<=4294967296):sf xs ys=some (xs++ys):=by
 unfold sf;rw[if_pos (show xs.length+ys.length<=Aa from h)]
theorem PR {v:sR} {n:Nat} (hv:VT v n) (id:Int):∃y ok,em v id=some (y,ok)/\VT y n:=by
 obtain⟨l1,l2,l3,l4⟩:=hv.len;obtain⟨r,hr,hr2⟩:=OG (v:=v) (by omega) id;unfold em;rw[hr,rG,OF hv,rG,Bool.not_true,cF,JK (by omega) (by omega),rG,rG,rG];rcases hr2 with rfl|⟨k,hk,rfl⟩
 · exact⟨_,_,rfl,hv⟩
 · rw[sv (by omega),cF,show (0:Int)=((0:Nat):Int)from rfl,vw (by omega) (by omega),rG,rW (by omega),vw (by omega) (by omega)];have t1:((v.1.take k).drop 0).length<=6:=by simp;omega
   have t2:((v.1.take v.1.length).drop (k+1)).length<=6:=by simp;omega
   rw[rP (by show 0+_<=_;omega),rG,rG,nil_append,rP (by omega),rG];obtain⟨y,ok,e,hy⟩:=OE (x:=((v.1.take k).drop 0++(v.1.take v.1.length).drop (k+1),v.2)) hv (by show ((v.1.take k).drop 0++(v.1.take v.1.length).drop (k+1)).length<=_;rw[length_append];omega) (by show v.2.length<=_;omega) (λr hr=>by
    rcases mem_append.1 hr with hr|hr
    · exact hv.r r (mem_of_mem_take (List.mem_of_mem_drop hr))
    · exact hv.r r (mem_of_mem_take (List.mem_of_mem_drop hr)))
   rw[e];exact⟨_,_,rfl,hy⟩
theorem QD {v:sR} {n:Nat} (hv:VT v n) {r:s5} (hr:Co r.2.2):∃y,bf v r=some y/\y.1.length<=1000/\y.2.length<=1000/\∀r∈y.1,Co r.2.2:=by
 obtain⟨l1,l2,l3,l4⟩:=hv.len;obtain⟨d,h1,h2,h3⟩:=se (step:=λz:Bool×Int×List s5=>bK v r z.1 z.2.1 z.2.2) (λk z=>z.2.1=(k:Int)/\z.2.2.length<=2*k/\∀x∈z.2.2,Co x.2.2) v.1.length (λd=>d.2.length<=12/\∀x∈d.2,Co x.2.2)
  (λk z hk ⟨e1,e2,e3⟩=>by
   obtain⟨t,i,b⟩:=z;simp only at e1 e2 e3;subst e1;left;have hvk:Co v.1[k].2.2:=hv.r _ (getElem_mem hk)
   show ∃y,bK v r t (k:Int) b=_/\_;unfold bK;simp only[sG (show (k:Int)<(v.1.length:Int) by omega),cT,sa hk,rG,rW (show k<9223372036854775807 by omega),Int.not_lt];have ha:∀(xs:List s5) (y:s5),xs.length<=100->sf xs [y]=some (xs++[y]):=λxs y h=>rP (by show xs.length+1<=_;omega)
   have key:∀(tt:Bool),((cond (!t) (some (decide (v.1[k].1>=r.1))) (some false))=some tt->∃y:Bool×Int×List s5,(cond tt ((sf b [r]).bind λzs37=>cond (v.1[k].1 != r.1) ((sf zs37 [v.1[k]]).bind λzs56=>some (.inl (true,((k+1:Nat):Int),zs56))) (some (.inl (true,((k+1:Nat):Int),zs37)))) (cond (v.1[k].1 != r.1) ((sf b [v.1[k]]).bind λzs56_1=>some (.inl (t,((k+1:Nat):Int),zs56_1))) (some (.inl (t,((k+1:Nat):Int),b)))):Option ((Bool×Int×List s5)⊕(Bool×List s5)))=some (.inl y)/\y.2.1=((k+1:Nat):Int)/\y.2.2.length<=2*(k+1)/\∀x∈y.2.2,Co x.2.2):=by
    intro tt _;cases tt with
    | true =>
     rw[cT,ha b r (by omega),rG];cases v.1[k].1 != r.1 with
     | true =>
      rw[cT,ha (b++[r]) _ (by simp;omega),rG];refine⟨_,rfl,rfl,by simp;omega,λx hx=>?_⟩;simp at hx;rcases hx with hx|rfl|rfl
      · exact e3 x hx
      · exact hr
      · exact hvk
     | false =>
      refine⟨_,rfl,rfl,by simp;omega,λx hx=>?_⟩;simp at hx;rcases hx with hx|rfl
      · exact e3 x hx
      · exact hr
    | false =>
     rw[cF];cases v.1[k].1 != r.1 with
     | true =>
      rw[cT,ha b _ (by omega),rG];refine⟨_,rfl,rfl,by simp;omega,λx hx=>?_⟩;simp at hx;rcases hx with hx|rfl
      · exact e3 x hx
      · exact hvk
     | false=>exact⟨_,rfl,rfl,by show b.length<=_;omega,e3⟩
   cases ht:(cond (!t) (some (decide (v.1[k].1>=r.1))) (some false))with
   | none=>cases t<;>cases ht
   | some tt =>
    rw[rG];exact key tt ht)
  (λz ⟨e1,e2,e3⟩=>by
   obtain⟨t,i,b⟩:=z;simp only at e1 e2 e3;subst e1;refine⟨(t,b),?_,by show b.length<=12;omega,e3⟩;show bK v r t _ b=_
   unfold bK;rw[sv (by omega),cF]) (x:=(false,0,[])) ⟨rfl,by simp,λx hx=>absurd hx not_mem_nil⟩
 unfold bf;rw[rP (by show 0+v.2.length<=_;omega),rG,h1,rG,nil_append];cases d.1 with
 | true=>exact⟨_,rfl,by show d.2.length<=_;omega,by show v.2.length<=_;omega,h3⟩
 | false =>
  rw[Bool.not_false,cT,rP (by show d.2.length+1<=_;omega),rG];refine⟨_,rfl,by show (d.2++[r]).length<=_;simp;omega,by show v.2.length<=_;omega,λx hx=>?_⟩;have hx:x∈d.2++[r]:=hx
  simp at hx;rcases hx with hx|rfl
  · exact h3 x hx
  · exact hr
theorem QE {v:sR} {n:Nat} (hv:VT v n) {r:s5} (hr:Co r.2.2):∃y ok,eo v r=some (y,ok)/\VT y n:=by
 obtain⟨x,hx,h1,h2,h3⟩:=QD hv hr;unfold eo;rw[OF hv,rG,Bool.not_true,cF,hx,rG];obtain⟨y,ok,e,hy⟩:=OE hv h1 h2 h3;rw[e];exact⟨_,_,rfl,hy⟩
theorem PS (a b:Int):Co (vn .i64 a b):=by
 rw[Gn];have h1:=BitVec.toInt_lt (x:=BitVec.ofInt 64 a&&&BitVec.ofInt 64 b)
 have h2:=BitVec.le_toInt (x:=BitVec.ofInt 64 a&&&BitVec.ofInt 64 b);exact⟨by omega,by omega⟩
theorem PT {c:sc} (h:CW c) {n:Nat} (h1:1<=n) (h6:n<=6):∃c' r,fv c (n:Int)=some (c',r)/\CW c'/\Co r.2.2:=by
 obtain⟨t,ht,_⟩:=JC (i:=(n:Int)) (by unfold rM;rw[dT (by omega),dT (by omega)];rfl);unfold fv;rw[ht,rG];obtain⟨c1,r1,e1,w1,_⟩:=wU h (rJ ((rJ (t-1))+1));obtain⟨c2,r2,e2,w2,_⟩:=C5 w1 (l:=[1,2,3,2]) (by decide);obtain⟨c3,r3,e3,w3,_⟩:=wU w2 (rJ ((rJ (t-1))+1));rw[e1,rG,e2,rG,e3,rG];exact⟨_,_,rfl,w3,PS _ _⟩

theorem OH {n:Nat} (h1:1<=n) (h6:n<=6):ef (n:Int)=some ([(1,ua (n:Int),ua (n:Int))],List.replicate n 1):=by
 have hin:rM (n:Int) 1 6=true:=by unfold rM;rw[dT (by omega),dT (by omega)];rfl
 obtain⟨t,ht,ht2⟩:=JC hin;obtain⟨d,hd,rfl⟩:=se (step:=λz:Int×List Int=>cW (n:Int) z.1 z.2) (λk z=>z.1=(k:Int)/\z.2=List.replicate k 1) n (λd=>d=List.replicate n 1)
  (λk z hk ⟨e1,e2⟩=>by
   obtain⟨i,l⟩:=z;simp only at e1 e2;subst e1 e2;left;refine⟨(((k+1:Nat):Int),List.replicate k 1++[1]),?_,rfl,?_⟩
   · show cW (n:Int) (k:Int) _=_;unfold cW;rw[sG (by omega),cT,rP (by simp;omega),rG,rW (by omega)]
   · show List.replicate k 1++[1]=_;rw[←List.replicate_succ'])
  (λz ⟨e1,e2⟩=>by
   obtain⟨i,l⟩:=z;simp only at e1 e2;subst e1 e2;refine⟨_,?_,rfl⟩;show cW (n:Int) _ _=_
   unfold cW;rw[sv (by omega),cF]) (x:=(0,[])) ⟨rfl,rfl⟩
 unfold ef;rw[xP,rG,hin,Bool.not_true,cF,ht,rG,hd,rG,ht2]
theorem PU {n:Nat} (h1:1<=n) (h6:n<=6):VT ([(1,ua (n:Int),ua (n:Int))],List.replicate n 1) n:=by
 have hin:rM (n:Int) 1 6=true:=by unfold rM;rw[dT (by omega),dT (by omega)];rfl
 have ht:=Gm hin;have hrow:aq ([(1,ua (n:Int),ua (n:Int))],List.replicate n 1) 1=some 0:=by
  unfold aq;rw[xp (k:=1) (b:=.inr 0) (by rfl)];rfl
 have hb:(B1 .i64 (ua (n:Int)) (ua (n:Int)) != 0)=false:=by
  rcases EH hin with h|h|h|h|h|h<;>rw[h]<;>decide
 refine⟨?_,λr hr=>?_⟩
 · unfold vc;rw[hin];show (!(!true||(((List.replicate n (1:Int)).length:Int) != (n:Int)||decide ((1:Int)>6)))&&(!(List.range 1).any _&&!(List.range (List.replicate n (1:Int)).length).any _))=true
   rw[List.length_replicate];have e1:(((n:Int)) != (n:Int))=false:=by simp
   rw[e1];have e2:(List.range 1).any (yv ([(1,ua (n:Int),ua (n:Int))],List.replicate n 1) (n:Int))=false:=by
    show (yv ([(1,ua (n:Int),ua (n:Int))],List.replicate n 1) (n:Int) 0||false)=false;unfold yv;show ((!(rM 1 1 99)||((decide (0<0)&&_)||(!(rM (ua (n:Int)) 0 (ua (n:Int)))||(B1 .i64 (ua (n:Int)) (ua (n:Int)) != 0))))||false)=false
    rw[hb];have:rM (ua (n:Int)) 0 (ua (n:Int))=true:=by unfold rM;rw[dT (by omega),dT (by omega)];rfl
    rw[this];rfl
   rw[e2];have e3:(List.range n).any (A1 ([(1,ua (n:Int),ua (n:Int))],List.replicate n 1))=false:=by
    apply Bool.eq_false_iff.2;intro h;obtain⟨k,hk,hx⟩:=any_eq_true.1 h;have hk:=mem_range.1 hk
    unfold A1 at hx;have:(List.replicate n (1:Int))[k]?=some 1:=by rw[List.getElem?_replicate,if_pos hk]
    simp only[this,hrow]at hx
    revert hx;decide
   rw[e3];rfl
 · have hr:r∈[((1:Int),ua (n:Int),ua (n:Int))]:=hr;simp at hr;subst hr;exact⟨by show _<=ua (n:Int);omega,by show ua (n:Int)<=_;omega⟩
theorem PV {c:sc} (h:CW c) {n:Nat} (h1:1<=n) (h6:n<=6):∃c' v,ep c (n:Int)=some (c',v)/\CW c'/\VT v n:=by
 unfold ep;obtain⟨c0,m,e0,w0,hm⟩:=uI h (n:=6) (by decide);rw[OH h1 h6,rG];have e0':aa c 6=some (c0,(m:Int)):=e0
 rw[e0',rG];obtain⟨d,hd,g1,g2⟩:=se (step:=λz:Int×List Int×Int×Int×List s5×List Int=>da (n:Int) z.1 z.2.1 z.2.2.1 z.2.2.2.1 z.2.2.2.2.1 z.2.2.2.2.2) (λk z=>z.1=(m:Int)-(k:Int)/\CW (z.2.1,z.2.2.1,z.2.2.2.1)/\VT z.2.2.2.2 n) m (λd=>CW (d.1,d.2.1,d.2.2.1)/\VT d.2.2.2 n)
  (λk z hk ⟨a1,a2,a3⟩=>by
   obtain⟨i,x,y,s,v⟩:=z;simp only at a1 a2 a3;left;show ∃y',da (n:Int) i x y s v.1 v.2=_/\_
   unfold da;have hi:decide (i>0)=true:=dT (by omega)
   have hw:rJ (i-1)=(m:Int)-((k+1:Nat):Int):=by rw[sg (by omega) (by omega)];omega
   obtain⟨c1,r1,e1,w1,_⟩:=wU a2 4;rw[hi,cT,e1,rG,hw];show ∃y',cond (r1==0) _ _=_/\_
   cases r1==0 with
   | true =>
    obtain⟨c2,r2,e2,w2,_⟩:=wU w1 (n:Int);obtain⟨c3,r3,e3,w3,_⟩:=wU w2 3;obtain⟨v',ok,e4,g4⟩:=PQ a3 r2 (rJ (1+r3));have e4':ej (v.1,v.2) r2 (rJ (1+r3))=some (v',ok):=e4
    rw[cT,e2,rG,e3,rG,e4',rG];exact⟨_,rfl,rfl,w3,g4⟩
   | false =>
    rw[cF];show ∃y',cond (r1==1) _ _=_/\_
    cases r1==1 with
    | true =>
     obtain⟨c2,r2,e2,w2,_⟩:=wU w1 2;obtain⟨v',ok,e4,g4⟩:=PR a3 (rJ (2+r2));have e4':em (v.1,v.2) (rJ (2+r2))=some (v',ok):=e4
     rw[cT,e2,rG,e4',rG];exact⟨_,rfl,rfl,w2,g4⟩
    | false =>
     obtain⟨c2,r2,e2,w2,hr2⟩:=PT w1 h1 h6;obtain⟨v',ok,e4,g4⟩:=QE a3 hr2;have e4':eo (v.1,v.2) r2=some (v',ok):=e4
     rw[cF,e2,rG,e4',rG];exact⟨_,rfl,rfl,w2,g4⟩)
  (λz ⟨a1,a2,a3⟩=>by
   obtain⟨i,x,y,s,v⟩:=z;simp only at a1 a2 a3;refine⟨(x,y,s,v),?_,a2,a3⟩;show da (n:Int) i x y s v.1 v.2=_
   unfold da;have hi:decide (i>0)=false:=dF (by omega)
   rw[hi,cF]) (x:=((m:Int),c0.1,c0.2.1,c0.2.2,[(1,ua (n:Int),ua (n:Int))],List.replicate n 1)) ⟨by simp,w0,PU h1 h6⟩
 rw[hd,rG];exact⟨_,_,rfl,g1,g2⟩
theorem QF {c:sc} (h:CW c):∃c' v,fu c=some (c',v)/\CW c'/\CU v=true:=by
 obtain⟨c1,k1,e1,w1,b1⟩:=uI h (n:=5) (by decide);obtain⟨c2,x2,e2,w2,b2⟩:=C5 w1 (l:=[0,1,2,5,10,100]) (by decide);obtain⟨c3,x3,e3,w3,b3⟩:=C5 w2 (l:=[0,1,2,9,10]) (by decide);obtain⟨c4,k4,e4,w4,b4⟩:=uI w3 (n:=5) (by decide);obtain⟨c5,k5,e5,w5,b5⟩:=uI w4 (n:=4) (by decide);have e1':aa c 5=some (c1,(k1:Int)):=e1
 have e4':aa c3 5=some (c4,(k4:Int)):=e4;have e5':aa c4 4=some (c5,(k5:Int)):=e5
 unfold fu;rw[e1',rG,e2,rG,e3,rG,e4',rG,e5',rG];refine⟨_,_,rfl,w5,?_⟩;show CU (rJ (1+(k1:Int)),x2,x3,rJ (1+(k4:Int)),(k5:Int))=true
 rw[sg (by omega) (by omega),sg (by omega) (by omega)];have i1:rM (1+(k1:Int)) 1 99=true:=by unfold rM;rw[dT (by omega),dT (by omega)];rfl
 have i4:rM (1+(k4:Int)) 1 99=true:=by unfold rM;rw[dT (by omega),dT (by omega)];rfl
 have i5:rM (k5:Int) 0 7=true:=by unfold rM;rw[dT (by omega),dT (by omega)];rfl
 have i2:rM x2 0 100000=true:=by
  have:∀x∈([0,1,2,5,10,100]:List Int),rM x 0 100000=true:=by decide
  exact this x2 b2
 have i3:rM x3 0 10=true:=by
  have:∀x∈([0,1,2,9,10]:List Int),rM x 0 10=true:=by decide
  exact this x3 b3
 unfold CU;rw[i1,i2,i3,i4,i5];rfl
theorem OI {c:sc} (h:CW c) {n:Nat} (h6:n<=6):∃c' l,ei c (n:Int)=some (c',l)/\CW c'/\l.length=n/\∀x∈l,yH x=true:=by
 unfold ei;obtain⟨d,hd,g1,g2,g3⟩:=se (step:=λz:Int×List Int×Int×Int×List Pt=>cY (n:Int) z.1 z.2.1 z.2.2.1 z.2.2.2.1 z.2.2.2.2) (λk z=>z.1=(k:Int)/\CW (z.2.1,z.2.2.1,z.2.2.2.1)/\z.2.2.2.2.length=k/\∀x∈z.2.2.2.2,yH x=true) n (λd=>CW (d.1,d.2.1,d.2.2.1)/\d.2.2.2.length=n/\∀x∈d.2.2.2,yH x=true)
  (λk z hk ⟨a1,a2,a3,a4⟩=>by
   obtain⟨i,x,y,s,l⟩:=z;simp only at a1 a2 a3 a4;subst a1;left;show ∃y',cY (n:Int) (k:Int) x y s l=_/\_
   unfold cY;obtain⟨c1,up,e1,w1⟩:=EL a2 4;obtain⟨c2,cost,e2,w2,b2⟩:=C5 w1 (l:=[1,1,2,5,10]) (by decide);have hc:rM cost 1 1000=true:=by
    have:∀x∈([1,1,2,5,10]:List Int),rM x 1 1000=true:=by decide
    exact this cost b2
   have ha:∀q:Pt,sf l [q]=some (l++[q]):=λq=>rP (by show l.length+1<=_;omega);have hin:∀q:Pt,yH q=true->(l++[q]).length=k+1/\∀x∈l++[q],yH x=true:=λq hq=>⟨by simp;omega,λx hx=>by
    simp at hx;rcases hx with hx|rfl
    · exact a4 x hx
    · exact hq⟩
   rw[sG (by omega),cT,e1,rG,e2,rG,rW (by omega)];show ∃y',cond (!up) _ _=_/\_
   cases up with
   | true =>
    simp only[ha,Bool.not_true,cF,rG];obtain⟨q1,q2⟩:=hin (false,cost,false,0,0,0,0,0) (by unfold yH;rw[hc];rfl);exact⟨_,rfl,rfl,w2,q1,q2⟩
   | false =>
    obtain⟨c3,has,e3,w3⟩:=EL w2 4;rw[Bool.not_false,cT,e3,rG];show ∃y',cond (!has) _ _=_/\_
    cases has with
    | true =>
     simp only[ha,Bool.not_true,cF,rG];obtain⟨q1,q2⟩:=hin (true,cost,false,0,0,0,0,0) (by unfold yH;rw[hc];rfl);exact⟨_,rfl,rfl,w3,q1,q2⟩
    | false =>
     obtain⟨c4,v,e4,w4,hv⟩:=QF w3;simp only[ha,Bool.not_false,cT,rG,e4];obtain⟨q1,q2⟩:=hin (true,cost,true,v.1,v.2.1,v.2.2.1,v.2.2.2.1,v.2.2.2.2) (by unfold yH;rw[hc];exact hv);exact⟨_,rfl,rfl,w4,q1,q2⟩)
  (λz ⟨a1,a2,a3,a4⟩=>by
   obtain⟨i,x,y,s,l⟩:=z;simp only at a1 a2 a3 a4;subst a1;refine⟨(x,y,s,l),?_,a2,a3,a4⟩;show cY (n:Int) _ x y s l=_
   unfold cY;rw[sv (by omega),cF]) (x:=(0,c.1,c.2.1,c.2.2,[])) ⟨rfl,h,rfl,λx hx=>absurd hx not_mem_nil⟩
 rw[hd,rG];exact⟨_,_,rfl,g1,g2,g3⟩

def lt (a b:rR):Prop:=a.1<b.1\/(a.1=b.1/\a.2.1<b.2.1)
def same (a b:rR):Prop:=a.1=b.1/\a.2.1=b.2.1
theorem lt_trans {a b c:rR} (h:lt a b) (k:lt b c):lt a c:=by unfold lt at *;omega
theorem JL {a b:rR} (h:lt a b):¬same a b:=by unfold lt same at *;omega
structure FB (l:List rR):Prop where
 e:∀x∈l,wh x=true
 o:l.Pairwise lt
 n:l.length<=12
theorem FB.ok {l:List rR} (h:FB l):xu l=true:=by
 unfold xu;have hn:=h.n
 rw[dT (show (l.length:Int)<=12 by omega),Bool.and_true,Bool.not_eq_true'];apply Bool.eq_false_iff.2;intro ha;obtain⟨k,hk,hx⟩:=any_eq_true.1 ha;have hk:=mem_range.1 hk
 unfold xz at hx;simp only[List.getElem?_eq_getElem hk,h.e _ (getElem_mem hk),Bool.not_true,Bool.false_or,aT,decide_eq_true_eq]at hx;obtain⟨h0,hx⟩:=hx;simp only[List.getElem?_eq_getElem (show k-1<l.length by omega),Bool.not_eq_true']at hx;have hl:=pairwise_iff_getElem.1 h.o (k-1) k (by omega) hk (by omega)
 unfold yI at hx;simp only[Bool.or_eq_false_iff,Bool.and_eq_false_iff,decide_eq_false_iff_not,bF]at hx;unfold lt at hl;omega
theorem Qc {l:List rR} (h:FB l):ch l=some true:=by
 have hn:=h.n;rw[Ou (by omega),h.ok]
theorem FB.copy {l:List rR} (h:FB l):bN l=some l:=by
 have hn:=h.n;unfold bN;rw[rP (by show 0+l.length<=_;omega)];rfl
theorem Qd {l:List rR} (hn:l.length<9223372036854775807) (tag mac:Int):∃r,bM l tag mac=some r/\((r = -1/\∀x∈l,¬(x.1=tag/\x.2.1=mac))\/∃k:Nat,∃hk:k<l.length,r=(k:Int)/\l[k].1=tag/\l[k].2.1=mac):=by
 obtain⟨v,h1,h2⟩:=se (step:=λz=>aR l tag mac z) (λk i=>i=(k:Int)/\∀x∈l.take k,¬(x.1=tag/\x.2.1=mac)) l.length (λv=>(v=.inl ()/\∀x∈l,¬(x.1=tag/\x.2.1=mac))\/∃k:Nat,∃hk:k<l.length,v=.inr (k:Int)/\l[k].1=tag/\l[k].2.1=mac)
  (λk i hk ⟨e,hx⟩=>by
   subst e;have hs:aR l tag mac (k:Int)=cond (l[k].1==tag&&l[k].2.1==mac) (some (.inr (.inr (k:Int)))) (some (.inl ((k+1:Nat):Int))):=by
    unfold aR;simp only[sG (show (k:Int)<(l.length:Int) by omega),cT,sa hk,rG,rW (show k<9223372036854775807 by omega)];cases l[k].1==tag<;>rfl
   cases hb:(l[k].1==tag&&l[k].2.1==mac)with
   | true =>
    simp only[aT,beq_iff_eq]at hb;refine .inr ⟨_,by rw[hs];rw[show (l[k].1==tag&&l[k].2.1==mac)=true by simp[hb.1,hb.2]];rfl,.inr ⟨k,hk,rfl,hb.1,hb.2⟩⟩
   | false =>
    refine .inl ⟨_,by rw[hs,hb];rfl,rfl,λx hx'=>?_⟩;rw[take_add_one,List.getElem?_eq_getElem hk,mem_append]at hx';rcases hx' with hx'|hx'
    · exact hx x hx'
    · simp at hx';subst hx';intro ⟨q1,q2⟩;rw[q1,q2]at hb;simp at hb)
  (λi ⟨e,hx⟩=>by
   subst e;rw[take_length]at hx;refine⟨.inl (),?_,.inl ⟨rfl,hx⟩⟩;show aR l tag mac _=_
   unfold aR;rw[sv (by omega),cF]) (x:=0) ⟨rfl,by simp⟩
 unfold bM;rw[h1,rG];rcases h2 with ⟨rfl,h2⟩|⟨k,hk,rfl,h2⟩
 · exact⟨_,rfl,.inl ⟨rfl,h2⟩⟩
 · exact⟨_,rfl,.inr ⟨k,hk,rfl,h2⟩⟩
def zd (x e:rR):Bool:=cond (x.1 != e.1) (decide (x.1<e.1)) (decide (x.2.1<e.2.1))
theorem M7 {x e:rR} (h:zd x e=true):lt x e:=by
 unfold zd at h;unfold lt;by_cases hx:x.1=e.1
 · rw[show (x.1 != e.1)=false by simp[hx],cF]at h;exact .inr ⟨hx,of_decide_eq_true h⟩
 · rw[show (x.1 != e.1)=true from bne_iff_ne.2 hx,cT]at h;exact .inl (of_decide_eq_true h)
theorem KY {x e:rR} (h:zd x e=false):lt e x\/same x e:=by
 unfold zd at h;unfold lt same;by_cases hx:x.1=e.1
 · rw[show (x.1 != e.1)=false by simp[hx],cF]at h;have:=of_decide_eq_false h
   omega
 · rw[show (x.1 != e.1)=true from bne_iff_ne.2 hx,cT]at h;have:=of_decide_eq_false h
   omega
def xj (x e:rR):Bool:=x.1 != e.1||x.2.1 != e.2.1
theorem C6 {x e:rR} (h:xj x e=true):¬same x e:=by
 unfold xj at h;unfold same;simp only[Bool.or_eq_true,bne_iff_ne]at h;omega
theorem HY {x e:rR} (h:xj x e=false):same x e:=by
 unfold xj at h;unfold same;simp only[Bool.or_eq_false_iff,bne_eq_false_iff_eq]at h;exact h
theorem AU {l:List rR} {x:rR} (h:l.Pairwise lt) (k:∀y∈l,lt y x):(l++[x]).Pairwise lt:=by
 rw[pairwise_append];exact⟨h,List.pairwise_singleton _ _,λa ha b hb=>by simp at hb;subst hb;exact k a ha⟩
theorem JM {l:List rR} (h:FB l) {e:rR} (he:wh e=true) (hroom:(∃x∈l,same x e)\/l.length<12):∃y,ee l e=some y/\FB y:=by
 have hn:=h.n;have hlt:∀i j (hi:i<l.length) (hj:j<l.length),i<j->lt l[i] l[j]:=pairwise_iff_getElem.1 h.o
 obtain⟨d,hd,g⟩:=se (step:=λz:Bool×Int×List rR=>cV l e z.1 z.2.1 z.2.2)
  (λk z=>z.2.1=(k:Int)/\(∀x∈z.2.2,wh x=true)/\z.2.2.Pairwise lt /\
   (z.1=false->z.2.2=l.take k/\∀x∈l.take k,lt x e) /\
   (z.1=true->(∀x∈z.2.2,∀j (hj:j<l.length),k<=j->lt x l[j])/\(∀j (hj:j<l.length),k<=j->lt e l[j])/\z.2.2.length<=k+1/\((∃x∈l.take k,same x e)->z.2.2.length<=k))) l.length
  (λd=>(∀x∈d.2,wh x=true)/\d.2.Pairwise lt/\(d.1=false->d.2=l/\∀x∈l,lt x e)/\(d.1=true->d.2.length<=l.length+1/\((∃x∈l,same x e)->d.2.length<=l.length)))
  (λk z hk ⟨e1,e2,e3,e4,e5⟩=>by
   obtain⟨t,i,b⟩:=z;simp only at e1 e2 e3 e4 e5;subst e1;left;have hf:wh l[k]=true:=h.e _ (getElem_mem hk)
   have hbl:b.length<=100:=by
    cases t with
    | false=>rw[(e4 rfl).1,length_take];omega
    | true=>have:=(e5 rfl).2.2.1;omega
   have ha:∀(xs:List rR) (y:rR),xs.length<=101->sf xs [y]=some (xs++[y]):=λxs y h=>rP (by show xs.length+1<=_;omega);have htk:l.take (k+1)=l.take k++[l[k]]:=by rw[take_add_one,List.getElem?_eq_getElem hk];rfl
   have hs:cV l e t (k:Int) b=cond (!t&&!(zd l[k] e))
    (cond (xj l[k] e) (some (.inl (true,((k+1:Nat):Int),b++[e]++[l[k]]))) (some (.inl (true,((k+1:Nat):Int),b++[e]))))
    (cond (xj l[k] e) (some (.inl (t,((k+1:Nat):Int),b++[l[k]]))) (some (.inl (t,((k+1:Nat):Int),b)))):=by
    have hA:ca l[k] e.1 e.2.1=some (zd l[k] e):=by unfold ca zd;cases (l[k].1 != e.1)<;>rfl
    have hO:(cond (l[k].1 != e.1) (some true) (some (l[k].2.1 != e.2.1)))=some (xj l[k] e):=by unfold xj;cases (l[k].1 != e.1)<;>rfl
    unfold cV;simp only[sG (show (k:Int)<(l.length:Int) by omega),cT,sa hk,rG,rW (show k<9223372036854775807 by omega),hA,hO,ha b e (by omega),ha b l[k] (by omega),ha (b++[e]) l[k] (by rw[length_append];show b.length+1<=_;omega)];cases t<;>cases zd l[k] e<;>rfl
   show ∃y,cV l e t (k:Int) b=_/\_;rw[hs];cases t with
   | false =>
    obtain⟨f1,f2⟩:=e4 rfl;subst f1;cases hah:zd l[k] e with
    | true =>
     have hl:=M7 hah;have ho:xj l[k] e=true:=by
      cases ho:xj l[k] e with
      | true=>rfl
      | false=>exact absurd (HY ho) (JL hl)
     rw[ho];refine⟨_,rfl,rfl,λx hx=>?_,?_,λ_=>⟨by show l.take k++[l[k]]=_;rw[htk],λx hx=>?_⟩,(λht=>by cases ht)⟩
     · have hx:x∈l.take k++[l[k]]:=hx;rcases mem_append.1 hx with hx|hx
       · exact e2 x hx
       · simp at hx;subst hx;exact hf
     · show (l.take k++[l[k]]).Pairwise lt;rw[←htk];exact List.Pairwise.sublist (List.take_sublist _ _) h.o
     · rw[htk]at hx;rcases mem_append.1 hx with hx|hx
       · exact f2 x hx
       · simp at hx;subst hx;exact hl
    | false =>
     have hge:=KY hah;have hpe:(l.take k++[e]).Pairwise lt:=AU e3 f2
     have hee:∀x∈l.take k++[e],wh x=true:=λx hx=>by
      rcases mem_append.1 hx with hx|hx
      · exact e2 x hx
      · simp at hx;subst hx;exact he
     have hlater:∀j (hj:j<l.length),k+1<=j->lt e l[j]:=λj hj hkj=>by
      have h1:=hlt k j hk hj (by omega);rcases hge with h2|h2
      · exact lt_trans h2 h1
      · unfold same at h2;unfold lt at h1 ⊢;omega
     have htl:∀x∈l.take k,∀j (hj:j<l.length),k+1<=j->lt x l[j]:=λx hx j hj hkj=>lt_trans (f2 x hx) (hlater j hj hkj);have hlen:(l.take k).length=k:=by rw[length_take];omega
     cases ho:xj l[k] e with
     | true =>
      have hek:lt e l[k]:=by
       rcases hge with h2|h2
       · exact h2
       · exact absurd h2 (C6 ho)
      refine⟨_,rfl,rfl,λx hx=>?_,?_,(λht=>by cases ht),λ_=>⟨λx hx j hj hkj=>?_,hlater,?_,λ⟨x,hx,hxe⟩=>?_⟩⟩
      · have hx:x∈l.take k++[e]++[l[k]]:=hx;rcases mem_append.1 hx with hx|hx
        · exact hee x hx
        · simp at hx;subst hx;exact hf
      · show (l.take k++[e]++[l[k]]).Pairwise lt;refine AU hpe λy hy=>?_;rcases mem_append.1 hy with hy|hy
        · exact lt_trans (f2 y hy) hek
        · simp at hy;subst hy;exact hek
      · have hx:x∈l.take k++[e]++[l[k]]:=hx;rcases mem_append.1 hx with hx|hx
        · rcases mem_append.1 hx with hx|hx
          · exact htl x hx j hj hkj
          · simp at hx;subst hx;exact hlater j hj hkj
        · simp at hx;subst hx;exact hlt k j hk hj (by omega)
      · show (l.take k++[e]++[l[k]]).length<=_;simp only[length_append,hlen,List.length_singleton];omega
      · rw[htk]at hx;rcases mem_append.1 hx with hx|hx
        · exact absurd hxe (JL (f2 x hx))
        · simp at hx;subst hx;exact absurd hxe (C6 ho)
     | false =>
      refine⟨_,rfl,rfl,hee,hpe,(λht=>by cases ht),λ_=>⟨λx hx j hj hkj=>?_,hlater,?_,λ_=>?_⟩⟩
      · have hx:x∈l.take k++[e]:=hx;rcases mem_append.1 hx with hx|hx
        · exact htl x hx j hj hkj
        · simp at hx;subst hx;exact hlater j hj hkj
      · show (l.take k++[e]).length<=_;simp only[length_append,hlen,List.length_singleton];omega
      · show (l.take k++[e]).length<=_;simp only[length_append,hlen,List.length_singleton];omega
   | true =>
    obtain⟨f1,f2,f3,f4⟩:=e5 rfl;cases ho:xj l[k] e with
    | true =>
     refine⟨_,rfl,rfl,λx hx=>?_,AU e3 λy hy=>f1 y hy k hk (Nat.le_refl _),(λht=>by cases ht),λ_=>⟨λx hx j hj hkj=>?_,λj hj hkj=>f2 j hj (by omega),?_,λ⟨x,hx,hxe⟩=>?_⟩⟩
     · have hx:x∈b++[l[k]]:=hx;rcases mem_append.1 hx with hx|hx
       · exact e2 x hx
       · simp at hx;subst hx;exact hf
     · have hx:x∈b++[l[k]]:=hx;rcases mem_append.1 hx with hx|hx
       · exact f1 x hx j hj (by omega)
       · simp at hx;subst hx;exact hlt k j hk hj (by omega)
     · show (b++[l[k]]).length<=_;rw[length_append];show b.length+1<=_;omega
     · show (b++[l[k]]).length<=_;rw[htk]at hx;rcases mem_append.1 hx with hx|hx
       · have:=f4 ⟨x,hx,hxe⟩;rw[length_append];show b.length+1<=_;omega
       · simp at hx;subst hx;exact absurd hxe (C6 ho)
    | false =>
     exact⟨_,rfl,rfl,e2,e3,(λht=>by cases ht),λ_=>⟨λx hx j hj hkj=>f1 x hx j hj (by omega),λj hj hkj=>f2 j hj (by omega),by show b.length<=_;omega,λ_=>by show b.length<=_;omega⟩⟩)
  (λz ⟨e1,e2,e3,e4,e5⟩=>by
   obtain⟨t,i,b⟩:=z;simp only at e1 e2 e3 e4 e5;subst e1;rw[take_length]at e4 e5;refine⟨(t,b),?_,e2,e3,e4,λht=>⟨(e5 ht).2.2.1,(e5 ht).2.2.2⟩⟩;show cV l e t _ b=_
   unfold cV;rw[sv (by omega),cF]) (x:=(false,0,[])) ⟨rfl,λx hx=>absurd hx not_mem_nil,List.Pairwise.nil,λ_=>⟨by simp,λx hx=>by simp at hx⟩,(λht=>by cases ht)⟩
 obtain⟨g1,g2,g3,g4⟩:=g;unfold ee;rw[hd,rG];obtain⟨t,b⟩:=d;simp only at g1 g2 g3 g4;cases t with
 | true =>
  refine⟨b,rfl,g1,g2,?_⟩;obtain⟨k1,k2⟩:=g4 rfl;rcases hroom with hr|hr
  · have:=k2 hr;omega
  · omega
 | false =>
  obtain⟨k1,k2⟩:=g3 rfl;have hr:l.length<12:=by
   rcases hroom with ⟨x,hx,hxe⟩|hr
   · exact absurd hxe (JL (k2 x hx))
   · exact hr
  show ∃y,((sf b [e]).bind λzs=>some zs)=some y/\FB y;rw[k1,rP (by show l.length+1<=_;omega),rG];refine⟨_,rfl,λx hx=>?_,AU h.o k2,by rw[length_append];show l.length+1<=12;omega⟩;rcases mem_append.1 hx with hx|hx
  · exact h.e x hx
  · simp at hx;subst hx;exact he
theorem OJ (e:rR):ci e=some (wh e):=by rw[Mz];exact JB e
theorem OK {l:List rR} (h:FB l) (tag mac port:Int):∃y,ft l tag mac port=some y/\FB y:=by
 have hn:=h.n;obtain⟨r,hr,hr2⟩:=Qd (l:=l) (by omega) tag mac;unfold ft;rw[hr,rG,Qc h,rG,OJ,rG,h.copy,rG,Bool.not_true,cF,rG];cases he:wh (tag,mac,port,0,false)with
 | false=>exact⟨_,rfl,h⟩
 | true =>
  rcases hr2 with ⟨rfl,hr2⟩|⟨k,hk,rfl,q1,q2⟩
  · rw[Bool.not_true,cF];by_cases hlen:l.length<12
    · obtain⟨y,hy,hy2⟩:=JM h he (.inr hlen);refine⟨y,?_,hy2⟩;rw[hy];show (cond (decide ((l.length:Int)>=12)) _ _)=_
      rw[dF (by omega)];rfl
    · refine⟨l,?_,h⟩;show (cond (decide ((l.length:Int)>=12)) _ _)=_
      rw[dT (by omega)];rfl
  · simp only[Bool.not_true,cF,dT (show (k:Int)>=0 by omega),cT,sa hk,rG,sv (show ¬(k:Int)<0 by omega)];obtain⟨y,hy,hy2⟩:=JM h he (.inl ⟨l[k],getElem_mem hk,q1,q2⟩);cases l[k].2.2.2.2 with
    | true=>exact⟨_,rfl,h⟩
    | false=>exact⟨y,by rw[hy];rfl,hy2⟩
theorem Nr {l:List rR} (h:FB l) (tag mac port:Int):∃y ok,eq l tag mac port=some (y,ok)/\FB y:=by
 have hn:=h.n;obtain⟨r,hr,hr2⟩:=Qd (l:=l) (by omega) tag mac;unfold eq;rw[hr,rG,Qc h,rG,OJ,rG,h.copy,rG,Bool.not_true,cF,rG];cases he:wh (tag,mac,port,0,true)with
 | false=>exact⟨_,_,rfl,h⟩
 | true =>
  rcases hr2 with ⟨rfl,hr2⟩|⟨k,hk,rfl,q1,q2⟩
  · rw[Bool.not_true,cF];by_cases hlen:l.length<12
    · obtain⟨y,hy,hy2⟩:=JM h he (.inr hlen);refine⟨y,true,?_,hy2⟩;rw[hy];show (cond (decide ((l.length:Int)>=12)) _ _)=_
      rw[dF (by omega)];rfl
    · refine⟨l,false,?_,h⟩;show (cond (decide ((l.length:Int)>=12)) _ _)=_
      rw[dT (by omega)];rfl
  · rw[Bool.not_true,cF,sv (show ¬(k:Int)<0 by omega),cF,rG];obtain⟨y,hy,hy2⟩:=JM h he (.inl ⟨l[k],getElem_mem hk,q1,q2⟩);rw[rG,cF,hy];exact⟨y,true,rfl,hy2⟩

theorem QG {id n:Nat} (i1:1<=id) (i2:id<=99) (h1:1<=n) (h6:n<=6):∃ps rs qs,eh (id:Int) (n:Int)=some ((id:Int),[],ps,[],rs,qs,0,0,0,0,0):=by
 have hin:rM (n:Int) 1 6=true:=by unfold rM;rw[dT (by omega),dT (by omega)];rfl
 have hid:rM (id:Int) 1 99=true:=by unfold rM;rw[dT (by omega),dT (by omega)];rfl
 obtain⟨d,hd,ps,rfl⟩:=se (step:=λz:Int×Int×List UInt8×Int×Int×Int×Int×Int×List Pt×List rR=>cX (n:Int) z.1 z.2.1 z.2.2.1 z.2.2.2.1 z.2.2.2.2.1 z.2.2.2.2.2.1 z.2.2.2.2.2.2.1 z.2.2.2.2.2.2.2.1 z.2.2.2.2.2.2.2.2.1 z.2.2.2.2.2.2.2.2.2)
  (λk z=>∃ps:List Pt,ps.length=k/\z=((k:Int),(id:Int),[],0,0,0,0,0,ps,[])) n (λd=>∃ps:List Pt,d=((id:Int),[],0,0,0,0,0,ps,[]))
  (λk z hk ⟨ps,hp,e⟩=>by
   subst e;left;refine⟨(((k+1:Nat):Int),(id:Int),[],0,0,0,0,0,ps++[(false,1,false,0,0,0,0,0)],[]),?_,ps++[(false,1,false,0,0,0,0,0)],by simp;exact hp,rfl⟩;show cX (n:Int) (k:Int) (id:Int) [] 0 0 0 0 0 ps []=_
   unfold cX;rw[sG (by omega),cT,rP (by show ps.length+1<=_;omega),rG,rW (by omega)])
  (λz ⟨ps,hp,e⟩=>by
   subst e;refine⟨((id:Int),[],0,0,0,0,0,ps,[]),?_,ps,rfl⟩;show cX (n:Int) _ (id:Int) [] 0 0 0 0 0 ps []=_
   unfold cX;rw[sv (by omega),cF]) (x:=(0,(id:Int),[],0,0,0,0,0,[],[])) ⟨[],rfl,rfl⟩
 unfold eh;rw[xP,rG,hid,Bool.not_true,cF,xP,rG,hin,rG,Bool.not_true,cF,OH h1 h6,rG,hd,rG];exact⟨_,_,_,rfl⟩
theorem OL {c:sc} (h:CW c):∃c' x,de c=some (c',x)/\CW c':=by
 obtain⟨c1,x,e,w,_⟩:=C5 h (l:=[11,12,13,14]) (by decide);unfold de;rw[e,rG];exact⟨_,_,rfl,w⟩
def OM (b:rI):Prop:=b.2.2.2.2.2.2.2.1=0/\b.2.2.2.2.2.2.2.2.1=0/\b.2.2.2.2.2.2.2.2.2.1=0
theorem Ns {c:sc} (h:CW c):∃c' b,fw c=some (c',b)/\CW c'/\wI b/\sO b=true/\OM b:=by
 obtain⟨c1,p,e1,w1,b1⟩:=uI h (n:=4) (by decide);obtain⟨c2,q,e2,w2,b2⟩:=uI w1 (n:=5) (by decide);have e1':aa c 4=some (c1,(p:Int)):=e1
 have e2':aa c1 5=some (c2,(q:Int)):=e2;have hp:rJ (1+(p:Int))=((p+1:Nat):Int):=by rw[sg (by omega) (by omega)];omega
 have hq:rJ (1+(q:Int))=((q+1:Nat):Int):=by rw[sg (by omega) (by omega)];omega
 obtain⟨ps,rs,qs,e3⟩:=QG (id:=q+1) (n:=p+1) (by omega) (by omega) (by omega) (by omega);obtain⟨c4,name,e4,w4,b4⟩:=M6 w2 (l:=[[],[121,97,114,100],[98,49]]) (by decide);obtain⟨c5,pts,e5,w5,l5,a5⟩:=OI w4 (n:=p+1) (by omega);obtain⟨c6,v,e6,w6,a6⟩:=PV w5 (n:=p+1) (by omega) (by omega);obtain⟨c7,m,e7,w7,b7⟩:=uI w6 (n:=6) (by decide);have e7':aa c6 6=some (c7,(m:Int)):=e7
 have hname:name.length<=10:=by
  have:∀x∈([[],[121,97,114,100],[98,49]]:List (List UInt8)),x.length<=10:=by decide
  exact this name b4
 obtain⟨d,hd,g1,g2,g3,g4⟩:=se (step:=λz:Int×List Int×Int×Int×Int×List UInt8×Int×Int×Int×Int×Int×List rR=>dg (c1,(p:Int)) z.1 z.2.1 z.2.2.1 z.2.2.2.1 z.2.2.2.2.1 z.2.2.2.2.2.1 z.2.2.2.2.2.2.1 z.2.2.2.2.2.2.2.1 z.2.2.2.2.2.2.2.2.1 z.2.2.2.2.2.2.2.2.2.1 z.2.2.2.2.2.2.2.2.2.2.1 z.2.2.2.2.2.2.2.2.2.2.2)
  (λk z=>z.1=(m:Int)-(k:Int)/\CW (z.2.1,z.2.2.1,z.2.2.2.1)/\(z.2.2.2.2.1=((q+1:Nat):Int)/\z.2.2.2.2.2.1=name)/\(z.2.2.2.2.2.2.1,z.2.2.2.2.2.2.2.1,z.2.2.2.2.2.2.2.2.1,z.2.2.2.2.2.2.2.2.2.1,z.2.2.2.2.2.2.2.2.2.2.1)=((0:Int),(0:Int),(0:Int),(0:Int),(0:Int))/\FB z.2.2.2.2.2.2.2.2.2.2.2) m
  (λd=>CW (d.1,d.2.1,d.2.2.1)/\(d.2.2.2.1=((q+1:Nat):Int)/\d.2.2.2.2.1=name)/\(d.2.2.2.2.2.1,d.2.2.2.2.2.2.1,d.2.2.2.2.2.2.2.1,d.2.2.2.2.2.2.2.2.1,d.2.2.2.2.2.2.2.2.2.1)=((0:Int),(0:Int),(0:Int),(0:Int),(0:Int))/\FB d.2.2.2.2.2.2.2.2.2.2)
  (λk z hk ⟨a1,a2,a3,a4,a5⟩=>by
   obtain⟨i,x,y,s,bid,nm,n6,n7,n8,n9,n10,f⟩:=z;simp only at a1 a2 a3 a4 a5;left;show ∃y',dg (c1,(p:Int)) i x y s bid nm n6 n7 n8 n9 n10 f=_/\_
   unfold dg;have hi:decide (i>0)=true:=dT (by omega)
   have hw:rJ (i-1)=(m:Int)-((k+1:Nat):Int):=by rw[sg (by omega) (by omega)];omega
   obtain⟨d1,r1,f1,v1,_⟩:=wU a2 3;obtain⟨d2,r2,f2,v2⟩:=OL v1;obtain⟨d3,r3,f3,v3,_⟩:=wU v2 (rJ (1+(p:Int)));obtain⟨y',f4,g4⟩:=OK a5 (rJ (1+r1)) r2 r3;rw[hi,cT,f1,rG,f2,rG,f3,rG,f4,rG,hw];exact⟨_,rfl,rfl,v3,a3,a4,g4⟩)
  (λz ⟨a1,a2,a3,a4,a5⟩=>by
   obtain⟨i,x,y,s,bid,nm,n6,n7,n8,n9,n10,f⟩:=z;simp only at a1 a2 a3 a4 a5;refine⟨(x,y,s,bid,nm,n6,n7,n8,n9,n10,f),?_,a2,a3,a4,a5⟩;show dg (c1,(p:Int)) i x y s bid nm n6 n7 n8 n9 n10 f=_
   unfold dg;have hi:decide (i>0)=false:=dF (by omega)
   rw[hi,cF]) (x:=((m:Int),c7.1,c7.2.1,c7.2.2,((q+1:Nat):Int),name,0,0,0,0,0,[])) ⟨by simp,w7,⟨rfl,rfl⟩,rfl,⟨λx hx=>absurd hx not_mem_nil,List.Pairwise.nil,by simp⟩⟩
 obtain⟨dc,dp,ds,did,dn,n6,n7,n8,n9,n10,df⟩:=d;simp only at g1 g2 g3 g4;obtain⟨rfl,rfl⟩:=g2;simp only[Prod.mk.injEq]at g3;obtain⟨rfl,rfl,rfl,rfl,rfl⟩:=g3;obtain⟨c8,st,e8,w8⟩:=EL g1 3;obtain⟨z1,z2,z3,z4⟩:=a6.len;have hin:∀n:Nat,n<=1000000->rM (n:Int) 0 1000000=true:=λn hn=>by unfold rM;rw[dT (by omega),dT (by omega)];rfl
 have hlast:∀(c:sc) (F:List rR),CW c->FB F->∃c' b,((aa c 5).bind λt59=>(ai t59.1 ([0,1,5,1000000]:List Int)).bind λt63=>some (t63.1,((((q+1:Nat):Int),dn,pts,F,v.1,v.2,t59.2,0,0,0,t63.2):rI)))=some (c',b)/\CW c'/\wI b/\sO b=true/\OM b:=by
  intro c F hc hF;obtain⟨k1,t,f1,u1,b1⟩:=uI hc (n:=5) (by decide);have f1':aa c 5=some (k1,(t:Int)):=f1
  obtain⟨k2,x,f2,u2,b2⟩:=C5 u1 (l:=[0,1,5,1000000]) (by decide);have hx:rM x 0 1000000=true:=by
   have:∀x∈([0,1,5,1000000]:List Int),rM x 0 1000000=true:=by decide
   exact this x b2
  have hFn:=hF.n;rw[f1',rG,f2,rG];refine⟨_,_,rfl,u2,⟨by show pts.length<_;omega,by show F.length<_;omega,by show v.1.length<_;omega,by show v.2.length<_;omega,a6.r⟩,?_,rfl,rfl,rfl⟩;unfold sO ux;show (!((List.range pts.length).any (AC pts))&&(rM ((q+1:Nat):Int) 1 99&&(!(decide ((dn.length:Int)>10))&&(rM (pts.length:Int) 1 6&&(xu F&&(vc v (pts.length:Int)&&(rM (t:Int) 0 1000000&&(rM 0 0 1000000&&(rM 0 0 1000000&&(rM 0 0 1000000&&rM x 0 1000000))))))))))=true
  have q1:(List.range pts.length).any (AC pts)=false:=by
   apply Bool.eq_false_iff.2;intro ha;obtain⟨k,hk,hx⟩:=any_eq_true.1 ha;have hk:=mem_range.1 hk
   unfold AC at hx;simp only[List.getElem?_eq_getElem hk,a5 _ (getElem_mem hk)]at hx
   revert hx;decide
  have q2:rM ((q+1:Nat):Int) 1 99=true:=by unfold rM;rw[dT (by omega),dT (by omega)];rfl
  have q3:decide ((dn.length:Int)>10)=false:=dF (by omega);have q4:rM (pts.length:Int) 1 6=true:=by unfold rM;rw[dT (by omega),dT (by omega)];rfl
  rw[q1,q2,q3,q4,hF.ok,l5,a6.p,hin t (by omega),hx];rfl
 have e8':bb (dc,dp,ds) 3=some (c8,st):=e8;unfold fw;rw[e1',rG];show ∃c' b,((aa c1 5).bind _)=_/\_
 rw[e2',rG];show ∃c' b,((eh (rJ (1+(q:Int))) (rJ (1+(p:Int)))).bind _)=_/\_
 rw[hp,hq,e3,rG,e4,rG];show ∃c' b,((ei c4 ((p+1:Nat):Int)).bind _)=_/\_
 rw[e5,rG];show ∃c' b,((ep c5 ((p+1:Nat):Int)).bind _)=_/\_
 rw[e6,rG];show ∃c' b,((aa c6 6).bind _)=_/\_
 rw[e7',rG];show ∃c' b,((loop _ ((m:Int),c7.1,c7.2.1,c7.2.2,((q+1:Nat):Int),dn,0,0,0,0,0,[])).bind _)=_/\_
 rw[hd,rG];show ∃c' b,((bb (dc,dp,ds) 3).bind _)=_/\_
 rw[e8',rG];cases st with
 | false =>
  show ∃c' b,((aa c8 5).bind _)=_/\_;exact hlast c8 df w8 g4
 | true =>
  obtain⟨k1,x1,f1,u1⟩:=OL w8;obtain⟨k2,x2,f2,u2,_⟩:=wU u1 ((p+1:Nat):Int);obtain⟨F,ok,f3,hF⟩:=Nr g4 1 x1 x2;show ∃c' b,((de c8).bind _)=_/\_
  rw[f1,rG];show ∃c' b,((aa k1 ((p+1:Nat):Int)).bind _)=_/\_
  rw[f2,rG];show ∃c' b,((eq df 1 x1 x2).bind _)=_/\_
  rw[f3,rG];exact hlast k2 F u2 hF
theorem Hx {α β:Type} (l:List α) (i:Int) (f:α->Option β):((ix l.length i).bind λj=>(l[j]?).bind f)=(at? l i).bind f:=by
 unfold ix at?;by_cases h0:0<=i
 · rw[if_pos h0,if_pos h0];by_cases h1:i<(l.length:Int)
   · rw[if_pos h1,rG]
   · rw[if_neg h1,List.getElem?_eq_none (by omega)];rfl
 · rw[if_neg h0,if_neg h0];rfl
noncomputable def C7 (b:rI) (c p:Int):Int:=(bU b c p).getD 0
def num (name:List Int) (n:Int):rK:=([1,3,1]++name,2,n,[],[])
def CV (r:s5) (c:Nat):Int:=match c with|0=>1|1=>r.2.1|_=>r.2.2
noncomputable def uS (b:rI) (c:Nat):List rK:=(List.range b.2.2.1.length).map λk=>num [2,((c+1:Nat):Int),((k+1:Nat):Int)] (C7 b ((c+1:Nat):Int) (k:Int))
def vS (b:rI) (c:Nat):List rK:=b.2.2.2.2.1.map λr=>num [3,((c+1:Nat):Int),r.1] (CV r c)
def Be (b:rI):List rK:=b.2.2.2.1.map λe=>num [4,1,e.1,e.2.1] (rJ (e.2.2.1+1))
noncomputable def uE (b:rI):List rK:=yw b++(List.range 4).flatMap (uS b)++(List.range 3).flatMap (vS b)++Be b
theorem DY {out:List rK} (name:List Int) (n i:Int) (h1:out.length<=900) (h2:name.length<=900):((aY n).bind λv=>(aG v name).bind λt=>(sf out [t]).bind λzs=>some (Sum.inl (rJ (i+1),zs):(Int×List rK)⊕List rK))=some (Sum.inl (rJ (i+1),out++[num name n])):=by
 unfold aY aG;rw[rG,rP (by show 3+name.length<=_;omega),rG,rG,rP (by show out.length+1<=_;omega),rG];rfl
theorem PW {b:rI} (h:wI b) (hq:b.2.2.1.length=b.2.2.2.2.2.1.length) (h6:b.2.2.1.length<=6) (c:Nat) (out:List rK) (ho:out.length<=500):loop (λz=>bA b ((c+1:Nat):Int) z.1 z.2) (0,out)=some (out++uS b c):=by
 obtain⟨v,h1,rfl⟩:=se (step:=λz:Int×List rK=>bA b ((c+1:Nat):Int) z.1 z.2) (λk z=>z.1=(k:Int)/\z.2=out++(List.range k).map λk=>num [2,((c+1:Nat):Int),((k+1:Nat):Int)] (C7 b ((c+1:Nat):Int) (k:Int))) b.2.2.1.length (λv=>v=out++uS b c)
  (λk z hk ⟨e1,e2⟩=>by
   obtain⟨i,l⟩:=z;simp only at e1 e2;subst e1;left;obtain⟨n,hn⟩:=PM h ((c+1:Nat):Int) hk hq;have hv:C7 b ((c+1:Nat):Int) (k:Int)=n:=by unfold C7;rw[hn];rfl
   have hl:l.length<=900:=by rw[e2];simp;omega
   refine⟨(((k+1:Nat):Int),l++[num [2,((c+1:Nat):Int),((k+1:Nat):Int)] n]),?_,rfl,?_⟩
   · show bA b ((c+1:Nat):Int) (k:Int) l=_;unfold bA;rw[sG (by omega),cT,hn,rG,DY _ _ _ hl (by simp),rW (by omega)]
   · show l++[num _ n]=_;rw[e2,range_succ,map_append,←append_assoc,List.map_singleton,hv])
  (λz ⟨e1,e2⟩=>by
   obtain⟨i,l⟩:=z;simp only at e1 e2;subst e1;refine⟨l,?_,e2⟩;show bA b ((c+1:Nat):Int) _ l=_
   unfold bA;rw[sv (by omega),cF]) (x:=(0,out)) ⟨rfl,by simp⟩
 exact h1
theorem ON {b:rI} (h:wI b) (hq:b.2.2.1.length=b.2.2.2.2.2.1.length) (h6:b.2.2.1.length<=6) (out:List rK) (ho:out.length<=100):loop (λz=>bV b z.1 z.2) (1,out)=some (out++(List.range 4).flatMap (uS b)):=by
 have hg:∀c,(uS b c).length<=6:=λc=>by unfold uS;rw[length_map,List.length_range];exact h6
 obtain⟨v,h1,rfl⟩:=se (step:=λz:Int×List rK=>bV b z.1 z.2) (λk z=>z.1=((k+1:Nat):Int)/\z.2=out++(List.range k).flatMap (uS b)/\z.2.length<=100+6*k) 4 (λv=>v=out++(List.range 4).flatMap (uS b))
  (λk z hk ⟨e1,e2,e3⟩=>by
   obtain⟨i,l⟩:=z;simp only at e1 e2 e3;subst e1;left;have hg':=hg k
   refine⟨(((k+1+1:Nat):Int),l++uS b k),?_,rfl,?_,by show (l++uS b k).length<=_;rw[length_append];omega⟩
   · show bV b ((k+1:Nat):Int) l=_;unfold bV;rw[dT (show ((k+1:Nat):Int)<=4 by omega),cT,PW h hq h6 k l (by omega),rG,rW (by omega)]
   · show l++uS b k=_;rw[e2,range_succ,List.flatMap_append,←append_assoc];simp)
  (λz ⟨e1,e2,e3⟩=>by
   obtain⟨i,l⟩:=z;simp only at e1 e2 e3;subst e1;exact⟨l,rfl,e2⟩) (x:=(1,out)) ⟨rfl,by simp,by show out.length<=_;omega⟩
 exact h1
theorem QH {b:rI} (h6:b.2.2.2.2.1.length<=6) {c:Nat} (hc:c<3) (out:List rK) (ho:out.length<=500):loop (λz=>bB b ((c+1:Nat):Int) z.1 z.2) (0,out)=some (out++vS b c):=by
 obtain⟨v,h1,rfl⟩:=se (step:=λz:Int×List rK=>bB b ((c+1:Nat):Int) z.1 z.2) (λk z=>z.1=(k:Int)/\z.2=out++(b.2.2.2.2.1.take k).map λr=>num [3,((c+1:Nat):Int),r.1] (CV r c)) b.2.2.2.2.1.length (λv=>v=out++vS b c)
  (λk z hk ⟨e1,e2⟩=>by
   obtain⟨i,l⟩:=z;simp only at e1 e2;subst e1;left;have hl:l.length<=900:=by rw[e2];simp;omega
   refine⟨(((k+1:Nat):Int),l++[num [3,((c+1:Nat):Int),b.2.2.2.2.1[k].1] (CV b.2.2.2.2.1[k] c)]),?_,rfl,?_⟩
   · show bB b ((c+1:Nat):Int) (k:Int) l=_;unfold bB;rw[sG (by omega),cT,sa hk,rG];generalize b.2.2.2.2.1[k]=r;have hw:rJ (((c+1:Nat):Int)-1)=(c:Int):=by rw[sg (by omega) (by omega)];omega
     have hx:(ix [1,r.2.1,r.2.2].length (rJ (((c+1:Nat):Int)-1))).bind (λj91=>([1,r.2.1,r.2.2][j91]?).bind λx92=>(aY x92).bind λt93=>(aG t93 [3,((c+1:Nat):Int),r.1]).bind λt98=>(sf l [t98]).bind λzs100=>some (Sum.inl (rJ ((k:Int)+1),zs100):(Int×List rK)⊕List rK))=(aY (CV r c)).bind λt93=>(aG t93 [3,((c+1:Nat):Int),r.1]).bind λt98=>(sf l [t98]).bind λzs100=>some (Sum.inl (rJ ((k:Int)+1),zs100)):=by
      rw[hw,vk (show c<[1,r.2.1,r.2.2].length from hc),rG];rcases (show c=0\/c=1\/c=2 by omega)with rfl|rfl|rfl<;>rfl
     rw[hx,DY _ _ _ hl (by simp),rW (by omega)]
   · show l++[num _ _]=_;rw[e2,take_add_one,List.getElem?_eq_getElem hk,map_append,←append_assoc];rfl)
  (λz ⟨e1,e2⟩=>by
   obtain⟨i,l⟩:=z;simp only at e1 e2;subst e1;rw[take_length]at e2;refine⟨l,?_,e2⟩;show bB b ((c+1:Nat):Int) _ l=_
   unfold bB;rw[sv (by omega),cF]) (x:=(0,out)) ⟨rfl,by simp⟩
 exact h1
theorem PX {b:rI} (h6:b.2.2.2.2.1.length<=6) (out:List rK) (ho:out.length<=200):loop (λz=>bW b z.1 z.2) (1,out)=some (out++(List.range 3).flatMap (vS b)):=by
 have hg:∀c,(vS b c).length<=6:=λc=>by unfold vS;rw[length_map];exact h6
 obtain⟨v,h1,rfl⟩:=se (step:=λz:Int×List rK=>bW b z.1 z.2) (λk z=>z.1=((k+1:Nat):Int)/\z.2=out++(List.range k).flatMap (vS b)/\z.2.length<=200+6*k) 3 (λv=>v=out++(List.range 3).flatMap (vS b))
  (λk z hk ⟨e1,e2,e3⟩=>by
   obtain⟨i,l⟩:=z;simp only at e1 e2 e3;subst e1;left;have hg':=hg k
   refine⟨(((k+1+1:Nat):Int),l++vS b k),?_,rfl,?_,by show (l++vS b k).length<=_;rw[length_append];omega⟩
   · show bW b ((k+1:Nat):Int) l=_;unfold bW;rw[dT (show ((k+1:Nat):Int)<=3 by omega),cT,QH h6 hk l (by omega),rG,rW (by omega)]
   · show l++vS b k=_;rw[e2,range_succ,List.flatMap_append,←append_assoc];simp)
  (λz ⟨e1,e2,e3⟩=>by
   obtain⟨i,l⟩:=z;simp only at e1 e2 e3;subst e1;exact⟨l,rfl,e2⟩) (x:=(1,out)) ⟨rfl,by simp,by show out.length<=_;omega⟩
 exact h1
theorem QI {b:rI} (h12:b.2.2.2.1.length<=12) (out:List rK) (ho:out.length<=500):loop (λz=>bo b z.1 z.2) (0,out)=some (out++Be b):=by
 obtain⟨v,h1,rfl⟩:=se (step:=λz:Int×List rK=>bo b z.1 z.2) (λk z=>z.1=(k:Int)/\z.2=out++(b.2.2.2.1.take k).map λe=>num [4,1,e.1,e.2.1] (rJ (e.2.2.1+1))) b.2.2.2.1.length (λv=>v=out++Be b)
  (λk z hk ⟨e1,e2⟩=>by
   obtain⟨i,l⟩:=z;simp only at e1 e2;subst e1;left;have hl:l.length<=900:=by rw[e2];simp;omega
   refine⟨(((k+1:Nat):Int),l++[num [4,1,b.2.2.2.1[k].1,b.2.2.2.1[k].2.1] (rJ (b.2.2.2.1[k].2.2.1+1))]),?_,rfl,?_⟩
   · show bo b (k:Int) l=_;unfold bo;rw[sG (by omega),cT,sa hk,rG,DY _ _ _ hl (by simp),rW (by omega)]
   · show l++[num _ _]=_;rw[e2,take_add_one,List.getElem?_eq_getElem hk,map_append,←append_assoc];rfl)
  (λz ⟨e1,e2⟩=>by
   obtain⟨i,l⟩:=z;simp only at e1 e2;subst e1;rw[take_length]at e2;refine⟨l,?_,e2⟩;show bo b _ l=_
   unfold bo;rw[sv (by omega),cF]) (x:=(0,out)) ⟨rfl,by simp⟩
 exact h1
structure sT (b:rI):Prop where
 w:wI b
 ok:sO b=true
 p:∀x∈b.2.2.1,yH x=true
 id:rM b.1 1 99=true
 name:b.2.1.length<=10
 n1:1<=b.2.2.1.length
 n6:b.2.2.1.length<=6
 f:xu b.2.2.2.1=true
 v:vc (b.2.2.2.2.1,b.2.2.2.2.2.1) (b.2.2.1.length:Int)=true
 c:ux b=true
theorem G0 {b:rI} (h:wI b) (hb:sO b=true):sT b:=by
 have hb':=hb;unfold sO at hb;simp only[aT,Bool.not_eq_true',decide_eq_false_iff_not]at hb;obtain⟨h1,h2,h3,h4,h5,h6,h7⟩:=hb;refine⟨h,hb',λx hx=>?_,h2,by omega,?_,?_,h5,h6,h7⟩
 · obtain⟨k,hk,rfl⟩:=getElem_of_mem hx;cases hp:yH b.2.2.1[k]with
   | true=>rfl
   | false =>
    have:=any_eq_false.1 h1 k (mem_range.2 hk);unfold AC at this;simp only[List.getElem?_eq_getElem hk,hp]at this;exact absurd rfl this
 · unfold rM at h4;simp only[aT,decide_eq_true_eq]at h4;omega
 · unfold rM at h4;simp only[aT,decide_eq_true_eq]at h4;omega
theorem sT.vt {b:rI} (h:sT b):VT (b.2.2.2.2.1,b.2.2.2.2.2.1) b.2.2.1.length:=⟨h.v,h.w.r⟩
theorem sT.f12 {b:rI} (h:sT b):b.2.2.2.1.length<=12:=by
 have hf:=h.f;unfold xu at hf;simp only[aT,decide_eq_true_eq]at hf;omega
theorem M8 {b:rI} (h:sT b):bC b=some (uE b):=by
 obtain⟨v1,v2,v3,v4⟩:=h.vt.len;have v3':b.2.2.2.2.2.1.length=b.2.2.1.length:=v3
 have v4':b.2.2.2.2.1.length<=6:=v4;have hp:((List.range 4).flatMap (uS b)).length<=24:=by
  have hg:∀c,(uS b c).length<=6:=λc=>by unfold uS;rw[length_map,List.length_range];exact h.n6
  have h0:=hg 0;have h1:=hg 1;have h2:=hg 2;have h3:=hg 3
  show (uS b 0++(uS b 1++(uS b 2++(uS b 3++[])))).length<=24;simp only[length_append,length_nil];omega
 have hr:((List.range 3).flatMap (vS b)).length<=18:=by
  have hg:∀c,(vS b c).length<=6:=λc=>by unfold vS;rw[length_map];exact v4'
  have h0:=hg 0;have h1:=hg 1;have h2:=hg 2
  show (vS b 0++(vS b 1++(vS b 2++[]))).length<=18;simp only[length_append,length_nil];omega
 have k5:(yw b).length=5:=rfl;rw[Ox h.w,h.ok,Bool.not_true,cF];unfold Dl;rw[ON h.w v3'.symm h.n6 (yw b) (by omega),rG,PX v4' _ (by rw[length_append];omega),rG,QI h.f12 _ (by rw[length_append,length_append];omega),rG];rfl

theorem DZ {α:Type} {R:α->α->Prop} (tr:∀a b c,R a b->R b c->R a c) {l:List α} (h:∀k (hk:k+1<l.length),R l[k] l[k+1]):l.Pairwise R:=by
 rw[pairwise_iff_getElem];intro i j hi hj hij
 induction j with
 | zero=>omega
 | succ j ih =>
  by_cases e:i=j
  · subst e;exact h i hj
  · exact tr _ _ _ (ih (by omega) (by omega)) (h j hj)
def E0 (g c:Int) (x:rK):Prop:=∃t,x.1=1::3::1::g::c::t
theorem zn {g c g' c':Int} {x y:rK} (hx:E0 g c x) (hy:E0 g' c' y) (h:g<g'\/(g=g'/\c<c')):x.1<y.1:=by
 obtain⟨t,ht⟩:=hx;obtain⟨s,hs⟩:=hy;rw[ht,hs];simp only[cons_lt_cons_iff,Int.lt_irrefl,false_or,true_and];rcases h with h|⟨h,k⟩
 · exact .inl h
 · exact .inr ⟨h,.inl k⟩
theorem A2 {b:rI} {c:Nat} {x:rK} (h:x∈uS b c):E0 2 ((c+1:Nat):Int) x:=by
 unfold uS at h;obtain⟨k,_,rfl⟩:=mem_map.1 h;exact⟨_,rfl⟩
theorem AW {b:rI} {c:Nat} {x:rK} (h:x∈vS b c):E0 3 ((c+1:Nat):Int) x:=by
 unfold vS at h;obtain⟨k,_,rfl⟩:=mem_map.1 h;exact⟨_,rfl⟩
theorem CX {b:rI} {x:rK} (h:x∈Be b):E0 4 1 x:=by
 unfold Be at h;obtain⟨k,_,rfl⟩:=mem_map.1 h;exact⟨_,rfl⟩
theorem CY {b:rI} {x:rK} (h:x∈yw b):∃c,E0 1 c x:=by
 unfold yw at h;simp only[mem_cons,not_mem_nil,or_false]at h;rcases h with rfl|rfl|rfl|rfl|rfl<;>exact⟨_,_,rfl⟩
theorem JN (b:rI) (c:Nat):(uS b c).Pairwise λx y=>x.1<y.1:=by
 unfold uS;rw[List.pairwise_map];refine List.Pairwise.imp ?_ List.pairwise_lt_range;intro i j h;show (1::3::1::2::((c+1:Nat):Int)::((i+1:Nat):Int)::[])<(1::3::1::2::((c+1:Nat):Int)::((j+1:Nat):Int)::[])
 simp only[cons_lt_cons_iff,Int.lt_irrefl,false_or,true_and];exact .inl (by omega)
theorem G3 {b:rI} (h:sT b):b.2.2.2.2.1.Pairwise λr s=>r.1<s.1:=by
 refine DZ (R:=λ(r s:s5)=>r.1<s.1) (λ_ _ _ h k=>Int.lt_trans h k) λk hk=>?_;have hv:=h.v
 unfold vc at hv;simp only[aT,Bool.not_eq_true']at hv;have hx:=any_eq_false.1 hv.2.1 (k+1) (mem_range.2 hk)
 unfold yv at hx;simp only[List.getElem?_eq_getElem hk,Nat.add_sub_cancel,List.getElem?_eq_getElem (show k<b.2.2.2.2.1.length by omega),Bool.or_eq_true,aT,decide_eq_true_eq,not_or,not_and]at hx;have:=hx.2.1 (by omega)
 omega
theorem KZ {b:rI} (h:sT b) (c:Nat):(vS b c).Pairwise λx y=>x.1<y.1:=by
 unfold vS;rw[List.pairwise_map];refine List.Pairwise.imp ?_ (G3 h);intro r s h;show (1::3::1::3::((c+1:Nat):Int)::r.1::[])<(1::3::1::3::((c+1:Nat):Int)::s.1::[])
 simp only[cons_lt_cons_iff,Int.lt_irrefl,false_or,true_and];exact .inl h
theorem M9 {b:rI} (h:sT b):b.2.2.2.1.Pairwise lt:=by
 refine DZ (R:=lt) (λ_ _ _=>lt_trans) λk hk=>?_;have hv:=h.f
 unfold xu at hv;simp only[aT,Bool.not_eq_true']at hv;have hx:=any_eq_false.1 hv.1 (k+1) (mem_range.2 hk)
 unfold xz at hx;simp only[List.getElem?_eq_getElem hk,Nat.add_sub_cancel,List.getElem?_eq_getElem (show k<b.2.2.2.1.length by omega),Bool.or_eq_true,aT,decide_eq_true_eq,not_or,not_and,Bool.not_eq_true',Bool.not_eq_false]at hx;have hp:=hx.2 (by omega)
 unfold yI at hp;simp only[Bool.or_eq_true,aT,decide_eq_true_eq,beq_iff_eq]at hp;unfold lt;omega
theorem Ma {b:rI} (h:sT b):(Be b).Pairwise λx y=>x.1<y.1:=by
 unfold Be;rw[List.pairwise_map];refine List.Pairwise.imp ?_ (M9 h);intro r s h;show (1::3::1::4::1::r.1::r.2.1::[])<(1::3::1::4::1::s.1::s.2.1::[])
 unfold lt at h;simp only[cons_lt_cons_iff,Int.lt_irrefl,false_or,true_and];rcases h with h|⟨h,k⟩
 · exact .inl h
 · exact .inr ⟨h,.inl k⟩
theorem L7 (b:rI):(yw b).Pairwise λx y=>x.1<y.1:=by
 unfold yw;simp only[pairwise_cons,mem_cons,not_mem_nil,or_false,forall_eq_or_imp,forall_eq,List.Pairwise.nil,and_true,false_imp_iff,implies_true,cons_lt_cons_iff,Int.lt_irrefl,false_or,true_and];refine⟨⟨.inl (by decide),.inl (by decide),.inl (by decide),.inl (by decide)⟩,⟨.inl (by decide),.inl (by decide),.inl (by decide)⟩,⟨.inl (by decide),.inl (by decide)⟩,.inl (by decide)⟩
theorem PY {α:Type} (f:Nat->List α):(List.range 4).flatMap f=f 0++(f 1++(f 2++(f 3++[]))):=rfl
theorem PZ {α:Type} (f:Nat->List α):(List.range 3).flatMap f=f 0++(f 1++(f 2++[])):=rfl
theorem EM {n:Nat} {f:Nat->List rK} {g:Int} (hp:∀c,(f c).Pairwise λx y=>x.1<y.1) (hh:∀c x,x∈f c->E0 g ((c+1:Nat):Int) x):((List.range n).flatMap f).Pairwise λx y=>x.1<y.1:=by
 induction n with
 | zero=>exact List.Pairwise.nil
 | succ n ih =>
  rw[range_succ,List.flatMap_append,pairwise_append];refine⟨ih,by simp;exact hp n,λx hx y hy=>?_⟩;obtain⟨c,hc,hx⟩:=mem_flatMap.1 hx;have hc:=mem_range.1 hc
  simp at hy;exact zn (hh c x hx) (hh n y hy) (.inr ⟨rfl,by omega⟩)
theorem Mb {b:rI} (h:sT b):(uE b).Pairwise λx y=>x.1<y.1:=by
 unfold uE;rw[pairwise_append,pairwise_append,pairwise_append];refine⟨⟨⟨L7 b,EM (JN b) (λc x=>A2),λx hx y hy=>?_⟩,EM (KZ h) (λc x=>AW),λx hx y hy=>?_⟩,Ma h,λx hx y hy=>?_⟩
 · obtain⟨c,hc⟩:=CY hx;obtain⟨d,_,hy⟩:=mem_flatMap.1 hy;exact zn hc (A2 hy) (.inl (by decide))
 · obtain⟨d,_,hy⟩:=mem_flatMap.1 hy;rcases mem_append.1 hx with hx|hx
   · obtain⟨c,hc⟩:=CY hx;exact zn hc (AW hy) (.inl (by decide))
   · obtain⟨e,_,hx⟩:=mem_flatMap.1 hx;exact zn (A2 hx) (AW hy) (.inl (by decide))
 · rcases mem_append.1 hx with hx|hx
   · rcases mem_append.1 hx with hx|hx
     · obtain⟨c,hc⟩:=CY hx;exact zn hc (CX hy) (.inl (by decide))
     · obtain⟨e,_,hx⟩:=mem_flatMap.1 hx;exact zn (A2 hx) (CX hy) (.inl (by decide))
   · obtain⟨e,_,hx⟩:=mem_flatMap.1 hx;exact zn (AW hx) (CX hy) (.inl (by decide))
theorem OO (p s t:List Int) {x y:Int} (h:x≠y):(p++x::s<p++y::t)↔x<y:=by
 induction p with
 | nil =>
  simp only[nil_append,cons_lt_cons_iff];exact⟨λk=>k.elim id λk=>absurd k.1 h,.inl⟩
 | cons a p ih=>simp only[List.cons_append,cons_lt_cons_iff,ih,Int.lt_irrefl,false_or,true_and]
theorem Nt (p:List Int) {s:List Int} (h:s≠[]):p<p++s:=by
 induction p with
 | nil=>cases s with
  | nil=>exact absurd rfl h
  | cons a s=>exact List.nil_lt_cons a s
 | cons a p ih=>simp only[List.cons_append,cons_lt_cons_iff,Int.lt_irrefl,false_or,true_and];exact ih
theorem Nu (p s:List Int):¬p++s<p:=by
 induction p with
 | nil=>exact List.not_lt_nil s
 | cons a p ih=>simp only[List.cons_append,cons_lt_cons_iff,Int.lt_irrefl,false_or,true_and];exact ih
theorem MF {a b:List Int} (h:b.length<9223372036854775807):eM a b=some (decide (a<b)):=by
 have hsplit:∀k,a.take k=b.take k->∀(ha:k<a.length) (hb:k<b.length),a=a.take k++a[k]::a.drop (k+1)/\b=a.take k++b[k]::b.drop (k+1):=by
  intro k e ha hb;refine⟨?_,?_⟩
  · rw[←drop_eq_getElem_cons ha,take_append_drop]
  · rw[e,←drop_eq_getElem_cons hb,take_append_drop]
 obtain⟨v,h1,h2⟩:=se (step:=λz=>dG a b z) (λk i=>i=(k:Int)/\a.take k=b.take k) (min a.length b.length) (λv=>(v=.inr (decide (a<b)))\/(v=.inl ()/\decide ((a.length:Int)<(b.length:Int))=decide (a<b)))
  (λk i hk ⟨e,ht⟩=>by
   subst e;have ha:k<a.length:=by omega
   have hb:k<b.length:=by omega
   have hs:dG a b (k:Int)=cond (a[k] != b[k]) (some (.inr (.inr (decide (a[k]<b[k]))))) (some (.inl ((k+1:Nat):Int))):=by
    unfold dG;rw[sG (show (k:Int)<(a.length:Int) by omega),sG (show (k:Int)<(b.length:Int) by omega),cT,rG,cT,sa ha,rG,sa hb,rG,rW (by omega),rG,rG]
   obtain⟨s1,s2⟩:=hsplit k ht ha hb;by_cases hne:a[k]=b[k]
   · refine .inl ⟨_,by rw[hs,show (a[k] != b[k])=false by simp[hne]];rfl,rfl,?_⟩;rw[take_add_one,take_add_one,List.getElem?_eq_getElem ha,List.getElem?_eq_getElem hb,ht,hne]
   · refine .inr ⟨_,by rw[hs,show (a[k] != b[k])=true from bne_iff_ne.2 hne];rfl,.inl ?_⟩
     congr 1
     apply decide_eq_decide.2;have:=OO (a.take k) (a.drop (k+1)) (b.drop (k+1)) hne
     rw[←s1,←s2]at this;exact this.symm)
  (λi ⟨e,ht⟩=>by
   subst e;refine⟨.inl (),?_,.inr ⟨rfl,?_⟩⟩
   · show dG a b _=_;unfold dG;by_cases h:a.length<=b.length
     · rw[Nat.min_eq_left h,sv (by omega)];rfl
     · rw[Nat.min_eq_right (by omega),sG (by omega),sv (show ¬(b.length:Int)<(b.length:Int) by omega)];rfl
   · apply decide_eq_decide.2;by_cases h:a.length<=b.length
     · rw[Nat.min_eq_left h,take_length]at ht;have hb:b=a++b.drop a.length:=by
        have:=take_append_drop a.length b;rw[←ht]at this;exact this.symm
       constructor
       · intro hlt;have hd:b.drop a.length≠[]:=by
          intro h0;have:=congrArg List.length h0
          rw[length_drop]at this;simp at this;omega
         have:=Nt a hd;rw[←hb]at this;exact this
       · intro hlt;by_cases he:a.length=b.length
         · have hd:b.drop a.length=[]:=List.drop_eq_nil_of_le (by omega);rw[hd,List.append_nil]at hb;rw[hb]at hlt;exact absurd hlt (List.lt_irrefl _)
         · omega
     · rw[Nat.min_eq_right (by omega),take_length]at ht;have ha:a=b++a.drop b.length:=by
        have:=take_append_drop b.length a;rw[ht]at this;exact this.symm
       constructor
       · intro hlt;omega
       · intro hlt;have:=Nu b (a.drop b.length)
         rw[←ha]at this;exact absurd hlt this) (x:=0) ⟨rfl,by simp⟩
 unfold eM;rw[h1,rG];rcases h2 with rfl|⟨rfl,h2⟩
 · rfl
 · show some (decide _)=_;rw[h2]

theorem AX {a b:List Int} (h:b.length<9223372036854775807):aE a b=some (a==b):=by
 unfold aE;by_cases hl:a.length=b.length
 · have e:((a.length:Int) != (b.length:Int))=false:=by rw[hl];simp
   rw[e,cF];obtain⟨v,h1,rfl⟩:=se (step:=λz=>dt a b z) (λk i=>i=(k:Int)/\a.take k=b.take k) a.length (λv=>v=cond (a==b) (.inl ()) (.inr false))
    (λk i hk ⟨e,ht⟩=>by
     subst e;have hb:k<b.length:=by omega
     have hs:dt a b (k:Int)=cond (a[k] != b[k]) (some (.inr (.inr false))) (some (.inl ((k+1:Nat):Int))):=by
      unfold dt;rw[sG (by omega),cT,sa hk,rG,sa hb,rG,rW (by omega)]
     by_cases hne:a[k]=b[k]
     · refine .inl ⟨_,by rw[hs,show (a[k] != b[k])=false by simp[hne]];rfl,rfl,?_⟩;rw[take_add_one,take_add_one,List.getElem?_eq_getElem hk,List.getElem?_eq_getElem hb,ht,hne]
     · refine .inr ⟨_,by rw[hs,show (a[k] != b[k])=true from bne_iff_ne.2 hne];rfl,?_⟩;have:(a==b)=false:=by
        apply beq_eq_false_iff_ne.2;intro hab;subst hab;exact hne rfl
       rw[this];rfl)
    (λi ⟨e,ht⟩=>by
     subst e;have hab:a=b:=by
      rw[take_length,List.take_of_length_le (by omega)]at ht;exact ht
     exact⟨.inl (),by show dt a b _=_;unfold dt;rw[sv (by omega),cF],by rw[show (a==b)=true from beq_iff_eq.2 hab];rfl⟩) (x:=0) ⟨rfl,by simp⟩
   rw[h1,rG];cases (a==b)<;>rfl
 · have e:((a.length:Int) != (b.length:Int))=true:=by simp;omega
   have hne:(a==b)=false:=beq_eq_false_iff_ne.2 λh=>hl (by rw[h]);rw[e,cT,hne]
structure Nm (o:List Int):Prop where
 n1:1<=o.length
 n10:o.length<=10
 e:∀x∈o,rM x 0 100000=true
theorem Nm.ok {o:List Int} (h:Nm o):al o=some true:=by
 have h10:=h.n10;have h1:=h.n1
 unfold al;obtain⟨v,e,rfl⟩:=se (step:=λz=>aM o z) (λk i=>i=(k:Int)) o.length (λv=>v=.inl ())
  (λk i hk e=>by
   subst e;refine .inl ⟨((k+1:Nat):Int),?_,rfl⟩;show aM o (k:Int)=_
   unfold aM;rw[sG (by omega),cT,sa hk,rG,vI,rG,h.e _ (getElem_mem hk),rW (by omega)];rfl)
  (λi e=>by
   subst e;exact⟨.inl (),by show aM o _=_;unfold aM;rw[sv (by omega),cF],rfl⟩) (x:=0) rfl
 rw[e,rG];show ((ac (o.length:Int) 1 10).bind λt=>some t)=_
 rw[vI,rG];unfold rM;rw[dT (by omega),dT (by omega)];rfl
inductive Vl:vl->Prop
 | num {n:Int} (h:rM n (-2147483648) 2147483647=true):Vl (2,n,[],[])
 | word {s:List UInt8} (h:s.length<=20):Vl (4,0,s,[])
theorem Vl.ok {v:vl} (h:Vl v):ao v=some true:=by
 cases h with
 | num h =>
  unfold ao aA bh;simp only[vI,h,rG,AX (show ([]:List Int).length<9223372036854775807 by decide)];simp
 | word h =>
  rename_i s;have hd:decide ((s.length:Int)<=20)=true:=dT (by omega)
  unfold ao bh;simp only[hd,rG,AX (show ([]:List Int).length<9223372036854775807 by decide)];simp
theorem Vl.k {v:vl} (h:Vl v):(v.1==128)=false:=by cases h<;>rfl
theorem Vl.o {v:vl} (h:Vl v):v.2.2.2=[]:=by cases h<;>rfl
theorem CZ {n:Int} (h1:0<=n) (h2:n<=2147483647):rM n (-2147483648) 2147483647=true:=by unfold rM;rw[dT (by omega),dT (by omega)];rfl
theorem ze {n a c:Int} (h1:a<=n) (h2:n<=c):rM n a c=true:=by unfold rM;rw[dT (by omega),dT (by omega)];rfl
theorem Cp {n a c:Int} (h:rM n a c=true):a<=n/\n<=c:=by
 unfold rM at h;simp only[aT,decide_eq_true_eq]at h;exact h
theorem OP {v:sR} (hn:v.1.length<9223372036854775807) {id r:Int} (h:aq v id=some r) (h0:¬r<0):∃x∈v.1,x.1=id:=by
 unfold aq at h;obtain⟨b,h1,h2⟩:=se (β:=Unit⊕Int) (step:=λz=>aF v id z) (λk i=>i=(k:Int)) v.1.length (λb=>∀r,b=.inr r->∃x∈v.1,x.1=id)
  (λk i hk h=>by
   subst h;unfold aF;rw[sG (by omega),cT,sa hk,rG];cases hb:(v.1[k].1==id)with
   | true=>exact .inr ⟨_,rfl,λr hr=>⟨_,getElem_mem hk,eq_of_beq hb⟩⟩
   | false=>exact .inl ⟨_,rfl,rW (by omega)⟩)
  (λi h=>by
   subst h;unfold aF;rw[sv (by omega)];exact⟨_,rfl,λr hr=>by cases hr⟩) (x:=0) rfl
 rw[h1,rG]at h;cases b with
 | inl _=>cases h;exact absurd (by decide) h0
 | inr r'=>exact h2 r' rfl
theorem Nv {id:Int} {l:List Pt} {p v:Int} (h:aN id l p=some v):1<=v/\v<=4:=by
 unfold aN at h;rw[vI,rG]at h;have key:∀(o:Option Bool) (f:Bool->Option Int),(∀t x,f t=some x->1<=x/\x<=4)->o.bind f=some v->1<=v/\v<=4:=by
  intro o f hf h;cases o with
  | none=>cases h
  | some t=>exact hf t v h
 refine key _ _ (λt x hx=>?_) h;cases t with
 | true=>cases hx;decide
 | false =>
  rw[cF]at hx;cases hbv:bz id l with
  | none=>rw[hbv]at hx;cases hx
  | some w =>
   rw[hbv,rG]at hx;cases hw:w.2==p with
   | true=>rw[hw]at hx;cases hx;decide
   | false =>
    rw[hw,cF]at hx;cases ha:at? l p with
    | none=>rw[ha]at hx;cases hx
    | some y =>
     rw[ha,rG]at hx
     revert hx
     generalize (cond (!y.2.2.1) _ _:Option Bool)=o;intro hx;cases o with
     | none=>cases hx
     | some t=>cases t<;>(cases hx;decide)
theorem IC {b:rI} (h:sT b) {r:s5} (hr:r∈b.2.2.2.2.1):(1<=r.1/\r.1<=99)/\(0<=r.2.1/\r.2.1<=63)/\(0<=r.2.2/\r.2.2<=63):=by
 obtain⟨k,hk,rfl⟩:=getElem_of_mem hr;have hv:=h.v
 unfold vc at hv;simp only[aT,Bool.not_eq_true',Bool.or_eq_false_iff,Bool.not_eq_false']at hv;have hx:=any_eq_false.1 hv.2.1 k (mem_range.2 hk)
 unfold yv at hx;simp only[List.getElem?_eq_getElem hk,Bool.or_eq_true,Bool.not_eq_true',not_or,Bool.not_eq_false]at hx;obtain⟨x1,_,x3,x4⟩:=hx;have ht:=Gm (i:=(b.2.2.1.length:Int)) hv.1.1
 have y1:=Cp x1;have y3:=Cp x3
 have x4:(B1 .i64 b.2.2.2.2.1[k].2.2 b.2.2.2.2.1[k].2.1 != 0)=false:=by simpa using x4
 refine⟨y1,by omega,?_⟩;have hI:=h.w.r _ (getElem_mem hk)
 have hband:=Cp (Iy hI.1 hI.2 x3 ht.2 (by rw[FY hI.1 hI.2];exact x4));omega
theorem Nw {b:rI} (h:sT b) {x:Int} (hx:x∈b.2.2.2.2.2.1):1<=x/\x<=99:=by
 obtain⟨k,hk,rfl⟩:=getElem_of_mem hx;have hv:=h.v
 have hn:b.2.2.2.2.1.length<9223372036854775807:=h.w.v;unfold vc at hv;simp only[aT,Bool.not_eq_true']at hv;have hq:=any_eq_false.1 hv.2.2 k (mem_range.2 hk)
 unfold A1 at hq;simp only[List.getElem?_eq_getElem hk]at hq;obtain⟨r,hr⟩:=KU (v:=(b.2.2.2.2.1,b.2.2.2.2.2.1)) hn b.2.2.2.2.2.1[k];rw[hr]at hq;simp only[decide_eq_true_eq]at hq;obtain⟨y,hy,e⟩:=OP (v:=(b.2.2.2.2.1,b.2.2.2.2.2.1)) hn hr hq;have:=(IC h (r:=y) hy).1
 rw[e]at this;exact this
theorem Mc {b:rI} (h:sT b) (c:Int) {k:Nat} (hk:k<b.2.2.1.length):0<=C7 b c (k:Int)/\C7 b c (k:Int)<=1000:=by
 have v3:b.2.2.2.2.2.1.length=b.2.2.1.length:=h.vt.len.2.2.1;have hkq:k<b.2.2.2.2.2.1.length:=by omega
 obtain⟨r,hr⟩:=JG b.1 h.w.p (k:Int);have hr2:=Nv hr
 have hp:=h.p _ (getElem_mem hk);unfold yH at hp;simp only[aT]at hp;have hc:=Cp hp.1
 have hq:=Nw h (getElem_mem hkq);unfold C7 bU eL;rw[sa hk,sa hkq,hr];simp only[rG];cases (c==1)with
 | true =>
  cases b.2.2.1[k].1 with
  | true=>show (0:Int)<=1/\(1:Int)<=1000;decide
  | false=>show (0:Int)<=0/\(0:Int)<=1000;decide
 | false =>
  cases (c==2)with
  | true=>show 0<=b.2.2.1[k].2.1/\b.2.2.1[k].2.1<=1000;omega
  | false =>
   cases (c==3)with
   | true=>show 0<=r/\r<=1000;omega
   | false=>show 0<=b.2.2.2.2.2.1[k]/\b.2.2.2.2.2.1[k]<=1000;omega
theorem OQ {b:rI} (h:sT b) {e:rR} (he:e∈b.2.2.2.1):(1<=e.1/\e.1<=99)/\(1<=e.2.1/\e.2.1<=9999)/\(0<=e.2.2.1/\e.2.2.1<=7):=by
 obtain⟨k,hk,rfl⟩:=getElem_of_mem he;have hv:=h.f
 unfold xu at hv;simp only[aT,Bool.not_eq_true']at hv;have hx:=any_eq_false.1 hv.1 k (mem_range.2 hk)
 unfold xz at hx;simp only[List.getElem?_eq_getElem hk,Bool.or_eq_true,Bool.not_eq_true',not_or,Bool.not_eq_false]at hx;have hf:=hx.1
 unfold wh at hf;simp only[aT]at hf;exact⟨Cp hf.1,Cp hf.2.1,Cp hf.2.2.1⟩
theorem L8 {b:rI} (h:sT b):(0<=b.2.2.2.2.2.2.1/\b.2.2.2.2.2.2.1<=1000000)/\(0<=b.2.2.2.2.2.2.2.1/\b.2.2.2.2.2.2.2.1<=1000000)/\(0<=b.2.2.2.2.2.2.2.2.1/\b.2.2.2.2.2.2.2.2.1<=1000000)/\(0<=b.2.2.2.2.2.2.2.2.2.1/\b.2.2.2.2.2.2.2.2.2.1<=1000000)/\(0<=b.2.2.2.2.2.2.2.2.2.2/\b.2.2.2.2.2.2.2.2.2.2<=1000000):=by
 have hc:=h.c;unfold ux at hc;simp only[aT]at hc;exact⟨Cp hc.1,Cp hc.2.1,Cp hc.2.2.1,Cp hc.2.2.2.1,Cp hc.2.2.2.2⟩
theorem ID {a b:Int} (ha:0<=a/\a<=100000) (hb:0<=b/\b<=100000):Nm [1,3,1,a,b]:=⟨by simp,by simp,λx hx=>by
 simp only[mem_cons,not_mem_nil,or_false]at hx;rcases hx with rfl|rfl|rfl|rfl|rfl
 · decide
 · decide
 · decide
 · exact ze ha.1 ha.2
 · exact ze hb.1 hb.2⟩
theorem MG {a b c:Int} (ha:0<=a/\a<=100000) (hb:0<=b/\b<=100000) (hc:0<=c/\c<=100000):Nm [1,3,1,a,b,c]:=⟨by simp,by simp,λx hx=>by
 simp only[mem_cons,not_mem_nil,or_false]at hx;rcases hx with rfl|rfl|rfl|rfl|rfl|rfl
 · decide
 · decide
 · decide
 · exact ze ha.1 ha.2
 · exact ze hb.1 hb.2
 · exact ze hc.1 hc.2⟩
theorem Qe {a b c d:Int} (ha:0<=a/\a<=100000) (hb:0<=b/\b<=100000) (hc:0<=c/\c<=100000) (hd:0<=d/\d<=100000):Nm [1,3,1,a,b,c,d]:=⟨by simp,by simp,λx hx=>by
 simp only[mem_cons,not_mem_nil,or_false]at hx;rcases hx with rfl|rfl|rfl|rfl|rfl|rfl|rfl
 · decide
 · decide
 · decide
 · exact ze ha.1 ha.2
 · exact ze hb.1 hb.2
 · exact ze hc.1 hc.2
 · exact ze hd.1 hd.2⟩
theorem zo {b:rI} (h:sT b):∀x∈uE b,Nm x.1/\Vl x.2:=by
 intro x hx;obtain⟨t1,t2,t3,t4,_⟩:=L8 h;have hn6:=h.n6
 unfold uE at hx;simp only[mem_append]at hx;rcases hx with ((hx|hx)|hx)|hx
 · unfold yw at hx;simp only[mem_cons,not_mem_nil,or_false]at hx;have hname:=h.name
   rcases hx with rfl|rfl|rfl|rfl|rfl
   · exact⟨ID (by decide) (by decide),.word (by omega)⟩
   · exact⟨ID (by decide) (by decide),.num (CZ t1.1 (by omega))⟩
   · exact⟨ID (by decide) (by decide),.num (CZ t2.1 (by omega))⟩
   · exact⟨ID (by decide) (by decide),.num (CZ t3.1 (by omega))⟩
   · exact⟨ID (by decide) (by decide),.num (CZ t4.1 (by omega))⟩
 · obtain⟨c,hc,hx⟩:=mem_flatMap.1 hx;have hc:=mem_range.1 hc
   unfold uS at hx;obtain⟨k,hk,rfl⟩:=mem_map.1 hx;have hk:=mem_range.1 hk
   have hp:=Mc h ((c+1:Nat):Int) hk;exact⟨MG (by decide) (by omega) (by omega),.num (CZ hp.1 (by omega))⟩
 · obtain⟨c,hc,hx⟩:=mem_flatMap.1 hx;have hc:=mem_range.1 hc
   unfold vS at hx;obtain⟨r,hr,rfl⟩:=mem_map.1 hx;obtain⟨r1,r2,r3⟩:=IC h hr;refine⟨MG (by decide) (by omega) (by omega),.num ?_⟩;unfold CV;split
   · decide
   · exact CZ r2.1 (by omega)
   · exact CZ r3.1 (by omega)
 · unfold Be at hx;obtain⟨e,he,rfl⟩:=mem_map.1 hx;obtain⟨e1,e2,e3⟩:=OQ h he;refine⟨Qe (by decide) (by decide) (by omega) (by omega),.num ?_⟩;rw[sg (by omega) (by omega)];exact CZ (by omega) (by omega)
theorem IE {b:rI} (h:sT b):(uE b).length=5+4*b.2.2.1.length+3*b.2.2.2.2.1.length+b.2.2.2.1.length:=by
 have hp:∀c,(uS b c).length=b.2.2.1.length:=λc=>by unfold uS;rw[length_map,List.length_range]
 have hr:∀c,(vS b c).length=b.2.2.2.2.1.length:=λc=>by unfold vS;rw[length_map]
 have hf:(Be b).length=b.2.2.2.1.length:=by unfold Be;rw[length_map]
 have k5:(yw b).length=5:=rfl;unfold uE;rw[PY,PZ];simp only[length_append,length_nil,hp,hr,hf,k5];omega
theorem Hy {b:rI} (h:sT b):(uE b).length<=59:=by
 have h1:=IE h;have h2:=h.n6
 have h3:b.2.2.2.2.1.length<=6:=h.vt.len.2.2.2;have h4:=h.f12
 omega
theorem QJ {b:rI} (h:sT b) {o:List Int} (ho:o.length<9223372036854775807):∃v,bY b o=some v/\((∃x∈uE b,x.1=o/\v=x.2)\/((∀x∈uE b,x.1≠o)/\v=(128,0,[],[]))):=by
 have hle:=Hy h;obtain⟨v,h1,h2⟩:=se (step:=λz:Int×Int×Int×List UInt8×List Int=>bp o (uE b) z.1 z.2.1 z.2.2.1 z.2.2.2.1 z.2.2.2.2) (λk z=>z=((k:Int),0,0,[],[])/\∀x∈(uE b).take k,x.1≠o) (uE b).length (λv=>(∃x∈uE b,x.1=o/\v=.inr x.2)\/((∀x∈uE b,x.1≠o)/\∃u,v=.inl u))
  (λk z hk ⟨e,hx⟩=>by
   subst e;have hs:bp o (uE b) (k:Int) 0 0 [] []=cond ((uE b)[k].1==o) (some (.inr (.inr (uE b)[k].2))) (some (.inl (((k+1:Nat):Int),0,0,[],[]))):=by
    unfold bp;rw[sG (by omega),cT]
    try rw[Hx]
    rw[sa hk,rG,AX ho,rG,rW (by omega)]
   show (∃y,bp o (uE b) (k:Int) 0 0 [] []=_/\_)\/(∃v,bp o (uE b) (k:Int) 0 0 [] []=_/\_);rw[hs];cases hb:((uE b)[k].1==o)with
   | true=>exact .inr ⟨_,rfl,.inl ⟨_,getElem_mem hk,eq_of_beq hb,rfl⟩⟩
   | false =>
    refine .inl ⟨_,rfl,rfl,λx hx'=>?_⟩;rw[take_add_one,List.getElem?_eq_getElem hk,mem_append]at hx';rcases hx' with hx'|hx'
    · exact hx x hx'
    · simp at hx';subst hx';exact beq_eq_false_iff_ne.1 hb)
  (λz ⟨e,hx⟩=>by
   subst e;rw[take_length]at hx;refine⟨.inl (0,0,[],[]),?_,.inr ⟨hx,_,rfl⟩⟩;show bp o (uE b) _ 0 0 [] []=_
   unfold bp;rw[sv (by omega),cF]) (x:=(0,0,0,[],[])) ⟨rfl,by simp⟩
 unfold bY;rw[M8 h,rG,h1,rG];rcases h2 with ⟨x,hx,e,rfl⟩|⟨hx,u,rfl⟩
 · exact⟨_,rfl,.inl ⟨x,hx,e,rfl⟩⟩
 · exact⟨_,rfl,.inr ⟨hx,rfl⟩⟩

theorem OR {c:sc} (h:CW c):∃c' o,aS c=some (c',o)/\CW c'/\Nm o:=by
 obtain⟨c0,m,e0,w0,hm⟩:=uI h (n:=6) (by decide);have e0':aa c 6=some (c0,(m:Int)):=e0
 obtain⟨d,hd,g1,g2,g3⟩:=se (step:=λz:Int×List Int×Int×Int×List Int=>ea z.1 z.2.1 z.2.2.1 z.2.2.2.1 z.2.2.2.2) (λk z=>z.1=((m+1:Nat):Int)-(k:Int)/\CW (z.2.1,z.2.2.1,z.2.2.2.1)/\z.2.2.2.2.length=k/\∀x∈z.2.2.2.2,rM x 0 100000=true) (m+1) (λd=>CW (d.1,d.2.1,d.2.2.1)/\d.2.2.2.length=m+1/\∀x∈d.2.2.2,rM x 0 100000=true)
  (λk z hk ⟨a1,a2,a3,a4⟩=>by
   obtain⟨i,x,y,s,l⟩:=z;simp only at a1 a2 a3 a4;left;show ∃y',ea i x y s l=_/\_
   unfold ea;have hi:decide (i>0)=true:=dT (by omega)
   have hw:rJ (i-1)=((m+1:Nat):Int)-((k+1:Nat):Int):=by rw[sg (by omega) (by omega)];omega
   obtain⟨c1,r1,e1,w1,b1⟩:=C5 a2 (l:=[0,1,2,3,127,128,16384,100000]) (by decide);have hr:rM r1 0 100000=true:=by
    have:∀x∈([0,1,2,3,127,128,16384,100000]:List Int),rM x 0 100000=true:=by decide
    exact this r1 b1
   rw[hi,cT,e1,rG];show ∃y',((sf l [r1]).bind _)=_/\_
   rw[rP (by show l.length+1<=_;omega),rG,hw];refine⟨_,rfl,rfl,w1,by show (l++[r1]).length=_;rw[length_append,a3];rfl,λx hx=>?_⟩;have hx:x∈l++[r1]:=hx
   simp at hx;rcases hx with hx|rfl
   · exact a4 x hx
   · exact hr)
  (λz ⟨a1,a2,a3,a4⟩=>by
   obtain⟨i,x,y,s,l⟩:=z;simp only at a1 a2 a3 a4;refine⟨(x,y,s,l),?_,a2,a3,a4⟩;show ea i x y s l=_
   unfold ea;have hi:decide (i>0)=false:=dF (by omega)
   rw[hi,cF]) (x:=(((m+1:Nat):Int),c0.1,c0.2.1,c0.2.2,[])) ⟨by simp,w0,rfl,λx hx=>absurd hx not_mem_nil⟩
 have hw:rJ (1+(m:Int))=((m+1:Nat):Int):=by rw[sg (by omega) (by omega)];omega
 unfold aS;rw[e0',rG];show ∃c' o,((loop _ (rJ (1+(m:Int)),c0.1,c0.2.1,c0.2.2,[])).bind _)=_/\_
 rw[hw,hd,rG];exact⟨_,_,rfl,g1,by omega,by omega,g3⟩
theorem QY {a:Int} (ha:0<=a/\a<=100000):Nm [1,3,1,a]:=⟨by simp,by simp,λx hx=>by
 simp only[mem_cons,not_mem_nil,or_false]at hx;rcases hx with rfl|rfl|rfl|rfl
 · decide
 · decide
 · decide
 · exact ze ha.1 ha.2⟩
theorem Dm (l:List Int) (h:l.length<=100):af l=some ([1,3,1]++l):=by
 unfold af;rw[rP (by show 3+l.length<=_;omega)];rfl
theorem Q0 {c:sc} (h:CW c) {b:rI} (hb:sT b):∃c' o,ay c b=some (c',o)/\CW c'/\Nm o:=by
 have hm:5<=(uE b).length:=by rw[IE hb];omega
 have hle:=Hy hb;unfold ay;rw[DX hb.w,M8 hb,rG,dT (show ((uE b).length:Int)>0 by omega),cT];obtain⟨c1,st,e1,w1⟩:=EL h 4;rw[e1,rG];show ∃c' o,cond (!st) _ _=_/\_
 cases st with
 | false =>
  obtain⟨c2,k,e2,w2,hk⟩:=uI w1 (n:=(uE b).length) (by omega);have hn:=(zo hb _ (getElem_mem hk)).1
  have h10:=hn.n10;rw[Bool.not_false,cT,e2,rG];show ∃c' o,((ix (uE b).length (k:Int)).bind _)=_/\_
  rw[vk hk,rG,List.getElem?_eq_getElem hk,rG,rP (by show 0+_<=_;omega),rG];exact⟨_,_,rfl,w2,hn⟩
 | true =>
  obtain⟨c2,r,e2,w2,_⟩:=wU w1 8;rw[Bool.not_true,cF,e2,rG];show ∃c' o,cond (r==0) _ (cond (r==1) _ (cond (r==2) _ (cond (r==3) _ (cond (r==4) _ (cond (r==5) _ (cond (r==6) _ _))))))=_/\_
  cases r==0 with
  | true=>exact⟨_,_,rfl,w2,⟨by decide,by decide,by decide⟩⟩
  | false =>
  cases r==1 with
  | true=>exact⟨_,_,rfl,w2,⟨by decide,by decide,by decide⟩⟩
  | false =>
  cases r==2 with
  | true=>rw[Dm _ (by decide)];exact⟨_,_,rfl,w2,MG (by decide) (by decide) (by decide)⟩
  | false =>
  cases r==3 with
  | true =>
   obtain⟨c3,k,e3,w3,hk⟩:=uI w2 (n:=9) (by decide);have e3':aa c2 9=some (c3,(k:Int)):=e3
   show ∃c' o,((aa c2 9).bind _)=_/\_;rw[e3',rG,Dm _ (by simp),rG];refine⟨_,_,rfl,w3,?_⟩;show Nm [1,3,1,3,1,rJ (1+(k:Int))]
   rw[sg (by omega) (by omega)];exact MG (by decide) (by decide) (by omega)
  | false =>
  cases r==4 with
  | true=>rw[Dm _ (by decide)];exact⟨_,_,rfl,w2,ID (by decide) (by decide)⟩
  | false =>
  cases r==5 with
  | true=>rw[Dm _ (by decide)];exact⟨_,_,rfl,w2,QY (by decide)⟩
  | false =>
  cases r==6 with
  | true=>rw[Dm _ (by decide)];exact⟨_,_,rfl,w2,Qe (by decide) (by decide) (by decide) (by decide)⟩
  | false =>
   obtain⟨c3,o,e3,w3,hn⟩:=OR w2;show ∃c' o,((aS c2).bind _)=_/\_
   rw[e3,rG];exact⟨_,_,rfl,w3,hn⟩
structure At (m:List rK) (o:List Int) (j:Nat):Prop where
 le:j<=m.length
 no:∀i (hi:i<m.length),i<j->¬o<m[i].1
 yes:∀i (hi:i<m.length),j<=i->o<m[i].1
theorem Q1 {m:List rK} (hp:m.Pairwise λx y=>x.1<y.1) (o:List Int):∃j,At m o j:=by
 have hp:=pairwise_iff_getElem.1 hp;have key:∀n,n<=m.length->(∀i (hi:i<m.length),i<n->¬o<m[i].1)\/∃j,At m o j:=by
  intro n
  induction n with
  | zero=>exact λ_=>.inl λi hi h=>by omega
  | succ n ih =>
   intro hn;rcases ih (by omega)with h|h
   · by_cases hlt:o<m[n].1
     · refine .inr ⟨n,by omega,h,λi hi hni=>?_⟩;by_cases e:i=n
       · subst e;exact hlt
       · exact List.lt_trans hlt (hp n i (by omega) hi (by omega))
     · refine .inl λi hi hin=>?_;by_cases e:i=n
       · subst e;exact hlt
       · exact h i hi (by omega)
   · exact .inr h
 rcases key m.length (Nat.le_refl _)with h|h
 · exact⟨m.length,Nat.le_refl _,λi hi _=>h i hi hi,λi hi h=>by omega⟩
 · exact h
theorem OS {b:rI} (h:sT b) {o:List Int} (ho:o.length<=1048576) {j:Nat} (hj:At (uE b) o j):aZ b o=some (if h:j<(uE b).length then (uE b)[j]else (o,130,0,[],[])):=by
 have hle:=Hy h;have hjl:=hj.le
 obtain⟨v,h1,h2⟩:=se (step:=λz:Int×Int×Int×List UInt8×List Int×List Int=>bZ o (uE b) z.1 z.2.1 z.2.2.1 z.2.2.2.1 z.2.2.2.2.1 z.2.2.2.2.2) (λk z=>z=((k:Int),0,0,[],[],[])) j (λv=>if h:j<(uE b).length then v=.inr (uE b)[j]else ∃u,v=.inl u)
  (λk z hk e=>by
   subst e;have hkl:k<(uE b).length:=by omega
   have hn:=(zo h _ (getElem_mem hkl)).1.n10;refine .inl ⟨(((k+1:Nat):Int),0,0,[],[],[]),?_,rfl⟩;show bZ o (uE b) (k:Int) 0 0 [] [] []=_
   unfold bZ;rw[sG (by omega),cT]
   try rw[Hx]
   rw[sa hkl,rG,MF (by omega),dF (hj.no k hkl hk),rG,cF,rW (by omega)])
  (λz e=>by
   subst e;show ∃v,bZ o (uE b) (j:Int) 0 0 [] [] []=_/\_
   unfold bZ;by_cases hjn:j<(uE b).length
   · have hn:=(zo h _ (getElem_mem hjn)).1.n10;rw[sG (by omega),cT]
     try rw[Hx]
     rw[sa hjn,rG,MF (by omega),dT (hj.yes j hjn (Nat.le_refl _)),rG,cT];exact⟨_,rfl,by rw[dif_pos hjn]⟩
   · rw[sv (by omega),cF];exact⟨_,rfl,by rw[dif_neg hjn];exact⟨_,rfl⟩⟩) (x:=(0,0,0,[],[],[])) rfl
 unfold aZ;rw[M8 h,rG,h1,rG];by_cases hjn:j<(uE b).length
 · rw[dif_pos hjn]at h2;rw[dif_pos hjn,h2];rfl
 · rw[dif_neg hjn]at h2;obtain⟨u,rfl⟩:=h2;rw[dif_neg hjn];show ((aX o).bind _)=_
   unfold aX;rw[rP (by show 0+o.length<=_;omega)];rfl
theorem Q2 {b:rI} (h:sT b) {o:List Int} (ho:o.length<=1000) {j:Nat} (hj:At (uE b) o j):aZ b o=some (if h:j<(uE b).length then (uE b)[j]else (o,130,0,[],[])):=OS h (by omega) hj
theorem vf {α:Type} {ys:List α} (h:ys.length<=M):sf [] ys=some ys:=by
 unfold sf;rw[if_pos (by show 0+ys.length<=4294967296;have h':ys.length<=1048576:=h;omega)];rfl
theorem C8 {l:List Int} (h:l.length<=M):aX l=some l:=by unfold aX;rw[vf h];rfl
theorem yJ {l:List Int} (h:l.length<=M):bu l=some l:=by unfold bu;rw[vf h];rfl
theorem Nx {l:List rR} (h:l.length<=M):fK l=some l:=by unfold fK;rw[vf h];rfl
theorem Md {l:List rR} (h:l.length<=M):bN l=some l:=by unfold bN;rw[vf h];rfl
theorem E1 {v:sR} (h:v.1.length<=M/\v.2.length<=M):dw v=some v:=by
 unfold dw;rw[vf h.1,rG,C8 h.2];rfl
theorem L9 {v:sR} (h:v.1.length<=M/\v.2.length<=M):aJ v=some v:=by
 unfold aJ;rw[vf h.1,rG,vf h.2];rfl
theorem xg {b:rI} (h:yb M b):ar b=some b:=by
 obtain⟨h1,h2,h3,h4,h5⟩:=h;unfold ar;rw[vf h2,rG,Nx h3,rG,E1 ⟨h4,h5⟩];rfl
theorem uP {b:rI} (h:yb M b):ap b=some b:=by
 obtain⟨h1,h2,h3,h4,h5⟩:=h;unfold ap;rw[vf h2,rG,Md h3,rG,L9 ⟨h4,h5⟩];rfl
def Fm (o:List Int) (k:Nat):Bool:=match o[k]? with|some x=>!(rM x 0 100000)|none=>false
def vd (o:List Int):Bool:=!((List.range o.length).any (Fm o))&&rM (o.length:Int) 1 10
theorem C9 {o:List Int} (h:o.length<9223372036854775807):al o=some (vd o):=by
 unfold al vd;have e:loop (λz=>aM o z) 0=some (cond ((List.range o.length).any (Fm o)) (Sum.inr false) (Sum.inl ())):=by
  rw[←vK (n:=o.length) (c:=λi=>(at? o i).bind λx=>(ac x 0 100000).bind λt=>some (!t)) (b:=Fm o) h (λk hk=>by
   simp only[sa hk,rG,Fm,List.getElem?_eq_getElem hk,vI])]
  refine uC (λi=>?_) 0;unfold aM;simp only[Option.bind_assoc,rG]
 rw[e,rG];cases (List.range o.length).any (Fm o)with
 | true=>rfl
 | false=>simp only[cF,Sum.elim_inl,vI,rG,Bool.not_false,Bool.true_and]
theorem Hz:bH=al:=rfl
theorem MH (n:Int):∃c,ax n=some c/\(c==n)=rM n (-2147483648) 2147483647:=by
 unfold ax rM;by_cases h1:n>2147483647
 · refine⟨_,by rw[dT h1];rfl,?_⟩;rw[dF (show ¬n<=2147483647 by omega),Bool.and_false];exact beq_eq_false_iff_ne.2 (by omega)
 · by_cases h2:n < -2147483648
   · refine⟨_,by rw[dF h1,dT h2];rfl,?_⟩;rw[dF (show ¬n >= -2147483648 by omega),Bool.false_and];exact beq_eq_false_iff_ne.2 (by omega)
   · refine⟨_,by rw[dF h1,dF h2];rfl,?_⟩;rw[dT (show n >= -2147483648 by omega),dT (show n<=2147483647 by omega),beq_self_eq_true];rfl
theorem Ny (l:List Int):aE l []=some ((l.length:Int)==0):=by
 cases l with
 | nil=>exact Kz (n:=0) (Hd (a:=[]) (by decide))
 | cons x l =>
  unfold aE;have e:(((x::l).length:Int) != (([]:List Int).length:Int))=true:=by simp;omega
  rw[e,cT,beq_eq_false_iff_ne.2 (by simp;omega)]
theorem Me {l:List Int} (h:l.length<=M):aE l l=some true:=Kz (Hd (Qt h))
def vz (v:vl):Bool :=
 cond (v.1==5||(v.1==128||v.1==130)) (v.2.1==0&&(v.2.2.1==[]&&((v.2.2.2.length:Int)==0)))
  (cond (v.1==2) (rM v.2.1 (-2147483648) 2147483647&&(v.2.2.1==[]&&((v.2.2.2.length:Int)==0)))
   (cond (v.1==4) (decide ((v.2.2.1.length:Int)<=20)&&(v.2.1==0&&((v.2.2.2.length:Int)==0)))
    (cond (v.1==6) (vd v.2.2.2&&(v.2.1==0&&(v.2.2.1==[]))) false)))
theorem E2 {v:vl} (h:v.2.2.2.length<=M):ao v=some (vz v):=by
 obtain⟨k,n,s,o⟩:=v;have h':o.length<=1048576:=h
 have ho:o.length<=M:=h;have hb:o.length<9223372036854775807:=by omega
 unfold ao vz bh aA;simp only[vI,Ny,Me ho,C9 hb,rG];by_cases h2:k=2
 · subst h2;cases rM n (-2147483648) 2147483647<;>cases s==[]<;>cases (o.length:Int)==0<;>simp
 by_cases h4:k=4
 · subst h4;cases decide ((s.length:Int)<=20)<;>cases n==0<;>cases (o.length:Int)==0<;>simp
 by_cases h6:k=6
 · subst h6;cases vd o<;>cases n==0<;>cases s==[]<;>simp
 rw[beq_eq_false_iff_ne.2 h2,beq_eq_false_iff_ne.2 h4,beq_eq_false_iff_ne.2 h6];by_cases h5:k=5
 · subst h5;cases n==0<;>cases s==[]<;>cases (o.length:Int)==0<;>simp
 by_cases h128:k=128
 · subst h128;cases n==0<;>cases s==[]<;>cases (o.length:Int)==0<;>simp
 by_cases h130:k=130
 · subst h130;cases n==0<;>cases s==[]<;>cases (o.length:Int)==0<;>simp
 rw[beq_eq_false_iff_ne.2 h5,beq_eq_false_iff_ne.2 h128,beq_eq_false_iff_ne.2 h130];rfl
theorem Fo {v:vl} (h:v.2.2.2.length<=M):bq v=some (vz v):=by
 obtain⟨k,n,s,o⟩:=v;have h':o.length<=1048576:=h
 have hb:o.length<9223372036854775807:=by omega
 obtain⟨c,hc,hc2⟩:=MH n;unfold bq vz;simp only[Hz,C9 hb,hc,hc2,rG];by_cases h5:k=5
 · subst h5;cases n==0<;>cases s==[]<;>cases (o.length:Int)==0<;>simp
 by_cases h128:k=128
 · subst h128;cases n==0<;>cases s==[]<;>cases (o.length:Int)==0<;>simp
 by_cases h130:k=130
 · subst h130;cases n==0<;>cases s==[]<;>cases (o.length:Int)==0<;>simp
 rw[beq_eq_false_iff_ne.2 h5,beq_eq_false_iff_ne.2 h128,beq_eq_false_iff_ne.2 h130];by_cases h2:k=2
 · subst h2;cases rM n (-2147483648) 2147483647<;>cases s==[]<;>cases (o.length:Int)==0<;>simp
 by_cases h4:k=4
 · subst h4;cases decide ((s.length:Int)<=20)<;>cases n==0<;>cases (o.length:Int)==0<;>simp
 by_cases h6:k=6
 · subst h6;cases vd o<;>cases n==0<;>cases s==[]<;>simp
 rw[beq_eq_false_iff_ne.2 h2,beq_eq_false_iff_ne.2 h4,beq_eq_false_iff_ne.2 h6];rfl
def vN (x:rK):Bool:=vd x.1&&vz x.2
def bX (l:List rK) (k:Nat):Bool:=match l[k]? with|some x=>!(vN x)|none=>false
def tZ (p:sj):Bool :=
 (!((List.range p.2.2.2.2.length).any (bX p.2.2.2.2))&&decide ((p.2.2.2.2.length:Int)<=10)) &&
 (cond (p.1==162||p.1==165) (rM p.2.2.1 0 1000&&rM p.2.2.2.1 0 1000)
  (cond (p.1==160||(p.1==161||p.1==163)) (p.2.2.1==0&&p.2.2.2.1==0) false)&&rM p.2.1 (-2147483648) 2147483647)
theorem OT {n:Nat} {f g:Nat->Bool}:(List.range n).any (λk=>f k||g k)=((List.range n).any f||(List.range n).any g):=by
 generalize List.range n=l
 induction l with
 | nil=>rfl
 | cons a l ih=>simp only[List.any_cons,ih];cases f a<;>cases g a<;>simp
theorem Nz (n:Nat):(List.range n).any (λk=>decide ((k:Int)>=10))=!(decide ((n:Int)<=10)):=by
 by_cases h:(n:Int)<=10
 · rw[dT h];refine Bool.eq_false_iff.2 λha=>?_;obtain⟨k,h1,h2⟩:=any_eq_true.1 ha;have:=mem_range.1 h1
   have:=of_decide_eq_true h2;omega
 · rw[dF h];exact any_eq_true.2 ⟨10,mem_range.2 (by omega),by decide⟩
theorem Mf {p:sj} (h:vM M p):loop (λz=>fG p z) 0=some (cond (!(decide ((p.2.2.2.2.length:Int)<=10))||(List.range p.2.2.2.2.length).any (bX p.2.2.2.2)) (Sum.inr false) (Sum.inl ())):=by
 obtain⟨k,i,e,x,l⟩:=p;have h':zO M l:=h
 have hl:l.length<=1048576:=h'.1;show loop (λz=>fG (k,i,e,x,l) z) 0=some (cond (!(decide ((l.length:Int)<=10))||(List.range l.length).any (bX l)) (Sum.inr false) (Sum.inl ()))
 rw[←Nz,←OT,←vK (n:=l.length) (c:=λi=>(at? l i).bind λx=>(cond (decide (i>=10)) (some true) ((al x.1).bind λt=>some (!t))).bind λt=>(cond t (some true) ((ao x.2).bind λt=>some (!t)))) (b:=λk=>decide ((k:Int)>=10)||bX l k) (by omega) (λk hk=>by
  have hx:CS M l[k]:=h'.2 _ (getElem_mem hk);have h1:l[k].1.length<=1048576:=hx.1
  have h2:l[k].2.2.2.2.length<=M:=hx.2.2;simp only[sa hk,rG,bX,List.getElem?_eq_getElem hk,C9 (show l[k].1.length<9223372036854775807 by omega),E2 (v:=l[k].2) h2,vN];cases decide ((k:Int)>=10)<;>cases vd l[k].1<;>cases vz l[k].2<;>rfl)]
 refine uC (λi=>?_) 0;unfold fG;simp only[Option.bind_assoc,rG]
theorem La {p:sj} (h:vM M p):loop (λz=>fZ p z) 0=some (cond ((List.range p.2.2.2.2.length).any (bX p.2.2.2.2)) (Sum.inr false) (Sum.inl ())):=by
 obtain⟨k,i,e,x,l⟩:=p;have h':zO M l:=h
 have hl:l.length<=1048576:=h'.1;show loop (λz=>fZ (k,i,e,x,l) z) 0=some (cond ((List.range l.length).any (bX l)) (Sum.inr false) (Sum.inl ()))
 rw[←vK (n:=l.length) (c:=λi=>(at? l i).bind λx=>(bH x.1).bind λt=>(cond (!t) (some true) ((at? l i).bind λx=>(bq x.2).bind λt=>some (!t)))) (b:=bX l) (by omega) (λk hk=>by
  have hx:CS M l[k]:=h'.2 _ (getElem_mem hk);have h1:l[k].1.length<=1048576:=hx.1
  have h2:l[k].2.2.2.2.length<=M:=hx.2.2;simp only[sa hk,rG,bX,List.getElem?_eq_getElem hk,Hz,C9 (show l[k].1.length<9223372036854775807 by omega),Fo (v:=l[k].2) h2,vN];cases vd l[k].1<;>cases vz l[k].2<;>rfl)]
 refine uC (λi=>?_) 0;unfold fZ;simp only[Option.bind_assoc,rG]
theorem Mg {p:sj} (h:vM M p):cr p=some (tZ p):=by
 have e0:=Mf h;have e1:loop (λz=>iY p z) 0=_:=e0
 have e2:loop (λz=>iZ p z) 0=_:=e0;have e3:loop (λz=>ja p z) 0=_:=e0
 have e4:loop (λz=>jb p z) 0=_:=e0;have e5:loop (λz=>jc p z) 0=_:=e0
 have e6:loop (λz=>jd p z) 0=_:=e0;have e7:loop (λz=>je p z) 0=_:=e0
 have e8:loop (λz=>jf p z) 0=_:=e0;unfold cr tZ aA;rw[e0,e1,e2,e3,e4,e5,e6,e7,e8];simp only[vI,rG];generalize (List.range p.2.2.2.2.length).any (bX p.2.2.2.2)=u;generalize decide ((p.2.2.2.2.length:Int)<=10)=w;generalize rM p.2.1 (-2147483648) 2147483647=x;generalize p.2.2.1=e;generalize p.2.2.2.1=i;generalize p.1=k;by_cases h0:k=160
 · subst h0;have b1:(e != 0)=!(e==0):=rfl
   have b2:(i != 0)=!(i==0):=rfl;rw[b1,b2];cases e==0<;>cases i==0<;>cases u<;>cases w<;>cases x<;>rfl
 by_cases h1:k=161
 · subst h1;have b1:(e != 0)=!(e==0):=rfl
   have b2:(i != 0)=!(i==0):=rfl;rw[b1,b2];cases e==0<;>cases i==0<;>cases u<;>cases w<;>cases x<;>rfl
 by_cases h3:k=163
 · subst h3;have b1:(e != 0)=!(e==0):=rfl
   have b2:(i != 0)=!(i==0):=rfl;rw[b1,b2];cases e==0<;>cases i==0<;>cases u<;>cases w<;>cases x<;>rfl
 by_cases h2:k=162
 · subst h2;cases rM e 0 1000<;>cases rM i 0 1000<;>cases u<;>cases w<;>cases x<;>rfl
 by_cases h5:k=165
 · subst h5;cases rM e 0 1000<;>cases rM i 0 1000<;>cases u<;>cases w<;>cases x<;>rfl
 rw[beq_eq_false_iff_ne.2 h0,beq_eq_false_iff_ne.2 h1,beq_eq_false_iff_ne.2 h2,beq_eq_false_iff_ne.2 h3,beq_eq_false_iff_ne.2 h5];cases u<;>cases w<;>rfl
theorem JO {p:sj} (h:vM M p):bI p=some (tZ p):=by
 obtain⟨c,hc,hc2⟩:=MH p.2.1;unfold bI tZ gN;rw[La h];simp only[xP,hc,hc2,rG];generalize (List.range p.2.2.2.2.length).any (bX p.2.2.2.2)=u;generalize decide ((p.2.2.2.2.length:Int)<=10)=w;generalize rM p.2.1 (-2147483648) 2147483647=x;generalize p.2.2.1=e;generalize p.2.2.2.1=i;generalize p.1=k;have b1:(e != 0)=!(e==0):=rfl
 have b2:(i != 0)=!(i==0):=rfl;rw[b1,b2];have z1:(e==0)=true->rM e 0 1000=true:=λh=>by rw[eq_of_beq h];rfl
 have z2:(i==0)=true->rM i 0 1000=true:=λh=>by rw[eq_of_beq h];rfl
 by_cases h2:k=162
 · subst h2;cases rM e 0 1000<;>cases rM i 0 1000<;>cases u<;>cases w<;>cases x<;>rfl
 by_cases h5:k=165
 · subst h5;cases rM e 0 1000<;>cases rM i 0 1000<;>cases u<;>cases w<;>cases x<;>rfl
 have n2:(k != 162)=true:=bne_iff_ne.2 h2;have n5:(k != 165)=true:=bne_iff_ne.2 h5
 rw[n2,n5,beq_eq_false_iff_ne.2 h2,beq_eq_false_iff_ne.2 h5];cases he:e==0 with
 | false=>cases hi:i==0<;>cases u<;>cases w<;>cases x<;>cases k==160<;>cases k==161<;>cases k==163<;>rfl
 | true =>
  rw[z1 he];cases hi:i==0 with
  | false=>cases u<;>cases w<;>cases x<;>cases k==160<;>cases k==161<;>cases k==163<;>rfl
  | true =>
   rw[z2 hi];cases u<;>cases w<;>cases x<;>cases k==160<;>cases k==161<;>cases k==163<;>rfl
def sw (j:sY):Int:=j.2.2.2.2.2.2.2.2.2.2.2.2.2.2.2.2.2.2.2.2
def vm (j:sY):Int:=j.2.2.2.2.2.2.2.2.2.2.2.2.2.2.2.2.2.2.2.1
noncomputable def AD (j:sY):Bool:=rM j.2.2.1 0 2&&(rM (vm j) 0 (j.2.2.2.2.2.2.2.1.length:Int)&&(rM (sw j) 0 3&&(j.2.2.1==0||(tZ (jP j)&&((j.2.2.2.1 != 162)&&sO (jB j))))))
structure IF (j:sY):Prop where
 p:vM M (jP j)
 b:wI (jB j)
theorem QK {j:sY} (h:IF j):eF j=some (AD j):=by
 have hp:cr (j.2.2.2.1,j.2.2.2.2.1,j.2.2.2.2.2.1,j.2.2.2.2.2.2.1,j.2.2.2.2.2.2.2.1)=some (tZ (jP j)):=Mg h.p;have hb:=BE h.b
 unfold jB at hb;unfold eF AD;rw[hp,hb];simp only[vI,rG,vm,sw];cases rM j.2.2.1 0 2<;>cases rM j.2.2.2.2.2.2.2.2.2.2.2.2.2.2.2.2.2.2.2.1 0 (j.2.2.2.2.2.2.2.1.length:Int)<;>cases rM j.2.2.2.2.2.2.2.2.2.2.2.2.2.2.2.2.2.2.2.2 0 3<;>cases j.2.2.1==0<;>cases tZ (jP j)<;>cases j.2.2.2.1 != 162<;>rfl
theorem QL {j:sY} (h:IF j) (last:Int):f8 j last=some (rM j.1 1 last&&AD j):=by
 have hp:bI (j.2.2.2.1,j.2.2.2.2.1,j.2.2.2.2.2.1,j.2.2.2.2.2.2.1,j.2.2.2.2.2.2.2.1)=some (tZ (jP j)):=JO h.p;have hb:=zm h.b
 unfold jB at hb;unfold f8 gO AD;rw[hp,hb];simp only[xP,rG,vm,sw];cases rM j.1 1 last<;>cases rM j.2.2.1 0 2<;>cases rM j.2.2.2.2.2.2.2.2.2.2.2.2.2.2.2.2.2.2.2.1 0 (j.2.2.2.2.2.2.2.1.length:Int)<;>cases rM j.2.2.2.2.2.2.2.2.2.2.2.2.2.2.2.2.2.2.2.2 0 3<;>cases j.2.2.1==0<;>cases tZ (jP j)<;>cases j.2.2.2.1 != 162<;>rfl
def rL (a:s9):List sY:=a.2.2.2.2.2.2.2.2.2.2.2.2.1
def rV (a:s9):Int:=a.2.2.2.2.2.2.2.2.2.2.2.2.2.2
def sD (a:s9):Int:=a.2.2.2.2.2.2.2.2.2.2.2.2.2.1
noncomputable def Ca (l:List sY) (last:Int) (k:Nat):Bool:=match l[k]? with
 | some j=>!(rM j.1 1 last&&AD j)||(decide (0<k)&&(match l[k-1]? with|some p=>decide (p.1>=j.1)|none=>false))
 | none=>false
noncomputable def zf (a:s9):Bool:=!((List.range (rL a).length).any (Ca (rL a) (rV a)))&&(sO (aB a)&&(decide ((a.2.2.2.2.2.2.2.2.2.2.2.1.length:Int)<=20)&&(decide (((rL a).length:Int)<=6)&&(rM (sD a) 0 1000000&&rM (rV a) 0 1000000))))
structure IG (a:s9):Prop where
 b:wI (aB a)
 n:(rL a).length<=1048576
 j:∀x∈rL a,IF x
theorem JP {a:s9} (h:IG a):loop (λz=>gI a z) 0=some (cond ((List.range (rL a).length).any (Ca (rL a) (rV a))) (Sum.inr false) (Sum.inl ())):=by
 have hn:=h.n;rw[←vK (n:=(rL a).length) (c:=λi=>(at? (rL a) i).bind λx=>(ac x.1 1 (rV a)).bind λt=>(cond (!t) (some true) ((cond (decide (i>0)) ((at? (rL a) (rJ (i-1))).bind λy=>some (decide (y.1>=x.1))) (some false)).bind λt=>some t)).bind λt=>(cond t (some true) ((eF x).bind λt=>some (!t))).bind λt=>some t) (b:=Ca (rL a) (rV a)) (by omega) (λk hk=>by
  simp only[sa hk,rG,vI,QK (h.j _ (getElem_mem hk)),Ca,List.getElem?_eq_getElem hk];by_cases h0:0<k
  · have hd:decide ((k:Int)>0)=true:=dT (by omega);simp only[hd,A9 hk h0 (by omega),rG,dT h0,List.getElem?_eq_getElem (show k-1<(rL a).length by omega),cT];cases rM (rL a)[k].1 1 (rV a)<;>cases decide ((rL a)[k-1].1>=(rL a)[k].1)<;>cases AD (rL a)[k]<;>rfl
  · have hd:decide ((k:Int)>0)=false:=dF (by omega);simp only[hd,dF h0];cases rM (rL a)[k].1 1 (rV a)<;>cases AD (rL a)[k]<;>rfl)]
 refine uC (λi=>?_) 0;unfold gI rL rV;simp only[Option.bind_assoc,rG]
theorem HZ {a:s9} (h:IG a):loop (λz=>gP a z) 0=some (cond ((List.range (rL a).length).any (Ca (rL a) (rV a))) (Sum.inr false) (Sum.inl ())):=by
 have hn:=h.n;rw[←vK (n:=(rL a).length) (c:=λi=>(at? (rL a) i).bind λx=>(f8 x (rV a)).bind λt=>(cond (!t) (some true) ((cond (decide (i>0)) ((at? (rL a) (rJ (i-1))).bind λy=>(at? (rL a) i).bind λx=>some (decide (y.1>=x.1))) (some false)).bind λt=>some t))) (b:=Ca (rL a) (rV a)) (by omega) (λk hk=>by
  simp only[sa hk,rG,QL (h.j _ (getElem_mem hk)),Ca,List.getElem?_eq_getElem hk];by_cases h0:0<k
  · have hd:decide ((k:Int)>0)=true:=dT (by omega);simp only[hd,A9 hk h0 (by omega),rG,dT h0,List.getElem?_eq_getElem (show k-1<(rL a).length by omega),cT];cases rM (rL a)[k].1 1 (rV a)<;>cases decide ((rL a)[k-1].1>=(rL a)[k].1)<;>cases AD (rL a)[k]<;>rfl
  · have hd:decide ((k:Int)>0)=false:=dF (by omega);simp only[hd,dF h0];cases rM (rL a)[k].1 1 (rV a)<;>cases AD (rL a)[k]<;>rfl)]
 refine uC (λi=>?_) 0;unfold gP rL rV;simp only[Option.bind_assoc,rG]
theorem Q3 (n m:Int):decide (n>m)=!(decide (n<=m)):=by
 by_cases h:n<=m
 · rw[dT h,dF (by omega)];rfl
 · rw[dF h,dT (by omega)];rfl
theorem EN {a:s9} (h:IG a):eG a=some (zf a):=by
 have hb:bx (a.1,a.2.1,a.2.2.1,a.2.2.2.1,a.2.2.2.2.1,a.2.2.2.2.2.1,a.2.2.2.2.2.2.1,a.2.2.2.2.2.2.2.1,a.2.2.2.2.2.2.2.2.1,a.2.2.2.2.2.2.2.2.2.1,a.2.2.2.2.2.2.2.2.2.2.1)=some (sO (aB a)):=BE h.b;unfold eG zf;rw[JP h,hb];simp only[KW,rG,Q3,sD,rV];generalize (List.range (rL a).length).any _=u;show _=some (!u&&(sO (aB a)&&(_&&(decide ((a.2.2.2.2.2.2.2.2.2.2.2.2.1.length:Int)<=6)&&(_)))))
 cases u<;>cases sO (aB a)<;>cases decide ((a.2.2.2.2.2.2.2.2.2.2.2.1.length:Int)<=20)<;>cases decide ((a.2.2.2.2.2.2.2.2.2.2.2.2.1.length:Int)<=6)<;>cases rM a.2.2.2.2.2.2.2.2.2.2.2.2.2.1 0 1000000<;>cases rM a.2.2.2.2.2.2.2.2.2.2.2.2.2.2 0 1000000<;>rfl
theorem HA {a:s9} (h:IG a):dP a=some (zf a):=by
 have hb:aV (a.1,a.2.1,a.2.2.1,a.2.2.2.1,a.2.2.2.2.1,a.2.2.2.2.2.1,a.2.2.2.2.2.2.1,a.2.2.2.2.2.2.2.1,a.2.2.2.2.2.2.2.2.1,a.2.2.2.2.2.2.2.2.2.1,a.2.2.2.2.2.2.2.2.2.2.1)=some (sO (aB a)):=zm h.b;unfold dP zf;rw[HZ h,hb];simp only[xP,rG,sD,rV];generalize (List.range (rL a).length).any _=u;show _=some (!u&&(sO (aB a)&&(_&&(decide ((a.2.2.2.2.2.2.2.2.2.2.2.2.1.length:Int)<=6)&&(_)))))
 cases u<;>cases sO (aB a)<;>cases decide ((a.2.2.2.2.2.2.2.2.2.2.2.1.length:Int)<=20)<;>cases decide ((a.2.2.2.2.2.2.2.2.2.2.2.2.1.length:Int)<=6)<;>cases rM a.2.2.2.2.2.2.2.2.2.2.2.2.2.1 0 1000000<;>cases rM a.2.2.2.2.2.2.2.2.2.2.2.2.2.2 0 1000000<;>rfl
theorem D1 {α:Type} {l:List α} {step:Int×List α->Option ((Int×List α)⊕List α)} (hn:l.length<=M)
 (hs:∀k (hk:k<l.length) out,step ((k:Int),out)=(sf out [l[k]]).bind λzs=>some (.inl (((k+1:Nat):Int),zs)))
 (he:∀out,step ((l.length:Int),out)=some (.inr out)):loop step (0,[])=some l:=by
 have hn':l.length<=1048576:=hn;obtain⟨b,h1,rfl⟩:=se (step:=step) (λk z=>z=((k:Int),l.take k)) l.length (λb=>b=l)
  (λk z hk e=>by
   subst e;left;refine⟨_,by rw[hs k hk,rP (by rw[length_take];show _+1<=_;omega),rG],?_⟩;rw[take_add_one,List.getElem?_eq_getElem hk];rfl)
  (λz e=>by
   subst e;exact⟨_,he _,by rw[take_length]⟩) (x:=(0,[])) rfl
 exact h1
theorem NA {v:vl} (h:Qa M v):fL v=some v:=by unfold fL;rw[C8 h.2];rfl
theorem D2 {l:List rK} (h:zO M l):dy l=some l:=by
 have hn:l.length<=1048576:=h.1;unfold dy;rw[D1 (step:=λz=>dx l z.1 z.2) h.1 (λk hk out=>by
  show dx l (k:Int) out=_;unfold dx;have hx:=h.2 _ (getElem_mem hk)
  rw[sG (by omega),cT,sa hk,rG,C8 hx.1,rG,NA hx.2,rG,rW (by omega)]) (λout=>by
  show dx l (l.length:Int) out=_;unfold dx;rw[sv (by omega),cF])];rfl
theorem A3 {l:List rK} (h:zO M l):cD l=some l:=by
 have hn:l.length<=1048576:=h.1;unfold cD;rw[D1 (step:=λz=>dO l z.1 z.2) h.1 (λk hk out=>by
  show dO l (k:Int) out=_;unfold dO;have hx:=h.2 _ (getElem_mem hk)
  rw[sG (by omega),cT,sa hk,rG,vf hx.2.2,rG,rG,vf hx.1,rG,rW (by omega)]) (λout=>by
  show dO l (l.length:Int) out=_;unfold dO;rw[sv (by omega),cF])];rfl
theorem NC {p:sj} (h:vM M p):eA p=some p:=by unfold eA;rw[D2 h];rfl
theorem Mh {p:sj} (h:vM M p):eY p=some p:=by unfold eY;rw[A3 h];rfl
theorem AY {a:s9} (h:Iw M a):eB a=some a:=by
 obtain⟨h1,h2,h3,h4⟩:=h;have hn:(rL a).length<=1048576:=h3
 unfold eB;have hb:ar (a.1,a.2.1,a.2.2.1,a.2.2.2.1,a.2.2.2.2.1,a.2.2.2.2.2.1,a.2.2.2.2.2.2.1,a.2.2.2.2.2.2.2.1,a.2.2.2.2.2.2.2.2.1,a.2.2.2.2.2.2.2.2.2.1,a.2.2.2.2.2.2.2.2.2.2.1)=some (aB a):=xg h1
 rw[hb,rG,D1 (l:=rL a) (step:=λz=>dz a z.1 z.2) h3 (λk hk out=>by
  show dz a (k:Int) out=_;unfold dz;obtain⟨hx1,hx2,hx3⟩:=h4 _ (getElem_mem hk);have e0:at? a.2.2.2.2.2.2.2.2.2.2.2.2.1 (k:Int)=some (rL a)[k]:=sa hk
  rw[sG (show (k:Int)<(a.2.2.2.2.2.2.2.2.2.2.2.2.1.length:Int) by show (k:Int)<((rL a).length:Int);omega),cT,e0,rG];generalize (rL a)[k]=x at hx1 hx2 hx3;have e1:eA (x.2.2.2.1,x.2.2.2.2.1,x.2.2.2.2.2.1,x.2.2.2.2.2.2.1,x.2.2.2.2.2.2.2.1)=some (jP x):=NC hx2
  have e2:ar (x.2.2.2.2.2.2.2.2.1,x.2.2.2.2.2.2.2.2.2.1,x.2.2.2.2.2.2.2.2.2.2.1,x.2.2.2.2.2.2.2.2.2.2.2.1,x.2.2.2.2.2.2.2.2.2.2.2.2.1,x.2.2.2.2.2.2.2.2.2.2.2.2.2.1,x.2.2.2.2.2.2.2.2.2.2.2.2.2.2.1,x.2.2.2.2.2.2.2.2.2.2.2.2.2.2.2.1,x.2.2.2.2.2.2.2.2.2.2.2.2.2.2.2.2.1,x.2.2.2.2.2.2.2.2.2.2.2.2.2.2.2.2.2.1,x.2.2.2.2.2.2.2.2.2.2.2.2.2.2.2.2.2.2.1)=some (jB x):=xg hx3;rw[yJ hx1,rG,e1,rG,e2,rG,rW (by omega)];rfl) (λout=>by
  show dz a ((rL a).length:Int) out=_;unfold dz;rw[sv (show ¬((rL a).length:Int)<(a.2.2.2.2.2.2.2.2.2.2.2.2.1.length:Int) by show ¬((rL a).length:Int)<((rL a).length:Int);omega),cF])]
 rfl
theorem Cb {a:s9} (h:Iw M a):f0 a=some a:=by
 obtain⟨h1,h2,h3,h4⟩:=h;have hn:(rL a).length<=1048576:=h3
 unfold f0;have hb:ap (a.1,a.2.1,a.2.2.1,a.2.2.2.1,a.2.2.2.2.1,a.2.2.2.2.2.1,a.2.2.2.2.2.2.1,a.2.2.2.2.2.2.2.1,a.2.2.2.2.2.2.2.2.1,a.2.2.2.2.2.2.2.2.2.1,a.2.2.2.2.2.2.2.2.2.2.1)=some (aB a):=uP h1
 rw[hb,rG];obtain⟨d,d1,rfl⟩:=se (step:=λz:Int×Int×List UInt8×Int×Int×Int×Int×Int×List UInt8×Int×Int×List sY=>eZ a z.1 z.2.1 z.2.2.1 z.2.2.2.1 z.2.2.2.2.1 z.2.2.2.2.2.1 z.2.2.2.2.2.2.1 z.2.2.2.2.2.2.2.1 z.2.2.2.2.2.2.2.2.1 z.2.2.2.2.2.2.2.2.2.1 z.2.2.2.2.2.2.2.2.2.2.1 z.2.2.2.2.2.2.2.2.2.2.2)
  (λk z=>z=((k:Int),a.1,a.2.1,a.2.2.2.2.2.2.1,a.2.2.2.2.2.2.2.1,a.2.2.2.2.2.2.2.2.1,a.2.2.2.2.2.2.2.2.2.1,a.2.2.2.2.2.2.2.2.2.2.1,a.2.2.2.2.2.2.2.2.2.2.2.1,a.2.2.2.2.2.2.2.2.2.2.2.2.2.1,a.2.2.2.2.2.2.2.2.2.2.2.2.2.2,(rL a).take k)) (rL a).length
  (λd=>d=(a.1,a.2.1,a.2.2.2.2.2.2.1,a.2.2.2.2.2.2.2.1,a.2.2.2.2.2.2.2.2.1,a.2.2.2.2.2.2.2.2.2.1,a.2.2.2.2.2.2.2.2.2.2.1,a.2.2.2.2.2.2.2.2.2.2.2.1,a.2.2.2.2.2.2.2.2.2.2.2.2.2.1,a.2.2.2.2.2.2.2.2.2.2.2.2.2.2,rL a))
  (λk z hk e=>by
   subst e;left;simp only;unfold eZ;obtain⟨hx1,hx2,hx3⟩:=h4 _ (getElem_mem hk);have e0:at? a.2.2.2.2.2.2.2.2.2.2.2.2.1 (k:Int)=some (rL a)[k]:=sa hk
   have et:(rL a).take (k+1)=(rL a).take k++[(rL a)[k]]:=by rw[take_add_one,List.getElem?_eq_getElem hk];rfl
   rw[sG (show (k:Int)<(a.2.2.2.2.2.2.2.2.2.2.2.2.1.length:Int) by show (k:Int)<((rL a).length:Int);omega),cT,e0,rG,et];generalize (rL a)[k]=x at hx1 hx2 hx3;have e1:eY (x.2.2.2.1,x.2.2.2.2.1,x.2.2.2.2.2.1,x.2.2.2.2.2.2.1,x.2.2.2.2.2.2.2.1)=some (jP x):=Mh hx2
   have e2:ap (x.2.2.2.2.2.2.2.2.1,x.2.2.2.2.2.2.2.2.2.1,x.2.2.2.2.2.2.2.2.2.2.1,x.2.2.2.2.2.2.2.2.2.2.2.1,x.2.2.2.2.2.2.2.2.2.2.2.2.1,x.2.2.2.2.2.2.2.2.2.2.2.2.2.1,x.2.2.2.2.2.2.2.2.2.2.2.2.2.2.1,x.2.2.2.2.2.2.2.2.2.2.2.2.2.2.2.1,x.2.2.2.2.2.2.2.2.2.2.2.2.2.2.2.2.1,x.2.2.2.2.2.2.2.2.2.2.2.2.2.2.2.2.2.1,x.2.2.2.2.2.2.2.2.2.2.2.2.2.2.2.2.2.2.1)=some (jB x):=uP hx3;rw[vf hx1,rG,e1,rG,e2,rG,rP (by rw[length_take];show _+1<=_;omega),rG,rW (by omega)];exact⟨_,rfl,rfl⟩)
  (λz e=>by
   subst e;simp only;unfold eZ;rw[sv (show ¬((rL a).length:Int)<(a.2.2.2.2.2.2.2.2.2.2.2.2.1.length:Int) by show ¬((rL a).length:Int)<((rL a).length:Int);omega),cF,take_length];exact⟨_,rfl,rfl⟩) (x:=(0,a.1,a.2.1,a.2.2.2.2.2.2.1,a.2.2.2.2.2.2.2.1,a.2.2.2.2.2.2.2.2.1,a.2.2.2.2.2.2.2.2.2.1,a.2.2.2.2.2.2.2.2.2.2.1,a.2.2.2.2.2.2.2.2.2.2.2.1,a.2.2.2.2.2.2.2.2.2.2.2.2.2.1,a.2.2.2.2.2.2.2.2.2.2.2.2.2.2,[])) rfl
 have d1':loop (λz:Int×Int×List UInt8×Int×Int×Int×Int×Int×List UInt8×Int×Int×List sY=>eZ a z.1 z.2.1 z.2.2.1 z.2.2.2.1 z.2.2.2.2.1 z.2.2.2.2.2.1 z.2.2.2.2.2.2.1 z.2.2.2.2.2.2.2.1 z.2.2.2.2.2.2.2.2.1 z.2.2.2.2.2.2.2.2.2.1 z.2.2.2.2.2.2.2.2.2.2.1 z.2.2.2.2.2.2.2.2.2.2.2) (0,(aB a).1,(aB a).2.1,(aB a).2.2.2.2.2.2.1,(aB a).2.2.2.2.2.2.2.1,(aB a).2.2.2.2.2.2.2.2.1,(aB a).2.2.2.2.2.2.2.2.2.1,(aB a).2.2.2.2.2.2.2.2.2.2,a.2.2.2.2.2.2.2.2.2.2.2.1,a.2.2.2.2.2.2.2.2.2.2.2.2.2.1,a.2.2.2.2.2.2.2.2.2.2.2.2.2.2,[])=_:=d1;rw[d1'];rfl

def ut (l:List s5) (id:Int):Int:=match l.findIdx? (λr=>r.1==id)with|some k=>(k:Int)|none=>-1
theorem D3 {v:sR} (hn:v.1.length<9223372036854775807) (id:Int):aq v id=some (ut v.1 id):=by
 unfold aq ut;obtain⟨b,h1,rfl⟩:=se (β:=Unit⊕Int) (step:=λz=>aF v id z) (λk i=>i=(k:Int)/\∀j (hj:j<k),∀(hl:j<v.1.length),¬((v.1[j].1==id)=true)) v.1.length (λb=>b=match v.1.findIdx? (λr=>r.1==id)with|some k=>.inr (k:Int)|none=>.inl ())
  (λk i hk ⟨h,hy⟩=>by
   subst h;unfold aF;rw[sG (by omega),cT,sa hk,rG];cases hb:(v.1[k].1==id)with
   | true =>
    refine .inr ⟨_,rfl,?_⟩;rw[List.findIdx?_eq_some_iff_getElem.2 ⟨hk,hb,λj hj=>hy j hj (by omega)⟩]
   | false =>
    refine .inl ⟨_,rfl,rW (by omega),λj hj hl=>?_⟩;by_cases hjk:j=k
    · subst hjk;rw[hb];simp
    · exact hy j (by omega) hl)
  (λi ⟨h,hy⟩=>by
   subst h;refine⟨.inl (),by unfold aF;rw[sv (by omega),cF],?_⟩;rw[List.findIdx?_eq_none_iff.2 λx hx=>by
    obtain⟨j,hj,rfl⟩:=getElem_of_mem hx;have:=hy j hj hj
    simpa using this]) (x:=0) ⟨rfl,λj hj=>by omega⟩
 rw[h1,rG];cases v.1.findIdx? (λr=>r.1==id)<;>rfl
theorem ND {v:sR} (hn:v.1.length<9223372036854775807) (id:Int):bc v id=some (ut v.1 id):=D3 hn id
theorem A4 {l:List s5} {id:Int} (h:0<=ut l id):∃k,∃hk:k<l.length,ut l id=(k:Int)/\l[k].1=id:=by
 unfold ut at h ⊢;cases hf:l.findIdx? (λr=>r.1==id)with
 | none=>rw[hf]at h;simp at h
 | some k =>
  obtain⟨hk,h1,_⟩:=List.findIdx?_eq_some_iff_getElem.1 hf;exact⟨k,hk,rfl,by simpa using h1⟩
theorem JQ {l:List s5} {id:Int} (h:ut l id<0):∀x∈l,x.1≠id:=by
 unfold ut at h;cases hf:l.findIdx? (λr=>r.1==id)with
 | some k=>rw[hf]at h;simp at h;omega
 | none =>
  intro x hx;have:=List.findIdx?_eq_none_iff.1 hf x hx
  simpa using this
def Dn (l:List rR) (tag mac:Int):Int:=match l.findIdx? (λe=>e.1==tag&&e.2.1==mac)with|some k=>(k:Int)|none=>-1
theorem OU {l:List rR} (hn:l.length<9223372036854775807) (tag mac:Int):fV l tag mac=some (Dn l tag mac):=by
 unfold fV Dn;obtain⟨b,h1,rfl⟩:=se (β:=Unit⊕Int) (step:=λz=>cA l tag mac z) (λk i=>i=(k:Int)/\∀j (hj:j<k),∀(hl:j<l.length),¬((l[j].1==tag&&l[j].2.1==mac)=true)) l.length (λb=>b=match l.findIdx? (λe=>e.1==tag&&e.2.1==mac)with|some k=>.inr (k:Int)|none=>.inl ())
  (λk i hk ⟨h,hy⟩=>by
   subst h;have hs:cA l tag mac (k:Int)=cond (l[k].1==tag&&l[k].2.1==mac) (some (.inr (.inr (k:Int)))) (some (.inl ((k+1:Nat):Int))):=by
    unfold cA;simp only[sG (show (k:Int)<(l.length:Int) by omega),cT,sa hk,rG,rW (show k<9223372036854775807 by omega)];cases l[k].1==tag<;>rfl
   show (∃y,cA l tag mac (k:Int)=some (.inl y)/\_)\/∃b,cA l tag mac (k:Int)=some (.inr b)/\_;rw[hs];cases hb:(l[k].1==tag&&l[k].2.1==mac)with
   | true =>
    refine .inr ⟨_,rfl,?_⟩;rw[List.findIdx?_eq_some_iff_getElem.2 ⟨hk,hb,λj hj=>hy j hj (by omega)⟩]
   | false =>
    refine .inl ⟨_,rfl,rfl,λj hj hl=>?_⟩;by_cases hjk:j=k
    · subst hjk;rw[hb];simp
    · exact hy j (by omega) hl)
  (λi ⟨h,hy⟩=>by
   subst h;refine⟨.inl (),by unfold cA;rw[sv (by omega),cF],?_⟩;rw[List.findIdx?_eq_none_iff.2 λx hx=>by
    obtain⟨j,hj,rfl⟩:=getElem_of_mem hx;have:=hy j hj hj
    simpa using this]) (x:=0) ⟨rfl,λj hj=>by omega⟩
 rw[h1,rG];cases l.findIdx? (λe=>e.1==tag&&e.2.1==mac)<;>rfl
theorem NE {l:List rR} (hn:l.length<9223372036854775807) (tag mac:Int):bM l tag mac=some (Dn l tag mac):=by
 unfold bM Dn;obtain⟨b,h1,rfl⟩:=se (β:=Unit⊕Int) (step:=λz=>aR l tag mac z) (λk i=>i=(k:Int)/\∀j (hj:j<k),∀(hl:j<l.length),¬((l[j].1==tag&&l[j].2.1==mac)=true)) l.length (λb=>b=match l.findIdx? (λe=>e.1==tag&&e.2.1==mac)with|some k=>.inr (k:Int)|none=>.inl ())
  (λk i hk ⟨h,hy⟩=>by
   subst h;have hs:aR l tag mac (k:Int)=cond (l[k].1==tag&&l[k].2.1==mac) (some (.inr (.inr (k:Int)))) (some (.inl ((k+1:Nat):Int))):=by
    unfold aR;simp only[sG (show (k:Int)<(l.length:Int) by omega),cT,sa hk,rG,rW (show k<9223372036854775807 by omega)];cases l[k].1==tag<;>rfl
   show (∃y,aR l tag mac (k:Int)=some (.inl y)/\_)\/∃b,aR l tag mac (k:Int)=some (.inr b)/\_;rw[hs];cases hb:(l[k].1==tag&&l[k].2.1==mac)with
   | true =>
    refine .inr ⟨_,rfl,?_⟩;rw[List.findIdx?_eq_some_iff_getElem.2 ⟨hk,hb,λj hj=>hy j hj (by omega)⟩]
   | false =>
    refine .inl ⟨_,rfl,rfl,λj hj hl=>?_⟩;by_cases hjk:j=k
    · subst hjk;rw[hb];simp
    · exact hy j (by omega) hl)
  (λi ⟨h,hy⟩=>by
   subst h;refine⟨.inl (),by unfold aR;rw[sv (by omega),cF],?_⟩;rw[List.findIdx?_eq_none_iff.2 λx hx=>by
    obtain⟨j,hj,rfl⟩:=getElem_of_mem hx;have:=hy j hj hj
    simpa using this]) (x:=0) ⟨rfl,λj hj=>by omega⟩
 rw[h1,rG];cases l.findIdx? (λe=>e.1==tag&&e.2.1==mac)<;>rfl

def un (o:List Int) (lo hi:Int) (head:List Int):Bool:=(o.length==head.length+4)&&((o.take (head.length+3)==[1,3,1]++head)&&(match o[head.length+3]? with|some x=>rM x lo hi|none=>false))
theorem Cc {o:List Int} (lo hi:Int) {head:List Int} (ho:o.length<=M) (hh:head.length<=100):aO o lo hi head=some (un o lo hi head):=by
 have ho':o.length<=1048576:=ho;have hw:rJ ((head.length:Int)+4)=((head.length+4:Nat):Int):=by rw[sg (by omega) (by omega)];omega
 unfold aO un;rw[hw];by_cases hl:o.length=head.length+4
 · have hw2:rJ ((o.length:Int)-1)=((head.length+3:Nat):Int):=by rw[sg (by omega) (by omega)];omega
   have hc:cut o 0 ((head.length+3:Nat):Int)=some (o.take (head.length+3)):=by
    rw[show (0:Int)=((0:Nat):Int)from rfl,vw (Nat.zero_le _) (by omega),drop_zero]
   have hlt:head.length+3<o.length:=by omega
   rw[show ((o.length:Int)==((head.length+4:Nat):Int))=true from beq_iff_eq.2 (by omega),cT,hw2,hc,rG,rP (by show 3+head.length<=_;omega),rG,AX (by rw[length_append];show 3+head.length<_;omega),rG,sa hlt,rG,vI,rG,List.getElem?_eq_getElem hlt];rw[show (o.length==head.length+4)=true from beq_iff_eq.2 hl];cases (o.take (head.length+3)==[1,3,1]++head)<;>rfl
 · rw[show ((o.length:Int)==((head.length+4:Nat):Int))=false from beq_eq_false_iff_ne.2 (by omega),cF,show (o.length==head.length+4)=false from beq_eq_false_iff_ne.2 hl];rfl
abbrev uX (b:rI):Int:=(b.2.2.1.length:Int)
abbrev wi (b:rI):List s5:=b.2.2.2.2.1
def JR (b:rI) (o:List Int):Bool:=un o 1 1 [1]||(un o 1 (uX b) [2,2]||(un o 1 (uX b) [2,4]||(un o 1 99 [3,1]||((un o 1 99 [3,2]||un o 1 99 [3,3])&&(match o[5]? with|some x=>decide (ut (wi b) x>=0)|none=>false)))))
theorem HB {o:List Int} {lo hi:Int} {head:List Int} (h:un o lo hi head=true):o.length=head.length+4:=by
 unfold un at h;simp only[aT,beq_iff_eq]at h;exact h.1
theorem QM {b:rI} (hb:yb M b) {o:List Int} (ho:o.length<=M):fT b o=some (JR b o):=by
 have hr:b.2.2.2.2.1.length<9223372036854775807:=by have:b.2.2.2.2.1.length<=1048576:=hb.2.2.2.1;omega
 unfold fT JR;rw[Cc 1 1 ho (by decide),Cc 1 _ ho (by decide),Cc 1 _ ho (by decide),Cc 1 99 ho (by decide),Cc 1 99 ho (by decide),Cc 1 99 ho (by decide)];simp only[rG];cases un o 1 1 [1]with
 | true=>rfl
 | false =>
 cases un o 1 (uX b) [2,2]with
 | true=>rfl
 | false =>
 cases un o 1 (uX b) [2,4]with
 | true=>rfl
 | false =>
 cases un o 1 99 [3,1]with
 | true=>rfl
 | false =>
 have key:o.length=6->((at? o 5).bind λx41=>(aq (b.2.2.2.2.1,b.2.2.2.2.2.1) x41).bind λt43=>some (decide (t43>=0)))=some (match o[5]? with|some x=>decide (ut (wi b) x>=0)|none=>false):=by
  intro h6;have h5:5<o.length:=by omega
  rw[show (5:Int)=((5:Nat):Int)from rfl,sa h5,rG,D3 hr,rG,List.getElem?_eq_getElem h5]
 cases h2:un o 1 99 [3,2]with
 | true =>
  simp only[cF,cT,rG,Bool.false_or,Bool.true_or,Bool.true_and];rw[key (HB h2)];rfl
 | false =>
  cases h3:un o 1 99 [3,3]with
  | true =>
   simp only[cF,cT,rG,Bool.false_or,Bool.or_true,Bool.true_and];rw[key (HB h3)];rfl
  | false=>rfl
def Gq (b:rI) (o:List Int):Bool:=un o 2 5 [1]||(un o 1 (uX b) [2,1]||(un o 1 (uX b) [2,3]||(((o.length==7)&&(o.take 5==[1,3,1,4,1]))&&(match o[5]?,o[6]? with|some x,some y=>decide (Dn b.2.2.2.1 x y>=0)|_,_=>false))))
theorem Q4 {b:rI} (hb:yb M b) {o:List Int} (ho:o.length<=M):fW b o=some (Gq b o):=by
 have hr:b.2.2.2.1.length<9223372036854775807:=by have:b.2.2.2.1.length<=1048576:=hb.2.2.1;omega
 unfold fW Gq;rw[Cc 2 5 ho (by decide),Cc 1 _ ho (by decide),Cc 1 _ ho (by decide)];simp only[rG];cases un o 2 5 [1]with
 | true=>rfl
 | false =>
 cases un o 1 (uX b) [2,1]with
 | true=>rfl
 | false =>
 cases un o 1 (uX b) [2,3]with
 | true=>rfl
 | false =>
 by_cases h7:o.length=7
 · have h5:5<o.length:=by omega
   have h6:6<o.length:=by omega
   have hc:cut o 0 5=some (o.take 5):=by
    rw[show (0:Int)=((0:Nat):Int)from rfl,show (5:Int)=((5:Nat):Int)from rfl,vw (Nat.zero_le _) (by omega),drop_zero]
   rw[show ((o.length:Int)==7)=true from beq_iff_eq.2 (by omega),show (o.length==7)=true from beq_iff_eq.2 h7];simp only[cF,cT,rG,hc,AX (show ([1,3,1,4,1]:List Int).length<9223372036854775807 by decide),Bool.false_or,Bool.true_and];cases (o.take 5==[1,3,1,4,1])with
   | false=>rfl
   | true =>
    rw[show (5:Int)=((5:Nat):Int)from rfl,show (6:Int)=((6:Nat):Int)from rfl];simp only[cT,sa h5,sa h6,rG,OU hr,List.getElem?_eq_getElem h5,List.getElem?_eq_getElem h6,Bool.true_and]
 · rw[show ((o.length:Int)==7)=false from beq_eq_false_iff_ne.2 (by omega),show (o.length==7)=false from beq_eq_false_iff_ne.2 h7];rfl

def zp (o:List Int):Bool:=decide (o.length>3)&&(o.take 3==[1,3,1])
theorem OV {o:List Int} (ho:o.length<=M):fi o=some (cond (zp o) (o.drop 3,true) ([],false)):=by
 have ho':o.length<=1048576:=ho;unfold fi gT zp;by_cases h:o.length>3
 · have hc:cut o 0 ((([1,3,1]:List Int).length:Nat):Int)=some (o.take 3):=by
    rw[show (0:Int)=((0:Nat):Int)from rfl,vw (Nat.zero_le _) (by show 3<=_;omega),drop_zero];rfl
   have hc2:cut o 3 (o.length:Int)=some (o.drop 3):=by
    rw[show (3:Int)=((3:Nat):Int)from rfl,vw (by omega) (Nat.le_refl _),take_length]
   have hs:cK (o.take 3) [1,3,1]=some (o.take 3==[1,3,1]):=AX (a:=o.take 3) (b:=[1,3,1]) (by decide);rw[dT (show (o.length:Int)>(([1,3,1]:List Int).length:Int) by show (o.length:Int)>3;omega),cT,hc,rG,hs,dT h];simp only[rG,Bool.true_and];cases (o.take 3==[1,3,1])with
   | false=>rfl
   | true=>simp only[Bool.not_true,cF,cT,hc2,rG]
 · rw[dF (show ¬(o.length:Int)>(([1,3,1]:List Int).length:Int) by show ¬(o.length:Int)>3;omega),dF h];rfl
def E3 (b:rI) (o:List Int):Bool:=zp o&&(match o.drop 3 with
 | [a,c]=>a==1&&c==1
 | [a,c,p]=>(a==2&&((c==2||c==4)&&rM p 1 (uX b)))||(a==3&&((c==1&&rM p 1 99)||((c==2||c==3)&&decide (ut (wi b) p>=0))))
 | _=>false)
theorem QN {b:rI} (hb:yb M b) {o:List Int} (ho:o.length<=M):gn b o=some (E3 b o):=by
 have hr:b.2.2.2.2.1.length<9223372036854775807:=by have:b.2.2.2.2.1.length<=1048576:=hb.2.2.2.1;omega
 unfold gn E3;rw[OV ho,rG];cases zp o with
 | false=>rfl
 | true =>
  simp only[cT,Bool.not_true,cF,Bool.true_and]
  match o.drop 3 with
  | []=>rfl
  | [a]=>rfl
  | [a,c] =>
   rw[show (([a,c].length:Int)==2)=true from rfl,cT,show at? [a,c] 0=some a from rfl,show at? [a,c] 1=some c from rfl];simp only[rG];cases a==1<;>rfl
  | [a,c,p] =>
   rw[show (([a,c,p].length:Int)==2)=false from rfl,cF,show (([a,c,p].length:Int) != 3)=false from rfl,cF,show at? [a,c,p] 0=some a from rfl,show at? [a,c,p] 1=some c from rfl,show at? [a,c,p] 2=some p from rfl];simp only[rG,xP,ND (v:=(b.2.2.2.2.1,b.2.2.2.2.2.1)) hr];by_cases h2:a=2
   · subst h2;cases c==2<;>cases c==4<;>simp
   · by_cases h3:a=3
     · subst h3;cases c==1<;>cases c==2<;>cases c==3<;>cases rM p 1 99<;>simp
     · rw[show (a==2)=false from beq_eq_false_iff_ne.2 h2,show (a==3)=false from beq_eq_false_iff_ne.2 h3];rfl
  | a::c::p::q::l =>
   simp only[length_cons];rw[show ((((l.length+1+1+1+1:Nat):Int))==2)=false from beq_eq_false_iff_ne.2 (by omega),show ((((l.length+1+1+1+1:Nat):Int)) != 3)=true from bne_iff_ne.2 (by omega)];rfl
def EO (b:rI) (o:List Int):Bool:=zp o&&(match o.drop 3 with
 | [a,c]=>a==1&&rM c 2 5
 | [a,c,p]=>a==2&&((c==1||c==3)&&rM p 1 (uX b))
 | [a,c,p,q]=>(a==4&&c==1)&&decide (Dn b.2.2.2.1 p q>=0)
 | _=>false)
theorem Q5 {b:rI} (hb:yb M b) {o:List Int} (ho:o.length<=M):gp b o=some (EO b o):=by
 have hr:b.2.2.2.1.length<9223372036854775807:=by have:b.2.2.2.1.length<=1048576:=hb.2.2.1;omega
 unfold gp EO;rw[OV ho,rG];cases zp o with
 | false=>rfl
 | true =>
  simp only[cT,Bool.not_true,cF,Bool.true_and]
  match o.drop 3 with
  | []=>rfl
  | [a]=>rfl
  | [a,c] =>
   rw[show (([a,c].length:Int)==2)=true from rfl,cT,show at? [a,c] 0=some a from rfl,show at? [a,c] 1=some c from rfl];simp only[rG,xP];cases a==1<;>rfl
  | [a,c,p] =>
   rw[show (([a,c,p].length:Int)==2)=false from rfl,cF,show (([a,c,p].length:Int)==3)=true from rfl,cT,show at? [a,c,p] 0=some a from rfl,show at? [a,c,p] 1=some c from rfl,show at? [a,c,p] 2=some p from rfl];simp only[rG,xP];cases a==2<;>cases c==1<;>cases c==3<;>simp
  | [a,c,p,q] =>
   rw[show (([a,c,p,q].length:Int)==2)=false from rfl,cF,show (([a,c,p,q].length:Int)==3)=false from rfl,cF,show (([a,c,p,q].length:Int)==4)=true from rfl,cT,show at? [a,c,p,q] 0=some a from rfl,show at? [a,c,p,q] 1=some c from rfl,show at? [a,c,p,q] 2=some p from rfl,show at? [a,c,p,q] 3=some q from rfl];simp only[rG,NE hr];cases a==4<;>cases c==1<;>simp
  | a::c::p::q::r::l =>
   simp only[length_cons];rw[show ((((l.length+1+1+1+1+1:Nat):Int))==2)=false from beq_eq_false_iff_ne.2 (by omega),show ((((l.length+1+1+1+1+1:Nat):Int))==3)=false from beq_eq_false_iff_ne.2 (by omega),show ((((l.length+1+1+1+1+1:Nat):Int))==4)=false from beq_eq_false_iff_ne.2 (by omega)];rfl

structure wD (b:rI):Prop where
 id:rM b.1 1 99=true
 name:b.2.1.length<=10
 n1:1<=b.2.2.1.length
 n6:b.2.2.1.length<=6
 p:∀x∈b.2.2.1,yH x=true
 f:xu b.2.2.2.1=true
 c:ux b=true
 q:b.2.2.2.2.2.1.length=b.2.2.1.length
 v:b.2.2.2.2.1.length<=6
 s:b.2.2.2.2.1.Pairwise λr s=>r.1<s.1
 i:∀r∈b.2.2.2.2.1,rM r.1 1 99=true
 h:∀r∈b.2.2.2.2.1,-9223372036854775808<=r.2.2/\r.2.2<=9223372036854775807
theorem wD.f12 {b:rI} (h:wD b):b.2.2.2.1.length<=12:=by
 have hf:=h.f;unfold xu at hf;simp only[aT,decide_eq_true_eq]at hf;omega
theorem wD.le {b:rI} (h:wD b):yb M b:=by
 have h1:=h.name;have h2:=h.n6;have h3:=h.f12;have h4:=h.v;have h5:=h.q
 have hM:M=1048576:=rfl;exact⟨by omega,by omega,by omega,by omega,by omega⟩
theorem sT.sok {b:rI} (h:sT b):wD b:=by
 obtain⟨v1,v2,v3,v4⟩:=h.vt.len;refine⟨h.id,h.name,h.n1,h.n6,h.p,h.f,h.c,v3,v4,G3 h,λr hr=>?_,h.w.r⟩;obtain⟨k,hk,rfl⟩:=getElem_of_mem hr;have hv:=h.v
 unfold vc at hv;simp only[aT,Bool.not_eq_true']at hv;have hx:=any_eq_false.1 hv.2.1 k (mem_range.2 hk)
 unfold yv at hx;simp only[List.getElem?_eq_getElem hk]at hx;cases hq:rM b.2.2.2.2.1[k].1 1 99 with
 | true=>rfl
 | false=>rw[hq]at hx;simp at hx
theorem xk {o:List Int} (h:o.length<=2):(∀lo hi head,un o lo hi head=false)/\zp o=false:=by
 refine⟨λlo hi head=>?_,?_⟩
 · unfold un;rw[beq_eq_false_iff_ne.2 (by omega),Bool.false_and]
 · unfold zp;rw[dF (by omega),Bool.false_and]
theorem JS {x y z:Int} {t:List Int} (h:¬(x=1/\y=3/\z=1)):(∀lo hi head,un (x::y::z::t) lo hi head=false)/\zp (x::y::z::t)=false:=by
 refine⟨λlo hi head=>?_,?_⟩
 · unfold un;have:((x::y::z::t).take (head.length+3)==[1,3,1]++head)=false:=by
    rw[bF];intro e;rw[take_succ_cons,take_succ_cons,take_succ_cons]at e;simp at e;exact h ⟨e.1,e.2.1,e.2.2.1⟩
   rw[this,Bool.false_and,Bool.and_false]
 · unfold zp;have:((x::y::z::t).take 3==[1,3,1])=false:=by
    rw[bF];intro e;simp at e;exact h e
   rw[this,Bool.and_false]
theorem OW (t:List Int) (lo hi c:Int):un (1::3::1::t) lo hi [c]=match t with | [a,x]=>a==c&&rM x lo hi|_=>false:=by
 match t with
 | []=>simp[un]
 | [a]=>simp[un]
 | [a,x]=>simp[un]
 | a::x::y::t=>simp[un]
theorem OX (t:List Int) (lo hi c d:Int):un (1::3::1::t) lo hi [c,d]=match t with | [a,b,x]=>(a==c&&b==d)&&rM x lo hi|_=>false:=by
 match t with
 | []=>simp[un]
 | [a]=>simp[un]
 | [a,x]=>simp[un]
 | [a,b,x]=>simp[un]
 | a::b::x::y::t=>simp[un]
theorem OY (t:List Int):zp (1::3::1::t)=decide (0<t.length):=by
 unfold zp;rw[show ((1::3::1::t).take 3==[1,3,1])=true from rfl,Bool.and_true];simp
theorem Qf (c:Int):rM c 1 1=(c==1):=by
 unfold rM;by_cases h:c=1
 · subst h;rfl
 · rw[beq_eq_false_iff_ne.2 h];simp only[Bool.and_eq_false_iff,decide_eq_false_iff_not];omega
theorem NF {b:rI} (h:wD b) (o:List Int):JR b o=E3 b o:=by
 unfold JR E3
 match o with
 | []=>simp only[(xk (o:=[]) (by simp)).1,(xk (o:=[]) (by simp)).2];rfl
 | [x]=>simp only[(xk (o:=[x]) (by simp)).1,(xk (o:=[x]) (by simp)).2];rfl
 | [x,y]=>simp only[(xk (o:=[x,y]) (by simp)).1,(xk (o:=[x,y]) (by simp)).2];rfl
 | x::y::z::t =>
  by_cases h3:x=1/\y=3/\z=1
  · obtain⟨rfl,rfl,rfl⟩:=h3;simp only[OW,OX,OY,Qf]
    match t with
    | []=>rfl
    | [a]=>simp
    | [a,c]=>simp
    | [a,c,p] =>
     have hp:decide (ut (wi b) p>=0)=true->rM p 1 99=true:=by
      intro e;obtain⟨k,hk,_,e2⟩:=A4 (of_decide_eq_true e);rw[←e2];exact h.i _ (getElem_mem hk)
     have e5:(1::3::1::[a,c,p])[5]?=some p:=rfl;rw[e5];rw[show decide (0<[a,c,p].length)=true from rfl,Bool.true_and];show (((false:Bool)||((((a==2)&&(c==2))&&rM p 1 (uX b))||((((a==2)&&(c==4))&&rM p 1 (uX b))||((((a==3)&&(c==1))&&rM p 1 99)||(((((a==3)&&(c==2))&&rM p 1 99)||(((a==3)&&(c==3))&&rM p 1 99))&&decide (ut (wi b) p>=0)))))))=((a==2)&&(((c==2)||(c==4))&&rM p 1 (uX b))||(a==3)&&((c==1)&&rM p 1 99||((c==2)||(c==3))&&decide (ut (wi b) p>=0)))
     revert hp
     generalize (a==2)=a2;generalize (a==3)=a3;generalize (c==1)=c1;generalize (c==2)=c2;generalize (c==3)=c3;generalize (c==4)=c4;generalize rM p 1 (uX b)=pn;generalize rM p 1 99=pg;generalize decide (ut (wi b) p>=0)=R;clear e5
     revert a2 a3 c1 c2 c3 c4 pn pg R
     decide
    | a::c::p::q::l=>simp
  · simp only[(JS (t:=t) h3).1,(JS (t:=t) h3).2];rfl
theorem Lb {b:rI} (h:wD b) (o:List Int):Gq b o=EO b o:=by
 unfold Gq EO
 match o with
 | []=>simp only[(xk (o:=[]) (by simp)).1,(xk (o:=[]) (by simp)).2];rfl
 | [x]=>simp only[(xk (o:=[x]) (by simp)).1,(xk (o:=[x]) (by simp)).2];rfl
 | [x,y]=>simp only[(xk (o:=[x,y]) (by simp)).1,(xk (o:=[x,y]) (by simp)).2];rfl
 | x::y::z::t =>
  by_cases h3:x=1/\y=3/\z=1
  · obtain⟨rfl,rfl,rfl⟩:=h3;simp only[OW,OX,OY,Qf]
    match t with
    | []=>rfl
    | [a]=>simp
    | [a,c]=>simp
    | [a,c,p] =>
     have e7:((1::3::1::[a,c,p]).length==7)=false:=rfl;rw[e7,Bool.false_and,Bool.false_and,Bool.false_or];show ((a==2&&c==1)&&rM p 1 (uX b)||((a==2&&c==3)&&rM p 1 (uX b)||false))=(true&&(a==2&&((c==1||c==3)&&rM p 1 (uX b))))
     cases (a==2)<;>cases (c==1)<;>cases (c==3)<;>simp
    | [a,c,p,q]=>simp
    | a::c::p::q::r::l=>simp
  · simp only[(JS (t:=t) h3).1,(JS (t:=t) h3).2];rw[Bool.false_or,Bool.false_or,Bool.false_or,Bool.false_and];have:((x::y::z::t).take 5==[1,3,1,4,1])=false:=by
     rw[bF];intro e;simp at e;exact h3 ⟨e.1,e.2.1,e.2.2.1⟩
    rw[this,Bool.and_false,Bool.false_and]
def tM (r:s5):Bool->List s5->List s5
 | false,[]=>[r]
 | true,[]=>[]
 | false,x::t=>if x.1>=r.1 then r::(if x.1 != r.1 then x::tM r true t else tM r true t)else x::tM r false t
 | true,x::t=>if x.1 != r.1 then x::tM r true t else tM r true t
theorem AZ {r:s5}:∀{l:List s5},(∀x∈l,x.1≠r.1)->tM r true l=l
 | [],_=>rfl
 | x::t,h=>by
  unfold tM;rw[if_pos (bne_iff_ne.2 (h x (by simp))),AZ λy hy=>h y (mem_cons_of_mem _ hy)]
theorem E4 {r:s5}:∀{l:List s5} {k:Nat} (hk:k<l.length),l.Pairwise (λr s=>r.1<s.1)->l[k].1=r.1->tM r false l=l.set k r
 | x::t,0,_,hp,e=>by
  have e':x.1=r.1:=e;unfold tM;rw[if_pos (by omega),if_neg (by simp[e']),AZ λy hy=>by have:=(pairwise_cons.1 hp).1 y hy;omega];rfl
 | x::t,k+1,hk,hp,e=>by
  have e':(t[k]'(by simpa using hk)).1=r.1:=e;have:=(pairwise_cons.1 hp).1 _ (getElem_mem (by simpa using hk:k<t.length))
  unfold tM;rw[if_neg (by omega),E4 (by simpa using hk) (pairwise_cons.1 hp).2 e'];rfl
theorem II {r:s5}:∀{l:List s5} {d:Nat},l.Pairwise (λr s=>r.1<s.1)->(∀x∈l,x.1≠r.1)->(∀x∈l.take d,x.1<=r.1)->(∀x,l[d]?=some x->¬x.1<=r.1)->tM r false l=l.take d++r::l.drop d
 | [],d,_,_,_,_=>by simp[tM]
 | x::t,0,hp,hn,_,h2=>by
  have:=h2 x rfl;unfold tM;rw[if_pos (by omega),if_pos (bne_iff_ne.2 (hn x (by simp))),AZ λy hy=>hn y (mem_cons_of_mem _ hy)];rfl
 | x::t,d+1,hp,hn,h1,h2=>by
  have a1:=h1 x (by simp);have a2:=hn x (by simp)
  unfold tM;rw[if_neg (by omega),II (d:=d) (pairwise_cons.1 hp).2 (λy hy=>hn y (mem_cons_of_mem _ hy)) (λy hy=>h1 y (by rw[take_succ_cons];exact mem_cons_of_mem _ hy)) (λy hy=>h2 y (by simpa using hy))];rfl
theorem OZ {v:sR} (r:s5) (h1:v.1.length<=1000) (h2:v.2.length<=1000):bf v r=some (tM r false v.1,v.2):=by
 unfold bf;rw[rP (by show 0+v.2.length<=_;omega),rG];obtain⟨b,e1,e2⟩:=se (β:=Bool×List s5) (step:=λz:Bool×Int×List s5=>bK v r z.1 z.2.1 z.2.2)
  (λk z=>z.2.1=(k:Int)/\z.2.2++tM r z.1 (v.1.drop k)=tM r false v.1/\z.2.2.length<=2*k) v.1.length
  (λz=>z.2++tM r z.1 []=tM r false v.1/\z.2.length<=2000)
  (λk z hk ⟨z1,z2,z3⟩=>by
   obtain⟨dn,i,out⟩:=z;simp only at z1 z2 z3;subst z1;left;have hd:v.1.drop k=v.1[k]::v.1.drop (k+1):=drop_eq_getElem_cons hk
   have hw:rJ ((k:Int)+1)=((k+1:Nat):Int):=rW (by omega);have ha:∀(x:s5),sf out [x]=some (out++[x]):=λx=>rP (by show _+1<=_;omega)
   have hb:∀(x y:s5),sf (out++[x]) [y]=some (out++[x]++[y]):=λx y=>rP (by simp only[length_append,length_cons,length_nil];omega);rw[hd]at z2;generalize hG:tM r false v.1=G at z2 ⊢;unfold bK;simp only[sG (show (k:Int)<(v.1.length:Int) by omega),cT,sa hk,rG,ha,hb,hw];cases dn with
   | true =>
    simp only[Bool.not_true,cF,rG];unfold tM at z2;cases hq:(v.1[k].1 != r.1)with
    | true =>
     rw[hq]at z2;exact⟨_,rfl,rfl,by simpa using z2,by simp;omega⟩
    | false =>
     rw[hq]at z2;exact⟨_,rfl,rfl,by simpa using z2,by simp;omega⟩
   | false =>
    simp only[Bool.not_false,cT,rG];unfold tM at z2;by_cases hg:v.1[k].1>=r.1
    · rw[if_pos hg]at z2;simp only[dT hg,cT];cases hq:(v.1[k].1 != r.1)with
      | true =>
       rw[hq]at z2;exact⟨_,rfl,rfl,by simpa using z2,by simp;omega⟩
      | false =>
       rw[hq]at z2;exact⟨_,rfl,rfl,by simpa using z2,by simp;omega⟩
    · rw[if_neg hg]at z2;simp only[dF hg,cF,bne_iff_ne.2 (show v.1[k].1≠r.1 by omega),cT];exact⟨_,rfl,rfl,by simpa using z2,by simp;omega⟩)
  (λz ⟨z1,z2,z3⟩=>by
   obtain⟨dn,i,out⟩:=z;simp only at z1 z2 z3;subst z1;rw[List.drop_length]at z2;refine⟨(dn,out),?_,z2,by show out.length<=2000;have:out.length<=2*v.1.length:=z3;omega⟩;unfold bK;rw[sv (by omega),cF]) (x:=(false,0,[])) ⟨rfl,rfl,by simp⟩
 rw[e1,rG];obtain⟨dn,out⟩:=b;simp only at e2 ⊢;cases dn with
 | true =>
  rw[Bool.not_true,cF,←e2.1];simp[tM]
 | false =>
  rw[Bool.not_false,cT,rP (by show _+1<=_;omega),rG,←e2.1];rfl
theorem Mi {v:sR} (r:s5) (h1:v.1.length<=1000) (h2:v.2.length<=1000) (hp:v.1.Pairwise λr s=>r.1<s.1):eN v r=some (tM r false v.1,v.2):=by
 unfold eN;have hM:M=1048576:=rfl
 rw[E1 ⟨by omega,by omega⟩,rG,D3 (by omega),rG];by_cases hr:ut v.1 r.1>=0
 · obtain⟨k,hk,e1,e2⟩:=A4 hr;have hx:ix v.1.length (k:Int)=some k:=by unfold ix;rw[if_pos (by omega),if_pos (by omega),Int.toNat_natCast]
   rw[dT hr,cT,e1,hx,rG,List.getElem?_eq_getElem hk,rG,E4 hk hp e2]
 · rw[dF hr,cF];have hn:=JQ (by omega:ut v.1 r.1<0)
   obtain⟨d,e1,k,hk,rfl,e3,e4⟩:=se (β:=Int) (step:=λz=>fU v r z)
    (λk z=>z=(k:Int)/\∀x∈v.1.take k,x.1<=r.1) v.1.length
    (λz=>∃k:Nat,k<=v.1.length/\z=(k:Int)/\(∀x∈v.1.take k,x.1<=r.1)/\(∀x,v.1[k]?=some x->¬x.1<=r.1))
    (λk z hk ⟨z1,z2⟩=>by
     subst z1;unfold fU;simp only[sG (show (k:Int)<(v.1.length:Int) by omega),cT,sa hk,rG];by_cases hq:v.1[k].1<=r.1
     · refine .inl ⟨_,by rw[dT hq,cT],rW (by omega),λx hx=>?_⟩;rw[take_add_one,List.getElem?_eq_getElem hk,mem_append]at hx;rcases hx with hx|hx
       · exact z2 x hx
       · simp at hx;subst hx;exact hq
     · refine .inr ⟨_,by rw[dF hq,cF],k,by omega,rfl,z2,λx hx=>?_⟩;rw[List.getElem?_eq_getElem hk]at hx;cases hx;exact hq)
    (λz ⟨z1,z2⟩=>by
     subst z1;refine⟨(v.1.length:Int),?_,v.1.length,Nat.le_refl _,rfl,z2,λx hx=>?_⟩
     · unfold fU;rw[sv (by omega),cF];rfl
     · rw[List.getElem?_eq_none (Nat.le_refl _)]at hx;cases hx) (x:=0) ⟨rfl,by simp⟩
   rw[e1,rG,show (0:Int)=((0:Nat):Int)from rfl,vw (Nat.zero_le _) hk,rG,drop_zero];have hl:(v.1.take k).length<=1000:=by rw[length_take];omega
   rw[rP (by simp only[length_nil];omega),rG,nil_append,rP (by simp only[length_cons,length_nil];omega),rG,vw hk (Nat.le_refl _),rG,take_length,rP (by simp only[length_append,length_cons,length_nil,length_drop];omega),rG,II hp hn e3 e4];simp

def P0 (b:rI) (m s:Option (rI×Int)):Prop:=∃r,m=some r/\s=some r/\wD r.1/\(r.2≠0->r.1=b)
theorem zq {n a b:Nat} (h1:a<=b) (h2:b<=n):tF n (a:Int) (b:Int)=some (a,b):=by
 unfold tF;rw[if_pos (by omega),if_pos (by omega),if_pos (by omega)];simp
theorem Mj {v:sR} (id:Int) (h1:v.1.length<=1000) (h2:v.2.length<=1000) {k:Nat} (hk:k<v.1.length) (e:ut v.1 id=(k:Int)):eO v id=some (v.1.eraseIdx k,v.2):=by
 unfold eO;have hM:M=1048576:=rfl
 have hw:rJ ((k:Int)+1)=((k+1:Nat):Int):=rW (by omega);rw[E1 ⟨by omega,by omega⟩,rG,D3 (by omega),rG,e,dT (by omega),cT,hw,show (0:Int)=((0:Nat):Int)from rfl,vw (Nat.zero_le _) (by omega),rG,rP (by simp only[length_nil,length_drop,length_take];omega),rG,vw (by omega) (Nat.le_refl _),rG,rP (by simp only[length_append,length_nil,length_drop,length_take];omega),rG,List.eraseIdx_eq_take_drop_succ];simp
theorem Fp {r:s5} {l:List s5} (hs:l.Pairwise λr s=>r.1<s.1) (hi:∀x∈l,rM x.1 1 99=true) (hh:∀x∈l,-9223372036854775808<=x.2.2/\x.2.2<=9223372036854775807)
 (ri:rM r.1 1 99=true) (rh:-9223372036854775808<=r.2.2/\r.2.2<=9223372036854775807) :
 (tM r false l).Pairwise (λr s=>r.1<s.1)/\(∀x∈tM r false l,rM x.1 1 99=true)/\(∀x∈tM r false l,-9223372036854775808<=x.2.2/\x.2.2<=9223372036854775807):=by
 have hm:∀{dn:Bool} {l:List s5},∀x∈tM r dn l,x=r\/x∈l:=by
  intro dn l
  induction l generalizing dn with
  | nil=>intro x hx;cases dn<;>simp[tM]at hx;exact .inl hx
  | cons y t ih =>
   intro x hx;cases dn with
   | true =>
    unfold tM at hx;split at hx
    · rcases mem_cons.1 hx with rfl|hx
      · exact .inr (by simp)
      · rcases ih x hx with e|e
        · exact .inl e
        · exact .inr (mem_cons_of_mem _ e)
    · rcases ih x hx with e|e
      · exact .inl e
      · exact .inr (mem_cons_of_mem _ e)
   | false =>
    unfold tM at hx;split at hx
    · rcases mem_cons.1 hx with rfl|hx
      · exact .inl rfl
      · split at hx
        · rcases mem_cons.1 hx with rfl|hx
          · exact .inr (by simp)
          · rcases ih x hx with e|e
            · exact .inl e
            · exact .inr (mem_cons_of_mem _ e)
        · rcases ih x hx with e|e
          · exact .inl e
          · exact .inr (mem_cons_of_mem _ e)
    · rcases mem_cons.1 hx with rfl|hx
      · exact .inr (by simp)
      · rcases ih x hx with e|e
        · exact .inl e
        · exact .inr (mem_cons_of_mem _ e)
 have hp:∀{l:List s5},l.Pairwise (λr s=>r.1<s.1)->(tM r false l).Pairwise (λr s=>r.1<s.1):=by
  intro l
  induction l with
  | nil=>intro _;simp[tM]
  | cons y t ih =>
   intro h;have h1:=(pairwise_cons.1 h).1
   have h2:=(pairwise_cons.1 h).2;unfold tM;split
   · next hy =>
     have ht:tM r true t=t:=AZ λz hz=>by have:=h1 z hz;omega
     rw[ht];split
     · next hq =>
       have hq:=bne_iff_ne.1 hq;refine pairwise_cons.2 ⟨λz hz=>?_,h⟩;rcases mem_cons.1 hz with rfl|hz
       · omega
       · have:=h1 z hz;omega
     · next hq =>
       have hq:y.1=r.1:=by simpa using hq
       refine pairwise_cons.2 ⟨λz hz=>?_,h2⟩;have:=h1 z hz;omega
   · next hy =>
     refine pairwise_cons.2 ⟨λz hz=>?_,ih h2⟩;rcases hm z hz with rfl|hz
     · omega
     · exact h1 z hz
 refine⟨hp hs,λx hx=>?_,λx hx=>?_⟩
 · rcases hm x hx with rfl|hx
   · exact ri
   · exact hi x hx
 · rcases hm x hx with rfl|hx
   · exact rh
   · exact hh x hx
theorem Mk {r:s5} {dn:Bool} {l:List s5}:(tM r dn l).length<=l.length+1:=by
 induction l generalizing dn with
 | nil=>cases dn<;>simp[tM]
 | cons x t ih =>
  have h1:=ih (dn:=true);have h2:=ih (dn:=false)
  have h3:(tM r true t).length<=t.length:=by
   clear ih h1 h2
   induction t with
   | nil=>simp[tM]
   | cons y t ih=>unfold tM;split<;>simp<;>omega
  cases dn<;>unfold tM<;>split<;>(try split)<;>simp<;>omega
theorem wD.rows {b:rI} (h:wD b) {R:List s5} (h1:R.length<=6) (h2:R.Pairwise λr s=>r.1<s.1) (h3:∀x∈R,rM x.1 1 99=true) (h4:∀x∈R,-9223372036854775808<=x.2.2/\x.2.2<=9223372036854775807) :
 wD (b.1,b.2.1,b.2.2.1,b.2.2.2.1,R,b.2.2.2.2.2.1,b.2.2.2.2.2.2.1,b.2.2.2.2.2.2.2.1,b.2.2.2.2.2.2.2.2.1,b.2.2.2.2.2.2.2.2.2.1,b.2.2.2.2.2.2.2.2.2.2) :=
 ⟨h.id,h.name,h.n1,h.n6,h.p,h.f,h.c,h.q,h1,h2,h3,h4⟩
theorem EP {b:rI} (h:wD b):rM (b.2.2.1.length:Int) 1 6=true:=by
 have h1:=h.n1;have h2:=h.n6
 unfold rM;rw[dT (by omega),dT (by omega)];rfl
theorem NG {b:rI} (h:wD b) (c id n:Int) (hc:(c=1/\rM id 1 99=true)\/((c=2\/c=3)/\ut (wi b) id>=0)):P0 b (dL b c id n) (gq b c id n):=by
 have hv:=h.v;have hq:b.2.2.2.2.2.1.length<=6:=by have:=h.q;have:=h.n6;omega
 have hr:∀(id:Int),aq (b.2.2.2.2.1,b.2.2.2.2.2.1) id=some (ut (wi b) id):=λid=>D3 (v:=(b.2.2.2.2.1,b.2.2.2.2.2.1)) (by show b.2.2.2.2.1.length<_;omega) id;have hrs:∀(id:Int),bc (b.2.2.2.2.1,b.2.2.2.2.2.1) id=some (ut (wi b) id):=hr
 have hw:∀(r:s5),eN (b.2.2.2.2.1,b.2.2.2.2.2.1) r=some (tM r false b.2.2.2.2.1,b.2.2.2.2.2.1):=λr=>Mi (v:=(b.2.2.2.2.1,b.2.2.2.2.2.1)) r (by show b.2.2.2.2.1.length<=_;omega) (by show b.2.2.2.2.2.1.length<=_;omega) h.s;have hws:∀(r:s5),bf (b.2.2.2.2.1,b.2.2.2.2.2.1) r=some (tM r false b.2.2.2.2.1,b.2.2.2.2.2.1):=λr=>OZ (v:=(b.2.2.2.2.1,b.2.2.2.2.2.1)) r (by show b.2.2.2.2.1.length<=_;omega) (by show b.2.2.2.2.2.1.length<=_;omega)
 unfold dL gq;rw[hr,rG];by_cases h1:c=1
 · subst h1;have hid:rM id 1 99=true:=by rcases hc with hc|hc;exact hc.2;rcases hc.1 with e|e<;>cases e
   unfold gV;rw[hrs];simp only[show ((1:Int)==1)=true from rfl,cT,rG,hw,hws];by_cases hp:ut (wi b) id>=0
   · have hp':¬ut (wi b) id<0:=by omega
     simp only[dT hp,dF hp'];have e4:cond (n==4) (some false) (some false)=some false:=by cases (n==4)<;>rfl
     rw[e4];simp only[rG,cF];cases hn:(n==6)with
     | false =>
      simp only[cF,rG];exact⟨_,rfl,rfl,h,λ_=>rfl⟩
     | true =>
      obtain⟨k,hk,e1,e2⟩:=A4 hp;simp only[cT,rG];have hk':k<b.2.2.2.2.1.length:=hk
      have hw64:rJ (ut (wi b) id+1)=((k+1:Nat):Int):=by rw[e1];exact rW (by omega)
      have hwo:eO (b.2.2.2.2.1,b.2.2.2.2.2.1) id=some (b.2.2.2.2.1.eraseIdx k,b.2.2.2.2.2.1):=Mj (v:=(b.2.2.2.2.1,b.2.2.2.2.2.1)) id (by show b.2.2.2.2.1.length<=_;omega) (by show b.2.2.2.2.2.1.length<=_;omega) hk e1;have hso:(tF b.2.2.2.2.1.length 0 (ut (wi b) id)).bind (λp=>(sf ([]:List s5) ((b.2.2.2.2.1.take p.2).drop p.1)).bind λzs47=>(tF b.2.2.2.2.1.length (rJ (ut (wi b) id+1)) (b.2.2.2.2.1.length:Int)).bind λp_1=>(sf zs47 ((b.2.2.2.2.1.take p_1.2).drop p_1.1)).bind λzs54=>some ((b.1,b.2.1,b.2.2.1,b.2.2.2.1,zs54,b.2.2.2.2.2.1,b.2.2.2.2.2.2.1,b.2.2.2.2.2.2.2.1,b.2.2.2.2.2.2.2.2.1,b.2.2.2.2.2.2.2.2.2.1,b.2.2.2.2.2.2.2.2.2.2),(0:Int)))
       = some ((b.1,b.2.1,b.2.2.1,b.2.2.2.1,b.2.2.2.2.1.eraseIdx k,b.2.2.2.2.2.1,b.2.2.2.2.2.2.1,b.2.2.2.2.2.2.2.1,b.2.2.2.2.2.2.2.2.1,b.2.2.2.2.2.2.2.2.2.1,b.2.2.2.2.2.2.2.2.2.2),0):=by
       rw[hw64,e1,show (0:Int)=((0:Nat):Int)from rfl,zq (Nat.zero_le _) (by omega),rG,rP (by simp only[length_nil,length_drop,length_take];omega),rG,zq (by omega) (Nat.le_refl _),rG,rP (by simp only[length_append,length_nil,length_drop,length_take];omega),rG,List.eraseIdx_eq_take_drop_succ];simp
      rw[hwo];refine⟨_,rfl,by rw[hso];rfl,h.rows ?_ ?_ ?_ ?_,λe=>absurd rfl e⟩
      · rw[List.length_eraseIdx];split<;>omega
      · exact h.s.sublist (List.eraseIdx_sublist _ _)
      · exact λx hx=>h.i x (List.mem_of_mem_eraseIdx hx)
      · exact λx hx=>h.h x (List.mem_of_mem_eraseIdx hx)
   · have hp':ut (wi b) id<0:=by omega
     simp only[dF hp,dT hp'];have e6:cond (n==6) (some false) (some false)=some false:=by cases (n==6)<;>rfl
     rw[e6];cases hn:(n==4)with
     | false =>
      simp only[cF,rG];exact⟨_,rfl,rfl,h,λ_=>rfl⟩
     | true =>
      simp only[cT,rG];by_cases h6:(b.2.2.2.2.1.length:Int)<6
      · simp only[dT h6,cT];obtain⟨g1,g2,g3⟩:=Fp (r:=(id,0,0)) h.s h.i h.h hid ⟨by show (-9223372036854775808:Int)<=0;decide,by show (0:Int)<=9223372036854775807;decide⟩;have:=Mk (r:=(id,0,0)) (dn:=false) (l:=b.2.2.2.2.1)
        exact⟨_,rfl,rfl,h.rows (by omega) g1 g2 g3,λe=>absurd rfl e⟩
      · simp only[dF h6,cF,rG];exact⟨_,rfl,rfl,h,λ_=>rfl⟩
 · have h23:c=2\/c=3:=by rcases hc with hc|hc;exact absurd hc.1 h1;exact hc.1
   have hp:ut (wi b) id>=0:=by rcases hc with hc|hc;exact absurd hc.1 h1;exact hc.2
   obtain⟨k,hk,e1,e2⟩:=A4 hp;have hk':k<b.2.2.2.2.1.length:=hk
   obtain⟨t,q1,q2⟩:=JC (EP h);rw[show (c==1)=false from beq_eq_false_iff_ne.2 h1];simp only[cF,FX (EP h),q1,rG,vI,xP,q2];cases hn:rM n 0 (ua (b.2.2.1.length:Int))with
   | false=>exact⟨_,rfl,rfl,h,λ_=>rfl⟩
   | true =>
    have ht:=(Gm (EP h)).2;have hnr:-9223372036854775808<=n/\n<=9223372036854775807:=by
     unfold rM at hn;simp only[aT,decide_eq_true_eq]at hn;omega
    have hx:ix b.2.2.2.2.1.length (k:Int)=some k:=vk hk';rw[hrs];simp only[Bool.not_true,cF,rG,e1,hx,List.getElem?_eq_getElem hk',hws];have hin:∀(r:s5),r.1=b.2.2.2.2.1[k].1->tM r false b.2.2.2.2.1=b.2.2.2.2.1.set k r:=λr e=>E4 hk' h.s e.symm
    have hki:=h.i _ (getElem_mem hk');have hkh:=h.h _ (getElem_mem hk')
    have hlen:∀(r:s5),r.1=b.2.2.2.2.1[k].1->(tM r false b.2.2.2.2.1).length<=6:=λr e=>by rw[hin r e,length_set];exact hv
    rcases h23 with rfl|rfl
    · simp only[show ((2:Int)==2)=true from rfl,cT];obtain⟨g1,g2,g3⟩:=Fp (r:=(b.2.2.2.2.1[k].1,n,b.2.2.2.2.1[k].2.2)) h.s h.i h.h hki hkh;refine⟨_,rfl,?_,?_,λe=>absurd rfl e⟩
      · rw[hin (b.2.2.2.2.1[k].1,n,b.2.2.2.2.1[k].2.2) rfl]
      · rw[←hin (b.2.2.2.2.1[k].1,n,b.2.2.2.2.1[k].2.2) rfl];exact h.rows (hlen _ rfl) g1 g2 g3
    · simp only[show ((3:Int)==2)=false from rfl,cF];obtain⟨g1,g2,g3⟩:=Fp (r:=(b.2.2.2.2.1[k].1,b.2.2.2.2.1[k].2.1,n)) h.s h.i h.h hki hnr;refine⟨_,rfl,?_,?_,λe=>absurd rfl e⟩
      · rw[hin (b.2.2.2.2.1[k].1,b.2.2.2.2.1[k].2.1,n) rfl]
      · rw[←hin (b.2.2.2.2.1[k].1,b.2.2.2.2.1[k].2.1,n) rfl];exact h.rows (hlen _ rfl) g1 g2 g3
theorem Lc {b:rI} {o:List Int} (h:E3 b o=true):o=[1,3,1,1,1]\/(∃c p,o=[1,3,1,2,c,p]/\(c=2\/c=4)/\rM p 1 (uX b)=true)\/(∃c p,o=[1,3,1,3,c,p]/\((c=1/\rM p 1 99=true)\/((c=2\/c=3)/\ut (wi b) p>=0))):=by
 unfold E3 at h;rw[aT]at h;obtain⟨h1,h2⟩:=h;unfold zp at h1;simp only[aT,decide_eq_true_eq,beq_iff_eq]at h1;have ho:o=[1,3,1]++o.drop 3:=by rw[←h1.2,take_append_drop]
 match hd:o.drop 3,h2 with
 | [a,c],h2 =>
  simp only[aT,beq_iff_eq]at h2;rw[hd]at ho;exact .inl (by rw[ho,h2.1,h2.2];rfl)
 | [a,c,p],h2 =>
  rw[hd]at ho;simp only[Bool.or_eq_true,aT,beq_iff_eq,decide_eq_true_eq]at h2;rcases h2 with ⟨rfl,h3,h4⟩|⟨rfl,h3⟩
  · exact .inr (.inl ⟨c,p,ho,h3,h4⟩)
  · exact .inr (.inr ⟨c,p,ho,h3⟩)
theorem P3 {b:rI} {p:Int} (h:rM p 1 (uX b)=true) (hn:b.2.2.1.length<=6):∃k,k<b.2.2.1.length/\rJ (p-1)=(k:Int):=by
 unfold rM uX at h;simp only[aT,decide_eq_true_eq]at h;exact⟨(p-1).toNat,by omega,by rw[sg (by omega) (by omega)];omega⟩
theorem NH {p:Pt} {n:Int} (hn:rM n 1 1000=true) (h:yH p=true):yH (p.1,n,p.2.2.1,p.2.2.2.1,p.2.2.2.2.1,p.2.2.2.2.2.1,p.2.2.2.2.2.2.1,p.2.2.2.2.2.2.2)=true:=by
 unfold yH at h ⊢;rw[aT]at h ⊢;exact⟨hn,h.2⟩
theorem P4 {b:rI} (h:wD b) {x:rK} (hx:x.1.length<=M):P0 b (bG b x) (fj b x):=by
 unfold bG fj;rw[QM h.le hx,rG,uP h.le,rG,QN h.le hx,rG,NF h];cases hm:E3 b x.1 with
 | false =>
  rw[cF,Bool.not_false,cT,Q4 h.le hx,Q5 h.le hx,rG,rG,Lb h];cases EO b x.1 with
  | true=>exact⟨_,rfl,rfl,h,λ_=>rfl⟩
  | false=>exact⟨_,rfl,rfl,h,λ_=>rfl⟩
 | true =>
  obtain⟨o,kd,n,w,vo⟩:=x;rw[cT,Bool.not_true,cF];simp only;unfold eP;rcases Lc hm with ho|⟨c,p,ho,hc,hp⟩|⟨c,p,ho,hc⟩
  · simp only at ho;subst ho;rw[show at? [1,3,1,1,1] 3=some (1:Int)from rfl,show cut [1,3,1,1,1] 3 (([1,3,1,1,1]:List Int).length:Int)=some ([1,1]:List Int)from rfl];simp only[rG,show at? [1,1] 0=some (1:Int)from rfl,show ((1:Int)==1)=true from rfl,cT,Bool.not_true,cF];cases (kd != 4)with
    | true=>exact⟨_,rfl,rfl,h,λ_=>rfl⟩
    | false =>
     simp only[cF,rG];by_cases hw:(w.length:Int)>10
     · simp only[dT hw,cT];exact⟨_,rfl,rfl,h,λ_=>rfl⟩
     · simp only[dF hw,cF];exact⟨_,rfl,rfl,⟨h.id,by show w.length<=10;omega,h.n1,h.n6,h.p,h.f,h.c,h.q,h.v,h.s,h.i,h.h⟩,λe=>absurd rfl e⟩
  · simp only at ho;subst ho;rw[show at? [1,3,1,2,c,p] 3=some (2:Int)from rfl,show at? [1,3,1,2,c,p] 4=some c from rfl,show at? [1,3,1,2,c,p] 5=some p from rfl,show cut [1,3,1,2,c,p] 3 (([1,3,1,2,c,p]:List Int).length:Int)=some ([2,c,p]:List Int)from rfl];simp only[rG,show at? [2,c,p] 0=some (2:Int)from rfl,show at? [2,c,p] 1=some c from rfl,show at? [2,c,p] 2=some p from rfl,show ((2:Int)==1)=false from rfl,show ((2:Int)==2)=true from rfl,show ((2:Int)==3)=false from rfl,cT,Bool.not_false,cF];cases (kd != 2)with
    | true=>exact⟨_,rfl,rfl,h,λ_=>rfl⟩
    | false =>
     obtain⟨k,hk,ek⟩:=P3 hp h.n6;simp only[cF,rG,ek];unfold gU;have hx1:ix b.2.2.1.length (k:Int)=some k:=vk hk
     have hx2:ix b.2.2.2.2.2.1.length (k:Int)=some k:=vk (by rw[h.q];exact hk);have hk2:k<b.2.2.2.2.2.1.length:=by rw[h.q];exact hk
     simp only[vI,xP,rG,hx1,hx2,List.getElem?_eq_getElem hk,List.getElem?_eq_getElem hk2];rcases hc with rfl|rfl
     · simp only[show ((2:Int)==2)=true from rfl,cT];cases hn:rM n 1 1000 with
       | false=>exact⟨_,rfl,rfl,h,λ_=>rfl⟩
       | true =>
        exact⟨_,rfl,rfl,⟨h.id,h.name,by simp only[length_set];exact h.n1,by simp only[length_set];exact h.n6,λy hy=>by
         rcases List.mem_or_eq_of_mem_set hy with e|rfl
         · exact h.p y e
         · exact NH hn (h.p _ (getElem_mem hk)),h.f,h.c,by simp only[length_set];exact h.q,h.v,h.s,h.i,h.h⟩,λe=>absurd rfl e⟩
     · simp only[show ((4:Int)==2)=false from rfl,cF];exact⟨_,rfl,rfl,⟨h.id,h.name,h.n1,h.n6,h.p,h.f,h.c,by simp only[length_set];exact h.q,h.v,h.s,h.i,h.h⟩,λe=>absurd rfl e⟩
  · simp only at ho;subst ho;rw[show at? [1,3,1,3,c,p] 3=some (3:Int)from rfl,show at? [1,3,1,3,c,p] 4=some c from rfl,show at? [1,3,1,3,c,p] 5=some p from rfl,show cut [1,3,1,3,c,p] 3 (([1,3,1,3,c,p]:List Int).length:Int)=some ([3,c,p]:List Int)from rfl];simp only[rG,show at? [3,c,p] 0=some (3:Int)from rfl,show at? [3,c,p] 1=some c from rfl,show at? [3,c,p] 2=some p from rfl,show ((3:Int)==1)=false from rfl,show ((3:Int)==2)=false from rfl,show ((3:Int)==3)=true from rfl,cT,Bool.not_false,cF];cases (kd != 2)with
    | true=>exact⟨_,rfl,rfl,h,λ_=>rfl⟩
    | false =>
     simp only[cF,rG];obtain⟨r,r1,r2,r3,r4⟩:=NG h c p n hc;exact⟨r,by rw[r1];rfl,by rw[r2];rfl,r3,r4⟩

theorem E5 {α β:Type} {step t:α->Option (α⊕β)} (sC:Nat->α->Prop) (m:Nat) (R:β->Prop)
 (h:∀k x,k<m->sC k x->(∃y,step x=some (.inl y)/\t x=some (.inl y)/\sC (k+1) y)\/∃b,step x=some (.inr b)/\t x=some (.inr b)/\R b)
 (he:∀x,sC m x->∃b,step x=some (.inr b)/\t x=some (.inr b)/\R b) {x:α} (h0:sC 0 x):∃b,loop step x=some b/\loop t x=some b/\R b:=by
 have key:∀n k x,k+n=m->sC k x->∃b,vu step (n+1) x=some b/\vu t (n+1) x=some b/\R b:=by
  intro n
  induction n with
  | zero =>
   intro k x hk hx;obtain rfl:k=m:=by omega
   obtain⟨b,h1,h3,h2⟩:=he x hx;exact⟨b,by rw[u4,h1];rfl,by rw[u4,h3];rfl,h2⟩
  | succ n ih =>
   intro k x hk hx;rcases h k x (by omega) hx with ⟨y,h1,h5,h2⟩|⟨b,h1,h5,h2⟩
   · obtain⟨b,h3,h6,h4⟩:=ih (k+1) y (by omega) h2;exact⟨b,by rw[u4,h1];exact h3,by rw[u4,h5];exact h6,h4⟩
   · exact⟨b,by rw[u4,h1];rfl,by rw[u4,h5];rfl,h2⟩
 obtain⟨b,h1,h3,h2⟩:=key m 0 x (by omega) h0;exact⟨b,xp h1,xp h3,h2⟩
theorem JT {l:List rR} (h:xu l=true):FB l:=by
 unfold xu at h;simp only[aT,Bool.not_eq_true',decide_eq_true_eq]at h;refine⟨λx hx=>?_,DZ (R:=lt) (λ_ _ _=>lt_trans) λk hk=>?_,by omega⟩
 · obtain⟨k,hk,rfl⟩:=getElem_of_mem hx;have hx:=any_eq_false.1 h.1 k (mem_range.2 hk)
   unfold xz at hx;simp only[List.getElem?_eq_getElem hk,Bool.or_eq_true,not_or,Bool.not_eq_true',Bool.not_eq_false]at hx;exact hx.1
 · have hx:=any_eq_false.1 h.1 (k+1) (mem_range.2 hk);unfold xz at hx;simp only[List.getElem?_eq_getElem hk,Nat.add_sub_cancel,List.getElem?_eq_getElem (show k<l.length by omega),Bool.or_eq_true,aT,decide_eq_true_eq,not_or,not_and,Bool.not_eq_true',Bool.not_eq_false]at hx;have hp:=hx.2 (by omega)
   unfold yI at hp;simp only[Bool.or_eq_true,aT,decide_eq_true_eq,beq_iff_eq]at hp;unfold lt;omega
theorem FB.sub {l m:List rR} (h:FB l) (hs:m.Sublist l):FB m :=
 ⟨λx hx=>h.e x (hs.subset hx),h.o.sublist hs,Nat.le_trans hs.length_le h.n⟩
def yj (l:List rR) (p:Int):List rR:=l.filter λe=>e.2.2.2.2||e.2.2.1 != p
theorem EQ {l:List rR} (p:Int) (hn:l.length<=1000) (step:Int×List rR->Option ((Int×List rR)⊕List rR))
 (hs:∀k (hk:k<l.length) out,step ((k:Int),out)=cond (l[k].2.2.2.2||l[k].2.2.1 != p) ((sf out [l[k]]).bind λzs=>some (.inl (((k+1:Nat):Int),zs))) (some (.inl (((k+1:Nat):Int),out))))
 (he:∀out,step ((l.length:Int),out)=some (.inr out)):loop step (0,[])=some (yj l p):=by
 obtain⟨b,h1,rfl⟩:=se (step:=step) (λk z=>z.1=(k:Int)/\z.2=yj (l.take k) p) l.length (λb=>b=yj l p)
  (λk z hk ⟨z1,z2⟩=>by
   obtain⟨i,out⟩:=z;simp only at z1 z2;subst z1 z2;left;have hl:(yj (l.take k) p).length<=k:=by
    have:=(List.filter_sublist (p:=λe:rR=>e.2.2.2.2||e.2.2.1 != p) (l:=l.take k)).length_le;rw[length_take]at this;show (List.filter _ _).length<=k
    omega
   have ht:yj (l.take (k+1)) p=yj (l.take k) p++cond (l[k].2.2.2.2||l[k].2.2.1 != p) [l[k]] []:=by
    unfold yj;rw[take_add_one,List.getElem?_eq_getElem hk,List.filter_append];rw[Option.toList_some,List.filter_cons,List.filter_nil];cases (l[k].2.2.2.2||l[k].2.2.1 != p)<;>rfl
   rw[hs k hk];cases hc:(l[k].2.2.2.2||l[k].2.2.1 != p)with
   | true =>
    rw[hc]at ht;exact⟨_,by rw[cT,rP (by show _+1<=_;omega)];rfl,rfl,by rw[ht];rfl⟩
   | false =>
    rw[hc]at ht;exact⟨_,rfl,rfl,by rw[ht];simp⟩)
  (λz ⟨z1,z2⟩=>by
   obtain⟨i,out⟩:=z;simp only at z1 z2;subst z1 z2;exact⟨_,he _,by rw[take_length]⟩) (x:=(0,[])) ⟨rfl,rfl⟩
 exact h1
theorem P5 {l:List rR} (p:Int) (hn:l.length<=1000):fR l p=some (yj l p):=by
 unfold fR;rw[EQ p hn (λz=>dK l p z.1 z.2) (λk hk out=>by
  show dK l p (k:Int) out=_;unfold dK;rw[sG (by omega),cT,sa hk,rG,rW (by omega)];cases l[k].2.2.2.2<;>rfl) (λout=>by
  show dK l p (l.length:Int) out=_;unfold dK;rw[sv (by omega),cF])];rfl
theorem NJ {l:List rR} (p:Int) (hn:l.length<=1000):gl l p=some (yj l p):=by
 unfold gl;rw[EQ p hn (λz=>dZ l p z.1 z.2) (λk hk out=>by
  show dZ l p (k:Int) out=_;unfold dZ;rw[sG (by omega),cT,sa hk,rG,rG,rG,rW (by omega)];cases l[k].2.2.2.2<;>rfl) (λout=>by
  show dZ l p (l.length:Int) out=_;unfold dZ;rw[sv (by omega),cF])];rfl
theorem Ld:∀k:Nat,k<6->rM (k:Int) 0 62=true/\rM (k:Int) 0 7=true:=by
 intro k hk;unfold rM;constructor<;>(rw[dT (by omega),dT (by omega)];rfl)
theorem QO (c:Int) {k:Nat} (hk:k<6):∃t,shr .i64 c (k:Int)=some t:=by
 unfold shr;rw[if_neg (by omega)];exact⟨_,rfl⟩
theorem QP (c:Int) {k:Nat} (hk:k<6):∃t,fP c (k:Int)=some t/\gk c (k:Int)=some t:=by
 obtain⟨t,h⟩:=QO c hk;unfold fP gk;rw[vI,xP,rG,rG,(Ld k hk).1,(Ld k hk).2,cT,cT,EJ (by omega),h];exact⟨_,rfl,rfl⟩
theorem Gr {n:Int} (h:rM n 0 1000000=true):∃r,bn n=some r/\bg n=some r/\rM r 0 1000000=true:=by
 unfold rM at h;simp only[aT,decide_eq_true_eq]at h;unfold bn bg rM min2;rw[sg (by omega) (by omega)];by_cases hn:n>=1000000
 · rw[dT hn,cT];refine⟨n,?_,rfl,?_⟩
   · simp only;split<;>first|rfl | (congr 1;omega)
   · simp only[aT,decide_eq_true_eq];omega
 · rw[dF hn,cF];refine⟨n+1,?_,rfl,?_⟩
   · simp only;split<;>first|rfl | (congr 1;omega)
   · simp only[aT,decide_eq_true_eq];omega
theorem wD.ok {b:rI} (h:wD b) (hv:vc (b.2.2.2.2.1,b.2.2.2.2.2.1) (b.2.2.1.length:Int)=true):sO b=true:=by
 unfold sO;have h1:(List.range b.2.2.1.length).any (AC b.2.2.1)=false:=by
  rw[any_eq_false];intro k hk;have hk:=mem_range.1 hk
  unfold AC;simp[List.getElem?_eq_getElem hk,h.p _ (getElem_mem hk)]
 have h2:=h.name;rw[h1,h.id,h.f,hv,h.c,EP h,dF (show ¬(b.2.1.length:Int)>10 by omega)];rfl
theorem JU {b:rI} (h:wD b):∃r,bE b=some r/\bO b=some r/\wD r/\r.2.2.1=b.2.2.1/\r.2.2.2.2.1=b.2.2.2.2.1/\r.2.2.2.2.2.1=b.2.2.2.2.2.1/\r.1=b.1/\r.2.1=b.2.1/\r.2.2.2.2.2.2.1=b.2.2.2.2.2.2.1/\r.2.2.2.2.2.2.2.1=b.2.2.2.2.2.2.2.1/\r.2.2.2.2.2.2.2.2.1=b.2.2.2.2.2.2.2.2.1/\r.2.2.2.2.2.2.2.2.2.1=b.2.2.2.2.2.2.2.2.2.1/\bn b.2.2.2.2.2.2.2.2.2.2=some r.2.2.2.2.2.2.2.2.2.2:=by
 have n6:=h.n6;have hc:=h.c
 unfold ux at hc;simp only[aT]at hc;obtain⟨v,v1,v2,v3⟩:=Gr hc.2.2.2.2;obtain⟨c,_,c1,c2⟩:=OC b.1 (l:=b.2.2.1) (by omega);unfold bE bO;rw[v1,v2,c1,c2];simp only[rG];have hF:=JT h.f
 obtain⟨d,d1,d2,F,hf,rfl⟩:=E5 (step:=λz:Int×Int×List UInt8×Int×Int×Int×Int×Int×List rR=>fS b (c:Int) z.1 z.2.1 z.2.2.1 z.2.2.2.1 z.2.2.2.2.1 z.2.2.2.2.2.1 z.2.2.2.2.2.2.1 z.2.2.2.2.2.2.2.1 z.2.2.2.2.2.2.2.2)
  (t:=λz:Int×Int×List UInt8×Int×Int×Int×Int×Int×List rR=>gm b (c:Int) z.1 z.2.1 z.2.2.1 z.2.2.2.1 z.2.2.2.2.1 z.2.2.2.2.2.1 z.2.2.2.2.2.2.1 z.2.2.2.2.2.2.2.1 z.2.2.2.2.2.2.2.2)
  (λk z=>∃F:List rR,F.Sublist b.2.2.2.1/\z=((k:Int),b.1,b.2.1,b.2.2.2.2.2.2.1,b.2.2.2.2.2.2.2.1,b.2.2.2.2.2.2.2.2.1,b.2.2.2.2.2.2.2.2.2.1,v,F)) b.2.2.1.length
  (λd=>∃F:List rR,F.Sublist b.2.2.2.1/\d=(b.1,b.2.1,b.2.2.2.2.2.2.1,b.2.2.2.2.2.2.2.1,b.2.2.2.2.2.2.2.2.1,b.2.2.2.2.2.2.2.2.2.1,v,F))
  (λk z hk ⟨F,hf,e⟩=>by
   subst e;left;obtain⟨t,t1,t2⟩:=QP (c:Int) (show k<6 by omega);have hl:F.length<=1000:=by have:=hf.length_le;have:=hF.n;omega
   simp only;unfold fS gm;rw[sG (show (k:Int)<(b.2.2.1.length:Int) by omega),cT,cT,t1,t2,rG,rG,P5 _ hl,NJ _ hl,rW (show k<9223372036854775807 by omega)];cases t with
   | true=>exact⟨_,rfl,rfl,F,hf,rfl⟩
   | false=>exact⟨_,rfl,rfl,yj F (k:Int),List.Sublist.trans List.filter_sublist hf,rfl⟩)
  (λz ⟨F,hf,e⟩=>by
   subst e;simp only;unfold fS gm;rw[sv (show ¬(b.2.2.1.length:Int)<(b.2.2.1.length:Int) by omega),cF,cF];exact⟨_,rfl,rfl,F,hf,rfl⟩) (x:=(0,b.1,b.2.1,b.2.2.2.2.2.2.1,b.2.2.2.2.2.2.2.1,b.2.2.2.2.2.2.2.2.1,b.2.2.2.2.2.2.2.2.2.1,v,b.2.2.2.1)) ⟨_,List.Sublist.refl _,rfl⟩
 rw[d1,d2];refine⟨_,rfl,rfl,⟨h.id,h.name,h.n1,h.n6,h.p,(hF.sub hf).ok,?_,h.q,h.v,h.s,h.i,h.h⟩,rfl,rfl,rfl,rfl,rfl,rfl,rfl,rfl,rfl,rfl⟩;unfold ux;simp only[aT];exact⟨hc.1,hc.2.1,hc.2.2.1,hc.2.2.2.1,v3⟩
theorem MI {b:rI} (h:wD b):∃r,bE b=some r/\bO b=some r/\wD r/\r.2.2.1=b.2.2.1/\r.2.2.2.2.1=b.2.2.2.2.1/\r.2.2.2.2.2.1=b.2.2.2.2.2.1:=by
 obtain⟨r,h1,h2,h3,h4,h5,h6,_⟩:=JU h;exact⟨r,h1,h2,h3,h4,h5,h6⟩
theorem Ml {α:Type} [BEq α] [LawfulBEq α] (a b:α):(a==b)=(b==a):=by
 by_cases h:a=b
 · subst h;rfl
 · rw[beq_eq_false_iff_ne.2 h,beq_eq_false_iff_ne.2 (Ne.symm h)]

abbrev P6:=Int×Int×Int×List UInt8×Int×Int×Int×Int×Int×List Pt×List rR×List s5×List Int
abbrev Qg:=Int×List UInt8×Int×Int×Int×Int×Int
def P7 (c k:Int) (b:rI):P6:=(c,k,b.1,b.2.1,b.2.2.2.2.2.2.1,b.2.2.2.2.2.2.2.1,b.2.2.2.2.2.2.2.2.1,b.2.2.2.2.2.2.2.2.2.1,b.2.2.2.2.2.2.2.2.2.2,b.2.2.1,b.2.2.2.1,b.2.2.2.2.1,b.2.2.2.2.2.1)
theorem P8 {b:rI} (hb:yb M b) {l:List rK} (hl:zO M l) {k:Nat} (hk:k<l.length) (s:Qg) :
 ∃r:Qg⊕P6,loop (λz=>eQ b (k:Int) l[k] (l.take k) z.1 z.2.1 z.2.2.1 z.2.2.2.1 z.2.2.2.2.1 z.2.2.2.2.2.1 z.2.2.2.2.2.2.1 z.2.2.2.2.2.2.2) (0,s)=some r
  /\ loop (λz=>fk b l (k:Int) z.1 z.2.1 z.2.2.1 z.2.2.2.1 z.2.2.2.2.1 z.2.2.2.2.2.1 z.2.2.2.2.2.2.1 z.2.2.2.2.2.2.2) (0,s)=some r/\((r=.inl s/\∀j (hj:j<k),l[j].1≠l[k].1)\/(r=.inr (P7 5 ((k+1:Nat):Int) b)/\∃j,∃hj:j<k,l[j].1=l[k].1)):=by
 obtain⟨a0,a1,a6,a7,a8,a9,a10⟩:=s;have hn:l.length<=1048576:=hl.1
 refine E5 (λj z=>z=((j:Int),a0,a1,a6,a7,a8,a9,a10)/\∀i (hi:i<k),i<j->l[i].1≠l[k].1) k _ (λj z hj ⟨e,hne⟩=>?_) (λz ⟨e,hne⟩=>?_) ⟨rfl,λi _ hi=>absurd hi (Nat.not_lt_zero _)⟩
 · subst e;have ht:j<(l.take k).length:=by rw[length_take];omega
   have hg:(l.take k)[j]=l[j]:=List.getElem_take;have hw:∀i,i<l.length->∀(hi:i<l.length),l[i].1.length<9223372036854775807:=λi h1 h2=>by have:l[i].1.length<=1048576:=(hl.2 _ (getElem_mem h2)).1;omega
   have s1:aE l[k].1 l[j].1=some (l[k].1==l[j].1):=AX (hw j (by omega) (by omega));have s2:cK l[j].1 l[k].1=some (l[k].1==l[j].1):=by rw[Ml];exact AX (hw k hk hk)
   simp only;unfold eQ fk;rw[sG (show (j:Int)<((l.take k).length:Int) by omega),sG (show (j:Int)<(k:Int) by omega),cT,cT,sa ht,hg,sa (show j<l.length by omega),sa hk];simp only[rG,s1,s2];cases hb2:(l[k].1==l[j].1)with
   | true =>
    right;rw[xg hb,uP hb];exact⟨_,rfl,by rw[rW (show k<9223372036854775807 by omega)];rfl,.inr ⟨by rw[rW (show k<9223372036854775807 by omega)];rfl,j,hj,(beq_iff_eq.1 hb2).symm⟩⟩
   | false =>
    left;refine⟨_,rfl,rfl,by rw[rW (show j<9223372036854775807 by omega)],λi hi hij=>?_⟩;by_cases e:i=j
    · subst e;exact λe=>(beq_eq_false_iff_ne.1 hb2) e.symm
    · exact hne i hi (by omega)
 · subst e;have ht:(l.take k).length=k:=by rw[length_take];omega
   refine⟨.inl (a0,a1,a6,a7,a8,a9,a10),?_,?_,.inl ⟨rfl,λj hj=>hne j hj hj⟩⟩
   · show eQ b _ _ _ _ _ _ _ _ _ _ _=_;unfold eQ;rw[ht,sv (by omega),cF]
   · show fk b _ _ _ _ _ _ _ _ _ _=_;unfold fk;rw[sv (by omega),cF]
theorem sm {α β:Type} {step:α->Option (α⊕β)} {x:α} {b:β} (h:step x=some (.inr b)):loop step x=some b:=xp (k:=1) (by rw[u4,h];rfl)
inductive A5 (b:rI):List rK->rI->Prop
 | nil:A5 b [] b
 | snoc {l:List rK} {y y':rI} {x:rK}:A5 b l y->wD y->bG y x=some (y',0)->A5 b (l++[x]) y'
def MJ (b:rI) (l:List rK) (c:Int):Prop:=(sO b=false/\c=3)\/(∃k y,∃hk:k<l.length,A5 b (l.take k) y/\wD y/\(((∃j,∃hj:j<k,l[j].1=l[k].1)/\c=5)\/∃y',bG y l[k]=some (y',c)))\/∃y,A5 b l y/\c=5
theorem Do {b:rI} (h:wI b) (hb:yb M b) {l:List rK} (hl:zO M l):∃r,dM b l=some r/\gu b l=some r/\yb M r.1/\(sO b=true->wD r.1/\sO r.1=true)/\((r.2.1=0/\r.2.2=0/\((l=[]/\r.1=b)\/∃y,A5 b l y/\wD y/\(∀i (hi:i<l.length),∀j (hj:j<i),l[j].1≠l[i].1)/\bE y=some r.1))\/(r.1=b/\r.2.1≠0/\1<=r.2.2/\r.2.2<=(l.length:Int)/\MJ b l r.2.1)):=by
 have hn:l.length<=1048576:=hl.1;unfold dM gu;rw[xg hb,uP hb,BE h,zm h];simp only[rG];by_cases h0:l=[]
 · subst h0;have e1:decide ((([]:List rK).length:Int)>0)=false:=rfl
   have e2:((([]:List rK).length:Int)==0)=true:=rfl;have e3:cond (!sO b) (some false) (some false)=some false:=by cases sO b<;>rfl
   rw[e1,e2,e3,cT];simp only[rG,cF];refine⟨_,rfl,(congrArg (λo=>Option.bind o _) (sm (b:=.inl (0,[],0,0,0,0,0,b.1,b.2.1,b.2.2.2.2.2.2.1,b.2.2.2.2.2.2.2.1,b.2.2.2.2.2.2.2.2.1,b.2.2.2.2.2.2.2.2.2.1,b.2.2.2.2.2.2.2.2.2.2,[],[],[],[],b.2.2.1,b.2.2.2.1,b.2.2.2.2.1,b.2.2.2.2.2.1)) rfl)).trans rfl,hb,λhp=>⟨(G0 h hp).sok,hp⟩,.inl ⟨rfl,rfl,.inl ⟨by first|trivial|rfl,rfl⟩⟩⟩
 · have hpos:0<l.length:=List.length_pos_iff.2 h0;rw[show ((l.length:Int)==0)=false from beq_eq_false_iff_ne.2 (by omega),dT (show (l.length:Int)>0 by omega)];cases hp:sO b with
   | false=>exact⟨_,rfl,rfl,hb,λhp=>(by cases hp),.inr ⟨rfl,(by show (3:Int)≠0;decide),by show (1:Int)<=1;decide,by show (1:Int)<=_;omega,.inl ⟨hp,rfl⟩⟩⟩
   | true =>
    have hs0:=(G0 h hp).sok;simp only[Bool.not_true,cF,rG];obtain⟨d,d1,d2,d3⟩:=E5 (step:=λz:Int×Int×List UInt8×Int×Int×Int×Int×Int×Int×List UInt8×Int×Int×Int×Int×Int×List Pt×List rR×List s5×List Int×List Pt×List rR×List s5×List Int=>fX b l z.1 z.2.1 z.2.2.1 z.2.2.2.1 z.2.2.2.2.1 z.2.2.2.2.2.1 z.2.2.2.2.2.2.1 z.2.2.2.2.2.2.2.1 z.2.2.2.2.2.2.2.2.1 z.2.2.2.2.2.2.2.2.2.1 z.2.2.2.2.2.2.2.2.2.2.1 z.2.2.2.2.2.2.2.2.2.2.2.1 z.2.2.2.2.2.2.2.2.2.2.2.2.1 z.2.2.2.2.2.2.2.2.2.2.2.2.2.1 z.2.2.2.2.2.2.2.2.2.2.2.2.2.2.1 z.2.2.2.2.2.2.2.2.2.2.2.2.2.2.2.1 z.2.2.2.2.2.2.2.2.2.2.2.2.2.2.2.2.1 z.2.2.2.2.2.2.2.2.2.2.2.2.2.2.2.2.2.1 z.2.2.2.2.2.2.2.2.2.2.2.2.2.2.2.2.2.2.1 z.2.2.2.2.2.2.2.2.2.2.2.2.2.2.2.2.2.2.2.1 z.2.2.2.2.2.2.2.2.2.2.2.2.2.2.2.2.2.2.2.2.1 z.2.2.2.2.2.2.2.2.2.2.2.2.2.2.2.2.2.2.2.2.2.1 z.2.2.2.2.2.2.2.2.2.2.2.2.2.2.2.2.2.2.2.2.2.2)
     (t:=λz=>gt b l z.1 z.2.1 z.2.2.1 z.2.2.2.1 z.2.2.2.2.1 z.2.2.2.2.2.1 z.2.2.2.2.2.2.1 z.2.2.2.2.2.2.2.1 z.2.2.2.2.2.2.2.2.1 z.2.2.2.2.2.2.2.2.2.1 z.2.2.2.2.2.2.2.2.2.2.1 z.2.2.2.2.2.2.2.2.2.2.2.1 z.2.2.2.2.2.2.2.2.2.2.2.2.1 z.2.2.2.2.2.2.2.2.2.2.2.2.2.1 z.2.2.2.2.2.2.2.2.2.2.2.2.2.2.1 z.2.2.2.2.2.2.2.2.2.2.2.2.2.2.2.1 z.2.2.2.2.2.2.2.2.2.2.2.2.2.2.2.2.1 z.2.2.2.2.2.2.2.2.2.2.2.2.2.2.2.2.2.1 z.2.2.2.2.2.2.2.2.2.2.2.2.2.2.2.2.2.2.1 z.2.2.2.2.2.2.2.2.2.2.2.2.2.2.2.2.2.2.2.1 z.2.2.2.2.2.2.2.2.2.2.2.2.2.2.2.2.2.2.2.2.1 z.2.2.2.2.2.2.2.2.2.2.2.2.2.2.2.2.2.2.2.2.2.1 z.2.2.2.2.2.2.2.2.2.2.2.2.2.2.2.2.2.2.2.2.2.2)
     (λk z=>∃y:rI,(wD y/\A5 b (l.take k) y/\∀i (hi:i<l.length),i<k->∀j (hj:j<i),l[j].1≠l[i].1)/\z=((k:Int),0,[],0,0,0,0,0,y.1,y.2.1,y.2.2.2.2.2.2.1,y.2.2.2.2.2.2.2.1,y.2.2.2.2.2.2.2.2.1,y.2.2.2.2.2.2.2.2.2.1,y.2.2.2.2.2.2.2.2.2.2,[],[],[],[],y.2.2.1,y.2.2.2.1,y.2.2.2.2.1,y.2.2.2.2.2.1)) l.length
     (λd=>(∃y:rI,(wD y/\A5 b l y/\∀i (hi:i<l.length),∀j (hj:j<i),l[j].1≠l[i].1)/\d=.inl (0,[],0,0,0,0,0,y.1,y.2.1,y.2.2.2.2.2.2.1,y.2.2.2.2.2.2.2.1,y.2.2.2.2.2.2.2.2.1,y.2.2.2.2.2.2.2.2.2.1,y.2.2.2.2.2.2.2.2.2.2,[],[],[],[],y.2.2.1,y.2.2.2.1,y.2.2.2.2.1,y.2.2.2.2.2.1))\/∃c k:Int,c≠0/\1<=k/\k<=(l.length:Int)/\MJ b l c/\d=.inr (P7 c k b))
     (λk z hk ⟨y,⟨hy,hst,hdi⟩,e⟩=>by
      subst e;obtain⟨r,r1,r2,r3⟩:=P8 hb hl hk (0,[],0,0,0,0,0);have hc:cut l 0 (k:Int)=some (l.take k):=by rw[show (0:Int)=((0:Nat):Int)from rfl,vw (Nat.zero_le _) (by omega),drop_zero]
      simp only;unfold fX gt;rw[sG (show (k:Int)<(l.length:Int) by omega),cT,cT,sa hk,rG,hc,rG,r1,r2,rG,rG];rcases r3 with ⟨rfl,hnd⟩|⟨rfl,hdup⟩
      · obtain⟨q,q1,q2,q3,q4⟩:=P4 hy (hl.2 _ (getElem_mem hk)).1;have q1':bG (y.1,y.2.1,y.2.2.1,y.2.2.2.1,y.2.2.2.2.1,y.2.2.2.2.2.1,y.2.2.2.2.2.2.1,y.2.2.2.2.2.2.2.1,y.2.2.2.2.2.2.2.2.1,y.2.2.2.2.2.2.2.2.2.1,y.2.2.2.2.2.2.2.2.2.2) l[k]=some q:=q1
        have q2':fj (y.1,y.2.1,y.2.2.1,y.2.2.2.1,y.2.2.2.2.1,y.2.2.2.2.2.1,y.2.2.2.2.2.2.1,y.2.2.2.2.2.2.2.1,y.2.2.2.2.2.2.2.2.1,y.2.2.2.2.2.2.2.2.2.1,y.2.2.2.2.2.2.2.2.2.2) l[k]=some q:=q2;simp only[Sum.elim_inl,rG,q1',q2',xg hb,uP hb,rW (show k<9223372036854775807 by omega)];cases hq:(q.2 != 0)with
        | true =>
         right;exact⟨_,rfl,rfl,.inr ⟨q.2,((k+1:Nat):Int),bne_iff_ne.1 hq,by omega,by omega,.inr (.inl ⟨k,y,hk,hst,hy,.inr ⟨q.1,q1⟩⟩),rfl⟩⟩
        | false =>
         left;have hq0:q.2=0:=by simpa using hq
         refine⟨_,rfl,rfl,q.1,⟨q3,?_,λi hi hik j hj=>?_⟩,rfl⟩
         · rw[take_add_one,List.getElem?_eq_getElem hk];exact .snoc hst hy (by rw[q1,←hq0])
         · by_cases e:i=k
           · subst e;exact hnd j hj
           · exact hdi i hi (by omega) j hj
      · right;exact⟨_,rfl,rfl,.inr ⟨5,((k+1:Nat):Int),by decide,by omega,by omega,.inr (.inl ⟨k,y,hk,hst,hy,.inl ⟨hdup,rfl⟩⟩),rfl⟩⟩)
     (λz ⟨y,⟨hy,hst,hdi⟩,e⟩=>by
      subst e;simp only;unfold fX gt;rw[sv (show ¬(l.length:Int)<(l.length:Int) by omega),cF,cF];rw[take_length]at hst;exact⟨_,rfl,rfl,.inl ⟨y,⟨hy,hst,λi hi=>hdi i hi hi⟩,rfl⟩⟩) (x:=(0,0,[],0,0,0,0,0,b.1,b.2.1,b.2.2.2.2.2.2.1,b.2.2.2.2.2.2.2.1,b.2.2.2.2.2.2.2.2.1,b.2.2.2.2.2.2.2.2.2.1,b.2.2.2.2.2.2.2.2.2.2,[],[],[],[],b.2.2.1,b.2.2.2.1,b.2.2.2.2.1,b.2.2.2.2.2.1)) ⟨b,⟨hs0,.nil,λi _ hi=>absurd hi (Nat.not_lt_zero _)⟩,rfl⟩
    rw[d1,d2,rG,rG];rcases d3 with ⟨y,⟨hy,hst,hdi⟩,rfl⟩|⟨c,k,c0,k1,k2,hfl,rfl⟩
    · have n6:=hy.n6;have v6:=hy.v;have hq:=hy.q
      have t1:dC (y.2.2.2.2.1,y.2.2.2.2.2.1) (y.2.2.1.length:Int)=some (vc (y.2.2.2.2.1,y.2.2.2.2.2.1) (y.2.2.1.length:Int)):=MA (v:=(y.2.2.2.2.1,y.2.2.2.2.2.1)) _ (by show y.2.2.2.2.1.length<_;omega) (by show y.2.2.2.2.2.1.length<_;omega);have t2:aI (y.2.2.2.2.1,y.2.2.2.2.2.1) (y.2.2.1.length:Int)=some (vc (y.2.2.2.2.1,y.2.2.2.2.2.1) (y.2.2.1.length:Int)):=JE (v:=(y.2.2.2.2.1,y.2.2.2.2.2.1)) _ (by show y.2.2.2.2.1.length<_;omega) (by show y.2.2.2.2.2.1.length<_;omega) hy.h
      simp only[Sum.elim_inl,t1,t2,rG];cases hv:vc (y.2.2.2.2.1,y.2.2.2.2.2.1) (y.2.2.1.length:Int)with
      | false=>exact⟨_,rfl,rfl,hb,λ_=>⟨hs0,hp⟩,.inr ⟨rfl,by show (5:Int)≠0;decide,by show (1:Int)<=(l.length:Int);omega,Int.le_refl _,.inr (.inr ⟨y,hst,rfl⟩)⟩⟩
      | true =>
       obtain⟨r,r1,r2,r3,r4,r5,r6⟩:=MI hy;have r1':bE (y.1,y.2.1,y.2.2.1,y.2.2.2.1,y.2.2.2.2.1,y.2.2.2.2.2.1,y.2.2.2.2.2.2.1,y.2.2.2.2.2.2.2.1,y.2.2.2.2.2.2.2.2.1,y.2.2.2.2.2.2.2.2.2.1,y.2.2.2.2.2.2.2.2.2.2)=some r:=r1
       have r2':bO (y.1,y.2.1,y.2.2.1,y.2.2.2.1,y.2.2.2.2.1,y.2.2.2.2.2.1,y.2.2.2.2.2.2.1,y.2.2.2.2.2.2.2.1,y.2.2.2.2.2.2.2.2.1,y.2.2.2.2.2.2.2.2.2.1,y.2.2.2.2.2.2.2.2.2.2)=some r:=r2;simp only[Bool.not_true,cF,r1',r2',rG];exact⟨_,rfl,rfl,r3.le,λ_=>⟨r3,r3.ok (by rw[r4,r5,r6];exact hv)⟩,.inl ⟨rfl,rfl,.inr ⟨y,hst,hy,hdi,r1⟩⟩⟩
    · simp only[Sum.elim_inr];exact⟨_,rfl,rfl,hb,λ_=>⟨hs0,hp⟩,.inr ⟨rfl,c0,k1,k2,hfl⟩⟩

theorem sT.le {b:rI} (h:sT b):yb M b:=by
 obtain⟨v1,v2,v3,v4⟩:=h.vt.len;have h1:=h.name;have h2:=h.n6;have h3:=h.f12
 have v3':b.2.2.2.2.2.1.length=b.2.2.1.length:=v3;have v4':b.2.2.2.2.1.length<=6:=v4
 have hM:M=1048576:=rfl;exact⟨by omega,by omega,by omega,by omega,by omega⟩
def Dr {α:Type} (P:α->Prop) (o:Option (sc×α)):Prop:=∃c x,o=some (c,x)/\CW c/\P x
theorem Dr.cond {α:Type} {P:α->Prop} {a b:Option (sc×α)} {t:Bool} (ha:Dr P a) (hb:Dr P b):Dr P (cond t a b):=by cases t<;>assumption
theorem Dr.bind {α β:Type} {Q:α->Prop} {P:β->Prop} {o:Option (sc×α)} {f:sc×α->Option (sc×β)} (h:Dr Q o) (k:∀c x,CW c->Q x->Dr P (f (c,x))):Dr P (o.bind f):=by
 obtain⟨c,x,rfl,hc,hx⟩:=h;exact k c x hc hx
theorem Dr.some {α:Type} {P:α->Prop} {c:sc} {x:α} (hc:CW c) (hx:P x):Dr P (some (c,x)):=⟨c,x,rfl,hc,hx⟩
theorem uy {c:sc} (h:CW c) (n:Int):Dr (λr:Int=>0<=r/\(1<=n->r<n)) (aa c n):=by
 obtain⟨c',r,e,w,h1,h2⟩:=wU h n;exact⟨c',r,e,w,h1,h2⟩
theorem Cd {c:sc} (h:CW c) {l:List Int} (hl:1<=l.length):Dr (λr:Int=>r∈l) (ai c l):=by
 obtain⟨c',r,e,w,h1⟩:=C5 h hl;exact⟨c',r,e,w,h1⟩
theorem MK {c:sc} (h:CW c) {l:List (List UInt8)} (hl:1<=l.length):Dr (λr:List UInt8=>r∈l) (aU c l):=by
 obtain⟨c',r,e,w,h1⟩:=M6 h hl;exact⟨c',r,e,w,h1⟩
theorem JV {c:sc} (h:CW c):Dr (λo:List Int=>Nm o) (aS c):=by
 obtain⟨c',r,e,w,h1⟩:=OR h;exact⟨c',r,e,w,h1⟩
theorem JW {c:sc} (h:CW c):Dr (λ_:Int=>True) (cO c):=by
 unfold cO;refine Dr.bind (uy h 1000) λc x hc _=>?_;obtain⟨c',r,e,w,_⟩:=C5 hc (l:=[0,1,(-1),127,128,(-128),(-129),255,256,32767,32768,(-32769),8388608,2147483647,(-2147483648),2147483648,(-2147483649),9223372036854775807,(-9223372036854775808),x]) (by simp);simp only[e];exact⟨c',r,rfl,w,trivial⟩
def Lf (v:vl):Prop:=(v.1=2->v.2.2.1=[]/\v.2.2.2=[])/\(v.1=4->v.2.1=0/\v.2.2.2=[])
theorem HC (n:Int):Lf (2,n,[],[]):=⟨λ_=>⟨rfl,rfl⟩,λh=>absurd (show (2:Int)=4 from h) (by decide)⟩
theorem P9 (s:List UInt8):Lf (4,0,s,[]):=⟨λh=>absurd (show (4:Int)=2 from h) (by decide),λ_=>⟨rfl,rfl⟩⟩
theorem QQ (o:List Int):Lf (6,0,[],o):=⟨λh=>absurd (show (6:Int)=2 from h) (by decide),λh=>absurd (show (6:Int)=4 from h) (by decide)⟩
theorem Mm (k:Int):Lf (k,0,[],[]):=⟨λ_=>⟨rfl,rfl⟩,λ_=>⟨rfl,rfl⟩⟩
def IJ (v:vl):Prop:=v.2.2.1.length<=100/\v.2.2.2.length<=1000/\Lf v
theorem JX (n:Int):∃r,ax n=some r:=by
 unfold ax;cases decide (n>2147483647)<;>cases decide (n<(-2147483648))<;>exact⟨_,rfl⟩
theorem HD {x:List UInt8} {l:List (List UInt8)} {n:Nat} (h:x∈l) (hl:∀y∈l,y.length<=n):x.length<=n:=hl x h
theorem JY {c:sc} (h:CW c):Dr IJ (aD c):=by
 unfold aD;refine Dr.bind (uy h 6) λc x hc _=>?_;have hn:∀c,CW c->Dr IJ ((cO c).bind λt12=>(ax t12.2).bind λt13=>(ah t13).bind λt14=>some (t12.1,t14)):=λc hc=>by
  refine Dr.bind (JW hc) λc x hc _=>?_;obtain⟨r,hr⟩:=JX x;simp only[hr,rG,ah];exact Dr.some hc ⟨by simp,by simp,HC _⟩
 have hs:∀c,CW c->Dr IJ ((aU c ([[],[97],[121,97,114,100],[0]]:List (List UInt8))).bind λt19=>some (t19.1,(4,0,t19.2,[]))):=λc hc=>by
  refine Dr.bind (MK hc (by decide)) λc x hc hx=>?_;exact Dr.some hc ⟨Nat.le_trans (HD (n:=4) hx (by decide)) (by decide),by simp,P9 _⟩
 have ho:∀c,CW c->Dr IJ ((aS c).bind λt24=>some (t24.1,(6,0,[],t24.2))):=λc hc=>by
  refine Dr.bind (JV hc) λc x hc hx=>?_;exact Dr.some hc ⟨by simp,by have:=hx.n10;show x.length<=1000;omega,QQ _⟩
 have hi:∀c,CW c->Dr IJ ((ai c ([128,130]:List Int)).bind λt28=>some (t28.1,(t28.2,0,[],[]))):=λc hc=>by
  refine Dr.bind (Cd hc (by decide)) λc x hc hx=>?_;exact Dr.some hc ⟨by simp,by simp,Mm _⟩
 repeat' (first|apply Dr.cond|exact Dr.some hc ⟨by simp,by simp,Mm _⟩|exact hn c hc|exact hs c hc|exact ho c hc|exact hi c hc)
def xB (x:rK):Prop:=x.1.length<=1000/\IJ x.2
theorem xB.le {x:rK} (h:xB x):CS M x:=by
 have hM:M=1048576:=rfl;obtain⟨h1,h2,h3,_⟩:=h;exact⟨by omega,by omega,by omega⟩
theorem Pa {c:sc} (h:CW c) {b:rI} (hb:wI b) (hn:∀c,CW c->Dr Nm (ay c b)):Dr xB (gD c b):=by
 obtain⟨t18,hsh⟩:∃t,shl .i64 1 (IntKind.u64.wrap (b.2.2.1.length:Int))=some t:=by
  unfold shl;rw[if_neg (show ¬IntKind.u64.wrap (b.2.2.1.length:Int)<0 by show ¬((b.2.2.1.length:Int)%18446744073709551616)<0;omega)];exact⟨_,rfl⟩
 have hnm:∀(l:List Int),l.length<=100->af l=some ([1,3,1]++l):=λl hl=>Dm l hl;have h22:∀c p,CW c->Dr xB ((af [2,2,rJ (1+p)]).bind λt36=>(ai c ([1,5,1000,0,1001]:List Int)).bind λt39=>(ah t39.2).bind λt40=>some (t39.1,(t36,t40.1,t40.2.1,t40.2.2.1,t40.2.2.2))):=λc p hc=>by
  rw[hnm _ (by simp),rG];exact Dr.bind (Cd hc (by decide)) λc x hc _=>Dr.some hc ⟨by simp,by simp,by simp,HC _⟩
 have h24:∀c p,CW c->Dr xB ((af [2,4,rJ (1+p)]).bind λt46=>(aa c 4).bind λt48=>(ah (rJ (1+t48.2))).bind λt50=>some (t48.1,(t46,t50.1,t50.2.1,t50.2.2.1,t50.2.2.2))):=λc p hc=>by
  rw[hnm _ (by simp),rG];exact Dr.bind (uy hc 4) λc x hc _=>Dr.some hc ⟨by simp,by simp,by simp,HC _⟩
 have h31:∀c,CW c->Dr xB ((aa c 4).bind λt56=>(af [3,1,rJ (1+t56.2)]).bind λt59=>(ai t56.1 ([4,4,6,1]:List Int)).bind λt62=>(ah t62.2).bind λt63=>some (t62.1,(t59,t63.1,t63.2.1,t63.2.2.1,t63.2.2.2))):=λc hc=>by
  refine Dr.bind (uy hc 4) λc x hc _=>?_;rw[hnm _ (by simp),rG];exact Dr.bind (Cd hc (by decide)) λc x hc _=>Dr.some hc ⟨by simp,by simp,by simp,HC _⟩
 have h3x:∀c k m,CW c->Dr xB ((aa c 4).bind λt69=>(af [3,k,rJ (1+t69.2)]).bind λt72=>(aa t69.1 m).bind λt76=>(ah t76.2).bind λt77=>some (t76.1,(t72,t77.1,t77.2.1,t77.2.2.1,t77.2.2.2))):=λc k m hc=>by
  refine Dr.bind (uy hc 4) λc x hc _=>?_;rw[hnm _ (by simp),rG];exact Dr.bind (uy hc m) λc x hc _=>Dr.some hc ⟨by simp,by simp,by simp,HC _⟩
 have hoth:∀c,CW c->Dr xB ((ay c b).bind λt94=>(aD t94.1).bind λt96=>some (t96.1,(t94.2,t96.2.1,t96.2.2.1,t96.2.2.2.1,t96.2.2.2.2))):=λc hc=>by
  refine Dr.bind (hn c hc) λc o hc ho=>?_;refine Dr.bind (JY hc) λc v hc hv=>?_;exact Dr.some hc ⟨by have:=ho.n10;show o.length<=1000;omega,hv⟩
 have h11:∀c,CW c->Dr xB ((af ([1,1]:List Int)).bind λt25=>(aU c ([[110,101,119],[],[101,108,101,118,101,110,45,98,121,116,101]]:List (List UInt8))).bind λt28=>some (t28.1,(t25,4,0,t28.2,[]))):=λc hc=>by
  rw[hnm _ (by simp),rG];exact Dr.bind (MK hc (by decide)) λc x hc hx=>Dr.some hc ⟨by simp,Nat.le_trans (HD (n:=11) hx (by decide)) (by decide),by simp,P9 _⟩
 unfold gD;refine Dr.bind (uy h _) λc p hc _=>?_;rw[hsh,rG];refine Dr.bind (uy hc 10) λc r hc _=>?_
 repeat' (first|apply Dr.cond|exact h22 c p hc|exact h24 c p hc|exact h31 c hc|exact h3x c _ _ hc|exact hoth c hc|exact h11 c hc)
theorem NK {c:sc} (h:CW c) {b:rI} (hb:wI b) (hn:∀c,CW c->Dr Nm (ay c b)):Dr (λl:List rK=>l.length<=3/\∀x∈l,xB x) (fr c b):=by
 unfold fr;obtain⟨c1,k,e1,w1,hk⟩:=uI h (n:=4) (by decide);have e1':aa c 4=some (c1,(k:Int)):=e1
 rw[e1',rG];obtain⟨d,d1,d2,d3,d4⟩:=se (step:=λz:Int×List Int×Int×Int×List rK=>cR b z.1 z.2.1 z.2.2.1 z.2.2.2.1 z.2.2.2.2)
  (λi z=>z.1=((k-i:Nat):Int)/\CW (z.2.1,z.2.2.1,z.2.2.2.1)/\z.2.2.2.2.length=i/\∀x∈z.2.2.2.2,xB x) k
  (λd=>CW (d.1,d.2.1,d.2.2.1)/\d.2.2.2.length=k/\∀x∈d.2.2.2,xB x)
  (λi z hi ⟨z1,z2,z3,z4⟩=>by
   obtain⟨j,c0,c1,c2,out⟩:=z;simp only at z1 z2 z3 z4;subst z1 z3;left;obtain⟨c',x,x1,x2,x3⟩:=Pa z2 hb hn;refine⟨_,by
    show cR b _ _ _ _ _=_;unfold cR;rw[dT (show ((k-out.length:Nat):Int)>0 by omega),cT,x1,rG,rP (by show _+1<=_;omega),rG],?_,x2,by simp,?_⟩
   · show rJ (((k-out.length:Nat):Int)-1)=_;rw[sg (by omega) (by omega)];omega
   · intro y hy;rcases mem_append.1 hy with hy|hy
     · exact z4 y hy
     · simp at hy;subst hy;exact x3)
  (λz ⟨z1,z2,z3,z4⟩=>by
   obtain⟨j,c0,c1,c2,out⟩:=z;simp only at z1 z2 z3 z4;rw[Nat.sub_self]at z1;subst z1;refine⟨(c0,c1,c2,out),?_,z2,z3,z4⟩;show cR b _ _ _ _ _=_
   unfold cR;rw[dF (show ¬((0:Nat):Int)>0 by decide),cF]) (x:=((k:Int),c1.1,c1.2.1,c1.2.2,[])) ⟨rfl,w1,rfl,by simp⟩
 show Dr _ ((loop (λz:Int×List Int×Int×Int×List rK=>cR b z.1 z.2.1 z.2.2.1 z.2.2.2.1 z.2.2.2.2) ((k:Int),c1.1,c1.2.1,c1.2.2,[])).bind _);rw[d1,rG];exact Dr.some d2 ⟨by omega,d4⟩

def zr (n:Int):Int:=if n>2147483647 then 2147483647 else if n < -2147483648 then -2147483648 else n
theorem IK (n:Int):-2147483648<=zr n/\zr n<=2147483647:=by unfold zr;split<;>(try split)<;>omega
def tA (m:Int):List Int:=if rM m (-128) 127 then [m%256]else if rM m (-32768) 32767 then [m/256%256,m%256]else if rM m (-8388608) 8388607 then [m/65536%256,m/256%256,m%256]else [m/16777216%256,m/65536%256,m/256%256,m%256]
theorem w8 (x:Int):IntKind.u8.wrap x=x%256:=rfl
theorem fd (m:Int) {k:Int} (hk:0<=k):m.fdiv k=m/k:=Int.fdiv_eq_ediv_of_nonneg m hk
theorem sd {α β:Type} {step:α->Option (α⊕β)} {x y:α} {b:β} (h:step x=some (.inl y)) (k:loop step y=some b):loop step x=some b:=by
 obtain⟨n,hn⟩:=CG k;exact xp (k:=n+1) (by rw[u4,h];exact hn)
theorem HE {n:Int} (hn:-9223372036854775808<=n/\n<=9223372036854775807):dk n=some (tA (zr n)):=by
 unfold dk;have hc:max2 (-2147483648) (min2 n 2147483647)=zr n:=by
  unfold max2 min2 zr;split<;>split<;>(try split)<;>(try split)<;>omega
 rw[hc];obtain⟨h1,h2⟩:=IK n;generalize zr n=m at h1 h2;simp only;have a1:aL m 1=cond (!(rM m (-128) 127)) (some (.inl 2)) (some (.inr 1)):=by
  unfold aL;rw[show shl .i64 (-1) (rJ ((rJ (8*1))-1))=some (-128)from rfl,show shl .i64 1 (rJ ((rJ (8*1))-1))=some 128 from rfl];simp only[rG,vI];rw[show rJ (128-1)=127 from rfl];cases rM m (-128) 127<;>rfl
 have a2:aL m 2=cond (!(rM m (-32768) 32767)) (some (.inl 3)) (some (.inr 2)):=by
  unfold aL;rw[show shl .i64 (-1) (rJ ((rJ (8*2))-1))=some (-32768)from rfl,show shl .i64 1 (rJ ((rJ (8*2))-1))=some 32768 from rfl];simp only[rG,vI];rw[show rJ (32768-1)=32767 from rfl];cases rM m (-32768) 32767<;>rfl
 have a3:aL m 3=cond (!(rM m (-8388608) 8388607)) (some (.inl 4)) (some (.inr 3)):=by
  unfold aL;rw[show shl .i64 (-1) (rJ ((rJ (8*3))-1))=some (-8388608)from rfl,show shl .i64 1 (rJ ((rJ (8*3))-1))=some 8388608 from rfl];simp only[rG,vI];rw[show rJ (8388608-1)=8388607 from rfl];cases rM m (-8388608) 8388607<;>rfl
 have a4:aL m 4=some (.inr 4):=rfl;have b3:∀out:List Int,out.length<=10->az m 3 out=some (.inl (2,out++[m/16777216%256])):=λout ho=>by
  unfold az;rw[show shr .i64 m (rJ (8*3))=some (m.fdiv (2^24))from rfl,rG,rP (by simp;omega),rG,w8,fd m (by decide)];rfl
 have b2:∀out:List Int,out.length<=10->az m 2 out=some (.inl (1,out++[m/65536%256])):=λout ho=>by
  unfold az;rw[show shr .i64 m (rJ (8*2))=some (m.fdiv (2^16))from rfl,rG,rP (by simp;omega),rG,w8,fd m (by decide)];rfl
 have b1:∀out:List Int,out.length<=10->az m 1 out=some (.inl (0,out++[m/256%256])):=λout ho=>by
  unfold az;rw[show shr .i64 m (rJ (8*1))=some (m.fdiv (2^8))from rfl,rG,rP (by simp;omega),rG,w8,fd m (by decide)];rfl
 have b0:∀out:List Int,out.length<=10->az m 0 out=some (.inl (-1,out++[m%256])):=λout ho=>by
  unfold az;rw[show shr .i64 m (rJ (8*0))=some (m.fdiv (2^0))from rfl,rG,rP (by simp;omega),rG,w8,fd m (by decide)];simp;rfl
 have be:∀out:List Int,az m (-1) out=some (.inr out):=λout=>rfl;have c0:∀out:List Int,out.length<=9->loop (λz:Int×List Int=>az m z.1 z.2) (0,out)=some (out++[m%256]):=λout ho=>sd (b0 out (by omega)) (sm (be _))
 have c1:∀out:List Int,out.length<=8->loop (λz:Int×List Int=>az m z.1 z.2) (1,out)=some (out++[m/256%256]++[m%256]):=λout ho=>sd (b1 out (by omega)) (c0 _ (by simp;omega));have c2:∀out:List Int,out.length<=7->loop (λz:Int×List Int=>az m z.1 z.2) (2,out)=some (out++[m/65536%256]++[m/256%256]++[m%256]):=λout ho=>sd (b2 out (by omega)) (c1 _ (by simp;omega))
 have c3:∀out:List Int,out.length<=6->loop (λz:Int×List Int=>az m z.1 z.2) (3,out)=some (out++[m/16777216%256]++[m/65536%256]++[m/256%256]++[m%256]):=λout ho=>sd (b3 out (by omega)) (c2 _ (by simp;omega));unfold tA;cases h8:rM m (-128) 127 with
 | true =>
  rw[h8]at a1;rw[sm (step:=λz=>aL m z) a1,rG,show rJ (1-1)=0 from rfl,c0 [] (by simp)];rfl
 | false =>
  rw[h8]at a1;cases h16:rM m (-32768) 32767 with
  | true =>
   rw[h16]at a2;rw[sd (step:=λz=>aL m z) a1 (sm a2),rG,show rJ (2-1)=1 from rfl,c1 [] (by simp)];rfl
  | false =>
   rw[h16]at a2;cases h24:rM m (-8388608) 8388607 with
   | true =>
    rw[h24]at a3;rw[sd (step:=λz=>aL m z) a1 (sd a2 (sm a3)),rG,show rJ (3-1)=2 from rfl,c2 [] (by simp)];rfl
   | false =>
    rw[h24]at a3;rw[sd (step:=λz=>aL m z) a1 (sd a2 (sd a3 (sm a4))),rG,show rJ (4-1)=3 from rfl,c3 [] (by simp)];rfl
theorem B0 {n a b:Int} (h:rM n a b=false):n<a\/n>b:=by
 unfold rM at h;simp only[Bool.and_eq_false_iff,decide_eq_false_iff_not]at h;omega
theorem sE {n a b:Int} (h:rM n a b=true):a<=n/\n<=b:=by
 unfold rM at h;simp only[aT,decide_eq_true_eq]at h;omega
theorem zt {n:Int}:aK n=some (tA (zr n)):=by
 unfold aK;have hc:ax n=some (zr n):=by
  unfold ax zr;by_cases h1:n>2147483647
  · rw[dT h1,cT,if_pos h1]
  · rw[dF h1,cF,if_neg h1];by_cases h2:n < -2147483648
    · rw[dT h2,cT,if_pos h2]
    · rw[dF h2,cF,if_neg h2]
 rw[hc,rG];obtain⟨h1,h2⟩:=IK n;generalize zr n=m at h1 h2;have st:∀(x:Int) (out:List Int),out.length<=10->cc x out=cond (rM x (-128) 127) (some (.inr out)) (some (.inl (x/256,x/256%256::out))):=λx out ho=>by
  unfold cc;have e:(cond (decide (x<(-128))) (some true) (some (decide (x>127))))=some (!(rM x (-128) 127)):=by
   unfold rM;by_cases h1:x < -128
   · rw[dT h1,cT,dF (show ¬x >= -128 by omega)];rfl
   · rw[dF h1,cF,dT (show x >= -128 by omega)];by_cases h2:x>127
     · rw[dT h2,dF (show ¬x<=127 by omega)];rfl
     · rw[dF h2,dT (show x<=127 by omega)];rfl
  rw[e,rG,rP (by simp;omega),rG,w8,fd x (by decide)];cases rM x (-128) 127<;>rfl
 rw[w8];have goes:∀(x:Int) (out:List Int),out.length<=9->rM x (-128) 127=true->loop (λz:Int×List Int=>cc z.1 z.2) (x,out)=some out:=λx out ho h=>sm (by show cc x out=_;rw[st x out (by omega),h];rfl)
 have more:∀(x:Int) (out r:List Int),out.length<=9->rM x (-128) 127=false->loop (λz:Int×List Int=>cc z.1 z.2) (x/256,x/256%256::out)=some r->loop (λz:Int×List Int=>cc z.1 z.2) (x,out)=some r:=λx out r ho h k=>sd (by show cc x out=_;rw[st x out (by omega),h];rfl) k;have zP:∀(x a b:Int),a<=x->x<=b->rM x a b=true:=λx a b h1 h2=>by unfold rM;rw[dT h1,dT h2];rfl
 have outn:∀(x a b:Int),(x<a\/x>b)->rM x a b=false:=λx a b h=>by
  unfold rM;simp only[Bool.and_eq_false_iff,decide_eq_false_iff_not];omega
 unfold tA;cases h8:rM m (-128) 127 with
 | true=>rw[goes m _ (by simp) h8];rfl
 | false =>
  have k8:=B0 h8;cases h16:rM m (-32768) 32767 with
  | true =>
   have k16:=sE h16;rw[more m _ _ (by simp) h8 (goes (m/256) _ (by simp) (zP _ _ _ (by omega) (by omega)))];rfl
  | false =>
   have k16:=B0 h16;cases h24:rM m (-8388608) 8388607 with
   | true =>
    have k24:=sE h24;rw[more m _ _ (by simp) h8 (more (m/256) _ _ (by simp) (outn _ _ _ (by omega)) (goes (m/256/256) _ (by simp) (zP _ _ _ (by omega) (by omega))))];rw[show m/256/256=m/65536 by omega];rfl
   | false =>
    have k24:=B0 h24;rw[more m _ _ (by simp) h8 (more (m/256) _ _ (by simp) (outn _ _ _ (by omega)) (more (m/256/256) _ _ (by simp) (outn _ _ _ (by omega)) (goes (m/256/256/256) _ (by simp) (zP _ _ _ (by omega) (by omega)))))];rw[show m/256/256=m/65536 by omega,show m/65536/256=m/16777216 by omega];rfl

def tT (b:List Int):Prop:=∀x∈b,0<=x/\x<=255
def sL (t:Int) (body:List Int):List Int:=t::((if body.length>=128 then [129,(body.length:Int)]else [(body.length:Int)])++body)
theorem JZ (t:Int) {body:List Int} (hn:body.length<=M):ct t body=some (if rM t 0 255=true/\body.length<=250 then (sL t body,true)else ([],false)):=by
 have hn':body.length<=1048576:=hn;unfold ct;rw[vI,rG];cases ht:rM t 0 255 with
 | false=>rw[if_neg (by simp)];rfl
 | true =>
  obtain⟨t1,t2⟩:=sE ht;rw[Bool.not_true,cF,rG];by_cases h:(body.length:Int)>250
  · rw[dT h,cT,if_neg (by omega)]
  · rw[dF h,cF,if_pos ⟨rfl,by omega⟩];unfold sL;have e1:IntKind.u8.wrap t=t:=by rw[w8];omega
    have e2:IntKind.u8.wrap (body.length:Int)=(body.length:Int):=by rw[w8];omega
    by_cases h8:(body.length:Int)>=128
    · rw[dT h8,cT,rP (by simp),rG,rP (by simp),rG,rP (by simp;omega),rG,if_pos (by omega),e1,e2];rfl
    · rw[dF h8,cF,rP (by simp),rG,rP (by simp;omega),rG,if_neg (by omega),e1,e2];rfl
theorem HF {b:List Int} (t:Int) {body:List Int} (hb:b.length<=1000) (hn:body.length<=M):bj b t body=some (b++if rM t 0 255=true/\body.length<=250 then sL t body else []):=by
 unfold bj;have hM:M=1048576:=rfl
 rw[JZ t hn,rG,yJ (by omega),rG];split
 · next h =>
   have:(sL t body).length<=300:=by unfold sL;split<;>simp<;>omega
   rw[rP (by show b.length+(sL t body).length<=_;omega)];rfl
 · rw[rP (by show b.length+0<=_;omega)];rfl
theorem BF {α:Type} (pre l:List α) (j:Nat):at? (pre++l) ((pre.length+j:Nat):Int)=at? l (j:Int):=by
 unfold at?;rw[if_pos (by omega),if_pos (by omega),Int.toNat_natCast,Int.toNat_natCast,List.getElem?_append_right (by omega),Nat.add_sub_cancel_left]
theorem IL {α:Type} (pre l:List α) (i j:Nat) (h:i<=j) (hj:j<=l.length):cut (pre++l) ((pre.length+i:Nat):Int) ((pre.length+j:Nat):Int)=some ((l.take j).drop i):=by
 rw[vw (by omega) (by rw[length_append];omega),List.take_append,List.take_of_length_le (by omega),List.drop_append,List.drop_of_length_le (by omega),Nat.add_sub_cancel_left,Nat.add_sub_cancel_left,nil_append]
structure xQ (b:List Int) (at':Int) (t:Int) (body:List Int) (next:Int):Prop where
 ex:∃pre rest,b=pre++(sL t body++rest)/\at'=(pre.length:Int)/\next=((pre.length+(sL t body).length:Nat):Int)
 n:body.length<=250
 t:rM t 0 255=true
 b:tT body
theorem ER {b:List Int} (hb:tT b) (hn:b.length<=M) {i:Int} (hi:-9223372036854775808<=i/\i<=9223372036854775807):∃r,cn b i=some r/\cE b i=some r/\(r=(0,[],0,false)\/∃t body next,r=(t,body,next,true)/\xQ b i t body next):=by
 have hn':b.length<=1048576:=hn;unfold cn cE;rw[sg (show -9223372036854775808<=(b.length:Int)-2 by omega) (by omega)];by_cases h0:i<0
 · rw[dT h0];exact⟨_,rfl,rfl,.inl rfl⟩
 rw[dF h0];by_cases h1:i>(b.length:Int)-2
 · rw[dT h1];by_cases h2:i>=(b.length:Int)
   · rw[dT h2];exact⟨_,rfl,rfl,.inl rfl⟩
   · rw[dF h2,sg (by omega) (by omega),dT (show i+1>=(b.length:Int) by omega)];exact⟨_,rfl,rfl,.inl rfl⟩
 rw[dF h1,dF (show ¬i>=(b.length:Int) by omega),sg (show -9223372036854775808<=i+1 by omega) (by omega),dF (show ¬i+1>=(b.length:Int) by omega),sg (show -9223372036854775808<=i+2 by omega) (by omega)];simp only[cF,rG];obtain⟨k,rfl⟩:∃k:Nat,i=(k:Int):=⟨i.toNat,by omega⟩;have hk:k+1<b.length:=by omega
 obtain⟨pre,t,n0,rest,rfl,hp⟩:∃pre t n0 rest,b=pre++(t::n0::rest)/\pre.length=k:=by
  refine⟨b.take k,b[k],b[k+1],b.drop (k+2),?_,by rw[length_take];omega⟩;have h1:=take_append_drop k b
  rw[drop_eq_getElem_cons (by omega),drop_eq_getElem_cons (by omega)]at h1;exact h1.symm
 subst hp;have ht:0<=t/\t<=255:=hb t (by simp)
 have hn0:0<=n0/\n0<=255:=hb n0 (by simp);have hr:tT rest:=λx hx=>hb x (by simp[hx])
 have hlen:(pre++(t::n0::rest)).length=pre.length+(rest.length+2):=by simp
 have e0:at? (pre++(t::n0::rest)) (pre.length:Int)=some t:=by have:=BF pre (t::n0::rest) 0;rw[Nat.add_zero]at this;rw[this];rfl
 have e1:at? (pre++(t::n0::rest)) ((pre.length:Int)+1)=some n0:=by have:=BF pre (t::n0::rest) 1;rw[show ((pre.length:Int)+1)=((pre.length+1:Nat):Int) by omega,this];rfl
 have e2:at? (pre++(t::n0::rest)) ((pre.length:Int)+2)=at? rest 0:=by
  have:=BF pre (t::n0::rest) 2;rw[show ((pre.length:Int)+2)=((pre.length+2:Nat):Int) by omega,this];unfold at?;simp
 have wt:rJ t=t:=sg (by omega) (by omega);have wn:rJ n0=n0:=sg (by omega) (by omega)
 have pt:rM t 0 255=true:=by unfold rM;rw[dT ht.1,dT ht.2];rfl
 rw[hlen]at hn';rw[hlen,e0,e1,e2];simp only[rG,wt,wn];by_cases h8:n0>=128
 · rw[dT h8,dT (show n0>127 by omega)];simp only[cT];by_cases h9:n0=129
   · subst h9;simp only[show ((129:Int) != 129)=false from rfl,cF,rG];cases rest with
     | nil =>
      rw[dT (show (pre.length:Int)+2>=((pre.length+(([]:List Int).length+2):Nat):Int) by simp)];exact⟨_,rfl,rfl,.inl rfl⟩
     | cons n1 r =>
      have hn1:0<=n1/\n1<=255:=hr n1 (by simp);have wn1:rJ n1=n1:=sg (by omega) (by omega)
      rw[length_cons]at hn' ⊢;rw[dF (show ¬(pre.length:Int)+2>=((pre.length+(r.length+1+2):Nat):Int) by omega)];simp only[cF,rG,show at? (n1::r) 0=some n1 from rfl,wn1];by_cases h10:n1<128
      · rw[dT h10];exact⟨_,rfl,rfl,.inl rfl⟩
      rw[dF h10,sg (show -9223372036854775808<=(pre.length:Int)+2+1 by omega) (by omega),sg (show -9223372036854775808<=((pre.length+(r.length+1+2):Nat):Int)-((pre.length:Int)+2+1) by omega) (by omega)];simp only[cF];by_cases h11:n1>250
      · rw[dT h11];exact⟨_,rfl,rfl,.inl rfl⟩
      rw[dF h11];simp only[cF,rG];by_cases h12:n1>((pre.length+(r.length+1+2):Nat):Int)-((pre.length:Int)+2+1)
      · rw[dT h12];exact⟨_,rfl,rfl,.inl rfl⟩
      rw[dF h12];simp only[cF];obtain⟨m,rfl⟩:∃m:Nat,n1=(m:Int):=⟨n1.toNat,by omega⟩;have hcut:cut (pre++(t::129::(m:Int)::r)) ((pre.length:Int)+2+1) (rJ ((pre.length:Int)+2+1+(m:Int)))=some (r.take m):=by
       rw[sg (by omega) (by omega),show (pre.length:Int)+2+1+(m:Int)=((pre.length+(3+m):Nat):Int) by omega,show (pre.length:Int)+2+1=((pre.length+3:Nat):Int) by omega,IL _ _ _ _ (by omega) (by simp;omega)];simp[Nat.add_comm 3 m]
      have hl:(r.take m).length=m:=by rw[length_take];omega
      rw[hcut,rG,rG,yJ (by show _<=1048576;omega),vf (by show _<=1048576;omega),rG];refine⟨_,rfl,rfl,.inr ⟨t,r.take m,rJ ((pre.length:Int)+2+1+(m:Int)),rfl,⟨pre,r.drop m,?_,rfl,?_⟩,by omega,pt,λx hx=>hr x (mem_cons_of_mem _ (mem_of_mem_take hx))⟩⟩
      · unfold sL;rw[hl,if_pos (by omega)];simp
      · unfold sL;rw[hl,if_pos (by omega),sg (by omega) (by omega)];simp only[length_cons,length_append,length_nil,hl];omega
   · rw[bne_iff_ne.2 h9];exact⟨_,rfl,rfl,.inl rfl⟩
 · rw[dF h8,dF (show ¬n0>127 by omega)];simp only[cF];rw[dF (show ¬n0>250 by omega),sg (show -9223372036854775808<=((pre.length+(rest.length+2):Nat):Int)-((pre.length:Int)+2) by omega) (by omega)];simp only[cF,rG];by_cases h12:n0>((pre.length+(rest.length+2):Nat):Int)-((pre.length:Int)+2)
   · rw[dT h12];exact⟨_,rfl,rfl,.inl rfl⟩
   rw[dF h12];simp only[cF];obtain⟨m,rfl⟩:∃m:Nat,n0=(m:Int):=⟨n0.toNat,by omega⟩;have hcut:cut (pre++(t::(m:Int)::rest)) ((pre.length:Int)+2) (rJ ((pre.length:Int)+2+(m:Int)))=some (rest.take m):=by
    rw[sg (by omega) (by omega),show (pre.length:Int)+2+(m:Int)=((pre.length+(2+m):Nat):Int) by omega,show (pre.length:Int)+2=((pre.length+2:Nat):Int) by omega,IL _ _ _ _ (by omega) (by simp;omega)];simp[Nat.add_comm 2 m]
   have hl:(rest.take m).length=m:=by rw[length_take];omega
   rw[hcut,rG,rG,yJ (by show _<=1048576;omega),vf (by show _<=1048576;omega),rG];refine⟨_,rfl,rfl,.inr ⟨t,rest.take m,rJ ((pre.length:Int)+2+(m:Int)),rfl,⟨pre,rest.drop m,?_,rfl,?_⟩,by omega,pt,λx hx=>hr x (mem_of_mem_take hx)⟩⟩
   · unfold sL;rw[hl,if_neg (by omega)];simp
   · unfold sL;rw[hl,if_neg (by omega),sg (by omega) (by omega)];simp only[length_cons,length_append,length_nil,hl];omega

end Go.V.W
