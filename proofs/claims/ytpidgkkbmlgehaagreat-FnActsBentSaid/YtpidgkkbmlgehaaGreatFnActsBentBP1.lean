/- The law FnActsBent: part of the proof that for every input it returns true. No condition. -/
import Derived.KernelRfl
import Derived.Test.YtpidgkkbmlgehaaGreatFnActsBent
import Derived.Test.YtpidgkkbmlgehaaGreatV4
open List (any_eq_false any_eq_true append_assoc cons_lt_cons_iff getElem_mem getElem_of_mem length_append length_map length_set length_take map_append mem_append mem_cons mem_flatMap mem_map mem_range nil_append not_mem_nil pairwise_append pairwise_iff_getElem range_succ take_add_one take_append_drop take_length)
set_option linter.unusedVariables false
set_option linter.unusedSimpArgs false
namespace Go.V.W
theorem an {α β:Type} (a:α) (f:α->Option β):(some a).bind f=f a:=rfl
abbrev Bg:Type:=Cl
abbrev M:Nat:=1048576
abbrev In (left:Int):Prop:=0<=left/\left<=1048576
theorem In.next {left r:Int} (h:In left) (h1:0<=r) (h2:r<=left):In r:=⟨h1,by have:=h.2;omega⟩
theorem UM {n:Nat} (h:n<=M):n<=4294967295:=Nat.le_trans h (by decide)
def z7 (n:Nat) (b:vw):Prop:=b.2.1.length<=n/\b.2.2.1.length<=n/\b.2.2.2.1.length<=n/\b.2.2.2.2.1.length<=n/\b.2.2.2.2.2.1.length<=n
def Uu (n:Nat) (v:zj):Prop:=v.2.2.1.length<=n/\v.2.2.2.length<=n
def GL (n:Nat) (x:vB):Prop:=x.1.length<=n/\Uu n x.2
def D9 (n:Nat) (l:List vB):Prop:=l.length<=n/\∀x∈l,GL n x
def yj (n:Nat) (p:wd):Prop:=D9 n p.2.2.2.2
def jP (j:wM):wd:=(j.2.2.2.1,j.2.2.2.2.1,j.2.2.2.2.2.1,j.2.2.2.2.2.2.1,j.2.2.2.2.2.2.2.1)
def jB (a0:wM):vw:=(a0.2.2.2.2.2.2.2.2.1,a0.2.2.2.2.2.2.2.2.2.1,a0.2.2.2.2.2.2.2.2.2.2.1,a0.2.2.2.2.2.2.2.2.2.2.2.1,a0.2.2.2.2.2.2.2.2.2.2.2.2.1,a0.2.2.2.2.2.2.2.2.2.2.2.2.2.1,a0.2.2.2.2.2.2.2.2.2.2.2.2.2.2.1,a0.2.2.2.2.2.2.2.2.2.2.2.2.2.2.2.1,a0.2.2.2.2.2.2.2.2.2.2.2.2.2.2.2.2.1,a0.2.2.2.2.2.2.2.2.2.2.2.2.2.2.2.2.2.1,a0.2.2.2.2.2.2.2.2.2.2.2.2.2.2.2.2.2.2.1)
def QA (n:Nat) (j:wM):Prop:=j.2.1.length<=n/\yj n (jP j)/\z7 n (jB j)
def UN (n:Nat) (l:List wM):Prop:=l.length<=n/\∀x∈l,QA n x
def aB (a0:vO):vw:=(a0.1,a0.2.1,a0.2.2.1,a0.2.2.2.1,a0.2.2.2.2.1,a0.2.2.2.2.2.1,a0.2.2.2.2.2.2.1,a0.2.2.2.2.2.2.2.1,a0.2.2.2.2.2.2.2.2.1,a0.2.2.2.2.2.2.2.2.2.1,a0.2.2.2.2.2.2.2.2.2.2.1)
def Hv (n:Nat) (a:vO):Prop:=z7 n (aB a)/\a.2.2.2.2.2.2.2.2.2.2.2.1.length<=n/\UN n a.2.2.2.2.2.2.2.2.2.2.2.2.1
theorem ID {α β:Type} {f g:α->Option (α⊕β)} (wB:α->Prop) (h:∀x,wB x->f x=g x) (hi:∀x y,wB x->f x=some (.inl y)->wB y) {x:α} (h0:wB x):loop f x=loop g x:=by
 have key:∀k x,wB x->ze f k x=ze g k x:=by
  intro k
  induction k with
  | zero=>intro x _;rfl
  | succ k ih =>
   intro x hx;rw[xj,xj,←h x hx];cases hf:f x with
   | none=>rfl
   | some v=>cases v with
    | inl y=>exact ih y (hi x y hx hf)
    | inr b=>rfl
 have hex:(∃k,(ze f k x).isSome)↔∃k,(ze g k x).isSome:=by
  constructor<;>rintro⟨k,hk⟩<;>exact⟨k,by first|rwa [←key k x h0]|rwa [key k x h0]⟩
 by_cases hc:∃k,(ze f k x).isSome
 · obtain⟨k,hk⟩:=hc;cases hv:ze f k x with
   | none=>rw[hv]at hk;cases hk
   | some b=>rw[A2 hv,A2 ((key k x h0)▸hv)]
 · have hc':¬ ∃k,(ze g k x).isSome:=λh=>hc (hex.2 h);unfold loop;rw[dif_neg hc,dif_neg hc']
theorem yr {α β:Type} {f g:α->Option (α⊕β)} (h:∀x,f x=g x) (x:α):loop f x=loop g x:=by rw[funext h]
def vE (x a b:Int):Bool:=decide (x>=a)&&decide (x<=b)
theorem yB (x a b:Int):ac x a b=some (vE x a b):=by
 unfold ac vE;cases decide (x>=a)<;>rfl
theorem AG (x a b:Int):ae x a b=some (vE x a b):=yB x a b
def Da (v:AO):Bool:=vE v.1 1 99&&(vE v.2.1 0 100000&&(vE v.2.2.1 0 10&&(vE v.2.2.2.1 1 99&&vE v.2.2.2.2 0 7)))
theorem Ld (v:AO):cA v=some (Da v):=by
 unfold cA Da;simp only[yB,an];cases vE v.1 1 99<;>cases vE v.2.1 0 100000<;>cases vE v.2.2.1 0 10<;>cases vE v.2.2.2.1 1 99<;>rfl
theorem Sz:eP=cA:=rfl
def zQ (p:Pt):Bool:=vE p.2.1 1 1000&&(!(p.2.2.1&&!p.1)&&(cond p.2.2.1 (Da p.2.2.2) (p.2.2.2.1==0&&(p.2.2.2.2.1==0&&(p.2.2.2.2.2.1==0&&(p.2.2.2.2.2.2.1==0&&(p.2.2.2.2.2.2.2==0)))))))
theorem Vn (p:Pt):fW p=some (zQ p):=by
 obtain⟨up,cost,heard,v⟩:=p;unfold fW zQ;simp only[yB,Ld,an];cases vE cost 1 1000<;>cases up<;>cases heard<;>rfl
theorem Vo (p:Pt):fS p=some (zQ p):=by
 obtain⟨up,cost,heard,v⟩:=p;unfold fS zQ;simp only[AG,Sz,Ld,an];cases vE cost 1 1000<;>cases up<;>cases heard<;>rfl
theorem zC {n:Nat} {c:Int->Option Bool} {b:Nat->Bool} (hn:n<9223372036854775807) (hc:∀k,k<n->c (k:Int)=some (b k)) :
 loop (λi:Int=>cond (decide (i<(n:Int))) ((c i).bind λt=>cond t (some (.inr (.inr false))) (some (.inl (vA (i+1))))) (some (.inr (.inl ())))) 0=some (cond ((List.range n).any b) (Sum.inr false) (Sum.inl ()):Unit⊕Bool):=by
 obtain⟨v,h1,h2⟩:=vR (β:=Unit⊕Bool) (step:=λi:Int=>cond (decide (i<(n:Int))) ((c i).bind λt=>cond t (some (.inr (.inr false))) (some (.inl (vA (i+1))))) (some (.inr (.inl ()))))
  (λk i=>i=(k:Int)/\(List.range k).any b=false) n (λv=>v=cond ((List.range n).any b) (Sum.inr false) (Sum.inl ()))
  (λk i hk ⟨e,ha⟩=>by
   subst e;have hs:(cond (decide ((k:Int)<(n:Int))) ((c (k:Int)).bind λt=>cond t (some (.inr (.inr false))) (some (.inl (vA ((k:Int)+1))))) (some (.inr (.inl ()))):Option (Int⊕(Unit⊕Bool)))=cond (b k) (some (.inr (.inr false))) (some (.inl ((k+1:Nat):Int))):=by
    rw[wm (by omega),cT,hc k hk,an,vK (by omega)]
   cases hb:b k with
   | true =>
    refine .inr ⟨.inr false,by rw[hs,hb];rfl,?_⟩;have:(List.range n).any b=true:=any_eq_true.2 ⟨k,mem_range.2 hk,hb⟩
    rw[this];rfl
   | false =>
    refine .inl ⟨_,by rw[hs,hb];rfl,rfl,?_⟩;rw[range_succ,List.any_append,ha];simp[hb])
  (λi ⟨e,ha⟩=>by
   subst e;exact⟨.inl (),by rw[wg (by omega),cF],by rw[ha];rfl⟩) (x:=0) ⟨rfl,rfl⟩
 rw[h1,h2]
def yn (e:vD):Bool:=vE e.1 1 99&&(vE e.2.1 1 9999&&(vE e.2.2.1 0 7&&(vE e.2.2.2.1 0 4&&(!e.2.2.2.2||e.2.2.2.1==0))))
theorem IE (e:vD):dC e=some (yn e):=by
 unfold dC yn;simp only[yB,an];cases vE e.1 1 99<;>cases vE e.2.1 1 9999<;>cases vE e.2.2.1 0 7<;>cases vE e.2.2.2.1 0 4<;>cases e.2.2.2.2<;>rfl
theorem Nq:cU=dC:=rfl
def xQ (e:vD) (tag mac:Int):Bool:=decide (e.1>tag)||(e.1==tag&&decide (e.2.1>mac))
theorem J6 (e:vD) (tag mac:Int):eU e tag mac=some (xQ e tag mac):=by
 unfold eU xQ;cases decide (e.1>tag)<;>cases (e.1==tag)<;>rfl
theorem SA (p e:vD):bE p e.1 e.2.1=some (xQ e p.1 p.2.1):=by
 unfold bE xQ;by_cases h:p.1=e.1
 · simp[h]
 · have h':¬e.1=p.1:=λk=>h k.symm;have e1:(p.1 != e.1)=true:=by simpa using h
   have e2:(e.1==p.1)=false:=by simpa using h'
   rw[e1,e2,cT,Bool.false_and,Bool.or_false]
def B2 (l:List vD) (k:Nat):Bool:=match l[k]? with
 | some e=>!(yn e)||(decide (0<k)&&(match l[k-1]? with|some p=>!(xQ e p.1 p.2.1)|none=>false))
 | none=>false
def AX (l:List vD):Bool:=!((List.range l.length).any (B2 l))&&decide ((l.length:Int)<=12)
theorem DB {α:Type} {l:List α} {k:Nat} (h:k<l.length) (hk:0<k) (hn:l.length<9223372036854775807):at? l (vA ((k:Int)-1))=some l[k-1]:=by
 rw[vW (by omega) (by omega),show (k:Int)-1=((k-1:Nat):Int) by omega,vL (by omega)]
theorem PX {l:List vD} (hn:l.length<9223372036854775807):fX l=some (AX l):=by
 unfold fX AX;have h:=zC (n:=l.length) (c:=λi=>(at? l i).bind λx10=>(dC x10).bind λt13=>(cond (!t13) (some true) ((cond (decide (i>0)) ((at? l (vA (i-1))).bind λx23=>(at? l (vA (i-1))).bind λx29=>(eU x10 x23.1 x29.2.1).bind λt32=>some (!t32)) (some false)).bind λt34=>some t34)).bind λt=>some t) (b:=B2 l) hn (λk hk=>by
  simp only[vL hk,an,IE,B2,List.getElem?_eq_getElem hk];cases yn l[k]with
  | false=>rfl
  | true =>
   by_cases h0:0<k
   · have hd:decide ((k:Int)>0)=true:=dT (by omega);simp only[hd,DB hk h0 hn,an,J6,dT h0,List.getElem?_eq_getElem (show k-1<l.length by omega)];rfl
   · have hd:decide ((k:Int)>0)=false:=dF (by omega);simp only[hd,dF h0];rfl)
 have e:(loop (λz=>jE l z) 0)=some (cond ((List.range l.length).any (B2 l)) (Sum.inr false) (Sum.inl ())):=by
  rw[←h];refine yr (λi=>?_) 0;unfold jE;simp only[Option.bind_assoc,an]
 rw[e,an];cases (List.range l.length).any (B2 l)<;>rfl
theorem PY {l:List vD} (hn:l.length<9223372036854775807):cS l=some (AX l):=by
 unfold cS AX;have h:=zC (n:=l.length) (c:=λi=>(at? l i).bind λx12=>(cU x12).bind λt14=>(cond (!t14) (some true) ((cond (decide (i>0)) ((at? l (vA (i-1))).bind λx23=>(at? l i).bind λx27=>(at? l i).bind λx32=>(bE x23 x27.1 x32.2.1).bind λt35=>some (!t35)) (some false)).bind λt37=>some t37)).bind λt=>some t) (b:=B2 l) hn (λk hk=>by
  simp only[vL hk,an,Nq,IE,B2,List.getElem?_eq_getElem hk];cases yn l[k]with
  | false=>rfl
  | true =>
   by_cases h0:0<k
   · have hd:decide ((k:Int)>0)=true:=dT (by omega);simp only[hd,DB hk h0 hn,an,SA,dT h0,List.getElem?_eq_getElem (show k-1<l.length by omega)];rfl
   · have hd:decide ((k:Int)>0)=false:=dF (by omega);simp only[hd,dF h0];rfl)
 have e:(loop (λz=>jv l z) 0)=some (cond ((List.range l.length).any (B2 l)) (Sum.inr false) (Sum.inl ())):=by
  rw[←h];refine yr (λi=>?_) 0;unfold jv;simp only[Option.bind_assoc,an]
 rw[e,an];cases (List.range l.length).any (B2 l)<;>rfl

theorem SB:aC=aj:=rfl
theorem OX {v:wz} (hn:v.1.length<9223372036854775807) (id:Int):∃r,aj v id=some r:=by
 unfold aj;obtain⟨b,h1,_⟩:=vR (β:=Unit⊕Int) (step:=λz=>aP v id z) (λk i=>i=(k:Int)) v.1.length (λ_=>True)
  (λk i hk h=>by
   subst h;unfold aP;rw[wm (by omega),cT,vL hk,an];cases (v.1[k].1==id)with
   | true=>exact .inr ⟨_,rfl,trivial⟩
   | false=>exact .inl ⟨_,rfl,vK (by omega)⟩)
  (λi h=>by
   subst h;unfold aP;rw[wg (by omega)];exact⟨_,rfl,trivial⟩) (x:=0) rfl
 rw[h1,an];cases b with
 | inl _=>exact⟨_,rfl⟩
 | inr r=>exact⟨r,rfl⟩
def xZ (i:Int):Int:=(2:Int)^i.toNat-1
theorem IF {i:Int} (h:vE i 1 6=true):i=1\/i=2\/i=3\/i=4\/i=5\/i=6:=by
 unfold vE at h;simp only[aT,decide_eq_true_eq]at h;omega
theorem JJ {i:Int} (h:vE i 1 6=true):fY i=some (xZ i):=by
 rcases IF h with rfl|rfl|rfl|rfl|rfl|rfl<;>rfl
theorem Nr {i:Int} (h:vE i 1 6=true):∃t,shl .i64 1 (IntKind.u64.wrap i)=some t/\vA (t-1)=xZ i:=by
 rcases IF h with rfl|rfl|rfl|rfl|rfl|rfl<;>exact⟨_,rfl,rfl⟩
theorem K0 {i:Int} (h:vE i 1 6=true):1<=xZ i/\xZ i<=63:=by
 rcases IF h with rfl|rfl|rfl|rfl|rfl|rfl<;>decide
theorem IG (x:BitVec 64):IntKind.i64.wrap (x.toNat:Int)=x.toInt:=by
 have hx:=x.isLt;rw[BitVec.toInt_eq_toNat_cond];show (let m:=(x.toNat:Int)%18446744073709551616;if (true&&decide (m>=9223372036854775808))=true then m-18446744073709551616 else m)=_
 simp only[Bool.true_and,decide_eq_true_eq];have h1:(x.toNat:Int)%18446744073709551616=(x.toNat:Int):=by omega
 rw[h1];split<;>split<;>omega
theorem CM {b:Int} (h1:-9223372036854775808<=b) (h2:b<=9223372036854775807):(BitVec.ofInt 64 b).toInt=b:=by
 rw[BitVec.toInt_ofInt];unfold Int.bmod;simp only;split<;>omega
theorem K1 (a b:Int):xM .i64 a b=(BitVec.ofInt 64 a&&&BitVec.ofInt 64 b).toInt:=IG _
theorem TN (a b:Int):BE .i64 a b=(BitVec.ofInt 64 a &&& ~~~ BitVec.ofInt 64 b).toInt:=IG _
theorem Me (x y:BitVec 64):x&&&y=x↔x &&& ~~~ y=0:=by
 constructor
 · intro h;apply BitVec.eq_of_getLsbD_eq;intro i hi;have:=congrArg (λz=>z.getLsbD i) h
   simp only[BitVec.getLsbD_and]at this;simp only[BitVec.getLsbD_and,BitVec.getLsbD_not,BitVec.getLsbD_zero,hi,decide_true,Bool.true_and];cases hx:x.getLsbD i<;>cases hy:y.getLsbD i<;>simp_all
 · intro h;apply BitVec.eq_of_getLsbD_eq;intro i hi;have:=congrArg (λz=>z.getLsbD i) h
   simp only[BitVec.getLsbD_and,BitVec.getLsbD_not,BitVec.getLsbD_zero,hi,decide_true,Bool.true_and]at this;simp only[BitVec.getLsbD_and];cases hx:x.getLsbD i<;>cases hy:y.getLsbD i<;>simp_all
theorem JK {b m:Int} (h1:-9223372036854775808<=b) (h2:b<=9223372036854775807):(xM .i64 b m != b)=(BE .i64 b m != 0):=by
 rw[K1,TN];have e:((BitVec.ofInt 64 b&&&BitVec.ofInt 64 m).toInt=b)↔((BitVec.ofInt 64 b &&& ~~~ BitVec.ofInt 64 m).toInt=0):=by
  constructor
  · intro h;have:BitVec.ofInt 64 b&&&BitVec.ofInt 64 m=BitVec.ofInt 64 b:=BitVec.eq_of_toInt_eq (by rw[h,CM h1 h2])
    rw[(Me _ _).1 this];rfl
  · intro h;have:BitVec.ofInt 64 b &&& ~~~ BitVec.ofInt 64 m=0:=BitVec.eq_of_toInt_eq (by rw[h];rfl)
    rw[(Me _ _).2 this,CM h1 h2]
 by_cases h:(BitVec.ofInt 64 b&&&BitVec.ofInt 64 m).toInt=b
 · have h':=e.1 h;simp[h,h']
 · have h':¬(BitVec.ofInt 64 b &&& ~~~ BitVec.ofInt 64 m).toInt=0:=λk=>h (e.2 k);rw[bne_iff_ne.2 h,bne_iff_ne.2 h']
theorem Mf {b m t:Int} (h1:-9223372036854775808<=b) (h2:b<=9223372036854775807) (hm:vE m 0 t=true) (ht:t<=63) (h:(xM .i64 b m != b)=false):vE b 0 t=true:=by
 unfold vE at hm ⊢;simp only[aT,decide_eq_true_eq]at hm ⊢;have h:xM .i64 b m=b:=by simpa using h
 rw[K1]at h;have e:BitVec.ofInt 64 b&&&BitVec.ofInt 64 m=BitVec.ofInt 64 b:=BitVec.eq_of_toInt_eq (by rw[h,CM h1 h2])
 have hM:(BitVec.ofInt 64 m).toNat=m.toNat:=by
  rw[BitVec.toNat_ofInt];omega
 have hle:(BitVec.ofInt 64 b).toNat<=m.toNat:=by
  rw[←e,BitVec.toNat_and,hM];exact Nat.and_le_right
 have hb:(BitVec.ofInt 64 b).toInt=((BitVec.ofInt 64 b).toNat:Int):=by
  rw[BitVec.toInt_eq_toNat_cond];split<;>omega
 rw[CM h1 h2]at hb;omega
def BU (v:wz) (i:Int) (k:Nat):Bool:=match v.1[k]? with
 | some r=>!(vE r.1 1 99)||((decide (0<k)&&(match v.1[k-1]? with|some p=>decide (p.1>=r.1)|none=>false))||(!(vE r.2.1 0 (xZ i))||(BE .i64 r.2.2 r.2.1 != 0)))
 | none=>false
noncomputable def Dp (v:wz) (k:Nat):Bool:=match v.2[k]? with
 | some x=>(match aj v x with|some t=>decide (t<0)|none=>false)
 | none=>false
noncomputable def yK (v:wz) (i:Int):Bool:=!(!(vE i 1 6)||((v.2.length:Int) != i||decide ((v.1.length:Int)>6)))&&(!((List.range v.1.length).any (BU v i))&&!((List.range v.2.length).any (Dp v)))
theorem OY {v:wz} {i:Int} (hi:vE i 1 6=true) (hn:v.1.length<9223372036854775807):loop (λz=>jF v i z) 0=some (cond ((List.range v.1.length).any (BU v i)) (Sum.inr false) (Sum.inl ())):=by
 rw[←zC (n:=v.1.length) (c:=λt28=>(at? v.1 t28).bind λx31 =>
  (ac x31.1 1 99).bind λt35 =>
  (cond (!t35) (some true) ((cond (decide (t28>0)) ((at? v.1 (vA (t28-1))).bind λx45=>some (decide (x45.1>=x31.1))) (some false)).bind λt51=>some t51)).bind λt52 =>
  (cond t52 (some true) ((fY i).bind λt57=>(ac x31.2.1 0 t57).bind λt58=>some (!t58))).bind λt60 =>
  (cond t60 (some true) (some ((BE .i64 x31.2.2 x31.2.1) != 0))).bind λt=>some t) (b:=BU v i) hn (λk hk=>by
   simp only[vL hk,an,yB,BU,List.getElem?_eq_getElem hk,JJ hi];cases vE v.1[k].1 1 99 with
   | false=>rfl
   | true =>
    by_cases h0:0<k
    · have hd:decide ((k:Int)>0)=true:=dT (by omega);simp only[hd,DB hk h0 hn,an,dT h0,List.getElem?_eq_getElem (show k-1<v.1.length by omega)];cases decide (v.1[k-1].1>=v.1[k].1)<;>cases vE v.1[k].2.1 0 (xZ i)<;>rfl
    · have hd:decide ((k:Int)>0)=false:=dF (by omega);simp only[hd,dF h0];cases vE v.1[k].2.1 0 (xZ i)<;>rfl)]
 refine yr (λi=>?_) 0;unfold jF;simp only[Option.bind_assoc,an]
theorem Ns {v:wz} {i t:Int} (hi:vE i 1 6=true) (ht:vA (t-1)=xZ i) (hn:v.1.length<9223372036854775807) (hw:∀r∈v.1,-9223372036854775808<=r.2.2/\r.2.2<=9223372036854775807):loop (λz=>jw v t z) 0=some (cond ((List.range v.1.length).any (BU v i)) (Sum.inr false) (Sum.inl ())):=by
 rw[←zC (n:=v.1.length) (c:=λt6=>(at? v.1 t6).bind λx39 =>
  (ae x39.1 1 99).bind λt43 =>
  (cond (!t43) (some true) ((ae x39.2.1 0 (vA (t-1))).bind λt49=>some (!t49))).bind λt51 =>
  (cond t51 (some true) ((ae x39.2.2 0 (vA (t-1))).bind λt56=>some (!t56))).bind λt58 =>
  (cond t58 (some true) (some ((xM .i64 x39.2.2 x39.2.1) != x39.2.2))).bind λt68 =>
  (cond t68 (some true) ((cond (decide (t6>0)) ((at? v.1 (vA (t6-1))).bind λx77=>some (decide (x77.1>=x39.1))) (some false)).bind λt83=>some t83)).bind λt=>some t) (b:=BU v i) hn (λk hk=>by
   obtain⟨w1,w2⟩:=hw _ (getElem_mem hk);have hs:=JK (m:=v.1[k].2.1) w1 w2
   have hin:=Mf (m:=v.1[k].2.1) (t:=xZ i) w1 w2;have ht2:=(K0 hi).2
   simp only[vL hk,an,AG,BU,List.getElem?_eq_getElem hk,ht];rw[←hs];cases h1:vE v.1[k].1 1 99 with
   | false=>rfl
   | true =>
    cases h2:vE v.1[k].2.1 0 (xZ i)with
    | false =>
     by_cases h0:0<k
     · simp only[dT h0,List.getElem?_eq_getElem (show k-1<v.1.length by omega)];cases decide (v.1[k-1].1>=v.1[k].1)<;>rfl
     · simp only[dF h0];rfl
    | true =>
     cases h3:(xM .i64 v.1[k].2.2 v.1[k].2.1 != v.1[k].2.2)with
     | true =>
      by_cases h0:0<k
      · simp only[dT h0,List.getElem?_eq_getElem (show k-1<v.1.length by omega)];cases decide (v.1[k-1].1>=v.1[k].1)<;>cases vE v.1[k].2.2 0 (xZ i)<;>rfl
      · simp only[dF h0];cases vE v.1[k].2.2 0 (xZ i)<;>rfl
     | false =>
      have h4:=hin h2 ht2 h3;rw[h4];by_cases h0:0<k
      · have hd:decide ((k:Int)>0)=true:=dT (by omega);simp only[hd,DB hk h0 hn,an,dT h0,List.getElem?_eq_getElem (show k-1<v.1.length by omega)];cases decide (v.1[k-1].1>=v.1[k].1)<;>rfl
      · have hd:decide ((k:Int)>0)=false:=dF (by omega);simp only[hd,dF h0];rfl)]
 refine yr (λi=>?_) 0;unfold jw;simp only[Option.bind_assoc,an]
theorem JL {v:wz} (hn:v.1.length<9223372036854775807) (hn2:v.2.length<9223372036854775807):loop (λz=>iN v z) 0=some (cond ((List.range v.2.length).any (Dp v)) (Sum.inr false) (Sum.inl ())):=by
 rw[←zC (n:=v.2.length) (c:=λt73=>(at? v.2 t73).bind λx75=>(aj v x75).bind λt79=>some (decide (t79<0))) (b:=Dp v) hn2 (λk hk=>by
  obtain⟨r,hr⟩:=OX hn v.2[k];simp only[vL hk,an,Dp,List.getElem?_eq_getElem hk,hr])]
 refine yr (λi=>?_) 0;unfold iN;simp only[Option.bind_assoc,an]
theorem TO:mS=iN:=rfl
theorem QB {v:wz} (i:Int) (hn:v.1.length<9223372036854775807) (hn2:v.2.length<9223372036854775807):eV v i=some (yK v i):=by
 unfold eV yK;simp only[yB,an];cases hi:vE i 1 6 with
 | false=>rfl
 | true =>
  rw[OY hi hn,JL hn hn2];cases ((v.2.length:Int) != i)<;>cases decide ((v.1.length:Int)>6)<;>cases (List.range v.1.length).any (BU v i)<;>cases (List.range v.2.length).any (Dp v)<;>rfl
theorem Nt {v:wz} (i:Int) (hn:v.1.length<9223372036854775807) (hn2:v.2.length<9223372036854775807) (hw:∀r∈v.1,-9223372036854775808<=r.2.2/\r.2.2<=9223372036854775807):aS v i=some (yK v i):=by
 unfold aS yK;simp only[AG,an,TO];cases hi:vE i 1 6 with
 | false=>rfl
 | true =>
  obtain⟨t,h1,h2⟩:=Nr hi;rw[h1,an,Ns hi h2 hn hw,JL hn hn2];cases ((v.2.length:Int) != i)<;>cases decide ((v.1.length:Int)>6)<;>cases (List.range v.1.length).any (BU v i)<;>cases (List.range v.2.length).any (Dp v)<;>rfl
def DY (l:List Pt) (k:Nat):Bool:=match l[k]? with|some p=>!(zQ p)|none=>false
def ya (b:vw):Bool:=vE b.2.2.2.2.2.2.1 0 1000000&&(vE b.2.2.2.2.2.2.2.1 0 1000000&&(vE b.2.2.2.2.2.2.2.2.1 0 1000000&&(vE b.2.2.2.2.2.2.2.2.2.1 0 1000000&&vE b.2.2.2.2.2.2.2.2.2.2 0 1000000)))
noncomputable def wq (b:vw):Bool:=!((List.range b.2.2.1.length).any (DY b.2.2.1))&&(vE b.1 1 99&&(!(decide ((b.2.1.length:Int)>10))&&(vE (b.2.2.1.length:Int) 1 6&&(AX b.2.2.2.1&&(yK (b.2.2.2.2.1,b.2.2.2.2.2.1) (b.2.2.1.length:Int)&&ya b)))))
structure yb (b:vw):Prop where
 p:b.2.2.1.length<9223372036854775807
 f:b.2.2.2.1.length<9223372036854775807
 v:b.2.2.2.2.1.length<9223372036854775807
 q:b.2.2.2.2.2.1.length<9223372036854775807
 r:∀r∈b.2.2.2.2.1,-9223372036854775808<=r.2.2/\r.2.2<=9223372036854775807
theorem Nu {b:vw} (h:yb b):loop (λz=>jG b z) 0=some (cond ((List.range b.2.2.1.length).any (DY b.2.2.1)) (Sum.inr false) (Sum.inl ())):=by
 rw[←zC (n:=b.2.2.1.length) (c:=λt8=>(at? b.2.2.1 t8).bind λx10=>(fW x10).bind λt13=>some (!t13)) (b:=DY b.2.2.1) h.p (λk hk=>by
  simp only[vL hk,an,DY,List.getElem?_eq_getElem hk,Vn])]
 refine yr (λi=>?_) 0;unfold jG;simp only[Option.bind_assoc,an]
theorem LP {b:vw} (h:yb b):loop (λz=>jx b z) 0=some (cond ((List.range b.2.2.1.length).any (DY b.2.2.1)) (Sum.inr false) (Sum.inl ())):=by
 rw[←zC (n:=b.2.2.1.length) (c:=λt8=>(at? b.2.2.1 t8).bind λx10=>(fS x10).bind λt13=>some (!t13)) (b:=DY b.2.2.1) h.p (λk hk=>by
  simp only[vL hk,an,DY,List.getElem?_eq_getElem hk,Vo])]
 refine yr (λi=>?_) 0;unfold jx;simp only[Option.bind_assoc,an]
theorem Rv (b:vw):iB b=some (ya b):=by
 unfold iB ya;simp only[AG,an];cases vE b.2.2.2.2.2.2.1 0 1000000<;>cases vE b.2.2.2.2.2.2.2.1 0 1000000<;>cases vE b.2.2.2.2.2.2.2.2.1 0 1000000<;>cases vE b.2.2.2.2.2.2.2.2.2.1 0 1000000<;>rfl
theorem OZ (n:Int):bG n=some (vE n 0 1000000):=by unfold bG;rw[yB,an]
theorem Az {b:vw} (h:yb b):bg b=some (wq b):=by
 unfold bg wq ya;rw[Nu h,an];cases (List.range b.2.2.1.length).any (DY b.2.2.1)with
 | true=>rfl
 | false =>
  simp only[cF,Sum.elim_inl,yB,PX h.f,QB (v:=(b.2.2.2.2.1,b.2.2.2.2.2.1)) _ h.v h.q,OZ,an];cases vE b.1 1 99<;>cases decide ((b.2.1.length:Int)>10)<;>cases vE (b.2.2.1.length:Int) 1 6<;>cases AX b.2.2.2.1<;>cases yK (b.2.2.2.2.1,b.2.2.2.2.2.1) (b.2.2.1.length:Int) <;>
   cases vE b.2.2.2.2.2.2.1 0 1000000<;>cases vE b.2.2.2.2.2.2.2.1 0 1000000<;>cases vE b.2.2.2.2.2.2.2.2.1 0 1000000<;>cases vE b.2.2.2.2.2.2.2.2.2.1 0 1000000<;>rfl
theorem Bx {b:vw} (h:yb b):aR b=some (wq b):=by
 unfold aR wq;rw[LP h,an];cases (List.range b.2.2.1.length).any (DY b.2.2.1)with
 | true=>rfl
 | false =>
  have e:decide ((b.2.1.length:Int)<=10)=!(decide ((b.2.1.length:Int)>10)):=by
   by_cases hh:(b.2.1.length:Int)>10
   · rw[dT hh,dF (by omega)];rfl
   · rw[dF hh,dT (by omega)];rfl
  simp only[cF,Sum.elim_inl,AG,PY h.f,Nt (v:=(b.2.2.2.2.1,b.2.2.2.2.2.1)) _ h.v h.q h.r,Rv,an,e];cases vE b.1 1 99<;>cases decide ((b.2.1.length:Int)>10)<;>cases vE (b.2.2.1.length:Int) 1 6<;>cases AX b.2.2.2.1<;>cases yK (b.2.2.2.2.1,b.2.2.2.2.2.1) (b.2.2.1.length:Int)<;>cases ya b<;>rfl
theorem QC:iC=fc:=rfl
theorem QD (a b:AO):∃r,fc a b=some r:=by
 unfold fc;cases (a.1 != b.1)<;>cases (a.2.1 != b.2.1)<;>cases (a.2.2.2.1 != b.2.2.2.1)<;>exact⟨_,rfl⟩
theorem TP:jz=gi:=rfl
theorem TQ (v:AO) (c:Int):∃r,gi v c=some r:=by
 unfold gi;simp only[Ld,yB,an];cases Da v<;>cases vE c 1 1000<;>first|exact⟨_,rfl⟩|skip
 generalize Da (v.1,vA (v.2.1+c),vA (v.2.2.1+1),v.2.2.2.1,v.2.2.2.2)=q;cases q<;>exact⟨_,rfl⟩
theorem TR (p0:Int) (l:List Pt) (t8 t9 b0 b1 b2 b3 b4 c0 c1 c2 c3 c4:Int):jA p0 l t8 t9 b0 b1 b2 b3 b4 c0 c1 c2 c3 c4=fe p0 l t8 t9 b0 b1 b2 b3 b4 c0 c1 c2 c3 c4:=by
 unfold jA fe;rw[TP,QC];cases h:at? l t9 with
 | none=>rfl
 | some x=>simp only[an]
theorem QE:fT=ca:=by
 funext p0 l
 unfold fT ca;rw[yr (λz=>TR p0 l _ _ _ _ _ _ _ _ _ _ _ _)]
theorem TS (p0:Int) {l:List Pt} (hn:l.length<9223372036854775807):∃r,ca p0 l=some r:=by
 unfold ca;obtain⟨b,h1,_⟩:=vR (step:=λz:Int×Int×Int×Int×Int×Int×Int×Int×Int×Int×Int×Int=>fe p0 l z.1 z.2.1 z.2.2.1 z.2.2.2.1 z.2.2.2.2.1 z.2.2.2.2.2.1 z.2.2.2.2.2.2.1 z.2.2.2.2.2.2.2.1 z.2.2.2.2.2.2.2.2.1 z.2.2.2.2.2.2.2.2.2.1 z.2.2.2.2.2.2.2.2.2.2.1 z.2.2.2.2.2.2.2.2.2.2.2)
  (λk z=>z.2.1=(k:Int)) l.length (λ_=>True)
  (λk z hk h=>by
   left;obtain⟨t7,t18,b0,b1,b2,b3,b4,c0,c1,c2,c3,c4⟩:=z;obtain rfl:t18=(k:Int):=h;unfold fe;simp only[wm (show (k:Int)<(l.length:Int) by omega),cT,vL hk,an];rw[show vA ((k:Int)+1)=((k+1:Nat):Int)from vK (by omega)];generalize l[k]=x;have e:(cond (!x.1) (some true) (some (!x.2.2.1)):Option Bool)=some (cond (!x.1) true (!x.2.2.1)):=by cases x.1<;>rfl
   rw[e,an];cases (cond (!x.1) true (!x.2.2.1))with
   | true=>exact⟨_,rfl,rfl⟩
   | false =>
    obtain⟨r,hr⟩:=TQ x.2.2.2 x.2.1;obtain⟨q,hq⟩:=QD r.1 (c0,c1,c2,c3,c4);rw[cF,hr,an,hq];cases r.2<;>cases decide (r.1.1<p0)<;>cases decide (t7<0)<;>cases q<;>exact⟨_,rfl,rfl⟩)
  (λz h=>by
   obtain⟨t7,t18,b0,b1,b2,b3,b4,c0,c1,c2,c3,c4⟩:=z;obtain rfl:t18=(l.length:Int):=h;unfold fe;simp only[wg (show ¬(l.length:Int)<(l.length:Int) by omega),cF];exact⟨_,rfl,trivial⟩) (x:=((-1),0,p0,0,0,p0,0,0,0,0,0,0)) rfl
 rw[h1,an];exact⟨_,rfl⟩
theorem UO:iD=gj:=by
 funext id l p
 unfold iD gj;rw[QE]
theorem QF:fy=bc:=by
 funext id l p
 unfold fy bc;rw[QE,UO,QC];rfl
theorem Nv (id:Int) {l:List Pt} (hn:l.length<9223372036854775807) (p:Int):∃r,bc id l p=some r:=by
 obtain⟨v,hv⟩:=TS id hn;unfold bc gj;simp only[yB,an,hv];rw[show vA ((l.length:Int)-1)=(l.length:Int)-1 from vW (by omega) (by omega)];cases hp:vE p 0 ((l.length:Int)-1)with
 | false=>exact⟨_,rfl⟩
 | true =>
  unfold vE at hp;simp only[aT,decide_eq_true_eq]at hp;obtain⟨k,rfl⟩:∃k:Nat,p=(k:Int):=⟨p.toNat,by omega⟩;simp only[vL (show k<l.length by omega),an];generalize l[k]'(by omega)=x;obtain⟨q,hq⟩:=QD (v.1.1,v.1.2.1,v.1.2.2.1,v.1.2.2.2.1,(k:Int)) x.2.2.2;rw[hq];cases x.1<;>cases (v.2==(k:Int))<;>cases x.2.2.1<;>cases q<;>exact⟨_,rfl⟩
theorem TT (b:vw) (c p:Int):gG b c p=cE b c p:=by
 unfold gG cE gh;rw[QF];cases at? b.2.2.1 p with
 | none=>rfl
 | some x=>simp only[an];cases x.1<;>rfl
theorem HL {α:Type} (out:List vB) (name:List Int) (n:Int) (f:List vB->Option α):((bt n).bind λv=>(aQ v name).bind λt=>(vS out [t]).bind f)=(am out name n).bind f:=by
 unfold bt aQ am ah ai;simp only[an,Option.bind_assoc]
theorem PZ (b:vw) (c i:Int) (out:List vB):jg b c i out=cc b c i out:=by
 unfold jg cc;simp only[TT,HL]
theorem UP {r:vP} {c:Int} (h:1<=c/\c<=3):((ix [1,r.2.1,r.2.2].length (vA (c-1))).bind λj=>([1,r.2.1,r.2.2][j]?).bind λx=>some x)=jf r c:=by
 have:c=1\/c=2\/c=3:=by omega
 rcases this with rfl|rfl|rfl<;>rfl
theorem Rw (b:vw) {c:Int} (h:1<=c/\c<=3) (i:Int) (out:List vB):ji b c i out=ce b c i out:=by
 unfold ji ce;cases hr:at? b.2.2.2.2.1 i with
 | none=>rfl
 | some r =>
  simp only[an,←UP (r:=r) h,Option.bind_assoc,HL]
theorem SC (b:vw) (i:Int) (out:List vB):jj b i out=bJ b i out:=by
 unfold jj bJ;cases hr:at? b.2.2.2.1 i with
 | none=>rfl
 | some r=>simp only[an,HL]
theorem TU (b:vw) (c:Int) (out:List vB):jh b c out=cG b c out:=by
 unfold jh cG;rw[yr (λz=>PZ b c _ _)]
theorem TV (b:vw) {c:Int} (h:1<=c) (out:List vB):fA b c out=cH b c out:=by
 unfold fA cH;by_cases h3:c<=3
 · rw[yr (λz=>Rw b ⟨h,h3⟩ _ _)]
 · rw[dF h3];rfl
theorem Nw (b:vw) {c:Int} {out:List vB} {y:Int×List vB} (h:1<=c) (e:fA b c out=some (.inl y)):1<=y.1:=by
 unfold fA at e;by_cases h3:c<=3
 · rw[dT h3,cT,Option.bind_eq_some_iff]at e;obtain⟨d,_,e⟩:=e;cases e;show 1<=vA (c+1)
   rw[vW (by omega) (by omega)];omega
 · rw[dF h3]at e;cases e
def BV (b:vw):List vB:=[([1,3,1,1,1],4,0,b.2.1,[]),([1,3,1,1,2],2,b.2.2.2.2.2.2.1,[],[]),([1,3,1,1,3],2,b.2.2.2.2.2.2.2.1,[],[]),([1,3,1,1,4],2,b.2.2.2.2.2.2.2.2.1,[],[]),([1,3,1,1,5],2,b.2.2.2.2.2.2.2.2.2.1,[],[])]
theorem UQ (b:vw):aQ (4,0,b.2.1,[]) ([1,1]:List Int)=some ([1,3,1,1,1],4,0,b.2.1,[]):=by kernel_rfl
theorem UR (b:vw):ze (λz=>oT b z.1 z.2) 5 (0,[([1,3,1,1,1],4,0,b.2.1,[])])=some (BV b):=by kernel_rfl
theorem US (b:vw):((ah ([1,1]:List Int)).bind λt14=>(am ([(t14,4,0,b.2.1,[])]) ([1,2]:List Int) b.2.2.2.2.2.2.1).bind λt24=>(am t24 ([1,3]:List Int) b.2.2.2.2.2.2.2.1).bind λt29 =>
 (am t29 ([1,4]:List Int) b.2.2.2.2.2.2.2.2.1).bind λt34=>(am t34 ([1,5]:List Int) b.2.2.2.2.2.2.2.2.2.1))=some (BV b):=by kernel_rfl
noncomputable def Ha (b:vw) (l:List vB):Option (List vB) :=
 (loop (λz=>cG b z.1 z.2) (1,l)).bind λd_2 =>
  (loop (λz=>cH b z.1 z.2) (1,d_2)).bind λd_4 =>
  (loop (λz=>bJ b z.1 z.2) (0,d_4)).bind λd_5 =>
  some d_5
theorem SD {b:vw} (h:yb b):cf b=cond (!(wq b)) (some []) (Ha b (BV b)):=by
 unfold cf;rw[Az h,an,UQ,an,A2 (UR b),an];rfl
theorem SE {b:vw} (h:yb b):cY b=cond (!(wq b)) (some []) (Ha b (BV b)):=by
 unfold cY;rw[Bx h,an];have hc:=US b
 have e:∀{α:Type} (f:List vB->Option α),((ah ([1,1]:List Int)).bind λt14=>(am ([(t14,4,0,b.2.1,[])]) ([1,2]:List Int) b.2.2.2.2.2.2.1).bind λt24=>(am t24 ([1,3]:List Int) b.2.2.2.2.2.2.2.1).bind λt29 =>
  (am t29 ([1,4]:List Int) b.2.2.2.2.2.2.2.2.1).bind λt34=>(am t34 ([1,5]:List Int) b.2.2.2.2.2.2.2.2.2.1).bind f)=f (BV b):=by
  intro α f;have:((ah ([1,1]:List Int)).bind λt14=>(am ([(t14,4,0,b.2.1,[])]) ([1,2]:List Int) b.2.2.2.2.2.2.1).bind λt24=>(am t24 ([1,3]:List Int) b.2.2.2.2.2.2.2.1).bind λt29 =>
   (am t29 ([1,4]:List Int) b.2.2.2.2.2.2.2.2.1).bind λt34=>(am t34 ([1,5]:List Int) b.2.2.2.2.2.2.2.2.2.1)).bind f=f (BV b):=by rw[hc,an]
  rw[←this];simp only[Option.bind_assoc]
 rw[e]
 congr 1
 unfold Ha;rw[yr (λz=>TU b _ _)]
 congr 1
 funext d
 rw[ID (λz:Int×List vB=>1<=z.1) (λz hz=>TV b hz _) (λz y hz e=>Nw b hz e) (show (1:Int)<=1 by omega)]
 congr 1
 funext d
 rw[yr (λz=>SC b _ _)]
theorem HM {b:vw} (h:yb b):cY b=cf b:=by rw[SE h,SD h]

theorem TW {b:vw} (h:yb b) (c:Int) {k:Nat} (hk:k<b.2.2.1.length) (hq:b.2.2.1.length=b.2.2.2.2.2.1.length):∃n,cE b c (k:Int)=some n:=by
 obtain⟨r,hr⟩:=Nv b.1 h.p (k:Int);unfold cE gh;rw[vL hk,vL (show k<b.2.2.2.2.2.1.length by omega),hr];simp only[an];cases (c==1)<;>cases (c==2)<;>cases (c==3)<;>cases (b.2.2.1[k]).1<;>exact⟨_,rfl⟩
theorem Rx {α:Type} {xs ys:List α} (h:xs.length+ys.length<=4294967296):vS xs ys=some (xs++ys):=by
 unfold vS;rw[if_pos (show xs.length+ys.length<=DD from h)]
noncomputable def B3 (id:Int) (l:List Pt) (p:Int):Int:=(bc id l p).getD 0
theorem FP (id:Int) {l:List Pt} (hn:l.length<9223372036854775807) (p:Int):bc id l p=some (B3 id l p):=by
 obtain⟨r,hr⟩:=Nv id hn p;unfold B3;rw[hr];rfl
def Nx (l:List Int) (x:Int):Bool:=decide (x∈l)
def CN (b:Nat->Bool) (m:Nat):List Int:=((List.range m).filter b).map λ(k:Nat)=>(k:Int)
theorem Q0 (b:Nat->Bool) (m:Nat):(CN b m).length<=m:=by
 unfold CN;rw[length_map];exact Nat.le_trans (List.length_filter_le _ _) (by simp)
theorem Ny (b:Nat->Bool) (m:Nat):CN b (m+1)=cond (b m) (CN b m++[(m:Int)]) (CN b m):=by
 unfold CN;rw[range_succ,List.filter_append,map_append];cases h:b m<;>simp[h]
theorem Bn {n:Nat} {c:Int->Option Bool} {b:Nat->Bool} (hn:n<=1048576) (hc:∀k,k<n->c (k:Int)=some (b k)) :
 loop (λz:Int×List Int=>cond (decide (z.1<(n:Int))) ((c z.1).bind λt=>cond t ((vS z.2 [z.1]).bind λzs=>some (.inl (vA (z.1+1),zs))) (some (.inl (vA (z.1+1),z.2)))) (some (.inr z.2))) (0,([]:List Int))=some (CN b n):=by
 obtain⟨v,h1,rfl⟩:=vR (step:=λz:Int×List Int=>cond (decide (z.1<(n:Int))) ((c z.1).bind λt=>cond t ((vS z.2 [z.1]).bind λzs=>some (.inl (vA (z.1+1),zs))) (some (.inl (vA (z.1+1),z.2)))) (some (.inr z.2))) (λk z=>z.1=(k:Int)/\z.2=CN b k) n (λl=>l=CN b n)
  (λk z hk ⟨e1,e2⟩=>by
   obtain⟨i,l⟩:=z;simp only at e1 e2;subst e1 e2;left;have hle:=Q0 b k
   refine⟨(vA ((k:Int)+1),CN b (k+1)),?_,vK (by omega),rfl⟩;simp only[wm (show (k:Int)<(n:Int) by omega),cT,hc k hk,an];rw[Ny];cases b k with
   | false=>rfl
   | true=>rw[cT,Rx (by simp;omega)];rfl)
  (λz ⟨e1,e2⟩=>by
   obtain⟨i,l⟩:=z;simp only at e1 e2;subst e1 e2;exact⟨_,by simp only[wg (show ¬(n:Int)<(n:Int) by omega),cF],rfl⟩) (x:=(0,[])) ⟨rfl,rfl⟩
 exact h1
def Mg (l:List Bool):Nat:=l.count true
theorem SF (l:List Bool):Mg l<=l.length:=List.count_le_length
theorem Ry {l:List Bool} {i:Nat} (h:l[i]?=some false):Mg (l.set i true)=Mg l+1:=by
 obtain⟨hi,he⟩:=List.getElem?_eq_some_iff.1 h;unfold Mg;rw[List.count_set hi,he];simp
theorem II {n:Nat} {i:Int} (h:vE i 0 ((n:Int)-1)=true):∃k:Nat,k<n/\i=(k:Int):=by
 unfold vE at h;simp only[aT,decide_eq_true_eq]at h;exact⟨i.toNat,by omega,by omega⟩
theorem Lf {n k:Nat} (h:k<n):vE (k:Int) 0 ((n:Int)-1)=true:=by
 unfold vE;rw[dT (by omega),dT (by omega)];rfl
structure Lg (X:List Int) (l:List Bool):Prop where
 r:∀x∈X,∃k:Nat,k<l.length/\x=(k:Int)
 m:∀k,k<l.length->l[k]?=some (Nx X (k:Int))
 c:X.length=Mg l
theorem Lg.len {X:List Int} {l:List Bool} (h:Lg X l):X.length<=l.length:=by rw[h.c];exact SF l
theorem Lg.add {X:List Int} {l:List Bool} (h:Lg X l) {i:Nat} (hi:l[i]?=some false):Lg (X++[(i:Int)]) (l.set i true):=by
 obtain⟨hi',he⟩:=List.getElem?_eq_some_iff.1 hi;refine⟨λx hx=>?_,λk hk=>?_,?_⟩
 · rw[length_set];rcases mem_append.1 hx with hx|hx
   · exact h.r x hx
   · simp at hx;exact⟨i,hi',hx⟩
 · rw[length_set]at hk;rw[List.getElem?_set];split
   · rename_i e;subst e;rw[show Nx (X++[(i:Int)]) (i:Int)=true from dT (by simp)]
   · rename_i e;rw[h.m k hk]
     congr 1
     unfold Nx;apply decide_eq_decide.2;rw[mem_append,List.mem_singleton];constructor
     · exact .inl
     · rintro (h|h)
       · exact h
       · omega
 · rw[length_append,Ry hi,h.c];rfl
theorem Lg.in {X:List Int} {l:List Bool} (h:Lg X l) {x:Int} (hx:Nx X x=true):vE x 0 ((l.length:Int)-1)=true:=by
 obtain⟨k,hk,rfl⟩:=h.r x (of_decide_eq_true hx);exact Lf hk
def start (n:Nat) (b:Nat):List Bool:=(List.replicate n false).set b true
theorem TX (id:Int) {l:List Pt} (hn:l.length<9223372036854775807) (p:Int):1<=B3 id l p:=by
 have h:=FP id hn p
 revert h
 generalize B3 id l p=v;unfold bc;rw[yB,an];intro h;have key:∀(o:Option Bool) (f:Bool->Option Int),(∀t x,f t=some x->1<=x)->o.bind f=some v->1<=v:=by
  intro o f hf h;cases o with
  | none=>cases h
  | some t=>exact hf t v h
 refine key _ _ (λt x hx=>?_) h;cases t with
 | true=>cases hx;decide
 | false =>
  rw[cF]at hx;cases hbv:ca id l with
  | none=>rw[hbv]at hx;cases hx
  | some w =>
   rw[hbv,an]at hx;cases hw:w.2==p with
   | true=>rw[hw]at hx;cases hx;decide
   | false =>
    rw[hw,cF]at hx;cases ha:at? l p with
    | none=>rw[ha]at hx;cases hx
    | some y =>
     rw[ha,an]at hx
     revert hx
     generalize (cond (!y.2.2.1) _ _:Option Bool)=o;intro hx;cases o with
     | none=>cases hx
     | some t=>cases t<;>(cases hx;decide)
theorem FQ {k:Nat} (h:k<64):IntKind.u64.wrap (k:Int)=(k:Int):=by
 show ((k:Int)%18446744073709551616)=_;omega
theorem TY:∀b:Fin 64,∀p:Fin 6,∃t c,shl .i64 1 (p.1:Int)=some t/\CP .i64 (b.1:Int) t=(c:Int)/\0<=c/\c<64:=by
 intro b p;have h:∀b:Fin 64,∀p:Fin 6,(decide (0<=CP .i64 (b.1:Int) (2^p.1))&&decide (CP .i64 (b.1:Int) (2^p.1)<64))=true:=by decide
 have h1:=h b p;simp only[aT,decide_eq_true_eq]at h1;have h2:∀p:Fin 6,shl .i64 1 (p.1:Int)=some (2^p.1):=by decide
 exact⟨_,_,h2 p,rfl,h1.1,h1.2⟩
theorem SG {r:Int} (h:1<=r):decide (r<=2)=(r==1||r==2):=by
 by_cases h2:r<=2
 · rw[dT h2];rcases (show r=1\/r=2 by omega)with rfl|rfl<;>rfl
 · rw[dF h2,beq_eq_false_iff_ne.2 (show r≠1 by omega),beq_eq_false_iff_ne.2 (show r≠2 by omega)];rfl
theorem IJ (id:Int) {l:List Pt} (hn:l.length<9223372036854775807) (z:Int×Int) (hz:0<=z.2):fU id l z.1 z.2=bu id l z.1 z.2:=by
 unfold fU bu;rw[QF,FP id hn,an];have hr:=TX id hn z.2
 by_cases h1:z.2<(l.length:Int)
 · rw[wm h1,cT];by_cases h2:z.2<6
   · rw[wm h2,an,an,cT,cT,an,SG hr];obtain⟨k,hk⟩:∃k:Nat,z.2=(k:Int):=⟨z.2.toNat,by omega⟩;rw[hk,FQ (by omega)];cases B3 id l (k:Int)==1<;>cases B3 id l (k:Int)==2<;>rfl
   · rw[wg h2];rfl
 · rw[wg h1];rfl
theorem Lh (id:Int) {l:List Pt} (hn:l.length<9223372036854775807):∃c:Nat,c<64/\gn id l=some (c:Int)/\fV id l=some (c:Int):=by
 obtain⟨v,h1,c,h2,rfl⟩:=vR (step:=λz:Int×Int=>bu id l z.1 z.2) (λk z=>z.2=(k:Int)/\∃c:Nat,c<64/\z.1=(c:Int)) (min l.length 6) (λv=>∃c:Nat,c<64/\v=(c:Int))
  (λk z hk ⟨e1,c,e2,e3⟩=>by
   obtain⟨b,i⟩:=z;simp only at e1 e3;subst e1 e3;left;have k6:k<6:=by omega
   obtain⟨t,d,b1,b2,b3,b4⟩:=TY ⟨c,e2⟩ ⟨k,k6⟩;have hs:bu id l (c:Int) (k:Int)=cond (B3 id l (k:Int)==1||B3 id l (k:Int)==2) (some (.inl ((d:Int),((k+1:Nat):Int)))) (some (.inl ((c:Int),((k+1:Nat):Int)))):=by
    unfold bu;rw[wm (show (k:Int)<(l.length:Int) by omega),wm (show (k:Int)<6 by omega),cT,an,cT,FP id hn,an,b1,an,b2,vK (by omega)];cases B3 id l (k:Int)==1<;>cases B3 id l (k:Int)==2<;>rfl
   show ∃y,bu id l (c:Int) (k:Int)=_/\_;rw[hs];cases (B3 id l (k:Int)==1||B3 id l (k:Int)==2)with
   | true=>exact⟨_,rfl,rfl,d.toNat,by omega,by show d=_;omega⟩
   | false=>exact⟨_,rfl,rfl,c,e2,rfl⟩)
  (λz ⟨e1,c,e2,e3⟩=>by
   obtain⟨b,i⟩:=z;simp only at e1 e3;subst e1 e3;refine⟨(c:Int),?_,c,e2,rfl⟩;show bu id l _ _=_
   unfold bu;by_cases h:l.length<=6
   · rw[Nat.min_eq_left h,wg (by omega)];rfl
   · rw[Nat.min_eq_right (by omega),wm (by omega),wg (show ¬(((6:Nat):Int)<6) by omega)];rfl) (x:=(0,0)) ⟨rfl,0,by omega,rfl⟩
 refine⟨c,h2,by unfold gn;rw[h1];rfl,?_⟩;unfold fV;rw[ID (f:=λz:Int×Int=>fU id l z.1 z.2) (g:=λz:Int×Int=>bu id l z.1 z.2) (λz=>0<=z.2/\z.2<=9223372036854775806) (λz hz=>IJ id hn z hz.1) (λz y hz hy=>by
  have hy':fU id l z.1 z.2=some (.inl y):=hy;rw[IJ id hn z hz.1]at hy';unfold bu at hy';by_cases h1:z.2<(l.length:Int)
  · by_cases h2:z.2<6
    · rw[wm h1,wm h2,cT,an,cT,FP id hn,an]at hy';have hw:vA (z.2+1)=z.2+1:=vW (by omega) (by omega)
      rw[hw]at hy'
      revert hy'
      generalize (cond (B3 id l z.2==1) (some true) (some (B3 id l z.2==2)))=o;intro hy';cases o with
      | none=>cases hy'
      | some t =>
       rw[an]at hy';cases t with
       | false=>cases hy';exact⟨by show 0<=z.2+1;omega,by show z.2+1<=_;omega⟩
       | true =>
        rw[cT]at hy';cases hs:shl .i64 1 z.2 with
        | none=>rw[hs]at hy';cases hy'
        | some q=>rw[hs]at hy';cases hy';exact⟨by show 0<=z.2+1;omega,by show z.2+1<=_;omega⟩
    · rw[wm h1,wg h2]at hy';cases hy'
  · rw[wg h1]at hy';cases hy') (x:=(0,0)) ⟨by decide,by decide⟩,h1]
 rfl
def A1 (c:Nat) (p:Int):Bool:=cond (vE p 0 7) (match shr .i64 (c:Int) p with|some t=>(xM .i64 t 1)==1|none=>false) false
theorem UT (c:Nat) (p:Int):aX (c:Int) p=some (A1 c p):=by
 unfold aX A1;rw[AG,an];cases h:vE p 0 7 with
 | false=>rfl
 | true =>
  obtain⟨k,hk,rfl⟩:=II (n:=8) h;rw[FQ (by omega),cT,cT];have:∃t,shr .i64 (c:Int) (k:Int)=some t:=by unfold shr;rw[if_neg (by omega)];exact⟨_,rfl⟩
  obtain⟨t,ht⟩:=this;rw[ht];rfl
theorem UU {c:Nat} (hc:c<64) (p:Int):ay (c:Int) p=some (A1 c p):=by
 unfold ay A1;rw[yB,an];cases h:vE p 0 62 with
 | false =>
  have h7:vE p 0 7=false:=by
   cases h7:vE p 0 7 with
   | false=>rfl
   | true =>
    obtain⟨k,hk,rfl⟩:=II (n:=8) h7;have:vE (k:Int) 0 ((63:Nat)-1:Int)=true:=Lf (by omega)
    exact absurd (h.symm.trans this) (by decide)
  rw[h7];rfl
 | true =>
  obtain⟨k,hk,rfl⟩:=II (n:=63) h;have hs:shr .i64 (c:Int) (k:Int)=some ((c:Int).fdiv (2^(min k 64))):=by unfold shr;rw[if_neg (by omega)];rfl
  rw[cT,hs,an,an];by_cases h7:k<8
  · rw[show vE (k:Int) 0 7=true from Lf (n:=8) h7];rfl
  · rw[show vE (k:Int) 0 7=false from by unfold vE;rw[dF (show ¬(k:Int)<=7 by omega),Bool.and_false],cF];have hz:(c:Int).fdiv (2^(min k 64))=0:=by
     rw[Nat.min_eq_left (by omega)];have h2:(c:Int)<2^k:=by
      have:2^6<=2^k:=Nat.pow_le_pow_right (by decide) (by omega);have h3:c<2^k:=by omega
      exact_mod_cast h3
     rw[Int.fdiv_eq_ediv_of_nonneg _ (by exact_mod_cast Nat.zero_le _)];exact Int.ediv_eq_zero_of_lt (by omega) h2
    rw[hz];rfl

structure CW (c:vM):Prop where
 p:0<=c.2.1
 n:c.1.length<9223372036854775807
theorem Mh (x:Int):0<=xM .i64 x 255/\xM .i64 x 255<=255:=by
 rw[K1];have h1:(BitVec.ofInt 64 x&&&BitVec.ofInt 64 255).toNat<=255:=by
  rw[BitVec.toNat_and];exact Nat.le_trans Nat.and_le_right (by decide)
 rw[BitVec.toInt_eq_toNat_cond];split<;>omega
theorem IK {c:vM} (h:CW c):∃c' r,cn c=some (c',r)/\CW c'/\0<=r/\r<=255:=by
 unfold cn;have hn:=h.n
 have hp:=h.p;by_cases hlt:c.2.1<(c.1.length:Int)
 · obtain⟨k,hk⟩:∃k:Nat,c.2.1=(k:Int):=⟨c.2.1.toNat,by omega⟩;simp only[wm hlt,cT];rw[hk,vL (by omega),an,vK (by omega)];exact⟨_,_,rfl,⟨by show (0:Int)<=((k+1:Nat):Int);omega,hn⟩,Mh _⟩
 · simp only[wg hlt,cF];exact⟨_,_,rfl,⟨hp,hn⟩,Mh _⟩
theorem Mi {a n:Int} (ha:0<=a) (hn:1<=n):∃r,rem a n=some r/\0<=r/\r<n:=by
 unfold rem;rw[if_neg (by omega)];refine⟨_,rfl,Int.tmod_nonneg _ ha,?_⟩;have:=Int.tmod_lt_of_pos a (show 0<n by omega)
 exact this
theorem y8 {c:vM} (h:CW c) (n:Int):∃c' r,aa c n=some (c',r)/\CW c'/\0<=r/\(1<=n->r<n):=by
 unfold aa;by_cases h0:n<=0
 · rw[dT h0];exact⟨_,_,rfl,h,Int.le_refl 0,λh=>by omega⟩
 · rw[dF h0,cF];by_cases h1:n<=256
   · rw[dT h1,cT];obtain⟨c1,r1,e1,w1,a1,b1⟩:=IK h;obtain⟨r,e,a,b⟩:=Mi (n:=n) a1 (by omega);rw[e1,an,e,an];exact⟨_,_,rfl,w1,a,λ_=>b⟩
   · rw[dF h1,cF];obtain⟨c1,r1,e1,w1,a1,b1⟩:=IK h;obtain⟨c2,r2,e2,w2,a2,b2⟩:=IK w1;obtain⟨c3,r3,e3,w3,a3,b3⟩:=IK w2;rw[e1,an,e2,an,e3,an];show ∃c' r,((rem (vA (vA (vA (r1*65536)+vA (r2*256))+r3)) n).bind _)=_/\_
     rw[vW (n:=r1*65536) (by omega) (by omega),vW (n:=r2*256) (by omega) (by omega),vW (n:=r1*65536+r2*256) (by omega) (by omega),vW (n:=r1*65536+r2*256+r3) (by omega) (by omega)];obtain⟨r,e,a,b⟩:=Mi (a:=r1*65536+r2*256+r3) (n:=n) (by omega) (by omega);rw[e,an];exact⟨_,_,rfl,w3,a,λ_=>b⟩
theorem xK {c:vM} (h:CW c) {n:Nat} (hn:1<=n):∃c' k,aa c (n:Int)=some (c',((k:Nat):Int))/\CW c'/\k<n:=by
 obtain⟨c',r,e,w,a,b⟩:=y8 h (n:Int);have b:=b (by omega)
 exact⟨c',r.toNat,by rw[e];congr 2;omega,w,by omega⟩
theorem Hb {c:vM} (h:CW c) (n:Int):∃c' r,bn c n=some (c',r)/\CW c':=by
 obtain⟨c',r,e,w,_⟩:=y8 h n;unfold bn;rw[e,an];exact⟨_,_,rfl,w⟩
theorem zK {c:vM} (h:CW c) {l:List Int} (hl:1<=l.length):∃c' x,af c l=some (c',x)/\CW c'/\x∈l:=by
 obtain⟨c',k,e,w,b⟩:=xK h hl;unfold af;rw[e,an];show ∃c'' x,(at? l (k:Int)).bind _=_/\_
 rw[vL b,an];exact⟨_,_,rfl,w,getElem_mem b⟩
theorem Q1 {c:vM} (h:CW c) {l:List (List UInt8)} (hl:1<=l.length):∃c' x,bo c l=some (c',x)/\CW c'/\x∈l:=by
 obtain⟨c',k,e,w,b⟩:=xK h hl;unfold bo;rw[e,an];show ∃c'' x,(at? l (k:Int)).bind _=_/\_
 rw[vL b,an];exact⟨_,_,rfl,w,getElem_mem b⟩
theorem Q2 {code:List Int} (h:code.length<=1048576):∃c,ed code=some c/\CW c:=by
 obtain⟨v,h1,-⟩:=vR (step:=λz:Int×Int=>cM code z.1 z.2) (λk z=>z.2=(k:Int)) (min code.length 4000) (λ_=>True)
  (λk z hk e=>by
   obtain⟨x,i⟩:=z;simp only at e;subst e;left;have k4:k<4000:=by omega
   have hs:∃y,cM code x (k:Int)=some (.inl (y,((k+1:Nat):Int))):=by
    unfold cM;rw[wm (show (k:Int)<(code.length:Int) by omega),wm (show (k:Int)<4000 by omega),cT,an,cT,vL (by omega),an,vK (by omega)];exact⟨_,rfl⟩
   obtain⟨y,hs⟩:=hs;exact⟨_,hs,rfl⟩)
  (λz e=>by
   obtain⟨x,i⟩:=z;simp only at e;subst e;refine⟨x,?_,trivial⟩;show cM code x _=_
   unfold cM;by_cases h:code.length<=4000
   · rw[Nat.min_eq_left h,wg (by omega)];rfl
   · rw[Nat.min_eq_right (by omega),wm (by omega),wg (show ¬(((4000:Nat):Int)<4000) by omega)];rfl) (x:=(vA (762762+(code.length:Int)),0)) rfl
 unfold ed;show ∃c,(loop (λz=>cM code z.1 z.2) (vA (762762+(code.length:Int)),0)).bind (λd=>some (code,0,d))=some c/\CW c
 rw[h1,an];exact⟨_,rfl,by show (0:Int)<=0;omega,by show code.length<_;omega⟩

abbrev Cm (x:Int):Prop:=-9223372036854775808<=x/\x<=9223372036854775807
structure VT (v:wz) (n:Nat):Prop where
 p:yK v (n:Int)=true
 r:∀r∈v.1,Cm r.2.2
theorem VT.len {v:wz} {n:Nat} (h:VT v n):1<=n/\n<=6/\v.2.length=n/\v.1.length<=6:=by
 have hp:=h.p;unfold yK vE at hp;simp only[aT,Bool.not_eq_true',Bool.or_eq_false_iff,Bool.not_eq_false',aT,decide_eq_true_eq,decide_eq_false_iff_not,bne_eq_false_iff_eq]at hp;obtain⟨⟨h1,h2,h3⟩,_⟩:=hp;omega
theorem Uv {v:wz} (n:Int) (h1:v.1.length<=1000) (h2:v.2.length<=1000) (hr:∀r∈v.1,Cm r.2.2):aS v n=some (yK v n):=Nt n (by omega) (by omega) hr
theorem Nz {v:wz} (h1:v.1.length<=1000) (h2:v.2.length<=1000):aU v=some v:=by
 unfold aU;unfold vS;have m:(DD:Nat)=4294967296:=rfl
 rw[if_pos (by show 0+v.1.length<=DD;omega),an,if_pos (by show 0+v.2.length<=DD;omega),an];rfl
theorem SH {x v:wz} {n:Nat} (hv:VT v n) (h1:x.1.length<=1000) (h2:x.2.length<=1000) (hr:∀r∈x.1,Cm r.2.2):∃y ok,ej x v=some (y,ok)/\VT y n:=by
 obtain⟨l1,l2,l3,l4⟩:=hv.len;unfold ej;rw[Uv _ h1 h2 hr,an];cases h:yK x (v.2.length:Int)with
 | true=>exact⟨_,_,rfl,by rw[l3]at h;exact h,hr⟩
 | false =>
  rw[Bool.not_false,cT,Nz (by omega) (by omega),an];exact⟨_,_,rfl,hv⟩
theorem SI {v:wz} {n:Nat} (hv:VT v n):aS v (v.2.length:Int)=some true:=by
 obtain⟨l1,l2,l3,l4⟩:=hv.len;rw[Uv _ (by omega) (by omega) hv.r,l3,hv.p]
theorem TZ {v:wz} {n:Nat} (hv:VT v n) (port id:Int):∃y ok,fv v port id=some (y,ok)/\VT y n:=by
 obtain⟨l1,l2,l3,l4⟩:=hv.len;unfold fv;rw[SI hv,an,Bool.not_true,cF,AG,an,an,Nz (by omega) (by omega),vW (n:=(v.2.length:Int)-1) (by omega) (by omega)];cases hin:vE port 0 ((v.2.length:Int)-1)with
 | false=>exact⟨_,_,rfl,hv⟩
 | true =>
  obtain⟨k,hk,rfl⟩:=II hin;simp only[Bool.not_true,cF,an,xJ hk,List.getElem?_eq_getElem hk];obtain⟨y,ok,e,hy⟩:=SH (x:=(v.1,v.2.set k id)) hv (by show v.1.length<=_;omega) (by show (v.2.set k id).length<=_;rw[length_set];omega) hv.r;rw[e];exact⟨_,_,rfl,hy⟩
theorem SJ {v:wz} (hn:v.1.length<9223372036854775807) (id:Int):∃r,aC v id=some r/\(r = -1\/∃k:Nat,k<v.1.length/\r=(k:Int)):=by
 rw[SB];unfold aj;obtain⟨b,h1,h2⟩:=vR (β:=Unit⊕Int) (step:=λz=>aP v id z) (λk i=>i=(k:Int)) v.1.length (λb=>∀r,b=.inr r->∃k:Nat,k<v.1.length/\r=(k:Int))
  (λk i hk h=>by
   subst h;unfold aP;rw[wm (by omega),cT,vL hk,an];cases (v.1[k].1==id)with
   | true=>exact .inr ⟨_,rfl,λr hr=>⟨k,hk,by cases hr;rfl⟩⟩
   | false=>exact .inl ⟨_,rfl,vK (by omega)⟩)
  (λi h=>by
   subst h;unfold aP;rw[wg (by omega)];exact⟨_,rfl,λr hr=>by cases hr⟩) (x:=0) rfl
 rw[h1,an];cases b with
 | inl _=>exact⟨_,rfl,.inl rfl⟩
 | inr r=>exact⟨r,rfl,.inr (h2 r rfl)⟩
theorem yw {α:Type} {l:List α} {a b:Nat} (h1:a<=b) (h2:b<=l.length):cut l (a:Int) (b:Int)=some ((l.take b).drop a):=by
 unfold cut;rw[if_pos (by omega),if_pos (by omega),if_pos (by omega)];simp
theorem vF {α:Type} {xs ys:List α} (h:xs.length+ys.length<=4294967296):vS xs ys=some (xs++ys):=by
 unfold vS;rw[if_pos (show xs.length+ys.length<=DD from h)]
theorem U0 {v:wz} {n:Nat} (hv:VT v n) (id:Int):∃y ok,fw v id=some (y,ok)/\VT y n:=by
 obtain⟨l1,l2,l3,l4⟩:=hv.len;obtain⟨r,hr,hr2⟩:=SJ (v:=v) (by omega) id;unfold fw;rw[hr,an,SI hv,an,Bool.not_true,cF,Nz (by omega) (by omega),an,an,an];rcases hr2 with rfl|⟨k,hk,rfl⟩
 · exact⟨_,_,rfl,hv⟩
 · rw[wg (by omega),cF,show (0:Int)=((0:Nat):Int)from rfl,yw (by omega) (by omega),an,vK (by omega),yw (by omega) (by omega)];have t1:((v.1.take k).drop 0).length<=6:=by simp;omega
   have t2:((v.1.take v.1.length).drop (k+1)).length<=6:=by simp;omega
   rw[vF (by show 0+_<=_;omega),an,an,nil_append,vF (by omega),an];obtain⟨y,ok,e,hy⟩:=SH (x:=((v.1.take k).drop 0++(v.1.take v.1.length).drop (k+1),v.2)) hv (by show ((v.1.take k).drop 0++(v.1.take v.1.length).drop (k+1)).length<=_;rw[length_append];omega) (by show v.2.length<=_;omega) (λr hr=>by
    rcases mem_append.1 hr with hr|hr
    · exact hv.r r (List.mem_of_mem_take (List.mem_of_mem_drop hr))
    · exact hv.r r (List.mem_of_mem_take (List.mem_of_mem_drop hr)))
   rw[e];exact⟨_,_,rfl,hy⟩
theorem UV {v:wz} {n:Nat} (hv:VT v n) {r:vP} (hr:Cm r.2.2):∃y,aL v r=some y/\y.1.length<=1000/\y.2.length<=1000/\∀r∈y.1,Cm r.2.2:=by
 obtain⟨l1,l2,l3,l4⟩:=hv.len;obtain⟨d,h1,h2,h3⟩:=vR (step:=λz:Bool×Int×List vP=>aD v r z.1 z.2.1 z.2.2) (λk z=>z.2.1=(k:Int)/\z.2.2.length<=2*k/\∀x∈z.2.2,Cm x.2.2) v.1.length (λd=>d.2.length<=12/\∀x∈d.2,Cm x.2.2)
  (λk z hk ⟨e1,e2,e3⟩=>by
   obtain⟨t,i,b⟩:=z;simp only at e1 e2 e3;subst e1;left;have hvk:Cm v.1[k].2.2:=hv.r _ (getElem_mem hk)
   show ∃y,aD v r t (k:Int) b=_/\_;unfold aD;simp only[wm (show (k:Int)<(v.1.length:Int) by omega),cT,vL hk,an,vK (show k<9223372036854775807 by omega),Int.not_lt];have ha:∀(xs:List vP) (y:vP),xs.length<=100->vS xs [y]=some (xs++[y]):=λxs y h=>vF (by show xs.length+1<=_;omega)
   have key:∀(tt:Bool),((cond (!t) (some (decide (v.1[k].1>=r.1))) (some false))=some tt->∃y:Bool×Int×List vP,(cond tt ((vS b [r]).bind λzs37=>cond (v.1[k].1 != r.1) ((vS zs37 [v.1[k]]).bind λzs56=>some (.inl (true,((k+1:Nat):Int),zs56))) (some (.inl (true,((k+1:Nat):Int),zs37)))) (cond (v.1[k].1 != r.1) ((vS b [v.1[k]]).bind λzs56_1=>some (.inl (t,((k+1:Nat):Int),zs56_1))) (some (.inl (t,((k+1:Nat):Int),b)))):Option ((Bool×Int×List vP)⊕(Bool×List vP)))=some (.inl y)/\y.2.1=((k+1:Nat):Int)/\y.2.2.length<=2*(k+1)/\∀x∈y.2.2,Cm x.2.2):=by
    intro tt _;cases tt with
    | true =>
     rw[cT,ha b r (by omega),an];cases v.1[k].1 != r.1 with
     | true =>
      rw[cT,ha (b++[r]) _ (by simp;omega),an];refine⟨_,rfl,rfl,by simp;omega,λx hx=>?_⟩;simp at hx;rcases hx with hx|rfl|rfl
      · exact e3 x hx
      · exact hr
      · exact hvk
     | false =>
      refine⟨_,rfl,rfl,by simp;omega,λx hx=>?_⟩;simp at hx;rcases hx with hx|rfl
      · exact e3 x hx
      · exact hr
    | false =>
     rw[cF];cases v.1[k].1 != r.1 with
     | true =>
      rw[cT,ha b _ (by omega),an];refine⟨_,rfl,rfl,by simp;omega,λx hx=>?_⟩;simp at hx;rcases hx with hx|rfl
      · exact e3 x hx
      · exact hvk
     | false=>exact⟨_,rfl,rfl,by show b.length<=_;omega,e3⟩
   cases ht:(cond (!t) (some (decide (v.1[k].1>=r.1))) (some false))with
   | none=>cases t<;>cases ht
   | some tt =>
    rw[an];exact key tt ht)
  (λz ⟨e1,e2,e3⟩=>by
   obtain⟨t,i,b⟩:=z;simp only at e1 e2 e3;subst e1;refine⟨(t,b),?_,by show b.length<=12;omega,e3⟩;show aD v r t _ b=_
   unfold aD;rw[wg (by omega),cF]) (x:=(false,0,[])) ⟨rfl,by simp,λx hx=>absurd hx not_mem_nil⟩
 unfold aL;rw[vF (by show 0+v.2.length<=_;omega),an,h1,an,nil_append];cases d.1 with
 | true=>exact⟨_,rfl,by show d.2.length<=_;omega,by show v.2.length<=_;omega,h3⟩
 | false =>
  rw[Bool.not_false,cT,vF (by show d.2.length+1<=_;omega),an];refine⟨_,rfl,by show (d.2++[r]).length<=_;simp;omega,by show v.2.length<=_;omega,λx hx=>?_⟩;have hx:x∈d.2++[r]:=hx
  simp at hx;rcases hx with hx|rfl
  · exact h3 x hx
  · exact hr
theorem UW {v:wz} {n:Nat} (hv:VT v n) {r:vP} (hr:Cm r.2.2):∃y ok,fx v r=some (y,ok)/\VT y n:=by
 obtain⟨x,hx,h1,h2,h3⟩:=UV hv hr;unfold fx;rw[SI hv,an,Bool.not_true,cF,hx,an];obtain⟨y,ok,e,hy⟩:=SH hv h1 h2 h3;rw[e];exact⟨_,_,rfl,hy⟩
theorem U1 (a b:Int):Cm (xM .i64 a b):=by
 rw[K1];have h1:=BitVec.toInt_lt (x:=BitVec.ofInt 64 a&&&BitVec.ofInt 64 b)
 have h2:=BitVec.le_toInt (x:=BitVec.ofInt 64 a&&&BitVec.ofInt 64 b);exact⟨by omega,by omega⟩
theorem U2 {c:vM} (h:CW c) {n:Nat} (h1:1<=n) (h6:n<=6):∃c' r,gF c (n:Int)=some (c',r)/\CW c'/\Cm r.2.2:=by
 obtain⟨t,ht,_⟩:=Nr (i:=(n:Int)) (by unfold vE;rw[dT (by omega),dT (by omega)];rfl);unfold gF;rw[ht,an];obtain⟨c1,r1,e1,w1,_⟩:=y8 h (vA ((vA (t-1))+1));obtain⟨c2,r2,e2,w2,_⟩:=zK w1 (l:=[1,2,3,2]) (by decide);obtain⟨c3,r3,e3,w3,_⟩:=y8 w2 (vA ((vA (t-1))+1));rw[e1,an,e2,an,e3,an];exact⟨_,_,rfl,w3,U1 _ _⟩

theorem SK {n:Nat} (h1:1<=n) (h6:n<=6):ft (n:Int)=some ([(1,xZ (n:Int),xZ (n:Int))],List.replicate n 1):=by
 have hin:vE (n:Int) 1 6=true:=by unfold vE;rw[dT (by omega),dT (by omega)];rfl
 obtain⟨t,ht,ht2⟩:=Nr hin;obtain⟨d,hd,rfl⟩:=vR (step:=λz:Int×List Int=>ef (n:Int) z.1 z.2) (λk z=>z.1=(k:Int)/\z.2=List.replicate k 1) n (λd=>d=List.replicate n 1)
  (λk z hk ⟨e1,e2⟩=>by
   obtain⟨i,l⟩:=z;simp only at e1 e2;subst e1 e2;left;refine⟨(((k+1:Nat):Int),List.replicate k 1++[1]),?_,rfl,?_⟩
   · show ef (n:Int) (k:Int) _=_;unfold ef;rw[wm (by omega),cT,vF (by simp;omega),an,vK (by omega)]
   · show List.replicate k 1++[1]=_;rw[←List.replicate_succ'])
  (λz ⟨e1,e2⟩=>by
   obtain⟨i,l⟩:=z;simp only at e1 e2;subst e1 e2;refine⟨_,?_,rfl⟩;show ef (n:Int) _ _=_
   unfold ef;rw[wg (by omega),cF]) (x:=(0,[])) ⟨rfl,rfl⟩
 unfold ft;rw[AG,an,hin,Bool.not_true,cF,ht,an,hd,an,ht2]
theorem U3 {n:Nat} (h1:1<=n) (h6:n<=6):VT ([(1,xZ (n:Int),xZ (n:Int))],List.replicate n 1) n:=by
 have hin:vE (n:Int) 1 6=true:=by unfold vE;rw[dT (by omega),dT (by omega)];rfl
 have ht:=K0 hin;have hrow:aj ([(1,xZ (n:Int),xZ (n:Int))],List.replicate n 1) 1=some 0:=by
  unfold aj;rw[A2 (k:=1) (b:=.inr 0) (by rfl)];rfl
 have hb:(BE .i64 (xZ (n:Int)) (xZ (n:Int)) != 0)=false:=by
  rcases IF hin with h|h|h|h|h|h<;>rw[h]<;>decide
 refine⟨?_,λr hr=>?_⟩
 · unfold yK;rw[hin];show (!(!true||(((List.replicate n (1:Int)).length:Int) != (n:Int)||decide ((1:Int)>6)))&&(!(List.range 1).any _&&!(List.range (List.replicate n (1:Int)).length).any _))=true
   rw[List.length_replicate];have e1:(((n:Int)) != (n:Int))=false:=by simp
   rw[e1];have e2:(List.range 1).any (BU ([(1,xZ (n:Int),xZ (n:Int))],List.replicate n 1) (n:Int))=false:=by
    show (BU ([(1,xZ (n:Int),xZ (n:Int))],List.replicate n 1) (n:Int) 0||false)=false;unfold BU;show ((!(vE 1 1 99)||((decide (0<0)&&_)||(!(vE (xZ (n:Int)) 0 (xZ (n:Int)))||(BE .i64 (xZ (n:Int)) (xZ (n:Int)) != 0))))||false)=false
    rw[hb];have:vE (xZ (n:Int)) 0 (xZ (n:Int))=true:=by unfold vE;rw[dT (by omega),dT (by omega)];rfl
    rw[this];rfl
   rw[e2];have e3:(List.range n).any (Dp ([(1,xZ (n:Int),xZ (n:Int))],List.replicate n 1))=false:=by
    apply Bool.eq_false_iff.2;intro h;obtain⟨k,hk,hx⟩:=any_eq_true.1 h;have hk:=mem_range.1 hk
    unfold Dp at hx;have:(List.replicate n (1:Int))[k]?=some 1:=by rw[List.getElem?_replicate,if_pos hk]
    simp only[this,hrow]at hx
    revert hx;decide
   rw[e3];rfl
 · have hr:r∈[((1:Int),xZ (n:Int),xZ (n:Int))]:=hr;simp at hr;subst hr;exact⟨by show _<=xZ (n:Int);omega,by show xZ (n:Int)<=_;omega⟩
theorem QG {c:vM} (h:CW c) {n:Nat} (h1:1<=n) (h6:n<=6):∃c' v,cR c (n:Int)=some (c',v)/\CW c'/\VT v n:=by
 unfold cR;obtain⟨c0,m,e0,w0,hm⟩:=xK h (n:=6) (by decide);rw[SK h1 h6,an];have e0':aa c 6=some (c0,(m:Int)):=e0
 rw[e0',an];obtain⟨d,hd,g1,g2⟩:=vR (step:=λz:Int×List Int×Int×Int×List vP×List Int=>em (n:Int) z.1 z.2.1 z.2.2.1 z.2.2.2.1 z.2.2.2.2.1 z.2.2.2.2.2) (λk z=>z.1=(m:Int)-(k:Int)/\CW (z.2.1,z.2.2.1,z.2.2.2.1)/\VT z.2.2.2.2 n) m (λd=>CW (d.1,d.2.1,d.2.2.1)/\VT d.2.2.2 n)
  (λk z hk ⟨a1,a2,a3⟩=>by
   obtain⟨i,x,y,s,v⟩:=z;simp only at a1 a2 a3;left;show ∃y',em (n:Int) i x y s v.1 v.2=_/\_
   unfold em;have hi:decide (i>0)=true:=dT (by omega)
   have hw:vA (i-1)=(m:Int)-((k+1:Nat):Int):=by rw[vW (by omega) (by omega)];omega
   obtain⟨c1,r1,e1,w1,_⟩:=y8 a2 4;rw[hi,cT,e1,an,hw];show ∃y',cond (r1==0) _ _=_/\_
   cases r1==0 with
   | true =>
    obtain⟨c2,r2,e2,w2,_⟩:=y8 w1 (n:Int);obtain⟨c3,r3,e3,w3,_⟩:=y8 w2 3;obtain⟨v',ok,e4,g4⟩:=TZ a3 r2 (vA (1+r3));have e4':fv (v.1,v.2) r2 (vA (1+r3))=some (v',ok):=e4
    rw[cT,e2,an,e3,an,e4',an];exact⟨_,rfl,rfl,w3,g4⟩
   | false =>
    rw[cF];show ∃y',cond (r1==1) _ _=_/\_
    cases r1==1 with
    | true =>
     obtain⟨c2,r2,e2,w2,_⟩:=y8 w1 2;obtain⟨v',ok,e4,g4⟩:=U0 a3 (vA (2+r2));have e4':fw (v.1,v.2) (vA (2+r2))=some (v',ok):=e4
     rw[cT,e2,an,e4',an];exact⟨_,rfl,rfl,w2,g4⟩
    | false =>
     obtain⟨c2,r2,e2,w2,hr2⟩:=U2 w1 h1 h6;obtain⟨v',ok,e4,g4⟩:=UW a3 hr2;have e4':fx (v.1,v.2) r2=some (v',ok):=e4
     rw[cF,e2,an,e4',an];exact⟨_,rfl,rfl,w2,g4⟩)
  (λz ⟨a1,a2,a3⟩=>by
   obtain⟨i,x,y,s,v⟩:=z;simp only at a1 a2 a3;refine⟨(x,y,s,v),?_,a2,a3⟩;show em (n:Int) i x y s v.1 v.2=_
   unfold em;have hi:decide (i>0)=false:=dF (by omega)
   rw[hi,cF]) (x:=((m:Int),c0.1,c0.2.1,c0.2.2,[(1,xZ (n:Int),xZ (n:Int))],List.replicate n 1)) ⟨by simp,w0,U3 h1 h6⟩
 rw[hd,an];exact⟨_,_,rfl,g1,g2⟩
theorem Q3 {c:vM} (h:CW c):∃c' v,eh c=some (c',v)/\CW c'/\Da v=true:=by
 obtain⟨c1,k1,e1,w1,b1⟩:=xK h (n:=5) (by decide);obtain⟨c2,x2,e2,w2,b2⟩:=zK w1 (l:=[0,1,2,5,10,100]) (by decide);obtain⟨c3,x3,e3,w3,b3⟩:=zK w2 (l:=[0,1,2,9,10]) (by decide);obtain⟨c4,k4,e4,w4,b4⟩:=xK w3 (n:=5) (by decide);obtain⟨c5,k5,e5,w5,b5⟩:=xK w4 (n:=4) (by decide);have e1':aa c 5=some (c1,(k1:Int)):=e1
 have e4':aa c3 5=some (c4,(k4:Int)):=e4;have e5':aa c4 4=some (c5,(k5:Int)):=e5
 unfold eh;rw[e1',an,e2,an,e3,an,e4',an,e5',an];refine⟨_,_,rfl,w5,?_⟩;show Da (vA (1+(k1:Int)),x2,x3,vA (1+(k4:Int)),(k5:Int))=true
 rw[vW (by omega) (by omega),vW (by omega) (by omega)];have i1:vE (1+(k1:Int)) 1 99=true:=by unfold vE;rw[dT (by omega),dT (by omega)];rfl
 have i4:vE (1+(k4:Int)) 1 99=true:=by unfold vE;rw[dT (by omega),dT (by omega)];rfl
 have i5:vE (k5:Int) 0 7=true:=by unfold vE;rw[dT (by omega),dT (by omega)];rfl
 have i2:vE x2 0 100000=true:=by
  have:∀x∈([0,1,2,5,10,100]:List Int),vE x 0 100000=true:=by decide
  exact this x2 b2
 have i3:vE x3 0 10=true:=by
  have:∀x∈([0,1,2,9,10]:List Int),vE x 0 10=true:=by decide
  exact this x3 b3
 unfold Da;rw[i1,i2,i3,i4,i5];rfl
theorem P0 {c:vM} (h:CW c) {n:Nat} (h6:n<=6):∃c' l,cQ c (n:Int)=some (c',l)/\CW c'/\l.length=n/\∀x∈l,zQ x=true:=by
 unfold cQ;obtain⟨d,hd,g1,g2,g3⟩:=vR (step:=λz:Int×List Int×Int×Int×List Pt=>ei (n:Int) z.1 z.2.1 z.2.2.1 z.2.2.2.1 z.2.2.2.2) (λk z=>z.1=(k:Int)/\CW (z.2.1,z.2.2.1,z.2.2.2.1)/\z.2.2.2.2.length=k/\∀x∈z.2.2.2.2,zQ x=true) n (λd=>CW (d.1,d.2.1,d.2.2.1)/\d.2.2.2.length=n/\∀x∈d.2.2.2,zQ x=true)
  (λk z hk ⟨a1,a2,a3,a4⟩=>by
   obtain⟨i,x,y,s,l⟩:=z;simp only at a1 a2 a3 a4;subst a1;left;show ∃y',ei (n:Int) (k:Int) x y s l=_/\_
   unfold ei;obtain⟨c1,up,e1,w1⟩:=Hb a2 4;obtain⟨c2,cost,e2,w2,b2⟩:=zK w1 (l:=[1,1,2,5,10]) (by decide);have hc:vE cost 1 1000=true:=by
    have:∀x∈([1,1,2,5,10]:List Int),vE x 1 1000=true:=by decide
    exact this cost b2
   have ha:∀q:Pt,vS l [q]=some (l++[q]):=λq=>vF (by show l.length+1<=_;omega);have hin:∀q:Pt,zQ q=true->(l++[q]).length=k+1/\∀x∈l++[q],zQ x=true:=λq hq=>⟨by simp;omega,λx hx=>by
    simp at hx;rcases hx with hx|rfl
    · exact a4 x hx
    · exact hq⟩
   rw[wm (by omega),cT,e1,an,e2,an,vK (by omega)];show ∃y',cond (!up) _ _=_/\_
   cases up with
   | true =>
    simp only[ha,Bool.not_true,cF,an];obtain⟨q1,q2⟩:=hin (false,cost,false,0,0,0,0,0) (by unfold zQ;rw[hc];rfl);exact⟨_,rfl,rfl,w2,q1,q2⟩
   | false =>
    obtain⟨c3,has,e3,w3⟩:=Hb w2 4;rw[Bool.not_false,cT,e3,an];show ∃y',cond (!has) _ _=_/\_
    cases has with
    | true =>
     simp only[ha,Bool.not_true,cF,an];obtain⟨q1,q2⟩:=hin (true,cost,false,0,0,0,0,0) (by unfold zQ;rw[hc];rfl);exact⟨_,rfl,rfl,w3,q1,q2⟩
    | false =>
     obtain⟨c4,v,e4,w4,hv⟩:=Q3 w3;simp only[ha,Bool.not_false,cT,an,e4];obtain⟨q1,q2⟩:=hin (true,cost,true,v.1,v.2.1,v.2.2.1,v.2.2.2.1,v.2.2.2.2) (by unfold zQ;rw[hc];exact hv);exact⟨_,rfl,rfl,w4,q1,q2⟩)
  (λz ⟨a1,a2,a3,a4⟩=>by
   obtain⟨i,x,y,s,l⟩:=z;simp only at a1 a2 a3 a4;subst a1;refine⟨(x,y,s,l),?_,a2,a3,a4⟩;show ei (n:Int) _ x y s l=_
   unfold ei;rw[wg (by omega),cF]) (x:=(0,c.1,c.2.1,c.2.2,[])) ⟨rfl,h,rfl,λx hx=>absurd hx not_mem_nil⟩
 rw[hd,an];exact⟨_,_,rfl,g1,g2,g3⟩

def lt (a b:vD):Prop:=a.1<b.1\/(a.1=b.1/\a.2.1<b.2.1)
def same (a b:vD):Prop:=a.1=b.1/\a.2.1=b.2.1
theorem lt_trans {a b c:vD} (h:lt a b) (k:lt b c):lt a c:=by unfold lt at *;omega
theorem K2 {a b:vD} (h:lt a b):¬same a b:=by unfold lt same at *;omega
structure FB (l:List vD):Prop where
 e:∀x∈l,yn x=true
 o:l.Pairwise lt
 n:l.length<=12
theorem FB.ok {l:List vD} (h:FB l):AX l=true:=by
 unfold AX;have hn:=h.n
 rw[dT (show (l.length:Int)<=12 by omega),Bool.and_true,Bool.not_eq_true'];apply Bool.eq_false_iff.2;intro ha;obtain⟨k,hk,hx⟩:=any_eq_true.1 ha;have hk:=mem_range.1 hk
 unfold B2 at hx;simp only[List.getElem?_eq_getElem hk,h.e _ (getElem_mem hk),Bool.not_true,Bool.false_or,aT,decide_eq_true_eq]at hx;obtain⟨h0,hx⟩:=hx;simp only[List.getElem?_eq_getElem (show k-1<l.length by omega),Bool.not_eq_true']at hx;have hl:=pairwise_iff_getElem.1 h.o (k-1) k (by omega) hk (by omega)
 unfold xQ at hx;simp only[Bool.or_eq_false_iff,Bool.and_eq_false_iff,decide_eq_false_iff_not,bF]at hx;unfold lt at hl;omega
theorem Uw {l:List vD} (h:FB l):cS l=some true:=by
 have hn:=h.n;rw[PY (by omega),h.ok]
theorem FB.copy {l:List vD} (h:FB l):co l=some l:=by
 have hn:=h.n;unfold co;rw[vF (by show 0+l.length<=_;omega)];rfl
theorem Ux {l:List vD} (hn:l.length<9223372036854775807) (tag mac:Int):∃r,bR l tag mac=some r/\((r = -1/\∀x∈l,¬(x.1=tag/\x.2.1=mac))\/∃k:Nat,∃hk:k<l.length,r=(k:Int)/\l[k].1=tag/\l[k].2.1=mac):=by
 obtain⟨v,h1,h2⟩:=vR (step:=λz=>aV l tag mac z) (λk i=>i=(k:Int)/\∀x∈l.take k,¬(x.1=tag/\x.2.1=mac)) l.length (λv=>(v=.inl ()/\∀x∈l,¬(x.1=tag/\x.2.1=mac))\/∃k:Nat,∃hk:k<l.length,v=.inr (k:Int)/\l[k].1=tag/\l[k].2.1=mac)
  (λk i hk ⟨e,hx⟩=>by
   subst e;have hs:aV l tag mac (k:Int)=cond (l[k].1==tag&&l[k].2.1==mac) (some (.inr (.inr (k:Int)))) (some (.inl ((k+1:Nat):Int))):=by
    unfold aV;simp only[wm (show (k:Int)<(l.length:Int) by omega),cT,vL hk,an,vK (show k<9223372036854775807 by omega)];cases l[k].1==tag<;>rfl
   cases hb:(l[k].1==tag&&l[k].2.1==mac)with
   | true =>
    simp only[aT,beq_iff_eq]at hb;refine .inr ⟨_,by rw[hs];rw[show (l[k].1==tag&&l[k].2.1==mac)=true by simp[hb.1,hb.2]];rfl,.inr ⟨k,hk,rfl,hb.1,hb.2⟩⟩
   | false =>
    refine .inl ⟨_,by rw[hs,hb];rfl,rfl,λx hx'=>?_⟩;rw[take_add_one,List.getElem?_eq_getElem hk,mem_append]at hx';rcases hx' with hx'|hx'
    · exact hx x hx'
    · simp at hx';subst hx';intro ⟨q1,q2⟩;rw[q1,q2]at hb;simp at hb)
  (λi ⟨e,hx⟩=>by
   subst e;rw[take_length]at hx;refine⟨.inl (),?_,.inl ⟨rfl,hx⟩⟩;show aV l tag mac _=_
   unfold aV;rw[wg (by omega),cF]) (x:=0) ⟨rfl,by simp⟩
 unfold bR;rw[h1,an];rcases h2 with ⟨rfl,h2⟩|⟨k,hk,rfl,h2⟩
 · exact⟨_,rfl,.inl ⟨rfl,h2⟩⟩
 · exact⟨_,rfl,.inr ⟨k,hk,rfl,h2⟩⟩
def z8 (x e:vD):Bool:=cond (x.1 != e.1) (decide (x.1<e.1)) (decide (x.2.1<e.2.1))
theorem HN {x e:vD} (h:z8 x e=true):lt x e:=by
 unfold z8 at h;unfold lt;by_cases hx:x.1=e.1
 · rw[show (x.1 != e.1)=false by simp[hx],cF]at h;exact .inr ⟨hx,of_decide_eq_true h⟩
 · rw[show (x.1 != e.1)=true from bne_iff_ne.2 hx,cT]at h;exact .inl (of_decide_eq_true h)
theorem JM {x e:vD} (h:z8 x e=false):lt e x\/same x e:=by
 unfold z8 at h;unfold lt same;by_cases hx:x.1=e.1
 · rw[show (x.1 != e.1)=false by simp[hx],cF]at h;have:=of_decide_eq_false h
   omega
 · rw[show (x.1 != e.1)=true from bne_iff_ne.2 hx,cT]at h;have:=of_decide_eq_false h
   omega
def yk (x e:vD):Bool:=x.1 != e.1||x.2.1 != e.2.1
theorem Dq {x e:vD} (h:yk x e=true):¬same x e:=by
 unfold yk at h;unfold same;simp only[Bool.or_eq_true,bne_iff_ne]at h;omega
theorem Hw {x e:vD} (h:yk x e=false):same x e:=by
 unfold yk at h;unfold same;simp only[Bool.or_eq_false_iff,bne_eq_false_iff_eq]at h;exact h
theorem CX {l:List vD} {x:vD} (h:l.Pairwise lt) (k:∀y∈l,lt y x):(l++[x]).Pairwise lt:=by
 rw[pairwise_append];exact⟨h,List.pairwise_singleton _ _,λa ha b hb=>by simp at hb;subst hb;exact k a ha⟩
theorem NA {l:List vD} (h:FB l) {e:vD} (he:yn e=true) (hroom:(∃x∈l,same x e)\/l.length<12):∃y,cV l e=some y/\FB y:=by
 have hn:=h.n;have hlt:∀i j (hi:i<l.length) (hj:j<l.length),i<j->lt l[i] l[j]:=pairwise_iff_getElem.1 h.o
 obtain⟨d,hd,g⟩:=vR (step:=λz:Bool×Int×List vD=>aO l e z.1 z.2.1 z.2.2)
  (λk z=>z.2.1=(k:Int)/\(∀x∈z.2.2,yn x=true)/\z.2.2.Pairwise lt /\
   (z.1=false->z.2.2=l.take k/\∀x∈l.take k,lt x e) /\
   (z.1=true->(∀x∈z.2.2,∀j (hj:j<l.length),k<=j->lt x l[j])/\(∀j (hj:j<l.length),k<=j->lt e l[j])/\z.2.2.length<=k+1/\((∃x∈l.take k,same x e)->z.2.2.length<=k))) l.length
  (λd=>(∀x∈d.2,yn x=true)/\d.2.Pairwise lt/\(d.1=false->d.2=l/\∀x∈l,lt x e)/\(d.1=true->d.2.length<=l.length+1/\((∃x∈l,same x e)->d.2.length<=l.length)))
  (λk z hk ⟨e1,e2,e3,e4,e5⟩=>by
   obtain⟨t,i,b⟩:=z;simp only at e1 e2 e3 e4 e5;subst e1;left;have hf:yn l[k]=true:=h.e _ (getElem_mem hk)
   have hbl:b.length<=100:=by
    cases t with
    | false=>rw[(e4 rfl).1,length_take];omega
    | true=>have:=(e5 rfl).2.2.1;omega
   have ha:∀(xs:List vD) (y:vD),xs.length<=101->vS xs [y]=some (xs++[y]):=λxs y h=>vF (by show xs.length+1<=_;omega);have htk:l.take (k+1)=l.take k++[l[k]]:=by rw[take_add_one,List.getElem?_eq_getElem hk];rfl
   have hs:aO l e t (k:Int) b=cond (!t&&!(z8 l[k] e))
    (cond (yk l[k] e) (some (.inl (true,((k+1:Nat):Int),b++[e]++[l[k]]))) (some (.inl (true,((k+1:Nat):Int),b++[e]))))
    (cond (yk l[k] e) (some (.inl (t,((k+1:Nat):Int),b++[l[k]]))) (some (.inl (t,((k+1:Nat):Int),b)))):=by
    have hA:bE l[k] e.1 e.2.1=some (z8 l[k] e):=by unfold bE z8;cases (l[k].1 != e.1)<;>rfl
    have hO:(cond (l[k].1 != e.1) (some true) (some (l[k].2.1 != e.2.1)))=some (yk l[k] e):=by unfold yk;cases (l[k].1 != e.1)<;>rfl
    unfold aO;simp only[wm (show (k:Int)<(l.length:Int) by omega),cT,vL hk,an,vK (show k<9223372036854775807 by omega),hA,hO,ha b e (by omega),ha b l[k] (by omega),ha (b++[e]) l[k] (by rw[length_append];show b.length+1<=_;omega)];cases t<;>cases z8 l[k] e<;>rfl
   show ∃y,aO l e t (k:Int) b=_/\_;rw[hs];cases t with
   | false =>
    obtain⟨f1,f2⟩:=e4 rfl;subst f1;cases hah:z8 l[k] e with
    | true =>
     have hl:=HN hah;have ho:yk l[k] e=true:=by
      cases ho:yk l[k] e with
      | true=>rfl
      | false=>exact absurd (Hw ho) (K2 hl)
     rw[ho];refine⟨_,rfl,rfl,λx hx=>?_,?_,λ_=>⟨by show l.take k++[l[k]]=_;rw[htk],λx hx=>?_⟩,(λht=>by cases ht)⟩
     · have hx:x∈l.take k++[l[k]]:=hx;rcases mem_append.1 hx with hx|hx
       · exact e2 x hx
       · simp at hx;subst hx;exact hf
     · show (l.take k++[l[k]]).Pairwise lt;rw[←htk];exact List.Pairwise.sublist (List.take_sublist _ _) h.o
     · rw[htk]at hx;rcases mem_append.1 hx with hx|hx
       · exact f2 x hx
       · simp at hx;subst hx;exact hl
    | false =>
     have hge:=JM hah;have hpe:(l.take k++[e]).Pairwise lt:=CX e3 f2
     have hee:∀x∈l.take k++[e],yn x=true:=λx hx=>by
      rcases mem_append.1 hx with hx|hx
      · exact e2 x hx
      · simp at hx;subst hx;exact he
     have hlater:∀j (hj:j<l.length),k+1<=j->lt e l[j]:=λj hj hkj=>by
      have h1:=hlt k j hk hj (by omega);rcases hge with h2|h2
      · exact lt_trans h2 h1
      · unfold same at h2;unfold lt at h1 ⊢;omega
     have htl:∀x∈l.take k,∀j (hj:j<l.length),k+1<=j->lt x l[j]:=λx hx j hj hkj=>lt_trans (f2 x hx) (hlater j hj hkj);have hlen:(l.take k).length=k:=by rw[length_take];omega
     cases ho:yk l[k] e with
     | true =>
      have hek:lt e l[k]:=by
       rcases hge with h2|h2
       · exact h2
       · exact absurd h2 (Dq ho)
      refine⟨_,rfl,rfl,λx hx=>?_,?_,(λht=>by cases ht),λ_=>⟨λx hx j hj hkj=>?_,hlater,?_,λ⟨x,hx,hxe⟩=>?_⟩⟩
      · have hx:x∈l.take k++[e]++[l[k]]:=hx;rcases mem_append.1 hx with hx|hx
        · exact hee x hx
        · simp at hx;subst hx;exact hf
      · show (l.take k++[e]++[l[k]]).Pairwise lt;refine CX hpe λy hy=>?_;rcases mem_append.1 hy with hy|hy
        · exact lt_trans (f2 y hy) hek
        · simp at hy;subst hy;exact hek
      · have hx:x∈l.take k++[e]++[l[k]]:=hx;rcases mem_append.1 hx with hx|hx
        · rcases mem_append.1 hx with hx|hx
          · exact htl x hx j hj hkj
          · simp at hx;subst hx;exact hlater j hj hkj
        · simp at hx;subst hx;exact hlt k j hk hj (by omega)
      · show (l.take k++[e]++[l[k]]).length<=_;simp only[length_append,hlen,List.length_singleton];omega
      · rw[htk]at hx;rcases mem_append.1 hx with hx|hx
        · exact absurd hxe (K2 (f2 x hx))
        · simp at hx;subst hx;exact absurd hxe (Dq ho)
     | false =>
      refine⟨_,rfl,rfl,hee,hpe,(λht=>by cases ht),λ_=>⟨λx hx j hj hkj=>?_,hlater,?_,λ_=>?_⟩⟩
      · have hx:x∈l.take k++[e]:=hx;rcases mem_append.1 hx with hx|hx
        · exact htl x hx j hj hkj
        · simp at hx;subst hx;exact hlater j hj hkj
      · show (l.take k++[e]).length<=_;simp only[length_append,hlen,List.length_singleton];omega
      · show (l.take k++[e]).length<=_;simp only[length_append,hlen,List.length_singleton];omega
   | true =>
    obtain⟨f1,f2,f3,f4⟩:=e5 rfl;cases ho:yk l[k] e with
    | true =>
     refine⟨_,rfl,rfl,λx hx=>?_,CX e3 λy hy=>f1 y hy k hk (Nat.le_refl _),(λht=>by cases ht),λ_=>⟨λx hx j hj hkj=>?_,λj hj hkj=>f2 j hj (by omega),?_,λ⟨x,hx,hxe⟩=>?_⟩⟩
     · have hx:x∈b++[l[k]]:=hx;rcases mem_append.1 hx with hx|hx
       · exact e2 x hx
       · simp at hx;subst hx;exact hf
     · have hx:x∈b++[l[k]]:=hx;rcases mem_append.1 hx with hx|hx
       · exact f1 x hx j hj (by omega)
       · simp at hx;subst hx;exact hlt k j hk hj (by omega)
     · show (b++[l[k]]).length<=_;rw[length_append];show b.length+1<=_;omega
     · show (b++[l[k]]).length<=_;rw[htk]at hx;rcases mem_append.1 hx with hx|hx
       · have:=f4 ⟨x,hx,hxe⟩;rw[length_append];show b.length+1<=_;omega
       · simp at hx;subst hx;exact absurd hxe (Dq ho)
    | false =>
     exact⟨_,rfl,rfl,e2,e3,(λht=>by cases ht),λ_=>⟨λx hx j hj hkj=>f1 x hx j hj (by omega),λj hj hkj=>f2 j hj (by omega),by show b.length<=_;omega,λ_=>by show b.length<=_;omega⟩⟩)
  (λz ⟨e1,e2,e3,e4,e5⟩=>by
   obtain⟨t,i,b⟩:=z;simp only at e1 e2 e3 e4 e5;subst e1;rw[take_length]at e4 e5;refine⟨(t,b),?_,e2,e3,e4,λht=>⟨(e5 ht).2.2.1,(e5 ht).2.2.2⟩⟩;show aO l e t _ b=_
   unfold aO;rw[wg (by omega),cF]) (x:=(false,0,[])) ⟨rfl,λx hx=>absurd hx not_mem_nil,List.Pairwise.nil,λ_=>⟨by simp,λx hx=>by simp at hx⟩,(λht=>by cases ht)⟩
 obtain⟨g1,g2,g3,g4⟩:=g;unfold cV;rw[hd,an];obtain⟨t,b⟩:=d;simp only at g1 g2 g3 g4;cases t with
 | true =>
  refine⟨b,rfl,g1,g2,?_⟩;obtain⟨k1,k2⟩:=g4 rfl;rcases hroom with hr|hr
  · have:=k2 hr;omega
  · omega
 | false =>
  obtain⟨k1,k2⟩:=g3 rfl;have hr:l.length<12:=by
   rcases hroom with ⟨x,hx,hxe⟩|hr
   · exact absurd hxe (K2 (k2 x hx))
   · exact hr
  show ∃y,((vS b [e]).bind λzs=>some zs)=some y/\FB y;rw[k1,vF (by show l.length+1<=_;omega),an];refine⟨_,rfl,λx hx=>?_,CX h.o k2,by rw[length_append];show l.length+1<=12;omega⟩;rcases mem_append.1 hx with hx|hx
  · exact h.e x hx
  · simp at hx;subst hx;exact he
theorem SL (e:vD):cU e=some (yn e):=by rw[Nq];exact IE e
theorem P1 {l:List vD} (h:FB l) (tag mac port:Int):∃y,cp l tag mac port=some y/\FB y:=by
 have hn:=h.n;obtain⟨r,hr,hr2⟩:=Ux (l:=l) (by omega) tag mac;unfold cp;rw[hr,an,Uw h,an,SL,an,h.copy,an,Bool.not_true,cF,an];cases he:yn (tag,mac,port,0,false)with
 | false=>exact⟨_,rfl,h⟩
 | true =>
  rcases hr2 with ⟨rfl,hr2⟩|⟨k,hk,rfl,q1,q2⟩
  · rw[Bool.not_true,cF];by_cases hlen:l.length<12
    · obtain⟨y,hy,hy2⟩:=NA h he (.inr hlen);refine⟨y,?_,hy2⟩;rw[hy];show (cond (decide ((l.length:Int)>=12)) _ _)=_
      rw[dF (by omega)];rfl
    · refine⟨l,?_,h⟩;show (cond (decide ((l.length:Int)>=12)) _ _)=_
      rw[dT (by omega)];rfl
  · simp only[Bool.not_true,cF,dT (show (k:Int)>=0 by omega),cT,vL hk,an,wg (show ¬(k:Int)<0 by omega)];obtain⟨y,hy,hy2⟩:=NA h he (.inl ⟨l[k],getElem_mem hk,q1,q2⟩);cases l[k].2.2.2.2 with
    | true=>exact⟨_,rfl,h⟩
    | false=>exact⟨y,by rw[hy];rfl,hy2⟩
theorem Mj {l:List vD} (h:FB l) (tag mac port:Int):∃y ok,eo l tag mac port=some (y,ok)/\FB y:=by
 have hn:=h.n;obtain⟨r,hr,hr2⟩:=Ux (l:=l) (by omega) tag mac;unfold eo;rw[hr,an,Uw h,an,SL,an,h.copy,an,Bool.not_true,cF,an];cases he:yn (tag,mac,port,0,true)with
 | false=>exact⟨_,_,rfl,h⟩
 | true =>
  rcases hr2 with ⟨rfl,hr2⟩|⟨k,hk,rfl,q1,q2⟩
  · rw[Bool.not_true,cF];by_cases hlen:l.length<12
    · obtain⟨y,hy,hy2⟩:=NA h he (.inr hlen);refine⟨y,true,?_,hy2⟩;rw[hy];show (cond (decide ((l.length:Int)>=12)) _ _)=_
      rw[dF (by omega)];rfl
    · refine⟨l,false,?_,h⟩;show (cond (decide ((l.length:Int)>=12)) _ _)=_
      rw[dT (by omega)];rfl
  · rw[Bool.not_true,cF,wg (show ¬(k:Int)<0 by omega),cF,an];obtain⟨y,hy,hy2⟩:=NA h he (.inl ⟨l[k],getElem_mem hk,q1,q2⟩);rw[an,cF,hy];exact⟨y,true,rfl,hy2⟩

theorem UX {id n:Nat} (i1:1<=id) (i2:id<=99) (h1:1<=n) (h6:n<=6):∃ps rs qs,fu (id:Int) (n:Int)=some ((id:Int),[],ps,[],rs,qs,0,0,0,0,0):=by
 have hin:vE (n:Int) 1 6=true:=by unfold vE;rw[dT (by omega),dT (by omega)];rfl
 have hid:vE (id:Int) 1 99=true:=by unfold vE;rw[dT (by omega),dT (by omega)];rfl
 obtain⟨d,hd,ps,rfl⟩:=vR (step:=λz:Int×Int×List UInt8×Int×Int×Int×Int×Int×List Pt×List vD=>eg (n:Int) z.1 z.2.1 z.2.2.1 z.2.2.2.1 z.2.2.2.2.1 z.2.2.2.2.2.1 z.2.2.2.2.2.2.1 z.2.2.2.2.2.2.2.1 z.2.2.2.2.2.2.2.2.1 z.2.2.2.2.2.2.2.2.2)
  (λk z=>∃ps:List Pt,ps.length=k/\z=((k:Int),(id:Int),[],0,0,0,0,0,ps,[])) n (λd=>∃ps:List Pt,d=((id:Int),[],0,0,0,0,0,ps,[]))
  (λk z hk ⟨ps,hp,e⟩=>by
   subst e;left;refine⟨(((k+1:Nat):Int),(id:Int),[],0,0,0,0,0,ps++[(false,1,false,0,0,0,0,0)],[]),?_,ps++[(false,1,false,0,0,0,0,0)],by simp;exact hp,rfl⟩;show eg (n:Int) (k:Int) (id:Int) [] 0 0 0 0 0 ps []=_
   unfold eg;rw[wm (by omega),cT,vF (by show ps.length+1<=_;omega),an,vK (by omega)])
  (λz ⟨ps,hp,e⟩=>by
   subst e;refine⟨((id:Int),[],0,0,0,0,0,ps,[]),?_,ps,rfl⟩;show eg (n:Int) _ (id:Int) [] 0 0 0 0 0 ps []=_
   unfold eg;rw[wg (by omega),cF]) (x:=(0,(id:Int),[],0,0,0,0,0,[],[])) ⟨[],rfl,rfl⟩
 unfold fu;rw[AG,an,hid,Bool.not_true,cF,AG,an,hin,an,Bool.not_true,cF,SK h1 h6,an,hd,an];exact⟨_,_,_,rfl⟩
theorem Li {c:vM} (h:CW c):∃c' x,bQ c=some (c',x)/\CW c':=by
 obtain⟨c1,x,e,w,_⟩:=zK h (l:=[11,12,13,14]) (by decide);unfold bQ;rw[e,an];exact⟨_,_,rfl,w⟩
def SM (b:vw):Prop:=b.2.2.2.2.2.2.2.1=0/\b.2.2.2.2.2.2.2.2.1=0/\b.2.2.2.2.2.2.2.2.2.1=0
theorem J7 {c:vM} (h:CW c):∃c' b,cW c=some (c',b)/\CW c'/\yb b/\wq b=true/\SM b:=by
 obtain⟨c1,p,e1,w1,b1⟩:=xK h (n:=4) (by decide);obtain⟨c2,q,e2,w2,b2⟩:=xK w1 (n:=5) (by decide);have e1':aa c 4=some (c1,(p:Int)):=e1
 have e2':aa c1 5=some (c2,(q:Int)):=e2;have hp:vA (1+(p:Int))=((p+1:Nat):Int):=by rw[vW (by omega) (by omega)];omega
 have hq:vA (1+(q:Int))=((q+1:Nat):Int):=by rw[vW (by omega) (by omega)];omega
 obtain⟨ps,rs,qs,e3⟩:=UX (id:=q+1) (n:=p+1) (by omega) (by omega) (by omega) (by omega);obtain⟨c4,name,e4,w4,b4⟩:=Q1 w2 (l:=[[],[121,97,114,100],[98,49]]) (by decide);obtain⟨c5,pts,e5,w5,l5,a5⟩:=P0 w4 (n:=p+1) (by omega);obtain⟨c6,v,e6,w6,a6⟩:=QG w5 (n:=p+1) (by omega) (by omega);obtain⟨c7,m,e7,w7,b7⟩:=xK w6 (n:=6) (by decide);have e7':aa c6 6=some (c7,(m:Int)):=e7
 have hname:name.length<=10:=by
  have:∀x∈([[],[121,97,114,100],[98,49]]:List (List UInt8)),x.length<=10:=by decide
  exact this name b4
 obtain⟨d,hd,g1,g2,g3,g4⟩:=vR (step:=λz:Int×List Int×Int×Int×Int×List UInt8×Int×Int×Int×Int×Int×List vD=>ep (c1,(p:Int)) z.1 z.2.1 z.2.2.1 z.2.2.2.1 z.2.2.2.2.1 z.2.2.2.2.2.1 z.2.2.2.2.2.2.1 z.2.2.2.2.2.2.2.1 z.2.2.2.2.2.2.2.2.1 z.2.2.2.2.2.2.2.2.2.1 z.2.2.2.2.2.2.2.2.2.2.1 z.2.2.2.2.2.2.2.2.2.2.2)
  (λk z=>z.1=(m:Int)-(k:Int)/\CW (z.2.1,z.2.2.1,z.2.2.2.1)/\(z.2.2.2.2.1=((q+1:Nat):Int)/\z.2.2.2.2.2.1=name)/\(z.2.2.2.2.2.2.1,z.2.2.2.2.2.2.2.1,z.2.2.2.2.2.2.2.2.1,z.2.2.2.2.2.2.2.2.2.1,z.2.2.2.2.2.2.2.2.2.2.1)=((0:Int),(0:Int),(0:Int),(0:Int),(0:Int))/\FB z.2.2.2.2.2.2.2.2.2.2.2) m
  (λd=>CW (d.1,d.2.1,d.2.2.1)/\(d.2.2.2.1=((q+1:Nat):Int)/\d.2.2.2.2.1=name)/\(d.2.2.2.2.2.1,d.2.2.2.2.2.2.1,d.2.2.2.2.2.2.2.1,d.2.2.2.2.2.2.2.2.1,d.2.2.2.2.2.2.2.2.2.1)=((0:Int),(0:Int),(0:Int),(0:Int),(0:Int))/\FB d.2.2.2.2.2.2.2.2.2.2)
  (λk z hk ⟨a1,a2,a3,a4,a5⟩=>by
   obtain⟨i,x,y,s,bid,nm,n6,n7,n8,n9,n10,f⟩:=z;simp only at a1 a2 a3 a4 a5;left;show ∃y',ep (c1,(p:Int)) i x y s bid nm n6 n7 n8 n9 n10 f=_/\_
   unfold ep;have hi:decide (i>0)=true:=dT (by omega)
   have hw:vA (i-1)=(m:Int)-((k+1:Nat):Int):=by rw[vW (by omega) (by omega)];omega
   obtain⟨d1,r1,f1,v1,_⟩:=y8 a2 3;obtain⟨d2,r2,f2,v2⟩:=Li v1;obtain⟨d3,r3,f3,v3,_⟩:=y8 v2 (vA (1+(p:Int)));obtain⟨y',f4,g4⟩:=P1 a5 (vA (1+r1)) r2 r3;rw[hi,cT,f1,an,f2,an,f3,an,f4,an,hw];exact⟨_,rfl,rfl,v3,a3,a4,g4⟩)
  (λz ⟨a1,a2,a3,a4,a5⟩=>by
   obtain⟨i,x,y,s,bid,nm,n6,n7,n8,n9,n10,f⟩:=z;simp only at a1 a2 a3 a4 a5;refine⟨(x,y,s,bid,nm,n6,n7,n8,n9,n10,f),?_,a2,a3,a4,a5⟩;show ep (c1,(p:Int)) i x y s bid nm n6 n7 n8 n9 n10 f=_
   unfold ep;have hi:decide (i>0)=false:=dF (by omega)
   rw[hi,cF]) (x:=((m:Int),c7.1,c7.2.1,c7.2.2,((q+1:Nat):Int),name,0,0,0,0,0,[])) ⟨by simp,w7,⟨rfl,rfl⟩,rfl,⟨λx hx=>absurd hx not_mem_nil,List.Pairwise.nil,by simp⟩⟩
 obtain⟨dc,dp,ds,did,dn,n6,n7,n8,n9,n10,df⟩:=d;simp only at g1 g2 g3 g4;obtain⟨rfl,rfl⟩:=g2;simp only[Prod.mk.injEq]at g3;obtain⟨rfl,rfl,rfl,rfl,rfl⟩:=g3;obtain⟨c8,st,e8,w8⟩:=Hb g1 3;obtain⟨z1,z2,z3,z4⟩:=a6.len;have hin:∀n:Nat,n<=1000000->vE (n:Int) 0 1000000=true:=λn hn=>by unfold vE;rw[dT (by omega),dT (by omega)];rfl
 have hlast:∀(c:vM) (F:List vD),CW c->FB F->∃c' b,((aa c 5).bind λt59=>(af t59.1 ([0,1,5,1000000]:List Int)).bind λt63=>some (t63.1,((((q+1:Nat):Int),dn,pts,F,v.1,v.2,t59.2,0,0,0,t63.2):vw)))=some (c',b)/\CW c'/\yb b/\wq b=true/\SM b:=by
  intro c F hc hF;obtain⟨k1,t,f1,u1,b1⟩:=xK hc (n:=5) (by decide);have f1':aa c 5=some (k1,(t:Int)):=f1
  obtain⟨k2,x,f2,u2,b2⟩:=zK u1 (l:=[0,1,5,1000000]) (by decide);have hx:vE x 0 1000000=true:=by
   have:∀x∈([0,1,5,1000000]:List Int),vE x 0 1000000=true:=by decide
   exact this x b2
  have hFn:=hF.n;rw[f1',an,f2,an];refine⟨_,_,rfl,u2,⟨by show pts.length<_;omega,by show F.length<_;omega,by show v.1.length<_;omega,by show v.2.length<_;omega,a6.r⟩,?_,rfl,rfl,rfl⟩;unfold wq ya;show (!((List.range pts.length).any (DY pts))&&(vE ((q+1:Nat):Int) 1 99&&(!(decide ((dn.length:Int)>10))&&(vE (pts.length:Int) 1 6&&(AX F&&(yK v (pts.length:Int)&&(vE (t:Int) 0 1000000&&(vE 0 0 1000000&&(vE 0 0 1000000&&(vE 0 0 1000000&&vE x 0 1000000))))))))))=true
  have q1:(List.range pts.length).any (DY pts)=false:=by
   apply Bool.eq_false_iff.2;intro ha;obtain⟨k,hk,hx⟩:=any_eq_true.1 ha;have hk:=mem_range.1 hk
   unfold DY at hx;simp only[List.getElem?_eq_getElem hk,a5 _ (getElem_mem hk)]at hx
   revert hx;decide
  have q2:vE ((q+1:Nat):Int) 1 99=true:=by unfold vE;rw[dT (by omega),dT (by omega)];rfl
  have q3:decide ((dn.length:Int)>10)=false:=dF (by omega);have q4:vE (pts.length:Int) 1 6=true:=by unfold vE;rw[dT (by omega),dT (by omega)];rfl
  rw[q1,q2,q3,q4,hF.ok,l5,a6.p,hin t (by omega),hx];rfl
 have e8':bn (dc,dp,ds) 3=some (c8,st):=e8;unfold cW;rw[e1',an];show ∃c' b,((aa c1 5).bind _)=_/\_
 rw[e2',an];show ∃c' b,((fu (vA (1+(q:Int))) (vA (1+(p:Int)))).bind _)=_/\_
 rw[hp,hq,e3,an,e4,an];show ∃c' b,((cQ c4 ((p+1:Nat):Int)).bind _)=_/\_
 rw[e5,an];show ∃c' b,((cR c5 ((p+1:Nat):Int)).bind _)=_/\_
 rw[e6,an];show ∃c' b,((aa c6 6).bind _)=_/\_
 rw[e7',an];show ∃c' b,((loop _ ((m:Int),c7.1,c7.2.1,c7.2.2,((q+1:Nat):Int),dn,0,0,0,0,0,[])).bind _)=_/\_
 rw[hd,an];show ∃c' b,((bn (dc,dp,ds) 3).bind _)=_/\_
 rw[e8',an];cases st with
 | false =>
  show ∃c' b,((aa c8 5).bind _)=_/\_;exact hlast c8 df w8 g4
 | true =>
  obtain⟨k1,x1,f1,u1⟩:=Li w8;obtain⟨k2,x2,f2,u2,_⟩:=y8 u1 ((p+1:Nat):Int);obtain⟨F,ok,f3,hF⟩:=Mj g4 1 x1 x2;show ∃c' b,((bQ c8).bind _)=_/\_
  rw[f1,an];show ∃c' b,((aa k1 ((p+1:Nat):Int)).bind _)=_/\_
  rw[f2,an];show ∃c' b,((eo df 1 x1 x2).bind _)=_/\_
  rw[f3,an];exact hlast k2 F u2 hF
theorem Rz {c:vM} (h:CW c):∃c' b,cW c=some (c',b)/\CW c'/\yb b/\wq b=true:=by
 obtain⟨c',b,h1,h2,h3,h4,_⟩:=J7 h;exact⟨c',b,h1,h2,h3,h4⟩

noncomputable def FR (b:vw) (c p:Int):Int:=(cE b c p).getD 0
def num (name:List Int) (n:Int):vB:=([1,3,1]++name,2,n,[],[])
def GM (r:vP) (c:Nat):Int:=match c with|0=>1|1=>r.2.1|_=>r.2.2
noncomputable def yL (b:vw) (c:Nat):List vB:=(List.range b.2.2.1.length).map λk=>num [2,((c+1:Nat):Int),((k+1:Nat):Int)] (FR b ((c+1:Nat):Int) (k:Int))
def zL (b:vw) (c:Nat):List vB:=b.2.2.2.2.1.map λr=>num [3,((c+1:Nat):Int),r.1] (GM r c)
def EH (b:vw):List vB:=b.2.2.2.1.map λe=>num [4,1,e.1,e.2.1] (vA (e.2.2.1+1))
noncomputable def yI (b:vw):List vB:=BV b++(List.range 4).flatMap (yL b)++(List.range 3).flatMap (zL b)++EH b
theorem HO {out:List vB} (name:List Int) (n i:Int) (h1:out.length<=900) (h2:name.length<=900):((bt n).bind λv=>(aQ v name).bind λt=>(vS out [t]).bind λzs=>some (Sum.inl (vA (i+1),zs):(Int×List vB)⊕List vB))=some (Sum.inl (vA (i+1),out++[num name n])):=by
 unfold bt aQ;rw[an,vF (by show 3+name.length<=_;omega),an,an,vF (by show out.length+1<=_;omega),an];rfl
theorem U4 {b:vw} (h:yb b) (hq:b.2.2.1.length=b.2.2.2.2.2.1.length) (h6:b.2.2.1.length<=6) (c:Nat) (out:List vB) (ho:out.length<=500):loop (λz=>cc b ((c+1:Nat):Int) z.1 z.2) (0,out)=some (out++yL b c):=by
 obtain⟨v,h1,rfl⟩:=vR (step:=λz:Int×List vB=>cc b ((c+1:Nat):Int) z.1 z.2) (λk z=>z.1=(k:Int)/\z.2=out++(List.range k).map λk=>num [2,((c+1:Nat):Int),((k+1:Nat):Int)] (FR b ((c+1:Nat):Int) (k:Int))) b.2.2.1.length (λv=>v=out++yL b c)
  (λk z hk ⟨e1,e2⟩=>by
   obtain⟨i,l⟩:=z;simp only at e1 e2;subst e1;left;obtain⟨n,hn⟩:=TW h ((c+1:Nat):Int) hk hq;have hv:FR b ((c+1:Nat):Int) (k:Int)=n:=by unfold FR;rw[hn];rfl
   have hl:l.length<=900:=by rw[e2];simp;omega
   refine⟨(((k+1:Nat):Int),l++[num [2,((c+1:Nat):Int),((k+1:Nat):Int)] n]),?_,rfl,?_⟩
   · show cc b ((c+1:Nat):Int) (k:Int) l=_;unfold cc;rw[wm (by omega),cT,hn,an,HO _ _ _ hl (by simp),vK (by omega)]
   · show l++[num _ n]=_;rw[e2,range_succ,map_append,←append_assoc,List.map_singleton,hv])
  (λz ⟨e1,e2⟩=>by
   obtain⟨i,l⟩:=z;simp only at e1 e2;subst e1;refine⟨l,?_,e2⟩;show cc b ((c+1:Nat):Int) _ l=_
   unfold cc;rw[wg (by omega),cF]) (x:=(0,out)) ⟨rfl,by simp⟩
 exact h1
theorem SN {b:vw} (h:yb b) (hq:b.2.2.1.length=b.2.2.2.2.2.1.length) (h6:b.2.2.1.length<=6) (out:List vB) (ho:out.length<=100):loop (λz=>cG b z.1 z.2) (1,out)=some (out++(List.range 4).flatMap (yL b)):=by
 have hg:∀c,(yL b c).length<=6:=λc=>by unfold yL;rw[length_map,List.length_range];exact h6
 obtain⟨v,h1,rfl⟩:=vR (step:=λz:Int×List vB=>cG b z.1 z.2) (λk z=>z.1=((k+1:Nat):Int)/\z.2=out++(List.range k).flatMap (yL b)/\z.2.length<=100+6*k) 4 (λv=>v=out++(List.range 4).flatMap (yL b))
  (λk z hk ⟨e1,e2,e3⟩=>by
   obtain⟨i,l⟩:=z;simp only at e1 e2 e3;subst e1;left;have hg':=hg k
   refine⟨(((k+1+1:Nat):Int),l++yL b k),?_,rfl,?_,by show (l++yL b k).length<=_;rw[length_append];omega⟩
   · show cG b ((k+1:Nat):Int) l=_;unfold cG;rw[dT (show ((k+1:Nat):Int)<=4 by omega),cT,U4 h hq h6 k l (by omega),an,vK (by omega)]
   · show l++yL b k=_;rw[e2,range_succ,List.flatMap_append,←append_assoc];simp)
  (λz ⟨e1,e2,e3⟩=>by
   obtain⟨i,l⟩:=z;simp only at e1 e2 e3;subst e1;exact⟨l,rfl,e2⟩) (x:=(1,out)) ⟨rfl,by simp,by show out.length<=_;omega⟩
 exact h1
theorem UY {b:vw} (h6:b.2.2.2.2.1.length<=6) {c:Nat} (hc:c<3) (out:List vB) (ho:out.length<=500):loop (λz=>ce b ((c+1:Nat):Int) z.1 z.2) (0,out)=some (out++zL b c):=by
 obtain⟨v,h1,rfl⟩:=vR (step:=λz:Int×List vB=>ce b ((c+1:Nat):Int) z.1 z.2) (λk z=>z.1=(k:Int)/\z.2=out++(b.2.2.2.2.1.take k).map λr=>num [3,((c+1:Nat):Int),r.1] (GM r c)) b.2.2.2.2.1.length (λv=>v=out++zL b c)
  (λk z hk ⟨e1,e2⟩=>by
   obtain⟨i,l⟩:=z;simp only at e1 e2;subst e1;left;have hl:l.length<=900:=by rw[e2];simp;omega
   refine⟨(((k+1:Nat):Int),l++[num [3,((c+1:Nat):Int),b.2.2.2.2.1[k].1] (GM b.2.2.2.2.1[k] c)]),?_,rfl,?_⟩
   · show ce b ((c+1:Nat):Int) (k:Int) l=_;unfold ce;rw[wm (by omega),cT,vL hk,an];generalize b.2.2.2.2.1[k]=r;have hw:vA (((c+1:Nat):Int)-1)=(c:Int):=by rw[vW (by omega) (by omega)];omega
     have hx:(ix [1,r.2.1,r.2.2].length (vA (((c+1:Nat):Int)-1))).bind (λj91=>([1,r.2.1,r.2.2][j91]?).bind λx92=>(bt x92).bind λt93=>(aQ t93 [3,((c+1:Nat):Int),r.1]).bind λt98=>(vS l [t98]).bind λzs100=>some (Sum.inl (vA ((k:Int)+1),zs100):(Int×List vB)⊕List vB))=(bt (GM r c)).bind λt93=>(aQ t93 [3,((c+1:Nat):Int),r.1]).bind λt98=>(vS l [t98]).bind λzs100=>some (Sum.inl (vA ((k:Int)+1),zs100)):=by
      rw[hw,xJ (show c<[1,r.2.1,r.2.2].length from hc),an];rcases (show c=0\/c=1\/c=2 by omega)with rfl|rfl|rfl<;>rfl
     rw[hx,HO _ _ _ hl (by simp),vK (by omega)]
   · show l++[num _ _]=_;rw[e2,take_add_one,List.getElem?_eq_getElem hk,map_append,←append_assoc];rfl)
  (λz ⟨e1,e2⟩=>by
   obtain⟨i,l⟩:=z;simp only at e1 e2;subst e1;rw[take_length]at e2;refine⟨l,?_,e2⟩;show ce b ((c+1:Nat):Int) _ l=_
   unfold ce;rw[wg (by omega),cF]) (x:=(0,out)) ⟨rfl,by simp⟩
 exact h1
theorem U5 {b:vw} (h6:b.2.2.2.2.1.length<=6) (out:List vB) (ho:out.length<=200):loop (λz=>cH b z.1 z.2) (1,out)=some (out++(List.range 3).flatMap (zL b)):=by
 have hg:∀c,(zL b c).length<=6:=λc=>by unfold zL;rw[length_map];exact h6
 obtain⟨v,h1,rfl⟩:=vR (step:=λz:Int×List vB=>cH b z.1 z.2) (λk z=>z.1=((k+1:Nat):Int)/\z.2=out++(List.range k).flatMap (zL b)/\z.2.length<=200+6*k) 3 (λv=>v=out++(List.range 3).flatMap (zL b))
  (λk z hk ⟨e1,e2,e3⟩=>by
   obtain⟨i,l⟩:=z;simp only at e1 e2 e3;subst e1;left;have hg':=hg k
   refine⟨(((k+1+1:Nat):Int),l++zL b k),?_,rfl,?_,by show (l++zL b k).length<=_;rw[length_append];omega⟩
   · show cH b ((k+1:Nat):Int) l=_;unfold cH;rw[dT (show ((k+1:Nat):Int)<=3 by omega),cT,UY h6 hk l (by omega),an,vK (by omega)]
   · show l++zL b k=_;rw[e2,range_succ,List.flatMap_append,←append_assoc];simp)
  (λz ⟨e1,e2,e3⟩=>by
   obtain⟨i,l⟩:=z;simp only at e1 e2 e3;subst e1;exact⟨l,rfl,e2⟩) (x:=(1,out)) ⟨rfl,by simp,by show out.length<=_;omega⟩
 exact h1
theorem UZ {b:vw} (h12:b.2.2.2.1.length<=12) (out:List vB) (ho:out.length<=500):loop (λz=>bJ b z.1 z.2) (0,out)=some (out++EH b):=by
 obtain⟨v,h1,rfl⟩:=vR (step:=λz:Int×List vB=>bJ b z.1 z.2) (λk z=>z.1=(k:Int)/\z.2=out++(b.2.2.2.1.take k).map λe=>num [4,1,e.1,e.2.1] (vA (e.2.2.1+1))) b.2.2.2.1.length (λv=>v=out++EH b)
  (λk z hk ⟨e1,e2⟩=>by
   obtain⟨i,l⟩:=z;simp only at e1 e2;subst e1;left;have hl:l.length<=900:=by rw[e2];simp;omega
   refine⟨(((k+1:Nat):Int),l++[num [4,1,b.2.2.2.1[k].1,b.2.2.2.1[k].2.1] (vA (b.2.2.2.1[k].2.2.1+1))]),?_,rfl,?_⟩
   · show bJ b (k:Int) l=_;unfold bJ;rw[wm (by omega),cT,vL hk,an,HO _ _ _ hl (by simp),vK (by omega)]
   · show l++[num _ _]=_;rw[e2,take_add_one,List.getElem?_eq_getElem hk,map_append,←append_assoc];rfl)
  (λz ⟨e1,e2⟩=>by
   obtain⟨i,l⟩:=z;simp only at e1 e2;subst e1;rw[take_length]at e2;refine⟨l,?_,e2⟩;show bJ b _ l=_
   unfold bJ;rw[wg (by omega),cF]) (x:=(0,out)) ⟨rfl,by simp⟩
 exact h1
structure wH (b:vw):Prop where
 w:yb b
 ok:wq b=true
 p:∀x∈b.2.2.1,zQ x=true
 id:vE b.1 1 99=true
 name:b.2.1.length<=10
 n1:1<=b.2.2.1.length
 n6:b.2.2.1.length<=6
 f:AX b.2.2.2.1=true
 v:yK (b.2.2.2.2.1,b.2.2.2.2.2.1) (b.2.2.1.length:Int)=true
 c:ya b=true
theorem BK {b:vw} (h:yb b) (hb:wq b=true):wH b:=by
 have hb':=hb;unfold wq at hb;simp only[aT,Bool.not_eq_true',decide_eq_false_iff_not]at hb;obtain⟨h1,h2,h3,h4,h5,h6,h7⟩:=hb;refine⟨h,hb',λx hx=>?_,h2,by omega,?_,?_,h5,h6,h7⟩
 · obtain⟨k,hk,rfl⟩:=getElem_of_mem hx;cases hp:zQ b.2.2.1[k]with
   | true=>rfl
   | false =>
    have:=any_eq_false.1 h1 k (mem_range.2 hk);unfold DY at this;simp only[List.getElem?_eq_getElem hk,hp]at this;exact absurd rfl this
 · unfold vE at h4;simp only[aT,decide_eq_true_eq]at h4;omega
 · unfold vE at h4;simp only[aT,decide_eq_true_eq]at h4;omega
theorem wH.vt {b:vw} (h:wH b):VT (b.2.2.2.2.1,b.2.2.2.2.2.1) b.2.2.1.length:=⟨h.v,h.w.r⟩
theorem wH.f12 {b:vw} (h:wH b):b.2.2.2.1.length<=12:=by
 have hf:=h.f;unfold AX at hf;simp only[aT,decide_eq_true_eq]at hf;omega
theorem Q4 {b:vw} (h:wH b):cf b=some (yI b):=by
 obtain⟨v1,v2,v3,v4⟩:=h.vt.len;have v3':b.2.2.2.2.2.1.length=b.2.2.1.length:=v3
 have v4':b.2.2.2.2.1.length<=6:=v4;have hp:((List.range 4).flatMap (yL b)).length<=24:=by
  have hg:∀c,(yL b c).length<=6:=λc=>by unfold yL;rw[length_map,List.length_range];exact h.n6
  have h0:=hg 0;have h1:=hg 1;have h2:=hg 2;have h3:=hg 3
  show (yL b 0++(yL b 1++(yL b 2++(yL b 3++[])))).length<=24;simp only[length_append,List.length_nil];omega
 have hr:((List.range 3).flatMap (zL b)).length<=18:=by
  have hg:∀c,(zL b c).length<=6:=λc=>by unfold zL;rw[length_map];exact v4'
  have h0:=hg 0;have h1:=hg 1;have h2:=hg 2
  show (zL b 0++(zL b 1++(zL b 2++[]))).length<=18;simp only[length_append,List.length_nil];omega
 have k5:(BV b).length=5:=rfl;rw[SD h.w,h.ok,Bool.not_true,cF];unfold Ha;rw[SN h.w v3'.symm h.n6 (BV b) (by omega),an,U5 v4' _ (by rw[length_append];omega),an,UZ h.f12 _ (by rw[length_append,length_append];omega),an];rfl

theorem FS {α:Type} {R:α->α->Prop} (tr:∀a b c,R a b->R b c->R a c) {l:List α} (h:∀k (hk:k+1<l.length),R l[k] l[k+1]):l.Pairwise R:=by
 rw[pairwise_iff_getElem];intro i j hi hj hij
 induction j with
 | zero=>omega
 | succ j ih =>
  by_cases e:i=j
  · subst e;exact h i hj
  · exact tr _ _ _ (ih (by omega) (by omega)) (h j hj)
def HP (g c:Int) (x:vB):Prop:=∃t,x.1=1::3::1::g::c::t
theorem Cy {g c g' c':Int} {x y:vB} (hx:HP g c x) (hy:HP g' c' y) (h:g<g'\/(g=g'/\c<c')):x.1<y.1:=by
 obtain⟨t,ht⟩:=hx;obtain⟨s,hs⟩:=hy;rw[ht,hs];simp only[cons_lt_cons_iff,Int.lt_irrefl,false_or,true_and];rcases h with h|⟨h,k⟩
 · exact .inl h
 · exact .inr ⟨h,.inl k⟩
theorem Ds {b:vw} {c:Nat} {x:vB} (h:x∈yL b c):HP 2 ((c+1:Nat):Int) x:=by
 unfold yL at h;obtain⟨k,_,rfl⟩:=mem_map.1 h;exact⟨_,rfl⟩
theorem Er {b:vw} {c:Nat} {x:vB} (h:x∈zL b c):HP 3 ((c+1:Nat):Int) x:=by
 unfold zL at h;obtain⟨k,_,rfl⟩:=mem_map.1 h;exact⟨_,rfl⟩
theorem GN {b:vw} {x:vB} (h:x∈EH b):HP 4 1 x:=by
 unfold EH at h;obtain⟨k,_,rfl⟩:=mem_map.1 h;exact⟨_,rfl⟩
theorem GO {b:vw} {x:vB} (h:x∈BV b):∃c,HP 1 c x:=by
 unfold BV at h;simp only[mem_cons,not_mem_nil,or_false]at h;rcases h with rfl|rfl|rfl|rfl|rfl<;>exact⟨_,_,rfl⟩
theorem NC (b:vw) (c:Nat):(yL b c).Pairwise λx y=>x.1<y.1:=by
 unfold yL;rw[List.pairwise_map];refine List.Pairwise.imp ?_ List.pairwise_lt_range;intro i j h;show (1::3::1::2::((c+1:Nat):Int)::((i+1:Nat):Int)::[])<(1::3::1::2::((c+1:Nat):Int)::((j+1:Nat):Int)::[])
 simp only[cons_lt_cons_iff,Int.lt_irrefl,false_or,true_and];exact .inl (by omega)
theorem JN {b:vw} (h:wH b):b.2.2.2.2.1.Pairwise λr s=>r.1<s.1:=by
 refine FS (R:=λ(r s:vP)=>r.1<s.1) (λ_ _ _ h k=>Int.lt_trans h k) λk hk=>?_;have hv:=h.v
 unfold yK at hv;simp only[aT,Bool.not_eq_true']at hv;have hx:=any_eq_false.1 hv.2.1 (k+1) (mem_range.2 hk)
 unfold BU at hx;simp only[List.getElem?_eq_getElem hk,Nat.add_sub_cancel,List.getElem?_eq_getElem (show k<b.2.2.2.2.1.length by omega),Bool.or_eq_true,aT,decide_eq_true_eq,not_or,not_and]at hx;have:=hx.2.1 (by omega)
 omega
theorem P2 {b:vw} (h:wH b) (c:Nat):(zL b c).Pairwise λx y=>x.1<y.1:=by
 unfold zL;rw[List.pairwise_map];refine List.Pairwise.imp ?_ (JN h);intro r s h;show (1::3::1::3::((c+1:Nat):Int)::r.1::[])<(1::3::1::3::((c+1:Nat):Int)::s.1::[])
 simp only[cons_lt_cons_iff,Int.lt_irrefl,false_or,true_and];exact .inl h
theorem Q5 {b:vw} (h:wH b):b.2.2.2.1.Pairwise lt:=by
 refine FS (R:=lt) (λ_ _ _=>lt_trans) λk hk=>?_;have hv:=h.f
 unfold AX at hv;simp only[aT,Bool.not_eq_true']at hv;have hx:=any_eq_false.1 hv.1 (k+1) (mem_range.2 hk)
 unfold B2 at hx;simp only[List.getElem?_eq_getElem hk,Nat.add_sub_cancel,List.getElem?_eq_getElem (show k<b.2.2.2.1.length by omega),Bool.or_eq_true,aT,decide_eq_true_eq,not_or,not_and,Bool.not_eq_true',Bool.not_eq_false]at hx;have hp:=hx.2 (by omega)
 unfold xQ at hp;simp only[Bool.or_eq_true,aT,decide_eq_true_eq,beq_iff_eq]at hp;unfold lt;omega
theorem Q6 {b:vw} (h:wH b):(EH b).Pairwise λx y=>x.1<y.1:=by
 unfold EH;rw[List.pairwise_map];refine List.Pairwise.imp ?_ (Q5 h);intro r s h;show (1::3::1::4::1::r.1::r.2.1::[])<(1::3::1::4::1::s.1::s.2.1::[])
 unfold lt at h;simp only[cons_lt_cons_iff,Int.lt_irrefl,false_or,true_and];rcases h with h|⟨h,k⟩
 · exact .inl h
 · exact .inr ⟨h,.inl k⟩
theorem P3 (b:vw):(BV b).Pairwise λx y=>x.1<y.1:=by
 unfold BV;simp only[List.pairwise_cons,mem_cons,not_mem_nil,or_false,forall_eq_or_imp,forall_eq,List.Pairwise.nil,and_true,false_imp_iff,implies_true,cons_lt_cons_iff,Int.lt_irrefl,false_or,true_and];refine⟨⟨.inl (by decide),.inl (by decide),.inl (by decide),.inl (by decide)⟩,⟨.inl (by decide),.inl (by decide),.inl (by decide)⟩,⟨.inl (by decide),.inl (by decide)⟩,.inl (by decide)⟩
theorem U6 {α:Type} (f:Nat->List α):(List.range 4).flatMap f=f 0++(f 1++(f 2++(f 3++[]))):=rfl
theorem U7 {α:Type} (f:Nat->List α):(List.range 3).flatMap f=f 0++(f 1++(f 2++[])):=rfl
theorem IL {n:Nat} {f:Nat->List vB} {g:Int} (hp:∀c,(f c).Pairwise λx y=>x.1<y.1) (hh:∀c x,x∈f c->HP g ((c+1:Nat):Int) x):((List.range n).flatMap f).Pairwise λx y=>x.1<y.1:=by
 induction n with
 | zero=>exact List.Pairwise.nil
 | succ n ih =>
  rw[range_succ,List.flatMap_append,pairwise_append];refine⟨ih,by simp;exact hp n,λx hx y hy=>?_⟩;obtain⟨c,hc,hx⟩:=mem_flatMap.1 hx;have hc:=mem_range.1 hc
  simp at hy;exact Cy (hh c x hx) (hh n y hy) (.inr ⟨rfl,by omega⟩)
theorem Q7 {b:vw} (h:wH b):(yI b).Pairwise λx y=>x.1<y.1:=by
 unfold yI;rw[pairwise_append,pairwise_append,pairwise_append];refine⟨⟨⟨P3 b,IL (NC b) (λc x=>Ds),λx hx y hy=>?_⟩,IL (P2 h) (λc x=>Er),λx hx y hy=>?_⟩,Q6 h,λx hx y hy=>?_⟩
 · obtain⟨c,hc⟩:=GO hx;obtain⟨d,_,hy⟩:=mem_flatMap.1 hy;exact Cy hc (Ds hy) (.inl (by decide))
 · obtain⟨d,_,hy⟩:=mem_flatMap.1 hy;rcases mem_append.1 hx with hx|hx
   · obtain⟨c,hc⟩:=GO hx;exact Cy hc (Er hy) (.inl (by decide))
   · obtain⟨e,_,hx⟩:=mem_flatMap.1 hx;exact Cy (Ds hx) (Er hy) (.inl (by decide))
 · rcases mem_append.1 hx with hx|hx
   · rcases mem_append.1 hx with hx|hx
     · obtain⟨c,hc⟩:=GO hx;exact Cy hc (GN hy) (.inl (by decide))
     · obtain⟨e,_,hx⟩:=mem_flatMap.1 hx;exact Cy (Ds hx) (GN hy) (.inl (by decide))
   · obtain⟨e,_,hx⟩:=mem_flatMap.1 hx;exact Cy (Er hx) (GN hy) (.inl (by decide))
theorem SO (p s t:List Int) {x y:Int} (h:x≠y):(p++x::s<p++y::t)↔x<y:=by
 induction p with
 | nil =>
  simp only[nil_append,cons_lt_cons_iff];exact⟨λk=>k.elim id λk=>absurd k.1 h,.inl⟩
 | cons a p ih=>simp only[List.cons_append,cons_lt_cons_iff,ih,Int.lt_irrefl,false_or,true_and]
theorem RA (p:List Int) {s:List Int} (h:s≠[]):p<p++s:=by
 induction p with
 | nil=>cases s with
  | nil=>exact absurd rfl h
  | cons a s=>exact List.nil_lt_cons a s
 | cons a p ih=>simp only[List.cons_append,cons_lt_cons_iff,Int.lt_irrefl,false_or,true_and];exact ih
theorem RB (p s:List Int):¬p++s<p:=by
 induction p with
 | nil=>exact List.not_lt_nil s
 | cons a p ih=>simp only[List.cons_append,cons_lt_cons_iff,Int.lt_irrefl,false_or,true_and];exact ih
theorem QH {a b:List Int} (h:b.length<9223372036854775807):gk a b=some (decide (a<b)):=by
 have hsplit:∀k,a.take k=b.take k->∀(ha:k<a.length) (hb:k<b.length),a=a.take k++a[k]::a.drop (k+1)/\b=a.take k++b[k]::b.drop (k+1):=by
  intro k e ha hb;refine⟨?_,?_⟩
  · rw[←List.drop_eq_getElem_cons ha,take_append_drop]
  · rw[e,←List.drop_eq_getElem_cons hb,take_append_drop]
 obtain⟨v,h1,h2⟩:=vR (step:=λz=>ff a b z) (λk i=>i=(k:Int)/\a.take k=b.take k) (min a.length b.length) (λv=>(v=.inr (decide (a<b)))\/(v=.inl ()/\decide ((a.length:Int)<(b.length:Int))=decide (a<b)))
  (λk i hk ⟨e,ht⟩=>by
   subst e;have ha:k<a.length:=by omega
   have hb:k<b.length:=by omega
   have hs:ff a b (k:Int)=cond (a[k] != b[k]) (some (.inr (.inr (decide (a[k]<b[k]))))) (some (.inl ((k+1:Nat):Int))):=by
    unfold ff;rw[wm (show (k:Int)<(a.length:Int) by omega),wm (show (k:Int)<(b.length:Int) by omega),cT,an,cT,vL ha,an,vL hb,an,vK (by omega),an,an]
   obtain⟨s1,s2⟩:=hsplit k ht ha hb;by_cases hne:a[k]=b[k]
   · refine .inl ⟨_,by rw[hs,show (a[k] != b[k])=false by simp[hne]];rfl,rfl,?_⟩;rw[take_add_one,take_add_one,List.getElem?_eq_getElem ha,List.getElem?_eq_getElem hb,ht,hne]
   · refine .inr ⟨_,by rw[hs,show (a[k] != b[k])=true from bne_iff_ne.2 hne];rfl,.inl ?_⟩
     congr 1
     apply decide_eq_decide.2;have:=SO (a.take k) (a.drop (k+1)) (b.drop (k+1)) hne
     rw[←s1,←s2]at this;exact this.symm)
  (λi ⟨e,ht⟩=>by
   subst e;refine⟨.inl (),?_,.inr ⟨rfl,?_⟩⟩
   · show ff a b _=_;unfold ff;by_cases h:a.length<=b.length
     · rw[Nat.min_eq_left h,wg (by omega)];rfl
     · rw[Nat.min_eq_right (by omega),wm (by omega),wg (show ¬(b.length:Int)<(b.length:Int) by omega)];rfl
   · apply decide_eq_decide.2;by_cases h:a.length<=b.length
     · rw[Nat.min_eq_left h,take_length]at ht;have hb:b=a++b.drop a.length:=by
        have:=take_append_drop a.length b;rw[←ht]at this;exact this.symm
       constructor
       · intro hlt;have hd:b.drop a.length≠[]:=by
          intro h0;have:=congrArg List.length h0
          rw[List.length_drop]at this;simp at this;omega
         have:=RA a hd;rw[←hb]at this;exact this
       · intro hlt;by_cases he:a.length=b.length
         · have hd:b.drop a.length=[]:=List.drop_eq_nil_of_le (by omega);rw[hd,List.append_nil]at hb;rw[hb]at hlt;exact absurd hlt (List.lt_irrefl _)
         · omega
     · rw[Nat.min_eq_right (by omega),take_length]at ht;have ha:a=b++a.drop b.length:=by
        have:=take_append_drop b.length a;rw[ht]at this;exact this.symm
       constructor
       · intro hlt;omega
       · intro hlt;have:=RB b (a.drop b.length)
         rw[←ha]at this;exact absurd hlt this) (x:=0) ⟨rfl,by simp⟩
 unfold gk;rw[h1,an];rcases h2 with rfl|⟨rfl,h2⟩
 · rfl
 · show some (decide _)=_;rw[h2]

theorem Cn {a b:List Int} (h:b.length<9223372036854775807):aA a b=some (a==b):=by
 unfold aA;by_cases hl:a.length=b.length
 · have e:((a.length:Int) != (b.length:Int))=false:=by rw[hl];simp
   rw[e,cF];obtain⟨v,h1,rfl⟩:=vR (step:=λz=>eO a b z) (λk i=>i=(k:Int)/\a.take k=b.take k) a.length (λv=>v=cond (a==b) (.inl ()) (.inr false))
    (λk i hk ⟨e,ht⟩=>by
     subst e;have hb:k<b.length:=by omega
     have hs:eO a b (k:Int)=cond (a[k] != b[k]) (some (.inr (.inr false))) (some (.inl ((k+1:Nat):Int))):=by
      unfold eO;rw[wm (by omega),cT,vL hk,an,vL hb,an,vK (by omega)]
     by_cases hne:a[k]=b[k]
     · refine .inl ⟨_,by rw[hs,show (a[k] != b[k])=false by simp[hne]];rfl,rfl,?_⟩;rw[take_add_one,take_add_one,List.getElem?_eq_getElem hk,List.getElem?_eq_getElem hb,ht,hne]
     · refine .inr ⟨_,by rw[hs,show (a[k] != b[k])=true from bne_iff_ne.2 hne];rfl,?_⟩;have:(a==b)=false:=by
        apply beq_eq_false_iff_ne.2;intro hab;subst hab;exact hne rfl
       rw[this];rfl)
    (λi ⟨e,ht⟩=>by
     subst e;have hab:a=b:=by
      rw[take_length,List.take_of_length_le (by omega)]at ht;exact ht
     exact⟨.inl (),by show eO a b _=_;unfold eO;rw[wg (by omega),cF],by rw[show (a==b)=true from beq_iff_eq.2 hab];rfl⟩) (x:=0) ⟨rfl,by simp⟩
   rw[h1,an];cases (a==b)<;>rfl
 · have e:((a.length:Int) != (b.length:Int))=true:=by simp;omega
   have hne:(a==b)=false:=beq_eq_false_iff_ne.2 λh=>hl (by rw[h]);rw[e,cT,hne]
theorem SP {v:zj} (h:v.2.2.2.length<9223372036854775807):aJ v v=some true:=by
 unfold aJ;rw[Cn h];simp
structure Nm (o:List Int):Prop where
 n1:1<=o.length
 n10:o.length<=10
 e:∀x∈o,vE x 0 100000=true
theorem Nm.ok {o:List Int} (h:Nm o):ao o=some true:=by
 have h10:=h.n10;have h1:=h.n1
 unfold ao;obtain⟨v,e,rfl⟩:=vR (step:=λz=>aZ o z) (λk i=>i=(k:Int)) o.length (λv=>v=.inl ())
  (λk i hk e=>by
   subst e;refine .inl ⟨((k+1:Nat):Int),?_,rfl⟩;show aZ o (k:Int)=_
   unfold aZ;rw[wm (by omega),cT,vL hk,an,yB,an,h.e _ (getElem_mem hk),vK (by omega)];rfl)
  (λi e=>by
   subst e;exact⟨.inl (),by show aZ o _=_;unfold aZ;rw[wg (by omega),cF],rfl⟩) (x:=0) rfl
 rw[e,an];show ((ac (o.length:Int) 1 10).bind λt=>some t)=_
 rw[yB,an];unfold vE;rw[dT (by omega),dT (by omega)];rfl
inductive Vl:zj->Prop
 | num {n:Int} (h:vE n (-2147483648) 2147483647=true):Vl (2,n,[],[])
 | word {s:List UInt8} (h:s.length<=20):Vl (4,0,s,[])
theorem Vl.ok {v:zj} (h:Vl v):ap v=some true:=by
 cases h with
 | num h =>
  unfold ap aF aJ;simp only[yB,h,an,Cn (show ([]:List Int).length<9223372036854775807 by decide)];simp
 | word h =>
  rename_i s;have hd:decide ((s.length:Int)<=20)=true:=dT (by omega)
  unfold ap aJ;simp only[hd,an,Cn (show ([]:List Int).length<9223372036854775807 by decide)];simp
theorem Vl.k {v:zj} (h:Vl v):(v.1==128)=false:=by cases h<;>rfl
theorem Vl.o {v:zj} (h:Vl v):v.2.2.2=[]:=by cases h<;>rfl
theorem GP {n:Int} (h1:0<=n) (h2:n<=2147483647):vE n (-2147483648) 2147483647=true:=by unfold vE;rw[dT (by omega),dT (by omega)];rfl
theorem BD {n a c:Int} (h1:a<=n) (h2:n<=c):vE n a c=true:=by unfold vE;rw[dT (by omega),dT (by omega)];rfl
theorem G8 {n a c:Int} (h:vE n a c=true):a<=n/\n<=c:=by
 unfold vE at h;simp only[aT,decide_eq_true_eq]at h;exact h
theorem SQ {v:wz} (hn:v.1.length<9223372036854775807) {id r:Int} (h:aj v id=some r) (h0:¬r<0):∃x∈v.1,x.1=id:=by
 unfold aj at h;obtain⟨b,h1,h2⟩:=vR (β:=Unit⊕Int) (step:=λz=>aP v id z) (λk i=>i=(k:Int)) v.1.length (λb=>∀r,b=.inr r->∃x∈v.1,x.1=id)
  (λk i hk h=>by
   subst h;unfold aP;rw[wm (by omega),cT,vL hk,an];cases hb:(v.1[k].1==id)with
   | true=>exact .inr ⟨_,rfl,λr hr=>⟨_,getElem_mem hk,eq_of_beq hb⟩⟩
   | false=>exact .inl ⟨_,rfl,vK (by omega)⟩)
  (λi h=>by
   subst h;unfold aP;rw[wg (by omega)];exact⟨_,rfl,λr hr=>by cases hr⟩) (x:=0) rfl
 rw[h1,an]at h;cases b with
 | inl _=>cases h;exact absurd (by decide) h0
 | inr r'=>exact h2 r' rfl
theorem RC {id:Int} {l:List Pt} {p v:Int} (h:bc id l p=some v):1<=v/\v<=4:=by
 unfold bc at h;rw[yB,an]at h;have key:∀(o:Option Bool) (f:Bool->Option Int),(∀t x,f t=some x->1<=x/\x<=4)->o.bind f=some v->1<=v/\v<=4:=by
  intro o f hf h;cases o with
  | none=>cases h
  | some t=>exact hf t v h
 refine key _ _ (λt x hx=>?_) h;cases t with
 | true=>cases hx;decide
 | false =>
  rw[cF]at hx;cases hbv:ca id l with
  | none=>rw[hbv]at hx;cases hx
  | some w =>
   rw[hbv,an]at hx;cases hw:w.2==p with
   | true=>rw[hw]at hx;cases hx;decide
   | false =>
    rw[hw,cF]at hx;cases ha:at? l p with
    | none=>rw[ha]at hx;cases hx
    | some y =>
     rw[ha,an]at hx
     revert hx
     generalize (cond (!y.2.2.1) _ _:Option Bool)=o;intro hx;cases o with
     | none=>cases hx
     | some t=>cases t<;>(cases hx;decide)
theorem Mk {b:vw} (h:wH b) {r:vP} (hr:r∈b.2.2.2.2.1):(1<=r.1/\r.1<=99)/\(0<=r.2.1/\r.2.1<=63)/\(0<=r.2.2/\r.2.2<=63):=by
 obtain⟨k,hk,rfl⟩:=getElem_of_mem hr;have hv:=h.v
 unfold yK at hv;simp only[aT,Bool.not_eq_true',Bool.or_eq_false_iff,Bool.not_eq_false']at hv;have hx:=any_eq_false.1 hv.2.1 k (mem_range.2 hk)
 unfold BU at hx;simp only[List.getElem?_eq_getElem hk,Bool.or_eq_true,Bool.not_eq_true',not_or,Bool.not_eq_false]at hx;obtain⟨x1,_,x3,x4⟩:=hx;have ht:=K0 (i:=(b.2.2.1.length:Int)) hv.1.1
 have y1:=G8 x1;have y3:=G8 x3
 have x4:(BE .i64 b.2.2.2.2.1[k].2.2 b.2.2.2.2.1[k].2.1 != 0)=false:=by simpa using x4
 refine⟨y1,by omega,?_⟩;have hI:=h.w.r _ (getElem_mem hk)
 have hband:=G8 (Mf hI.1 hI.2 x3 ht.2 (by rw[JK hI.1 hI.2];exact x4));omega
theorem RD {b:vw} (h:wH b) {x:Int} (hx:x∈b.2.2.2.2.2.1):1<=x/\x<=99:=by
 obtain⟨k,hk,rfl⟩:=getElem_of_mem hx;have hv:=h.v
 have hn:b.2.2.2.2.1.length<9223372036854775807:=h.w.v;unfold yK at hv;simp only[aT,Bool.not_eq_true']at hv;have hq:=any_eq_false.1 hv.2.2 k (mem_range.2 hk)
 unfold Dp at hq;simp only[List.getElem?_eq_getElem hk]at hq;obtain⟨r,hr⟩:=OX (v:=(b.2.2.2.2.1,b.2.2.2.2.2.1)) hn b.2.2.2.2.2.1[k];rw[hr]at hq;simp only[decide_eq_true_eq]at hq;obtain⟨y,hy,e⟩:=SQ (v:=(b.2.2.2.2.1,b.2.2.2.2.2.1)) hn hr hq;have:=(Mk h (r:=y) hy).1
 rw[e]at this;exact this
theorem Q8 {b:vw} (h:wH b) (c:Int) {k:Nat} (hk:k<b.2.2.1.length):0<=FR b c (k:Int)/\FR b c (k:Int)<=1000:=by
 have v3:b.2.2.2.2.2.1.length=b.2.2.1.length:=h.vt.len.2.2.1;have hkq:k<b.2.2.2.2.2.1.length:=by omega
 obtain⟨r,hr⟩:=Nv b.1 h.w.p (k:Int);have hr2:=RC hr
 have hp:=h.p _ (getElem_mem hk);unfold zQ at hp;simp only[aT]at hp;have hc:=G8 hp.1
 have hq:=RD h (getElem_mem hkq);unfold FR cE gh;rw[vL hk,vL hkq,hr];simp only[an];cases (c==1)with
 | true =>
  cases b.2.2.1[k].1 with
  | true=>show (0:Int)<=1/\(1:Int)<=1000;decide
  | false=>show (0:Int)<=0/\(0:Int)<=1000;decide
 | false =>
  cases (c==2)with
  | true=>show 0<=b.2.2.1[k].2.1/\b.2.2.1[k].2.1<=1000;omega
  | false =>
   cases (c==3)with
   | true=>show 0<=r/\r<=1000;omega
   | false=>show 0<=b.2.2.2.2.2.1[k]/\b.2.2.2.2.2.1[k]<=1000;omega
theorem SR {b:vw} (h:wH b) {e:vD} (he:e∈b.2.2.2.1):(1<=e.1/\e.1<=99)/\(1<=e.2.1/\e.2.1<=9999)/\(0<=e.2.2.1/\e.2.2.1<=7):=by
 obtain⟨k,hk,rfl⟩:=getElem_of_mem he;have hv:=h.f
 unfold AX at hv;simp only[aT,Bool.not_eq_true']at hv;have hx:=any_eq_false.1 hv.1 k (mem_range.2 hk)
 unfold B2 at hx;simp only[List.getElem?_eq_getElem hk,Bool.or_eq_true,Bool.not_eq_true',not_or,Bool.not_eq_false]at hx;have hf:=hx.1
 unfold yn at hf;simp only[aT]at hf;exact⟨G8 hf.1,G8 hf.2.1,G8 hf.2.2.1⟩
theorem P4 {b:vw} (h:wH b):(0<=b.2.2.2.2.2.2.1/\b.2.2.2.2.2.2.1<=1000000)/\(0<=b.2.2.2.2.2.2.2.1/\b.2.2.2.2.2.2.2.1<=1000000)/\(0<=b.2.2.2.2.2.2.2.2.1/\b.2.2.2.2.2.2.2.2.1<=1000000)/\(0<=b.2.2.2.2.2.2.2.2.2.1/\b.2.2.2.2.2.2.2.2.2.1<=1000000)/\(0<=b.2.2.2.2.2.2.2.2.2.2/\b.2.2.2.2.2.2.2.2.2.2<=1000000):=by
 have hc:=h.c;unfold ya at hc;simp only[aT]at hc;exact⟨G8 hc.1,G8 hc.2.1,G8 hc.2.2.1,G8 hc.2.2.2.1,G8 hc.2.2.2.2⟩
theorem Lj {a b:Int} (ha:0<=a/\a<=100000) (hb:0<=b/\b<=100000):Nm [1,3,1,a,b]:=⟨by simp,by simp,λx hx=>by
 simp only[mem_cons,not_mem_nil,or_false]at hx;rcases hx with rfl|rfl|rfl|rfl|rfl
 · decide
 · decide
 · decide
 · exact BD ha.1 ha.2
 · exact BD hb.1 hb.2⟩
theorem Ml {a b c:Int} (ha:0<=a/\a<=100000) (hb:0<=b/\b<=100000) (hc:0<=c/\c<=100000):Nm [1,3,1,a,b,c]:=⟨by simp,by simp,λx hx=>by
 simp only[mem_cons,not_mem_nil,or_false]at hx;rcases hx with rfl|rfl|rfl|rfl|rfl|rfl
 · decide
 · decide
 · decide
 · exact BD ha.1 ha.2
 · exact BD hb.1 hb.2
 · exact BD hc.1 hc.2⟩
theorem SS {a b c d:Int} (ha:0<=a/\a<=100000) (hb:0<=b/\b<=100000) (hc:0<=c/\c<=100000) (hd:0<=d/\d<=100000):Nm [1,3,1,a,b,c,d]:=⟨by simp,by simp,λx hx=>by
 simp only[mem_cons,not_mem_nil,or_false]at hx;rcases hx with rfl|rfl|rfl|rfl|rfl|rfl|rfl
 · decide
 · decide
 · decide
 · exact BD ha.1 ha.2
 · exact BD hb.1 hb.2
 · exact BD hc.1 hc.2
 · exact BD hd.1 hd.2⟩
theorem Cz {b:vw} (h:wH b):∀x∈yI b,Nm x.1/\Vl x.2:=by
 intro x hx;obtain⟨t1,t2,t3,t4,_⟩:=P4 h;have hn6:=h.n6
 unfold yI at hx;simp only[mem_append]at hx;rcases hx with ((hx|hx)|hx)|hx
 · unfold BV at hx;simp only[mem_cons,not_mem_nil,or_false]at hx;have hname:=h.name
   rcases hx with rfl|rfl|rfl|rfl|rfl
   · exact⟨Lj (by decide) (by decide),.word (by omega)⟩
   · exact⟨Lj (by decide) (by decide),.num (GP t1.1 (by omega))⟩
   · exact⟨Lj (by decide) (by decide),.num (GP t2.1 (by omega))⟩
   · exact⟨Lj (by decide) (by decide),.num (GP t3.1 (by omega))⟩
   · exact⟨Lj (by decide) (by decide),.num (GP t4.1 (by omega))⟩
 · obtain⟨c,hc,hx⟩:=mem_flatMap.1 hx;have hc:=mem_range.1 hc
   unfold yL at hx;obtain⟨k,hk,rfl⟩:=mem_map.1 hx;have hk:=mem_range.1 hk
   have hp:=Q8 h ((c+1:Nat):Int) hk;exact⟨Ml (by decide) (by omega) (by omega),.num (GP hp.1 (by omega))⟩
 · obtain⟨c,hc,hx⟩:=mem_flatMap.1 hx;have hc:=mem_range.1 hc
   unfold zL at hx;obtain⟨r,hr,rfl⟩:=mem_map.1 hx;obtain⟨r1,r2,r3⟩:=Mk h hr;refine⟨Ml (by decide) (by omega) (by omega),.num ?_⟩;unfold GM;split
   · decide
   · exact GP r2.1 (by omega)
   · exact GP r3.1 (by omega)
 · unfold EH at hx;obtain⟨e,he,rfl⟩:=mem_map.1 hx;obtain⟨e1,e2,e3⟩:=SR h he;refine⟨SS (by decide) (by decide) (by omega) (by omega),.num ?_⟩;rw[vW (by omega) (by omega)];exact GP (by omega) (by omega)
theorem Mm {b:vw} (h:wH b):(yI b).length=5+4*b.2.2.1.length+3*b.2.2.2.2.1.length+b.2.2.2.1.length:=by
 have hp:∀c,(yL b c).length=b.2.2.1.length:=λc=>by unfold yL;rw[length_map,List.length_range]
 have hr:∀c,(zL b c).length=b.2.2.2.2.1.length:=λc=>by unfold zL;rw[length_map]
 have hf:(EH b).length=b.2.2.2.1.length:=by unfold EH;rw[length_map]
 have k5:(BV b).length=5:=rfl;unfold yI;rw[U6,U7];simp only[length_append,List.length_nil,hp,hr,hf,k5];omega
theorem Lk {b:vw} (h:wH b):(yI b).length<=59:=by
 have h1:=Mm h;have h2:=h.n6
 have h3:b.2.2.2.2.1.length<=6:=h.vt.len.2.2.2;have h4:=h.f12
 omega
theorem V0 {b:vw} (h:wH b) {o:List Int} (ho:o.length<9223372036854775807):∃v,cI b o=some v/\((∃x∈yI b,x.1=o/\v=x.2)\/((∀x∈yI b,x.1≠o)/\v=(128,0,[],[]))):=by
 have hle:=Lk h;obtain⟨v,h1,h2⟩:=vR (step:=λz:Int×Int×Int×List UInt8×List Int=>bK o (yI b) z.1 z.2.1 z.2.2.1 z.2.2.2.1 z.2.2.2.2) (λk z=>z=((k:Int),0,0,[],[])/\∀x∈(yI b).take k,x.1≠o) (yI b).length (λv=>(∃x∈yI b,x.1=o/\v=.inr x.2)\/((∀x∈yI b,x.1≠o)/\∃u,v=.inl u))
  (λk z hk ⟨e,hx⟩=>by
   subst e;have hs:bK o (yI b) (k:Int) 0 0 [] []=cond ((yI b)[k].1==o) (some (.inr (.inr (yI b)[k].2))) (some (.inl (((k+1:Nat):Int),0,0,[],[]))):=by
    unfold bK;rw[wm (by omega),cT,vL hk,an,Cn ho,an,vK (by omega)]
   show (∃y,bK o (yI b) (k:Int) 0 0 [] []=_/\_)\/(∃v,bK o (yI b) (k:Int) 0 0 [] []=_/\_);rw[hs];cases hb:((yI b)[k].1==o)with
   | true=>exact .inr ⟨_,rfl,.inl ⟨_,getElem_mem hk,eq_of_beq hb,rfl⟩⟩
   | false =>
    refine .inl ⟨_,rfl,rfl,λx hx'=>?_⟩;rw[take_add_one,List.getElem?_eq_getElem hk,mem_append]at hx';rcases hx' with hx'|hx'
    · exact hx x hx'
    · simp at hx';subst hx';exact beq_eq_false_iff_ne.1 hb)
  (λz ⟨e,hx⟩=>by
   subst e;rw[take_length]at hx;refine⟨.inl (0,0,[],[]),?_,.inr ⟨hx,_,rfl⟩⟩;show bK o (yI b) _ 0 0 [] []=_
   unfold bK;rw[wg (by omega),cF]) (x:=(0,0,0,[],[])) ⟨rfl,by simp⟩
 unfold cI;rw[Q4 h,an,h1,an];rcases h2 with ⟨x,hx,e,rfl⟩|⟨hx,u,rfl⟩
 · exact⟨_,rfl,.inl ⟨x,hx,e,rfl⟩⟩
 · exact⟨_,rfl,.inr ⟨hx,rfl⟩⟩

theorem Q9 {c:vM} (h:CW c):∃c' o,aM c=some (c',o)/\CW c'/\Nm o:=by
 obtain⟨c0,m,e0,w0,hm⟩:=xK h (n:=6) (by decide);have e0':aa c 6=some (c0,(m:Int)):=e0
 obtain⟨d,hd,g1,g2,g3⟩:=vR (step:=λz:Int×List Int×Int×Int×List Int=>eq z.1 z.2.1 z.2.2.1 z.2.2.2.1 z.2.2.2.2) (λk z=>z.1=((m+1:Nat):Int)-(k:Int)/\CW (z.2.1,z.2.2.1,z.2.2.2.1)/\z.2.2.2.2.length=k/\∀x∈z.2.2.2.2,vE x 0 100000=true) (m+1) (λd=>CW (d.1,d.2.1,d.2.2.1)/\d.2.2.2.length=m+1/\∀x∈d.2.2.2,vE x 0 100000=true)
  (λk z hk ⟨a1,a2,a3,a4⟩=>by
   obtain⟨i,x,y,s,l⟩:=z;simp only at a1 a2 a3 a4;left;show ∃y',eq i x y s l=_/\_
   unfold eq;have hi:decide (i>0)=true:=dT (by omega)
   have hw:vA (i-1)=((m+1:Nat):Int)-((k+1:Nat):Int):=by rw[vW (by omega) (by omega)];omega
   obtain⟨c1,r1,e1,w1,b1⟩:=zK a2 (l:=[0,1,2,3,127,128,16384,100000]) (by decide);have hr:vE r1 0 100000=true:=by
    have:∀x∈([0,1,2,3,127,128,16384,100000]:List Int),vE x 0 100000=true:=by decide
    exact this r1 b1
   rw[hi,cT,e1,an];show ∃y',((vS l [r1]).bind _)=_/\_
   rw[vF (by show l.length+1<=_;omega),an,hw];refine⟨_,rfl,rfl,w1,by show (l++[r1]).length=_;rw[length_append,a3];rfl,λx hx=>?_⟩;have hx:x∈l++[r1]:=hx
   simp at hx;rcases hx with hx|rfl
   · exact a4 x hx
   · exact hr)
  (λz ⟨a1,a2,a3,a4⟩=>by
   obtain⟨i,x,y,s,l⟩:=z;simp only at a1 a2 a3 a4;refine⟨(x,y,s,l),?_,a2,a3,a4⟩;show eq i x y s l=_
   unfold eq;have hi:decide (i>0)=false:=dF (by omega)
   rw[hi,cF]) (x:=(((m+1:Nat):Int),c0.1,c0.2.1,c0.2.2,[])) ⟨by simp,w0,rfl,λx hx=>absurd hx not_mem_nil⟩
 have hw:vA (1+(m:Int))=((m+1:Nat):Int):=by rw[vW (by omega) (by omega)];omega
 unfold aM;rw[e0',an];show ∃c' o,((loop _ (vA (1+(m:Int)),c0.1,c0.2.1,c0.2.2,[])).bind _)=_/\_
 rw[hw,hd,an];exact⟨_,_,rfl,g1,by omega,by omega,g3⟩
theorem Uy {a:Int} (ha:0<=a/\a<=100000):Nm [1,3,1,a]:=⟨by simp,by simp,λx hx=>by
 simp only[mem_cons,not_mem_nil,or_false]at hx;rcases hx with rfl|rfl|rfl|rfl
 · decide
 · decide
 · decide
 · exact BD ha.1 ha.2⟩
theorem Co (l:List Int) (h:l.length<=100):ah l=some ([1,3,1]++l):=by
 unfold ah;rw[vF (by show 3+l.length<=_;omega)];rfl
theorem ND {c:vM} (h:CW c) {b:vw} (hb:wH b):∃c' o,aq c b=some (c',o)/\CW c'/\Nm o:=by
 have hm:5<=(yI b).length:=by rw[Mm hb];omega
 have hle:=Lk hb;unfold aq;rw[HM hb.w,Q4 hb,an,dT (show ((yI b).length:Int)>0 by omega),cT];obtain⟨c1,st,e1,w1⟩:=Hb h 4;rw[e1,an];show ∃c' o,cond (!st) _ _=_/\_
 cases st with
 | false =>
  obtain⟨c2,k,e2,w2,hk⟩:=xK w1 (n:=(yI b).length) (by omega);have hn:=(Cz hb _ (getElem_mem hk)).1
  have h10:=hn.n10;rw[Bool.not_false,cT,e2,an];show ∃c' o,((ix (yI b).length (k:Int)).bind _)=_/\_
  rw[xJ hk,an,List.getElem?_eq_getElem hk,an,vF (by show 0+_<=_;omega),an];exact⟨_,_,rfl,w2,hn⟩
 | true =>
  obtain⟨c2,r,e2,w2,_⟩:=y8 w1 8;rw[Bool.not_true,cF,e2,an];show ∃c' o,cond (r==0) _ (cond (r==1) _ (cond (r==2) _ (cond (r==3) _ (cond (r==4) _ (cond (r==5) _ (cond (r==6) _ _))))))=_/\_
  cases r==0 with
  | true=>exact⟨_,_,rfl,w2,⟨by decide,by decide,by decide⟩⟩
  | false =>
  cases r==1 with
  | true=>exact⟨_,_,rfl,w2,⟨by decide,by decide,by decide⟩⟩
  | false =>
  cases r==2 with
  | true=>rw[Co _ (by decide)];exact⟨_,_,rfl,w2,Ml (by decide) (by decide) (by decide)⟩
  | false =>
  cases r==3 with
  | true =>
   obtain⟨c3,k,e3,w3,hk⟩:=xK w2 (n:=9) (by decide);have e3':aa c2 9=some (c3,(k:Int)):=e3
   show ∃c' o,((aa c2 9).bind _)=_/\_;rw[e3',an,Co _ (by simp),an];refine⟨_,_,rfl,w3,?_⟩;show Nm [1,3,1,3,1,vA (1+(k:Int))]
   rw[vW (by omega) (by omega)];exact Ml (by decide) (by decide) (by omega)
  | false =>
  cases r==4 with
  | true=>rw[Co _ (by decide)];exact⟨_,_,rfl,w2,Lj (by decide) (by decide)⟩
  | false =>
  cases r==5 with
  | true=>rw[Co _ (by decide)];exact⟨_,_,rfl,w2,Uy (by decide)⟩
  | false =>
  cases r==6 with
  | true=>rw[Co _ (by decide)];exact⟨_,_,rfl,w2,SS (by decide) (by decide) (by decide) (by decide)⟩
  | false =>
   obtain⟨c3,o,e3,w3,hn⟩:=Q9 w2;show ∃c' o,((aM c2).bind _)=_/\_
   rw[e3,an];exact⟨_,_,rfl,w3,hn⟩
theorem V1 {l:List vD} (h:FB l):∃y,de l=some y/\FB y:=by
 have hn:=h.n;have hlt:∀i j (hi:i<l.length) (hj:j<l.length),i<j->lt l[i] l[j]:=pairwise_iff_getElem.1 h.o
 obtain⟨d,hd,g1,g2,g3⟩:=vR (step:=λz:Int×List vD=>aY l z.1 z.2)
  (λk z=>z.1=(k:Int)/\(∀x∈z.2,yn x=true)/\z.2.Pairwise lt/\z.2.length<=k/\∀x∈z.2,∀j (hj:j<l.length),k<=j->lt x l[j]) l.length
  (λd=>(∀x∈d,yn x=true)/\d.Pairwise lt/\d.length<=12)
  (λk z hk ⟨e1,e2,e3,e4,e5⟩=>by
   obtain⟨i,b⟩:=z;simp only at e1 e2 e3 e4 e5;subst e1;left;have hf:yn l[k]=true:=h.e _ (getElem_mem hk)
   have hgo:∀y:vD,yn y=true->y.1=l[k].1->y.2.1=l[k].2.1->(∀x∈b++[y],yn x=true)/\(b++[y]).Pairwise lt/\(b++[y]).length<=k+1/\∀x∈b++[y],∀j (hj:j<l.length),k+1<=j->lt x l[j]:=by
    intro y hy q1 q2;refine⟨λx hx=>?_,CX e3 λx hx=>?_,by rw[length_append];show b.length+1<=_;omega,λx hx j hj hkj=>?_⟩
    · rcases mem_append.1 hx with hx|hx
      · exact e2 x hx
      · simp at hx;subst hx;exact hy
    · have:=e5 x hx k hk (Nat.le_refl _);unfold lt at this ⊢;omega
    · rcases mem_append.1 hx with hx|hx
      · exact e5 x hx j hj (by omega)
      · simp at hx;subst hx;have:=hlt k j hk hj (by omega)
        unfold lt at this ⊢;omega
   have ha:∀y:vD,vS b [y]=some (b++[y]):=λy=>vF (by show b.length+1<=_;omega);show ∃y,aY l (k:Int) b=_/\_
   unfold aY;rw[wm (by omega),cT,vL hk,an,ha,ha,an,an,vK (by omega)];cases hs:l[k].2.2.2.2 with
   | true=>exact⟨_,rfl,rfl,hgo _ hf rfl rfl⟩
   | false =>
    rw[cF];by_cases ha4:l[k].2.2.2.1<4
    · rw[wm ha4,cT];refine⟨_,rfl,rfl,hgo _ ?_ rfl rfl⟩;unfold yn at hf ⊢;simp only[aT]at hf;obtain⟨f1,f2,f3,f4,f5⟩:=hf;have f4':=f4
      unfold vE at f4';simp only[aT,decide_eq_true_eq]at f4';show (vE l[k].1 1 99&&(vE l[k].2.1 1 9999&&(vE l[k].2.2.1 0 7&&(vE (vA (l[k].2.2.2.1+1)) 0 4&&(!false||_)))))=true
      rw[f1,f2,f3,vW (by omega) (by omega)];have:vE (l[k].2.2.2.1+1) 0 4=true:=by unfold vE;rw[dT (by omega),dT (by omega)];rfl
      rw[this];rfl
    · rw[wg ha4,cF];exact⟨_,rfl,rfl,e2,e3,by show b.length<=_;omega,λx hx j hj hkj=>e5 x hx j hj (by omega)⟩)
  (λz ⟨e1,e2,e3,e4,e5⟩=>by
   obtain⟨i,b⟩:=z;simp only at e1 e2 e3 e4 e5;subst e1;refine⟨b,?_,e2,e3,by omega⟩;show aY l _ b=_
   unfold aY;rw[wg (by omega),cF]) (x:=(0,[])) ⟨rfl,λx hx=>absurd hx not_mem_nil,List.Pairwise.nil,Nat.le_refl _,λx hx=>absurd hx not_mem_nil⟩
 unfold de;rw[hd,an];exact⟨_,rfl,g1,g2,g3⟩
theorem V2:FB ([]:List vD):=⟨λx hx=>absurd hx not_mem_nil,List.Pairwise.nil,by simp⟩
theorem V3 {c:vM} (h:CW c):∃c' l,gK c=some (c',l)/\CW c'/\FB l:=by
 obtain⟨c0,m,e0,w0,hm⟩:=xK h (n:=10) (by decide);have e0':aa c 10=some (c0,(m:Int)):=e0
 obtain⟨d,hd,g1,g2⟩:=vR (step:=λz:Int×List Int×Int×Int×List vD=>es z.1 z.2.1 z.2.2.1 z.2.2.2.1 z.2.2.2.2) (λk z=>z.1=(m:Int)-(k:Int)/\CW (z.2.1,z.2.2.1,z.2.2.2.1)/\FB z.2.2.2.2) m (λd=>CW (d.1,d.2.1,d.2.2.1)/\FB d.2.2.2)
  (λk z hk ⟨a1,a2,a3⟩=>by
   obtain⟨i,x,y,s,l⟩:=z;simp only at a1 a2 a3;left;show ∃y',es i x y s l=_/\_
   unfold es;have hi:decide (i>0)=true:=dT (by omega)
   have hw:vA (i-1)=(m:Int)-((k+1:Nat):Int):=by rw[vW (by omega) (by omega)];omega
   obtain⟨c1,r1,e1,w1,_⟩:=y8 a2 6;rw[hi,cT,e1,an,hw];show ∃y',cond (r1==0) _ (cond (r1==1) _ _)=_/\_
   cases r1==0 with
   | true =>
    obtain⟨c2,r2,e2,w2,_⟩:=y8 w1 3;obtain⟨c3,r3,e3,w3⟩:=Li w2;obtain⟨c4,r4,e4,w4,_⟩:=y8 w3 4;obtain⟨y',ok,e5,g5⟩:=Mj a3 (vA (1+r2)) r3 r4;rw[cT,e2,an,e3,an,e4,an,e5,an];exact⟨_,rfl,rfl,w4,g5⟩
   | false =>
   cases r1==1 with
   | true =>
    obtain⟨y',e5,g5⟩:=V1 a3;rw[cF,cT,e5,an];exact⟨_,rfl,rfl,w1,g5⟩
   | false =>
    obtain⟨c2,r2,e2,w2,_⟩:=y8 w1 3;obtain⟨c3,r3,e3,w3⟩:=Li w2;obtain⟨c4,r4,e4,w4,_⟩:=y8 w3 3;obtain⟨c5,r5,e5,w5,_⟩:=y8 w4 4;obtain⟨y',e6,g6⟩:=P1 a3 (vA (1+r2)) (vA (r3+r4)) r5;rw[cF,cF,e2,an,e3,an,e4,an,e5,an,e6,an];exact⟨_,rfl,rfl,w5,g6⟩)
  (λz ⟨a1,a2,a3⟩=>by
   obtain⟨i,x,y,s,l⟩:=z;simp only at a1 a2 a3;refine⟨(x,y,s,l),?_,a2,a3⟩;show es i x y s l=_
   unfold es;have hi:decide (i>0)=false:=dF (by omega)
   rw[hi,cF]) (x:=((m:Int),c0.1,c0.2.1,c0.2.2,[])) ⟨by simp,w0,V2⟩
 unfold gK;rw[e0',an];show ∃c' l,((loop _ ((m:Int),c0.1,c0.2.1,c0.2.2,[])).bind _)=_/\_
 rw[hd,an];exact⟨_,_,rfl,g1,g2⟩
theorem V4 {c:vM} (h:CW c):∃c' l,gL c=some (c',l)/\CW c'/\l.length<=100:=by
 obtain⟨c1,l,e1,w1,g1⟩:=V3 h;have hn:=g1.n
 obtain⟨c2,r,e2,w2,_⟩:=y8 w1 12;unfold gL;rw[e1,an];show ∃c' l',((aa c1 12).bind _)=_/\_
 rw[e2,an];show ∃c' l',cond (r==0) _ (cond (r==1) _ _)=_/\_
 cases r==0 with
 | true =>
  obtain⟨c3,x3,e3,w3,_⟩:=zK w2 (l:=[0,1,99,100]) (by decide);obtain⟨c4,x4,e4,w4,_⟩:=zK w3 (l:=[0,1,9999]) (by decide);obtain⟨c5,x5,e5,w5,_⟩:=zK w4 (l:=[(-1),7,8]) (by decide);obtain⟨c6,x6,e6,w6,_⟩:=zK w5 (l:=[(-1),4,5]) (by decide);rw[cT,e3,an,e4,an,e5,an,e6,an];show ∃c' l',((vS l [_]).bind _)=_/\_
  rw[vF (by show l.length+1<=_;omega),an];exact⟨_,_,rfl,w6,by rw[length_append];show l.length+1<=100;omega⟩
 | false =>
 cases r==1 with
 | true =>
  rw[cF,cT];obtain⟨d,hd,g1,g2⟩:=vR (step:=λz:Int×List Int×Int×Int×List vD=>cq z.1 z.2.1 z.2.2.1 z.2.2.2.1 z.2.2.2.2) (λk z=>z.1=(k:Int)/\CW (z.2.1,z.2.2.1,z.2.2.2.1)/\z.2.2.2.2.length<=12+k) 13 (λd=>CW (d.1,d.2.1,d.2.2.1)/\d.2.2.2.length<=100)
   (λk z hk ⟨a1,a2,a3⟩=>by
    obtain⟨i,x,y,s,l⟩:=z;simp only at a1 a2 a3;subst a1;obtain⟨c3,q,e3,w3,hq⟩:=xK a2 (n:=3) (by decide);have e3':aa (x,y,s) 3=some (c3,(q:Int)):=e3
    have hs:cq (k:Int) x y s l=cond (decide ((k:Int)<vA (11+(q:Int)))) (some (.inl (((k+1:Nat):Int),c3.1,c3.2.1,c3.2.2,l++[(50,vA (100+(k:Int)),1,0,false)]))) (some (.inr (c3.1,c3.2.1,c3.2.2,l))):=by
     unfold cq;rw[e3',an,vF (by show l.length+1<=_;omega),an,vK (by omega)]
    show (∃y',cq (k:Int) x y s l=_/\_)\/(∃v,cq (k:Int) x y s l=_/\_);rw[hs];cases decide ((k:Int)<vA (11+(q:Int)))with
    | true=>exact .inl ⟨_,rfl,rfl,w3,by show (l++[_]).length<=_;rw[length_append];show l.length+1<=_;omega⟩
    | false=>exact .inr ⟨_,rfl,w3,by show l.length<=100;omega⟩)
   (λz ⟨a1,a2,a3⟩=>by
    obtain⟨i,x,y,s,l⟩:=z;simp only at a1 a2 a3;subst a1;obtain⟨c3,q,e3,w3,hq⟩:=xK a2 (n:=3) (by decide);have e3':aa (x,y,s) 3=some (c3,(q:Int)):=e3
    refine⟨(c3.1,c3.2.1,c3.2.2,l),?_,w3,by show l.length<=100;omega⟩;show cq ((13:Nat):Int) x y s l=_
    unfold cq;rw[e3',an,vW (n:=11+(q:Int)) (by omega) (by omega),wg (by omega),cF]) (x:=(0,c2.1,c2.2.1,c2.2.2,l)) ⟨rfl,w2,by show l.length<=12+0;omega⟩
  show ∃c' l',((loop _ (0,c2.1,c2.2.1,c2.2.2,l)).bind _)=_/\_;rw[hd,an];exact⟨_,_,rfl,g1,g2⟩
 | false=>exact⟨_,_,rfl,w2,by show l.length<=100;omega⟩
theorem V5 {c:vM} (h:CW c):∃c' v,gI c=some (c',v)/\CW c':=by
 obtain⟨c1,v,e1,w1,_⟩:=Q3 h;obtain⟨c2,r,e2,w2,_⟩:=y8 w1 12;unfold gI;rw[e1,an];show ∃c' l',((aa c1 12).bind _)=_/\_
 rw[e2,an];show ∃c' l',cond (r==0) _ (cond (r==1) _ (cond (r==2) _ (cond (r==3) _ _)))=_/\_
 cases r==0 with
 | true =>
  obtain⟨c3,x3,e3,w3,_⟩:=zK w2 (l:=[0,99,100]) (by decide);rw[cT,e3,an];exact⟨_,_,rfl,w3⟩
 | false =>
 cases r==1 with
 | true =>
  obtain⟨c3,x3,e3,w3,_⟩:=zK w2 (l:=[(-1),99999,100000,100001]) (by decide);rw[cF,cT,e3,an];exact⟨_,_,rfl,w3⟩
 | false =>
 cases r==2 with
 | true =>
  obtain⟨c3,x3,e3,w3,_⟩:=zK w2 (l:=[(-1),11]) (by decide);rw[cF,cF,cT,e3,an];exact⟨_,_,rfl,w3⟩
 | false =>
 cases r==3 with
 | true =>
  obtain⟨c3,x3,e3,w3,_⟩:=zK w2 (l:=[(-1),7,8]) (by decide);rw[cF,cF,cF,cT,e3,an];exact⟨_,_,rfl,w3⟩
 | false=>exact⟨_,_,rfl,w2⟩
theorem ST {c:vM} (h:CW c):∃c' l,gJ c=some (c',l)/\CW c'/\l.length<=100:=by
 obtain⟨c1,p,e1,w1,b1⟩:=xK h (n:=4) (by decide);have e1':aa c 4=some (c1,(p:Int)):=e1
 have hp:vA (1+(p:Int))=((p+1:Nat):Int):=by rw[vW (by omega) (by omega)];omega
 obtain⟨c2,l,e2,w2,l2,_⟩:=P0 w1 (n:=p+1) (by omega);obtain⟨c3,r,e3,w3,_⟩:=y8 w2 12;have h0:0<l.length:=by omega
 have hi:ix l.length 0=some 0:=xJ h0;have hg:l[0]?=some l[0]:=List.getElem?_eq_getElem h0
 unfold gJ;rw[e1',an];show ∃c' l',((cQ c1 (vA (1+(p:Int)))).bind _)=_/\_
 rw[hp,e2,an];show ∃c' l',((aa c2 12).bind _)=_/\_
 rw[e3,an];show ∃c' l',cond (r==0) _ (cond (r==1) _ (cond (r==2) _ _))=_/\_
 cases r==0 with
 | true =>
  obtain⟨c4,v,e4,w4⟩:=V5 w3;rw[cT,e4,an];show ∃c' l',((ix l.length 0).bind _)=_/\_
  rw[hi,an];show ∃c' l',((l[0]?).bind _)=_/\_
  rw[hg,an];exact⟨_,_,rfl,w4,by rw[length_set];show l.length<=100;omega⟩
 | false =>
 cases r==1 with
 | true =>
  obtain⟨c4,x4,e4,w4,_⟩:=zK w3 (l:=[0,1000,1001]) (by decide);rw[cF,cT,e4,an];show ∃c' l',((ix l.length 0).bind _)=_/\_
  rw[hi,an];show ∃c' l',((l[0]?).bind _)=_/\_
  rw[hg,an];exact⟨_,_,rfl,w4,by rw[length_set];show l.length<=100;omega⟩
 | false =>
 cases r==2 with
 | true =>
  rw[cF,cF,cT];show ∃c' l',((ix l.length 0).bind _)=_/\_
  rw[hi,an];show ∃c' l',((l[0]?).bind _)=_/\_
  rw[hg,an];exact⟨_,_,rfl,w3,by rw[length_set];show l.length<=100;omega⟩
 | false=>exact⟨_,_,rfl,w3,by show l.length<=100;omega⟩

structure VS (v:wz) (n:Nat):Prop where
 a:v.1.length<=n
 b:v.2.length<=100
 r:∀r∈v.1,Cm r.2.2
theorem U8 {v:wz} {n:Nat} (hn:n<=1000) (hv:VS v n) {r:vP} (hr:Cm r.2.2):∃y,aL v r=some y/\VS y (2*n+1):=by
 have l4:=hv.a;have l3:=hv.b
 obtain⟨d,h1,h2,h3⟩:=vR (step:=λz:Bool×Int×List vP=>aD v r z.1 z.2.1 z.2.2) (λk z=>z.2.1=(k:Int)/\z.2.2.length<=2*k/\∀x∈z.2.2,Cm x.2.2) v.1.length (λd=>d.2.length<=2*n/\∀x∈d.2,Cm x.2.2)
  (λk z hk ⟨e1,e2,e3⟩=>by
   obtain⟨t,i,b⟩:=z;simp only at e1 e2 e3;subst e1;left;have hvk:Cm v.1[k].2.2:=hv.r _ (getElem_mem hk)
   show ∃y,aD v r t (k:Int) b=_/\_;unfold aD;simp only[wm (show (k:Int)<(v.1.length:Int) by omega),cT,vL hk,an,vK (show k<9223372036854775807 by omega),Int.not_lt];have ha:∀(xs:List vP) (y:vP),xs.length<=10000->vS xs [y]=some (xs++[y]):=λxs y h=>vF (by show xs.length+1<=_;omega)
   have key:∀(tt:Bool),((cond (!t) (some (decide (v.1[k].1>=r.1))) (some false))=some tt->∃y:Bool×Int×List vP,(cond tt ((vS b [r]).bind λzs37=>cond (v.1[k].1 != r.1) ((vS zs37 [v.1[k]]).bind λzs56=>some (.inl (true,((k+1:Nat):Int),zs56))) (some (.inl (true,((k+1:Nat):Int),zs37)))) (cond (v.1[k].1 != r.1) ((vS b [v.1[k]]).bind λzs56_1=>some (.inl (t,((k+1:Nat):Int),zs56_1))) (some (.inl (t,((k+1:Nat):Int),b)))):Option ((Bool×Int×List vP)⊕(Bool×List vP)))=some (.inl y)/\y.2.1=((k+1:Nat):Int)/\y.2.2.length<=2*(k+1)/\∀x∈y.2.2,Cm x.2.2):=by
    intro tt _;cases tt with
    | true =>
     rw[cT,ha b r (by omega),an];cases v.1[k].1 != r.1 with
     | true =>
      rw[cT,ha (b++[r]) _ (by simp;omega),an];refine⟨_,rfl,rfl,by simp;omega,λx hx=>?_⟩;simp at hx;rcases hx with hx|rfl|rfl
      · exact e3 x hx
      · exact hr
      · exact hvk
     | false =>
      refine⟨_,rfl,rfl,by simp;omega,λx hx=>?_⟩;simp at hx;rcases hx with hx|rfl
      · exact e3 x hx
      · exact hr
    | false =>
     rw[cF];cases v.1[k].1 != r.1 with
     | true =>
      rw[cT,ha b _ (by omega),an];refine⟨_,rfl,rfl,by simp;omega,λx hx=>?_⟩;simp at hx;rcases hx with hx|rfl
      · exact e3 x hx
      · exact hvk
     | false=>exact⟨_,rfl,rfl,by show b.length<=_;omega,e3⟩
   cases ht:(cond (!t) (some (decide (v.1[k].1>=r.1))) (some false))with
   | none=>cases t<;>cases ht
   | some tt =>
    rw[an];exact key tt ht)
  (λz ⟨e1,e2,e3⟩=>by
   obtain⟨t,i,b⟩:=z;simp only at e1 e2 e3;subst e1;refine⟨(t,b),?_,by show b.length<=_;omega,e3⟩;show aD v r t _ b=_
   unfold aD;rw[wg (by omega),cF]) (x:=(false,0,[])) ⟨rfl,by simp,λx hx=>absurd hx not_mem_nil⟩
 unfold aL;rw[vF (by show 0+v.2.length<=_;omega),an,h1,an,nil_append];cases d.1 with
 | true=>exact⟨_,rfl,by show d.2.length<=_;omega,l3,h3⟩
 | false =>
  rw[Bool.not_false,cT,vF (by show d.2.length+1<=_;omega),an];refine⟨_,rfl,by show (d.2++[r]).length<=_;simp;omega,l3,λx hx=>?_⟩;have hx:x∈d.2++[r]:=hx
  simp at hx;rcases hx with hx|rfl
  · exact h3 x hx
  · exact hr
theorem U9 {c:vM} (h:CW c):∃c' v n,gM c=some (c',v,n)/\CW c'/\VS v 1000:=by
 obtain⟨c1,p,e1,w1,b1⟩:=xK h (n:=4) (by decide);have e1':aa c 4=some (c1,(p:Int)):=e1
 have hp:vA (1+(p:Int))=((p+1:Nat):Int):=by rw[vW (by omega) (by omega)];omega
 obtain⟨c2,v,e2,w2,hv⟩:=QG w1 (n:=p+1) (by omega) (by omega);obtain⟨l1,l2,l3,l4⟩:=hv.len;obtain⟨c3,r,e3,w3,_⟩:=y8 w2 12;unfold gM;rw[e1',an];show ∃c' v' n',((cR c1 (vA (1+(p:Int)))).bind _)=_/\_
 rw[hp,e2,an];show ∃c' v' n',((aa c2 12).bind _)=_/\_
 rw[e3,an];show ∃c' v' n',cond (r==0) _ (cond (r==1) _ (cond (r==2) _ (cond (r==3) _ _)))=_/\_
 cases r==0 with
 | true =>
  obtain⟨c4,x4,e4,w4,_⟩:=zK w3 (l:=[0,1,9,100]) (by decide);obtain⟨c5,x5,e5,w5,_⟩:=zK w4 (l:=[(-1),0,1,64]) (by decide);obtain⟨c6,k6,e6,w6,b6⟩:=xK w5 (n:=3) (by decide);have e6':aa c5 3=some (c6,(k6:Int)):=e6
  rw[cT,e4,an,e5,an];show ∃c' v' n',((aa c5 3).bind _)=_/\_
  rw[e6',an];show ∃c' v' n',((vS v.1 [_]).bind _)=_/\_
  rw[vF (by show v.1.length+1<=_;omega),an];refine⟨_,_,_,rfl,w6,by show (v.1++[_]).length<=_;rw[length_append];show v.1.length+1<=_;omega,by show v.2.length<=_;omega,λx hx=>?_⟩;have hx:x∈v.1++[(x4,x5,(k6:Int))]:=hx
  simp at hx;rcases hx with hx|rfl
  · exact hv.r x hx
  · show Cm (k6:Int);exact⟨by omega,by omega⟩
 | false =>
 cases r==1 with
 | true =>
  obtain⟨c4,x4,e4,w4,_⟩:=zK w3 (l:=[0,7]) (by decide);have h0:0<v.2.length:=by omega
  rw[cF,cT,e4,an];show ∃c' v' n',((ix v.2.length 0).bind _)=_/\_
  rw[show ix v.2.length 0=some 0 from xJ h0,an];show ∃c' v' n',((v.2[0]?).bind _)=_/\_
  rw[List.getElem?_eq_getElem h0,an];exact⟨_,_,_,rfl,w4,by show v.1.length<=_;omega,by show (v.2.set 0 x4).length<=_;rw[length_set];omega,hv.r⟩
 | false =>
 cases r==2 with
 | true =>
  obtain⟨c4,x4,e4,w4,_⟩:=zK w3 (l:=[0,6,7]) (by decide);rw[cF,cF,cT,e4,an];exact⟨_,_,_,rfl,w4,by show v.1.length<=_;omega,by show v.2.length<=_;omega,hv.r⟩
 | false =>
 cases r==3 with
 | true =>
  rw[cF,cF,cF,cT];have hpow:∀k,k<=6->8*2^k<=512:=by
   intro k hk;have:2^k<=2^6:=Nat.pow_le_pow_right (by decide) hk
   omega
  obtain⟨d,hd,hv2⟩:=vR (step:=λz:Int×List vP×List Int=>eu z.1 z.2.1 z.2.2) (λk z=>z.1=(k:Int)/\VS z.2 (8*2^k-1)) 6 (λd=>VS d 1000)
   (λk z hk ⟨a1,a2⟩=>by
    obtain⟨i,rows,qs⟩:=z;simp only at a1 a2;subst a1;left;have hk':=hpow k (by omega)
    obtain⟨y,hy,hy2⟩:=U8 (by omega) a2 (r:=(vA (10+(k:Int)),0,0)) ⟨by show (-9223372036854775808:Int)<=0;decide,by show (0:Int)<=9223372036854775807;decide⟩;refine⟨(((k+1:Nat):Int),y),?_,rfl,?_⟩
    · show eu (k:Int) rows qs=_;unfold eu;rw[wm (by omega),cT,hy,an,vK (by omega)]
    · have e:2*(8*2^k-1)+1=8*2^(k+1)-1:=by
       have:1<=2^k:=Nat.one_le_two_pow;rw[Nat.pow_succ];omega
      rw[←e];exact hy2)
   (λz ⟨a1,a2⟩=>by
    obtain⟨i,rows,qs⟩:=z;simp only at a1 a2;subst a1;refine⟨(rows,qs),?_,Nat.le_trans a2.a (by decide),a2.b,a2.r⟩;show eu ((6:Nat):Int) rows qs=_
    unfold eu;rw[wg (by omega),cF]) (x:=(0,v.1,v.2)) ⟨rfl,by show v.1.length<=8*2^0-1;omega,by show v.2.length<=_;omega,hv.r⟩
  show ∃c' v' n',((loop _ (0,v.1,v.2)).bind _)=_/\_;rw[hd,an];exact⟨_,_,_,rfl,w3,hv2⟩
 | false=>exact⟨_,_,_,rfl,w3,by show v.1.length<=_;omega,by show v.2.length<=_;omega,hv.r⟩
theorem Ua {c:vM} (h:CW c) {b:vw} (hb:yb b):∃c' o,aq c b=some (c',o)/\CW c'/\Nm o:=by
 cases hp:wq b with
 | true=>exact ND h (BK hb hp)
 | false =>
  unfold aq;rw[SE hb,hp,Bool.not_false,cT,an];show ∃c' o,cond (decide ((0:Int)>0)) _ _=_/\_
  rw[show decide ((0:Int)>0)=false from rfl,cF];obtain⟨c2,r,e2,w2,_⟩:=y8 h 8;rw[e2,an];show ∃c' o,cond (r==0) _ (cond (r==1) _ (cond (r==2) _ (cond (r==3) _ (cond (r==4) _ (cond (r==5) _ (cond (r==6) _ _))))))=_/\_
  cases r==0 with
  | true=>exact⟨_,_,rfl,w2,⟨by decide,by decide,by decide⟩⟩
  | false =>
  cases r==1 with
  | true=>exact⟨_,_,rfl,w2,⟨by decide,by decide,by decide⟩⟩
  | false =>
  cases r==2 with
  | true=>rw[Co _ (by decide)];exact⟨_,_,rfl,w2,Ml (by decide) (by decide) (by decide)⟩
  | false =>
  cases r==3 with
  | true =>
   obtain⟨c3,k,e3,w3,hk⟩:=xK w2 (n:=9) (by decide);have e3':aa c2 9=some (c3,(k:Int)):=e3
   show ∃c' o,((aa c2 9).bind _)=_/\_;rw[e3',an,Co _ (by simp),an];refine⟨_,_,rfl,w3,?_⟩;show Nm [1,3,1,3,1,vA (1+(k:Int))]
   rw[vW (by omega) (by omega)];exact Ml (by decide) (by decide) (by omega)
  | false =>
  cases r==4 with
  | true=>rw[Co _ (by decide)];exact⟨_,_,rfl,w2,Lj (by decide) (by decide)⟩
  | false =>
  cases r==5 with
  | true=>rw[Co _ (by decide)];exact⟨_,_,rfl,w2,Uy (by decide)⟩
  | false =>
  cases r==6 with
  | true=>rw[Co _ (by decide)];exact⟨_,_,rfl,w2,SS (by decide) (by decide) (by decide) (by decide)⟩
  | false =>
   obtain⟨c3,o,e3,w3,hn⟩:=Q9 w2;show ∃c' o,((aM c2).bind _)=_/\_
   rw[e3,an];exact⟨_,_,rfl,w3,hn⟩

structure At (m:List vB) (o:List Int) (j:Nat):Prop where
 le:j<=m.length
 no:∀i (hi:i<m.length),i<j->¬o<m[i].1
 yes:∀i (hi:i<m.length),j<=i->o<m[i].1
theorem Ub {m:List vB} (hp:m.Pairwise λx y=>x.1<y.1) (o:List Int):∃j,At m o j:=by
 have hp:=pairwise_iff_getElem.1 hp;have key:∀n,n<=m.length->(∀i (hi:i<m.length),i<n->¬o<m[i].1)\/∃j,At m o j:=by
  intro n
  induction n with
  | zero=>exact λ_=>.inl λi hi h=>by omega
  | succ n ih =>
   intro hn;rcases ih (by omega)with h|h
   · by_cases hlt:o<m[n].1
     · refine .inr ⟨n,by omega,h,λi hi hni=>?_⟩;by_cases e:i=n
       · subst e;exact hlt
       · exact List.lt_trans hlt (hp n i (by omega) hi (by omega))
     · refine .inl λi hi hin=>?_;by_cases e:i=n
       · subst e;exact hlt
       · exact h i hi (by omega)
   · exact .inr h
 rcases key m.length (Nat.le_refl _)with h|h
 · exact⟨m.length,Nat.le_refl _,λi hi _=>h i hi hi,λi hi h=>by omega⟩
 · exact h
theorem Uc {b:vw} (h:wH b) {o:List Int} (ho:o.length<=1000) {j:Nat} (hj:At (yI b) o j):bL b o=some (if h:j<(yI b).length then (yI b)[j]else (o,130,0,[],[])):=by
 have hle:=Lk h;have hjl:=hj.le
 obtain⟨v,h1,h2⟩:=vR (step:=λz:Int×Int×Int×List UInt8×List Int×List Int=>cJ o (yI b) z.1 z.2.1 z.2.2.1 z.2.2.2.1 z.2.2.2.2.1 z.2.2.2.2.2) (λk z=>z=((k:Int),0,0,[],[],[])) j (λv=>if h:j<(yI b).length then v=.inr (yI b)[j]else ∃u,v=.inl u)
  (λk z hk e=>by
   subst e;have hkl:k<(yI b).length:=by omega
   have hn:=(Cz h _ (getElem_mem hkl)).1.n10;refine .inl ⟨(((k+1:Nat):Int),0,0,[],[],[]),?_,rfl⟩;show cJ o (yI b) (k:Int) 0 0 [] [] []=_
   unfold cJ;rw[wm (by omega),cT,vL hkl,an,QH (by omega),dF (hj.no k hkl hk),an,cF,vK (by omega)])
  (λz e=>by
   subst e;show ∃v,cJ o (yI b) (j:Int) 0 0 [] [] []=_/\_
   unfold cJ;by_cases hjn:j<(yI b).length
   · have hn:=(Cz h _ (getElem_mem hjn)).1.n10;rw[wm (by omega),cT,vL hjn,an,QH (by omega),dT (hj.yes j hjn (Nat.le_refl _)),an,cT];exact⟨_,rfl,by rw[dif_pos hjn]⟩
   · rw[wg (by omega),cF];exact⟨_,rfl,by rw[dif_neg hjn];exact⟨_,rfl⟩⟩) (x:=(0,0,0,[],[],[])) rfl
 unfold bL;rw[Q4 h,an,h1,an];by_cases hjn:j<(yI b).length
 · rw[dif_pos hjn]at h2;rw[dif_pos hjn,h2];rfl
 · rw[dif_neg hjn]at h2;obtain⟨u,rfl⟩:=h2;rw[dif_neg hjn];show ((br o).bind _)=_
   unfold br;rw[vF (by show 0+o.length<=_;omega)];rfl
theorem yS {α:Type} {ys:List α} (h:ys.length<=M):vS [] ys=some ys:=by
 unfold vS;rw[if_pos (by show 0+ys.length<=4294967296;have h':ys.length<=1048576:=h;omega)];rfl
theorem FT {l:List Int} (h:l.length<=M):br l=some l:=by unfold br;rw[yS h];rfl
theorem Bh {l:List Int} (h:l.length<=M):bH l=some l:=by unfold bH;rw[yS h];rfl
theorem CA {l:List vD} (h:l.length<=M):cz l=some l:=by unfold cz;rw[yS h];rfl
theorem Ll {l:List vD} (h:l.length<=M):co l=some l:=by unfold co;rw[yS h];rfl
theorem HQ {v:wz} (h:v.1.length<=M/\v.2.length<=M):eT v=some v:=by
 unfold eT;rw[yS h.1,an,FT h.2];rfl
theorem P5 {v:wz} (h:v.1.length<=M/\v.2.length<=M):aU v=some v:=by
 unfold aU;rw[yS h.1,an,yS h.2];rfl
theorem x7 {b:vw} (h:z7 M b):al b=some b:=by
 obtain⟨h1,h2,h3,h4,h5⟩:=h;unfold al;rw[yS h2,an,CA h3,an,HQ ⟨h4,h5⟩];rfl
theorem xe {b:vw} (h:z7 M b):ak b=some b:=by
 obtain⟨h1,h2,h3,h4,h5⟩:=h;unfold ak;rw[yS h2,an,Ll h3,an,P5 ⟨h4,h5⟩];rfl
def J8 (o:List Int) (k:Nat):Bool:=match o[k]? with|some x=>!(vE x 0 100000)|none=>false
def z9 (o:List Int):Bool:=!((List.range o.length).any (J8 o))&&vE (o.length:Int) 1 10
theorem FU {o:List Int} (h:o.length<9223372036854775807):ao o=some (z9 o):=by
 unfold ao z9;have e:loop (λz=>aZ o z) 0=some (cond ((List.range o.length).any (J8 o)) (Sum.inr false) (Sum.inl ())):=by
  rw[←zC (n:=o.length) (c:=λi=>(at? o i).bind λx=>(ac x 0 100000).bind λt=>some (!t)) (b:=J8 o) h (λk hk=>by
   simp only[vL hk,an,J8,List.getElem?_eq_getElem hk,yB])]
  refine yr (λi=>?_) 0;unfold aZ;simp only[Option.bind_assoc,an]
 rw[e,an];cases (List.range o.length).any (J8 o)with
 | true=>rfl
 | false=>simp only[cF,Sum.elim_inl,yB,an,Bool.not_false,Bool.true_and]
theorem Lm:bO=ao:=rfl
theorem QI (n:Int):∃c,aw n=some c/\(c==n)=vE n (-2147483648) 2147483647:=by
 unfold aw vE;by_cases h1:n>2147483647
 · refine⟨_,by rw[dT h1];rfl,?_⟩;rw[dF (show ¬n<=2147483647 by omega),Bool.and_false];exact beq_eq_false_iff_ne.2 (by omega)
 · by_cases h2:n < -2147483648
   · refine⟨_,by rw[dF h1,dT h2];rfl,?_⟩;rw[dF (show ¬n >= -2147483648 by omega),Bool.false_and];exact beq_eq_false_iff_ne.2 (by omega)
   · refine⟨_,by rw[dF h1,dF h2];rfl,?_⟩;rw[dT (show n >= -2147483648 by omega),dT (show n<=2147483647 by omega),beq_self_eq_true];rfl
theorem RE (l:List Int):aA l []=some ((l.length:Int)==0):=by
 cases l with
 | nil=>exact Oo (n:=0) (KM (a:=[]) (by decide))
 | cons x l =>
  unfold aA;have e:(((x::l).length:Int) != (([]:List Int).length:Int))=true:=by simp;omega
  rw[e,cT,beq_eq_false_iff_ne.2 (by simp;omega)]
theorem Qa {l:List Int} (h:l.length<=M):aA l l=some true:=Oo (KM (UM h))
def zp (v:zj):Bool :=
 cond (v.1==5||(v.1==128||v.1==130)) (v.2.1==0&&(v.2.2.1==[]&&((v.2.2.2.length:Int)==0)))
  (cond (v.1==2) (vE v.2.1 (-2147483648) 2147483647&&(v.2.2.1==[]&&((v.2.2.2.length:Int)==0)))
   (cond (v.1==4) (decide ((v.2.2.1.length:Int)<=20)&&(v.2.1==0&&((v.2.2.2.length:Int)==0)))
    (cond (v.1==6) (z9 v.2.2.2&&(v.2.1==0&&(v.2.2.1==[]))) false)))
theorem HR {v:zj} (h:v.2.2.2.length<=M):ap v=some (zp v):=by
 obtain⟨k,n,s,o⟩:=v;have h':o.length<=1048576:=h
 have ho:o.length<=M:=h;have hb:o.length<9223372036854775807:=by omega
 unfold ap zp aJ aF;simp only[yB,RE,Qa ho,FU hb,an];by_cases h2:k=2
 · subst h2;cases vE n (-2147483648) 2147483647<;>cases s==[]<;>cases (o.length:Int)==0<;>simp
 by_cases h4:k=4
 · subst h4;cases decide ((s.length:Int)<=20)<;>cases n==0<;>cases (o.length:Int)==0<;>simp
 by_cases h6:k=6
 · subst h6;cases z9 o<;>cases n==0<;>cases s==[]<;>simp
 rw[beq_eq_false_iff_ne.2 h2,beq_eq_false_iff_ne.2 h4,beq_eq_false_iff_ne.2 h6];by_cases h5:k=5
 · subst h5;cases n==0<;>cases s==[]<;>cases (o.length:Int)==0<;>simp
 by_cases h128:k=128
 · subst h128;cases n==0<;>cases s==[]<;>cases (o.length:Int)==0<;>simp
 by_cases h130:k=130
 · subst h130;cases n==0<;>cases s==[]<;>cases (o.length:Int)==0<;>simp
 rw[beq_eq_false_iff_ne.2 h5,beq_eq_false_iff_ne.2 h128,beq_eq_false_iff_ne.2 h130];rfl
theorem J9 {v:zj} (h:v.2.2.2.length<=M):bB v=some (zp v):=by
 obtain⟨k,n,s,o⟩:=v;have h':o.length<=1048576:=h
 have hb:o.length<9223372036854775807:=by omega
 obtain⟨c,hc,hc2⟩:=QI n;unfold bB zp;simp only[Lm,FU hb,hc,hc2,an];by_cases h5:k=5
 · subst h5;cases n==0<;>cases s==[]<;>cases (o.length:Int)==0<;>simp
 by_cases h128:k=128
 · subst h128;cases n==0<;>cases s==[]<;>cases (o.length:Int)==0<;>simp
 by_cases h130:k=130
 · subst h130;cases n==0<;>cases s==[]<;>cases (o.length:Int)==0<;>simp
 rw[beq_eq_false_iff_ne.2 h5,beq_eq_false_iff_ne.2 h128,beq_eq_false_iff_ne.2 h130];by_cases h2:k=2
 · subst h2;cases vE n (-2147483648) 2147483647<;>cases s==[]<;>cases (o.length:Int)==0<;>simp
 by_cases h4:k=4
 · subst h4;cases decide ((s.length:Int)<=20)<;>cases n==0<;>cases (o.length:Int)==0<;>simp
 by_cases h6:k=6
 · subst h6;cases z9 o<;>cases n==0<;>cases s==[]<;>simp
 rw[beq_eq_false_iff_ne.2 h2,beq_eq_false_iff_ne.2 h4,beq_eq_false_iff_ne.2 h6];rfl
def zE (x:vB):Bool:=z9 x.1&&zp x.2
def bX (l:List vB) (k:Nat):Bool:=match l[k]? with|some x=>!(zE x)|none=>false
def xG (p:wd):Bool :=
 (!((List.range p.2.2.2.2.length).any (bX p.2.2.2.2))&&decide ((p.2.2.2.2.length:Int)<=10)) &&
 (cond (p.1==162||p.1==165) (vE p.2.2.1 0 1000&&vE p.2.2.2.1 0 1000)
  (cond (p.1==160||(p.1==161||p.1==163)) (p.2.2.1==0&&p.2.2.2.1==0) false)&&vE p.2.1 (-2147483648) 2147483647)
theorem SU {n:Nat} {f g:Nat->Bool}:(List.range n).any (λk=>f k||g k)=((List.range n).any f||(List.range n).any g):=by
 generalize List.range n=l
 induction l with
 | nil=>rfl
 | cons a l ih=>simp only[List.any_cons,ih];cases f a<;>cases g a<;>simp
theorem RF (n:Nat):(List.range n).any (λk=>decide ((k:Int)>=10))=!(decide ((n:Int)<=10)):=by
 by_cases h:(n:Int)<=10
 · rw[dT h];refine Bool.eq_false_iff.2 λha=>?_;obtain⟨k,h1,h2⟩:=any_eq_true.1 ha;have:=mem_range.1 h1
   have:=of_decide_eq_true h2;omega
 · rw[dF h];exact any_eq_true.2 ⟨10,mem_range.2 (by omega),by decide⟩
theorem Qc {p:wd} (h:yj M p):loop (λz=>iO p z) 0=some (cond (!(decide ((p.2.2.2.2.length:Int)<=10))||(List.range p.2.2.2.2.length).any (bX p.2.2.2.2)) (Sum.inr false) (Sum.inl ())):=by
 obtain⟨k,i,e,x,l⟩:=p;have h':D9 M l:=h
 have hl:l.length<=1048576:=h'.1;show loop (λz=>iO (k,i,e,x,l) z) 0=some (cond (!(decide ((l.length:Int)<=10))||(List.range l.length).any (bX l)) (Sum.inr false) (Sum.inl ()))
 rw[←RF,←SU,←zC (n:=l.length) (c:=λi=>(at? l i).bind λx=>(cond (decide (i>=10)) (some true) ((ao x.1).bind λt=>some (!t))).bind λt=>(cond t (some true) ((ap x.2).bind λt=>some (!t)))) (b:=λk=>decide ((k:Int)>=10)||bX l k) (by omega) (λk hk=>by
  have hx:GL M l[k]:=h'.2 _ (getElem_mem hk);have h1:l[k].1.length<=1048576:=hx.1
  have h2:l[k].2.2.2.2.length<=M:=hx.2.2;simp only[vL hk,an,bX,List.getElem?_eq_getElem hk,FU (show l[k].1.length<9223372036854775807 by omega),HR (v:=l[k].2) h2,zE];cases decide ((k:Int)>=10)<;>cases z9 l[k].1<;>cases zp l[k].2<;>rfl)]
 refine yr (λi=>?_) 0;unfold iO;simp only[Option.bind_assoc,an]
theorem P6 {p:wd} (h:yj M p):loop (λz=>gE p z) 0=some (cond ((List.range p.2.2.2.2.length).any (bX p.2.2.2.2)) (Sum.inr false) (Sum.inl ())):=by
 obtain⟨k,i,e,x,l⟩:=p;have h':D9 M l:=h
 have hl:l.length<=1048576:=h'.1;show loop (λz=>gE (k,i,e,x,l) z) 0=some (cond ((List.range l.length).any (bX l)) (Sum.inr false) (Sum.inl ()))
 rw[←zC (n:=l.length) (c:=λi=>(at? l i).bind λx=>(bO x.1).bind λt=>(cond (!t) (some true) ((at? l i).bind λx=>(bB x.2).bind λt=>some (!t)))) (b:=bX l) (by omega) (λk hk=>by
  have hx:GL M l[k]:=h'.2 _ (getElem_mem hk);have h1:l[k].1.length<=1048576:=hx.1
  have h2:l[k].2.2.2.2.length<=M:=hx.2.2;simp only[vL hk,an,bX,List.getElem?_eq_getElem hk,Lm,FU (show l[k].1.length<9223372036854775807 by omega),J9 (v:=l[k].2) h2,zE];cases z9 l[k].1<;>cases zp l[k].2<;>rfl)]
 refine yr (λi=>?_) 0;unfold gE;simp only[Option.bind_assoc,an]
theorem Qd {p:wd} (h:yj M p):dD p=some (xG p):=by
 have e0:=Qc h;have e1:loop (λz=>nU p z) 0=_:=e0
 have e2:loop (λz=>nV p z) 0=_:=e0;have e3:loop (λz=>nW p z) 0=_:=e0
 have e4:loop (λz=>nX p z) 0=_:=e0;have e5:loop (λz=>nY p z) 0=_:=e0
 have e6:loop (λz=>nZ p z) 0=_:=e0;have e7:loop (λz=>o4 p z) 0=_:=e0
 have e8:loop (λz=>o5 p z) 0=_:=e0;unfold dD xG aF;rw[e0,e1,e2,e3,e4,e5,e6,e7,e8];simp only[yB,an];generalize (List.range p.2.2.2.2.length).any (bX p.2.2.2.2)=u;generalize decide ((p.2.2.2.2.length:Int)<=10)=w;generalize vE p.2.1 (-2147483648) 2147483647=x;generalize p.2.2.1=e;generalize p.2.2.2.1=i;generalize p.1=k;by_cases h0:k=160
 · subst h0;have b1:(e != 0)=!(e==0):=rfl
   have b2:(i != 0)=!(i==0):=rfl;rw[b1,b2];cases e==0<;>cases i==0<;>cases u<;>cases w<;>cases x<;>rfl
 by_cases h1:k=161
 · subst h1;have b1:(e != 0)=!(e==0):=rfl
   have b2:(i != 0)=!(i==0):=rfl;rw[b1,b2];cases e==0<;>cases i==0<;>cases u<;>cases w<;>cases x<;>rfl
 by_cases h3:k=163
 · subst h3;have b1:(e != 0)=!(e==0):=rfl
   have b2:(i != 0)=!(i==0):=rfl;rw[b1,b2];cases e==0<;>cases i==0<;>cases u<;>cases w<;>cases x<;>rfl
 by_cases h2:k=162
 · subst h2;cases vE e 0 1000<;>cases vE i 0 1000<;>cases u<;>cases w<;>cases x<;>rfl
 by_cases h5:k=165
 · subst h5;cases vE e 0 1000<;>cases vE i 0 1000<;>cases u<;>cases w<;>cases x<;>rfl
 rw[beq_eq_false_iff_ne.2 h0,beq_eq_false_iff_ne.2 h1,beq_eq_false_iff_ne.2 h2,beq_eq_false_iff_ne.2 h3,beq_eq_false_iff_ne.2 h5];cases u<;>cases w<;>rfl
theorem NE {p:wd} (h:yj M p):bP p=some (xG p):=by
 obtain⟨c,hc,hc2⟩:=QI p.2.1;unfold bP xG jc;rw[P6 h];simp only[AG,hc,hc2,an];generalize (List.range p.2.2.2.2.length).any (bX p.2.2.2.2)=u;generalize decide ((p.2.2.2.2.length:Int)<=10)=w;generalize vE p.2.1 (-2147483648) 2147483647=x;generalize p.2.2.1=e;generalize p.2.2.2.1=i;generalize p.1=k;have b1:(e != 0)=!(e==0):=rfl
 have b2:(i != 0)=!(i==0):=rfl;rw[b1,b2];have z1:(e==0)=true->vE e 0 1000=true:=λh=>by rw[eq_of_beq h];rfl
 have z2:(i==0)=true->vE i 0 1000=true:=λh=>by rw[eq_of_beq h];rfl
 by_cases h2:k=162
 · subst h2;cases vE e 0 1000<;>cases vE i 0 1000<;>cases u<;>cases w<;>cases x<;>rfl
 by_cases h5:k=165
 · subst h5;cases vE e 0 1000<;>cases vE i 0 1000<;>cases u<;>cases w<;>cases x<;>rfl
 have n2:(k != 162)=true:=bne_iff_ne.2 h2;have n5:(k != 165)=true:=bne_iff_ne.2 h5
 rw[n2,n5,beq_eq_false_iff_ne.2 h2,beq_eq_false_iff_ne.2 h5];cases he:e==0 with
 | false=>cases hi:i==0<;>cases u<;>cases w<;>cases x<;>cases k==160<;>cases k==161<;>cases k==163<;>rfl
 | true =>
  rw[z1 he];cases hi:i==0 with
  | false=>cases u<;>cases w<;>cases x<;>cases k==160<;>cases k==161<;>cases k==163<;>rfl
  | true =>
   rw[z2 hi];cases u<;>cases w<;>cases x<;>cases k==160<;>cases k==161<;>cases k==163<;>rfl
def wv (j:wM):Int:=j.2.2.2.2.2.2.2.2.2.2.2.2.2.2.2.2.2.2.2.2
def zq (j:wM):Int:=j.2.2.2.2.2.2.2.2.2.2.2.2.2.2.2.2.2.2.2.1
noncomputable def BW (j:wM):Bool:=vE j.2.2.1 0 2&&(vE (zq j) 0 (j.2.2.2.2.2.2.2.1.length:Int)&&(vE (wv j) 0 3&&(j.2.2.1==0||(xG (jP j)&&((j.2.2.2.1 != 162)&&wq (jB j))))))
structure Mn (j:wM):Prop where
 p:yj M (jP j)
 b:yb (jB j)
theorem V6 {j:wM} (h:Mn j):fZ j=some (BW j):=by
 have hp:dD (j.2.2.2.1,j.2.2.2.2.1,j.2.2.2.2.2.1,j.2.2.2.2.2.2.1,j.2.2.2.2.2.2.2.1)=some (xG (jP j)):=Qd h.p;have hb:=Az h.b
 unfold jB at hb;unfold fZ BW;rw[hp,hb];simp only[yB,an,zq,wv];cases vE j.2.2.1 0 2<;>cases vE j.2.2.2.2.2.2.2.2.2.2.2.2.2.2.2.2.2.2.2.1 0 (j.2.2.2.2.2.2.2.1.length:Int)<;>cases vE j.2.2.2.2.2.2.2.2.2.2.2.2.2.2.2.2.2.2.2.2 0 3<;>cases j.2.2.1==0<;>cases xG (jP j)<;>cases j.2.2.2.1 != 162<;>rfl
theorem V7 {j:wM} (h:Mn j) (last:Int):fp j last=some (vE j.1 1 last&&BW j):=by
 have hp:bP (j.2.2.2.1,j.2.2.2.2.1,j.2.2.2.2.2.1,j.2.2.2.2.2.2.1,j.2.2.2.2.2.2.2.1)=some (xG (jP j)):=NE h.p;have hb:=Bx h.b
 unfold jB at hb;unfold fp jd BW;rw[hp,hb];simp only[AG,an,zq,wv];cases vE j.1 1 last<;>cases vE j.2.2.1 0 2<;>cases vE j.2.2.2.2.2.2.2.2.2.2.2.2.2.2.2.2.2.2.2.1 0 (j.2.2.2.2.2.2.2.1.length:Int)<;>cases vE j.2.2.2.2.2.2.2.2.2.2.2.2.2.2.2.2.2.2.2.2 0 3<;>cases j.2.2.1==0<;>cases xG (jP j)<;>cases j.2.2.2.1 != 162<;>rfl
def vC (a:vO):List wM:=a.2.2.2.2.2.2.2.2.2.2.2.2.1
def we (a:vO):Int:=a.2.2.2.2.2.2.2.2.2.2.2.2.2.2
def wS (a:vO):Int:=a.2.2.2.2.2.2.2.2.2.2.2.2.2.1
noncomputable def EI (l:List wM) (last:Int) (k:Nat):Bool:=match l[k]? with
 | some j=>!(vE j.1 1 last&&BW j)||(decide (0<k)&&(match l[k-1]? with|some p=>decide (p.1>=j.1)|none=>false))
 | none=>false
noncomputable def yt (a:vO):Bool:=!((List.range (vC a).length).any (EI (vC a) (we a)))&&(wq (aB a)&&(decide ((a.2.2.2.2.2.2.2.2.2.2.2.1.length:Int)<=20)&&(decide (((vC a).length:Int)<=6)&&(vE (wS a) 0 1000000&&vE (we a) 0 1000000))))
structure IM (a:vO):Prop where
 b:yb (aB a)
 n:(vC a).length<=1048576
 j:∀x∈vC a,Mn x
theorem NF {a:vO} (h:IM a):loop (λz=>jH a z) 0=some (cond ((List.range (vC a).length).any (EI (vC a) (we a))) (Sum.inr false) (Sum.inl ())):=by
 have hn:=h.n;rw[←zC (n:=(vC a).length) (c:=λi=>(at? (vC a) i).bind λx=>(ac x.1 1 (we a)).bind λt=>(cond (!t) (some true) ((cond (decide (i>0)) ((at? (vC a) (vA (i-1))).bind λy=>some (decide (y.1>=x.1))) (some false)).bind λt=>some t)).bind λt=>(cond t (some true) ((fZ x).bind λt=>some (!t))).bind λt=>some t) (b:=EI (vC a) (we a)) (by omega) (λk hk=>by
  simp only[vL hk,an,yB,V6 (h.j _ (getElem_mem hk)),EI,List.getElem?_eq_getElem hk];by_cases h0:0<k
  · have hd:decide ((k:Int)>0)=true:=dT (by omega);simp only[hd,DB hk h0 (by omega),an,dT h0,List.getElem?_eq_getElem (show k-1<(vC a).length by omega),cT];cases vE (vC a)[k].1 1 (we a)<;>cases decide ((vC a)[k-1].1>=(vC a)[k].1)<;>cases BW (vC a)[k]<;>rfl
  · have hd:decide ((k:Int)>0)=false:=dF (by omega);simp only[hd,dF h0];cases vE (vC a)[k].1 1 (we a)<;>cases BW (vC a)[k]<;>rfl)]
 refine yr (λi=>?_) 0;unfold jH vC we;simp only[Option.bind_assoc,an]
theorem LQ {a:vO} (h:IM a):loop (λz=>je a z) 0=some (cond ((List.range (vC a).length).any (EI (vC a) (we a))) (Sum.inr false) (Sum.inl ())):=by
 have hn:=h.n;rw[←zC (n:=(vC a).length) (c:=λi=>(at? (vC a) i).bind λx=>(fp x (we a)).bind λt=>(cond (!t) (some true) ((cond (decide (i>0)) ((at? (vC a) (vA (i-1))).bind λy=>(at? (vC a) i).bind λx=>some (decide (y.1>=x.1))) (some false)).bind λt=>some t))) (b:=EI (vC a) (we a)) (by omega) (λk hk=>by
  simp only[vL hk,an,V7 (h.j _ (getElem_mem hk)),EI,List.getElem?_eq_getElem hk];by_cases h0:0<k
  · have hd:decide ((k:Int)>0)=true:=dT (by omega);simp only[hd,DB hk h0 (by omega),an,dT h0,List.getElem?_eq_getElem (show k-1<(vC a).length by omega),cT];cases vE (vC a)[k].1 1 (we a)<;>cases decide ((vC a)[k-1].1>=(vC a)[k].1)<;>cases BW (vC a)[k]<;>rfl
  · have hd:decide ((k:Int)>0)=false:=dF (by omega);simp only[hd,dF h0];cases vE (vC a)[k].1 1 (we a)<;>cases BW (vC a)[k]<;>rfl)]
 refine yr (λi=>?_) 0;unfold je vC we;simp only[Option.bind_assoc,an]
theorem Ud (n m:Int):decide (n>m)=!(decide (n<=m)):=by
 by_cases h:n<=m
 · rw[dT h,dF (by omega)];rfl
 · rw[dF h,dT (by omega)];rfl
theorem CY {a:vO} (h:IM a):eJ a=some (yt a):=by
 have hb:bg (a.1,a.2.1,a.2.2.1,a.2.2.2.1,a.2.2.2.2.1,a.2.2.2.2.2.1,a.2.2.2.2.2.2.1,a.2.2.2.2.2.2.2.1,a.2.2.2.2.2.2.2.2.1,a.2.2.2.2.2.2.2.2.2.1,a.2.2.2.2.2.2.2.2.2.2.1)=some (wq (aB a)):=Az h.b;unfold eJ yt;rw[NF h,hb];simp only[OZ,an,Ud,wS,we];generalize (List.range (vC a).length).any _=u;show _=some (!u&&(wq (aB a)&&(_&&(decide ((a.2.2.2.2.2.2.2.2.2.2.2.2.1.length:Int)<=6)&&(_)))))
 cases u<;>cases wq (aB a)<;>cases decide ((a.2.2.2.2.2.2.2.2.2.2.2.1.length:Int)<=20)<;>cases decide ((a.2.2.2.2.2.2.2.2.2.2.2.2.1.length:Int)<=6)<;>cases vE a.2.2.2.2.2.2.2.2.2.2.2.2.2.1 0 1000000<;>cases vE a.2.2.2.2.2.2.2.2.2.2.2.2.2.2 0 1000000<;>rfl
theorem GQ {a:vO} (h:IM a):cN a=some (yt a):=by
 have hb:aR (a.1,a.2.1,a.2.2.1,a.2.2.2.1,a.2.2.2.2.1,a.2.2.2.2.2.1,a.2.2.2.2.2.2.1,a.2.2.2.2.2.2.2.1,a.2.2.2.2.2.2.2.2.1,a.2.2.2.2.2.2.2.2.2.1,a.2.2.2.2.2.2.2.2.2.2.1)=some (wq (aB a)):=Bx h.b;unfold cN yt;rw[LQ h,hb];simp only[AG,an,wS,we];generalize (List.range (vC a).length).any _=u;show _=some (!u&&(wq (aB a)&&(_&&(decide ((a.2.2.2.2.2.2.2.2.2.2.2.2.1.length:Int)<=6)&&(_)))))
 cases u<;>cases wq (aB a)<;>cases decide ((a.2.2.2.2.2.2.2.2.2.2.2.1.length:Int)<=20)<;>cases decide ((a.2.2.2.2.2.2.2.2.2.2.2.2.1.length:Int)<=6)<;>cases vE a.2.2.2.2.2.2.2.2.2.2.2.2.2.1 0 1000000<;>cases vE a.2.2.2.2.2.2.2.2.2.2.2.2.2.2 0 1000000<;>rfl
theorem GR {α:Type} {l:List α} {step:Int×List α->Option ((Int×List α)⊕List α)} (hn:l.length<=M)
 (hs:∀k (hk:k<l.length) out,step ((k:Int),out)=(vS out [l[k]]).bind λzs=>some (.inl (((k+1:Nat):Int),zs)))
 (he:∀out,step ((l.length:Int),out)=some (.inr out)):loop step (0,[])=some l:=by
 have hn':l.length<=1048576:=hn;obtain⟨b,h1,rfl⟩:=vR (step:=step) (λk z=>z=((k:Int),l.take k)) l.length (λb=>b=l)
  (λk z hk e=>by
   subst e;left;refine⟨_,by rw[hs k hk,vF (by rw[length_take];show _+1<=_;omega),an],?_⟩;rw[take_add_one,List.getElem?_eq_getElem hk];rfl)
  (λz e=>by
   subst e;exact⟨_,he _,by rw[take_length]⟩) (x:=(0,[])) rfl
 exact h1
theorem RG {v:zj} (h:Uu M v):iP v=some v:=by unfold iP;rw[FT h.2];rfl
theorem GS {l:List vB} (h:D9 M l):eX l=some l:=by
 have hn:l.length<=1048576:=h.1;unfold eX;rw[GR (step:=λz=>eW l z.1 z.2) h.1 (λk hk out=>by
  show eW l (k:Int) out=_;unfold eW;have hx:=h.2 _ (getElem_mem hk)
  rw[wm (by omega),cT,vL hk,an,FT hx.1,an,RG hx.2,an,vK (by omega)]) (λout=>by
  show eW l (l.length:Int) out=_;unfold eW;rw[wg (by omega),cF])];rfl
theorem Dt {l:List vB} (h:D9 M l):cO l=some l:=by
 have hn:l.length<=1048576:=h.1;unfold cO;rw[GR (step:=λz=>ee l z.1 z.2) h.1 (λk hk out=>by
  show ee l (k:Int) out=_;unfold ee;have hx:=h.2 _ (getElem_mem hk)
  rw[wm (by omega),cT,vL hk,an,yS hx.2.2,an,an,yS hx.1,an,vK (by omega)]) (λout=>by
  show ee l (l.length:Int) out=_;unfold ee;rw[wg (by omega),cF])];rfl
theorem RH {p:wd} (h:yj M p):ga p=some p:=by unfold ga;rw[GS h];rfl
theorem Qe {p:wd} (h:yj M p):fq p=some p:=by unfold fq;rw[Dt h];rfl
theorem Ae {a:vO} (h:Hv M a):dy a=some a:=by
 obtain⟨h1,h2,h3,h4⟩:=h;have hn:(vC a).length<=1048576:=h3
 unfold dy;have hb:al (a.1,a.2.1,a.2.2.1,a.2.2.2.1,a.2.2.2.2.1,a.2.2.2.2.2.1,a.2.2.2.2.2.2.1,a.2.2.2.2.2.2.2.1,a.2.2.2.2.2.2.2.2.1,a.2.2.2.2.2.2.2.2.2.1,a.2.2.2.2.2.2.2.2.2.2.1)=some (aB a):=x7 h1
 rw[hb,an,GR (l:=vC a) (step:=λz=>eY a z.1 z.2) h3 (λk hk out=>by
  show eY a (k:Int) out=_;unfold eY;obtain⟨hx1,hx2,hx3⟩:=h4 _ (getElem_mem hk);have e0:at? a.2.2.2.2.2.2.2.2.2.2.2.2.1 (k:Int)=some (vC a)[k]:=vL hk
  rw[wm (show (k:Int)<(a.2.2.2.2.2.2.2.2.2.2.2.2.1.length:Int) by show (k:Int)<((vC a).length:Int);omega),cT,e0,an];generalize (vC a)[k]=x at hx1 hx2 hx3;have e1:ga (x.2.2.2.1,x.2.2.2.2.1,x.2.2.2.2.2.1,x.2.2.2.2.2.2.1,x.2.2.2.2.2.2.2.1)=some (jP x):=RH hx2
  have e2:al (x.2.2.2.2.2.2.2.2.1,x.2.2.2.2.2.2.2.2.2.1,x.2.2.2.2.2.2.2.2.2.2.1,x.2.2.2.2.2.2.2.2.2.2.2.1,x.2.2.2.2.2.2.2.2.2.2.2.2.1,x.2.2.2.2.2.2.2.2.2.2.2.2.2.1,x.2.2.2.2.2.2.2.2.2.2.2.2.2.2.1,x.2.2.2.2.2.2.2.2.2.2.2.2.2.2.2.1,x.2.2.2.2.2.2.2.2.2.2.2.2.2.2.2.2.1,x.2.2.2.2.2.2.2.2.2.2.2.2.2.2.2.2.2.1,x.2.2.2.2.2.2.2.2.2.2.2.2.2.2.2.2.2.2.1)=some (jB x):=x7 hx3;rw[Bh hx1,an,e1,an,e2,an,vK (by omega)];rfl) (λout=>by
  show eY a ((vC a).length:Int) out=_;unfold eY;rw[wg (show ¬((vC a).length:Int)<(a.2.2.2.2.2.2.2.2.2.2.2.2.1.length:Int) by show ¬((vC a).length:Int)<((vC a).length:Int);omega),cF])]
 rfl
theorem By {a:vO} (h:Hv M a):cP a=some a:=by
 obtain⟨h1,h2,h3,h4⟩:=h;have hn:(vC a).length<=1048576:=h3
 unfold cP;have hb:ak (a.1,a.2.1,a.2.2.1,a.2.2.2.1,a.2.2.2.2.1,a.2.2.2.2.2.1,a.2.2.2.2.2.2.1,a.2.2.2.2.2.2.2.1,a.2.2.2.2.2.2.2.2.1,a.2.2.2.2.2.2.2.2.2.1,a.2.2.2.2.2.2.2.2.2.2.1)=some (aB a):=xe h1
 rw[hb,an];obtain⟨d,d1,rfl⟩:=vR (step:=λz:Int×Int×List UInt8×Int×Int×Int×Int×Int×List UInt8×Int×Int×List wM=>fr a z.1 z.2.1 z.2.2.1 z.2.2.2.1 z.2.2.2.2.1 z.2.2.2.2.2.1 z.2.2.2.2.2.2.1 z.2.2.2.2.2.2.2.1 z.2.2.2.2.2.2.2.2.1 z.2.2.2.2.2.2.2.2.2.1 z.2.2.2.2.2.2.2.2.2.2.1 z.2.2.2.2.2.2.2.2.2.2.2)
  (λk z=>z=((k:Int),a.1,a.2.1,a.2.2.2.2.2.2.1,a.2.2.2.2.2.2.2.1,a.2.2.2.2.2.2.2.2.1,a.2.2.2.2.2.2.2.2.2.1,a.2.2.2.2.2.2.2.2.2.2.1,a.2.2.2.2.2.2.2.2.2.2.2.1,a.2.2.2.2.2.2.2.2.2.2.2.2.2.1,a.2.2.2.2.2.2.2.2.2.2.2.2.2.2,(vC a).take k)) (vC a).length
  (λd=>d=(a.1,a.2.1,a.2.2.2.2.2.2.1,a.2.2.2.2.2.2.2.1,a.2.2.2.2.2.2.2.2.1,a.2.2.2.2.2.2.2.2.2.1,a.2.2.2.2.2.2.2.2.2.2.1,a.2.2.2.2.2.2.2.2.2.2.2.1,a.2.2.2.2.2.2.2.2.2.2.2.2.2.1,a.2.2.2.2.2.2.2.2.2.2.2.2.2.2,vC a))
  (λk z hk e=>by
   subst e;left;simp only;unfold fr;obtain⟨hx1,hx2,hx3⟩:=h4 _ (getElem_mem hk);have e0:at? a.2.2.2.2.2.2.2.2.2.2.2.2.1 (k:Int)=some (vC a)[k]:=vL hk
   have et:(vC a).take (k+1)=(vC a).take k++[(vC a)[k]]:=by rw[take_add_one,List.getElem?_eq_getElem hk];rfl
   rw[wm (show (k:Int)<(a.2.2.2.2.2.2.2.2.2.2.2.2.1.length:Int) by show (k:Int)<((vC a).length:Int);omega),cT,e0,an,et];generalize (vC a)[k]=x at hx1 hx2 hx3;have e1:fq (x.2.2.2.1,x.2.2.2.2.1,x.2.2.2.2.2.1,x.2.2.2.2.2.2.1,x.2.2.2.2.2.2.2.1)=some (jP x):=Qe hx2
   have e2:ak (x.2.2.2.2.2.2.2.2.1,x.2.2.2.2.2.2.2.2.2.1,x.2.2.2.2.2.2.2.2.2.2.1,x.2.2.2.2.2.2.2.2.2.2.2.1,x.2.2.2.2.2.2.2.2.2.2.2.2.1,x.2.2.2.2.2.2.2.2.2.2.2.2.2.1,x.2.2.2.2.2.2.2.2.2.2.2.2.2.2.1,x.2.2.2.2.2.2.2.2.2.2.2.2.2.2.2.1,x.2.2.2.2.2.2.2.2.2.2.2.2.2.2.2.2.1,x.2.2.2.2.2.2.2.2.2.2.2.2.2.2.2.2.2.1,x.2.2.2.2.2.2.2.2.2.2.2.2.2.2.2.2.2.2.1)=some (jB x):=xe hx3;rw[yS hx1,an,e1,an,e2,an,vF (by rw[length_take];show _+1<=_;omega),an,vK (by omega)];exact⟨_,rfl,rfl⟩)
  (λz e=>by
   subst e;simp only;unfold fr;rw[wg (show ¬((vC a).length:Int)<(a.2.2.2.2.2.2.2.2.2.2.2.2.1.length:Int) by show ¬((vC a).length:Int)<((vC a).length:Int);omega),cF,take_length];exact⟨_,rfl,rfl⟩) (x:=(0,a.1,a.2.1,a.2.2.2.2.2.2.1,a.2.2.2.2.2.2.2.1,a.2.2.2.2.2.2.2.2.1,a.2.2.2.2.2.2.2.2.2.1,a.2.2.2.2.2.2.2.2.2.2.1,a.2.2.2.2.2.2.2.2.2.2.2.1,a.2.2.2.2.2.2.2.2.2.2.2.2.2.1,a.2.2.2.2.2.2.2.2.2.2.2.2.2.2,[])) rfl
 have d1':loop (λz:Int×Int×List UInt8×Int×Int×Int×Int×Int×List UInt8×Int×Int×List wM=>fr a z.1 z.2.1 z.2.2.1 z.2.2.2.1 z.2.2.2.2.1 z.2.2.2.2.2.1 z.2.2.2.2.2.2.1 z.2.2.2.2.2.2.2.1 z.2.2.2.2.2.2.2.2.1 z.2.2.2.2.2.2.2.2.2.1 z.2.2.2.2.2.2.2.2.2.2.1 z.2.2.2.2.2.2.2.2.2.2.2) (0,(aB a).1,(aB a).2.1,(aB a).2.2.2.2.2.2.1,(aB a).2.2.2.2.2.2.2.1,(aB a).2.2.2.2.2.2.2.2.1,(aB a).2.2.2.2.2.2.2.2.2.1,(aB a).2.2.2.2.2.2.2.2.2.2,a.2.2.2.2.2.2.2.2.2.2.2.1,a.2.2.2.2.2.2.2.2.2.2.2.2.2.1,a.2.2.2.2.2.2.2.2.2.2.2.2.2.2,[])=_:=d1;rw[d1'];rfl

theorem Bi {n:Nat} {step:Int->Option (Int⊕(Unit⊕Bool))} (h:∀k,k<n->step (k:Int)=some (.inl ((k+1:Nat):Int))) (he:step (n:Int)=some (.inr (.inl ()))):loop step 0=some (.inl ()):=by
 obtain⟨v,e,rfl⟩:=vR (step:=step) (λk i=>i=(k:Int)) n (λv=>v=.inl ()) (λk i hk e=>by subst e;exact .inl ⟨_,h k hk,rfl⟩) (λi e=>by subst e;exact⟨_,he,rfl⟩) (x:=0) rfl;exact e
def xT (l:List vP) (id:Int):Int:=match l.findIdx? (λr=>r.1==id)with|some k=>(k:Int)|none=>-1
theorem CZ {v:wz} (hn:v.1.length<9223372036854775807) (id:Int):aj v id=some (xT v.1 id):=by
 unfold aj xT;obtain⟨b,h1,rfl⟩:=vR (β:=Unit⊕Int) (step:=λz=>aP v id z) (λk i=>i=(k:Int)/\∀j (hj:j<k),∀(hl:j<v.1.length),¬((v.1[j].1==id)=true)) v.1.length (λb=>b=match v.1.findIdx? (λr=>r.1==id)with|some k=>.inr (k:Int)|none=>.inl ())
  (λk i hk ⟨h,hy⟩=>by
   subst h;unfold aP;rw[wm (by omega),cT,vL hk,an];cases hb:(v.1[k].1==id)with
   | true =>
    refine .inr ⟨_,rfl,?_⟩;rw[List.findIdx?_eq_some_iff_getElem.2 ⟨hk,hb,λj hj=>hy j hj (by omega)⟩]
   | false =>
    refine .inl ⟨_,rfl,vK (by omega),λj hj hl=>?_⟩;by_cases hjk:j=k
    · subst hjk;rw[hb];simp
    · exact hy j (by omega) hl)
  (λi ⟨h,hy⟩=>by
   subst h;refine⟨.inl (),by unfold aP;rw[wg (by omega),cF],?_⟩;rw[List.findIdx?_eq_none_iff.2 λx hx=>by
    obtain⟨j,hj,rfl⟩:=getElem_of_mem hx;have:=hy j hj hj
    simpa using this]) (x:=0) ⟨rfl,λj hj=>by omega⟩
 rw[h1,an];cases v.1.findIdx? (λr=>r.1==id)<;>rfl
theorem RI {v:wz} (hn:v.1.length<9223372036854775807) (id:Int):aC v id=some (xT v.1 id):=CZ hn id
theorem Cp {l:List vP} {id:Int} (h:0<=xT l id):∃k,∃hk:k<l.length,xT l id=(k:Int)/\l[k].1=id:=by
 unfold xT at h ⊢;cases hf:l.findIdx? (λr=>r.1==id)with
 | none=>rw[hf]at h;simp at h
 | some k =>
  obtain⟨hk,h1,_⟩:=List.findIdx?_eq_some_iff_getElem.1 hf;exact⟨k,hk,rfl,by simpa using h1⟩
theorem NG {l:List vP} {id:Int} (h:xT l id<0):∀x∈l,x.1≠id:=by
 unfold xT at h;cases hf:l.findIdx? (λr=>r.1==id)with
 | some k=>rw[hf]at h;simp at h;omega
 | none =>
  intro x hx;have:=List.findIdx?_eq_none_iff.1 hf x hx
  simpa using this
def Du (l:List vD) (tag mac:Int):Int:=match l.findIdx? (λe=>e.1==tag&&e.2.1==mac)with|some k=>(k:Int)|none=>-1
theorem DZ {l:List vD} (hn:l.length<9223372036854775807) (tag mac:Int):dN l tag mac=some (Du l tag mac):=by
 unfold dN Du;obtain⟨b,h1,rfl⟩:=vR (β:=Unit⊕Int) (step:=λz=>dM l tag mac z) (λk i=>i=(k:Int)/\∀j (hj:j<k),∀(hl:j<l.length),¬((l[j].1==tag&&l[j].2.1==mac)=true)) l.length (λb=>b=match l.findIdx? (λe=>e.1==tag&&e.2.1==mac)with|some k=>.inr (k:Int)|none=>.inl ())
  (λk i hk ⟨h,hy⟩=>by
   subst h;have hs:dM l tag mac (k:Int)=cond (l[k].1==tag&&l[k].2.1==mac) (some (.inr (.inr (k:Int)))) (some (.inl ((k+1:Nat):Int))):=by
    unfold dM;simp only[wm (show (k:Int)<(l.length:Int) by omega),cT,vL hk,an,vK (show k<9223372036854775807 by omega)];cases l[k].1==tag<;>rfl
   show (∃y,dM l tag mac (k:Int)=some (.inl y)/\_)\/∃b,dM l tag mac (k:Int)=some (.inr b)/\_;rw[hs];cases hb:(l[k].1==tag&&l[k].2.1==mac)with
   | true =>
    refine .inr ⟨_,rfl,?_⟩;rw[List.findIdx?_eq_some_iff_getElem.2 ⟨hk,hb,λj hj=>hy j hj (by omega)⟩]
   | false =>
    refine .inl ⟨_,rfl,rfl,λj hj hl=>?_⟩;by_cases hjk:j=k
    · subst hjk;rw[hb];simp
    · exact hy j (by omega) hl)
  (λi ⟨h,hy⟩=>by
   subst h;refine⟨.inl (),by unfold dM;rw[wg (by omega),cF],?_⟩;rw[List.findIdx?_eq_none_iff.2 λx hx=>by
    obtain⟨j,hj,rfl⟩:=getElem_of_mem hx;have:=hy j hj hj
    simpa using this]) (x:=0) ⟨rfl,λj hj=>by omega⟩
 rw[h1,an];cases l.findIdx? (λe=>e.1==tag&&e.2.1==mac)<;>rfl
theorem Ja {l:List vD} (hn:l.length<9223372036854775807) (tag mac:Int):bR l tag mac=some (Du l tag mac):=by
 unfold bR Du;obtain⟨b,h1,rfl⟩:=vR (β:=Unit⊕Int) (step:=λz=>aV l tag mac z) (λk i=>i=(k:Int)/\∀j (hj:j<k),∀(hl:j<l.length),¬((l[j].1==tag&&l[j].2.1==mac)=true)) l.length (λb=>b=match l.findIdx? (λe=>e.1==tag&&e.2.1==mac)with|some k=>.inr (k:Int)|none=>.inl ())
  (λk i hk ⟨h,hy⟩=>by
   subst h;have hs:aV l tag mac (k:Int)=cond (l[k].1==tag&&l[k].2.1==mac) (some (.inr (.inr (k:Int)))) (some (.inl ((k+1:Nat):Int))):=by
    unfold aV;simp only[wm (show (k:Int)<(l.length:Int) by omega),cT,vL hk,an,vK (show k<9223372036854775807 by omega)];cases l[k].1==tag<;>rfl
   show (∃y,aV l tag mac (k:Int)=some (.inl y)/\_)\/∃b,aV l tag mac (k:Int)=some (.inr b)/\_;rw[hs];cases hb:(l[k].1==tag&&l[k].2.1==mac)with
   | true =>
    refine .inr ⟨_,rfl,?_⟩;rw[List.findIdx?_eq_some_iff_getElem.2 ⟨hk,hb,λj hj=>hy j hj (by omega)⟩]
   | false =>
    refine .inl ⟨_,rfl,rfl,λj hj hl=>?_⟩;by_cases hjk:j=k
    · subst hjk;rw[hb];simp
    · exact hy j (by omega) hl)
  (λi ⟨h,hy⟩=>by
   subst h;refine⟨.inl (),by unfold aV;rw[wg (by omega),cF],?_⟩;rw[List.findIdx?_eq_none_iff.2 λx hx=>by
    obtain⟨j,hj,rfl⟩:=getElem_of_mem hx;have:=hy j hj hj
    simpa using this]) (x:=0) ⟨rfl,λj hj=>by omega⟩
 rw[h1,an];cases l.findIdx? (λe=>e.1==tag&&e.2.1==mac)<;>rfl

def yg (o:List Int) (lo hi:Int) (head:List Int):Bool:=(o.length==head.length+4)&&((o.take (head.length+3)==[1,3,1]++head)&&(match o[head.length+3]? with|some x=>vE x lo hi|none=>false))
theorem FV {o:List Int} (lo hi:Int) {head:List Int} (ho:o.length<=M) (hh:head.length<=100):bf o lo hi head=some (yg o lo hi head):=by
 have ho':o.length<=1048576:=ho;have hw:vA ((head.length:Int)+4)=((head.length+4:Nat):Int):=by rw[vW (by omega) (by omega)];omega
 unfold bf yg;rw[hw];by_cases hl:o.length=head.length+4
 · have hw2:vA ((o.length:Int)-1)=((head.length+3:Nat):Int):=by rw[vW (by omega) (by omega)];omega
   have hc:cut o 0 ((head.length+3:Nat):Int)=some (o.take (head.length+3)):=by
    rw[show (0:Int)=((0:Nat):Int)from rfl,yw (Nat.zero_le _) (by omega),List.drop_zero]
   have hlt:head.length+3<o.length:=by omega
   rw[show ((o.length:Int)==((head.length+4:Nat):Int))=true from beq_iff_eq.2 (by omega),cT,hw2,hc,an,vF (by show 3+head.length<=_;omega),an,Cn (by rw[length_append];show 3+head.length<_;omega),an,vL hlt,an,yB,an,List.getElem?_eq_getElem hlt];rw[show (o.length==head.length+4)=true from beq_iff_eq.2 hl];cases (o.take (head.length+3)==[1,3,1]++head)<;>rfl
 · rw[show ((o.length:Int)==((head.length+4:Nat):Int))=false from beq_eq_false_iff_ne.2 (by omega),cF,show (o.length==head.length+4)=false from beq_eq_false_iff_ne.2 hl];rfl
abbrev yT (b:vw):Int:=(b.2.2.1.length:Int)
abbrev zW (b:vw):List vP:=b.2.2.2.2.1
def NH (b:vw) (o:List Int):Bool:=yg o 1 1 [1]||(yg o 1 (yT b) [2,2]||(yg o 1 (yT b) [2,4]||(yg o 1 99 [3,1]||((yg o 1 99 [3,2]||yg o 1 99 [3,3])&&(match o[5]? with|some x=>decide (xT (zW b) x>=0)|none=>false)))))
theorem Ln {o:List Int} {lo hi:Int} {head:List Int} (h:yg o lo hi head=true):o.length=head.length+4:=by
 unfold yg at h;simp only[aT,beq_iff_eq]at h;exact h.1
theorem V8 {b:vw} (hb:z7 M b) {o:List Int} (ho:o.length<=M):iV b o=some (NH b o):=by
 have hr:b.2.2.2.2.1.length<9223372036854775807:=by have:b.2.2.2.2.1.length<=1048576:=hb.2.2.2.1;omega
 unfold iV NH;rw[FV 1 1 ho (by decide),FV 1 _ ho (by decide),FV 1 _ ho (by decide),FV 1 99 ho (by decide),FV 1 99 ho (by decide),FV 1 99 ho (by decide)];simp only[an];cases yg o 1 1 [1]with
 | true=>rfl
 | false =>
 cases yg o 1 (yT b) [2,2]with
 | true=>rfl
 | false =>
 cases yg o 1 (yT b) [2,4]with
 | true=>rfl
 | false =>
 cases yg o 1 99 [3,1]with
 | true=>rfl
 | false =>
 have key:o.length=6->((at? o 5).bind λx41=>(aj (b.2.2.2.2.1,b.2.2.2.2.2.1) x41).bind λt43=>some (decide (t43>=0)))=some (match o[5]? with|some x=>decide (xT (zW b) x>=0)|none=>false):=by
  intro h6;have h5:5<o.length:=by omega
  rw[show (5:Int)=((5:Nat):Int)from rfl,vL h5,an,CZ hr,an,List.getElem?_eq_getElem h5]
 cases h2:yg o 1 99 [3,2]with
 | true =>
  simp only[cF,cT,an,Bool.false_or,Bool.true_or,Bool.true_and];rw[key (Ln h2)];rfl
 | false =>
  cases h3:yg o 1 99 [3,3]with
  | true =>
   simp only[cF,cT,an,Bool.false_or,Bool.or_true,Bool.true_and];rw[key (Ln h3)];rfl
  | false=>rfl
def K3 (b:vw) (o:List Int):Bool:=yg o 2 5 [1]||(yg o 1 (yT b) [2,1]||(yg o 1 (yT b) [2,3]||(((o.length==7)&&(o.take 5==[1,3,1,4,1]))&&(match o[5]?,o[6]? with|some x,some y=>decide (Du b.2.2.2.1 x y>=0)|_,_=>false))))
theorem Ue {b:vw} (hb:z7 M b) {o:List Int} (ho:o.length<=M):iY b o=some (K3 b o):=by
 have hr:b.2.2.2.1.length<9223372036854775807:=by have:b.2.2.2.1.length<=1048576:=hb.2.2.1;omega
 unfold iY K3;rw[FV 2 5 ho (by decide),FV 1 _ ho (by decide),FV 1 _ ho (by decide)];simp only[an];cases yg o 2 5 [1]with
 | true=>rfl
 | false =>
 cases yg o 1 (yT b) [2,1]with
 | true=>rfl
 | false =>
 cases yg o 1 (yT b) [2,3]with
 | true=>rfl
 | false =>
 by_cases h7:o.length=7
 · have h5:5<o.length:=by omega
   have h6:6<o.length:=by omega
   have hc:cut o 0 5=some (o.take 5):=by
    rw[show (0:Int)=((0:Nat):Int)from rfl,show (5:Int)=((5:Nat):Int)from rfl,yw (Nat.zero_le _) (by omega),List.drop_zero]
   rw[show ((o.length:Int)==7)=true from beq_iff_eq.2 (by omega),show (o.length==7)=true from beq_iff_eq.2 h7];simp only[cF,cT,an,hc,Cn (show ([1,3,1,4,1]:List Int).length<9223372036854775807 by decide),Bool.false_or,Bool.true_and];cases (o.take 5==[1,3,1,4,1])with
   | false=>rfl
   | true =>
    rw[show (5:Int)=((5:Nat):Int)from rfl,show (6:Int)=((6:Nat):Int)from rfl];simp only[cT,vL h5,vL h6,an,DZ hr,List.getElem?_eq_getElem h5,List.getElem?_eq_getElem h6,Bool.true_and]
 · rw[show ((o.length:Int)==7)=false from beq_eq_false_iff_ne.2 (by omega),show (o.length==7)=false from beq_eq_false_iff_ne.2 h7];rfl

def CB (o:List Int):Bool:=decide (o.length>3)&&(o.take 3==[1,3,1])
theorem SV {o:List Int} (ho:o.length<=M):fF o=some (cond (CB o) (o.drop 3,true) ([],false)):=by
 have ho':o.length<=1048576:=ho;unfold fF jm CB;by_cases h:o.length>3
 · have hc:cut o 0 ((([1,3,1]:List Int).length:Nat):Int)=some (o.take 3):=by
    rw[show (0:Int)=((0:Nat):Int)from rfl,yw (Nat.zero_le _) (by show 3<=_;omega),List.drop_zero];rfl
   have hc2:cut o 3 (o.length:Int)=some (o.drop 3):=by
    rw[show (3:Int)=((3:Nat):Int)from rfl,yw (by omega) (Nat.le_refl _),take_length]
   have hs:dk (o.take 3) [1,3,1]=some (o.take 3==[1,3,1]):=Cn (a:=o.take 3) (b:=[1,3,1]) (by decide);rw[dT (show (o.length:Int)>(([1,3,1]:List Int).length:Int) by show (o.length:Int)>3;omega),cT,hc,an,hs,dT h];simp only[an,Bool.true_and];cases (o.take 3==[1,3,1])with
   | false=>rfl
   | true=>simp only[Bool.not_true,cF,cT,hc2,an]
 · rw[dF (show ¬(o.length:Int)>(([1,3,1]:List Int).length:Int) by show ¬(o.length:Int)>3;omega),dF h];rfl
def HS (b:vw) (o:List Int):Bool:=CB o&&(match o.drop 3 with
 | [a,c]=>a==1&&c==1
 | [a,c,p]=>(a==2&&((c==2||c==4)&&vE p 1 (yT b)))||(a==3&&((c==1&&vE p 1 99)||((c==2||c==3)&&decide (xT (zW b) p>=0))))
 | _=>false)
theorem V9 {b:vw} (hb:z7 M b) {o:List Int} (ho:o.length<=M):gP b o=some (HS b o):=by
 have hr:b.2.2.2.2.1.length<9223372036854775807:=by have:b.2.2.2.2.1.length<=1048576:=hb.2.2.2.1;omega
 unfold gP HS;rw[SV ho,an];cases CB o with
 | false=>rfl
 | true =>
  simp only[cT,Bool.not_true,cF,Bool.true_and]
  match o.drop 3 with
  | []=>rfl
  | [a]=>rfl
  | [a,c] =>
   rw[show (([a,c].length:Int)==2)=true from rfl,cT,show at? [a,c] 0=some a from rfl,show at? [a,c] 1=some c from rfl];simp only[an];cases a==1<;>rfl
  | [a,c,p] =>
   rw[show (([a,c,p].length:Int)==2)=false from rfl,cF,show (([a,c,p].length:Int) != 3)=false from rfl,cF,show at? [a,c,p] 0=some a from rfl,show at? [a,c,p] 1=some c from rfl,show at? [a,c,p] 2=some p from rfl];simp only[an,AG,RI (v:=(b.2.2.2.2.1,b.2.2.2.2.2.1)) hr];by_cases h2:a=2
   · subst h2;cases c==2<;>cases c==4<;>simp
   · by_cases h3:a=3
     · subst h3;cases c==1<;>cases c==2<;>cases c==3<;>cases vE p 1 99<;>simp
     · rw[show (a==2)=false from beq_eq_false_iff_ne.2 h2,show (a==3)=false from beq_eq_false_iff_ne.2 h3];rfl
  | a::c::p::q::l =>
   simp only[List.length_cons];rw[show ((((l.length+1+1+1+1:Nat):Int))==2)=false from beq_eq_false_iff_ne.2 (by omega),show ((((l.length+1+1+1+1:Nat):Int)) != 3)=true from bne_iff_ne.2 (by omega)];rfl
def IN (b:vw) (o:List Int):Bool:=CB o&&(match o.drop 3 with
 | [a,c]=>a==1&&vE c 2 5
 | [a,c,p]=>a==2&&((c==1||c==3)&&vE p 1 (yT b))
 | [a,c,p,q]=>(a==4&&c==1)&&decide (Du b.2.2.2.1 p q>=0)
 | _=>false)
theorem Uf {b:vw} (hb:z7 M b) {o:List Int} (ho:o.length<=M):gQ b o=some (IN b o):=by
 have hr:b.2.2.2.1.length<9223372036854775807:=by have:b.2.2.2.1.length<=1048576:=hb.2.2.1;omega
 unfold gQ IN;rw[SV ho,an];cases CB o with
 | false=>rfl
 | true =>
  simp only[cT,Bool.not_true,cF,Bool.true_and]
  match o.drop 3 with
  | []=>rfl
  | [a]=>rfl
  | [a,c] =>
   rw[show (([a,c].length:Int)==2)=true from rfl,cT,show at? [a,c] 0=some a from rfl,show at? [a,c] 1=some c from rfl];simp only[an,AG];cases a==1<;>rfl
  | [a,c,p] =>
   rw[show (([a,c,p].length:Int)==2)=false from rfl,cF,show (([a,c,p].length:Int)==3)=true from rfl,cT,show at? [a,c,p] 0=some a from rfl,show at? [a,c,p] 1=some c from rfl,show at? [a,c,p] 2=some p from rfl];simp only[an,AG];cases a==2<;>cases c==1<;>cases c==3<;>simp
  | [a,c,p,q] =>
   rw[show (([a,c,p,q].length:Int)==2)=false from rfl,cF,show (([a,c,p,q].length:Int)==3)=false from rfl,cF,show (([a,c,p,q].length:Int)==4)=true from rfl,cT,show at? [a,c,p,q] 0=some a from rfl,show at? [a,c,p,q] 1=some c from rfl,show at? [a,c,p,q] 2=some p from rfl,show at? [a,c,p,q] 3=some q from rfl];simp only[an,Ja hr];cases a==4<;>cases c==1<;>simp
  | a::c::p::q::r::l =>
   simp only[List.length_cons];rw[show ((((l.length+1+1+1+1+1:Nat):Int))==2)=false from beq_eq_false_iff_ne.2 (by omega),show ((((l.length+1+1+1+1+1:Nat):Int))==3)=false from beq_eq_false_iff_ne.2 (by omega),show ((((l.length+1+1+1+1+1:Nat):Int))==4)=false from beq_eq_false_iff_ne.2 (by omega)];rfl

structure zF (b:vw):Prop where
 id:vE b.1 1 99=true
 name:b.2.1.length<=10
 n1:1<=b.2.2.1.length
 n6:b.2.2.1.length<=6
 p:∀x∈b.2.2.1,zQ x=true
 f:AX b.2.2.2.1=true
 c:ya b=true
 q:b.2.2.2.2.2.1.length=b.2.2.1.length
 v:b.2.2.2.2.1.length<=6
 s:b.2.2.2.2.1.Pairwise λr s=>r.1<s.1
 i:∀r∈b.2.2.2.2.1,vE r.1 1 99=true
 h:∀r∈b.2.2.2.2.1,-9223372036854775808<=r.2.2/\r.2.2<=9223372036854775807
theorem zF.f12 {b:vw} (h:zF b):b.2.2.2.1.length<=12:=by
 have hf:=h.f;unfold AX at hf;simp only[aT,decide_eq_true_eq]at hf;omega
theorem zF.le {b:vw} (h:zF b):z7 M b:=by
 have h1:=h.name;have h2:=h.n6;have h3:=h.f12;have h4:=h.v;have h5:=h.q
 have hM:M=1048576:=rfl;exact⟨by omega,by omega,by omega,by omega,by omega⟩
theorem wH.sok {b:vw} (h:wH b):zF b:=by
 obtain⟨v1,v2,v3,v4⟩:=h.vt.len;refine⟨h.id,h.name,h.n1,h.n6,h.p,h.f,h.c,v3,v4,JN h,λr hr=>?_,h.w.r⟩;obtain⟨k,hk,rfl⟩:=getElem_of_mem hr;have hv:=h.v
 unfold yK at hv;simp only[aT,Bool.not_eq_true']at hv;have hx:=any_eq_false.1 hv.2.1 k (mem_range.2 hk)
 unfold BU at hx;simp only[List.getElem?_eq_getElem hk]at hx;cases hq:vE b.2.2.2.2.1[k].1 1 99 with
 | true=>rfl
 | false=>rw[hq]at hx;simp at hx
theorem AP {o:List Int} (h:o.length<=2):(∀lo hi head,yg o lo hi head=false)/\CB o=false:=by
 refine⟨λlo hi head=>?_,?_⟩
 · unfold yg;rw[beq_eq_false_iff_ne.2 (by omega),Bool.false_and]
 · unfold CB;rw[dF (by omega),Bool.false_and]
theorem NJ {x y z:Int} {t:List Int} (h:¬(x=1/\y=3/\z=1)):(∀lo hi head,yg (x::y::z::t) lo hi head=false)/\CB (x::y::z::t)=false:=by
 refine⟨λlo hi head=>?_,?_⟩
 · unfold yg;have:((x::y::z::t).take (head.length+3)==[1,3,1]++head)=false:=by
    rw[bF];intro e;rw[List.take_succ_cons,List.take_succ_cons,List.take_succ_cons]at e;simp at e;exact h ⟨e.1,e.2.1,e.2.2.1⟩
   rw[this,Bool.false_and,Bool.and_false]
 · unfold CB;have:((x::y::z::t).take 3==[1,3,1])=false:=by
    rw[bF];intro e;simp at e;exact h e
   rw[this,Bool.and_false]
end Go.V.W
