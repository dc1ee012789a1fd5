/- The law FnExactBridgeOnly: part of the proof that for every input it returns true. No condition. -/
import Derived.KernelRfl
import Derived.Test.YtpidgkkbmlgehaaGreatFnExactBridgeOnly
import Derived.Test.YtpidgkkbmlgehaaGreatFnExactBridgeOnlyM
open List (all_eq_true any_eq_false getElem_mem getElem_of_mem length_append length_drop length_set length_take mem_append mem_cons_of_mem mem_range mem_singleton pairwise_cons pairwise_iff_getElem take_add_one take_length take_of_length_le)
set_option linter.unusedVariables false
set_option linter.unusedSimpArgs false
namespace Go.V.W
theorem oX {α β:Type} (a:α) (f:α->Option β):(some a).bind f=f a:=rfl
abbrev M:Nat:=1048576
abbrev In (left:Int):Prop:=0<=left/\left<=1048576
theorem In.next {left r:Int} (h:In left) (h1:0<=r) (h2:r<=left):In r:=⟨h1,by have:=h.2;omega⟩
theorem sX {n:Nat} (h:n<=M):n<=4294967295:=Nat.le_trans h (by decide)
theorem Ii {a:List Int} {left:Int} (hl:In left) (h:a.length<=maxLen):rV left (ed a left) (a.length<=M):=uM hl h
theorem DM {a:List Int} {left:Int} (hl:In left) (h:a.length<=maxLen):rV left (da a left) (a.length<=M):=uM hl h
theorem J2 {a:List Pt} {left:Int} (hl:In left) (h:a.length<=maxLen):rV left (e9 a left) (a.length<=M):=uM hl h
theorem Hz {a:List oV} {left:Int} (hl:In left) (h:a.length<=maxLen):rV left (ea a left) (a.length<=M):=uM hl h
theorem HA {a:List pm} {left:Int} (hl:In left) (h:a.length<=maxLen):rV left (eb a left) (a.length<=M):=uM hl h
theorem Ij {a:pO} {left:Int} (hl:In left) (h:a.1.length<=maxLen/\a.2.length<=maxLen):rV left (ee a left) (a.1.length<=M/\a.2.length<=M/\True) :=
 sS (HA hl h.1) λr h1 h2=>sS (Ii (hl.next h1 h2) h.2) λr h1 h2=>wL h1
def sx (n:Nat) (b:oU):Prop:=b.2.1.length<=n/\b.2.2.1.length<=n/\b.2.2.2.1.length<=n/\b.2.2.2.2.1.length<=n/\b.2.2.2.2.2.1.length<=n
theorem GI {b:oU} {left:Int} (hl:In left) (h:sx maxLen b):rV left (dY b left) (sx M b):=by
 obtain⟨h1,h2,h3,h4,h5⟩:=h;refine yb (CJ hl h1 λr k1 k2=>sS (J2 (hl.next k1 k2) h2) λr' k3 k4=>sS (Hz ((hl.next k1 k2).next k3 k4) h3) λr'' k5 k6=>sS (Ij (a:=(b.2.2.2.2.1,b.2.2.2.2.2.1)) (((hl.next k1 k2).next k3 k4).next k5 k6) ⟨h4,h5⟩) λr3 k7 k8=>wL k7) ?_;rintro⟨a1,a2,a3,⟨a4,a5,_⟩,_⟩;exact⟨a1,a2,a3,a4,a5⟩
def K6 (n:Nat) (v:ub):Prop:=v.2.2.1.length<=n/\v.2.2.2.length<=n
def H5 (n:Nat) (x:pc):Prop:=x.1.length<=n/\K6 n x.2
def JL (n:Nat) (l:List pc):Prop:=l.length<=n/\∀x∈l,H5 n x
def CM (n:Nat) (p:ra):Prop:=JL n p.2.2.2.2
def jP (j:tH):ra:=(j.2.2.2.1,j.2.2.2.2.1,j.2.2.2.2.2.1,j.2.2.2.2.2.2.1,j.2.2.2.2.2.2.2.1)
def jB (a0:tH):oU:=(a0.2.2.2.2.2.2.2.2.1,a0.2.2.2.2.2.2.2.2.2.1,a0.2.2.2.2.2.2.2.2.2.2.1,a0.2.2.2.2.2.2.2.2.2.2.2.1,a0.2.2.2.2.2.2.2.2.2.2.2.2.1,a0.2.2.2.2.2.2.2.2.2.2.2.2.2.1,a0.2.2.2.2.2.2.2.2.2.2.2.2.2.2.1,a0.2.2.2.2.2.2.2.2.2.2.2.2.2.2.2.1,a0.2.2.2.2.2.2.2.2.2.2.2.2.2.2.2.2.1,a0.2.2.2.2.2.2.2.2.2.2.2.2.2.2.2.2.2.1,a0.2.2.2.2.2.2.2.2.2.2.2.2.2.2.2.2.2.2.1)
def Jy (n:Nat) (j:tH):Prop:=j.2.1.length<=n/\CM n (jP j)/\sx n (jB j)
def JM (n:Nat) (l:List tH):Prop:=l.length<=n/\∀x∈l,Jy n x
def aB (a0:qe):oU:=(a0.1,a0.2.1,a0.2.2.1,a0.2.2.2.1,a0.2.2.2.2.1,a0.2.2.2.2.2.1,a0.2.2.2.2.2.2.1,a0.2.2.2.2.2.2.2.1,a0.2.2.2.2.2.2.2.2.1,a0.2.2.2.2.2.2.2.2.2.1,a0.2.2.2.2.2.2.2.2.2.2.1)
def Jz (n:Nat) (a:qe):Prop:=sx n (aB a)/\a.2.2.2.2.2.2.2.2.2.2.2.1.length<=n/\JM n a.2.2.2.2.2.2.2.2.2.2.2.2.1
theorem Ik {a:List Int} (h:a.length<=M):eB a=some a:=xD (sX h) (CH (sX h) 0)
theorem DN {a:List Int} (h:a.length<=M):dE a=some a:=xD (sX h) (CH (sX h) 0)
theorem J3 {a:List Pt} (h:a.length<=M):eu a=some a:=xD (sX h) (xB (f:=et) (λ_ _=>rfl) (sX h) _)
theorem HB {a:List oV} (h:a.length<=M):ew a=some a:=xD (sX h) (xB (f:=ev) (λ_ _=>rfl) (sX h) _)
theorem HC {a:List pm} (h:a.length<=M):eA a=some a:=xD (sX h) (xB (f:=ez) (λ_ _=>rfl) (sX h) _)
theorem Il {a:pO} (h:a.1.length<=M/\a.2.length<=M):dD a=some a:=by
 unfold dD;rw[HC h.1,oX,Ik h.2,oX]
theorem GJ {b:oU} (h:sx M b):bb b=some b:=by
 obtain⟨h1,h2,h3,h4,h5⟩:=h;unfold bb;rw[J3 h2,oX,HB h3,oX,Il ⟨h4,h5⟩,oX]
theorem H6 (v:sw):bV v v=some true:=by unfold bV;simp
theorem JN (v:Pt):bW v v=some true:=by unfold bW;simp[H6]
theorem Im (v:oV):bY v v=some true:=by unfold bY;simp
theorem Io (v:pm):bZ v v=some true:=by unfold bZ;simp
theorem Ip {a:List Int} (h:a.length<=M):dV a a=some true:=xE (CI (sX h))
theorem DO {a:List Int} (h:a.length<=M):cL a a=some true:=xE (CI (sX h))
theorem J4 {a:List Pt} (h:a.length<=M):dQ a a=some true:=xE (xC (g:=bW) (λx _=>JN x) (sX h))
theorem HD {a:List oV} (h:a.length<=M):dR a a=some true:=xE (xC (g:=bY) (λx _=>Im x) (sX h))
theorem HE {a:List pm} (h:a.length<=M):dU a a=some true:=xE (xC (g:=bZ) (λx _=>Io x) (sX h))
theorem Iq {a:pO} (h:a.1.length<=M/\a.2.length<=M):cK a a=some true:=by
 unfold cK;simp[HE h.1,Ip h.2]
theorem CN {b:oU} (h:sx M b):ba b b=some true:=by
 obtain⟨h1,h2,h3,h4,h5⟩:=h;unfold ba;simp[J4 h2,HD h3,Iq (a:=(b.2.2.2.2.1,b.2.2.2.2.2.1)) ⟨h4,h5⟩]
theorem EA {α β:Type} {f g:α->Option (α⊕β)} (pq:α->Prop) (h:∀x,pq x->f x=g x) (hi:∀x y,pq x->f x=some (.inl y)->pq y) {x:α} (h0:pq x):loop f x=loop g x:=by
 have key:∀k x,pq x->r8 f k x=r8 g k x:=by
  intro k
  induction k with
  | zero=>intro x _;rfl
  | succ k ih =>
   intro x hx;rw[pJ,pJ,←h x hx];cases hf:f x with
   | none=>rfl
   | some v=>cases v with
    | inl y=>exact ih y (hi x y hx hf)
    | inr b=>rfl
 have hex:(∃k,(r8 f k x).isSome)↔∃k,(r8 g k x).isSome:=by
  constructor<;>rintro⟨k,hk⟩<;>exact⟨k,by first|rwa [←key k x h0]|rwa [key k x h0]⟩
 by_cases hc:∃k,(r8 f k x).isSome
 · obtain⟨k,hk⟩:=hc;cases hv:r8 f k x with
   | none=>rw[hv]at hk;cases hk
   | some b=>rw[sM hv,sM ((key k x h0)▸hv)]
 · have hc':¬ ∃k,(r8 g k x).isSome:=λh=>hc (hex.2 h);unfold loop;rw[dif_neg hc,dif_neg hc']
theorem tI {α β:Type} {f g:α->Option (α⊕β)} (h:∀x,f x=g x) (x:α):loop f x=loop g x:=by rw[funext h]
def pa (x a b:Int):Bool:=decide (x>=a)&&decide (x<=b)
theorem tX (x a b:Int):a6 x a b=some (pa x a b):=by
 unfold a6 pa;cases decide (x>=a)<;>rfl
theorem AP (x a b:Int):a7 x a b=some (pa x a b):=tX x a b
def yf (v:sw):Bool:=pa v.1 1 99&&(pa v.2.1 0 100000&&(pa v.2.2.1 0 10&&(pa v.2.2.2.1 1 99&&pa v.2.2.2.2 0 7)))
theorem CO (v:sw):aI v=some (yf v):=by
 unfold aI yf;simp only[tX,oX];cases pa v.1 1 99<;>cases pa v.2.1 0 100000<;>cases pa v.2.2.1 0 10<;>cases pa v.2.2.2.1 1 99<;>rfl
theorem Ir:bC=aI:=rfl
def ux (p:Pt):Bool:=pa p.2.1 1 1000&&(!(p.2.2.1&&!p.1)&&(cond p.2.2.1 (yf p.2.2.2) (p.2.2.2.1==0&&(p.2.2.2.2.1==0&&(p.2.2.2.2.2.1==0&&(p.2.2.2.2.2.2.1==0&&(p.2.2.2.2.2.2.2==0)))))))
theorem K7 (p:Pt):cw p=some (ux p):=by
 obtain⟨up,cost,heard,v⟩:=p;unfold cw ux;simp only[tX,CO,oX];cases pa cost 1 1000<;>cases up<;>cases heard<;>rfl
theorem K8 (p:Pt):cn p=some (ux p):=by
 obtain⟨up,cost,heard,v⟩:=p;unfold cn ux;simp only[AP,Ir,CO,oX];cases pa cost 1 1000<;>cases up<;>cases heard<;>rfl
theorem un {n:Nat} {c:Int->Option Bool} {b:Nat->Bool} (hn:n<9223372036854775807) (hc:∀k,k<n->c (k:Int)=some (b k)) :
 loop (λi:Int=>cond (decide (i<(n:Int))) ((c i).bind λt=>cond t (some (.inr (.inr false))) (some (.inl (oT (i+1))))) (some (.inr (.inl ())))) 0=some (cond ((List.range n).any b) (Sum.inr false) (Sum.inl ()):Unit⊕Bool):=by
 obtain⟨v,h1,h2⟩:=qf (β:=Unit⊕Bool) (step:=λi:Int=>cond (decide (i<(n:Int))) ((c i).bind λt=>cond t (some (.inr (.inr false))) (some (.inl (oT (i+1))))) (some (.inr (.inl ()))))
  (λk i=>i=(k:Int)/\(List.range k).any b=false) n (λv=>v=cond ((List.range n).any b) (Sum.inr false) (Sum.inl ()))
  (λk i hk ⟨e,ha⟩=>by
   subst e;have hs:(cond (decide ((k:Int)<(n:Int))) ((c (k:Int)).bind λt=>cond t (some (.inr (.inr false))) (some (.inl (oT ((k:Int)+1))))) (some (.inr (.inl ()))):Option (Int⊕(Unit⊕Bool)))=cond (b k) (some (.inr (.inr false))) (some (.inl ((k+1:Nat):Int))):=by
    rw[qD (by omega),cT,hc k hk,oX,pz (by omega)]
   cases hb:b k with
   | true =>
    refine .inr ⟨.inr false,by rw[hs,hb];rfl,?_⟩;have:(List.range n).any b=true:=List.any_eq_true.2 ⟨k,mem_range.2 hk,hb⟩
    rw[this];rfl
   | false =>
    refine .inl ⟨_,by rw[hs,hb];rfl,rfl,?_⟩;rw[List.range_succ,List.any_append,ha];simp[hb])
  (λi ⟨e,ha⟩=>by
   subst e;exact⟨.inl (),by rw[pU (by omega),cF],by rw[ha];rfl⟩) (x:=0) ⟨rfl,rfl⟩
 rw[h1,h2]
def tV (e:oV):Bool:=pa e.1 1 99&&(pa e.2.1 1 9999&&(pa e.2.2.1 0 7&&(pa e.2.2.2.1 0 4&&(!e.2.2.2.2||e.2.2.2.1==0))))
theorem BZ (e:oV):aX e=some (tV e):=by
 unfold aX tV;simp only[tX,oX];cases pa e.1 1 99<;>cases pa e.2.1 1 9999<;>cases pa e.2.2.1 0 7<;>cases pa e.2.2.2.1 0 4<;>cases e.2.2.2.2<;>rfl
theorem H7:cj=aX:=rfl
def qu (e:oV) (tag mac:Int):Bool:=decide (e.1>tag)||(e.1==tag&&decide (e.2.1>mac))
theorem Be (e:oV) (tag mac:Int):bu e tag mac=some (qu e tag mac):=by
 unfold bu qu;cases decide (e.1>tag)<;>cases (e.1==tag)<;>rfl
theorem Is (p e:oV):aQ p e.1 e.2.1=some (qu e p.1 p.2.1):=by
 unfold aQ qu;by_cases h:p.1=e.1
 · simp[h]
 · have h':¬e.1=p.1:=λk=>h k.symm;have e1:(p.1 != e.1)=true:=by simpa using h
   have e2:(e.1==p.1)=false:=by simpa using h'
   rw[e1,e2,cT,Bool.false_and,Bool.or_false]
def ui (l:List oV) (k:Nat):Bool:=match l[k]? with
 | some e=>!(tV e)||(decide (0<k)&&(match l[k-1]? with|some p=>!(qu e p.1 p.2.1)|none=>false))
 | none=>false
def uo (l:List oV):Bool:=!((List.range l.length).any (ui l))&&decide ((l.length:Int)<=12)
theorem zk {α:Type} {l:List α} {k:Nat} (h:k<l.length) (hk:0<k) (hn:l.length<9223372036854775807):at? l (oT ((k:Int)-1))=some l[k-1]:=by
 rw[sr (by omega) (by omega),show (k:Int)-1=((k-1:Nat):Int) by omega,pv (by omega)]
theorem GK {l:List oV} (hn:l.length<9223372036854775807):bT l=some (uo l):=by
 unfold bT uo;have h:=un (n:=l.length) (c:=λi=>(at? l i).bind λx10=>(aX x10).bind λt13=>(cond (!t13) (some true) ((cond (decide (i>0)) ((at? l (oT (i-1))).bind λx23=>(at? l (oT (i-1))).bind λx29=>(bu x10 x23.1 x29.2.1).bind λt32=>some (!t32)) (some false)).bind λt34=>some t34)).bind λt=>some t) (b:=ui l) hn (λk hk=>by
  simp only[pv hk,oX,BZ,ui,List.getElem?_eq_getElem hk];cases tV l[k]with
  | false=>rfl
  | true =>
   by_cases h0:0<k
   · have hd:decide ((k:Int)>0)=true:=dT (by omega);simp only[hd,zk hk h0 hn,oX,Be,dT h0,List.getElem?_eq_getElem (show k-1<l.length by omega)];rfl
   · have hd:decide ((k:Int)>0)=false:=dF (by omega);simp only[hd,dF h0];rfl)
 have e:(loop (λz=>eC l z) 0)=some (cond ((List.range l.length).any (ui l)) (Sum.inr false) (Sum.inl ())):=by
  rw[←h];refine tI (λi=>?_) 0;unfold eC;simp only[Option.bind_assoc,oX]
 rw[e,oX];cases (List.range l.length).any (ui l)<;>rfl
theorem It {l:List oV} (hn:l.length<9223372036854775807):ck l=some (uo l):=by
 unfold ck uo;have h:=un (n:=l.length) (c:=λi=>(at? l i).bind λx12=>(cj x12).bind λt14=>(cond (!t14) (some true) ((cond (decide (i>0)) ((at? l (oT (i-1))).bind λx23=>(at? l i).bind λx27=>(at? l i).bind λx32=>(aQ x23 x27.1 x32.2.1).bind λt35=>some (!t35)) (some false)).bind λt37=>some t37)).bind λt=>some t) (b:=ui l) hn (λk hk=>by
  simp only[pv hk,oX,H7,BZ,ui,List.getElem?_eq_getElem hk];cases tV l[k]with
  | false=>rfl
  | true =>
   by_cases h0:0<k
   · have hd:decide ((k:Int)>0)=true:=dT (by omega);simp only[hd,zk hk h0 hn,oX,Is,dT h0,List.getElem?_eq_getElem (show k-1<l.length by omega)];rfl
   · have hd:decide ((k:Int)>0)=false:=dF (by omega);simp only[hd,dF h0];rfl)
 have e:(loop (λz=>eg l z) 0)=some (cond ((List.range l.length).any (ui l)) (Sum.inr false) (Sum.inl ())):=by
  rw[←h];refine tI (λi=>?_) 0;unfold eg;simp only[Option.bind_assoc,oX]
 rw[e,oX];cases (List.range l.length).any (ui l)<;>rfl

theorem Iu {v:pO} (hn:v.1.length<9223372036854775807) (id:Int):∃r,aa v id=some r:=by
 unfold aa;obtain⟨b,h1,_⟩:=qf (β:=Unit⊕Int) (step:=λz=>bh v id z) (λk i=>i=(k:Int)) v.1.length (λ_=>True)
  (λk i hk h=>by
   subst h;unfold bh;rw[qD (by omega),cT,pv hk,oX];cases (v.1[k].1==id)with
   | true=>exact .inr ⟨_,rfl,trivial⟩
   | false=>exact .inl ⟨_,rfl,pz (by omega)⟩)
  (λi h=>by
   subst h;unfold bh;rw[pU (by omega)];exact⟨_,rfl,trivial⟩) (x:=0) rfl
 rw[h1,oX];cases b with
 | inl _=>exact⟨_,rfl⟩
 | inr r=>exact⟨r,rfl⟩
def vn (i:Int):Int:=(2:Int)^i.toNat-1
theorem CP {i:Int} (h:pa i 1 6=true):i=1\/i=2\/i=3\/i=4\/i=5\/i=6:=by
 unfold pa at h;simp only[aT,decide_eq_true_eq]at h;omega
theorem FM {i:Int} (h:pa i 1 6=true):bP i=some (vn i):=by
 rcases CP h with rfl|rfl|rfl|rfl|rfl|rfl<;>rfl
theorem JO {i:Int} (h:pa i 1 6=true):∃t,shl .i64 1 (IntKind.u64.wrap i)=some t/\oT (t-1)=vn i:=by
 rcases CP h with rfl|rfl|rfl|rfl|rfl|rfl<;>exact⟨_,rfl,rfl⟩
theorem J5 {i:Int} (h:pa i 1 6=true):1<=vn i/\vn i<=63:=by
 rcases CP h with rfl|rfl|rfl|rfl|rfl|rfl<;>decide
theorem AQ (x:BitVec 64):IntKind.i64.wrap (x.toNat:Int)=x.toInt:=by
 have hx:=x.isLt;rw[BitVec.toInt_eq_toNat_cond];show (let m:=(x.toNat:Int)%18446744073709551616;if (true&&decide (m>=9223372036854775808))=true then m-18446744073709551616 else m)=_
 simp only[Bool.true_and,decide_eq_true_eq];have h1:(x.toNat:Int)%18446744073709551616=(x.toNat:Int):=by omega
 rw[h1];split<;>split<;>omega
theorem vb {b:Int} (h1:-9223372036854775808<=b) (h2:b<=9223372036854775807):(BitVec.ofInt 64 b).toInt=b:=by
 rw[BitVec.toInt_ofInt];unfold Int.bmod;simp only;split<;>omega
theorem H8 (a b:Int):rb .i64 a b=(BitVec.ofInt 64 a&&&BitVec.ofInt 64 b).toInt:=AQ _
theorem J6 (a b:Int):uQ .i64 a b=(BitVec.ofInt 64 a &&& ~~~ BitVec.ofInt 64 b).toInt:=AQ _
theorem DP (x y:BitVec 64):x&&&y=x↔x &&& ~~~ y=0:=by
 constructor
 · intro h;apply BitVec.eq_of_getLsbD_eq;intro i hi;have:=congrArg (λz=>z.getLsbD i) h
   simp only[BitVec.getLsbD_and]at this;simp only[BitVec.getLsbD_and,BitVec.getLsbD_not,BitVec.getLsbD_zero,hi,decide_true,Bool.true_and];cases hx:x.getLsbD i<;>cases hy:y.getLsbD i<;>simp_all
 · intro h;apply BitVec.eq_of_getLsbD_eq;intro i hi;have:=congrArg (λz=>z.getLsbD i) h
   simp only[BitVec.getLsbD_and,BitVec.getLsbD_not,BitVec.getLsbD_zero,hi,decide_true,Bool.true_and]at this;simp only[BitVec.getLsbD_and];cases hx:x.getLsbD i<;>cases hy:y.getLsbD i<;>simp_all
theorem FO {b m:Int} (h1:-9223372036854775808<=b) (h2:b<=9223372036854775807):(rb .i64 b m != b)=(uQ .i64 b m != 0):=by
 rw[H8,J6];have e:((BitVec.ofInt 64 b&&&BitVec.ofInt 64 m).toInt=b)↔((BitVec.ofInt 64 b &&& ~~~ BitVec.ofInt 64 m).toInt=0):=by
  constructor
  · intro h;have:BitVec.ofInt 64 b&&&BitVec.ofInt 64 m=BitVec.ofInt 64 b:=BitVec.eq_of_toInt_eq (by rw[h,vb h1 h2])
    rw[(DP _ _).1 this];rfl
  · intro h;have:BitVec.ofInt 64 b &&& ~~~ BitVec.ofInt 64 m=0:=BitVec.eq_of_toInt_eq (by rw[h];rfl)
    rw[(DP _ _).2 this,vb h1 h2]
 by_cases h:(BitVec.ofInt 64 b&&&BitVec.ofInt 64 m).toInt=b
 · have h':=e.1 h;simp[h,h']
 · have h':¬(BitVec.ofInt 64 b &&& ~~~ BitVec.ofInt 64 m).toInt=0:=λk=>h (e.2 k);rw[bne_iff_ne.2 h,bne_iff_ne.2 h']
theorem HF {b m t:Int} (h1:-9223372036854775808<=b) (h2:b<=9223372036854775807) (hm:pa m 0 t=true) (ht:t<=63) (h:(rb .i64 b m != b)=false):pa b 0 t=true:=by
 unfold pa at hm ⊢;simp only[aT,decide_eq_true_eq]at hm ⊢;have h:rb .i64 b m=b:=by simpa using h
 rw[H8]at h;have e:BitVec.ofInt 64 b&&&BitVec.ofInt 64 m=BitVec.ofInt 64 b:=BitVec.eq_of_toInt_eq (by rw[h,vb h1 h2])
 have hM:(BitVec.ofInt 64 m).toNat=m.toNat:=by
  rw[BitVec.toNat_ofInt];omega
 have hle:(BitVec.ofInt 64 b).toNat<=m.toNat:=by
  rw[←e,BitVec.toNat_and,hM];exact Nat.and_le_right
 have hb:(BitVec.ofInt 64 b).toInt=((BitVec.ofInt 64 b).toNat:Int):=by
  rw[BitVec.toInt_eq_toNat_cond];split<;>omega
 rw[vb h1 h2]at hb;omega
def wm (v:pO) (i:Int) (k:Nat):Bool:=match v.1[k]? with
 | some r=>!(pa r.1 1 99)||((decide (0<k)&&(match v.1[k-1]? with|some p=>decide (p.1>=r.1)|none=>false))||(!(pa r.2.1 0 (vn i))||(uQ .i64 r.2.2 r.2.1 != 0)))
 | none=>false
noncomputable def zl (v:pO) (k:Nat):Bool:=match v.2[k]? with
 | some x=>(match aa v x with|some t=>decide (t<0)|none=>false)
 | none=>false
noncomputable def sA (v:pO) (i:Int):Bool:=!(!(pa i 1 6)||((v.2.length:Int) != i||decide ((v.1.length:Int)>6)))&&(!((List.range v.1.length).any (wm v i))&&!((List.range v.2.length).any (zl v)))
theorem FP {v:pO} {i:Int} (hi:pa i 1 6=true) (hn:v.1.length<9223372036854775807):loop (λz=>eD v i z) 0=some (cond ((List.range v.1.length).any (wm v i)) (Sum.inr false) (Sum.inl ())):=by
 rw[←un (n:=v.1.length) (c:=λt28=>(at? v.1 t28).bind λx31 =>
  (a6 x31.1 1 99).bind λt35 =>
  (cond (!t35) (some true) ((cond (decide (t28>0)) ((at? v.1 (oT (t28-1))).bind λx45=>some (decide (x45.1>=x31.1))) (some false)).bind λt51=>some t51)).bind λt52 =>
  (cond t52 (some true) ((bP i).bind λt57=>(a6 x31.2.1 0 t57).bind λt58=>some (!t58))).bind λt60 =>
  (cond t60 (some true) (some ((uQ .i64 x31.2.2 x31.2.1) != 0))).bind λt=>some t) (b:=wm v i) hn (λk hk=>by
   simp only[pv hk,oX,tX,wm,List.getElem?_eq_getElem hk,FM hi];cases pa v.1[k].1 1 99 with
   | false=>rfl
   | true =>
    by_cases h0:0<k
    · have hd:decide ((k:Int)>0)=true:=dT (by omega);simp only[hd,zk hk h0 hn,oX,dT h0,List.getElem?_eq_getElem (show k-1<v.1.length by omega)];cases decide (v.1[k-1].1>=v.1[k].1)<;>cases pa v.1[k].2.1 0 (vn i)<;>rfl
    · have hd:decide ((k:Int)>0)=false:=dF (by omega);simp only[hd,dF h0];cases pa v.1[k].2.1 0 (vn i)<;>rfl)]
 refine tI (λi=>?_) 0;unfold eD;simp only[Option.bind_assoc,oX]
theorem EB {v:pO} {i t:Int} (hi:pa i 1 6=true) (ht:oT (t-1)=vn i) (hn:v.1.length<9223372036854775807) (hw:∀r∈v.1,-9223372036854775808<=r.2.2/\r.2.2<=9223372036854775807):loop (λz=>eh v t z) 0=some (cond ((List.range v.1.length).any (wm v i)) (Sum.inr false) (Sum.inl ())):=by
 rw[←un (n:=v.1.length) (c:=λt6=>(at? v.1 t6).bind λx39 =>
  (a7 x39.1 1 99).bind λt43 =>
  (cond (!t43) (some true) ((a7 x39.2.1 0 (oT (t-1))).bind λt49=>some (!t49))).bind λt51 =>
  (cond t51 (some true) ((a7 x39.2.2 0 (oT (t-1))).bind λt56=>some (!t56))).bind λt58 =>
  (cond t58 (some true) (some ((rb .i64 x39.2.2 x39.2.1) != x39.2.2))).bind λt68 =>
  (cond t68 (some true) ((cond (decide (t6>0)) ((at? v.1 (oT (t6-1))).bind λx77=>some (decide (x77.1>=x39.1))) (some false)).bind λt83=>some t83)).bind λt=>some t) (b:=wm v i) hn (λk hk=>by
   obtain⟨w1,w2⟩:=hw _ (getElem_mem hk);have hs:=FO (m:=v.1[k].2.1) w1 w2
   have hin:=HF (m:=v.1[k].2.1) (t:=vn i) w1 w2;have ht2:=(J5 hi).2
   simp only[pv hk,oX,AP,wm,List.getElem?_eq_getElem hk,ht];rw[←hs];cases h1:pa v.1[k].1 1 99 with
   | false=>rfl
   | true =>
    cases h2:pa v.1[k].2.1 0 (vn i)with
    | false =>
     by_cases h0:0<k
     · simp only[dT h0,List.getElem?_eq_getElem (show k-1<v.1.length by omega)];cases decide (v.1[k-1].1>=v.1[k].1)<;>rfl
     · simp only[dF h0];rfl
    | true =>
     cases h3:(rb .i64 v.1[k].2.2 v.1[k].2.1 != v.1[k].2.2)with
     | true =>
      by_cases h0:0<k
      · simp only[dT h0,List.getElem?_eq_getElem (show k-1<v.1.length by omega)];cases decide (v.1[k-1].1>=v.1[k].1)<;>cases pa v.1[k].2.2 0 (vn i)<;>rfl
      · simp only[dF h0];cases pa v.1[k].2.2 0 (vn i)<;>rfl
     | false =>
      have h4:=hin h2 ht2 h3;rw[h4];by_cases h0:0<k
      · have hd:decide ((k:Int)>0)=true:=dT (by omega);simp only[hd,zk hk h0 hn,oX,dT h0,List.getElem?_eq_getElem (show k-1<v.1.length by omega)];cases decide (v.1[k-1].1>=v.1[k].1)<;>rfl
      · have hd:decide ((k:Int)>0)=false:=dF (by omega);simp only[hd,dF h0];rfl)]
 refine tI (λi=>?_) 0;unfold eh;simp only[Option.bind_assoc,oX]
theorem BL {v:pO} (hn:v.1.length<9223372036854775807) (hn2:v.2.length<9223372036854775807):loop (λz=>dH v z) 0=some (cond ((List.range v.2.length).any (zl v)) (Sum.inr false) (Sum.inl ())):=by
 rw[←un (n:=v.2.length) (c:=λt73=>(at? v.2 t73).bind λx75=>(aa v x75).bind λt79=>some (decide (t79<0))) (b:=zl v) hn2 (λk hk=>by
  obtain⟨r,hr⟩:=Iu hn v.2[k];simp only[pv hk,oX,zl,List.getElem?_eq_getElem hk,hr])]
 refine tI (λi=>?_) 0;unfold dH;simp only[Option.bind_assoc,oX]
theorem J7:gZ=dH:=rfl
theorem J8 {v:pO} (i:Int) (hn:v.1.length<9223372036854775807) (hn2:v.2.length<9223372036854775807):bR v i=some (sA v i):=by
 unfold bR sA;simp only[tX,oX];cases hi:pa i 1 6 with
 | false=>rfl
 | true =>
  rw[FP hi hn,BL hn hn2];cases ((v.2.length:Int) != i)<;>cases decide ((v.1.length:Int)>6)<;>cases (List.range v.1.length).any (wm v i)<;>cases (List.range v.2.length).any (zl v)<;>rfl
theorem J9 {v:pO} (i:Int) (hn:v.1.length<9223372036854775807) (hn2:v.2.length<9223372036854775807) (hw:∀r∈v.1,-9223372036854775808<=r.2.2/\r.2.2<=9223372036854775807):dh v i=some (sA v i):=by
 unfold dh sA;simp only[AP,oX,J7];cases hi:pa i 1 6 with
 | false=>rfl
 | true =>
  obtain⟨t,h1,h2⟩:=JO hi;rw[h1,oX,EB hi h2 hn hw,BL hn hn2];cases ((v.2.length:Int) != i)<;>cases decide ((v.1.length:Int)>6)<;>cases (List.range v.1.length).any (wm v i)<;>cases (List.range v.2.length).any (zl v)<;>rfl
def yw (l:List Pt) (k:Nat):Bool:=match l[k]? with|some p=>!(ux p)|none=>false
def rB (b:oU):Bool:=pa b.2.2.2.2.2.2.1 0 1000000&&(pa b.2.2.2.2.2.2.2.1 0 1000000&&(pa b.2.2.2.2.2.2.2.2.1 0 1000000&&(pa b.2.2.2.2.2.2.2.2.2.1 0 1000000&&pa b.2.2.2.2.2.2.2.2.2.2 0 1000000)))
noncomputable def qh (b:oU):Bool:=!((List.range b.2.2.1.length).any (yw b.2.2.1))&&(pa b.1 1 99&&(!(decide ((b.2.1.length:Int)>10))&&(pa (b.2.2.1.length:Int) 1 6&&(uo b.2.2.2.1&&(sA (b.2.2.2.2.1,b.2.2.2.2.2.1) (b.2.2.1.length:Int)&&rB b)))))
structure ta (b:oU):Prop where
 p:b.2.2.1.length<9223372036854775807
 f:b.2.2.2.1.length<9223372036854775807
 v:b.2.2.2.2.1.length<9223372036854775807
 q:b.2.2.2.2.2.1.length<9223372036854775807
 r:∀r∈b.2.2.2.2.1,-9223372036854775808<=r.2.2/\r.2.2<=9223372036854775807
theorem EC {b:oU} (h:ta b):loop (λz=>eE b z) 0=some (cond ((List.range b.2.2.1.length).any (yw b.2.2.1)) (Sum.inr false) (Sum.inl ())):=by
 rw[←un (n:=b.2.2.1.length) (c:=λt8=>(at? b.2.2.1 t8).bind λx10=>(cw x10).bind λt13=>some (!t13)) (b:=yw b.2.2.1) h.p (λk hk=>by
  simp only[pv hk,oX,yw,List.getElem?_eq_getElem hk,K7])]
 refine tI (λi=>?_) 0;unfold eE;simp only[Option.bind_assoc,oX]
theorem Dv {b:oU} (h:ta b):loop (λz=>ei b z) 0=some (cond ((List.range b.2.2.1.length).any (yw b.2.2.1)) (Sum.inr false) (Sum.inl ())):=by
 rw[←un (n:=b.2.2.1.length) (c:=λt8=>(at? b.2.2.1 t8).bind λx10=>(cn x10).bind λt13=>some (!t13)) (b:=yw b.2.2.1) h.p (λk hk=>by
  simp only[pv hk,oX,yw,List.getElem?_eq_getElem hk,K8])]
 refine tI (λi=>?_) 0;unfold ei;simp only[Option.bind_assoc,oX]
theorem HG (b:oU):dj b=some (rB b):=by
 unfold dj rB;simp only[AP,oX];cases pa b.2.2.2.2.2.2.1 0 1000000<;>cases pa b.2.2.2.2.2.2.2.1 0 1000000<;>cases pa b.2.2.2.2.2.2.2.2.1 0 1000000<;>cases pa b.2.2.2.2.2.2.2.2.2.1 0 1000000<;>rfl
theorem Iv (n:Int):az n=some (pa n 0 1000000):=by unfold az;rw[tX,oX]
theorem vL {b:oU} (h:ta b):av b=some (qh b):=by
 unfold av qh rB;rw[EC h,oX];cases (List.range b.2.2.1.length).any (yw b.2.2.1)with
 | true=>rfl
 | false =>
  simp only[cF,Sum.elim_inl,tX,GK h.f,J8 (v:=(b.2.2.2.2.1,b.2.2.2.2.2.1)) _ h.v h.q,Iv,oX];cases pa b.1 1 99<;>cases decide ((b.2.1.length:Int)>10)<;>cases pa (b.2.2.1.length:Int) 1 6<;>cases uo b.2.2.2.1<;>cases sA (b.2.2.2.2.1,b.2.2.2.2.2.1) (b.2.2.1.length:Int) <;>
   cases pa b.2.2.2.2.2.2.1 0 1000000<;>cases pa b.2.2.2.2.2.2.2.1 0 1000000<;>cases pa b.2.2.2.2.2.2.2.2.1 0 1000000<;>cases pa b.2.2.2.2.2.2.2.2.2.1 0 1000000<;>rfl
theorem Bf {b:oU} (h:ta b):co b=some (qh b):=by
 unfold co qh;rw[Dv h,oX];cases (List.range b.2.2.1.length).any (yw b.2.2.1)with
 | true=>rfl
 | false =>
  have e:decide ((b.2.1.length:Int)<=10)=!(decide ((b.2.1.length:Int)>10)):=by
   by_cases hh:(b.2.1.length:Int)>10
   · rw[dT hh,dF (by omega)];rfl
   · rw[dF hh,dT (by omega)];rfl
  simp only[cF,Sum.elim_inl,AP,It h.f,J9 (v:=(b.2.2.2.2.1,b.2.2.2.2.2.1)) _ h.v h.q h.r,HG,oX,e];cases pa b.1 1 99<;>cases decide ((b.2.1.length:Int)>10)<;>cases pa (b.2.2.1.length:Int) 1 6<;>cases uo b.2.2.2.1<;>cases sA (b.2.2.2.2.1,b.2.2.2.2.2.1) (b.2.2.1.length:Int)<;>cases rB b<;>rfl
theorem H9:dk=bo:=rfl
theorem Ha (a b:sw):∃r,bo a b=some r:=by
 unfold bo;cases (a.1 != b.1)<;>cases (a.2.1 != b.2.1)<;>cases (a.2.2.2.1 != b.2.2.2.1)<;>exact⟨_,rfl⟩
theorem Ja:ek=bM:=rfl
theorem Jb (v:sw) (c:Int):∃r,bM v c=some r:=by
 unfold bM;simp only[CO,tX,oX];cases yf v<;>cases pa c 1 1000<;>first|exact⟨_,rfl⟩|skip
 generalize yf (v.1,oT (v.2.1+c),oT (v.2.2.1+1),v.2.2.2.1,v.2.2.2.2)=q;cases q<;>exact⟨_,rfl⟩
theorem Jc (p0:Int) (l:List Pt) (t8 t9 b0 b1 b2 b3 b4 c0 c1 c2 c3 c4:Int):em p0 l t8 t9 b0 b1 b2 b3 b4 c0 c1 c2 c3 c4=bp p0 l t8 t9 b0 b1 b2 b3 b4 c0 c1 c2 c3 c4:=by
 unfold em bp;rw[Ja,H9];cases h:at? l t9 with
 | none=>rfl
 | some x=>simp only[oX]
theorem Hb:cp=aJ:=by
 funext p0 l
 unfold cp aJ;rw[tI (λz=>Jc p0 l _ _ _ _ _ _ _ _ _ _ _ _)]
theorem Jd (p0:Int) {l:List Pt} (hn:l.length<9223372036854775807):∃r,aJ p0 l=some r:=by
 unfold aJ;obtain⟨b,h1,_⟩:=qf (step:=λz:Int×Int×Int×Int×Int×Int×Int×Int×Int×Int×Int×Int=>bp p0 l z.1 z.2.1 z.2.2.1 z.2.2.2.1 z.2.2.2.2.1 z.2.2.2.2.2.1 z.2.2.2.2.2.2.1 z.2.2.2.2.2.2.2.1 z.2.2.2.2.2.2.2.2.1 z.2.2.2.2.2.2.2.2.2.1 z.2.2.2.2.2.2.2.2.2.2.1 z.2.2.2.2.2.2.2.2.2.2.2)
  (λk z=>z.2.1=(k:Int)) l.length (λ_=>True)
  (λk z hk h=>by
   left;obtain⟨t7,t18,b0,b1,b2,b3,b4,c0,c1,c2,c3,c4⟩:=z;obtain rfl:t18=(k:Int):=h;unfold bp;simp only[qD (show (k:Int)<(l.length:Int) by omega),cT,pv hk,oX];rw[show oT ((k:Int)+1)=((k+1:Nat):Int)from pz (by omega)];generalize l[k]=x;have e:(cond (!x.1) (some true) (some (!x.2.2.1)):Option Bool)=some (cond (!x.1) true (!x.2.2.1)):=by cases x.1<;>rfl
   rw[e,oX];cases (cond (!x.1) true (!x.2.2.1))with
   | true=>exact⟨_,rfl,rfl⟩
   | false =>
    obtain⟨r,hr⟩:=Jb x.2.2.2 x.2.1;obtain⟨q,hq⟩:=Ha r.1 (c0,c1,c2,c3,c4);rw[cF,hr,oX,hq];cases r.2<;>cases decide (r.1.1<p0)<;>cases decide (t7<0)<;>cases q<;>exact⟨_,rfl,rfl⟩)
  (λz h=>by
   obtain⟨t7,t18,b0,b1,b2,b3,b4,c0,c1,c2,c3,c4⟩:=z;obtain rfl:t18=(l.length:Int):=h;unfold bp;simp only[pU (show ¬(l.length:Int)<(l.length:Int) by omega),cF];exact⟨_,rfl,trivial⟩) (x:=((-1),0,p0,0,0,p0,0,0,0,0,0,0)) rfl
 rw[h1,oX];exact⟨_,rfl⟩
theorem JP:dl=bN:=by
 funext id l p
 unfold dl bN;rw[Hb]
theorem Je:dn=au:=by
 funext id l p
 unfold dn au;rw[Hb,JP,H9];rfl
theorem Jf (id:Int) {l:List Pt} (hn:l.length<9223372036854775807) (p:Int):∃r,au id l p=some r:=by
 obtain⟨v,hv⟩:=Jd id hn;unfold au bN;simp only[tX,oX,hv];rw[show oT ((l.length:Int)-1)=(l.length:Int)-1 from sr (by omega) (by omega)];cases hp:pa p 0 ((l.length:Int)-1)with
 | false=>exact⟨_,rfl⟩
 | true =>
  unfold pa at hp;simp only[aT,decide_eq_true_eq]at hp;obtain⟨k,rfl⟩:∃k:Nat,p=(k:Int):=⟨p.toNat,by omega⟩;simp only[pv (show k<l.length by omega),oX];generalize l[k]'(by omega)=x;obtain⟨q,hq⟩:=Ha (v.1.1,v.1.2.1,v.1.2.2.1,v.1.2.2.2.1,(k:Int)) x.2.2.2;rw[hq];cases x.1<;>cases (v.2==(k:Int))<;>cases x.2.2.1<;>cases q<;>exact⟨_,rfl⟩
theorem HH {α:Type} {xs ys:List α} (h:xs.length+ys.length<=4294967296):pL xs ys=some (xs++ys):=by
 unfold pL;rw[if_pos (show xs.length+ys.length<=yy from h)]
noncomputable def to (id:Int) (l:List Pt) (p:Int):Int:=(au id l p).getD 0
theorem yg (id:Int) {l:List Pt} (hn:l.length<9223372036854775807) (p:Int):au id l p=some (to id l p):=by
 obtain⟨r,hr⟩:=Jf id hn p;unfold to;rw[hr];rfl
def ED (l:List Int) (x:Int):Bool:=decide (x∈l)
def vc (b:Nat->Bool) (m:Nat):List Int:=((List.range m).filter b).map λ(k:Nat)=>(k:Int)
theorem GL (b:Nat->Bool) (m:Nat):(vc b m).length<=m:=by
 unfold vc;rw[List.length_map];exact Nat.le_trans (List.length_filter_le _ _) (by simp)
theorem EE (b:Nat->Bool) (m:Nat):vc b (m+1)=cond (b m) (vc b m++[(m:Int)]) (vc b m):=by
 unfold vc;rw[List.range_succ,List.filter_append,List.map_append];cases h:b m<;>simp[h]
theorem tM {n:Nat} {c:Int->Option Bool} {b:Nat->Bool} (hn:n<=1048576) (hc:∀k,k<n->c (k:Int)=some (b k)) :
 loop (λz:Int×List Int=>cond (decide (z.1<(n:Int))) ((c z.1).bind λt=>cond t ((pL z.2 [z.1]).bind λzs=>some (.inl (oT (z.1+1),zs))) (some (.inl (oT (z.1+1),z.2)))) (some (.inr z.2))) (0,([]:List Int))=some (vc b n):=by
 obtain⟨v,h1,rfl⟩:=qf (step:=λz:Int×List Int=>cond (decide (z.1<(n:Int))) ((c z.1).bind λt=>cond t ((pL z.2 [z.1]).bind λzs=>some (.inl (oT (z.1+1),zs))) (some (.inl (oT (z.1+1),z.2)))) (some (.inr z.2))) (λk z=>z.1=(k:Int)/\z.2=vc b k) n (λl=>l=vc b n)
  (λk z hk ⟨e1,e2⟩=>by
   obtain⟨i,l⟩:=z;simp only at e1 e2;subst e1 e2;left;have hle:=GL b k
   refine⟨(oT ((k:Int)+1),vc b (k+1)),?_,pz (by omega),rfl⟩;simp only[qD (show (k:Int)<(n:Int) by omega),cT,hc k hk,oX];rw[EE];cases b k with
   | false=>rfl
   | true=>rw[cT,HH (by simp;omega)];rfl)
  (λz ⟨e1,e2⟩=>by
   obtain⟨i,l⟩:=z;simp only at e1 e2;subst e1 e2;exact⟨_,by simp only[pU (show ¬(n:Int)<(n:Int) by omega),cF],rfl⟩) (x:=(0,[])) ⟨rfl,rfl⟩
 exact h1
def DQ (l:List Bool):Nat:=l.count true
theorem Iw (l:List Bool):DQ l<=l.length:=List.count_le_length
theorem HI {l:List Bool} {i:Nat} (h:l[i]?=some false):DQ (l.set i true)=DQ l+1:=by
 obtain⟨hi,he⟩:=List.getElem?_eq_some_iff.1 h;unfold DQ;rw[List.count_set hi,he];simp
theorem CQ {n:Nat} {i:Int} (h:pa i 0 ((n:Int)-1)=true):∃k:Nat,k<n/\i=(k:Int):=by
 unfold pa at h;simp only[aT,decide_eq_true_eq]at h;exact⟨i.toNat,by omega,by omega⟩
theorem CR {n k:Nat} (h:k<n):pa (k:Int) 0 ((n:Int)-1)=true:=by
 unfold pa;rw[dT (by omega),dT (by omega)];rfl
structure CS (X:List Int) (l:List Bool):Prop where
 r:∀x∈X,∃k:Nat,k<l.length/\x=(k:Int)
 m:∀k,k<l.length->l[k]?=some (ED X (k:Int))
 c:X.length=DQ l
theorem CS.len {X:List Int} {l:List Bool} (h:CS X l):X.length<=l.length:=by rw[h.c];exact Iw l
theorem CS.add {X:List Int} {l:List Bool} (h:CS X l) {i:Nat} (hi:l[i]?=some false):CS (X++[(i:Int)]) (l.set i true):=by
 obtain⟨hi',he⟩:=List.getElem?_eq_some_iff.1 hi;refine⟨λx hx=>?_,λk hk=>?_,?_⟩
 · rw[length_set];rcases mem_append.1 hx with hx|hx
   · exact h.r x hx
   · simp at hx;exact⟨i,hi',hx⟩
 · rw[length_set]at hk;rw[List.getElem?_set];split
   · rename_i e;subst e;rw[show ED (X++[(i:Int)]) (i:Int)=true from dT (by simp)]
   · rename_i e;rw[h.m k hk]
     congr 1
     unfold ED;apply decide_eq_decide.2;rw[mem_append,mem_singleton];constructor
     · exact .inl
     · rintro (h|h)
       · exact h
       · omega
 · rw[length_append,HI hi,h.c];rfl
theorem CS.in {X:List Int} {l:List Bool} (h:CS X l) {x:Int} (hx:ED X x=true):pa x 0 ((l.length:Int)-1)=true:=by
 obtain⟨k,hk,rfl⟩:=h.r x (of_decide_eq_true hx);exact CR hk
def start (n:Nat) (b:Nat):List Bool:=(List.replicate n false).set b true
theorem Jg (id:Int) {l:List Pt} (hn:l.length<9223372036854775807) (p:Int):1<=to id l p:=by
 have h:=yg id hn p
 revert h
 generalize to id l p=v;unfold au;rw[tX,oX];intro h;have key:∀(o:Option Bool) (f:Bool->Option Int),(∀t x,f t=some x->1<=x)->o.bind f=some v->1<=v:=by
  intro o f hf h;cases o with
  | none=>cases h
  | some t=>exact hf t v h
 refine key _ _ (λt x hx=>?_) h;cases t with
 | true=>cases hx;decide
 | false =>
  rw[cF]at hx;cases hbv:aJ id l with
  | none=>rw[hbv]at hx;cases hx
  | some w =>
   rw[hbv,oX]at hx;cases hw:w.2==p with
   | true=>rw[hw]at hx;cases hx;decide
   | false =>
    rw[hw,cF]at hx;cases ha:at? l p with
    | none=>rw[ha]at hx;cases hx
    | some y =>
     rw[ha,oX]at hx
     revert hx
     generalize (cond (!y.2.2.1) _ _:Option Bool)=o;intro hx;cases o with
     | none=>cases hx
     | some t=>cases t<;>(cases hx;decide)
theorem yh {k:Nat} (h:k<64):IntKind.u64.wrap (k:Int)=(k:Int):=by
 show ((k:Int)%18446744073709551616)=_;omega
theorem Jh:∀b:Fin 64,∀p:Fin 6,∃t c,shl .i64 1 (p.1:Int)=some t/\Aa .i64 (b.1:Int) t=(c:Int)/\0<=c/\c<64:=by
 intro b p;have h:∀b:Fin 64,∀p:Fin 6,(decide (0<=Aa .i64 (b.1:Int) (2^p.1))&&decide (Aa .i64 (b.1:Int) (2^p.1)<64))=true:=by decide
 have h1:=h b p;simp only[aT,decide_eq_true_eq]at h1;have h2:∀p:Fin 6,shl .i64 1 (p.1:Int)=some (2^p.1):=by decide
 exact⟨_,_,h2 p,rfl,h1.1,h1.2⟩
theorem Ix {r:Int} (h:1<=r):decide (r<=2)=(r==1||r==2):=by
 by_cases h2:r<=2
 · rw[dT h2];rcases (show r=1\/r=2 by omega)with rfl|rfl<;>rfl
 · rw[dF h2,beq_eq_false_iff_ne.2 (show r≠1 by omega),beq_eq_false_iff_ne.2 (show r≠2 by omega)];rfl
theorem AR (id:Int) {l:List Pt} (hn:l.length<9223372036854775807) (z:Int×Int) (hz:0<=z.2):cq id l z.1 z.2=ak id l z.1 z.2:=by
 unfold cq ak;rw[Je,yg id hn,oX];have hr:=Jg id hn z.2
 by_cases h1:z.2<(l.length:Int)
 · rw[qD h1,cT];by_cases h2:z.2<6
   · rw[qD h2,oX,oX,cT,cT,oX,Ix hr];obtain⟨k,hk⟩:∃k:Nat,z.2=(k:Int):=⟨z.2.toNat,by omega⟩;rw[hk,yh (by omega)];cases to id l (k:Int)==1<;>cases to id l (k:Int)==2<;>rfl
   · rw[pU h2];rfl
 · rw[pU h1];rfl
theorem CU (id:Int) {l:List Pt} (hn:l.length<9223372036854775807):∃c:Nat,c<64/\bQ id l=some (c:Int)/\cr id l=some (c:Int):=by
 obtain⟨v,h1,c,h2,rfl⟩:=qf (step:=λz:Int×Int=>ak id l z.1 z.2) (λk z=>z.2=(k:Int)/\∃c:Nat,c<64/\z.1=(c:Int)) (min l.length 6) (λv=>∃c:Nat,c<64/\v=(c:Int))
  (λk z hk ⟨e1,c,e2,e3⟩=>by
   obtain⟨b,i⟩:=z;simp only at e1 e3;subst e1 e3;left;have k6:k<6:=by omega
   obtain⟨t,d,b1,b2,b3,b4⟩:=Jh ⟨c,e2⟩ ⟨k,k6⟩;have hs:ak id l (c:Int) (k:Int)=cond (to id l (k:Int)==1||to id l (k:Int)==2) (some (.inl ((d:Int),((k+1:Nat):Int)))) (some (.inl ((c:Int),((k+1:Nat):Int)))):=by
    unfold ak;rw[qD (show (k:Int)<(l.length:Int) by omega),qD (show (k:Int)<6 by omega),cT,oX,cT,yg id hn,oX,b1,oX,b2,pz (by omega)];cases to id l (k:Int)==1<;>cases to id l (k:Int)==2<;>rfl
   show ∃y,ak id l (c:Int) (k:Int)=_/\_;rw[hs];cases (to id l (k:Int)==1||to id l (k:Int)==2)with
   | true=>exact⟨_,rfl,rfl,d.toNat,by omega,by show d=_;omega⟩
   | false=>exact⟨_,rfl,rfl,c,e2,rfl⟩)
  (λz ⟨e1,c,e2,e3⟩=>by
   obtain⟨b,i⟩:=z;simp only at e1 e3;subst e1 e3;refine⟨(c:Int),?_,c,e2,rfl⟩;show ak id l _ _=_
   unfold ak;by_cases h:l.length<=6
   · rw[Nat.min_eq_left h,pU (by omega)];rfl
   · rw[Nat.min_eq_right (by omega),qD (by omega),pU (show ¬(((6:Nat):Int)<6) by omega)];rfl) (x:=(0,0)) ⟨rfl,0,by omega,rfl⟩
 refine⟨c,h2,by unfold bQ;rw[h1];rfl,?_⟩;unfold cr;rw[EA (f:=λz:Int×Int=>cq id l z.1 z.2) (g:=λz:Int×Int=>ak id l z.1 z.2) (λz=>0<=z.2/\z.2<=9223372036854775806) (λz hz=>AR id hn z hz.1) (λz y hz hy=>by
  have hy':cq id l z.1 z.2=some (.inl y):=hy;rw[AR id hn z hz.1]at hy';unfold ak at hy';by_cases h1:z.2<(l.length:Int)
  · by_cases h2:z.2<6
    · rw[qD h1,qD h2,cT,oX,cT,yg id hn,oX]at hy';have hw:oT (z.2+1)=z.2+1:=sr (by omega) (by omega)
      rw[hw]at hy'
      revert hy'
      generalize (cond (to id l z.2==1) (some true) (some (to id l z.2==2)))=o;intro hy';cases o with
      | none=>cases hy'
      | some t =>
       rw[oX]at hy';cases t with
       | false=>cases hy';exact⟨by show 0<=z.2+1;omega,by show z.2+1<=_;omega⟩
       | true =>
        rw[cT]at hy';cases hs:shl .i64 1 z.2 with
        | none=>rw[hs]at hy';cases hy'
        | some q=>rw[hs]at hy';cases hy';exact⟨by show 0<=z.2+1;omega,by show z.2+1<=_;omega⟩
    · rw[qD h1,pU h2]at hy';cases hy'
  · rw[pU h1]at hy';cases hy') (x:=(0,0)) ⟨by decide,by decide⟩,h1]
 rfl
def sd (c:Nat) (p:Int):Bool:=cond (pa p 0 7) (match shr .i64 (c:Int) p with|some t=>(rb .i64 t 1)==1|none=>false) false
theorem JQ (c:Nat) (p:Int):ai (c:Int) p=some (sd c p):=by
 unfold ai sd;rw[AP,oX];cases h:pa p 0 7 with
 | false=>rfl
 | true =>
  obtain⟨k,hk,rfl⟩:=CQ (n:=8) h;rw[yh (by omega),cT,cT];have:∃t,shr .i64 (c:Int) (k:Int)=some t:=by unfold shr;rw[if_neg (by omega)];exact⟨_,rfl⟩
  obtain⟨t,ht⟩:=this;rw[ht];rfl
theorem JR {c:Nat} (hc:c<64) (p:Int):ae (c:Int) p=some (sd c p):=by
 unfold ae sd;rw[tX,oX];cases h:pa p 0 62 with
 | false =>
  have h7:pa p 0 7=false:=by
   cases h7:pa p 0 7 with
   | false=>rfl
   | true =>
    obtain⟨k,hk,rfl⟩:=CQ (n:=8) h7;have:pa (k:Int) 0 ((63:Nat)-1:Int)=true:=CR (by omega)
    exact absurd (h.symm.trans this) (by decide)
  rw[h7];rfl
 | true =>
  obtain⟨k,hk,rfl⟩:=CQ (n:=63) h;have hs:shr .i64 (c:Int) (k:Int)=some ((c:Int).fdiv (2^(min k 64))):=by unfold shr;rw[if_neg (by omega)];rfl
  rw[cT,hs,oX,oX];by_cases h7:k<8
  · rw[show pa (k:Int) 0 7=true from CR (n:=8) h7];rfl
  · rw[show pa (k:Int) 0 7=false from by unfold pa;rw[dF (show ¬(k:Int)<=7 by omega),Bool.and_false],cF];have hz:(c:Int).fdiv (2^(min k 64))=0:=by
     rw[Nat.min_eq_left (by omega)];have h2:(c:Int)<2^k:=by
      have:2^6<=2^k:=Nat.pow_le_pow_right (by decide) (by omega);have h3:c<2^k:=by omega
      exact_mod_cast h3
     rw[Int.fdiv_eq_ediv_of_nonneg _ (by exact_mod_cast Nat.zero_le _)];exact Int.ediv_eq_zero_of_lt (by omega) h2
    rw[hz];rfl

abbrev K9 (x:Int):Prop:=-9223372036854775808<=x/\x<=9223372036854775807
structure VT (v:pO) (n:Nat):Prop where
 p:sA v (n:Int)=true
 r:∀r∈v.1,K9 r.2.2
theorem VT.len {v:pO} {n:Nat} (h:VT v n):1<=n/\n<=6/\v.2.length=n/\v.1.length<=6:=by
 have hp:=h.p;unfold sA pa at hp;simp only[aT,Bool.not_eq_true',Bool.or_eq_false_iff,Bool.not_eq_false',aT,decide_eq_true_eq,decide_eq_false_iff_not,bne_eq_false_iff_eq]at hp;obtain⟨⟨h1,h2,h3⟩,_⟩:=hp;omega
theorem AS {α:Type} {l:List α} {a b:Nat} (h1:a<=b) (h2:b<=l.length):cut l (a:Int) (b:Int)=some ((l.take b).drop a):=by
 unfold cut;rw[if_pos (by omega),if_pos (by omega),if_pos (by omega)];simp
theorem rI {α:Type} {xs ys:List α} (h:xs.length+ys.length<=4294967296):pL xs ys=some (xs++ys):=by
 unfold pL;rw[if_pos (show xs.length+ys.length<=yy from h)]
def lt (a b:oV):Prop:=a.1<b.1\/(a.1=b.1/\a.2.1<b.2.1)
def same (a b:oV):Prop:=a.1=b.1/\a.2.1=b.2.1
theorem lt_trans {a b c:oV} (h:lt a b) (k:lt b c):lt a c:=by unfold lt at *;omega
theorem Ji {a b:oV} (h:lt a b):¬same a b:=by unfold lt same at *;omega
structure FB (l:List oV):Prop where
 e:∀x∈l,tV x=true
 o:l.Pairwise lt
 n:l.length<=12
theorem FB.ok {l:List oV} (h:FB l):uo l=true:=by
 unfold uo;have hn:=h.n
 rw[dT (show (l.length:Int)<=12 by omega),Bool.and_true,Bool.not_eq_true'];apply Bool.eq_false_iff.2;intro ha;obtain⟨k,hk,hx⟩:=List.any_eq_true.1 ha;have hk:=mem_range.1 hk
 unfold ui at hx;simp only[List.getElem?_eq_getElem hk,h.e _ (getElem_mem hk),Bool.not_true,Bool.false_or,aT,decide_eq_true_eq]at hx;obtain⟨h0,hx⟩:=hx;simp only[List.getElem?_eq_getElem (show k-1<l.length by omega),Bool.not_eq_true']at hx;have hl:=pairwise_iff_getElem.1 h.o (k-1) k (by omega) hk (by omega)
 unfold qu at hx;simp only[Bool.or_eq_false_iff,Bool.and_eq_false_iff,decide_eq_false_iff_not,bF]at hx;unfold lt at hl;omega
def su (x e:oV):Bool:=cond (x.1 != e.1) (decide (x.1<e.1)) (decide (x.2.1<e.2.1))
theorem CV {x e:oV} (h:su x e=true):lt x e:=by
 unfold su at h;unfold lt;by_cases hx:x.1=e.1
 · rw[show (x.1 != e.1)=false by simp[hx],cF]at h;exact .inr ⟨hx,of_decide_eq_true h⟩
 · rw[show (x.1 != e.1)=true from bne_iff_ne.2 hx,cT]at h;exact .inl (of_decide_eq_true h)
theorem FQ {x e:oV} (h:su x e=false):lt e x\/same x e:=by
 unfold su at h;unfold lt same;by_cases hx:x.1=e.1
 · rw[show (x.1 != e.1)=false by simp[hx],cF]at h;have:=of_decide_eq_false h
   omega
 · rw[show (x.1 != e.1)=true from bne_iff_ne.2 hx,cT]at h;have:=of_decide_eq_false h
   omega
def rS (x e:oV):Bool:=x.1 != e.1||x.2.1 != e.2.1
theorem EF {x e:oV} (h:rS x e=true):¬same x e:=by
 unfold rS at h;unfold same;simp only[Bool.or_eq_true,bne_iff_ne]at h;omega
theorem Dw {x e:oV} (h:rS x e=false):same x e:=by
 unfold rS at h;unfold same;simp only[Bool.or_eq_false_iff,bne_eq_false_iff_eq]at h;exact h
def JA (name:List Int) (n:Int):pc:=([1,3,1]++name,2,n,[],[])
structure sc (b:oU):Prop where
 w:ta b
 ok:qh b=true
 p:∀x∈b.2.2.1,ux x=true
 id:pa b.1 1 99=true
 name:b.2.1.length<=10
 n1:1<=b.2.2.1.length
 n6:b.2.2.1.length<=6
 f:uo b.2.2.2.1=true
 v:sA (b.2.2.2.2.1,b.2.2.2.2.2.1) (b.2.2.1.length:Int)=true
 c:rB b=true
theorem BM {b:oU} (h:ta b) (hb:qh b=true):sc b:=by
 have hb':=hb;unfold qh at hb;simp only[aT,Bool.not_eq_true',decide_eq_false_iff_not]at hb;obtain⟨h1,h2,h3,h4,h5,h6,h7⟩:=hb;refine⟨h,hb',λx hx=>?_,h2,by omega,?_,?_,h5,h6,h7⟩
 · obtain⟨k,hk,rfl⟩:=getElem_of_mem hx;cases hp:ux b.2.2.1[k]with
   | true=>rfl
   | false =>
    have:=any_eq_false.1 h1 k (mem_range.2 hk);unfold yw at this;simp only[List.getElem?_eq_getElem hk,hp]at this;exact absurd rfl this
 · unfold pa at h4;simp only[aT,decide_eq_true_eq]at h4;omega
 · unfold pa at h4;simp only[aT,decide_eq_true_eq]at h4;omega
theorem sc.vt {b:oU} (h:sc b):VT (b.2.2.2.2.1,b.2.2.2.2.2.1) b.2.2.1.length:=⟨h.v,h.w.r⟩
theorem sc.f12 {b:oU} (h:sc b):b.2.2.2.1.length<=12:=by
 have hf:=h.f;unfold uo at hf;simp only[aT,decide_eq_true_eq]at hf;omega
theorem CW {α:Type} {R:α->α->Prop} (tr:∀a b c,R a b->R b c->R a c) {l:List α} (h:∀k (hk:k+1<l.length),R l[k] l[k+1]):l.Pairwise R:=by
 rw[pairwise_iff_getElem];intro i j hi hj hij
 induction j with
 | zero=>omega
 | succ j ih =>
  by_cases e:i=j
  · subst e;exact h i hj
  · exact tr _ _ _ (ih (by omega) (by omega)) (h j hj)
theorem FR {b:oU} (h:sc b):b.2.2.2.2.1.Pairwise λr s=>r.1<s.1:=by
 refine CW (R:=λ(r s:pm)=>r.1<s.1) (λ_ _ _ h k=>Int.lt_trans h k) λk hk=>?_;have hv:=h.v
 unfold sA at hv;simp only[aT,Bool.not_eq_true']at hv;have hx:=any_eq_false.1 hv.2.1 (k+1) (mem_range.2 hk)
 unfold wm at hx;simp only[List.getElem?_eq_getElem hk,Nat.add_sub_cancel,List.getElem?_eq_getElem (show k<b.2.2.2.2.1.length by omega),Bool.or_eq_true,aT,decide_eq_true_eq,not_or,not_and]at hx;have:=hx.2.1 (by omega)
 omega
theorem Hc {a b:List Int} (h:b.length<9223372036854775807):aK a b=some (a==b):=by
 unfold aK;by_cases hl:a.length=b.length
 · have e:((a.length:Int) != (b.length:Int))=false:=by rw[hl];simp
   rw[e,cF];obtain⟨v,h1,rfl⟩:=qf (step:=λz=>bJ a b z) (λk i=>i=(k:Int)/\a.take k=b.take k) a.length (λv=>v=cond (a==b) (.inl ()) (.inr false))
    (λk i hk ⟨e,ht⟩=>by
     subst e;have hb:k<b.length:=by omega
     have hs:bJ a b (k:Int)=cond (a[k] != b[k]) (some (.inr (.inr false))) (some (.inl ((k+1:Nat):Int))):=by
      unfold bJ;rw[qD (by omega),cT,pv hk,oX,pv hb,oX,pz (by omega)]
     by_cases hne:a[k]=b[k]
     · refine .inl ⟨_,by rw[hs,show (a[k] != b[k])=false by simp[hne]];rfl,rfl,?_⟩;rw[take_add_one,take_add_one,List.getElem?_eq_getElem hk,List.getElem?_eq_getElem hb,ht,hne]
     · refine .inr ⟨_,by rw[hs,show (a[k] != b[k])=true from bne_iff_ne.2 hne];rfl,?_⟩;have:(a==b)=false:=by
        apply beq_eq_false_iff_ne.2;intro hab;subst hab;exact hne rfl
       rw[this];rfl)
    (λi ⟨e,ht⟩=>by
     subst e;have hab:a=b:=by
      rw[take_length,take_of_length_le (by omega)]at ht;exact ht
     exact⟨.inl (),by show bJ a b _=_;unfold bJ;rw[pU (by omega),cF],by rw[show (a==b)=true from beq_iff_eq.2 hab];rfl⟩) (x:=0) ⟨rfl,by simp⟩
   rw[h1,oX];cases (a==b)<;>rfl
 · have e:((a.length:Int) != (b.length:Int))=true:=by simp;omega
   have hne:(a==b)=false:=beq_eq_false_iff_ne.2 λh=>hl (by rw[h]);rw[e,cT,hne]
structure Nm (o:List Int):Prop where
 n1:1<=o.length
 n10:o.length<=10
 e:∀x∈o,pa x 0 100000=true
theorem Nm.ok {o:List Int} (h:Nm o):ah o=some true:=by
 have h10:=h.n10;have h1:=h.n1
 unfold ah;obtain⟨v,e,rfl⟩:=qf (step:=λz=>bI o z) (λk i=>i=(k:Int)) o.length (λv=>v=.inl ())
  (λk i hk e=>by
   subst e;refine .inl ⟨((k+1:Nat):Int),?_,rfl⟩;show bI o (k:Int)=_
   unfold bI;rw[qD (by omega),cT,pv hk,oX,tX,oX,h.e _ (getElem_mem hk),pz (by omega)];rfl)
  (λi e=>by
   subst e;exact⟨.inl (),by show bI o _=_;unfold bI;rw[pU (by omega),cF],rfl⟩) (x:=0) rfl
 rw[e,oX];show ((a6 (o.length:Int) 1 10).bind λt=>some t)=_
 rw[tX,oX];unfold pa;rw[dT (by omega),dT (by omega)];rfl
inductive Vl:ub->Prop
 | JA {n:Int} (h:pa n (-2147483648) 2147483647=true):Vl (2,n,[],[])
 | word {s:List UInt8} (h:s.length<=20):Vl (4,0,s,[])
theorem Vl.ok {v:ub} (h:Vl v):ac v=some true:=by
 cases h with
 | JA h =>
  unfold ac aj aH;simp only[tX,h,oX,Hc (show ([]:List Int).length<9223372036854775807 by decide)];simp
 | word h =>
  rename_i s;have hd:decide ((s.length:Int)<=20)=true:=dT (by omega)
  unfold ac aH;simp only[hd,oX,Hc (show ([]:List Int).length<9223372036854775807 by decide)];simp
theorem Vl.k {v:ub} (h:Vl v):(v.1==128)=false:=by cases h<;>rfl
theorem Vl.o {v:ub} (h:Vl v):v.2.2.2=[]:=by cases h<;>rfl
theorem FS {n a c:Int} (h1:a<=n) (h2:n<=c):pa n a c=true:=by unfold pa;rw[dT (by omega),dT (by omega)];rfl
structure At (m:List pc) (o:List Int) (j:Nat):Prop where
 le:j<=m.length
 no:∀i (hi:i<m.length),i<j->¬o<m[i].1
 zL:∀i (hi:i<m.length),j<=i->o<m[i].1
theorem th {α:Type} {ys:List α} (h:ys.length<=M):pL [] ys=some ys:=by
 unfold pL;rw[if_pos (by show 0+ys.length<=4294967296;have h':ys.length<=1048576:=h;omega)];rfl
theorem GM {l:List Int} (h:l.length<=M):aL l=some l:=by unfold aL;rw[th h];rfl
theorem FT {l:List Int} (h:l.length<=M):ay l=some l:=by unfold ay;rw[th h];rfl
theorem uY {l:List oV} (h:l.length<=M):aM l=some l:=by unfold aM;rw[th h];rfl
theorem CX {l:List oV} (h:l.length<=M):ci l=some l:=by unfold ci;rw[th h];rfl
theorem GN {v:pO} (h:v.1.length<=M/\v.2.length<=M):bq v=some v:=by
 unfold bq;rw[th h.1,oX,GM h.2];rfl
theorem FU {v:pO} (h:v.1.length<=M/\v.2.length<=M):de v=some v:=by
 unfold de;rw[th h.1,oX,th h.2];rfl
theorem qE {b:oU} (h:sx M b):a8 b=some b:=by
 obtain⟨h1,h2,h3,h4,h5⟩:=h;unfold a8;rw[th h2,oX,uY h3,oX,GN ⟨h4,h5⟩];rfl
theorem s3 {b:oU} (h:sx M b):aF b=some b:=by
 obtain⟨h1,h2,h3,h4,h5⟩:=h;unfold aF;rw[th h2,oX,CX h3,oX,FU ⟨h4,h5⟩];rfl
theorem FV {b:oU} (h:Cs.wf p9 b):sx maxLen b:=by
 simp only[p9,Cs.wf,CT.wf]at h;obtain⟨_,h1,h2,h3,h4,h5,_⟩:=h;exact⟨h1,h2.1,h3.1,h4.1,h5.1⟩
theorem EG {b:oU} (h:Cs.wf p9 b) (hl:sx M b):ta b:=by
 obtain⟨_,l2,l3,l4,l5⟩:=hl;have hM:M<9223372036854775807:=by decide
 refine⟨by omega,by omega,by omega,by omega,λr hr=>?_⟩;simp only[p9,Cs.wf,CT.wf]at h;obtain⟨_,_,_,_,h4,_⟩:=h;have:=(h4.2 r hr).2.2
 exact this
def Iy (o:List Int) (k:Nat):Bool:=match o[k]? with|some x=>!(pa x 0 100000)|none=>false
def CY (o:List Int):Bool:=!((List.range o.length).any (Iy o))&&pa (o.length:Int) 1 10
def GO (v:ub):Bool :=
 cond (v.1==5||(v.1==128||v.1==130)) (v.2.1==0&&(v.2.2.1==[]&&((v.2.2.2.length:Int)==0)))
  (cond (v.1==2) (pa v.2.1 (-2147483648) 2147483647&&(v.2.2.1==[]&&((v.2.2.2.length:Int)==0)))
   (cond (v.1==4) (decide ((v.2.2.1.length:Int)<=20)&&(v.2.1==0&&((v.2.2.2.length:Int)==0)))
    (cond (v.1==6) (CY v.2.2.2&&(v.2.1==0&&(v.2.2.1==[]))) false)))
def DR (x:pc):Bool:=CY x.1&&GO x.2
def bX (l:List pc) (k:Nat):Bool:=match l[k]? with|some x=>!(DR x)|none=>false
def CZ (p:ra):Bool :=
 (!((List.range p.2.2.2.2.length).any (bX p.2.2.2.2))&&decide ((p.2.2.2.2.length:Int)<=10)) &&
 (cond (p.1==162||p.1==165) (pa p.2.2.1 0 1000&&pa p.2.2.2.1 0 1000)
  (cond (p.1==160||(p.1==161||p.1==163)) (p.2.2.1==0&&p.2.2.2.1==0) false)&&pa p.2.1 (-2147483648) 2147483647)
def FW (j:tH):Int:=j.2.2.2.2.2.2.2.2.2.2.2.2.2.2.2.2.2.2.2.2
def JB (j:tH):Int:=j.2.2.2.2.2.2.2.2.2.2.2.2.2.2.2.2.2.2.2.1
noncomputable def GP (j:tH):Bool:=pa j.2.2.1 0 2&&(pa (JB j) 0 (j.2.2.2.2.2.2.2.1.length:Int)&&(pa (FW j) 0 3&&(j.2.2.1==0||(CZ (jP j)&&((j.2.2.2.1 != 162)&&qh (jB j))))))
structure JC (j:tH):Prop where
 p:CM M (jP j)
 b:ta (jB j)
def sB (a:qe):List tH:=a.2.2.2.2.2.2.2.2.2.2.2.2.1
def zm (a:qe):Int:=a.2.2.2.2.2.2.2.2.2.2.2.2.2.2
def EH (a:qe):Int:=a.2.2.2.2.2.2.2.2.2.2.2.2.2.1
noncomputable def GQ (l:List tH) (last:Int) (k:Nat):Bool:=match l[k]? with
 | some j=>!(pa j.1 1 last&&GP j)||(decide (0<k)&&(match l[k-1]? with|some p=>decide (p.1>=j.1)|none=>false))
 | none=>false
noncomputable def FX (a:qe):Bool:=!((List.range (sB a).length).any (GQ (sB a) (zm a)))&&(qh (aB a)&&(decide ((a.2.2.2.2.2.2.2.2.2.2.2.1.length:Int)<=20)&&(decide (((sB a).length:Int)<=6)&&(pa (EH a) 0 1000000&&pa (zm a) 0 1000000))))
structure JD (a:qe):Prop where
 b:ta (aB a)
 n:(sB a).length<=1048576
 j:∀x∈sB a,JC x
def wY (l:List pm) (id:Int):Int:=match l.findIdx? (λr=>r.1==id)with|some k=>(k:Int)|none=>-1
theorem D1 {v:pO} (hn:v.1.length<9223372036854775807) (id:Int):aa v id=some (wY v.1 id):=by
 unfold aa wY;obtain⟨b,h1,rfl⟩:=qf (β:=Unit⊕Int) (step:=λz=>bh v id z) (λk i=>i=(k:Int)/\∀j (hj:j<k),∀(hl:j<v.1.length),¬((v.1[j].1==id)=true)) v.1.length (λb=>b=match v.1.findIdx? (λr=>r.1==id)with|some k=>.inr (k:Int)|none=>.inl ())
  (λk i hk ⟨h,hy⟩=>by
   subst h;unfold bh;rw[qD (by omega),cT,pv hk,oX];cases hb:(v.1[k].1==id)with
   | true =>
    refine .inr ⟨_,rfl,?_⟩;rw[List.findIdx?_eq_some_iff_getElem.2 ⟨hk,hb,λj hj=>hy j hj (by omega)⟩]
   | false =>
    refine .inl ⟨_,rfl,pz (by omega),λj hj hl=>?_⟩;by_cases hjk:j=k
    · subst hjk;rw[hb];simp
    · exact hy j (by omega) hl)
  (λi ⟨h,hy⟩=>by
   subst h;refine⟨.inl (),by unfold bh;rw[pU (by omega),cF],?_⟩;rw[List.findIdx?_eq_none_iff.2 λx hx=>by
    obtain⟨j,hj,rfl⟩:=getElem_of_mem hx;have:=hy j hj hj
    simpa using this]) (x:=0) ⟨rfl,λj hj=>by omega⟩
 rw[h1,oX];cases v.1.findIdx? (λr=>r.1==id)<;>rfl
theorem EI {l:List pm} {id:Int} (h:0<=wY l id):∃k,∃hk:k<l.length,wY l id=(k:Int)/\l[k].1=id:=by
 unfold wY at h ⊢;cases hf:l.findIdx? (λr=>r.1==id)with
 | none=>rw[hf]at h;simp at h
 | some k =>
  obtain⟨hk,h1,_⟩:=List.findIdx?_eq_some_iff_getElem.1 hf;exact⟨k,hk,rfl,by simpa using h1⟩
def yi (l:List oV) (tag mac:Int):Int:=match l.findIdx? (λe=>e.1==tag&&e.2.1==mac)with|some k=>(k:Int)|none=>-1
theorem xH {l:List oV} (hn:l.length<9223372036854775807) (tag mac:Int):aU l tag mac=some (yi l tag mac):=by
 unfold aU yi;obtain⟨b,h1,rfl⟩:=qf (β:=Unit⊕Int) (step:=λz=>aS l tag mac z) (λk i=>i=(k:Int)/\∀j (hj:j<k),∀(hl:j<l.length),¬((l[j].1==tag&&l[j].2.1==mac)=true)) l.length (λb=>b=match l.findIdx? (λe=>e.1==tag&&e.2.1==mac)with|some k=>.inr (k:Int)|none=>.inl ())
  (λk i hk ⟨h,hy⟩=>by
   subst h;have hs:aS l tag mac (k:Int)=cond (l[k].1==tag&&l[k].2.1==mac) (some (.inr (.inr (k:Int)))) (some (.inl ((k+1:Nat):Int))):=by
    unfold aS;simp only[qD (show (k:Int)<(l.length:Int) by omega),cT,pv hk,oX,pz (show k<9223372036854775807 by omega)];cases l[k].1==tag<;>rfl
   show (∃y,aS l tag mac (k:Int)=some (.inl y)/\_)\/∃b,aS l tag mac (k:Int)=some (.inr b)/\_;rw[hs];cases hb:(l[k].1==tag&&l[k].2.1==mac)with
   | true =>
    refine .inr ⟨_,rfl,?_⟩;rw[List.findIdx?_eq_some_iff_getElem.2 ⟨hk,hb,λj hj=>hy j hj (by omega)⟩]
   | false =>
    refine .inl ⟨_,rfl,rfl,λj hj hl=>?_⟩;by_cases hjk:j=k
    · subst hjk;rw[hb];simp
    · exact hy j (by omega) hl)
  (λi ⟨h,hy⟩=>by
   subst h;refine⟨.inl (),by unfold aS;rw[pU (by omega),cF],?_⟩;rw[List.findIdx?_eq_none_iff.2 λx hx=>by
    obtain⟨j,hj,rfl⟩:=getElem_of_mem hx;have:=hy j hj hj
    simpa using this]) (x:=0) ⟨rfl,λj hj=>by omega⟩
 rw[h1,oX];cases l.findIdx? (λe=>e.1==tag&&e.2.1==mac)<;>rfl
theorem DS {l:List oV} (hn:l.length<9223372036854775807) (tag mac:Int):cm l tag mac=some (yi l tag mac):=by
 unfold cm yi;obtain⟨b,h1,rfl⟩:=qf (β:=Unit⊕Int) (step:=λz=>bc l tag mac z) (λk i=>i=(k:Int)/\∀j (hj:j<k),∀(hl:j<l.length),¬((l[j].1==tag&&l[j].2.1==mac)=true)) l.length (λb=>b=match l.findIdx? (λe=>e.1==tag&&e.2.1==mac)with|some k=>.inr (k:Int)|none=>.inl ())
  (λk i hk ⟨h,hy⟩=>by
   subst h;have hs:bc l tag mac (k:Int)=cond (l[k].1==tag&&l[k].2.1==mac) (some (.inr (.inr (k:Int)))) (some (.inl ((k+1:Nat):Int))):=by
    unfold bc;simp only[qD (show (k:Int)<(l.length:Int) by omega),cT,pv hk,oX,pz (show k<9223372036854775807 by omega)];cases l[k].1==tag<;>rfl
   show (∃y,bc l tag mac (k:Int)=some (.inl y)/\_)\/∃b,bc l tag mac (k:Int)=some (.inr b)/\_;rw[hs];cases hb:(l[k].1==tag&&l[k].2.1==mac)with
   | true =>
    refine .inr ⟨_,rfl,?_⟩;rw[List.findIdx?_eq_some_iff_getElem.2 ⟨hk,hb,λj hj=>hy j hj (by omega)⟩]
   | false =>
    refine .inl ⟨_,rfl,rfl,λj hj hl=>?_⟩;by_cases hjk:j=k
    · subst hjk;rw[hb];simp
    · exact hy j (by omega) hl)
  (λi ⟨h,hy⟩=>by
   subst h;refine⟨.inl (),by unfold bc;rw[pU (by omega),cF],?_⟩;rw[List.findIdx?_eq_none_iff.2 λx hx=>by
    obtain⟨j,hj,rfl⟩:=getElem_of_mem hx;have:=hy j hj hj
    simpa using this]) (x:=0) ⟨rfl,λj hj=>by omega⟩
 rw[h1,oX];cases l.findIdx? (λe=>e.1==tag&&e.2.1==mac)<;>rfl

structure tY (b:oU):Prop where
 id:pa b.1 1 99=true
 name:b.2.1.length<=10
 n1:1<=b.2.2.1.length
 n6:b.2.2.1.length<=6
 p:∀x∈b.2.2.1,ux x=true
 f:uo b.2.2.2.1=true
 c:rB b=true
 q:b.2.2.2.2.2.1.length=b.2.2.1.length
 v:b.2.2.2.2.1.length<=6
 s:b.2.2.2.2.1.Pairwise λr s=>r.1<s.1
 i:∀r∈b.2.2.2.2.1,pa r.1 1 99=true
 h:∀r∈b.2.2.2.2.1,-9223372036854775808<=r.2.2/\r.2.2<=9223372036854775807
theorem tY.f12 {b:oU} (h:tY b):b.2.2.2.1.length<=12:=by
 have hf:=h.f;unfold uo at hf;simp only[aT,decide_eq_true_eq]at hf;omega
theorem tY.le {b:oU} (h:tY b):sx M b:=by
 have h1:=h.name;have h2:=h.n6;have h3:=h.f12;have h4:=h.v;have h5:=h.q
 have hM:M=1048576:=rfl;exact⟨by omega,by omega,by omega,by omega,by omega⟩
theorem sc.sok {b:oU} (h:sc b):tY b:=by
 obtain⟨v1,v2,v3,v4⟩:=h.vt.len;refine⟨h.id,h.name,h.n1,h.n6,h.p,h.f,h.c,v3,v4,FR h,λr hr=>?_,h.w.r⟩;obtain⟨k,hk,rfl⟩:=getElem_of_mem hr;have hv:=h.v
 unfold sA at hv;simp only[aT,Bool.not_eq_true']at hv;have hx:=any_eq_false.1 hv.2.1 k (mem_range.2 hk)
 unfold wm at hx;simp only[List.getElem?_eq_getElem hk]at hx;cases hq:pa b.2.2.2.2.1[k].1 1 99 with
 | true=>rfl
 | false=>rw[hq]at hx;simp at hx
theorem tY.rows {b:oU} (h:tY b) {R:List pm} (h1:R.length<=6) (h2:R.Pairwise λr s=>r.1<s.1) (h3:∀x∈R,pa x.1 1 99=true) (h4:∀x∈R,-9223372036854775808<=x.2.2/\x.2.2<=9223372036854775807) :
 tY (b.1,b.2.1,b.2.2.1,b.2.2.2.1,R,b.2.2.2.2.2.1,b.2.2.2.2.2.2.1,b.2.2.2.2.2.2.2.1,b.2.2.2.2.2.2.2.2.1,b.2.2.2.2.2.2.2.2.2.1,b.2.2.2.2.2.2.2.2.2.2) :=
 ⟨h.id,h.name,h.n1,h.n6,h.p,h.f,h.c,h.q,h1,h2,h3,h4⟩
theorem Iz {b:oU} (h:tY b):pa (b.2.2.1.length:Int) 1 6=true:=by
 have h1:=h.n1;have h2:=h.n6
 unfold pa;rw[dT (by omega),dT (by omega)];rfl
theorem GR {α β:Type} {step t:α->Option (α⊕β)} (pq:Nat->α->Prop) (m:Nat) (R:β->Prop)
 (h:∀k x,k<m->pq k x->(∃y,step x=some (.inl y)/\t x=some (.inl y)/\pq (k+1) y)\/∃b,step x=some (.inr b)/\t x=some (.inr b)/\R b)
 (he:∀x,pq m x->∃b,step x=some (.inr b)/\t x=some (.inr b)/\R b) {x:α} (h0:pq 0 x):∃b,loop step x=some b/\loop t x=some b/\R b:=by
 have key:∀n k x,k+n=m->pq k x->∃b,r8 step (n+1) x=some b/\r8 t (n+1) x=some b/\R b:=by
  intro n
  induction n with
  | zero =>
   intro k x hk hx;obtain rfl:k=m:=by omega
   obtain⟨b,h1,h3,h2⟩:=he x hx;exact⟨b,by rw[pJ,h1];rfl,by rw[pJ,h3];rfl,h2⟩
  | succ n ih =>
   intro k x hk hx;rcases h k x (by omega) hx with ⟨y,h1,h5,h2⟩|⟨b,h1,h5,h2⟩
   · obtain⟨b,h3,h6,h4⟩:=ih (k+1) y (by omega) h2;exact⟨b,by rw[pJ,h1];exact h3,by rw[pJ,h5];exact h6,h4⟩
   · exact⟨b,by rw[pJ,h1];rfl,by rw[pJ,h5];rfl,h2⟩
 obtain⟨b,h1,h3,h2⟩:=key m 0 x (by omega) h0;exact⟨b,sM h1,sM h3,h2⟩
theorem zn {l:List oV} (h:uo l=true):FB l:=by
 unfold uo at h;simp only[aT,Bool.not_eq_true',decide_eq_true_eq]at h;refine⟨λx hx=>?_,CW (R:=lt) (λ_ _ _=>lt_trans) λk hk=>?_,by omega⟩
 · obtain⟨k,hk,rfl⟩:=getElem_of_mem hx;have hx:=any_eq_false.1 h.1 k (mem_range.2 hk)
   unfold ui at hx;simp only[List.getElem?_eq_getElem hk,Bool.or_eq_true,not_or,Bool.not_eq_true',Bool.not_eq_false]at hx;exact hx.1
 · have hx:=any_eq_false.1 h.1 (k+1) (mem_range.2 hk);unfold ui at hx;simp only[List.getElem?_eq_getElem hk,Nat.add_sub_cancel,List.getElem?_eq_getElem (show k<l.length by omega),Bool.or_eq_true,aT,decide_eq_true_eq,not_or,not_and,Bool.not_eq_true',Bool.not_eq_false]at hx;have hp:=hx.2 (by omega)
   unfold qu at hp;simp only[Bool.or_eq_true,aT,decide_eq_true_eq,beq_iff_eq]at hp;unfold lt;omega
theorem FB.sub {l m:List oV} (h:FB l) (hs:m.Sublist l):FB m :=
 ⟨λx hx=>h.e x (hs.subset hx),h.o.sublist hs,Nat.le_trans hs.length_le h.n⟩
def uc (l:List oV) (p:Int):List oV:=l.filter λe=>e.2.2.2.2||e.2.2.1 != p
theorem AT {l:List oV} (p:Int) (hn:l.length<=1000) (step:Int×List oV->Option ((Int×List oV)⊕List oV))
 (hs:∀k (hk:k<l.length) out,step ((k:Int),out)=cond (l[k].2.2.2.2||l[k].2.2.1 != p) ((pL out [l[k]]).bind λzs=>some (.inl (((k+1:Nat):Int),zs))) (some (.inl (((k+1:Nat):Int),out))))
 (he:∀out,step ((l.length:Int),out)=some (.inr out)):loop step (0,[])=some (uc l p):=by
 obtain⟨b,h1,rfl⟩:=qf (step:=step) (λk z=>z.1=(k:Int)/\z.2=uc (l.take k) p) l.length (λb=>b=uc l p)
  (λk z hk ⟨z1,z2⟩=>by
   obtain⟨i,out⟩:=z;simp only at z1 z2;subst z1 z2;left;have hl:(uc (l.take k) p).length<=k:=by
    have:=(List.filter_sublist (p:=λe:oV=>e.2.2.2.2||e.2.2.1 != p) (l:=l.take k)).length_le;rw[length_take]at this;show (List.filter _ _).length<=k
    omega
   have ht:uc (l.take (k+1)) p=uc (l.take k) p++cond (l[k].2.2.2.2||l[k].2.2.1 != p) [l[k]] []:=by
    unfold uc;rw[take_add_one,List.getElem?_eq_getElem hk,List.filter_append];rw[Option.toList_some,List.filter_cons,List.filter_nil];cases (l[k].2.2.2.2||l[k].2.2.1 != p)<;>rfl
   rw[hs k hk];cases hc:(l[k].2.2.2.2||l[k].2.2.1 != p)with
   | true =>
    rw[hc]at ht;exact⟨_,by rw[cT,rI (by show _+1<=_;omega)];rfl,rfl,by rw[ht];rfl⟩
   | false =>
    rw[hc]at ht;exact⟨_,rfl,rfl,by rw[ht];simp⟩)
  (λz ⟨z1,z2⟩=>by
   obtain⟨i,out⟩:=z;simp only at z1 z2;subst z1 z2;exact⟨_,he _,by rw[take_length]⟩) (x:=(0,[])) ⟨rfl,rfl⟩
 exact h1
theorem IA {l:List oV} (p:Int) (hn:l.length<=1000):cC l p=some (uc l p):=by
 unfold cC;rw[AT p hn (λz=>br l p z.1 z.2) (λk hk out=>by
  show br l p (k:Int) out=_;unfold br;rw[qD (by omega),cT,pv hk,oX,pz (by omega)];cases l[k].2.2.2.2<;>rfl) (λout=>by
  show br l p (l.length:Int) out=_;unfold br;rw[pU (by omega),cF])];rfl
theorem HJ {l:List oV} (p:Int) (hn:l.length<=1000):dv l p=some (uc l p):=by
 unfold dv;rw[AT p hn (λz=>bG l p z.1 z.2) (λk hk out=>by
  show bG l p (k:Int) out=_;unfold bG;rw[qD (by omega),cT,pv hk,oX,oX,oX,pz (by omega)];cases l[k].2.2.2.2<;>rfl) (λout=>by
  show bG l p (l.length:Int) out=_;unfold bG;rw[pU (by omega),cF])];rfl
theorem FY:∀k:Nat,k<6->pa (k:Int) 0 62=true/\pa (k:Int) 0 7=true:=by
 intro k hk;unfold pa;constructor<;>(rw[dT (by omega),dT (by omega)];rfl)
theorem JS (c:Int) {k:Nat} (hk:k<6):∃t,shr .i64 c (k:Int)=some t:=by
 unfold shr;rw[if_neg (by omega)];exact⟨_,rfl⟩
theorem A3 (c:Int) {k:Nat} (hk:k<6):∃t,ae c (k:Int)=some t/\ai c (k:Int)=some t:=by
 obtain⟨t,h⟩:=JS c hk;unfold ae ai;rw[tX,AP,oX,oX,(FY k hk).1,(FY k hk).2,cT,cT,yh (by omega),h];exact⟨_,rfl,rfl⟩
theorem EJ {n:Int} (h:pa n 0 1000000=true):∃r,af n=some r/\aG n=some r/\pa r 0 1000000=true:=by
 unfold pa at h;simp only[aT,decide_eq_true_eq]at h;unfold af aG pa min2;rw[sr (by omega) (by omega)];by_cases hn:n>=1000000
 · rw[dT hn,cT];refine⟨n,?_,rfl,?_⟩
   · simp only;split<;>first|rfl | (congr 1;omega)
   · simp only[aT,decide_eq_true_eq];omega
 · rw[dF hn,cF];refine⟨n+1,?_,rfl,?_⟩
   · simp only;split<;>first|rfl | (congr 1;omega)
   · simp only[aT,decide_eq_true_eq];omega
theorem tY.ok {b:oU} (h:tY b) (hv:sA (b.2.2.2.2.1,b.2.2.2.2.2.1) (b.2.2.1.length:Int)=true):qh b=true:=by
 unfold qh;have h1:(List.range b.2.2.1.length).any (yw b.2.2.1)=false:=by
  rw[any_eq_false];intro k hk;have hk:=mem_range.1 hk
  unfold yw;simp[List.getElem?_eq_getElem hk,h.p _ (getElem_mem hk)]
 have h2:=h.name;rw[h1,h.id,h.f,hv,h.c,Iz h,dF (show ¬(b.2.1.length:Int)>10 by omega)];rfl
theorem Hd {b:oU} (h:tY b):∃r,am b=some r/\aR b=some r/\tY r/\r.2.2.1=b.2.2.1/\r.2.2.2.2.1=b.2.2.2.2.1/\r.2.2.2.2.2.1=b.2.2.2.2.2.1/\r.1=b.1/\r.2.1=b.2.1/\r.2.2.2.2.2.2.1=b.2.2.2.2.2.2.1/\r.2.2.2.2.2.2.2.1=b.2.2.2.2.2.2.2.1/\r.2.2.2.2.2.2.2.2.1=b.2.2.2.2.2.2.2.2.1/\r.2.2.2.2.2.2.2.2.2.1=b.2.2.2.2.2.2.2.2.2.1/\af b.2.2.2.2.2.2.2.2.2.2=some r.2.2.2.2.2.2.2.2.2.2:=by
 have n6:=h.n6;have hc:=h.c
 unfold rB at hc;simp only[aT]at hc;obtain⟨v,v1,v2,v3⟩:=EJ hc.2.2.2.2;obtain⟨c,_,c1,c2⟩:=CU b.1 (l:=b.2.2.1) (by omega);unfold am aR;rw[v1,v2,c1,c2];simp only[oX];have hF:=zn h.f
 obtain⟨d,d1,d2,F,hf,rfl⟩:=GR (step:=λz:Int×Int×List UInt8×Int×Int×Int×Int×Int×List oV=>cD b (c:Int) z.1 z.2.1 z.2.2.1 z.2.2.2.1 z.2.2.2.2.1 z.2.2.2.2.2.1 z.2.2.2.2.2.2.1 z.2.2.2.2.2.2.2.1 z.2.2.2.2.2.2.2.2)
  (t:=λz:Int×Int×List UInt8×Int×Int×Int×Int×Int×List oV=>dw b (c:Int) z.1 z.2.1 z.2.2.1 z.2.2.2.1 z.2.2.2.2.1 z.2.2.2.2.2.1 z.2.2.2.2.2.2.1 z.2.2.2.2.2.2.2.1 z.2.2.2.2.2.2.2.2)
  (λk z=>∃F:List oV,F.Sublist b.2.2.2.1/\z=((k:Int),b.1,b.2.1,b.2.2.2.2.2.2.1,b.2.2.2.2.2.2.2.1,b.2.2.2.2.2.2.2.2.1,b.2.2.2.2.2.2.2.2.2.1,v,F)) b.2.2.1.length
  (λd=>∃F:List oV,F.Sublist b.2.2.2.1/\d=(b.1,b.2.1,b.2.2.2.2.2.2.1,b.2.2.2.2.2.2.2.1,b.2.2.2.2.2.2.2.2.1,b.2.2.2.2.2.2.2.2.2.1,v,F))
  (λk z hk ⟨F,hf,e⟩=>by
   subst e;left;obtain⟨t,t1,t2⟩:=A3 (c:Int) (show k<6 by omega);have hl:F.length<=1000:=by have:=hf.length_le;have:=hF.n;omega
   simp only;unfold cD dw;rw[qD (show (k:Int)<(b.2.2.1.length:Int) by omega),cT,cT,t1,t2,oX,oX,IA _ hl,HJ _ hl,pz (show k<9223372036854775807 by omega)];cases t with
   | true=>exact⟨_,rfl,rfl,F,hf,rfl⟩
   | false=>exact⟨_,rfl,rfl,uc F (k:Int),List.Sublist.trans List.filter_sublist hf,rfl⟩)
  (λz ⟨F,hf,e⟩=>by
   subst e;simp only;unfold cD dw;rw[pU (show ¬(b.2.2.1.length:Int)<(b.2.2.1.length:Int) by omega),cF,cF];exact⟨_,rfl,rfl,F,hf,rfl⟩) (x:=(0,b.1,b.2.1,b.2.2.2.2.2.2.1,b.2.2.2.2.2.2.2.1,b.2.2.2.2.2.2.2.2.1,b.2.2.2.2.2.2.2.2.2.1,v,b.2.2.2.1)) ⟨_,List.Sublist.refl _,rfl⟩
 rw[d1,d2];refine⟨_,rfl,rfl,⟨h.id,h.name,h.n1,h.n6,h.p,(hF.sub hf).ok,?_,h.q,h.v,h.s,h.i,h.h⟩,rfl,rfl,rfl,rfl,rfl,rfl,rfl,rfl,rfl,rfl⟩;unfold rB;simp only[aT];exact⟨hc.1,hc.2.1,hc.2.2.1,hc.2.2.2.1,v3⟩
theorem EK {b:oU} (h:tY b):∃r,am b=some r/\aR b=some r/\tY r/\r.2.2.1=b.2.2.1/\r.2.2.2.2.1=b.2.2.2.2.1/\r.2.2.2.2.2.1=b.2.2.2.2.2.1:=by
 obtain⟨r,h1,h2,h3,h4,h5,h6,_⟩:=Hd h;exact⟨r,h1,h2,h3,h4,h5,h6⟩
theorem sc.le {b:oU} (h:sc b):sx M b:=by
 obtain⟨v1,v2,v3,v4⟩:=h.vt.len;have h1:=h.name;have h2:=h.n6;have h3:=h.f12
 have v3':b.2.2.2.2.2.1.length=b.2.2.1.length:=v3;have v4':b.2.2.2.2.1.length<=6:=v4
 have hM:M=1048576:=rfl;exact⟨by omega,by omega,by omega,by omega,by omega⟩
def Ka (v:ub):Prop:=(v.1=2->v.2.2.1=[]/\v.2.2.2=[])/\(v.1=4->v.2.1=0/\v.2.2.2=[])
def Kb (v:ub):Prop:=v.2.2.1.length<=100/\v.2.2.2.length<=1000/\Ka v
def IB (x:pc):Prop:=x.1.length<=1000/\Kb x.2
theorem IB.le {x:pc} (h:IB x):H5 M x:=by
 have hM:M=1048576:=rfl;obtain⟨h1,h2,h3,_⟩:=h;exact⟨by omega,by omega,by omega⟩
def EL (m:Int):List Int:=if pa m (-128) 127 then [m%256]else if pa m (-32768) 32767 then [m/256%256,m%256]else if pa m (-8388608) 8388607 then [m/65536%256,m/256%256,m%256]else [m/16777216%256,m/65536%256,m/256%256,m%256]
theorem s8 {n a b:Int} (h:pa n a b=true):a<=n/\n<=b:=by
 unfold pa at h;simp only[aT,decide_eq_true_eq]at h;omega
def IC (b:List Int):Prop:=∀x∈b,0<=x/\x<=255
def Bg (t:Int) (body:List Int):List Int:=t::((if body.length>=128 then [129,(body.length:Int)]else [(body.length:Int)])++body)
structure yY (b:List Int) (at':Int) (t:Int) (body:List Int) (next:Int):Prop where
 ex:∃pre rest,b=pre++(Bg t body++rest)/\at'=(pre.length:Int)/\next=((pre.length+(Bg t body).length:Nat):Int)
 n:body.length<=250
 t:pa t 0 255=true
 b:IC body
def He (x:Int):Int:=if x>127 then x-256 else x
theorem i8 {x:Int} (hx:0<=x/\x<=255):oT (IntKind.i8.wrap x)=He x:=by
 have:IntKind.i8.wrap x=He x:=by
  show (let m:=x%256;if (true&&decide (m>=128))=true then m-256 else m)=_;unfold He;simp only[Bool.true_and,decide_eq_true_eq];split<;>split<;>omega
 rw[this];unfold He;split<;>exact sr (by omega) (by omega)
def grp (n:Int):List Int:=if n<=127 then [n]else if n<=16383 then [n/128+128,n%128]else if n<=2097151 then [n/16384+128,n/128%128+128,n%128]else [n/2097152+128,n/16384%128+128,n/128%128+128,n%128]
def EM (o:List Int):List Int:=o.flatMap grp
theorem GS {n:Int} (h:n<=100000):(grp n).length<=3:=by unfold grp;split<;>(try split)<;>(try split)<;>simp<;>omega
theorem GT {o:List Int} (h:∀x∈o,x<=100000):(EM o).length<=3*o.length:=by
 induction o with
 | nil=>simp[EM]
 | cons x t ih =>
  have h1:=ih λy hy=>h y (mem_cons_of_mem _ hy);have h2:=GS (h x (by simp))
  unfold EM at h1 ⊢;rw[List.flatMap_cons,length_append,List.length_cons];omega
def JT (o:List Int):Prop:=1<=o.length/\o.length<=10/\∀x∈o,0<=x/\x<=100000
theorem DT {o:List Int} (h:CY o=true):JT o:=by
 unfold CY at h;rw[aT,Bool.not_eq_true']at h;have h1:=s8 h.2
 refine⟨by omega,by omega,λx hx=>?_⟩;obtain⟨k,hk,rfl⟩:=getElem_of_mem hx;have:=any_eq_false.1 h.1 k (mem_range.2 hk)
 unfold Iy at this;simp only[List.getElem?_eq_getElem hk]at this;cases hp:pa o[k] 0 100000 with
 | true=>exact s8 hp
 | false=>rw[hp]at this;exact absurd rfl this
def ID (v:ub):List Int:=cond (v.1==2) (EL v.2.1) (cond (v.1==4) (uy v.2.2.1) (cond (v.1==6) (EM v.2.2.2) []))
theorem HK {o:List Int} (h:CY o=true):o.length<=10:=(DT h).2.1
theorem yY.next {b:List Int} {i t:Int} {body:List Int} {next:Int} (h:yY b i t body next):0<=next/\next<=(b.length:Int):=by
 obtain⟨pre,rest,e1,e2,e3⟩:=h.ex;have:=congrArg List.length e1
 rw[length_append,length_append]at this;omega
theorem GU (n:Int):(EL n).length<=4:=by unfold EL;split<;>(try split)<;>(try split)<;>simp
theorem GV {v:ub} (h:GO v=true):(ID v).length<=30/\pa v.1 0 255=true/\v.2.2.2.length<=10/\v.2.2.1.length<=20:=by
 obtain⟨k,n,s,o⟩:=v;have Kc:∀{x:Int},0<=x->x<=255->pa x 0 255=true:=λh1 h2=>by unfold pa;rw[dT h1,dT h2];rfl
 unfold GO at h;simp only at h;unfold ID;simp only;by_cases h1:(k==5||(k==128||k==130))=true
 · rw[h1,cT]at h;simp only[aT,beq_iff_eq]at h;simp only[Bool.or_eq_true,beq_iff_eq]at h1;obtain⟨_,rfl,ho⟩:=h;rcases h1 with rfl|rfl|rfl<;>exact⟨by simp,by decide,by omega,by simp⟩
 · have h1':(k==5||(k==128||k==130))=false:=by simpa using h1
   rw[h1',cF]at h;by_cases h2:k=2
   · subst h2;simp only[show ((2:Int)==2)=true from rfl,cT,aT,beq_iff_eq]at h ⊢;obtain⟨_,rfl,ho⟩:=h;have:=GU n
     exact⟨by omega,by decide,by omega,by simp⟩
   rw[beq_eq_false_iff_ne.2 h2,cF]at h ⊢;by_cases h4:k=4
   · subst h4;simp only[show ((4:Int)==4)=true from rfl,cT,aT,beq_iff_eq,decide_eq_true_eq]at h ⊢;obtain⟨h5,_,ho⟩:=h;exact⟨by unfold uy;rw[List.length_map];omega,by decide,by omega,by omega⟩
   rw[beq_eq_false_iff_ne.2 h4,cF]at h ⊢;by_cases h6:k=6
   · subst h6;simp only[show ((6:Int)==6)=true from rfl,cT,aT,beq_iff_eq]at h ⊢;obtain⟨ho,_,rfl⟩:=h;obtain⟨o1,o2,o3⟩:=DT ho;have:=GT (o:=o) λx hx=>(o3 x hx).2
     exact⟨by omega,by decide,by omega,by simp⟩
   · rw[beq_eq_false_iff_ne.2 h6,cF]at h;cases h
theorem yY.cons {b P s:List Int} {i t:Int} {x:List Int} {next:Int} (h:yY b i t x next) (e:b=P++s) (hi:i=(P.length:Int)):∃s',b=(P++Bg t x)++s'/\next=((P++Bg t x).length:Int):=by
 obtain⟨pre,rest,e1,e2,e3⟩:=h.ex;have hl:pre.length=P.length:=by omega
 obtain⟨q1,q2⟩:=List.append_inj (e1.symm.trans e) hl;subst q1;exact⟨rest,by rw[e1,List.append_assoc],by rw[e3,length_append]⟩
theorem EN {x:pc} (h:DR x=true):H5 M x:=by
 unfold DR at h;rw[aT]at h;obtain⟨_,_,l3,l4⟩:=GV h.2;have:=HK h.1
 have hM:M=1048576:=rfl;exact⟨by omega,by omega,by omega⟩
theorem CM.of {p:ra} (h:∀x∈p.2.2.2.2,DR x=true) (h2:p.2.2.2.2.length<=11):CM M p:=⟨by show _<=1048576;omega,λx hx=>EN (h x hx)⟩
noncomputable def Hf (b:oU) (o:List Int):pc:=(bO b o).getD ([],0,0,[],[])
def GW (s:List pc×List (List Int)):Nat:=min s.2.length (10-s.1.length)
noncomputable def Kc (b:oU) (s:List pc×List (List Int)):List pc×List (List Int):=(s.1++(s.2.take (GW s)).map (Hf b),(s.2.take (GW s)).map (λo=>(Hf b o).1)++s.2.drop (GW s))
def shr (f:List pc->Bool):Nat->List pc->Option (List pc)
 | 0,_=>none
 | n+1,l=>if f (l.take n)=true then some (l.take n)else shr f n (l.take n)
def aW (a:qe):List UInt8:=a.2.2.2.2.2.2.2.2.2.2.2.1
def FZ (b:oU) (w:List UInt8) (l:List tH) (lo la:Int):qe:=(b.1,b.2.1,b.2.2.1,b.2.2.2.1,b.2.2.2.2.1,b.2.2.2.2.2.1,b.2.2.2.2.2.2.1,b.2.2.2.2.2.2.2.1,b.2.2.2.2.2.2.2.2.1,b.2.2.2.2.2.2.2.2.2.1,b.2.2.2.2.2.2.2.2.2.2,w,l,lo,la)
def vd (n:Int):Int:=min2 (oT (n+1)) 1000000
theorem wZ (n:Int):af n=some (vd n):=rfl
theorem Bh {n:Int} (h:pa n 0 1000000=true):pa (vd n) 0 1000000=true:=by
 obtain⟨r,h1,_,h3⟩:=EJ h;rw[wZ]at h1;cases h1;exact h3
theorem x4 {b:oU} (h:qh b=true):rB b=true/\∀c,rB (b.1,b.2.1,b.2.2.1,b.2.2.2.1,b.2.2.2.2.1,b.2.2.2.2.2.1,c)=true->qh (b.1,b.2.1,b.2.2.1,b.2.2.2.1,b.2.2.2.2.1,b.2.2.2.2.2.1,c)=true:=by
 unfold qh at h ⊢;simp only[aT]at h ⊢;obtain⟨h1,h2,h3,h4,h5,h6,h7⟩:=h;exact⟨h7,λc hc=>⟨h1,h2,h3,h4,h5,h6,hc⟩⟩
theorem tJ {b:oU} (h:rB b=true):pa b.2.2.2.2.2.2.1 0 1000000=true/\pa b.2.2.2.2.2.2.2.1 0 1000000=true/\pa b.2.2.2.2.2.2.2.2.1 0 1000000=true/\pa b.2.2.2.2.2.2.2.2.2.1 0 1000000=true/\pa b.2.2.2.2.2.2.2.2.2.2 0 1000000=true:=by
 unfold rB at h;simpa only[aT]using h
theorem D2 {b:oU} (h:tY b) (hl:sx M b):ta b:=by
 obtain⟨_,l2,l3,l4,l5⟩:=hl;have hM:M<9223372036854775807:=by decide
 exact⟨by omega,by omega,by omega,by omega,h.h⟩
structure D3 (j:tH):Prop where
 byt:IC j.2.1
 len:j.2.1.length<=M
 ph:pa j.2.2.1 0 2=true
 at':pa (JB j) 0 ((jP j).2.2.2.2.length:Int)=true
 tr:pa (FW j) 0 3=true
 ok:(j.2.2.1==0)=true\/(CZ (jP j)=true/\((jP j).1 != 162)=true/\sc (jB j))
 pl:CM M (jP j)
 bw:ta (jB j)
 bl:sx M (jB j)
theorem D3.jwf {j:tH} (h:D3 j):JC j:=⟨h.pl,h.bw⟩
theorem D3.jle {j:tH} (h:D3 j):Jy M j:=⟨h.len,h.pl,h.bl⟩
structure yZ (a:qe):Prop where
 b:sc (aB a)
 w:(aW a).length<=20
 n:(sB a).length<=6
 lo:pa (EH a) 0 1000000=true
 la:pa (zm a) 0 1000000=true
 ids:∀j∈sB a,pa j.1 1 (zm a)=true
 up:(sB a).Pairwise λi j=>i.1<j.1
 j:∀j∈sB a,D3 j
theorem yZ.ale {a:qe} (h:yZ a):Jz M a:=⟨h.b.le,by have:=h.w;show (aW a).length<=1048576;omega,by have:=h.n;show (sB a).length<=1048576;omega,λx hx=>(h.j x hx).jle⟩
theorem yZ.awf {a:qe} (h:yZ a):JD a:=⟨h.b.w,by have:=h.n;omega,λx hx=>(h.j x hx).jwf⟩
theorem yZ.ok {a:qe} (h:yZ a):FX a=true:=by
 have hn:=h.n;have hw:=h.w
 unfold FX;have h1:(List.range (sB a).length).any (GQ (sB a) (zm a))=false:=by
  rw[any_eq_false];intro k hk;have hk:=mem_range.1 hk
  unfold GQ;have hj:=h.j _ (getElem_mem hk)
  have hp:GP (sB a)[k]=true:=by
   unfold GP;simp only[aT,Bool.or_eq_true];refine⟨hj.ph,hj.at',hj.tr,hj.ok.imp (λe=>e) λ⟨k1,k2,k3⟩=>⟨k1,k2,k3.ok⟩⟩
  simp only[List.getElem?_eq_getElem hk,h.ids _ (getElem_mem hk),hp,Bool.and_self,Bool.not_true,Bool.false_or];by_cases h0:0<k
  · have:=pairwise_iff_getElem.1 h.up (k-1) k (by omega) hk (by omega);simp only[List.getElem?_eq_getElem (show k-1<(sB a).length by omega),aT,decide_eq_true_eq];omega
  · rw[dF h0];simp
 rw[h1];simp only[Bool.not_false,Bool.true_and,aT,decide_eq_true_eq];exact⟨h.b.ok,by show ((aW a).length:Int)<=20;omega,by omega,h.lo,h.la⟩
def D4 (w:List UInt8):List Int:=Bg 2 (EL 1)++Bg 4 (uy w)
theorem HL {p:ra} (hx:∀x∈p.2.2.2.2,DR x=true) (hn:p.2.2.2.2.length<=10) (hi:pa p.2.1 (-2147483648) 2147483647=true)
 (hk:(cond (p.1==162||p.1==165) (pa p.2.2.1 0 1000&&pa p.2.2.2.1 0 1000) (cond (p.1==160||(p.1==161||p.1==163)) (p.2.2.1==0&&p.2.2.2.1==0) false))=true):CZ p=true:=by
 unfold CZ;have h1:(List.range p.2.2.2.2.length).any (bX p.2.2.2.2)=false:=by
  rw[any_eq_false];intro k hk';have hk':=mem_range.1 hk'
  unfold bX;simp only[List.getElem?_eq_getElem hk',hx _ (getElem_mem hk')];simp
 rw[h1,dT (by omega),hk,hi];rfl

structure EO (p:ra):Prop where
 k:p.1=160\/p.1=161\/p.1=163\/p.1=165
 i:0<=p.2.1/\p.2.1<100
 ab:(p.1=165/\(0<=p.2.2.1/\p.2.2.1<=1000)/\(0<=p.2.2.2.1/\p.2.2.2.1<=1000))\/(p.1≠165/\p.2.2.1=0/\p.2.2.2.1=0)
 n:p.2.2.2.2.length<=3
 s:∀x∈p.2.2.2.2,IB x
 o:p.1≠163->∀x∈p.2.2.2.2,DR x=true
theorem EO.le {p:ra} (h:EO p):CM M p:=⟨by have:=h.n;show _<=1048576;omega,λx hx=>(h.s x hx).le⟩
theorem EO.ok {p:ra} (h:EO p) (hk:p.1≠163):CZ p=true:=by
 have hi:=h.i;refine HL (h.o hk) (by have:=h.n;omega) (FS (by omega) (by omega)) ?_;rcases h.ab with ⟨e,⟨a1,a2⟩,b1,b2⟩|⟨e,a1,b1⟩
 · rw[e,FS a1 a2,FS b1 b2];rfl
 · rw[a1,b1];rcases h.k with k|k|k|k
   · rw[k];rfl
   · rw[k];rfl
   · exact absurd k hk
   · exact absurd k e
def qr (e:oV):Option oV:=cond e.2.2.2.2 (some e) (cond (decide (e.2.2.2.1>=4)) none (some (e.1,e.2.1,e.2.2.1,oT (e.2.2.2.1+1),e.2.2.2.2)))
theorem JU {l:List oV} (hn:l.length<=1000):cH l=some (l.filterMap qr):=by
 unfold cH;obtain⟨v,e1,rfl⟩:=qf (step:=λz:Int×List oV=>aZ l z.1 z.2) (λk z=>z=((k:Int),(l.take k).filterMap qr)) l.length (λv=>v=l.filterMap qr)
  (λk z hk e=>by
   subst e;refine .inl ⟨_,?_,rfl⟩;have hfl:((l.take k).filterMap qr).length<=k:=Nat.le_trans (List.length_filterMap_le _ _) (by rw[length_take];omega)
   have t1:l.take (k+1)=l.take k++[l[k]]:=by rw[take_add_one,List.getElem?_eq_getElem hk];rfl
   have t2:(l.take (k+1)).filterMap qr=(l.take k).filterMap qr++(match qr l[k]with|some y=>[y]|none=>[]):=by
    rw[t1,List.filterMap_append]
    congr 1
    cases hq:qr l[k]with
    | none=>rw[List.filterMap_cons_none hq];rfl
    | some y=>rw[List.filterMap_cons_some hq];rfl
   have ha:∀y:oV,pL ((l.take k).filterMap qr) [y]=some ((l.take k).filterMap qr++[y]):=λy=>rI (by show _+1<=_;omega);show aZ l (k:Int) _=_
   unfold aZ;rw[qD (by omega),cT,pv hk,oX,pz (by omega),t2];cases hs:l[k].2.2.2.2 with
   | true =>
    have hq:qr l[k]=some l[k]:=by unfold qr;rw[hs];rfl
    rw[hq];simp only[Bool.not_true,cF,cT,ha,oX]
   | false =>
    simp only[Bool.not_false,cT,cF];cases h4:decide (l[k].2.2.2.1>=4)with
    | true =>
     have hq:qr l[k]=none:=by unfold qr;rw[hs,h4];rfl
     rw[hq];simp only[cT,List.append_nil]
    | false =>
     have hq:qr l[k]=some (l[k].1,l[k].2.1,l[k].2.2.1,oT (l[k].2.2.2.1+1),false):=by unfold qr;rw[hs,h4];rfl
     rw[hq];simp only[cF,ha,oX])
  (λz e=>by
   subst e;refine⟨_,?_,rfl⟩;show aZ l (l.length:Int) _=_
   unfold aZ;rw[pU (by omega),cF,take_length]) (x:=(0,[])) rfl
 have e1:loop (λz=>aZ l z.1 z.2) (0,[])=some (l.filterMap qr):=e1;rw[e1,oX]
theorem A4 {e y:oV} (h:tV e=true) (hy:qr e=some y):tV y=true/\y.1=e.1/\y.2.1=e.2.1:=by
 unfold qr at hy;cases hs:e.2.2.2.2 with
 | true=>rw[hs,cT]at hy;cases hy;exact⟨h,rfl,rfl⟩
 | false =>
  rw[hs,cF]at hy;by_cases h4:e.2.2.2.1>=4
  · rw[dT h4,cT]at hy;cases hy
  · rw[dF h4,cF]at hy;cases hy;unfold tV at h ⊢;simp only[aT]at h;obtain⟨f1,f2,f3,f4,f5⟩:=h;obtain⟨g1,g2⟩:=s8 f4;refine⟨?_,rfl,rfl⟩;show (pa e.1 1 99&&(pa e.2.1 1 9999&&(pa e.2.2.1 0 7&&(pa (oT (e.2.2.2.1+1)) 0 4&&(!false||_)))))=true
    rw[f1,f2,f3,sr (by omega) (by omega),FS (by omega) (by omega)];rfl
theorem IE {l:List oV} (h:FB l):FB (l.filterMap qr):=by
 refine⟨λx hx=>?_,?_,Nat.le_trans (List.length_filterMap_le _ _) h.n⟩
 · obtain⟨e,he,hy⟩:=List.mem_filterMap.1 hx;exact (A4 (h.e e he) hy).1
 · refine List.pairwise_filterMap.2 ?_;refine List.Pairwise.imp_of_mem ?_ h.o;intro a b ha hb hab x hx y hy;obtain⟨_,a1,a2⟩:=A4 (h.e a ha) hx;obtain⟨_,b1,b2⟩:=A4 (h.e b hb) hy;unfold lt at hab ⊢;rw[a1,a2,b1,b2];exact hab
def C0 (b:oU):oU:=(b.1,b.2.1,b.2.2.1,b.2.2.2.1.filterMap qr,b.2.2.2.2.1,b.2.2.2.2.2.1,vd b.2.2.2.2.2.2.1,b.2.2.2.2.2.2.2.1,b.2.2.2.2.2.2.2.2.1,b.2.2.2.2.2.2.2.2.2.1,b.2.2.2.2.2.2.2.2.2.2)
noncomputable def sC (b:oU):oU:=(am b).getD b
noncomputable def vF (b:oU):oU:=sC (C0 b)
theorem EP {b:oU} (h:tY b) (hv:sA (b.2.2.2.2.1,b.2.2.2.2.2.1) (b.2.2.1.length:Int)=true):am b=some (sC b)/\sc (sC b)/\(sC b).1=b.1/\(sC b).2.1=b.2.1/\(sC b).2.2.1=b.2.2.1/\(sC b).2.2.2.2.2.2.1=b.2.2.2.2.2.2.1/\(sC b).2.2.2.2.2.2.2.1=b.2.2.2.2.2.2.2.1/\(sC b).2.2.2.2.2.2.2.2.1=b.2.2.2.2.2.2.2.2.1/\(sC b).2.2.2.2.2.2.2.2.2.1=b.2.2.2.2.2.2.2.2.2.1/\(sC b).2.2.2.2.2.2.2.2.2.2=vd b.2.2.2.2.2.2.2.2.2.2:=by
 obtain⟨r,r1,r2,r3,r4,r5,r6,q1,q2,q3,q4,q5,q6,q7⟩:=Hd h;have e:sC b=r:=by unfold sC;rw[r1];rfl
 rw[e];have hok:qh r=true:=r3.ok (by rw[r4,r5,r6];exact hv)
 refine⟨r1,BM (D2 r3 r3.le) hok,q1,q2,r4,q3,q4,q5,q6,?_⟩;rw[wZ]at q7;exact (Option.some.inj q7).symm
theorem D5 {b:oU} (h:sc b):tY (C0 b):=by
 have s:=h.sok;refine⟨s.id,s.name,s.n1,s.n6,s.p,(IE (zn s.f)).ok,?_,s.q,s.v,s.s,s.i,s.h⟩;obtain⟨h1,h2,h3,h4,h5⟩:=tJ (x4 h.ok).1;unfold rB;simp only[aT];exact⟨Bh h1,h2,h3,h4,h5⟩
theorem Hg {b:oU} (h:sc b):aP b=some (vF b)/\sc (vF b)/\(vF b).2.1=b.2.1/\(vF b).2.2.2.2.2.2.2.1=b.2.2.2.2.2.2.2.1/\(vF b).2.2.2.2.2.2.2.2.1=b.2.2.2.2.2.2.2.2.1/\(vF b).2.2.2.2.2.2.2.2.2.2=vd b.2.2.2.2.2.2.2.2.2.2:=by
 obtain⟨t1,t2,t3,t4,t5,t6,t7,t8,t9,t10⟩:=EP (D5 h) h.v;have hf:=zn h.f
 unfold aP;rw[qE h.le,oX,vL h.w,oX,h.ok,cT,wZ,oX,JU (by have:=hf.n;omega),oX];have t1':am (b.1,b.2.1,b.2.2.1,b.2.2.2.1.filterMap qr,b.2.2.2.2.1,b.2.2.2.2.2.1,vd b.2.2.2.2.2.2.1,b.2.2.2.2.2.2.2.1,b.2.2.2.2.2.2.2.2.1,b.2.2.2.2.2.2.2.2.2.1,b.2.2.2.2.2.2.2.2.2.2)=some (sC (C0 b)):=t1
 rw[t1',oX];exact⟨rfl,t2,t4,t7,t8,t10⟩

theorem qt {α β:Type} {o:Option α} {a:α} {k:α->Option β} {r:Option β} (h:o=some a) (hk:k a=r):o.bind k=r:=by rw[h];exact hk
theorem vM {b:oU} (h:sc b) (p:Int):ax b p=some (pa p 0 ((b.2.2.1.length:Int)-1)):=by
 have hn:=h.n6;unfold ax;rw[vL h.w,oX,h.ok,cT,sr (by omega) (by omega),tX];rfl
theorem yj {b:oU} (s:tY b) {P:List Pt} (hl:P.length=b.2.2.1.length) (hp:∀x∈P,ux x=true):tY (b.1,b.2.1,P,b.2.2.2.1,b.2.2.2.2.1,b.2.2.2.2.2.1,b.2.2.2.2.2.2.1,b.2.2.2.2.2.2.2.1,b.2.2.2.2.2.2.2.2.1,b.2.2.2.2.2.2.2.2.2.1,b.2.2.2.2.2.2.2.2.2.2) :=
 ⟨s.id,s.name,by show 1<=P.length;rw[hl];exact s.n1,by show P.length<=6;rw[hl];exact s.n6,hp,s.f,s.c,by show b.2.2.2.2.2.1.length=P.length;rw[hl];exact s.q,s.v,s.s,s.i,s.h⟩
theorem vG {P:List Pt} {k:Nat} {q:Pt} (h:∀x∈P,ux x=true) (hq:ux q=true):∀x∈P.set k q,ux x=true:=λx hx=>by
 rcases List.mem_or_eq_of_mem_set hx with hx|rfl
 · exact h x hx
 · exact hq
theorem Jj {b:oU} (h:sc b) (p:Int) (up:Bool):∃r,aO b p up=some r/\sc r:=by
 have hn:=h.n6;have s:=h.sok
 unfold aO;rw[qE h.le,oX,vM h,oX];cases hp:pa p 0 ((b.2.2.1.length:Int)-1)with
 | false=>exact⟨b,rfl,h⟩
 | true =>
  obtain⟨p0,p1⟩:=s8 hp;obtain⟨k,rfl⟩:∃k:Nat,p=(k:Int):=⟨p.toNat,by omega⟩;have hk:k<b.2.2.1.length:=by omega
  have hq:ux (up,b.2.2.1[k].2.1,false,0,0,0,0,0)=true:=by
   have:=h.p _ (getElem_mem hk);unfold ux at this ⊢;simp only[aT]at this;rw[this.1];rfl
  have s':=yj s (P:=b.2.2.1.set k (up,b.2.2.1[k].2.1,false,0,0,0,0,0)) (by rw[length_set]) (vG h.p hq);obtain⟨t1,t2,_⟩:=EP s' (by show sA (b.2.2.2.2.1,b.2.2.2.2.2.1) ((b.2.2.1.set k _).length:Int)=true;rw[length_set];exact h.v);rw[cT,pv hk,oX,s6 hk,oX,List.getElem?_eq_getElem hk,oX];exact⟨_,qt t1 rfl,t2⟩
theorem Jk {b:oU} (h:sc b) (p:Int) (v:sw):∃r,aN b p v=some r/\sc r:=by
 have hn:=h.n6;have s:=h.sok
 unfold aN;rw[qE h.le,oX,vM h,oX];cases hp:pa p 0 ((b.2.2.1.length:Int)-1)with
 | false=>exact⟨b,rfl,h⟩
 | true =>
  obtain⟨p0,p1⟩:=s8 hp;obtain⟨k,rfl⟩:∃k:Nat,p=(k:Int):=⟨p.toNat,by omega⟩;have hk:k<b.2.2.1.length:=by omega
  rw[cT,pv hk,oX,oX];cases hu:b.2.2.1[k].1 with
  | false=>exact⟨b,rfl,h⟩
  | true =>
   rw[cT,CO,oX,oX];cases hv:yf v with
   | false=>exact⟨b,rfl,h⟩
   | true =>
    have hq:ux (b.2.2.1[k].1,b.2.2.1[k].2.1,true,v.1,v.2.1,v.2.2.1,v.2.2.2.1,v.2.2.2.2)=true:=by
     have:=h.p _ (getElem_mem hk);unfold ux at this ⊢;simp only[aT]at this;rw[this.1,hu];have hv':yf (v.1,v.2.1,v.2.2.1,v.2.2.2.1,v.2.2.2.2)=true:=hv
     simp[hv']
    have s':=yj s (P:=b.2.2.1.set k (b.2.2.1[k].1,b.2.2.1[k].2.1,true,v.1,v.2.1,v.2.2.1,v.2.2.2.1,v.2.2.2.2)) (by rw[length_set]) (vG h.p hq);obtain⟨t1,t2,_⟩:=EP s' (by show sA (b.2.2.2.2.1,b.2.2.2.2.2.1) ((b.2.2.1.set k _).length:Int)=true;rw[length_set];exact h.v);rw[cT,s6 hk,oX,List.getElem?_eq_getElem hk,oX,length_set,s6 hk,oX,List.getElem?_set_self hk,oX,List.set_set];exact⟨_,qt t1 rfl,t2⟩

theorem z0 {x:oV} {t m:Int} (h:qu x t m=true):t<x.1\/(t=x.1/\m<x.2.1):=by
 unfold qu at h;simp only[Bool.or_eq_true,aT,decide_eq_true_eq,beq_iff_eq]at h;rcases h with h|⟨h1,h2⟩
 · exact .inl h
 · exact .inr ⟨h1.symm,h2⟩
theorem AU {x:oV} {t m:Int} (h:qu x t m=false) (hs:¬(x.1=t/\x.2.1=m)):x.1<t\/(x.1=t/\x.2.1<m):=by
 have h':¬(x.1>t\/(x.1=t/\x.2.1>m)):=by
  intro hc;have:qu x t m=true:=by
   unfold qu;simp only[Bool.or_eq_true,aT,decide_eq_true_eq,beq_iff_eq];exact hc
  rw[this]at h;cases h
 by_cases h1:x.1<t
 · exact .inl h1
 · have e:x.1=t:=by
    have:¬x.1>t:=λhc=>h' (.inl hc);omega
   refine .inr ⟨e,?_⟩;have:¬x.2.1>m:=λhc=>h' (.inr ⟨e,hc⟩)
   have:x.2.1≠m:=λhc=>hs ⟨e,hc⟩;omega
theorem HM {a b c:oV} (h:lt a b) (k:lt b c):lt a c:=by
 unfold lt at *;omega
theorem tj (l:List oV) (t m:Int):(yi l t m = -1/\∀x∈l,¬(x.1=t/\x.2.1=m))\/∃k,∃hk:k<l.length,yi l t m=(k:Int)/\l[k].1=t/\l[k].2.1=m:=by
 unfold yi;cases h:l.findIdx? (λe=>e.1==t&&e.2.1==m)with
 | none =>
  refine .inl ⟨rfl,λx hx hc=>?_⟩;have:=List.findIdx?_eq_none_iff.1 h x hx
  rw[hc.1,hc.2]at this;simp at this
 | some k =>
  obtain⟨hk,h1,_⟩:=List.findIdx?_eq_some_iff_getElem.1 h;simp only[aT,beq_iff_eq]at h1;exact .inr ⟨k,hk,rfl,h1.1,h1.2⟩
theorem JV {l:List oV} (h:FB l) {e:oV} (he:tV e=true):∃y,aV l e=some y/\FB y.1:=by
 have hn:=h.n;have hM:M=1048576:=rfl
 unfold aV;rw[uY (by omega),oX,xH (by omega),oX];rcases tj l e.1 e.2.1 with ⟨h1,h2⟩|⟨k,hk,h1,h2,h3⟩
 · rw[h1,dF (by decide),cF];by_cases h12:(l.length:Int)>=12
   · rw[dT h12,cT];exact⟨_,rfl,h⟩
   · rw[dF h12,cF];obtain⟨d,d1,k,d2,d3,d4,d5⟩:=qf (step:=λz:Int=>ao l e z) (λk z=>z=(k:Int)/\∀x∈l.take k,qu x e.1 e.2.1=false) l.length (λd=>∃k:Nat,d=(k:Int)/\k<=l.length/\(∀x∈l.take k,qu x e.1 e.2.1=false)/\∀hk:k<l.length,qu l[k] e.1 e.2.1=true)
      (λk z hk ⟨e1,e2⟩=>by
       subst e1;have hst:∀q,qu l[k] e.1 e.2.1=q->ao l e (k:Int)=cond (!q) (some (.inl ((k+1:Nat):Int))) (some (.inr (k:Int))):=λq hq=>by
        unfold ao;rw[qD (by omega),cT,pv hk,oX,Be,oX,oX,hq,pz (by omega)]
       cases hq:qu l[k] e.1 e.2.1 with
       | true=>exact .inr ⟨_,hst true hq,k,rfl,by omega,e2,λ_=>hq⟩
       | false =>
        refine .inl ⟨_,hst false hq,rfl,λx hx=>?_⟩;rw[take_add_one,List.getElem?_eq_getElem hk]at hx;rcases mem_append.1 hx with hx|hx
        · exact e2 x hx
        · simp at hx;rw[hx];exact hq)
      (λz ⟨e1,e2⟩=>by
       subst e1;refine⟨_,?_,l.length,rfl,Nat.le_refl _,e2,λhk=>absurd hk (by omega)⟩;show ao l e (l.length:Int)=_
       unfold ao;rw[pU (by omega),cF,oX,cF]) (x:=0) ⟨rfl,by simp⟩
     subst d2;have c1:cut l 0 (k:Int)=some (l.take k):=by
      have:=AS (l:=l) (a:=0) (b:=k) (by omega) d3;simpa using this
     have c2:cut l (k:Int) (l.length:Int)=some (l.drop k):=by
      have:=AS (l:=l) (a:=k) (b:=l.length) d3 (Nat.le_refl _);rw[take_length]at this;exact this
     have hl1:(l.take k).length<=12:=by rw[length_take];omega
     have hl2:(l.drop k).length<=12:=by rw[length_drop];omega
     refine⟨_,qt d1 (by rw[c1,oX,uY (by omega),oX,rI (by show (l.take k).length+1<=_;omega),oX,c2,oX,rI (by rw[length_append];show (l.take k).length+1+(l.drop k).length<=_;omega),oX]),?_⟩;refine⟨λx hx=>?_,?_,?_⟩
     · rcases mem_append.1 hx with hx|hx
       · rcases mem_append.1 hx with hx|hx
         · exact h.e x (List.mem_of_mem_take hx)
         · rw[mem_singleton.1 hx];exact he
       · exact h.e x (List.mem_of_mem_drop hx)
     · have ho:=h.o;rw[←List.take_append_drop k l]at ho;obtain⟨o1,o2,o3⟩:=List.pairwise_append.1 ho;have a1:∀x∈l.take k,lt x e:=λx hx=>AU (d4 x hx) (h2 x (List.mem_of_mem_take hx))
       have a2:∀y∈l.drop k,lt e y:=λy hy=>by
        obtain⟨j,hj,rfl⟩:=getElem_of_mem hy;rw[length_drop]at hj;have hk:k<l.length:=by omega
        have hb:lt e l[k]:=z0 (d5 hk);rw[List.getElem_drop];rcases Nat.eq_zero_or_pos j with rfl|hj0
        · simpa using hb
        · exact HM hb (pairwise_iff_getElem.1 h.o k (k+j) hk (by omega) (by omega))
       refine List.pairwise_append.2 ⟨List.pairwise_append.2 ⟨o1,List.pairwise_singleton _ _,λx hx y hy=>by rw[mem_singleton.1 hy];exact a1 x hx⟩,o2,λx hx y hy=>?_⟩;rcases mem_append.1 hx with hx|hx
       · exact o3 x hx y hy
       · rw[mem_singleton.1 hx];exact a2 y hy
     · simp only[length_append,length_take,length_drop,List.length_singleton];omega
 · rw[h1,dT (by omega),cT,s6 hk,oX,List.getElem?_eq_getElem hk,oX];refine⟨_,rfl,λx hx=>?_,?_,by show (l.set k e).length<=12;rw[length_set];exact hn⟩
   · rcases List.mem_or_eq_of_mem_set hx with hx|rfl
     · exact h.e x hx
     · exact he
   · have ho:=pairwise_iff_getElem.1 h.o;refine pairwise_iff_getElem.2 λi j hi hj hij=>?_;rw[length_set]at hi hj;have:=ho i j hi hj hij
     simp only[List.getElem_set];unfold lt at this ⊢;split<;>split<;>rename_i q1 q2<;>(try subst q1)<;>(try subst q2)<;>omega
theorem G0 {l:List oV} (h:FB l) (tag mac port:Int):∃y,bv l tag mac port=some y/\FB y:=by
 have hn:=h.n;have hM:M=1048576:=rfl
 unfold bv;rw[xH (by omega),oX,GK (by omega),oX,h.ok,Bool.not_true,cF,BZ,oX,oX];have hc:∃y,((aM l).bind λt41=>some t41)=some y/\FB y:=⟨l,by rw[uY (by omega)];rfl,h⟩
 cases he:tV (tag,mac,port,0,false)with
 | false=>exact hc
 | true =>
  have hp:∃y,((aV l (tag,mac,port,0,false)).bind λt45=>some t45.1)=some y/\FB y:=by
   obtain⟨y,y1,y2⟩:=JV h he;exact⟨y.1,by rw[y1];rfl,y2⟩
  rw[Bool.not_true,cF];rcases tj l tag mac with ⟨h1,_⟩|⟨k,hk,h1,_⟩
  · rw[h1,dF (by decide),cF,oX,oX,cF];exact hp
  · rw[h1,dT (by omega),cT,pv hk,oX,oX,oX];cases l[k].2.2.2.2 with
    | true=>exact hc
    | false=>exact hp

def xI (f:qq):Bool:=pa f.1 0 9999&&(pa f.2.1 1 9999&&(pa f.2.2.1 0 99&&decide ((f.2.2.2.length:Int)<=20)))
theorem G3 (f:qq):bS f=some (xI f):=by
 unfold bS xI;simp only[tX,oX];cases pa f.1 0 9999<;>cases pa f.2.1 1 9999<;>cases pa f.2.2.1 0 99<;>rfl
theorem A5 (l:List pm) (id:Int):(wY l id<0)\/∃k,∃hk:k<l.length,wY l id=(k:Int):=by
 by_cases h:wY l id<0
 · exact .inl h
 · obtain⟨k,hk,e,_⟩:=EI (l:=l) (id:=id) (by omega);exact .inr ⟨k,hk,e⟩
theorem G4 {v:pO} (h1:v.1.length<=6) (h2:v.2.length<=6) {k:Nat} (hk:k<6) (id:Int):∃t,((aa v id).bind λt27=>(cond (decide (t27<0)) (some true) ((at? v.1 t27).bind λx34=>(ae x34.2.1 (k:Int)).bind λt38=>some (!t38))).bind λt40=>cond t40 (some ((0:Int),false)) (some (id,true)))=some t:=by
 rw[D1 (by omega),oX];rcases A5 v.1 id with h|⟨j,hj,e⟩
 · rw[dT h,cT,oX,cT];exact⟨_,rfl⟩
 · obtain⟨t,ht,_⟩:=A3 v.1[j].2.1 hk;rw[e,dF (by omega),cF,pv hj,oX,ht,oX,oX];cases t<;>exact⟨_,rfl⟩
theorem G5 {v:pO} (h1:v.1.length<=6) (h2:v.2.length<=6) {k:Nat} (hk:k<v.2.length) (tag:Int):∃t,bt v (k:Int) tag=some t:=by
 unfold bt;rw[sr (by omega) (by omega),tX,oX,FS (by omega) (by omega),Bool.not_true,cF];cases tag==0 with
 | true=>rw[cT,pv hk,oX];exact G4 h1 h2 (by omega) _
 | false=>rw[cF];exact G4 h1 h2 (by omega) _
theorem DU {v:pO} (h1:v.1.length<=6) (id:Int):∃t,aA v id=some t:=by
 unfold aA;rw[D1 (by omega),oX];rcases A5 v.1 id with h|⟨j,hj,e⟩
 · rw[dT h,cT];exact⟨_,rfl⟩
 · rw[e,dF (by omega),cF,pv hj,oX];exact⟨_,rfl⟩
theorem G6 {v:pO} (h1:v.1.length<=6) (id:Int) {k:Nat} (hk:k<6):∃t,aC v id (k:Int)=some t:=by
 unfold aC;rw[D1 (by omega),oX];rcases A5 v.1 id with h|⟨j,hj,e⟩
 · rw[dT h,cT,oX,cT];exact⟨_,rfl⟩
 · obtain⟨t,ht,_⟩:=A3 v.1[j].2.2 hk;rw[e,dF (by omega),cF,pv hj,oX,ht,oX,oX];cases t<;>exact⟨_,rfl⟩
theorem Jl {l:List oV} (h:l.length<=12) (tag mac:Int):∃t,bx l tag mac=some t:=by
 unfold bx;rw[xH (by omega),oX];rcases tj l tag mac with ⟨h1,_⟩|⟨k,hk,h1,_⟩
 · rw[h1];exact⟨_,rfl⟩
 · rw[h1,dF (by omega),cF,pv hk,oX];exact⟨_,rfl⟩
theorem IF {f:qq} (h:f.2.2.2.length<=20) (t:Int):aY f t=some (f.1,f.2.1,t,f.2.2.2):=by
 unfold aY;rw[FT (by show _<=1048576;omega)];rfl
theorem IG {b:oU} (h:sc b) (i:Int) {f:qq} (hf:f.2.2.2.length<=20) (c:Int) (cl:Int×Bool) (q:Int->Option Bool) (hq:∀k,∃t,q k=some t) {k:Nat} (hk:k<b.2.2.1.length) {out:List qp} (ho:out.length<=10) :
 ∃o:List qp,o.length<=out.length+1/\(((cond ((k:Int) != i) ((aA (b.2.2.2.2.1,b.2.2.2.2.2.1) cl.1).bind λt89=>(ae (rb .i64 c t89) (k:Int)).bind λt92=>some t92) (some false)).bind λt93 =>
  (cond t93 ((q (k:Int)).bind λt101=>some t101) (some false)).bind λt102 =>
  cond t102 ((aC (b.2.2.2.2.1,b.2.2.2.2.2.1) cl.1 (k:Int)).bind λt110=>(aY f t110).bind λt111=>(pL out [((k:Int),t111.1,t111.2.1,t111.2.2.1,t111.2.2.2)]).bind λzs114=>some (.inl (oT ((k:Int)+1),zs114)))
   (some (.inl (oT ((k:Int)+1),out)))):Option ((Int×List qp)⊕List qp))=some (.inl (((k+1:Nat):Int),o)):=by
 have s:=h.sok;have hv:=s.v
 have hn:=h.n6;obtain⟨e,he⟩:=DU (v:=(b.2.2.2.2.1,b.2.2.2.2.2.1)) hv cl.1;obtain⟨t,ht,_⟩:=A3 (rb .i64 c e) (k:=k) (by omega);obtain⟨u,hu⟩:=hq (k:Int);obtain⟨g,hg⟩:=G6 (v:=(b.2.2.2.2.1,b.2.2.2.2.2.1)) hv cl.1 (k:=k) (by omega);have no:∃o:List qp,o.length<=out.length+1/\(some (.inl (oT ((k:Int)+1),out)):Option ((Int×List qp)⊕List qp))=some (.inl (((k+1:Nat):Int),o)):=⟨out,by omega,by rw[pz (by omega)]⟩
 rw[pz (by omega)]at no ⊢;rw[he,oX,ht,oX,hu,oX,hg,oX,IF hf,oX,rI (by show out.length+1<=_;omega),oX];cases (k:Int) != i<;>cases t<;>cases u<;>first|exact no|exact⟨_,by rw[length_append];exact Nat.le_refl _,rfl⟩
theorem DV {b:oU} (hn:b.2.2.1.length<=6) (step:Int×List qp->Option ((Int×List qp)⊕List qp))
 (hs:∀(k:Nat) (out:List qp),k<b.2.2.1.length->out.length<=10->∃o:List qp,o.length<=out.length+1/\step ((k:Int),out)=some (.inl (((k+1:Nat):Int),o)))
 (he:∀out:List qp,step ((b.2.2.1.length:Int),out)=some (.inr out)):∃o:List qp,loop step (0,[])=some o/\o.length<=6:=by
 obtain⟨v,h1,h2⟩:=qf (step:=step) (λk z=>z.1=(k:Int)/\z.2.length<=k) b.2.2.1.length (λv=>v.length<=6)
  (λk z hk ⟨e1,e2⟩=>by
   obtain⟨i,out⟩:=z;simp only at e1 e2;subst e1;obtain⟨o,o1,o2⟩:=hs k out hk (by omega);exact .inl ⟨_,o2,rfl,by show o.length<=k+1;omega⟩)
  (λz ⟨e1,e2⟩=>by
   obtain⟨i,out⟩:=z;simp only at e1 e2;subst e1;exact⟨out,he out,by omega⟩) (x:=(0,[])) ⟨rfl,Nat.le_refl _⟩
 exact⟨v,h1,h2⟩
theorem G7 {b:oU} (s:tY b) {F:List oV} (hF:FB F) {d v:Int} (hd:pa d 0 1000000=true) (hv:pa v 0 1000000=true):tY (b.1,b.2.1,b.2.2.1,F,b.2.2.2.2.1,b.2.2.2.2.2.1,b.2.2.2.2.2.2.1,b.2.2.2.2.2.2.2.1,b.2.2.2.2.2.2.2.2.1,d,v):=by
 refine⟨s.id,s.name,s.n1,s.n6,s.p,hF.ok,?_,s.q,s.v,s.s,s.i,s.h⟩;obtain⟨q1,q2,q3,q4,q5⟩:=tJ s.c;unfold rB;simp only[aT];exact⟨q1,q2,q3,hd,hv⟩
def named (l:List pc):List pc:=l.map λx=>(x.1,5,0,[],[])
theorem GX {n:Int} (h:pa n 0 1000000=true):aG n=some (vd n):=by
 obtain⟨r,r1,r2,_⟩:=EJ h;rw[r2,←r1,wZ]
theorem JW {l:List oV} (hn:l.length<=1000):dz l=some (l.filterMap qr):=by
 unfold dz;obtain⟨v,e1,rfl⟩:=qf (step:=λz:Int×List oV=>bg l z.1 z.2) (λk z=>z=((k:Int),(l.take k).filterMap qr)) l.length (λv=>v=l.filterMap qr)
  (λk z hk e=>by
   subst e;refine .inl ⟨_,?_,rfl⟩;have hfl:((l.take k).filterMap qr).length<=k:=Nat.le_trans (List.length_filterMap_le _ _) (by rw[length_take];omega)
   have t1:l.take (k+1)=l.take k++[l[k]]:=by rw[take_add_one,List.getElem?_eq_getElem hk];rfl
   have t2:(l.take (k+1)).filterMap qr=(l.take k).filterMap qr++(match qr l[k]with|some y=>[y]|none=>[]):=by
    rw[t1,List.filterMap_append]
    congr 1
    cases hq:qr l[k]with
    | none=>rw[List.filterMap_cons_none hq];rfl
    | some y=>rw[List.filterMap_cons_some hq];rfl
   have ha:∀y:oV,pL ((l.take k).filterMap qr) [y]=some ((l.take k).filterMap qr++[y]):=λy=>rI (by show _+1<=_;omega);show bg l (k:Int) _=_
   unfold bg;rw[qD (by omega),cT,pv hk,oX,pz (by omega),t2];cases hs:l[k].2.2.2.2 with
   | true =>
    have hq:qr l[k]=some l[k]:=by unfold qr;rw[hs];rfl
    rw[hq];simp only[cT,ha,oX]
   | false =>
    simp only[cF];by_cases h4:l[k].2.2.2.1>=4
    · have hq:qr l[k]=none:=by unfold qr;rw[hs,dT h4];rfl
      rw[hq,pU (by omega)];simp only[cF,List.append_nil]
    · have hq:qr l[k]=some (l[k].1,l[k].2.1,l[k].2.2.1,oT (l[k].2.2.2.1+1),false):=by unfold qr;rw[hs,dF h4];rfl
      rw[hq,qD (by omega)];simp only[cT,ha,oX])
  (λz e=>by
   subst e;refine⟨_,?_,rfl⟩;show bg l (l.length:Int) _=_
   unfold bg;rw[pU (by omega),cF,take_length]) (x:=(0,[])) rfl
 have e1:loop (λz=>bg l z.1 z.2) (0,[])=some (l.filterMap qr):=e1;rw[e1,oX]
theorem II {b:oU} (h:sc b):bH b=some (vF b):=by
 have hf:=zn h.f;obtain⟨r,r1,r2,_⟩:=EK (D5 h);obtain⟨c1,_⟩:=tJ (x4 h.ok).1;have e:sC (C0 b)=r:=by unfold sC;rw[r1];rfl
 unfold bH vF;rw[s3 h.le,oX,Bf h.w,oX,h.ok,Bool.not_true,cF,GX c1,oX,JW (by have:=hf.n;omega),oX,e];have r2':aR (b.1,b.2.1,b.2.2.1,b.2.2.2.1.filterMap qr,b.2.2.2.2.1,b.2.2.2.2.2.1,vd b.2.2.2.2.2.2.1,b.2.2.2.2.2.2.2.1,b.2.2.2.2.2.2.2.2.1,b.2.2.2.2.2.2.2.2.2.1,b.2.2.2.2.2.2.2.2.2.2)=some r:=r2
 rw[r2',oX]
theorem G8 {b:oU} (h:ta b) (hl:sx M b):∃r,aP b=some r/\bH b=some r/\(qh b=true->sc r)/\(qh b=false->r=b):=by
 cases hp:qh b with
 | true =>
  have hB:=BM h hp;obtain⟨t1,t2,_⟩:=Hg hB;exact⟨_,t1,II hB,λ_=>t2,(λh=>by cases h)⟩
 | false =>
  refine⟨b,?_,?_,(λh=>by cases h),λ_=>rfl⟩
  · unfold aP;rw[qE hl,oX,vL h,oX,hp];rfl
  · unfold bH;rw[s3 hl,oX,Bf h,oX,hp];rfl
theorem G9 {α β:Type} {f g:α->Option (α⊕β)} (pq:Nat->α->Prop) (m:Nat) (h:∀k x,k<m->pq k x->∃y,f x=some (.inl y)/\g x=some (.inl y)/\pq (k+1) y) (he:∀x,pq m x->∃b,f x=some (.inr b)/\g x=some (.inr b)) {x:α} (h0:pq 0 x):∃b,loop f x=some b/\loop g x=some b:=by
 have key:∀n k x,k+n=m->pq k x->∃b,r8 f (n+1) x=some b/\r8 g (n+1) x=some b:=by
  intro n
  induction n with
  | zero =>
   intro k x hk hx;obtain rfl:k=m:=by omega
   obtain⟨b,h1,h2⟩:=he x hx;exact⟨b,by rw[pJ,h1];rfl,by rw[pJ,h2];rfl⟩
  | succ n ih =>
   intro k x hk hx;obtain⟨y,h1,h2,h3⟩:=h k x (by omega) hx;obtain⟨b,h4,h5⟩:=ih (k+1) y (by omega) h3;exact⟨b,by rw[pJ,h1];exact h4,by rw[pJ,h2];exact h5⟩
 obtain⟨b,h1,h2⟩:=key m 0 x (by omega) h0;exact⟨b,sM h1,sM h2⟩
def JX (a:qe):Prop:=JD a/\Jz M a/\∀j∈sB a,IC j.2.1
theorem yZ.any {a:qe} (h:yZ a):JX a:=⟨h.awf,h.ale,λj hj=>(h.j j hj).byt⟩
abbrev IJ:=Int×Int×List UInt8×Int×Int×Int×Int×Int×List UInt8×Int×Int×List Pt×List oV×List pm×List Int×List tH
def AW (i:Int) (a:qe):IJ:=(i,a.1,a.2.1,a.2.2.2.2.2.2.1,a.2.2.2.2.2.2.2.1,a.2.2.2.2.2.2.2.2.1,a.2.2.2.2.2.2.2.2.2.1,a.2.2.2.2.2.2.2.2.2.2.1,a.2.2.2.2.2.2.2.2.2.2.2.1,a.2.2.2.2.2.2.2.2.2.2.2.2.2.1,a.2.2.2.2.2.2.2.2.2.2.2.2.2.2,a.2.2.1,a.2.2.2.1,a.2.2.2.2.1,a.2.2.2.2.2.1,a.2.2.2.2.2.2.2.2.2.2.2.2.1)
def Ga (n:Nat) (p:ra):Prop:=p.2.2.2.2.length<=n/\∀x∈p.2.2.2.2,H5 M x
theorem Ga.le {n:Nat} {p:ra} (h:Ga n p) (hn:n<=1000):CM M p:=⟨by have:=h.1;show _<=1048576;omega,h.2⟩
theorem Ga.up {n m:Nat} {p:ra} (h:Ga n p) (hn:n<=m):Ga m p:=⟨Nat.le_trans h.1 hn,h.2⟩
theorem JY {b:oU} (h:sc b) (i:Int) (f:qq):∃r,aD b i f=some r/\sc r.1/\r.2.length<=6:=by
 have s:=h.sok;have hn:=h.n6
 have hv:=s.v;have hq:=s.q
 obtain⟨q1,q2,q3,q4,q5⟩:=tJ (x4 h.ok).1;have hfb:=zn h.f
 unfold aD;rw[qE h.le,oX,vM h,oX];cases hp:pa i 0 ((b.2.2.1.length:Int)-1)with
 | false=>exact⟨(b,[]),rfl,h,Nat.zero_le _⟩
 | true =>
 rw[Bool.not_true,cF,G3,oX,oX];cases hf:xI f with
 | false=>exact⟨(b,[]),rfl,h,Nat.zero_le _⟩
 | true =>
 have hlen:f.2.2.2.length<=20:=by
  unfold xI at hf;simp only[aT,decide_eq_true_eq]at hf;omega
 obtain⟨p0,p1⟩:=s8 hp;obtain⟨k,rfl⟩:∃k:Nat,i=(k:Int):=⟨i.toNat,by omega⟩;have hk:k<b.2.2.1.length:=by omega
 obtain⟨c,_,hc,_⟩:=CU b.1 (l:=b.2.2.1) (by omega);obtain⟨cl,hcl⟩:=G5 (v:=(b.2.2.2.2.1,b.2.2.2.2.2.1)) hv (by show b.2.2.2.2.2.1.length<=6;omega) (k:=k) (by show k<b.2.2.2.2.2.1.length;omega) f.2.2.1;obtain⟨t,ht,_⟩:=A3 (c:Int) (k:=k) (by omega);rw[Bool.not_true,cF,hc,oX,hcl,oX,ht,oX];have hdrop:∃r,((af b.2.2.2.2.2.2.2.2.2.1).bind λt51=>some ((b.1,b.2.1,b.2.2.1,b.2.2.2.1,b.2.2.2.2.1,b.2.2.2.2.2.1,b.2.2.2.2.2.2.1,b.2.2.2.2.2.2.2.1,b.2.2.2.2.2.2.2.2.1,t51,b.2.2.2.2.2.2.2.2.2.2),([]:List qp)))=some r/\sc r.1/\r.2.length<=6:=by
  rw[wZ,oX];have s':=G7 s hfb (d:=vd b.2.2.2.2.2.2.2.2.2.1) (v:=b.2.2.2.2.2.2.2.2.2.2) (Bh q4) q5
  exact⟨_,rfl,BM (D2 s' s'.le) (s'.ok h.v),Nat.zero_le _⟩
 cases t with
 | false=>rw[Bool.not_false,cT,oX,cT];exact hdrop
 | true =>
 rw[Bool.not_true,cF,oX];cases cl.2 with
 | false=>rw[Bool.not_false,cT];exact hdrop
 | true =>
 rw[Bool.not_true,cF];obtain⟨F,hF,hFB⟩:=G0 hfb cl.1 f.2.1 (k:Int);rw[hF,oX,wZ,oX];have s':=G7 s hFB (d:=b.2.2.2.2.2.2.2.2.2.1) (v:=vd b.2.2.2.2.2.2.2.2.2.2) q4 (Bh q5)
 have hB:=BM (D2 s' s'.le) (s'.ok h.v);cases f.1 != 0 with
 | true =>
  obtain⟨u,hu⟩:=Jl hFB.n cl.1 f.1;obtain⟨o,o1,o6⟩:=DV hn (λz=>ap b (k:Int) f (c:Int) cl u z.1 z.2) (λj out hj ho=>by
   obtain⟨o,o1,o2⟩:=IG h (k:Int) hlen (c:Int) cl (λk=>cond (decide (u<0)) (some true) (some (u==k))) (λk=>by cases decide (u<0)<;>exact⟨_,rfl⟩) hj ho;refine⟨o,o1,?_⟩;show ap b (k:Int) f (c:Int) cl u (j:Int) out=_
   unfold ap;rw[qD (by omega),cT];exact o2) (λout=>by
   show ap b (k:Int) f (c:Int) cl u (b.2.2.1.length:Int) out=_;unfold ap;rw[pU (by omega),cF])
  rw[cT,hu,oX];exact⟨_,qt o1 rfl,hB,o6⟩
 | false =>
  obtain⟨o,o1,o6⟩:=DV hn (λz=>aq b (k:Int) f (c:Int) cl z.1 z.2) (λj out hj ho=>by
   obtain⟨o,o1,o2⟩:=IG h (k:Int) hlen (c:Int) cl (λk=>cond (decide ((-1:Int)<0)) (some true) (some ((-1)==k))) (λk=>⟨true,rfl⟩) hj ho;refine⟨o,o1,?_⟩;show aq b (k:Int) f (c:Int) cl (j:Int) out=_
   unfold aq;rw[qD (by omega),cT];exact o2) (λout=>by
   show aq b (k:Int) f (c:Int) cl (b.2.2.1.length:Int) out=_;unfold aq;rw[pU (by omega),cF])
  rw[cF];exact⟨_,qt o1 rfl,hB,o6⟩
def JE (x:Act):qq:=(x.2.2.2.2.1,x.2.2.2.2.2.1,x.2.2.2.2.2.2.1,x.2.2.2.2.2.2.2.1)
def JF (x:Act):sw:=x.2.2.2.2.2.2.2.2
noncomputable def oB (b:oU) (x:Act):Option (oU×List qp) :=
 if x.1=3 then aD b x.2.1 (JE x)else if x.1=4 then (aN b x.2.1 (JF x)).bind λr=>some (r,[])
 else if x.1=5 then (aO b x.2.1 x.2.2.1).bind λr=>some (r,[])else if x.1=6 then (aP b).bind λr=>some (r,[])else some (b,[])
theorem zo {b:oU} (h:ta b) (hp:qh b=false) (i:Int):ax b i=some false:=by
 unfold ax;rw[vL h,oX,hp];rfl
theorem IK {b:oU} (h:ta b) (hl:sx M b) (x:Act):∃r,oB b x=some r/\ta r.1/\sx M r.1/\r.2.length<=6/\(qh b=true->sc r.1)/\(qh b=false->r=(b,[])):=by
 cases hp:qh b with
 | false =>
  have e:oB b x=some (b,[]):=by
   unfold oB;split
   · unfold aD;rw[qE hl,zo h hp];rfl
   · split
     · unfold aN;rw[qE hl,zo h hp];rfl
     · split
       · unfold aO;rw[qE hl,zo h hp];rfl
       · split
         · unfold aP;rw[qE hl,vL h,hp];rfl
         · rfl
  exact⟨_,e,h,hl,Nat.zero_le _,(λh=>by cases h),λ_=>rfl⟩
 | true =>
  have hB:=BM h hp;have ok:∀{r:oU×List qp},oB b x=some r->sc r.1->r.2.length<=6->∃r,oB b x=some r/\ta r.1/\sx M r.1/\r.2.length<=6/\(true=true->sc r.1)/\(true=false->r=(b,[])):=λe k hn=>⟨_,e,k.w,k.le,hn,λ_=>k,λh=>by cases h⟩
  unfold oB at ok ⊢;split
  · rename_i h3;obtain⟨r,r1,r2,r3⟩:=JY hB x.2.1 (JE x);exact⟨r,r1,r2.w,r2.le,r3,λ_=>r2,λh=>by cases h⟩
  · split
    · obtain⟨r,r1,r2⟩:=Jk hB x.2.1 (JF x);exact⟨(r,[]),by rw[r1];rfl,r2.w,r2.le,Nat.zero_le _,λ_=>r2,λh=>by cases h⟩
    · split
      · obtain⟨r,r1,r2⟩:=Jj hB x.2.1 x.2.2.1;exact⟨(r,[]),by rw[r1];rfl,r2.w,r2.le,Nat.zero_le _,λ_=>r2,λh=>by cases h⟩
      · split
        · obtain⟨r1,r2,_⟩:=Hg hB;exact⟨(vF b,[]),by rw[r1];rfl,r2.w,r2.le,Nat.zero_le _,λ_=>r2,λh=>by cases h⟩
        · exact⟨(b,[]),rfl,h,hl,Nat.zero_le _,λ_=>hB,λh=>by cases h⟩
theorem JZ (a:qe) {x:Act} (h3:3<=x.1) {r:oU×List qp} (e:oB (aB a) x=some r):cI a x=some (FZ r.1 (aW a) (sB a) (EH a) (zm a),r.2,[]):=by
 unfold cI;rw[show (x.1==1)=false from beq_eq_false_iff_ne.2 (by omega),cF,show (x.1==2)=false from beq_eq_false_iff_ne.2 (by omega),cF];unfold oB at e;by_cases k3:x.1=3
 · rw[if_pos k3]at e;rw[show (x.1==3)=true from beq_iff_eq.2 k3,cT];exact qt e rfl
 rw[if_neg k3]at e;rw[beq_eq_false_iff_ne.2 k3,cF];by_cases k4:x.1=4
 · rw[if_pos k4]at e;rw[show (x.1==4)=true from beq_iff_eq.2 k4,cT];obtain⟨q,q1,q2⟩:=Option.bind_eq_some_iff.1 e;cases q2;exact qt q1 rfl
 rw[if_neg k4]at e;rw[beq_eq_false_iff_ne.2 k4,cF];by_cases k5:x.1=5
 · rw[if_pos k5]at e;rw[show (x.1==5)=true from beq_iff_eq.2 k5,cT];obtain⟨q,q1,q2⟩:=Option.bind_eq_some_iff.1 e;cases q2;exact qt q1 rfl
 rw[if_neg k5]at e;rw[beq_eq_false_iff_ne.2 k5,cF];by_cases k6:x.1=6
 · rw[if_pos k6]at e;rw[show (x.1==6)=true from beq_iff_eq.2 k6,cT];obtain⟨q,q1,q2⟩:=Option.bind_eq_some_iff.1 e;cases q2;exact qt q1 rfl
 rw[if_neg k6]at e;rw[beq_eq_false_iff_ne.2 k6,cF];cases e;rfl
noncomputable def uO (b:oU) (x:Act):oU:=((oB b x).getD (b,[])).1
theorem D6 {b:oU} {x:Act} {r:oU×List qp} (e:oB b x=some r):uO b x=r.1:=by unfold uO;rw[e];rfl
noncomputable def zp (l:List Act) (b:oU):oU:=(l.take 60).foldl uO b
theorem zq:∀(l:List Act) (b:oU),ta b->sx M b->ta (l.foldl uO b)/\sx M (l.foldl uO b)
 | [],b,h,hl=>⟨h,hl⟩
 | x::l,b,h,hl=>by
  obtain⟨r,r1,r2,r3,_⟩:=IK h hl x;have:=zq l r.1 r2 r3
  rw[List.foldl_cons,D6 r1];exact this
noncomputable def A6 (l:List Act) (z:IJ):=cJ l z.1 z.2.1 z.2.2.1 z.2.2.2.1 z.2.2.2.2.1 z.2.2.2.2.2.1 z.2.2.2.2.2.2.1 z.2.2.2.2.2.2.2.1 z.2.2.2.2.2.2.2.2.1 z.2.2.2.2.2.2.2.2.2.1 z.2.2.2.2.2.2.2.2.2.2.1 z.2.2.2.2.2.2.2.2.2.2.2.1 z.2.2.2.2.2.2.2.2.2.2.2.2.1 z.2.2.2.2.2.2.2.2.2.2.2.2.2.1 z.2.2.2.2.2.2.2.2.2.2.2.2.2.2.1 z.2.2.2.2.2.2.2.2.2.2.2.2.2.2.2
theorem Jm {b:oU} (h:ta b) (hl:sx M b) {l:List Act} (hn:l.length<=M):bU b l=some (zp l b):=by
 have hn:l.length<=1048576:=hn;unfold bU;rw[qE hl,oX];obtain⟨d,d1,d2⟩:=qf (step:=A6 l) (λk z=>z=AW (k:Int) (FZ (((l.take k).take 60).foldl uO b) [] [] 0 0)) l.length (λd=>d=(AW 0 (FZ (zp l b) [] [] 0 0)).2)
  (λk z hk e=>by
   subst e;left;obtain⟨f1,f2⟩:=zq ((l.take k).take 60) b h hl;have t1:l.take (k+1)=l.take k++[l[k]]:=by rw[take_add_one,List.getElem?_eq_getElem hk];rfl
   have hlk:(l.take k).length=k:=by rw[length_take];omega
   dsimp only[A6,AW];unfold cJ;rw[dT (show (k:Int)<(l.length:Int) by omega),cT,pv hk,oX];by_cases h60:k<60
   · have e60:((l.take (k+1)).take 60).foldl uO b=uO (((l.take k).take 60).foldl uO b) l[k]:=by
      rw[take_of_length_le (by rw[length_take];omega),take_of_length_le (l:=l.take k) (by omega),t1,List.foldl_append];rfl
     rw[dT (show (k:Int)<60 by omega),cT,tX,oX,oX];cases hp:pa l[k].1 3 6 with
     | true =>
      obtain⟨p1,p2⟩:=s8 hp;obtain⟨r,r1,_⟩:=IK f1 f2 l[k];have ha:=JZ (FZ (((l.take k).take 60).foldl uO b) [] [] 0 0) p1 r1
      rw[cT];refine⟨_,qt ha rfl,?_⟩;rw[e60,D6 r1,pz (by omega)];rfl
     | false =>
      have hb:uO (((l.take k).take 60).foldl uO b) l[k]=((l.take k).take 60).foldl uO b:=by
       unfold pa at hp;have hx:¬(3<=l[k].1/\l[k].1<=6):=λhc=>by rw[dT hc.1,dT hc.2]at hp;cases hp
       unfold uO oB;rw[if_neg (by omega),if_neg (by omega),if_neg (by omega),if_neg (by omega)];rfl
      rw[cF];refine⟨_,rfl,?_⟩;rw[e60,hb,pz (by omega)]
   · rw[dF (show ¬(k:Int)<60 by omega),cF,oX,cF];refine⟨_,rfl,?_⟩;have e60:(l.take (k+1)).take 60=(l.take k).take 60:=by rw[List.take_take,List.take_take,Nat.min_eq_left (by omega),Nat.min_eq_left (by omega)]
     rw[e60,pz (by omega)])
  (λz e=>by
   subst e;refine⟨_,?_,rfl⟩;dsimp only[A6,AW];unfold cJ;rw[dF (show ¬(l.length:Int)<(l.length:Int) by omega),cF,take_length];rfl) (x:=AW 0 (FZ b [] [] 0 0)) (by rw[List.take_zero,List.take_nil];rfl)
 rw[d2]at d1;exact qt d1 rfl
def rW (e:oV):Bool->List oV->List oV
 | false,[]=>[e]
 | true,[]=>[]
 | false,x::t=>if su x e=true then x::rW e false t else e::(if rS x e=true then x::rW e true t else rW e true t)
 | true,x::t=>if rS x e=true then x::rW e true t else rW e true t
theorem D7 {x e:oV} (h:lt x e):su x e=true:=by
 cases hb:su x e with
 | true=>rfl
 | false =>
  exfalso;have:=FQ hb
  unfold lt same at *;omega
theorem BN {x e:oV} (h:lt e x\/same x e):su x e=false:=by
 cases hb:su x e with
 | false=>rfl
 | true =>
  exfalso;have:=CV hb
  unfold lt same at *;omega
theorem A7 {x e:oV} (h:¬same x e):rS x e=true:=by
 cases hb:rS x e with
 | true=>rfl
 | false=>exact absurd (Dw hb) h
theorem Gb {x e:oV} (h:same x e):rS x e=false:=by
 cases hb:rS x e with
 | false=>rfl
 | true=>exact absurd h (EF hb)
theorem z4 {e:oV}:∀{l:List oV},(∀x∈l,¬same x e)->rW e true l=l
 | [],_=>rfl
 | x::t,h=>by
  unfold rW;rw[if_pos (A7 (h x (by simp))),z4 λy hy=>h y (mem_cons_of_mem _ hy)]
theorem D8 {e:oV}:∀{l:List oV} {k:Nat} (hk:k<l.length),l.Pairwise lt->same l[k] e->rW e false l=l.set k e
 | x::t,0,_,hp,hs=>by
  have hs':same x e:=hs;unfold rW;rw[if_neg (by rw[BN (.inr hs')];simp),if_neg (by rw[Gb hs'];simp),z4 λy hy=>by
   have:=(pairwise_cons.1 hp).1 y hy;unfold lt same at *;omega]
  rfl
 | x::t,k+1,hk,hp,hs=>by
  have hs':same (t[k]'(by simpa using hk)) e:=hs;have:=(pairwise_cons.1 hp).1 _ (getElem_mem (by simpa using hk:k<t.length))
  unfold rW;rw[if_pos (D7 (by unfold lt same at *;omega)),D8 (by simpa using hk) (pairwise_cons.1 hp).2 hs'];rfl
theorem DW {e:oV}:∀{l:List oV} {d:Nat},l.Pairwise lt->(∀x∈l,¬same x e)->(∀x∈l.take d,lt x e)->(∀x,l[d]?=some x->lt e x)->rW e false l=l.take d++e::l.drop d
 | [],d,_,_,_,_=>by simp[rW]
 | x::t,0,hp,hn,_,h2=>by
  unfold rW;rw[if_neg (by rw[BN (.inl (h2 x rfl))];simp),if_pos (A7 (hn x (by simp))),z4 λy hy=>hn y (mem_cons_of_mem _ hy)];rfl
 | x::t,d+1,hp,hn,h1,h2=>by
  unfold rW;rw[if_pos (D7 (h1 x (by simp))),DW (d:=d) (pairwise_cons.1 hp).2 (λy hy=>hn y (mem_cons_of_mem _ hy)) (λy hy=>h1 y (by rw[List.take_succ_cons];exact mem_cons_of_mem _ hy)) (λy hy=>h2 y (by simpa using hy))];rfl
theorem Jn {l:List oV} (hn:l.length<=1000) (e:oV):df l e=some (rW e false l):=by
 obtain⟨d,hd,g⟩:=qf (step:=λz:Bool×Int×List oV=>bd l e z.1 z.2.1 z.2.2)
  (λk z=>z.2.1=(k:Int)/\z.2.2++rW e z.1 (l.drop k)=rW e false l/\z.2.2.length<=2*k) l.length
  (λz=>z.2++rW e z.1 []=rW e false l/\z.2.length<=2000)
  (λk z hk ⟨z1,z2,z3⟩=>by
   obtain⟨t,i,b⟩:=z;simp only at z1 z2 z3;subst z1;left;have ha:∀(xs:List oV) (y:oV),xs.length<=2001->pL xs [y]=some (xs++[y]):=λxs y h=>rI (by show xs.length+1<=_;omega)
   have hs:bd l e t (k:Int) b=cond (!t&&!(su l[k] e))
    (cond (rS l[k] e) (some (.inl (true,((k+1:Nat):Int),b++[e]++[l[k]]))) (some (.inl (true,((k+1:Nat):Int),b++[e]))))
    (cond (rS l[k] e) (some (.inl (t,((k+1:Nat):Int),b++[l[k]]))) (some (.inl (t,((k+1:Nat):Int),b)))):=by
    have hA:aQ l[k] e.1 e.2.1=some (su l[k] e):=by unfold aQ su;cases (l[k].1 != e.1)<;>rfl
    have hO:(cond (l[k].1 != e.1) (some true) (some (l[k].2.1 != e.2.1)))=some (rS l[k] e):=by unfold rS;cases (l[k].1 != e.1)<;>rfl
    unfold bd;simp only[qD (show (k:Int)<(l.length:Int) by omega),cT,pv hk,oX,pz (show k<9223372036854775807 by omega),hA,hO,ha b e (by omega),ha b l[k] (by omega),ha (b++[e]) l[k] (by rw[length_append];show b.length+1<=_;omega)];cases t<;>cases su l[k] e<;>rfl
   show ∃y,bd l e t (k:Int) b=_/\_;rw[hs];have hd:l.drop k=l[k]::l.drop (k+1):=List.drop_eq_getElem_cons hk
   rw[hd]at z2;generalize hG:rW e false l=G at z2 ⊢;cases t with
   | true =>
    unfold rW at z2;rw[Bool.not_true,Bool.false_and,cF];cases ho:rS l[k] e with
    | true =>
     rw[if_pos ho]at z2;exact⟨_,rfl,rfl,by simpa using z2,by simp;omega⟩
    | false =>
     rw[if_neg (by rw[ho];simp)]at z2;exact⟨_,rfl,rfl,by simpa using z2,by simp;omega⟩
   | false =>
    unfold rW at z2;rw[Bool.not_false,Bool.true_and];cases hq:su l[k] e with
    | true =>
     rw[if_pos hq]at z2;rw[Bool.not_true,cF,A7 (Ji (CV hq)),cT];exact⟨_,rfl,rfl,by simpa using z2,by simp;omega⟩
    | false =>
     rw[if_neg (by rw[hq];simp)]at z2;rw[Bool.not_false,cT];cases ho:rS l[k] e with
     | true =>
      rw[if_pos ho]at z2;exact⟨_,rfl,rfl,by simpa using z2,by simp;omega⟩
     | false =>
      rw[if_neg (by rw[ho];simp)]at z2;exact⟨_,rfl,rfl,by simpa using z2,by simp;omega⟩)
  (λz ⟨z1,z2,z3⟩=>by
   obtain⟨t,i,b⟩:=z;simp only at z1 z2 z3;subst z1;rw[List.drop_length]at z2;refine⟨(t,b),?_,z2,by show b.length<=2000;have:b.length<=2*l.length:=z3;omega⟩;show bd l e t _ b=_
   unfold bd;rw[pU (by omega),cF]) (x:=(false,0,[])) ⟨rfl,rfl,by simp⟩
 unfold df;rw[hd,oX];obtain⟨t,b⟩:=d;simp only at g ⊢;cases t with
 | true=>rw[Bool.not_true,cF,←g.1];simp[rW]
 | false=>rw[Bool.not_false,cT,rI (by show b.length+1<=_;omega),oX,←g.1];rfl
theorem Jo {l:List oV} (h:FB l) (e:oV):∃y,aV l e=some y/\(((∃x∈l,same x e)\/l.length<12)->y.1=rW e false l)/\(¬((∃x∈l,same x e)\/l.length<12)->y.1=l):=by
 have hn:=h.n;have hM:M=1048576:=rfl
 unfold aV;rw[uY (by omega),oX,xH (by omega),oX];rcases tj l e.1 e.2.1 with ⟨h1,h2⟩|⟨k,hk,h1,h2,h3⟩
 · rw[h1,dF (by decide),cF];have hns:∀x∈l,¬same x e:=λx hx hs=>h2 x hx hs
   by_cases h12:(l.length:Int)>=12
   · rw[dT h12,cT];refine⟨_,rfl,λhc=>?_,λ_=>rfl⟩;rcases hc with ⟨x,hx,hs⟩|hc
     · exact absurd hs (hns x hx)
     · omega
   · rw[dF h12,cF];obtain⟨d,d1,k,d2,d3,d4,d5⟩:=qf (step:=λz:Int=>ao l e z) (λk z=>z=(k:Int)/\∀x∈l.take k,qu x e.1 e.2.1=false) l.length (λd=>∃k:Nat,d=(k:Int)/\k<=l.length/\(∀x∈l.take k,qu x e.1 e.2.1=false)/\∀hk:k<l.length,qu l[k] e.1 e.2.1=true)
      (λk z hk ⟨e1,e2⟩=>by
       subst e1;have hst:∀q,qu l[k] e.1 e.2.1=q->ao l e (k:Int)=cond (!q) (some (.inl ((k+1:Nat):Int))) (some (.inr (k:Int))):=λq hq=>by
        unfold ao;rw[qD (by omega),cT,pv hk,oX,Be,oX,oX,hq,pz (by omega)]
       cases hq:qu l[k] e.1 e.2.1 with
       | true=>exact .inr ⟨_,hst true hq,k,rfl,by omega,e2,λ_=>hq⟩
       | false =>
        refine .inl ⟨_,hst false hq,rfl,λx hx=>?_⟩;rw[take_add_one,List.getElem?_eq_getElem hk]at hx;rcases mem_append.1 hx with hx|hx
        · exact e2 x hx
        · simp at hx;rw[hx];exact hq)
      (λz ⟨e1,e2⟩=>by
       subst e1;refine⟨_,?_,l.length,rfl,Nat.le_refl _,e2,λhk=>absurd hk (by omega)⟩;show ao l e (l.length:Int)=_
       unfold ao;rw[pU (by omega),cF,oX,cF]) (x:=0) ⟨rfl,by simp⟩
     subst d2;have c1:cut l 0 (k:Int)=some (l.take k):=by
      have:=AS (l:=l) (a:=0) (b:=k) (by omega) d3;simpa using this
     have c2:cut l (k:Int) (l.length:Int)=some (l.drop k):=by
      have:=AS (l:=l) (a:=k) (b:=l.length) d3 (Nat.le_refl _);rw[take_length]at this;exact this
     have hl1:(l.take k).length<=12:=by rw[length_take];omega
     have hl2:(l.drop k).length<=12:=by rw[length_drop];omega
     refine⟨_,qt d1 (by rw[c1,oX,uY (by omega),oX,rI (by show (l.take k).length+1<=_;omega),oX,c2,oX,rI (by rw[length_append];show (l.take k).length+1+(l.drop k).length<=_;omega),oX]),λ_=>?_,λhc=>absurd (.inr (by omega)) hc⟩;rw[DW h.o hns (λx hx=>AU (d4 x hx) (h2 x (List.mem_of_mem_take hx))) (λx hx=>by
      have hk:k<l.length:=(List.getElem?_eq_some_iff.1 hx).1;rw[List.getElem?_eq_getElem hk]at hx;cases hx;exact z0 (d5 hk))]
     simp
 · rw[h1,dT (by omega),cT,s6 hk,oX,List.getElem?_eq_getElem hk,oX];refine⟨_,rfl,λ_=>?_,λhc=>absurd (.inl ⟨l[k],getElem_mem hk,h2,h3⟩) hc⟩;rw[D8 hk h.o ⟨h2,h3⟩]

theorem EQ {l:List oV} (h:FB l) (tag mac port:Int):dg l tag mac port=bv l tag mac port:=by
 have hn:=h.n;have hl:l.length<=M:=by show _<=1048576;omega
 obtain⟨y,y1,y2,y3⟩:=Jo h (tag,mac,port,0,false);unfold dg bv;rw[xH (by omega),DS (by omega),GK (by omega),It (by omega),H7,BZ,h.ok,uY hl,CX hl,Jn (by omega),y1];simp only[oX,Bool.not_true,cF];cases tV (tag,mac,port,0,false)with
 | false=>rfl
 | true =>
  simp only[Bool.not_true,cF,oX];rcases tj l tag mac with ⟨e,e1⟩|⟨k,hk,e,e1,e2⟩
  · rw[e];simp only[show decide ((-1:Int)>=0)=false from rfl,show decide ((-1:Int)<0)=true from rfl,cT,cF,oX];by_cases hlt:l.length<12
    · rw[dF (show ¬((l.length:Int)>=12) by omega),cF,y2 (.inr hlt)]
    · rw[dT (show ((l.length:Int)>=12) by omega),cT,y3 (λhc=>hc.elim (λ⟨x,hx,hs⟩=>e1 x hx ⟨hs.1,hs.2⟩) hlt)]
  · rw[e,dT (show (k:Int)>=0 by omega),dF (show ¬(k:Int)<0 by omega)];simp only[cT,cF,pv hk,oX];cases l[k].2.2.2.2 with
    | true=>rfl
    | false =>
     simp only[cF,oX,y2 (.inl ⟨l[k],getElem_mem hk,e1,e2⟩)]
theorem Hh:be=aa:=rfl
theorem ER (c:Int) {k:Nat} (hk:k<6):ai c (k:Int)=ae c (k:Int):=by
 obtain⟨t,t1,t2⟩:=A3 c hk;rw[t1,t2]
theorem IL (v:pO) {k:Nat} (hk:k<6) (tag:Int):dp v (k:Int) tag=bt v (k:Int) tag:=by
 unfold dp bt;simp only[tX,AP,Hh,ER _ hk]
theorem HN:eo=aA:=rfl
theorem IM (v:pO) (id:Int) {k:Nat} (hk:k<6):du v id (k:Int)=aC v id (k:Int):=by
 unfold du aC;simp only[Hh,ER _ hk]
theorem IN:ej=bS:=rfl
theorem AX {b:oU} (h:ta b) (i:Int):bD b i=ax b i:=by
 unfold bD ax;rw[Bf h,vL h];simp only[tX,AP]
theorem Jp {f:qq} (h:f.2.2.2.length<=20) (t:Int):dt f t=some (f.1,f.2.1,t,f.2.2.2):=by
 unfold dt ep;rw[th (by show _<=1048576;omega)];rfl
theorem Jq {l:List oV} (h:FB l) (tag mac:Int):∃u,bx l tag mac=some u/\dq l tag mac=some u/\(u = -1\/(0<=u/\u<=7)):=by
 have hn:=h.n;unfold bx dq;rw[xH (by omega),DS (by omega)];simp only[oX];rcases tj l tag mac with ⟨e,_⟩|⟨k,hk,e,_,_⟩
 · rw[e];exact⟨-1,rfl,rfl,.inl rfl⟩
 · rw[e];simp only[dF (show ¬(k:Int)<0 by omega),cF,pv hk,oX];have hf:=h.e _ (getElem_mem hk)
   unfold tV at hf;simp only[aT]at hf;have:=s8 hf.2.2.1
   exact⟨_,rfl,rfl,.inr this⟩
theorem IO {c:Nat} (hc:c<64) (e:Int):∃m:Nat,m<64/\rb .i64 (c:Int) e=(m:Int):=by
 have h:(BitVec.ofInt 64 (c:Int)&&&BitVec.ofInt 64 e).toNat<=c:=by
  rw[BitVec.toNat_and];refine Nat.le_trans Nat.and_le_left ?_;rw[BitVec.toNat_ofInt];omega
 refine⟨(BitVec.ofInt 64 (c:Int)&&&BitVec.ofInt 64 e).toNat,by omega,?_⟩;show IntKind.i64.wrap _=_
 exact sr (n:=(((BitVec.ofInt 64 (c:Int)&&&BitVec.ofInt 64 e).toNat:Nat):Int)) (by omega) (by omega)
def IP:Bool:=(List.range 64).all λm=>(List.range 6).all λk=>match shl .i64 1 (IntKind.u64.wrap (k:Int))with
 | some s=>decide (0<=uQ .i64 (m:Int) s)&&(decide (uQ .i64 (m:Int) s<64)&&((List.range 6).all λj=>sd (uQ .i64 (m:Int) s).toNat (j:Int)==(((j:Int) != (k:Int))&&sd m (j:Int))))
 | none=>false
theorem Dx:IP=true:=by kernel_rfl
theorem K0 {m:Nat} (hm:m<64) {k:Nat} (hk:k<6):∃s,shl .i64 1 (IntKind.u64.wrap (k:Int))=some s/\∃q:Nat,q<64/\uQ .i64 (m:Int) s=(q:Int)/\∀j:Nat,j<6->sd q (j:Int)=(((j:Int) != (k:Int))&&sd m (j:Int)):=by
 have h:=all_eq_true.1 (all_eq_true.1 Dx m (mem_range.2 hm)) k (mem_range.2 hk);cases hs:shl .i64 1 (IntKind.u64.wrap (k:Int))with
 | none=>rw[hs]at h;cases h
 | some s =>
  rw[hs]at h;simp only[aT,decide_eq_true_eq,all_eq_true,beq_iff_eq,mem_range]at h;obtain⟨h1,h2,h3⟩:=h;exact⟨s,rfl,(uQ .i64 (m:Int) s).toNat,by omega,by omega,h3⟩
def IQ:Bool:=(List.range 64).all λm=>(List.range 8).all λu=>match shl .i64 1 (IntKind.u64.wrap (u:Int))with
 | some s=>decide (0<=rb .i64 (m:Int) s)&&(decide (rb .i64 (m:Int) s<64)&&((List.range 6).all λj=>sd (rb .i64 (m:Int) s).toNat (j:Int)==(sd m (j:Int)&&((u:Int)==(j:Int)))))
 | none=>false
theorem Dy:IQ=true:=by kernel_rfl
theorem K1 {m:Nat} (hm:m<64) {u:Nat} (hu:u<8):∃s,shl .i64 1 (IntKind.u64.wrap (u:Int))=some s/\∃q:Nat,q<64/\rb .i64 (m:Int) s=(q:Int)/\∀j:Nat,j<6->sd q (j:Int)=(sd m (j:Int)&&((u:Int)==(j:Int))):=by
 have h:=all_eq_true.1 (all_eq_true.1 Dy m (mem_range.2 hm)) u (mem_range.2 hu);cases hs:shl .i64 1 (IntKind.u64.wrap (u:Int))with
 | none=>rw[hs]at h;cases h
 | some s =>
  rw[hs]at h;simp only[aT,decide_eq_true_eq,all_eq_true,beq_iff_eq,mem_range]at h;obtain⟨h1,h2,h3⟩:=h;exact⟨s,rfl,(rb .i64 (m:Int) s).toNat,by omega,by omega,h3⟩
theorem IR {b:oU} (hn:b.2.2.1.length<=6) (hv:b.2.2.2.2.1.length<=6) {f:qq} (hf:f.2.2.2.length<=20) {k:Nat} {c:Nat} {cl:Int×Bool} {e:Int} (he:aA (b.2.2.2.2.1,b.2.2.2.2.2.1) cl.1=some e) {m:Nat} (hm:m<64) (hme:rb .i64 (c:Int) e=(m:Int)) {q:Nat}
 (Q:Int->Option Bool) (Qb:Nat->Bool) (hQ:∀j:Nat,j<6->Q (j:Int)=some (Qb j)) (hq:∀j:Nat,j<6->sd q (j:Int)=(((j:Int) != (k:Int)&&sd m (j:Int))&&Qb j))
 (stepI:Int×List qp->Option ((Int×List qp)⊕List qp))
 (hs:∀(j:Nat) (out:List qp),j<b.2.2.1.length->stepI ((j:Int),out)=((cond ((j:Int) != (k:Int)) ((aA (b.2.2.2.2.1,b.2.2.2.2.2.1) cl.1).bind λt89=>(ae (rb .i64 (c:Int) t89) (j:Int)).bind λt92=>some t92) (some false)).bind λt93 =>
  (cond t93 ((Q (j:Int)).bind λt101=>some t101) (some false)).bind λt102 =>
  cond t102 ((aC (b.2.2.2.2.1,b.2.2.2.2.2.1) cl.1 (j:Int)).bind λt110=>(aY f t110).bind λt111=>(pL out [((j:Int),t111.1,t111.2.1,t111.2.2.1,t111.2.2.2)]).bind λzs114=>some (.inl (oT ((j:Int)+1),zs114)))
   (some (.inl (oT ((j:Int)+1),out)))))
 (he2:∀out:List qp,stepI ((b.2.2.1.length:Int),out)=some (.inr out)) :
 ∃o,loop stepI (0,[])=some o/\bf b cl.1 (q:Int) f=some o:=by
 obtain⟨o,h1,h2⟩:=G9 (f:=stepI) (g:=λz:Int×List qp=>bE b cl.1 (q:Int) f z.1 z.2) (λj z=>z.1=(j:Int)/\z.2.length<=j) b.2.2.1.length
  (λj z hj ⟨z1,z2⟩=>by
   obtain⟨i,out⟩:=z;simp only at z1 z2;subst z1;obtain⟨g,hg⟩:=G6 (v:=(b.2.2.2.2.1,b.2.2.2.2.2.1)) hv cl.1 (k:=j) (by omega);have hap:pL out [((j:Int),f.1,f.2.1,g,f.2.2.2)]=some (out++[((j:Int),f.1,f.2.1,g,f.2.2.2)]):=rI (by show out.length+1<=_;omega)
   have hb:sd q (j:Int)=(((j:Int) != (k:Int)&&sd m (j:Int))&&Qb j):=hq j (by omega);have hI:stepI ((j:Int),out)=cond (sd q (j:Int)) (some (.inl (((j+1:Nat):Int),out++[((j:Int),f.1,f.2.1,g,f.2.2.2)]))) (some (.inl (((j+1:Nat):Int),out))):=by
    rw[hs j out hj,he,hb];simp only[oX,hme,JR hm,hQ j (by omega),hg,IF hf,hap,pz (show j<9223372036854775807 by omega)];cases (j:Int) != (k:Int)<;>cases sd m (j:Int)<;>cases Qb j<;>rfl
   have hS:bE b cl.1 (q:Int) f (j:Int) out=cond (sd q (j:Int)) (some (.inl (((j+1:Nat):Int),out++[((j:Int),f.1,f.2.1,g,f.2.2.2)]))) (some (.inl (((j+1:Nat):Int),out))):=by
    unfold bE;rw[dT (show (j:Int)<(b.2.2.1.length:Int) by omega),cT,JQ,oX];simp only[IM _ _ (show j<6 by omega),hg,oX,Jp hf,hap,pz (show j<9223372036854775807 by omega)]
   cases hbit:sd q (j:Int)with
   | true =>
    rw[hbit]at hI hS;exact⟨_,hI,hS,rfl,by show (out++[_]).length<=j+1;rw[length_append];show out.length+1<=j+1;omega⟩
   | false =>
    rw[hbit]at hI hS;exact⟨_,hI,hS,rfl,by show out.length<=j+1;omega⟩)
  (λz ⟨z1,z2⟩=>by
   obtain⟨i,out⟩:=z;simp only at z1 z2;subst z1;refine⟨out,he2 out,?_⟩;show bE b cl.1 (q:Int) f (b.2.2.1.length:Int) out=_
   unfold bE;rw[dF (show ¬(b.2.2.1.length:Int)<(b.2.2.1.length:Int) by omega),cF]) (x:=(0,[])) ⟨rfl,Nat.le_refl _⟩
 refine⟨o,h1,?_⟩;unfold bf;exact qt h2 rfl
theorem GY {b:oU} (h:ta b) (hl:sx M b) (i:Int) (f:qq):ct b i f=aD b i f:=by
 cases hp0:qh b with
 | false =>
  unfold ct aD;rw[qE hl,s3 hl,AX h,zo h hp0];rfl
 | true =>
 have h:=BM h hp0;have s:=h.sok
 have hn:=h.n6;have hv:=s.v
 have hq:=s.q;obtain⟨q1,q2,q3,q4,q5⟩:=tJ (x4 h.ok).1;have hfb:=zn h.f
 unfold ct aD;rw[qE h.le,s3 h.le,oX,oX,AX h.w,vM h,oX,oX];cases hp:pa i 0 ((b.2.2.1.length:Int)-1)with
 | false=>rfl
 | true =>
 rw[Bool.not_true,cF,cF,IN,G3,oX,oX,oX];cases hf:xI f with
 | false=>rfl
 | true =>
 have hlen:f.2.2.2.length<=20:=by
  unfold xI at hf;simp only[aT,decide_eq_true_eq]at hf;omega
 obtain⟨p0,p1⟩:=s8 hp;obtain⟨k,rfl⟩:∃k:Nat,i=(k:Int):=⟨i.toNat,by omega⟩;have hk:k<b.2.2.1.length:=by omega
 have hk6:k<6:=by omega
 obtain⟨c,hc64,hc,hcs⟩:=CU b.1 (l:=b.2.2.1) (by omega);obtain⟨cl,hcl⟩:=G5 (v:=(b.2.2.2.2.1,b.2.2.2.2.2.1)) hv (by show b.2.2.2.2.2.1.length<=6;omega) (k:=k) (by show k<b.2.2.2.2.2.1.length;omega) f.2.2.1;obtain⟨t,ht,_⟩:=A3 (c:Int) hk6;rw[Bool.not_true,cF,cF,hc,hcs,oX,oX,IL _ hk6,hcl,oX,oX,ER _ hk6,ht,oX,oX];have hst:∀{A B:Option (oU×List qp)},A=B->(cond (!t) (some true) (some (!cl.2))).bind (λt50=>cond t50 ((aG b.2.2.2.2.2.2.2.2.2.1).bind λt53=>some ((b.1,b.2.1,b.2.2.1,b.2.2.2.1,b.2.2.2.2.1,b.2.2.2.2.2.1,b.2.2.2.2.2.2.1,b.2.2.2.2.2.2.2.1,b.2.2.2.2.2.2.2.2.1,t53,b.2.2.2.2.2.2.2.2.2.2),([]:List qp))) A)=(cond (!t) (some true) (some (!cl.2))).bind (λt48=>cond t48 ((af b.2.2.2.2.2.2.2.2.2.1).bind λt51=>some ((b.1,b.2.1,b.2.2.1,b.2.2.2.1,b.2.2.2.2.1,b.2.2.2.2.2.1,b.2.2.2.2.2.2.1,b.2.2.2.2.2.2.2.1,b.2.2.2.2.2.2.2.2.1,t51,b.2.2.2.2.2.2.2.2.2.2),[])) B):=λe=>by
  rw[e,GX q4,wZ]
 refine hst ?_;rw[EQ hfb,HN];obtain⟨F,hF,hFB⟩:=G0 hfb cl.1 f.2.1 (k:Int);obtain⟨e,he⟩:=DU (v:=(b.2.2.2.2.1,b.2.2.2.2.2.1)) hv cl.1;obtain⟨m,hm,hme⟩:=IO hc64 e;obtain⟨sh,hsh,q,hq64,hqe,hqb⟩:=K0 hm hk6;rw[hF,oX,oX,wZ,GX q5,oX,oX,he,oX,hsh,oX,hme];simp only[hqe];obtain⟨o1,a1,a2⟩:=IR hn hv hlen (k:=k) (c:=c) (cl:=cl) he hm hme (q:=q) (λj=>cond (decide ((-1:Int)<0)) (some true) (some ((-1)==j))) (λ_=>true) (λj hj=>rfl) (λj hj=>by rw[Bool.and_true];exact hqb j hj) (λz=>aq b (k:Int) f (c:Int) cl z.1 z.2)
  (λj out hj=>by
   show aq b (k:Int) f (c:Int) cl (j:Int) out=_;unfold aq;rw[qD (by omega),cT]) (λout=>by
   show aq b (k:Int) f (c:Int) cl (b.2.2.1.length:Int) out=_;unfold aq;rw[pU (by omega),cF])
 cases f.1 != 0 with
 | false =>
  rw[cF,cF,a2,oX]
  symm;exact qt a1 rfl
 | true =>
  obtain⟨u,u1,u2,u3⟩:=Jq hFB cl.1 f.1;rw[cT,cT,u1,u2,oX,oX];have fin:∀(q:Nat),(∀j:Nat,j<6->sd q (j:Int)=(((j:Int) != (k:Int)&&sd m (j:Int))&&(decide (u<0)||(u==(j:Int)))))->∃o,loop (λz:Int×List qp=>ap b (k:Int) f (c:Int) cl u z.1 z.2) (0,[])=some o/\bf b cl.1 (q:Int) f=some o:=λq hq =>
   IR hn hv hlen (k:=k) (c:=c) (cl:=cl) he hm hme (q:=q) (λj=>cond (decide (u<0)) (some true) (some (u==j))) (λj=>decide (u<0)||(u==(j:Int))) (λj hj=>by cases decide (u<0)<;>rfl) hq _
   (λj out hj=>by
    show ap b (k:Int) f (c:Int) cl u (j:Int) out=_;unfold ap;rw[qD (by omega),cT]) (λout=>by
    show ap b (k:Int) f (c:Int) cl u (b.2.2.1.length:Int) out=_;unfold ap;rw[pU (by omega),cF])
  rcases u3 with rfl|⟨u3,u4⟩
  · obtain⟨o,b1,b2⟩:=fin q (λj hj=>by rw[show decide ((-1:Int)<0)=true from rfl,Bool.true_or,Bool.and_true];exact hqb j hj);rw[show decide ((-1:Int)>=0)=false from rfl,cF,b2,oX]
    symm;exact qt b1 rfl
  · obtain⟨n,rfl⟩:∃n:Nat,u=(n:Int):=⟨u.toNat,by omega⟩;obtain⟨s2,g1,q',g2,g3,g4⟩:=K1 hq64 (u:=n) (by omega);obtain⟨o,b1,b2⟩:=fin q' (λj hj=>by rw[g4 j hj,hqb j hj,dF (show ¬(n:Int)<0 by omega),Bool.false_or]);rw[dT (show (n:Int)>=0 by omega),cT,g1,oX,g3,b2,oX]
    symm;exact qt b1 rfl
theorem Gc {b:oU} (h:ta b) (hl:sx M b) (p:Int) (up:Bool):dy b p up=aO b p up:=by
 unfold dy aO;rw[qE hl,s3 hl,oX,oX,AX h];cases hp0:qh b with
 | false=>rw[zo h hp0];rfl
 | true =>
 have h:=BM h hp0;have hn:=h.n6
 have s:=h.sok;rw[vM h,oX,oX];cases hp:pa p 0 ((b.2.2.1.length:Int)-1)with
 | false=>rfl
 | true =>
  obtain⟨p0,p1⟩:=s8 hp;obtain⟨k,rfl⟩:∃k:Nat,p=(k:Int):=⟨p.toNat,by omega⟩;have hk:k<b.2.2.1.length:=by omega
  have hq:ux (up,b.2.2.1[k].2.1,false,0,0,0,0,0)=true:=by
   have:=h.p _ (getElem_mem hk);unfold ux at this ⊢;simp only[aT]at this;rw[this.1];rfl
  have s':=yj s (P:=b.2.2.1.set k (up,b.2.2.1[k].2.1,false,0,0,0,0,0)) (by rw[length_set]) (vG h.p hq);obtain⟨r,r1,r2,_⟩:=EK s';rw[Bool.not_true,cF,cT,pv hk,oX,oX,s6 hk,oX,oX,List.getElem?_eq_getElem hk,oX,oX];refine (qt (a:=r) r2 rfl).trans ?_;symm;exact qt (a:=r) r1 rfl

theorem Ge {b:oU} (h:ta b) (hl:sx M b) (p:Int) (v:sw):dx b p v=aN b p v:=by
 unfold dx aN;rw[qE hl,s3 hl,oX,oX,AX h];cases hp0:qh b with
 | false=>rw[zo h hp0];rfl
 | true =>
 have h:=BM h hp0;have hn:=h.n6
 have s:=h.sok;rw[vM h,oX,oX];cases hp:pa p 0 ((b.2.2.1.length:Int)-1)with
 | false=>rfl
 | true =>
  obtain⟨p0,p1⟩:=s8 hp;obtain⟨k,rfl⟩:∃k:Nat,p=(k:Int):=⟨p.toNat,by omega⟩;have hk:k<b.2.2.1.length:=by omega
  rw[Bool.not_true,cF,cT,pv hk,oX,oX,oX,oX];cases hu:b.2.2.1[k].1 with
  | false=>rfl
  | true =>
   rw[Bool.not_true,cF,cT,Ir,CO,oX,oX,oX,oX];cases hv:yf v with
   | false=>rfl
   | true =>
    have hq:ux (b.2.2.1[k].1,b.2.2.1[k].2.1,true,v.1,v.2.1,v.2.2.1,v.2.2.2.1,v.2.2.2.2)=true:=by
     have:=h.p _ (getElem_mem hk);unfold ux at this ⊢;simp only[aT]at this;rw[this.1,hu];have hv':yf (v.1,v.2.1,v.2.2.1,v.2.2.2.1,v.2.2.2.2)=true:=hv
     simp[hv']
    rw[Bool.not_true,cF,cT,s6 hk,oX,oX,List.getElem?_eq_getElem hk,oX,oX];have hk2:k<(b.2.2.1.set k (b.2.2.1[k].1,b.2.2.1[k].2.1,true,b.2.2.1[k].2.2.2.1,b.2.2.1[k].2.2.2.2.1,b.2.2.1[k].2.2.2.2.2.1,b.2.2.1[k].2.2.2.2.2.2.1,b.2.2.1[k].2.2.2.2.2.2.2)).length:=by rw[length_set];exact hk
    rw[s6 hk2,oX,oX,List.getElem?_eq_getElem hk2,oX,oX,List.getElem_set_self,List.set_set];have s':=yj s (P:=b.2.2.1.set k (b.2.2.1[k].1,b.2.2.1[k].2.1,true,v.1,v.2.1,v.2.2.1,v.2.2.2.1,v.2.2.2.2)) (by rw[length_set]) (vG h.p hq)
    obtain⟨r,r1,r2,_⟩:=EK s';refine (qt (a:=r) r2 rfl).trans ?_;symm;exact qt (a:=r) r1 rfl
theorem GZ {b:oU} (h:ta b) (hl:sx M b) (x:Act):dA b x=some (uO b x):=by
 obtain⟨r,r1,_⟩:=IK h hl x;rw[D6 r1];unfold oB at r1;unfold dA;by_cases k3:x.1=3
 · rw[if_pos k3]at r1;rw[show (x.1==3)=true from beq_iff_eq.2 k3,cT,GY h hl];exact qt r1 rfl
 rw[if_neg k3]at r1;rw[beq_eq_false_iff_ne.2 k3,cF];by_cases k4:x.1=4
 · rw[if_pos k4]at r1;rw[show (x.1==4)=true from beq_iff_eq.2 k4,cT,Ge h hl];obtain⟨q,q1,q2⟩:=Option.bind_eq_some_iff.1 r1;cases q2;exact qt q1 rfl
 rw[if_neg k4]at r1;rw[beq_eq_false_iff_ne.2 k4,cF];by_cases k5:x.1=5
 · rw[if_pos k5]at r1;rw[show (x.1==5)=true from beq_iff_eq.2 k5,cT,Gc h hl];obtain⟨q,q1,q2⟩:=Option.bind_eq_some_iff.1 r1;cases q2;exact qt q1 rfl
 rw[if_neg k5]at r1;rw[beq_eq_false_iff_ne.2 k5,cF];by_cases k6:x.1=6
 · rw[if_pos k6]at r1;rw[show (x.1==6)=true from beq_iff_eq.2 k6,cT];obtain⟨t,t1,t2,_⟩:=G8 h hl;rw[t1]at r1;cases r1;exact qt t2 rfl
 rw[if_neg k6]at r1;rw[beq_eq_false_iff_ne.2 k6,cF,s3 hl];cases r1;rfl
abbrev JG:=Int×Int×List UInt8×Int×Int×Int×Int×Int×List Pt×List oV×List pm×List Int
def D9 (i:Int) (b:oU):JG:=(i,b.1,b.2.1,b.2.2.2.2.2.2.1,b.2.2.2.2.2.2.2.1,b.2.2.2.2.2.2.2.2.1,b.2.2.2.2.2.2.2.2.2.1,b.2.2.2.2.2.2.2.2.2.2,b.2.2.1,b.2.2.2.1,b.2.2.2.2.1,b.2.2.2.2.2.1)
noncomputable def z5 (l:List Act) (z:JG):=dC l z.1 z.2.1 z.2.2.1 z.2.2.2.1 z.2.2.2.2.1 z.2.2.2.2.2.1 z.2.2.2.2.2.2.1 z.2.2.2.2.2.2.2.1 z.2.2.2.2.2.2.2.2.1 z.2.2.2.2.2.2.2.2.2.1 z.2.2.2.2.2.2.2.2.2.2.1 z.2.2.2.2.2.2.2.2.2.2.2
theorem Jr {b:oU} (h:ta b) (hl:sx M b) {l:List Act} (hn:l.length<=M):d9 b l=some (zp l b):=by
 have hn:l.length<=1048576:=hn;unfold d9;rw[s3 hl,oX];obtain⟨d,d1,d2⟩:=qf (step:=z5 l) (λk z=>z=D9 (k:Int) ((l.take k).foldl uO b)) (min l.length 60) (λd=>d=(D9 0 (zp l b)).2)
  (λk z hk e=>by
   subst e;left;have hkl:k<l.length:=by omega
   obtain⟨f1,f2⟩:=zq (l.take k) b h hl;have t1:l.take (k+1)=l.take k++[l[k]]:=by rw[take_add_one,List.getElem?_eq_getElem hkl];rfl
   have e1:(l.take (k+1)).foldl uO b=uO ((l.take k).foldl uO b) l[k]:=by rw[t1,List.foldl_append];rfl
   dsimp only[z5,D9];unfold dC;rw[dT (show (k:Int)<(l.length:Int) by omega),cT,dT (show (k:Int)<60 by omega),oX,cT,pv hkl,oX];refine⟨_,qt (GZ f1 f2 l[k]) rfl,?_⟩;rw[e1,pz (by omega)])
  (λz e=>by
   subst e;refine⟨_,?_,rfl⟩;dsimp only[z5,D9];unfold dC;have e2:(cond (decide (((min l.length 60:Nat):Int)<(l.length:Int))) (some (decide (((min l.length 60:Nat):Int)<60))) (some false))=some false:=by
    by_cases hc:l.length<=60
    · rw[dF (by omega)];rfl
    · rw[dT (by omega),cT,dF (by omega)]
   have e3:l.take (min l.length 60)=l.take 60:=by
    by_cases hc:l.length<=60
    · rw[Nat.min_eq_left hc,take_of_length_le (Nat.le_refl _),take_of_length_le hc]
    · rw[Nat.min_eq_right (by omega)]
   rw[e2,oX,cF,e3];rfl) (x:=D9 0 b) (by rw[List.take_zero];rfl)
 rw[d2]at d1;exact qt d1 rfl
def A8 (n:Nat) (x:Act):Prop:=x.2.2.2.1.length<=n/\x.2.2.2.2.2.2.2.1.length<=n
def AY (n:Nat) (l:List Act):Prop:=l.length<=n/\∀x∈l,A8 n x
def Gf (x:Act):qq:=(x.2.2.2.2.1,x.2.2.2.2.2.1,x.2.2.2.2.2.2.1,x.2.2.2.2.2.2.2.1)
theorem HO {f:qq} {left:Int} (hl:In left) (h:f.2.2.2.length<=maxLen):rV left (ef f left) (f.2.2.2.length<=M) :=
 yb (sS (DM hl h) λr k1 k2=>wL k1) λ⟨a,_⟩=>a
theorem Js {x:Act} {left:Int} (hl:In left) (h:A8 maxLen x):rV left (dc x left) (A8 M x) :=
 yb (sS (DM hl h.1) λr k1 k2=>sS (HO (f:=Gf x) (hl.next k1 k2) h.2) λr' k3 k4=>wL k3) λ⟨a,b,_⟩=>⟨a,b⟩
theorem IS {l:List Act} {left:Int} (hl:In left) (h:AY maxLen l):rV left (dZ l left) (AY M l):=by
 have hn:l.length<=9223372036854775807:=h.1;show rV left (let l1:=oT (left-(l.length:Int));cond (decide (l1<0)) (some (-1)) ((loop (λz=>gJ l z.1 z.2) (l1,0)).bind (Sum.elim (λd=>some d) (λr=>some r)))) _
 by_cases hle:l.length<=M
 · exact yb (CJ hl h.1 λr k1 k2=>FE (f:=dc) (Q:=A8 M) (λx hx l' h1 h2=>Js ⟨h1,h2⟩ (h.2 x hx)) (sX hle) (hl.next k1 k2)) λ⟨a,b⟩=>⟨a,b⟩
 · refine⟨-1,?_,.inl rfl⟩;show cond (decide (oT (left-(l.length:Int))<0)) _ _=_
   have:M<l.length:=by omega
   have hM:(1048576:Int)<(l.length:Int):=by have:1048576<l.length:=this;omega
   have:=hl.2;rw[sr (by omega) (by omega),qD (by omega),cT]
theorem HP {f:qq} (h:f.2.2.2.length<=M):dG f=some f:=by
 unfold dG;rw[DN h,oX]
theorem Jt {x:Act} (h:A8 M x):cu x=some x:=by
 unfold cu;have h2:=HP (f:=Gf x) h.2
 unfold Gf at h2;rw[DN h.1,oX,h2,oX];rfl
theorem IT {l:List Act} (h:AY M l):bB l=some l:=xD (sX h.1) (xB (f:=cu) (λx hx=>Jt (h.2 x hx)) (sX h.1) _)
theorem HQ {f:qq} (h:f.2.2.2.length<=M):cM f f=some true:=by
 unfold cM;simp[DO h]
theorem Ju {x:Act} (h:A8 M x):ca x x=some true:=by
 have h2:=HQ (f:=Gf x) h.2;unfold Gf at h2;unfold ca;simp[DO h.1,h2,H6]
theorem IU {l:List Act} (h:AY M l):dW l l=some true:=xE (xC (g:=ca) (λx hx=>Ju (h.2 x hx)) (sX h.1))
theorem IV {x:Act} (h:Cs.wf qF x):A8 maxLen x:=by
 simp only[qF,Cs.wf,CT.wf]at h;exact⟨h.2.2.2.1.1,h.2.2.2.2.2.2.2.1.1⟩
theorem HR {l:List Act} (h:Cs.wf (.one (.sl qF)) l):AY maxLen l:=by
 simp only[qF,Cs.wf,CT.wf]at h;refine⟨h.1,λx hx=>IV ?_⟩;have:=h.2 x hx
 simpa only[qF,Cs.wf,CT.wf]using this

end Go.V.W

