/- The law FnExactWalk: part of the proof that for every input it returns true. No condition. -/
import Derived.KernelRfl
import Derived.Test.YtpidgkkbmlgehaaFnExactWalk
import Derived.Test.YtpidgkkbmlgehaaFnExactWalkM
open List (any_eq_false append_assoc cons_lt_cons_iff getElem_mem getElem_of_mem length_append length_map mem_append mem_cons mem_flatMap mem_map mem_range not_mem_nil pairwise_append pairwise_iff_getElem range_succ take_add_one take_append_drop take_length)
set_option linter.unusedVariables false
set_option linter.unusedSimpArgs false
namespace Go.V.W
theorem gT {α β:Type} (a:α) (f:α->Option β):(some a).bind f=f a:=rfl
abbrev M:Nat:=1048576
abbrev In (left:Int):Prop:=0<=left/\left<=1048576
theorem In.next {left r:Int} (h:In left) (h1:0<=r) (h2:r<=left):In r:=⟨h1,by have:=h.2;omega⟩
theorem mU {n:Nat} (h:n<=M):n<=4294967295:=Nat.le_trans h (by decide)
theorem zK {a:List Int} {left:Int} (hl:In left) (h:a.length<=maxLen):lB left (bV a left) (a.length<=M):=nJ hl h
theorem Ae {a:List Pt} {left:Int} (hl:In left) (h:a.length<=maxLen):lB left (bS a left) (a.length<=M):=nJ hl h
theorem zc {a:List im} {left:Int} (hl:In left) (h:a.length<=maxLen):lB left (bT a left) (a.length<=M):=nJ hl h
theorem zd {a:List j6} {left:Int} (hl:In left) (h:a.length<=maxLen):lB left (bU a left) (a.length<=M):=nJ hl h
theorem zL {a:jl} {left:Int} (hl:In left) (h:a.1.length<=maxLen/\a.2.length<=maxLen):lB left (bW a left) (a.1.length<=M/\a.2.length<=M/\True) :=
 ng (zd hl h.1) λr h1 h2=>ng (zK (hl.next h1 h2) h.2) λr h1 h2=>u0 h1
def vc (n:Nat) (b:gC):Prop:=b.2.1.length<=n/\b.2.2.1.length<=n/\b.2.2.2.1.length<=n/\b.2.2.2.2.1.length<=n/\b.2.2.2.2.2.1.length<=n
theorem ym {b:gC} {left:Int} (hl:In left) (h:vc maxLen b):lB left (bX b left) (vc M b):=by
 obtain⟨h1,h2,h3,h4,h5⟩:=h;refine yk (yj hl h1 λr k1 k2=>ng (Ae (hl.next k1 k2) h2) λr' k3 k4=>ng (zc ((hl.next k1 k2).next k3 k4) h3) λr'' k5 k6=>ng (zL (a:=(b.2.2.2.2.1,b.2.2.2.2.2.1)) (((hl.next k1 k2).next k3 k4).next k5 k6) ⟨h4,h5⟩) λr3 k7 k8=>u0 k7) ?_;rintro⟨a1,a2,a3,⟨a4,a5,_⟩,_⟩;exact⟨a1,a2,a3,a4,a5⟩
def zM (n:Nat) (v:qN):Prop:=v.2.2.1.length<=n/\v.2.2.2.length<=n
def AJ (n:Nat) (x:gG):Prop:=x.1.length<=n/\zM n x.2
def zN (n:Nat) (l:List gG):Prop:=l.length<=n/\∀x∈l,AJ n x
theorem xD {a:List Int} (h:a.length<=M):aB a=some a:=sO (mU h) (yh (mU h) 0)
theorem Af {a:List Pt} (h:a.length<=M):cn a=some a:=sO (mU h) (ra (f:=cm) (λ_ _=>rfl) (mU h) _)
theorem ze {a:List im} (h:a.length<=M):cp a=some a:=sO (mU h) (ra (f:=co) (λ_ _=>rfl) (mU h) _)
theorem zf {a:List j6} (h:a.length<=M):cr a=some a:=sO (mU h) (ra (f:=cq) (λ_ _=>rfl) (mU h) _)
theorem zO {a:jl} (h:a.1.length<=M/\a.2.length<=M):bx a=some a:=by
 unfold bx;rw[zf h.1,gT,xD h.2,gT]
theorem yn {b:gC} (h:vc M b):aC b=some b:=by
 obtain⟨h1,h2,h3,h4,h5⟩:=h;unfold aC;rw[Af h2,gT,ze h3,gT,zO ⟨h4,h5⟩,gT]
theorem Ag (v:lD):bG v v=some true:=by unfold bG;simp
theorem AP (v:Pt):b7 v v=some true:=by unfold b7;simp[Ag]
theorem zP (v:im):b8 v v=some true:=by unfold b8;simp
theorem zQ (v:j6):b9 v v=some true:=by unfold b9;simp
theorem sU {a:List Int} (h:a.length<=M):aL a a=some true:=qL (yi (mU h))
theorem Ah {a:List Pt} (h:a.length<=M):cz a a=some true:=qL (pq (g:=b7) (λx _=>AP x) (mU h))
theorem zg {a:List im} (h:a.length<=M):cA a a=some true:=qL (pq (g:=b8) (λx _=>zP x) (mU h))
theorem zh {a:List j6} (h:a.length<=M):cB a a=some true:=qL (pq (g:=b9) (λx _=>zQ x) (mU h))
theorem zR {a:jl} (h:a.1.length<=M/\a.2.length<=M):bH a a=some true:=by
 unfold bH;simp[zh h.1,sU h.2]
theorem yo {b:gC} (h:vc M b):bI b b=some true:=by
 obtain⟨h1,h2,h3,h4,h5⟩:=h;unfold bI;simp[Ah h2,zg h3,zR (a:=(b.2.2.2.2.1,b.2.2.2.2.2.1)) ⟨h4,h5⟩]
theorem Ai {v:qN} (h:zM M v):bE v v=some true:=by
 unfold bE;simp[sU h.2]
theorem zS {x:gG} (h:AJ M x):aZ x x=some true:=by
 unfold aZ;simp[sU h.1,Ai h.2]
theorem zi {l:List gG} (h:zN M l):b6 l l=some true:=qL (pq (g:=aZ) (λx hx=>zS (h.2 x hx)) (mU h.1))
theorem wQ {α β:Type} {f g:α->Option (α⊕β)} (gX:α->Prop) (h:∀x,gX x->f x=g x) (hi:∀x y,gX x->f x=some (.inl y)->gX y) {x:α} (h0:gX x):loop f x=loop g x:=by
 have key:∀k x,gX x->iU f k x=iU g k x:=by
  intro k
  induction k with
  | zero=>intro x _;rfl
  | succ k ih =>
   intro x hx;rw[iA,iA,←h x hx];cases hf:f x with
   | none=>rfl
   | some v=>cases v with
    | inl y=>exact ih y (hi x y hx hf)
    | inr b=>rfl
 have hex:(∃k,(iU f k x).isSome)↔∃k,(iU g k x).isSome:=by
  constructor<;>rintro⟨k,hk⟩<;>exact⟨k,by first|rwa [←key k x h0]|rwa [key k x h0]⟩
 by_cases hc:∃k,(iU f k x).isSome
 · obtain⟨k,hk⟩:=hc;cases hv:iU f k x with
   | none=>rw[hv]at hk;cases hk
   | some b=>rw[jV hv,jV ((key k x h0)▸hv)]
 · have hc':¬ ∃k,(iU g k x).isSome:=λh=>hc (hex.2 h);unfold loop;rw[dif_neg hc,dif_neg hc']
theorem jX {α β:Type} {f g:α->Option (α⊕β)} (h:∀x,f x=g x) (x:α):loop f x=loop g x:=by rw[funext h]
def i9 (x a b:Int):Bool:=decide (x>=a)&&decide (x<=b)
theorem nr (x a b:Int):a7 x a b=some (i9 x a b):=by
 unfold a7 i9;cases decide (x>=a)<;>rfl
theorem vd (x a b:Int):a6 x a b=some (i9 x a b):=nr x a b
def ve (v:lD):Bool:=i9 v.1 1 99&&(i9 v.2.1 0 100000&&(i9 v.2.2.1 0 10&&(i9 v.2.2.2.1 1 99&&i9 v.2.2.2.2 0 7)))
theorem yp (v:lD):aD v=some (ve v):=by
 unfold aD ve;simp only[nr,gT];cases i9 v.1 1 99<;>cases i9 v.2.1 0 100000<;>cases i9 v.2.2.1 0 10<;>cases i9 v.2.2.2.1 1 99<;>rfl
theorem AQ:aM=aD:=rfl
def u4 (p:Pt):Bool:=i9 p.2.1 1 1000&&(!(p.2.2.1&&!p.1)&&(cond p.2.2.1 (ve p.2.2.2) (p.2.2.2.1==0&&(p.2.2.2.2.1==0&&(p.2.2.2.2.2.1==0&&(p.2.2.2.2.2.2.1==0&&(p.2.2.2.2.2.2.2==0)))))))
theorem Ba (p:Pt):aS p=some (u4 p):=by
 obtain⟨up,cost,heard,v⟩:=p;unfold aS u4;simp only[nr,yp,gT];cases i9 cost 1 1000<;>cases up<;>cases heard<;>rfl
theorem Bb (p:Pt):aN p=some (u4 p):=by
 obtain⟨up,cost,heard,v⟩:=p;unfold aN u4;simp only[vd,AQ,yp,gT];cases i9 cost 1 1000<;>cases up<;>cases heard<;>rfl
theorem m9 {n:Nat} {c:Int->Option Bool} {b:Nat->Bool} (hn:n<9223372036854775807) (hc:∀k,k<n->c (k:Int)=some (b k)) :
 loop (λi:Int=>cond (decide (i<(n:Int))) ((c i).bind λt=>cond t (some (.inr (.inr false))) (some (.inl (gI (i+1))))) (some (.inr (.inl ())))) 0=some (cond ((List.range n).any b) (Sum.inr false) (Sum.inl ()):Unit⊕Bool):=by
 obtain⟨v,h1,h2⟩:=jz (β:=Unit⊕Bool) (step:=λi:Int=>cond (decide (i<(n:Int))) ((c i).bind λt=>cond t (some (.inr (.inr false))) (some (.inl (gI (i+1))))) (some (.inr (.inl ()))))
  (λk i=>i=(k:Int)/\(List.range k).any b=false) n (λv=>v=cond ((List.range n).any b) (Sum.inr false) (Sum.inl ()))
  (λk i hk ⟨e,ha⟩=>by
   subst e;have hs:(cond (decide ((k:Int)<(n:Int))) ((c (k:Int)).bind λt=>cond t (some (.inr (.inr false))) (some (.inl (gI ((k:Int)+1))))) (some (.inr (.inl ()))):Option (Int⊕(Unit⊕Bool)))=cond (b k) (some (.inr (.inr false))) (some (.inl ((k+1:Nat):Int))):=by
    rw[kY (by omega),cT,hc k hk,gT,j8 (by omega)]
   cases hb:b k with
   | true =>
    refine .inr ⟨.inr false,by rw[hs,hb];rfl,?_⟩;have:(List.range n).any b=true:=List.any_eq_true.2 ⟨k,mem_range.2 hk,hb⟩
    rw[this];rfl
   | false =>
    refine .inl ⟨_,by rw[hs,hb];rfl,rfl,?_⟩;rw[range_succ,List.any_append,ha];simp[hb])
  (λi ⟨e,ha⟩=>by
   subst e;exact⟨.inl (),by rw[jD (by omega),cF],by rw[ha];rfl⟩) (x:=0) ⟨rfl,rfl⟩
 rw[h1,h2]
def pZ (e:im):Bool:=i9 e.1 1 99&&(i9 e.2.1 1 9999&&(i9 e.2.2.1 0 7&&(i9 e.2.2.2.1 0 4&&(!e.2.2.2.2||e.2.2.2.1==0))))
theorem yH (e:im):aG e=some (pZ e):=by
 unfold aG pZ;simp only[nr,gT];cases i9 e.1 1 99<;>cases i9 e.2.1 1 9999<;>cases i9 e.2.2.1 0 7<;>cases i9 e.2.2.2.1 0 4<;>cases e.2.2.2.2<;>rfl
theorem Aj:bj=aG:=rfl
def mV (e:im) (tag mac:Int):Bool:=decide (e.1>tag)||(e.1==tag&&decide (e.2.1>mac))
theorem zj (e:im) (tag mac:Int):aU e tag mac=some (mV e tag mac):=by
 unfold aU mV;cases decide (e.1>tag)<;>cases (e.1==tag)<;>rfl
theorem zT (p e:im):aO p e.1 e.2.1=some (mV e p.1 p.2.1):=by
 unfold aO mV;by_cases h:p.1=e.1
 · simp[h]
 · have h':¬e.1=p.1:=λk=>h k.symm;have e1:(p.1 != e.1)=true:=by simpa using h
   have e2:(e.1==p.1)=false:=by simpa using h'
   rw[e1,e2,cT,Bool.false_and,Bool.or_false]
def m3 (l:List im) (k:Nat):Bool:=match l[k]? with
 | some e=>!(pZ e)||(decide (0<k)&&(match l[k-1]? with|some p=>!(mV e p.1 p.2.1)|none=>false))
 | none=>false
def mW (l:List im):Bool:=!((List.range l.length).any (m3 l))&&decide ((l.length:Int)<=12)
theorem rb {α:Type} {l:List α} {k:Nat} (h:k<l.length) (hk:0<k) (hn:l.length<9223372036854775807):at? l (gI ((k:Int)-1))=some l[k-1]:=by
 rw[mL (by omega) (by omega),show (k:Int)-1=((k-1:Nat):Int) by omega,iQ (by omega)]
theorem AR {l:List im} (hn:l.length<9223372036854775807):bz l=some (mW l):=by
 unfold bz mW;have h:=m9 (n:=l.length) (c:=λi=>(at? l i).bind λx10=>(aG x10).bind λt13=>(cond (!t13) (some true) ((cond (decide (i>0)) ((at? l (gI (i-1))).bind λx23=>(at? l (gI (i-1))).bind λx29=>(aU x10 x23.1 x29.2.1).bind λt32=>some (!t32)) (some false)).bind λt34=>some t34)).bind λt=>some t) (b:=m3 l) hn (λk hk=>by
  simp only[iQ hk,gT,yH,m3,List.getElem?_eq_getElem hk];cases pZ l[k]with
  | false=>rfl
  | true =>
   by_cases h0:0<k
   · have hd:decide ((k:Int)>0)=true:=dT (by omega);simp only[hd,rb hk h0 hn,gT,zj,dT h0,List.getElem?_eq_getElem (show k-1<l.length by omega)];rfl
   · have hd:decide ((k:Int)>0)=false:=dF (by omega);simp only[hd,dF h0];rfl)
 have e:(loop (λz=>ct l z) 0)=some (cond ((List.range l.length).any (m3 l)) (Sum.inr false) (Sum.inl ())):=by
  rw[←h];refine jX (λi=>?_) 0;unfold ct;simp only[Option.bind_assoc,gT]
 rw[e,gT];cases (List.range l.length).any (m3 l)<;>rfl
theorem AS {l:List im} (hn:l.length<9223372036854775807):bm l=some (mW l):=by
 unfold bm mW;have h:=m9 (n:=l.length) (c:=λi=>(at? l i).bind λx12=>(bj x12).bind λt14=>(cond (!t14) (some true) ((cond (decide (i>0)) ((at? l (gI (i-1))).bind λx23=>(at? l i).bind λx27=>(at? l i).bind λx32=>(aO x23 x27.1 x32.2.1).bind λt35=>some (!t35)) (some false)).bind λt37=>some t37)).bind λt=>some t) (b:=m3 l) hn (λk hk=>by
  simp only[iQ hk,gT,Aj,yH,m3,List.getElem?_eq_getElem hk];cases pZ l[k]with
  | false=>rfl
  | true =>
   by_cases h0:0<k
   · have hd:decide ((k:Int)>0)=true:=dT (by omega);simp only[hd,rb hk h0 hn,gT,zT,dT h0,List.getElem?_eq_getElem (show k-1<l.length by omega)];rfl
   · have hd:decide ((k:Int)>0)=false:=dF (by omega);simp only[hd,dF h0];rfl)
 have e:(loop (λz=>bY l z) 0)=some (cond ((List.range l.length).any (m3 l)) (Sum.inr false) (Sum.inl ())):=by
  rw[←h];refine jX (λi=>?_) 0;unfold bY;simp only[Option.bind_assoc,gT]
 rw[e,gT];cases (List.range l.length).any (m3 l)<;>rfl

theorem xE {v:jl} (hn:v.1.length<9223372036854775807) (id:Int):∃r,ao v id=some r:=by
 unfold ao;obtain⟨b,h1,_⟩:=jz (β:=Unit⊕Int) (step:=λz=>aE v id z) (λk i=>i=(k:Int)) v.1.length (λ_=>True)
  (λk i hk h=>by
   subst h;unfold aE;rw[kY (by omega),cT,iQ hk,gT];cases (v.1[k].1==id)with
   | true=>exact .inr ⟨_,rfl,trivial⟩
   | false=>exact .inl ⟨_,rfl,j8 (by omega)⟩)
  (λi h=>by
   subst h;unfold aE;rw[jD (by omega)];exact⟨_,rfl,trivial⟩) (x:=0) rfl
 rw[h1,gT];cases b with
 | inl _=>exact⟨_,rfl⟩
 | inr r=>exact⟨r,rfl⟩
def np (i:Int):Int:=(2:Int)^i.toNat-1
theorem vf {i:Int} (h:i9 i 1 6=true):i=1\/i=2\/i=3\/i=4\/i=5\/i=6:=by
 unfold i9 at h;simp only[aT,decide_eq_true_eq]at h;omega
theorem xF {i:Int} (h:i9 i 1 6=true):bA i=some (np i):=by
 rcases vf h with rfl|rfl|rfl|rfl|rfl|rfl<;>rfl
theorem AT {i:Int} (h:i9 i 1 6=true):∃t,shl .i64 1 (IntKind.u64.wrap i)=some t/\gI (t-1)=np i:=by
 rcases vf h with rfl|rfl|rfl|rfl|rfl|rfl<;>exact⟨_,rfl,rfl⟩
theorem yI {i:Int} (h:i9 i 1 6=true):1<=np i/\np i<=63:=by
 rcases vf h with rfl|rfl|rfl|rfl|rfl|rfl<;>decide
theorem sV (x:BitVec 64):IntKind.i64.wrap (x.toNat:Int)=x.toInt:=by
 have hx:=x.isLt;rw[BitVec.toInt_eq_toNat_cond];show (let m:=(x.toNat:Int)%18446744073709551616;if (true&&decide (m>=9223372036854775808))=true then m-18446744073709551616 else m)=_
 simp only[Bool.true_and,decide_eq_true_eq];have h1:(x.toNat:Int)%18446744073709551616=(x.toNat:Int):=by omega
 rw[h1];split<;>split<;>omega
theorem n9 {b:Int} (h1:-9223372036854775808<=b) (h2:b<=9223372036854775807):(BitVec.ofInt 64 b).toInt=b:=by
 rw[BitVec.toInt_ofInt];unfold Int.bmod;simp only;split<;>omega
theorem yJ (a b:Int):pw .i64 a b=(BitVec.ofInt 64 a&&&BitVec.ofInt 64 b).toInt:=sV _
theorem Ak (a b:Int):qj .i64 a b=(BitVec.ofInt 64 a &&& ~~~ BitVec.ofInt 64 b).toInt:=sV _
theorem w3 (x y:BitVec 64):x&&&y=x↔x &&& ~~~ y=0:=by
 constructor
 · intro h;apply BitVec.eq_of_getLsbD_eq;intro i hi;have:=congrArg (λz=>z.getLsbD i) h
   simp only[BitVec.getLsbD_and]at this;simp only[BitVec.getLsbD_and,BitVec.getLsbD_not,BitVec.getLsbD_zero,hi,decide_true,Bool.true_and];cases hx:x.getLsbD i<;>cases hy:y.getLsbD i<;>simp_all
 · intro h;apply BitVec.eq_of_getLsbD_eq;intro i hi;have:=congrArg (λz=>z.getLsbD i) h
   simp only[BitVec.getLsbD_and,BitVec.getLsbD_not,BitVec.getLsbD_zero,hi,decide_true,Bool.true_and]at this;simp only[BitVec.getLsbD_and];cases hx:x.getLsbD i<;>cases hy:y.getLsbD i<;>simp_all
theorem u5 {b m:Int} (h1:-9223372036854775808<=b) (h2:b<=9223372036854775807):(pw .i64 b m != b)=(qj .i64 b m != 0):=by
 rw[yJ,Ak];have e:((BitVec.ofInt 64 b&&&BitVec.ofInt 64 m).toInt=b)↔((BitVec.ofInt 64 b &&& ~~~ BitVec.ofInt 64 m).toInt=0):=by
  constructor
  · intro h;have:BitVec.ofInt 64 b&&&BitVec.ofInt 64 m=BitVec.ofInt 64 b:=BitVec.eq_of_toInt_eq (by rw[h,n9 h1 h2])
    rw[(w3 _ _).1 this];rfl
  · intro h;have:BitVec.ofInt 64 b &&& ~~~ BitVec.ofInt 64 m=0:=BitVec.eq_of_toInt_eq (by rw[h];rfl)
    rw[(w3 _ _).2 this,n9 h1 h2]
 by_cases h:(BitVec.ofInt 64 b&&&BitVec.ofInt 64 m).toInt=b
 · have h':=e.1 h;simp[h,h']
 · have h':¬(BitVec.ofInt 64 b &&& ~~~ BitVec.ofInt 64 m).toInt=0:=λk=>h (e.2 k);rw[bne_iff_ne.2 h,bne_iff_ne.2 h']
theorem w4 {b m t:Int} (h1:-9223372036854775808<=b) (h2:b<=9223372036854775807) (hm:i9 m 0 t=true) (ht:t<=63) (h:(pw .i64 b m != b)=false):i9 b 0 t=true:=by
 unfold i9 at hm ⊢;simp only[aT,decide_eq_true_eq]at hm ⊢;have h:pw .i64 b m=b:=by simpa using h
 rw[yJ]at h;have e:BitVec.ofInt 64 b&&&BitVec.ofInt 64 m=BitVec.ofInt 64 b:=BitVec.eq_of_toInt_eq (by rw[h,n9 h1 h2])
 have hM:(BitVec.ofInt 64 m).toNat=m.toNat:=by
  rw[BitVec.toNat_ofInt];omega
 have hle:(BitVec.ofInt 64 b).toNat<=m.toNat:=by
  rw[←e,BitVec.toNat_and,hM];exact Nat.and_le_right
 have hb:(BitVec.ofInt 64 b).toInt=((BitVec.ofInt 64 b).toNat:Int):=by
  rw[BitVec.toInt_eq_toNat_cond];split<;>omega
 rw[n9 h1 h2]at hb;omega
def ol (v:jl) (i:Int) (k:Nat):Bool:=match v.1[k]? with
 | some r=>!(i9 r.1 1 99)||((decide (0<k)&&(match v.1[k-1]? with|some p=>decide (p.1>=r.1)|none=>false))||(!(i9 r.2.1 0 (np i))||(qj .i64 r.2.2 r.2.1 != 0)))
 | none=>false
noncomputable def q5 (v:jl) (k:Nat):Bool:=match v.2[k]? with
 | some x=>(match ao v x with|some t=>decide (t<0)|none=>false)
 | none=>false
noncomputable def lN (v:jl) (i:Int):Bool:=!(!(i9 i 1 6)||((v.2.length:Int) != i||decide ((v.1.length:Int)>6)))&&(!((List.range v.1.length).any (ol v i))&&!((List.range v.2.length).any (q5 v)))
theorem xG {v:jl} {i:Int} (hi:i9 i 1 6=true) (hn:v.1.length<9223372036854775807):loop (λz=>cu v i z) 0=some (cond ((List.range v.1.length).any (ol v i)) (Sum.inr false) (Sum.inl ())):=by
 rw[←m9 (n:=v.1.length) (c:=λt28=>(at? v.1 t28).bind λx31 =>
  (a7 x31.1 1 99).bind λt35 =>
  (cond (!t35) (some true) ((cond (decide (t28>0)) ((at? v.1 (gI (t28-1))).bind λx45=>some (decide (x45.1>=x31.1))) (some false)).bind λt51=>some t51)).bind λt52 =>
  (cond t52 (some true) ((bA i).bind λt57=>(a7 x31.2.1 0 t57).bind λt58=>some (!t58))).bind λt60 =>
  (cond t60 (some true) (some ((qj .i64 x31.2.2 x31.2.1) != 0))).bind λt=>some t) (b:=ol v i) hn (λk hk=>by
   simp only[iQ hk,gT,nr,ol,List.getElem?_eq_getElem hk,xF hi];cases i9 v.1[k].1 1 99 with
   | false=>rfl
   | true =>
    by_cases h0:0<k
    · have hd:decide ((k:Int)>0)=true:=dT (by omega);simp only[hd,rb hk h0 hn,gT,dT h0,List.getElem?_eq_getElem (show k-1<v.1.length by omega)];cases decide (v.1[k-1].1>=v.1[k].1)<;>cases i9 v.1[k].2.1 0 (np i)<;>rfl
    · have hd:decide ((k:Int)>0)=false:=dF (by omega);simp only[hd,dF h0];cases i9 v.1[k].2.1 0 (np i)<;>rfl)]
 refine jX (λi=>?_) 0;unfold cu;simp only[Option.bind_assoc,gT]
theorem wR {v:jl} {i t:Int} (hi:i9 i 1 6=true) (ht:gI (t-1)=np i) (hn:v.1.length<9223372036854775807) (hw:∀r∈v.1,-9223372036854775808<=r.2.2/\r.2.2<=9223372036854775807):loop (λz=>bZ v t z) 0=some (cond ((List.range v.1.length).any (ol v i)) (Sum.inr false) (Sum.inl ())):=by
 rw[←m9 (n:=v.1.length) (c:=λt6=>(at? v.1 t6).bind λx39 =>
  (a6 x39.1 1 99).bind λt43 =>
  (cond (!t43) (some true) ((a6 x39.2.1 0 (gI (t-1))).bind λt49=>some (!t49))).bind λt51 =>
  (cond t51 (some true) ((a6 x39.2.2 0 (gI (t-1))).bind λt56=>some (!t56))).bind λt58 =>
  (cond t58 (some true) (some ((pw .i64 x39.2.2 x39.2.1) != x39.2.2))).bind λt68 =>
  (cond t68 (some true) ((cond (decide (t6>0)) ((at? v.1 (gI (t6-1))).bind λx77=>some (decide (x77.1>=x39.1))) (some false)).bind λt83=>some t83)).bind λt=>some t) (b:=ol v i) hn (λk hk=>by
   obtain⟨w1,w2⟩:=hw _ (getElem_mem hk);have hs:=u5 (m:=v.1[k].2.1) w1 w2
   have hin:=w4 (m:=v.1[k].2.1) (t:=np i) w1 w2;have ht2:=(yI hi).2
   simp only[iQ hk,gT,vd,ol,List.getElem?_eq_getElem hk,ht];rw[←hs];cases h1:i9 v.1[k].1 1 99 with
   | false=>rfl
   | true =>
    cases h2:i9 v.1[k].2.1 0 (np i)with
    | false =>
     by_cases h0:0<k
     · simp only[dT h0,List.getElem?_eq_getElem (show k-1<v.1.length by omega)];cases decide (v.1[k-1].1>=v.1[k].1)<;>rfl
     · simp only[dF h0];rfl
    | true =>
     cases h3:(pw .i64 v.1[k].2.2 v.1[k].2.1 != v.1[k].2.2)with
     | true =>
      by_cases h0:0<k
      · simp only[dT h0,List.getElem?_eq_getElem (show k-1<v.1.length by omega)];cases decide (v.1[k-1].1>=v.1[k].1)<;>cases i9 v.1[k].2.2 0 (np i)<;>rfl
      · simp only[dF h0];cases i9 v.1[k].2.2 0 (np i)<;>rfl
     | false =>
      have h4:=hin h2 ht2 h3;rw[h4];by_cases h0:0<k
      · have hd:decide ((k:Int)>0)=true:=dT (by omega);simp only[hd,rb hk h0 hn,gT,dT h0,List.getElem?_eq_getElem (show k-1<v.1.length by omega)];cases decide (v.1[k-1].1>=v.1[k].1)<;>rfl
      · have hd:decide ((k:Int)>0)=false:=dF (by omega);simp only[hd,dF h0];rfl)]
 refine jX (λi=>?_) 0;unfold bZ;simp only[Option.bind_assoc,gT]
theorem u6 {v:jl} (hn:v.1.length<9223372036854775807) (hn2:v.2.length<9223372036854775807):loop (λz=>bB v z) 0=some (cond ((List.range v.2.length).any (q5 v)) (Sum.inr false) (Sum.inl ())):=by
 rw[←m9 (n:=v.2.length) (c:=λt73=>(at? v.2 t73).bind λx75=>(ao v x75).bind λt79=>some (decide (t79<0))) (b:=q5 v) hn2 (λk hk=>by
  obtain⟨r,hr⟩:=xE hn v.2[k];simp only[iQ hk,gT,q5,List.getElem?_eq_getElem hk,hr])]
 refine jX (λi=>?_) 0;unfold bB;simp only[Option.bind_assoc,gT]
theorem Al:cR=bB:=rfl
theorem Am {v:jl} (i:Int) (hn:v.1.length<9223372036854775807) (hn2:v.2.length<9223372036854775807):bC v i=some (lN v i):=by
 unfold bC lN;simp only[nr,gT];cases hi:i9 i 1 6 with
 | false=>rfl
 | true =>
  rw[xG hi hn,u6 hn hn2];cases ((v.2.length:Int) != i)<;>cases decide ((v.1.length:Int)>6)<;>cases (List.range v.1.length).any (ol v i)<;>cases (List.range v.2.length).any (q5 v)<;>rfl
theorem An {v:jl} (i:Int) (hn:v.1.length<9223372036854775807) (hn2:v.2.length<9223372036854775807) (hw:∀r∈v.1,-9223372036854775808<=r.2.2/\r.2.2<=9223372036854775807):bn v i=some (lN v i):=by
 unfold bn lN;simp only[vd,gT,Al];cases hi:i9 i 1 6 with
 | false=>rfl
 | true =>
  obtain⟨t,h1,h2⟩:=AT hi;rw[h1,gT,wR hi h2 hn hw,u6 hn hn2];cases ((v.2.length:Int) != i)<;>cases decide ((v.1.length:Int)>6)<;>cases (List.range v.1.length).any (ol v i)<;>cases (List.range v.2.length).any (q5 v)<;>rfl
def rK (l:List Pt) (k:Nat):Bool:=match l[k]? with|some p=>!(u4 p)|none=>false
def mX (b:gC):Bool:=i9 b.2.2.2.2.2.2.1 0 1000000&&(i9 b.2.2.2.2.2.2.2.1 0 1000000&&(i9 b.2.2.2.2.2.2.2.2.1 0 1000000&&(i9 b.2.2.2.2.2.2.2.2.2.1 0 1000000&&i9 b.2.2.2.2.2.2.2.2.2.2 0 1000000)))
noncomputable def kV (b:gC):Bool:=!((List.range b.2.2.1.length).any (rK b.2.2.1))&&(i9 b.1 1 99&&(!(decide ((b.2.1.length:Int)>10))&&(i9 (b.2.2.1.length:Int) 1 6&&(mW b.2.2.2.1&&(lN (b.2.2.2.2.1,b.2.2.2.2.2.1) (b.2.2.1.length:Int)&&mX b)))))
structure ni (b:gC):Prop where
 p:b.2.2.1.length<9223372036854775807
 f:b.2.2.2.1.length<9223372036854775807
 v:b.2.2.2.2.1.length<9223372036854775807
 q:b.2.2.2.2.2.1.length<9223372036854775807
 r:∀r∈b.2.2.2.2.1,-9223372036854775808<=r.2.2/\r.2.2<=9223372036854775807
theorem wS {b:gC} (h:ni b):loop (λz=>cw b z) 0=some (cond ((List.range b.2.2.1.length).any (rK b.2.2.1)) (Sum.inr false) (Sum.inl ())):=by
 rw[←m9 (n:=b.2.2.1.length) (c:=λt8=>(at? b.2.2.1 t8).bind λx10=>(aS x10).bind λt13=>some (!t13)) (b:=rK b.2.2.1) h.p (λk hk=>by
  simp only[iQ hk,gT,rK,List.getElem?_eq_getElem hk,Ba])]
 refine jX (λi=>?_) 0;unfold cw;simp only[Option.bind_assoc,gT]
theorem vI {b:gC} (h:ni b):loop (λz=>ca b z) 0=some (cond ((List.range b.2.2.1.length).any (rK b.2.2.1)) (Sum.inr false) (Sum.inl ())):=by
 rw[←m9 (n:=b.2.2.1.length) (c:=λt8=>(at? b.2.2.1 t8).bind λx10=>(aN x10).bind λt13=>some (!t13)) (b:=rK b.2.2.1) h.p (λk hk=>by
  simp only[iQ hk,gT,rK,List.getElem?_eq_getElem hk,Bb])]
 refine jX (λi=>?_) 0;unfold ca;simp only[Option.bind_assoc,gT]
theorem zk (b:gC):bo b=some (mX b):=by
 unfold bo mX;simp only[vd,gT];cases i9 b.2.2.2.2.2.2.1 0 1000000<;>cases i9 b.2.2.2.2.2.2.2.1 0 1000000<;>cases i9 b.2.2.2.2.2.2.2.2.1 0 1000000<;>cases i9 b.2.2.2.2.2.2.2.2.2.1 0 1000000<;>rfl
theorem zU (n:Int):ap n=some (i9 n 0 1000000):=by unfold ap;rw[nr,gT]
theorem zl {b:gC} (h:ni b):bD b=some (kV b):=by
 unfold bD kV mX;rw[wS h,gT];cases (List.range b.2.2.1.length).any (rK b.2.2.1)with
 | true=>rfl
 | false =>
  simp only[cF,Sum.elim_inl,nr,AR h.f,Am (v:=(b.2.2.2.2.1,b.2.2.2.2.2.1)) _ h.v h.q,zU,gT];cases i9 b.1 1 99<;>cases decide ((b.2.1.length:Int)>10)<;>cases i9 (b.2.2.1.length:Int) 1 6<;>cases mW b.2.2.2.1<;>cases lN (b.2.2.2.2.1,b.2.2.2.2.2.1) (b.2.2.1.length:Int) <;>
   cases i9 b.2.2.2.2.2.2.1 0 1000000<;>cases i9 b.2.2.2.2.2.2.2.1 0 1000000<;>cases i9 b.2.2.2.2.2.2.2.2.1 0 1000000<;>cases i9 b.2.2.2.2.2.2.2.2.2.1 0 1000000<;>rfl
theorem zm {b:gC} (h:ni b):bp b=some (kV b):=by
 unfold bp kV;rw[vI h,gT];cases (List.range b.2.2.1.length).any (rK b.2.2.1)with
 | true=>rfl
 | false =>
  have e:decide ((b.2.1.length:Int)<=10)=!(decide ((b.2.1.length:Int)>10)):=by
   by_cases hh:(b.2.1.length:Int)>10
   · rw[dT hh,dF (by omega)];rfl
   · rw[dF hh,dT (by omega)];rfl
  simp only[cF,Sum.elim_inl,vd,AS h.f,An (v:=(b.2.2.2.2.1,b.2.2.2.2.2.1)) _ h.v h.q h.r,zk,gT,e];cases i9 b.1 1 99<;>cases decide ((b.2.1.length:Int)>10)<;>cases i9 (b.2.2.1.length:Int) 1 6<;>cases mW b.2.2.2.1<;>cases lN (b.2.2.2.2.1,b.2.2.2.2.2.1) (b.2.2.1.length:Int)<;>cases mX b<;>rfl
theorem yK:bq=aH:=rfl
theorem yL (a b:lD):∃r,aH a b=some r:=by
 unfold aH;cases (a.1 != b.1)<;>cases (a.2.1 != b.2.1)<;>cases (a.2.2.2.1 != b.2.2.2.1)<;>exact⟨_,rfl⟩
theorem Ao:cc=aW:=rfl
theorem Ap (v:lD) (c:Int):∃r,aW v c=some r:=by
 unfold aW;simp only[yp,nr,gT];cases ve v<;>cases i9 c 1 1000<;>first|exact⟨_,rfl⟩|skip
 generalize ve (v.1,gI (v.2.1+c),gI (v.2.2.1+1),v.2.2.2.1,v.2.2.2.2)=q;cases q<;>exact⟨_,rfl⟩
theorem Aq (p0:Int) (l:List Pt) (t8 t9 b0 b1 b2 b3 b4 c0 c1 c2 c3 c4:Int):ce p0 l t8 t9 b0 b1 b2 b3 b4 c0 c1 c2 c3 c4=aI p0 l t8 t9 b0 b1 b2 b3 b4 c0 c1 c2 c3 c4:=by
 unfold ce aI;rw[Ao,yK];cases h:at? l t9 with
 | none=>rfl
 | some x=>simp only[gT]
theorem yM:aP=aq:=by
 funext p0 l
 unfold aP aq;rw[jX (λz=>Aq p0 l _ _ _ _ _ _ _ _ _ _ _ _)]
theorem Ar (p0:Int) {l:List Pt} (hn:l.length<9223372036854775807):∃r,aq p0 l=some r:=by
 unfold aq;obtain⟨b,h1,_⟩:=jz (step:=λz:Int×Int×Int×Int×Int×Int×Int×Int×Int×Int×Int×Int=>aI p0 l z.1 z.2.1 z.2.2.1 z.2.2.2.1 z.2.2.2.2.1 z.2.2.2.2.2.1 z.2.2.2.2.2.2.1 z.2.2.2.2.2.2.2.1 z.2.2.2.2.2.2.2.2.1 z.2.2.2.2.2.2.2.2.2.1 z.2.2.2.2.2.2.2.2.2.2.1 z.2.2.2.2.2.2.2.2.2.2.2)
  (λk z=>z.2.1=(k:Int)) l.length (λ_=>True)
  (λk z hk h=>by
   left;obtain⟨t7,t18,b0,b1,b2,b3,b4,c0,c1,c2,c3,c4⟩:=z;obtain rfl:t18=(k:Int):=h;unfold aI;simp only[kY (show (k:Int)<(l.length:Int) by omega),cT,iQ hk,gT];rw[show gI ((k:Int)+1)=((k+1:Nat):Int)from j8 (by omega)];generalize l[k]=x;have e:(cond (!x.1) (some true) (some (!x.2.2.1)):Option Bool)=some (cond (!x.1) true (!x.2.2.1)):=by cases x.1<;>rfl
   rw[e,gT];cases (cond (!x.1) true (!x.2.2.1))with
   | true=>exact⟨_,rfl,rfl⟩
   | false =>
    obtain⟨r,hr⟩:=Ap x.2.2.2 x.2.1;obtain⟨q,hq⟩:=yL r.1 (c0,c1,c2,c3,c4);rw[cF,hr,gT,hq];cases r.2<;>cases decide (r.1.1<p0)<;>cases decide (t7<0)<;>cases q<;>exact⟨_,rfl,rfl⟩)
  (λz h=>by
   obtain⟨t7,t18,b0,b1,b2,b3,b4,c0,c1,c2,c3,c4⟩:=z;obtain rfl:t18=(l.length:Int):=h;unfold aI;simp only[jD (show ¬(l.length:Int)<(l.length:Int) by omega),cF];exact⟨_,rfl,trivial⟩) (x:=((-1),0,p0,0,0,p0,0,0,0,0,0,0)) rfl
 rw[h1,gT];exact⟨_,rfl⟩
theorem AU:br=aX:=by
 funext id l p
 unfold br aX;rw[yM]
theorem As:bt=ar:=by
 funext id l p
 unfold bt ar;rw[yM,AU,yK];rfl
theorem yN (id:Int) {l:List Pt} (hn:l.length<9223372036854775807) (p:Int):∃r,ar id l p=some r:=by
 obtain⟨v,hv⟩:=Ar id hn;unfold ar aX;simp only[nr,gT,hv];rw[show gI ((l.length:Int)-1)=(l.length:Int)-1 from mL (by omega) (by omega)];cases hp:i9 p 0 ((l.length:Int)-1)with
 | false=>exact⟨_,rfl⟩
 | true =>
  unfold i9 at hp;simp only[aT,decide_eq_true_eq]at hp;obtain⟨k,rfl⟩:∃k:Nat,p=(k:Int):=⟨p.toNat,by omega⟩;simp only[iQ (show k<l.length by omega),gT];generalize l[k]'(by omega)=x;obtain⟨q,hq⟩:=yL (v.1.1,v.1.2.1,v.1.2.2.1,v.1.2.2.2.1,(k:Int)) x.2.2.2;rw[hq];cases x.1<;>cases (v.2==(k:Int))<;>cases x.2.2.1<;>cases q<;>exact⟨_,rfl⟩
theorem Au (b:gC) (c p:Int):bu b c p=au b c p:=by
 unfold bu au aV;rw[As];cases at? b.2.2.1 p with
 | none=>rfl
 | some x=>simp only[gT];cases x.1<;>rfl
theorem s5 {α:Type} (out:List gG) (name:List Int) (n:Int) (f:List gG->Option α):((ac n).bind λv=>(ab v name).bind λt=>(lm out [t]).bind f)=(a8 out name n).bind f:=by
 unfold ac ab a8 aA cb;simp only[gT,Option.bind_assoc]
theorem yq (b:gC) (c i:Int) (out:List gG):cg b c i out=af b c i out:=by
 unfold cg af;simp only[Au,s5]
theorem AW {r:j6} {c:Int} (h:1<=c/\c<=3):((ix [1,r.2.1,r.2.2].length (gI (c-1))).bind λj=>([1,r.2.1,r.2.2][j]?).bind λx=>some x)=cf r c:=by
 have:c=1\/c=2\/c=3:=by omega
 rcases this with rfl|rfl|rfl<;>rfl
theorem zn (b:gC) {c:Int} (h:1<=c/\c<=3) (i:Int) (out:List gG):ci b c i out=ah b c i out:=by
 unfold ci ah;cases hr:at? b.2.2.2.2.1 i with
 | none=>rfl
 | some r =>
  simp only[gT,←AW (r:=r) h,Option.bind_assoc,s5]
theorem zV (b:gC) (i:Int) (out:List gG):cj b i out=ae b i out:=by
 unfold cj ae;cases hr:at? b.2.2.2.1 i with
 | none=>rfl
 | some r=>simp only[gT,s5]
theorem Av (b:gC) (c:Int) (out:List gG):ch b c out=av b c out:=by
 unfold ch av;rw[jX (λz=>yq b c _ _)]
theorem Aw (b:gC) {c:Int} (h:1<=c) (out:List gG):aQ b c out=aw b c out:=by
 unfold aQ aw;by_cases h3:c<=3
 · rw[jX (λz=>zn b ⟨h,h3⟩ _ _)]
 · rw[dF h3];rfl
theorem wT (b:gC) {c:Int} {out:List gG} {y:Int×List gG} (h:1<=c) (e:aQ b c out=some (.inl y)):1<=y.1:=by
 unfold aQ at e;by_cases h3:c<=3
 · rw[dT h3,cT,Option.bind_eq_some_iff]at e;obtain⟨d,_,e⟩:=e;cases e;show 1<=gI (c+1)
   rw[mL (by omega) (by omega)];omega
 · rw[dF h3]at e;cases e
def ma (b:gC):List gG:=[([1,3,1,1,1],4,0,b.2.1,[]),([1,3,1,1,2],2,b.2.2.2.2.2.2.1,[],[]),([1,3,1,1,3],2,b.2.2.2.2.2.2.2.1,[],[]),([1,3,1,1,4],2,b.2.2.2.2.2.2.2.2.1,[],[]),([1,3,1,1,5],2,b.2.2.2.2.2.2.2.2.2.1,[],[])]
theorem AX (b:gC):ab (4,0,b.2.1,[]) ([1,1]:List Int)=some ([1,3,1,1,1],4,0,b.2.1,[]):=by kernel_rfl
theorem AY (b:gC):iU (λz=>dW b z.1 z.2) 5 (0,[([1,3,1,1,1],4,0,b.2.1,[])])=some (ma b):=by kernel_rfl
theorem AZ (b:gC):((aA ([1,1]:List Int)).bind λt14=>(a8 ([(t14,4,0,b.2.1,[])]) ([1,2]:List Int) b.2.2.2.2.2.2.1).bind λt24=>(a8 t24 ([1,3]:List Int) b.2.2.2.2.2.2.2.1).bind λt29 =>
 (a8 t29 ([1,4]:List Int) b.2.2.2.2.2.2.2.2.1).bind λt34=>(a8 t34 ([1,5]:List Int) b.2.2.2.2.2.2.2.2.2.1))=some (ma b):=by kernel_rfl
noncomputable def re (b:gC) (l:List gG):Option (List gG) :=
 (loop (λz=>av b z.1 z.2) (1,l)).bind λd_2 =>
  (loop (λz=>aw b z.1 z.2) (1,d_2)).bind λd_4 =>
  (loop (λz=>ae b z.1 z.2) (0,d_4)).bind λd_5 =>
  some d_5
theorem yr {b:gC} (h:ni b):ax b=cond (!(kV b)) (some []) (re b (ma b)):=by
 unfold ax;rw[zl h,gT,AX,gT,jV (AY b),gT];rfl
theorem B0 {b:gC} (h:ni b):aR b=cond (!(kV b)) (some []) (re b (ma b)):=by
 unfold aR;rw[zm h,gT];have hc:=AZ b
 have e:∀{α:Type} (f:List gG->Option α),((aA ([1,1]:List Int)).bind λt14=>(a8 ([(t14,4,0,b.2.1,[])]) ([1,2]:List Int) b.2.2.2.2.2.2.1).bind λt24=>(a8 t24 ([1,3]:List Int) b.2.2.2.2.2.2.2.1).bind λt29 =>
  (a8 t29 ([1,4]:List Int) b.2.2.2.2.2.2.2.2.1).bind λt34=>(a8 t34 ([1,5]:List Int) b.2.2.2.2.2.2.2.2.2.1).bind f)=f (ma b):=by
  intro α f;have:((aA ([1,1]:List Int)).bind λt14=>(a8 ([(t14,4,0,b.2.1,[])]) ([1,2]:List Int) b.2.2.2.2.2.2.1).bind λt24=>(a8 t24 ([1,3]:List Int) b.2.2.2.2.2.2.2.1).bind λt29 =>
   (a8 t29 ([1,4]:List Int) b.2.2.2.2.2.2.2.2.1).bind λt34=>(a8 t34 ([1,5]:List Int) b.2.2.2.2.2.2.2.2.2.1)).bind f=f (ma b):=by rw[hc,gT]
  rw[←this];simp only[Option.bind_assoc]
 rw[e]
 congr 1
 unfold re;rw[jX (λz=>Av b _ _)]
 congr 1
 funext d
 rw[wQ (λz:Int×List gG=>1<=z.1) (λz hz=>Aw b hz _) (λz y hz e=>wT b hz e) (show (1:Int)<=1 by omega)]
 congr 1
 funext d
 rw[jX (λz=>zV b _ _)]
theorem yt {b:gC} (h:ni b):aR b=ax b:=by rw[B0 h,yr h]

theorem Ax {b:gC} (h:ni b) (c:Int) {k:Nat} (hk:k<b.2.2.1.length) (hq:b.2.2.1.length=b.2.2.2.2.2.1.length):∃n,au b c (k:Int)=some n:=by
 obtain⟨r,hr⟩:=yN b.1 h.p (k:Int);unfold au aV;rw[iQ hk,iQ (show k<b.2.2.2.2.2.1.length by omega),hr];simp only[gT];cases (c==1)<;>cases (c==2)<;>cases (c==3)<;>cases (b.2.2.1[k]).1<;>exact⟨_,rfl⟩
abbrev Bc (x:Int):Prop:=-9223372036854775808<=x/\x<=9223372036854775807
structure VT (v:jl) (n:Nat):Prop where
 p:lN v (n:Int)=true
 r:∀r∈v.1,Bc r.2.2
theorem VT.len {v:jl} {n:Nat} (h:VT v n):1<=n/\n<=6/\v.2.length=n/\v.1.length<=6:=by
 have hp:=h.p;unfold lN i9 at hp;simp only[aT,Bool.not_eq_true',Bool.or_eq_false_iff,Bool.not_eq_false',aT,decide_eq_true_eq,decide_eq_false_iff_not,bne_eq_false_iff_eq]at hp;obtain⟨⟨h1,h2,h3⟩,_⟩:=hp;omega
theorem nj {α:Type} {xs ys:List α} (h:xs.length+ys.length<=4294967296):lm xs ys=some (xs++ys):=by
 unfold lm;rw[if_pos (show xs.length+ys.length<=pv from h)]
def lt (a b:im):Prop:=a.1<b.1\/(a.1=b.1/\a.2.1<b.2.1)
def same (a b:im):Prop:=a.1=b.1/\a.2.1=b.2.1
theorem lt_trans {a b c:im} (h:lt a b) (k:lt b c):lt a c:=by unfold lt at *;omega
structure FB (l:List im):Prop where
 e:∀x∈l,pZ x=true
 o:l.Pairwise lt
 n:l.length<=12
theorem FB.ok {l:List im} (h:FB l):mW l=true:=by
 unfold mW;have hn:=h.n
 rw[dT (show (l.length:Int)<=12 by omega),Bool.and_true,Bool.not_eq_true'];apply Bool.eq_false_iff.2;intro ha;obtain⟨k,hk,hx⟩:=List.any_eq_true.1 ha;have hk:=mem_range.1 hk
 unfold m3 at hx;simp only[List.getElem?_eq_getElem hk,h.e _ (getElem_mem hk),Bool.not_true,Bool.false_or,aT,decide_eq_true_eq]at hx;obtain⟨h0,hx⟩:=hx;simp only[List.getElem?_eq_getElem (show k-1<l.length by omega),Bool.not_eq_true']at hx;have hl:=pairwise_iff_getElem.1 h.o (k-1) k (by omega) hk (by omega)
 unfold mV at hx;simp only[Bool.or_eq_false_iff,Bool.and_eq_false_iff,decide_eq_false_iff_not,bF]at hx;unfold lt at hl;omega
theorem xH {α β:Type} (l:List α) (i:Int) (f:α->Option β):((ix l.length i).bind λj=>(l[j]?).bind f)=(at? l i).bind f:=by
 unfold ix at?;by_cases h0:0<=i
 · rw[if_pos h0,if_pos h0];by_cases h1:i<(l.length:Int)
   · rw[if_pos h1,gT]
   · rw[if_neg h1,List.getElem?_eq_none (by omega)];rfl
 · rw[if_neg h0,if_neg h0];rfl
noncomputable def q6 (b:gC) (c p:Int):Int:=(au b c p).getD 0
def num (name:List Int) (n:Int):gG:=([1,3,1]++name,2,n,[],[])
def qQ (r:j6) (c:Nat):Int:=match c with|0=>1|1=>r.2.1|_=>r.2.2
noncomputable def jm (b:gC) (c:Nat):List gG:=(List.range b.2.2.1.length).map λk=>num [2,((c+1:Nat):Int),((k+1:Nat):Int)] (q6 b ((c+1:Nat):Int) (k:Int))
def ke (b:gC) (c:Nat):List gG:=b.2.2.2.2.1.map λr=>num [3,((c+1:Nat):Int),r.1] (qQ r c)
def oU (b:gC):List gG:=b.2.2.2.1.map λe=>num [4,1,e.1,e.2.1] (gI (e.2.2.1+1))
noncomputable def jZ (b:gC):List gG:=ma b++(List.range 4).flatMap (jm b)++(List.range 3).flatMap (ke b)++oU b
theorem s6 {out:List gG} (name:List Int) (n i:Int) (h1:out.length<=900) (h2:name.length<=900):((ac n).bind λv=>(ab v name).bind λt=>(lm out [t]).bind λzs=>some (Sum.inl (gI (i+1),zs):(Int×List gG)⊕List gG))=some (Sum.inl (gI (i+1),out++[num name n])):=by
 unfold ac ab;rw[gT,nj (by show 3+name.length<=_;omega),gT,gT,nj (by show out.length+1<=_;omega),gT];rfl
theorem Ay {b:gC} (h:ni b) (hq:b.2.2.1.length=b.2.2.2.2.2.1.length) (h6:b.2.2.1.length<=6) (c:Nat) (out:List gG) (ho:out.length<=500):loop (λz=>af b ((c+1:Nat):Int) z.1 z.2) (0,out)=some (out++jm b c):=by
 obtain⟨v,h1,rfl⟩:=jz (step:=λz:Int×List gG=>af b ((c+1:Nat):Int) z.1 z.2) (λk z=>z.1=(k:Int)/\z.2=out++(List.range k).map λk=>num [2,((c+1:Nat):Int),((k+1:Nat):Int)] (q6 b ((c+1:Nat):Int) (k:Int))) b.2.2.1.length (λv=>v=out++jm b c)
  (λk z hk ⟨e1,e2⟩=>by
   obtain⟨i,l⟩:=z;simp only at e1 e2;subst e1;left;obtain⟨n,hn⟩:=Ax h ((c+1:Nat):Int) hk hq;have hv:q6 b ((c+1:Nat):Int) (k:Int)=n:=by unfold q6;rw[hn];rfl
   have hl:l.length<=900:=by rw[e2];simp;omega
   refine⟨(((k+1:Nat):Int),l++[num [2,((c+1:Nat):Int),((k+1:Nat):Int)] n]),?_,rfl,?_⟩
   · show af b ((c+1:Nat):Int) (k:Int) l=_;unfold af;rw[kY (by omega),cT,hn,gT,s6 _ _ _ hl (by simp),j8 (by omega)]
   · show l++[num _ n]=_;rw[e2,range_succ,List.map_append,←append_assoc,List.map_singleton,hv])
  (λz ⟨e1,e2⟩=>by
   obtain⟨i,l⟩:=z;simp only at e1 e2;subst e1;refine⟨l,?_,e2⟩;show af b ((c+1:Nat):Int) _ l=_
   unfold af;rw[jD (by omega),cF]) (x:=(0,out)) ⟨rfl,by simp⟩
 exact h1
theorem zW {b:gC} (h:ni b) (hq:b.2.2.1.length=b.2.2.2.2.2.1.length) (h6:b.2.2.1.length<=6) (out:List gG) (ho:out.length<=100):loop (λz=>av b z.1 z.2) (1,out)=some (out++(List.range 4).flatMap (jm b)):=by
 have hg:∀c,(jm b c).length<=6:=λc=>by unfold jm;rw[length_map,List.length_range];exact h6
 obtain⟨v,h1,rfl⟩:=jz (step:=λz:Int×List gG=>av b z.1 z.2) (λk z=>z.1=((k+1:Nat):Int)/\z.2=out++(List.range k).flatMap (jm b)/\z.2.length<=100+6*k) 4 (λv=>v=out++(List.range 4).flatMap (jm b))
  (λk z hk ⟨e1,e2,e3⟩=>by
   obtain⟨i,l⟩:=z;simp only at e1 e2 e3;subst e1;left;have hg':=hg k
   refine⟨(((k+1+1:Nat):Int),l++jm b k),?_,rfl,?_,by show (l++jm b k).length<=_;rw[length_append];omega⟩
   · show av b ((k+1:Nat):Int) l=_;unfold av;rw[dT (show ((k+1:Nat):Int)<=4 by omega),cT,Ay h hq h6 k l (by omega),gT,j8 (by omega)]
   · show l++jm b k=_;rw[e2,range_succ,List.flatMap_append,←append_assoc];simp)
  (λz ⟨e1,e2,e3⟩=>by
   obtain⟨i,l⟩:=z;simp only at e1 e2 e3;subst e1;exact⟨l,rfl,e2⟩) (x:=(1,out)) ⟨rfl,by simp,by show out.length<=_;omega⟩
 exact h1
theorem B1 {b:gC} (h6:b.2.2.2.2.1.length<=6) {c:Nat} (hc:c<3) (out:List gG) (ho:out.length<=500):loop (λz=>ah b ((c+1:Nat):Int) z.1 z.2) (0,out)=some (out++ke b c):=by
 obtain⟨v,h1,rfl⟩:=jz (step:=λz:Int×List gG=>ah b ((c+1:Nat):Int) z.1 z.2) (λk z=>z.1=(k:Int)/\z.2=out++(b.2.2.2.2.1.take k).map λr=>num [3,((c+1:Nat):Int),r.1] (qQ r c)) b.2.2.2.2.1.length (λv=>v=out++ke b c)
  (λk z hk ⟨e1,e2⟩=>by
   obtain⟨i,l⟩:=z;simp only at e1 e2;subst e1;left;have hl:l.length<=900:=by rw[e2];simp;omega
   refine⟨(((k+1:Nat):Int),l++[num [3,((c+1:Nat):Int),b.2.2.2.2.1[k].1] (qQ b.2.2.2.2.1[k] c)]),?_,rfl,?_⟩
   · show ah b ((c+1:Nat):Int) (k:Int) l=_;unfold ah;rw[kY (by omega),cT,iQ hk,gT];generalize b.2.2.2.2.1[k]=r;have hw:gI (((c+1:Nat):Int)-1)=(c:Int):=by rw[mL (by omega) (by omega)];omega
     have hx:(ix [1,r.2.1,r.2.2].length (gI (((c+1:Nat):Int)-1))).bind (λj91=>([1,r.2.1,r.2.2][j91]?).bind λx92=>(ac x92).bind λt93=>(ab t93 [3,((c+1:Nat):Int),r.1]).bind λt98=>(lm l [t98]).bind λzs100=>some (Sum.inl (gI ((k:Int)+1),zs100):(Int×List gG)⊕List gG))=(ac (qQ r c)).bind λt93=>(ab t93 [3,((c+1:Nat):Int),r.1]).bind λt98=>(lm l [t98]).bind λzs100=>some (Sum.inl (gI ((k:Int)+1),zs100)):=by
      rw[hw,oc (show c<[1,r.2.1,r.2.2].length from hc),gT];rcases (show c=0\/c=1\/c=2 by omega)with rfl|rfl|rfl<;>rfl
     rw[hx,s6 _ _ _ hl (by simp),j8 (by omega)]
   · show l++[num _ _]=_;rw[e2,take_add_one,List.getElem?_eq_getElem hk,List.map_append,←append_assoc];rfl)
  (λz ⟨e1,e2⟩=>by
   obtain⟨i,l⟩:=z;simp only at e1 e2;subst e1;rw[take_length]at e2;refine⟨l,?_,e2⟩;show ah b ((c+1:Nat):Int) _ l=_
   unfold ah;rw[jD (by omega),cF]) (x:=(0,out)) ⟨rfl,by simp⟩
 exact h1
theorem Az {b:gC} (h6:b.2.2.2.2.1.length<=6) (out:List gG) (ho:out.length<=200):loop (λz=>aw b z.1 z.2) (1,out)=some (out++(List.range 3).flatMap (ke b)):=by
 have hg:∀c,(ke b c).length<=6:=λc=>by unfold ke;rw[length_map];exact h6
 obtain⟨v,h1,rfl⟩:=jz (step:=λz:Int×List gG=>aw b z.1 z.2) (λk z=>z.1=((k+1:Nat):Int)/\z.2=out++(List.range k).flatMap (ke b)/\z.2.length<=200+6*k) 3 (λv=>v=out++(List.range 3).flatMap (ke b))
  (λk z hk ⟨e1,e2,e3⟩=>by
   obtain⟨i,l⟩:=z;simp only at e1 e2 e3;subst e1;left;have hg':=hg k
   refine⟨(((k+1+1:Nat):Int),l++ke b k),?_,rfl,?_,by show (l++ke b k).length<=_;rw[length_append];omega⟩
   · show aw b ((k+1:Nat):Int) l=_;unfold aw;rw[dT (show ((k+1:Nat):Int)<=3 by omega),cT,B1 h6 hk l (by omega),gT,j8 (by omega)]
   · show l++ke b k=_;rw[e2,range_succ,List.flatMap_append,←append_assoc];simp)
  (λz ⟨e1,e2,e3⟩=>by
   obtain⟨i,l⟩:=z;simp only at e1 e2 e3;subst e1;exact⟨l,rfl,e2⟩) (x:=(1,out)) ⟨rfl,by simp,by show out.length<=_;omega⟩
 exact h1
theorem B2 {b:gC} (h12:b.2.2.2.1.length<=12) (out:List gG) (ho:out.length<=500):loop (λz=>ae b z.1 z.2) (0,out)=some (out++oU b):=by
 obtain⟨v,h1,rfl⟩:=jz (step:=λz:Int×List gG=>ae b z.1 z.2) (λk z=>z.1=(k:Int)/\z.2=out++(b.2.2.2.1.take k).map λe=>num [4,1,e.1,e.2.1] (gI (e.2.2.1+1))) b.2.2.2.1.length (λv=>v=out++oU b)
  (λk z hk ⟨e1,e2⟩=>by
   obtain⟨i,l⟩:=z;simp only at e1 e2;subst e1;left;have hl:l.length<=900:=by rw[e2];simp;omega
   refine⟨(((k+1:Nat):Int),l++[num [4,1,b.2.2.2.1[k].1,b.2.2.2.1[k].2.1] (gI (b.2.2.2.1[k].2.2.1+1))]),?_,rfl,?_⟩
   · show ae b (k:Int) l=_;unfold ae;rw[kY (by omega),cT,iQ hk,gT,s6 _ _ _ hl (by simp),j8 (by omega)]
   · show l++[num _ _]=_;rw[e2,take_add_one,List.getElem?_eq_getElem hk,List.map_append,←append_assoc];rfl)
  (λz ⟨e1,e2⟩=>by
   obtain⟨i,l⟩:=z;simp only at e1 e2;subst e1;rw[take_length]at e2;refine⟨l,?_,e2⟩;show ae b _ l=_
   unfold ae;rw[jD (by omega),cF]) (x:=(0,out)) ⟨rfl,by simp⟩
 exact h1
structure lV (b:gC):Prop where
 w:ni b
 ok:kV b=true
 p:∀x∈b.2.2.1,u4 x=true
 id:i9 b.1 1 99=true
 name:b.2.1.length<=10
 n1:1<=b.2.2.1.length
 n6:b.2.2.1.length<=6
 f:mW b.2.2.2.1=true
 v:lN (b.2.2.2.2.1,b.2.2.2.2.2.1) (b.2.2.1.length:Int)=true
 c:mX b=true
theorem Bd {b:gC} (h:ni b) (hb:kV b=true):lV b:=by
 have hb':=hb;unfold kV at hb;simp only[aT,Bool.not_eq_true',decide_eq_false_iff_not]at hb;obtain⟨h1,h2,h3,h4,h5,h6,h7⟩:=hb;refine⟨h,hb',λx hx=>?_,h2,by omega,?_,?_,h5,h6,h7⟩
 · obtain⟨k,hk,rfl⟩:=getElem_of_mem hx;cases hp:u4 b.2.2.1[k]with
   | true=>rfl
   | false =>
    have:=any_eq_false.1 h1 k (mem_range.2 hk);unfold rK at this;simp only[List.getElem?_eq_getElem hk,hp]at this;exact absurd rfl this
 · unfold i9 at h4;simp only[aT,decide_eq_true_eq]at h4;omega
 · unfold i9 at h4;simp only[aT,decide_eq_true_eq]at h4;omega
theorem lV.vt {b:gC} (h:lV b):VT (b.2.2.2.2.1,b.2.2.2.2.2.1) b.2.2.1.length:=⟨h.v,h.w.r⟩
theorem lV.f12 {b:gC} (h:lV b):b.2.2.2.1.length<=12:=by
 have hf:=h.f;unfold mW at hf;simp only[aT,decide_eq_true_eq]at hf;omega
theorem B3 {b:gC} (h:lV b):ax b=some (jZ b):=by
 obtain⟨v1,v2,v3,v4⟩:=h.vt.len;have v3':b.2.2.2.2.2.1.length=b.2.2.1.length:=v3
 have v4':b.2.2.2.2.1.length<=6:=v4;have hp:((List.range 4).flatMap (jm b)).length<=24:=by
  have hg:∀c,(jm b c).length<=6:=λc=>by unfold jm;rw[length_map,List.length_range];exact h.n6
  have h0:=hg 0;have h1:=hg 1;have h2:=hg 2;have h3:=hg 3
  show (jm b 0++(jm b 1++(jm b 2++(jm b 3++[])))).length<=24;simp only[length_append,List.length_nil];omega
 have hr:((List.range 3).flatMap (ke b)).length<=18:=by
  have hg:∀c,(ke b c).length<=6:=λc=>by unfold ke;rw[length_map];exact v4'
  have h0:=hg 0;have h1:=hg 1;have h2:=hg 2
  show (ke b 0++(ke b 1++(ke b 2++[]))).length<=18;simp only[length_append,List.length_nil];omega
 have k5:(ma b).length=5:=rfl;rw[yr h.w,h.ok,Bool.not_true,cF];unfold re;rw[zW h.w v3'.symm h.n6 (ma b) (by omega),gT,Az v4' _ (by rw[length_append];omega),gT,B2 h.f12 _ (by rw[length_append,length_append];omega),gT];rfl

theorem vg {α:Type} {R:α->α->Prop} (tr:∀a b c,R a b->R b c->R a c) {l:List α} (h:∀k (hk:k+1<l.length),R l[k] l[k+1]):l.Pairwise R:=by
 rw[pairwise_iff_getElem];intro i j hi hj hij
 induction j with
 | zero=>omega
 | succ j ih =>
  by_cases e:i=j
  · subst e;exact h i hj
  · exact tr _ _ _ (ih (by omega) (by omega)) (h j hj)
def s7 (g c:Int) (x:gG):Prop:=∃t,x.1=1::3::1::g::c::t
theorem mY {g c g' c':Int} {x y:gG} (hx:s7 g c x) (hy:s7 g' c' y) (h:g<g'\/(g=g'/\c<c')):x.1<y.1:=by
 obtain⟨t,ht⟩:=hx;obtain⟨s,hs⟩:=hy;rw[ht,hs];simp only[cons_lt_cons_iff,Int.lt_irrefl,false_or,true_and];rcases h with h|⟨h,k⟩
 · exact .inl h
 · exact .inr ⟨h,.inl k⟩
theorem nL {b:gC} {c:Nat} {x:gG} (h:x∈jm b c):s7 2 ((c+1:Nat):Int) x:=by
 unfold jm at h;obtain⟨k,_,rfl⟩:=mem_map.1 h;exact⟨_,rfl⟩
theorem oK {b:gC} {c:Nat} {x:gG} (h:x∈ke b c):s7 3 ((c+1:Nat):Int) x:=by
 unfold ke at h;obtain⟨k,_,rfl⟩:=mem_map.1 h;exact⟨_,rfl⟩
theorem qR {b:gC} {x:gG} (h:x∈oU b):s7 4 1 x:=by
 unfold oU at h;obtain⟨k,_,rfl⟩:=mem_map.1 h;exact⟨_,rfl⟩
theorem qS {b:gC} {x:gG} (h:x∈ma b):∃c,s7 1 c x:=by
 unfold ma at h;simp only[mem_cons,not_mem_nil,or_false]at h;rcases h with rfl|rfl|rfl|rfl|rfl<;>exact⟨_,_,rfl⟩
theorem wU (b:gC) (c:Nat):(jm b c).Pairwise λx y=>x.1<y.1:=by
 unfold jm;rw[List.pairwise_map];refine List.Pairwise.imp ?_ List.pairwise_lt_range;intro i j h;show (1::3::1::2::((c+1:Nat):Int)::((i+1:Nat):Int)::[])<(1::3::1::2::((c+1:Nat):Int)::((j+1:Nat):Int)::[])
 simp only[cons_lt_cons_iff,Int.lt_irrefl,false_or,true_and];exact .inl (by omega)
theorem xI {b:gC} (h:lV b):b.2.2.2.2.1.Pairwise λr s=>r.1<s.1:=by
 refine vg (R:=λ(r s:j6)=>r.1<s.1) (λ_ _ _ h k=>Int.lt_trans h k) λk hk=>?_;have hv:=h.v
 unfold lN at hv;simp only[aT,Bool.not_eq_true']at hv;have hx:=any_eq_false.1 hv.2.1 (k+1) (mem_range.2 hk)
 unfold ol at hx;simp only[List.getElem?_eq_getElem hk,Nat.add_sub_cancel,List.getElem?_eq_getElem (show k<b.2.2.2.2.1.length by omega),Bool.or_eq_true,aT,decide_eq_true_eq,not_or,not_and]at hx;have:=hx.2.1 (by omega)
 omega
theorem xJ {b:gC} (h:lV b) (c:Nat):(ke b c).Pairwise λx y=>x.1<y.1:=by
 unfold ke;rw[List.pairwise_map];refine List.Pairwise.imp ?_ (xI h);intro r s h;show (1::3::1::3::((c+1:Nat):Int)::r.1::[])<(1::3::1::3::((c+1:Nat):Int)::s.1::[])
 simp only[cons_lt_cons_iff,Int.lt_irrefl,false_or,true_and];exact .inl h
theorem yu {b:gC} (h:lV b):b.2.2.2.1.Pairwise lt:=by
 refine vg (R:=lt) (λ_ _ _=>lt_trans) λk hk=>?_;have hv:=h.f
 unfold mW at hv;simp only[aT,Bool.not_eq_true']at hv;have hx:=any_eq_false.1 hv.1 (k+1) (mem_range.2 hk)
 unfold m3 at hx;simp only[List.getElem?_eq_getElem hk,Nat.add_sub_cancel,List.getElem?_eq_getElem (show k<b.2.2.2.1.length by omega),Bool.or_eq_true,aT,decide_eq_true_eq,not_or,not_and,Bool.not_eq_true',Bool.not_eq_false]at hx;have hp:=hx.2 (by omega)
 unfold mV at hp;simp only[Bool.or_eq_true,aT,decide_eq_true_eq,beq_iff_eq]at hp;unfold lt;omega
theorem yv {b:gC} (h:lV b):(oU b).Pairwise λx y=>x.1<y.1:=by
 unfold oU;rw[List.pairwise_map];refine List.Pairwise.imp ?_ (yu h);intro r s h;show (1::3::1::4::1::r.1::r.2.1::[])<(1::3::1::4::1::s.1::s.2.1::[])
 unfold lt at h;simp only[cons_lt_cons_iff,Int.lt_irrefl,false_or,true_and];rcases h with h|⟨h,k⟩
 · exact .inl h
 · exact .inr ⟨h,.inl k⟩
theorem xK (b:gC):(ma b).Pairwise λx y=>x.1<y.1:=by
 unfold ma;simp only[List.pairwise_cons,mem_cons,not_mem_nil,or_false,forall_eq_or_imp,forall_eq,List.Pairwise.nil,and_true,false_imp_iff,implies_true,cons_lt_cons_iff,Int.lt_irrefl,false_or,true_and];refine⟨⟨.inl (by decide),.inl (by decide),.inl (by decide),.inl (by decide)⟩,⟨.inl (by decide),.inl (by decide),.inl (by decide)⟩,⟨.inl (by decide),.inl (by decide)⟩,.inl (by decide)⟩
theorem AA {α:Type} (f:Nat->List α):(List.range 4).flatMap f=f 0++(f 1++(f 2++(f 3++[]))):=rfl
theorem AB {α:Type} (f:Nat->List α):(List.range 3).flatMap f=f 0++(f 1++(f 2++[])):=rfl
theorem sW {n:Nat} {f:Nat->List gG} {g:Int} (hp:∀c,(f c).Pairwise λx y=>x.1<y.1) (hh:∀c x,x∈f c->s7 g ((c+1:Nat):Int) x):((List.range n).flatMap f).Pairwise λx y=>x.1<y.1:=by
 induction n with
 | zero=>exact List.Pairwise.nil
 | succ n ih =>
  rw[range_succ,List.flatMap_append,pairwise_append];refine⟨ih,by simp;exact hp n,λx hx y hy=>?_⟩;obtain⟨c,hc,hx⟩:=mem_flatMap.1 hx;have hc:=mem_range.1 hc
  simp at hy;exact mY (hh c x hx) (hh n y hy) (.inr ⟨rfl,by omega⟩)
theorem vh {b:gC} (h:lV b):(jZ b).Pairwise λx y=>x.1<y.1:=by
 unfold jZ;rw[pairwise_append,pairwise_append,pairwise_append];refine⟨⟨⟨xK b,sW (wU b) (λc x=>nL),λx hx y hy=>?_⟩,sW (xJ h) (λc x=>oK),λx hx y hy=>?_⟩,yv h,λx hx y hy=>?_⟩
 · obtain⟨c,hc⟩:=qS hx;obtain⟨d,_,hy⟩:=mem_flatMap.1 hy;exact mY hc (nL hy) (.inl (by decide))
 · obtain⟨d,_,hy⟩:=mem_flatMap.1 hy;rcases mem_append.1 hx with hx|hx
   · obtain⟨c,hc⟩:=qS hx;exact mY hc (oK hy) (.inl (by decide))
   · obtain⟨e,_,hx⟩:=mem_flatMap.1 hx;exact mY (nL hx) (oK hy) (.inl (by decide))
 · rcases mem_append.1 hx with hx|hx
   · rcases mem_append.1 hx with hx|hx
     · obtain⟨c,hc⟩:=qS hx;exact mY hc (qR hy) (.inl (by decide))
     · obtain⟨e,_,hx⟩:=mem_flatMap.1 hx;exact mY (nL hx) (qR hy) (.inl (by decide))
   · obtain⟨e,_,hx⟩:=mem_flatMap.1 hx;exact mY (oK hx) (qR hy) (.inl (by decide))
theorem zX (p s t:List Int) {x y:Int} (h:x≠y):(p++x::s<p++y::t)↔x<y:=by
 induction p with
 | nil =>
  simp only[List.nil_append,cons_lt_cons_iff];exact⟨λk=>k.elim id λk=>absurd k.1 h,.inl⟩
 | cons a p ih=>simp only[List.cons_append,cons_lt_cons_iff,ih,Int.lt_irrefl,false_or,true_and]
theorem zo (p:List Int) {s:List Int} (h:s≠[]):p<p++s:=by
 induction p with
 | nil=>cases s with
  | nil=>exact absurd rfl h
  | cons a s=>exact List.nil_lt_cons a s
 | cons a p ih=>simp only[List.cons_append,cons_lt_cons_iff,Int.lt_irrefl,false_or,true_and];exact ih
theorem zp (p s:List Int):¬p++s<p:=by
 induction p with
 | nil=>exact List.not_lt_nil s
 | cons a p ih=>simp only[List.cons_append,cons_lt_cons_iff,Int.lt_irrefl,false_or,true_and];exact ih
theorem yO {a b:List Int} (h:b.length<9223372036854775807):aY a b=some (decide (a<b)):=by
 have hsplit:∀k,a.take k=b.take k->∀(ha:k<a.length) (hb:k<b.length),a=a.take k++a[k]::a.drop (k+1)/\b=a.take k++b[k]::b.drop (k+1):=by
  intro k e ha hb;refine⟨?_,?_⟩
  · rw[←List.drop_eq_getElem_cons ha,take_append_drop]
  · rw[e,←List.drop_eq_getElem_cons hb,take_append_drop]
 obtain⟨v,h1,h2⟩:=jz (step:=λz=>aJ a b z) (λk i=>i=(k:Int)/\a.take k=b.take k) (min a.length b.length) (λv=>(v=.inr (decide (a<b)))\/(v=.inl ()/\decide ((a.length:Int)<(b.length:Int))=decide (a<b)))
  (λk i hk ⟨e,ht⟩=>by
   subst e;have ha:k<a.length:=by omega
   have hb:k<b.length:=by omega
   have hs:aJ a b (k:Int)=cond (a[k] != b[k]) (some (.inr (.inr (decide (a[k]<b[k]))))) (some (.inl ((k+1:Nat):Int))):=by
    unfold aJ;rw[kY (show (k:Int)<(a.length:Int) by omega),kY (show (k:Int)<(b.length:Int) by omega),cT,gT,cT,iQ ha,gT,iQ hb,gT,j8 (by omega),gT,gT]
   obtain⟨s1,s2⟩:=hsplit k ht ha hb;by_cases hne:a[k]=b[k]
   · refine .inl ⟨_,by rw[hs,show (a[k] != b[k])=false by simp[hne]];rfl,rfl,?_⟩;rw[take_add_one,take_add_one,List.getElem?_eq_getElem ha,List.getElem?_eq_getElem hb,ht,hne]
   · refine .inr ⟨_,by rw[hs,show (a[k] != b[k])=true from bne_iff_ne.2 hne];rfl,.inl ?_⟩
     congr 1
     apply decide_eq_decide.2;have:=zX (a.take k) (a.drop (k+1)) (b.drop (k+1)) hne
     rw[←s1,←s2]at this;exact this.symm)
  (λi ⟨e,ht⟩=>by
   subst e;refine⟨.inl (),?_,.inr ⟨rfl,?_⟩⟩
   · show aJ a b _=_;unfold aJ;by_cases h:a.length<=b.length
     · rw[Nat.min_eq_left h,jD (by omega)];rfl
     · rw[Nat.min_eq_right (by omega),kY (by omega),jD (show ¬(b.length:Int)<(b.length:Int) by omega)];rfl
   · apply decide_eq_decide.2;by_cases h:a.length<=b.length
     · rw[Nat.min_eq_left h,take_length]at ht;have hb:b=a++b.drop a.length:=by
        have:=take_append_drop a.length b;rw[←ht]at this;exact this.symm
       constructor
       · intro hlt;have hd:b.drop a.length≠[]:=by
          intro h0;have:=congrArg List.length h0
          rw[List.length_drop]at this;simp at this;omega
         have:=zo a hd;rw[←hb]at this;exact this
       · intro hlt;by_cases he:a.length=b.length
         · have hd:b.drop a.length=[]:=List.drop_eq_nil_of_le (by omega);rw[hd,List.append_nil]at hb;rw[hb]at hlt;exact absurd hlt (List.lt_irrefl _)
         · omega
     · rw[Nat.min_eq_right (by omega),take_length]at ht;have ha:a=b++a.drop b.length:=by
        have:=take_append_drop b.length a;rw[ht]at this;exact this.symm
       constructor
       · intro hlt;omega
       · intro hlt;have:=zp b (a.drop b.length)
         rw[←ha]at this;exact absurd hlt this) (x:=0) ⟨rfl,by simp⟩
 unfold aY;rw[h1,gT];rcases h2 with rfl|⟨rfl,h2⟩
 · rfl
 · show some (decide _)=_;rw[h2]

structure Nm (o:List Int):Prop where
 n1:1<=o.length
 n10:o.length<=10
 e:∀x∈o,i9 x 0 100000=true
inductive Vl:qN->Prop
 | num {n:Int} (h:i9 n (-2147483648) 2147483647=true):Vl (2,n,[],[])
 | word {s:List UInt8} (h:s.length<=20):Vl (4,0,s,[])
theorem Vl.k {v:qN} (h:Vl v):(v.1==128)=false:=by cases h<;>rfl
theorem Vl.o {v:qN} (h:Vl v):v.2.2.2=[]:=by cases h<;>rfl
theorem qT {n:Int} (h1:0<=n) (h2:n<=2147483647):i9 n (-2147483648) 2147483647=true:=by unfold i9;rw[dT (by omega),dT (by omega)];rfl
theorem rL {n a c:Int} (h1:a<=n) (h2:n<=c):i9 n a c=true:=by unfold i9;rw[dT (by omega),dT (by omega)];rfl
theorem pu {n a c:Int} (h:i9 n a c=true):a<=n/\n<=c:=by
 unfold i9 at h;simp only[aT,decide_eq_true_eq]at h;exact h
theorem zY {v:jl} (hn:v.1.length<9223372036854775807) {id r:Int} (h:ao v id=some r) (h0:¬r<0):∃x∈v.1,x.1=id:=by
 unfold ao at h;obtain⟨b,h1,h2⟩:=jz (β:=Unit⊕Int) (step:=λz=>aE v id z) (λk i=>i=(k:Int)) v.1.length (λb=>∀r,b=.inr r->∃x∈v.1,x.1=id)
  (λk i hk h=>by
   subst h;unfold aE;rw[kY (by omega),cT,iQ hk,gT];cases hb:(v.1[k].1==id)with
   | true=>exact .inr ⟨_,rfl,λr hr=>⟨_,getElem_mem hk,eq_of_beq hb⟩⟩
   | false=>exact .inl ⟨_,rfl,j8 (by omega)⟩)
  (λi h=>by
   subst h;unfold aE;rw[jD (by omega)];exact⟨_,rfl,λr hr=>by cases hr⟩) (x:=0) rfl
 rw[h1,gT]at h;cases b with
 | inl _=>cases h;exact absurd (by decide) h0
 | inr r'=>exact h2 r' rfl
theorem zq {id:Int} {l:List Pt} {p v:Int} (h:ar id l p=some v):1<=v/\v<=4:=by
 unfold ar at h;rw[nr,gT]at h;have key:∀(o:Option Bool) (f:Bool->Option Int),(∀t x,f t=some x->1<=x/\x<=4)->o.bind f=some v->1<=v/\v<=4:=by
  intro o f hf h;cases o with
  | none=>cases h
  | some t=>exact hf t v h
 refine key _ _ (λt x hx=>?_) h;cases t with
 | true=>cases hx;decide
 | false =>
  rw[cF]at hx;cases hbv:aq id l with
  | none=>rw[hbv]at hx;cases hx
  | some w =>
   rw[hbv,gT]at hx;cases hw:w.2==p with
   | true=>rw[hw]at hx;cases hx;decide
   | false =>
    rw[hw,cF]at hx;cases ha:at? l p with
    | none=>rw[ha]at hx;cases hx
    | some y =>
     rw[ha,gT]at hx
     revert hx
     generalize (cond (!y.2.2.1) _ _:Option Bool)=o;intro hx;cases o with
     | none=>cases hx
     | some t=>cases t<;>(cases hx;decide)
theorem w5 {b:gC} (h:lV b) {r:j6} (hr:r∈b.2.2.2.2.1):(1<=r.1/\r.1<=99)/\(0<=r.2.1/\r.2.1<=63)/\(0<=r.2.2/\r.2.2<=63):=by
 obtain⟨k,hk,rfl⟩:=getElem_of_mem hr;have hv:=h.v
 unfold lN at hv;simp only[aT,Bool.not_eq_true',Bool.or_eq_false_iff,Bool.not_eq_false']at hv;have hx:=any_eq_false.1 hv.2.1 k (mem_range.2 hk)
 unfold ol at hx;simp only[List.getElem?_eq_getElem hk,Bool.or_eq_true,Bool.not_eq_true',not_or,Bool.not_eq_false]at hx;obtain⟨x1,_,x3,x4⟩:=hx;have ht:=yI (i:=(b.2.2.1.length:Int)) hv.1.1
 have y1:=pu x1;have y3:=pu x3
 have x4:(qj .i64 b.2.2.2.2.1[k].2.2 b.2.2.2.2.1[k].2.1 != 0)=false:=by simpa using x4
 refine⟨y1,by omega,?_⟩;have hI:=h.w.r _ (getElem_mem hk)
 have hband:=pu (w4 hI.1 hI.2 x3 ht.2 (by rw[u5 hI.1 hI.2];exact x4));omega
theorem zr {b:gC} (h:lV b) {x:Int} (hx:x∈b.2.2.2.2.2.1):1<=x/\x<=99:=by
 obtain⟨k,hk,rfl⟩:=getElem_of_mem hx;have hv:=h.v
 have hn:b.2.2.2.2.1.length<9223372036854775807:=h.w.v;unfold lN at hv;simp only[aT,Bool.not_eq_true']at hv;have hq:=any_eq_false.1 hv.2.2 k (mem_range.2 hk)
 unfold q5 at hq;simp only[List.getElem?_eq_getElem hk]at hq;obtain⟨r,hr⟩:=xE (v:=(b.2.2.2.2.1,b.2.2.2.2.2.1)) hn b.2.2.2.2.2.1[k];rw[hr]at hq;simp only[decide_eq_true_eq]at hq;obtain⟨y,hy,e⟩:=zY (v:=(b.2.2.2.2.1,b.2.2.2.2.2.1)) hn hr hq;have:=(w5 h (r:=y) hy).1
 rw[e]at this;exact this
theorem yw {b:gC} (h:lV b) (c:Int) {k:Nat} (hk:k<b.2.2.1.length):0<=q6 b c (k:Int)/\q6 b c (k:Int)<=1000:=by
 have v3:b.2.2.2.2.2.1.length=b.2.2.1.length:=h.vt.len.2.2.1;have hkq:k<b.2.2.2.2.2.1.length:=by omega
 obtain⟨r,hr⟩:=yN b.1 h.w.p (k:Int);have hr2:=zq hr
 have hp:=h.p _ (getElem_mem hk);unfold u4 at hp;simp only[aT]at hp;have hc:=pu hp.1
 have hq:=zr h (getElem_mem hkq);unfold q6 au aV;rw[iQ hk,iQ hkq,hr];simp only[gT];cases (c==1)with
 | true =>
  cases b.2.2.1[k].1 with
  | true=>show (0:Int)<=1/\(1:Int)<=1000;decide
  | false=>show (0:Int)<=0/\(0:Int)<=1000;decide
 | false =>
  cases (c==2)with
  | true=>show 0<=b.2.2.1[k].2.1/\b.2.2.1[k].2.1<=1000;omega
  | false =>
   cases (c==3)with
   | true=>show 0<=r/\r<=1000;omega
   | false=>show 0<=b.2.2.2.2.2.1[k]/\b.2.2.2.2.2.1[k]<=1000;omega
theorem zZ {b:gC} (h:lV b) {e:im} (he:e∈b.2.2.2.1):(1<=e.1/\e.1<=99)/\(1<=e.2.1/\e.2.1<=9999)/\(0<=e.2.2.1/\e.2.2.1<=7):=by
 obtain⟨k,hk,rfl⟩:=getElem_of_mem he;have hv:=h.f
 unfold mW at hv;simp only[aT,Bool.not_eq_true']at hv;have hx:=any_eq_false.1 hv.1 k (mem_range.2 hk)
 unfold m3 at hx;simp only[List.getElem?_eq_getElem hk,Bool.or_eq_true,Bool.not_eq_true',not_or,Bool.not_eq_false]at hx;have hf:=hx.1
 unfold pZ at hf;simp only[aT]at hf;exact⟨pu hf.1,pu hf.2.1,pu hf.2.2.1⟩
theorem xL {b:gC} (h:lV b):(0<=b.2.2.2.2.2.2.1/\b.2.2.2.2.2.2.1<=1000000)/\(0<=b.2.2.2.2.2.2.2.1/\b.2.2.2.2.2.2.2.1<=1000000)/\(0<=b.2.2.2.2.2.2.2.2.1/\b.2.2.2.2.2.2.2.2.1<=1000000)/\(0<=b.2.2.2.2.2.2.2.2.2.1/\b.2.2.2.2.2.2.2.2.2.1<=1000000)/\(0<=b.2.2.2.2.2.2.2.2.2.2/\b.2.2.2.2.2.2.2.2.2.2<=1000000):=by
 have hc:=h.c;unfold mX at hc;simp only[aT]at hc;exact⟨pu hc.1,pu hc.2.1,pu hc.2.2.1,pu hc.2.2.2.1,pu hc.2.2.2.2⟩
theorem xM {a b:Int} (ha:0<=a/\a<=100000) (hb:0<=b/\b<=100000):Nm [1,3,1,a,b]:=⟨by simp,by simp,λx hx=>by
 simp only[mem_cons,not_mem_nil,or_false]at hx;rcases hx with rfl|rfl|rfl|rfl|rfl
 · decide
 · decide
 · decide
 · exact rL ha.1 ha.2
 · exact rL hb.1 hb.2⟩
theorem AK {a b c:Int} (ha:0<=a/\a<=100000) (hb:0<=b/\b<=100000) (hc:0<=c/\c<=100000):Nm [1,3,1,a,b,c]:=⟨by simp,by simp,λx hx=>by
 simp only[mem_cons,not_mem_nil,or_false]at hx;rcases hx with rfl|rfl|rfl|rfl|rfl|rfl
 · decide
 · decide
 · decide
 · exact rL ha.1 ha.2
 · exact rL hb.1 hb.2
 · exact rL hc.1 hc.2⟩
theorem Be {a b c d:Int} (ha:0<=a/\a<=100000) (hb:0<=b/\b<=100000) (hc:0<=c/\c<=100000) (hd:0<=d/\d<=100000):Nm [1,3,1,a,b,c,d]:=⟨by simp,by simp,λx hx=>by
 simp only[mem_cons,not_mem_nil,or_false]at hx;rcases hx with rfl|rfl|rfl|rfl|rfl|rfl|rfl
 · decide
 · decide
 · decide
 · exact rL ha.1 ha.2
 · exact rL hb.1 hb.2
 · exact rL hc.1 hc.2
 · exact rL hd.1 hd.2⟩
theorem q7 {b:gC} (h:lV b):∀x∈jZ b,Nm x.1/\Vl x.2:=by
 intro x hx;obtain⟨t1,t2,t3,t4,_⟩:=xL h;have hn6:=h.n6
 unfold jZ at hx;simp only[mem_append]at hx;rcases hx with ((hx|hx)|hx)|hx
 · unfold ma at hx;simp only[mem_cons,not_mem_nil,or_false]at hx;have hname:=h.name
   rcases hx with rfl|rfl|rfl|rfl|rfl
   · exact⟨xM (by decide) (by decide),.word (by omega)⟩
   · exact⟨xM (by decide) (by decide),.num (qT t1.1 (by omega))⟩
   · exact⟨xM (by decide) (by decide),.num (qT t2.1 (by omega))⟩
   · exact⟨xM (by decide) (by decide),.num (qT t3.1 (by omega))⟩
   · exact⟨xM (by decide) (by decide),.num (qT t4.1 (by omega))⟩
 · obtain⟨c,hc,hx⟩:=mem_flatMap.1 hx;have hc:=mem_range.1 hc
   unfold jm at hx;obtain⟨k,hk,rfl⟩:=mem_map.1 hx;have hk:=mem_range.1 hk
   have hp:=yw h ((c+1:Nat):Int) hk;exact⟨AK (by decide) (by omega) (by omega),.num (qT hp.1 (by omega))⟩
 · obtain⟨c,hc,hx⟩:=mem_flatMap.1 hx;have hc:=mem_range.1 hc
   unfold ke at hx;obtain⟨r,hr,rfl⟩:=mem_map.1 hx;obtain⟨r1,r2,r3⟩:=w5 h hr;refine⟨AK (by decide) (by omega) (by omega),.num ?_⟩;unfold qQ;split
   · decide
   · exact qT r2.1 (by omega)
   · exact qT r3.1 (by omega)
 · unfold oU at hx;obtain⟨e,he,rfl⟩:=mem_map.1 hx;obtain⟨e1,e2,e3⟩:=zZ h he;refine⟨Be (by decide) (by decide) (by omega) (by omega),.num ?_⟩;rw[mL (by omega) (by omega)];exact qT (by omega) (by omega)
theorem zt {b:gC} (h:lV b):(jZ b).length=5+4*b.2.2.1.length+3*b.2.2.2.2.1.length+b.2.2.2.1.length:=by
 have hp:∀c,(jm b c).length=b.2.2.1.length:=λc=>by unfold jm;rw[length_map,List.length_range]
 have hr:∀c,(ke b c).length=b.2.2.2.2.1.length:=λc=>by unfold ke;rw[length_map]
 have hf:(oU b).length=b.2.2.2.1.length:=by unfold oU;rw[length_map]
 have k5:(ma b).length=5:=rfl;unfold jZ;rw[AA,AB];simp only[length_append,List.length_nil,hp,hr,hf,k5];omega
theorem vi {b:gC} (h:lV b):(jZ b).length<=59:=by
 have h1:=zt h;have h2:=h.n6
 have h3:b.2.2.2.2.1.length<=6:=h.vt.len.2.2.2;have h4:=h.f12
 omega
structure At (m:List gG) (o:List Int) (j:Nat):Prop where
 le:j<=m.length
 no:∀i (hi:i<m.length),i<j->¬o<m[i].1
 yes:∀i (hi:i<m.length),j<=i->o<m[i].1
theorem AC {m:List gG} (hp:m.Pairwise λx y=>x.1<y.1) (o:List Int):∃j,At m o j:=by
 have hp:=pairwise_iff_getElem.1 hp;have key:∀n,n<=m.length->(∀i (hi:i<m.length),i<n->¬o<m[i].1)\/∃j,At m o j:=by
  intro n
  induction n with
  | zero=>exact λ_=>.inl λi hi h=>by omega
  | succ n ih =>
   intro hn;rcases ih (by omega)with h|h
   · by_cases hlt:o<m[n].1
     · refine .inr ⟨n,by omega,h,λi hi hni=>?_⟩;by_cases e:i=n
       · subst e;exact hlt
       · exact List.lt_trans hlt (hp n i (by omega) hi (by omega))
     · refine .inl λi hi hin=>?_;by_cases e:i=n
       · subst e;exact hlt
       · exact h i hi (by omega)
   · exact .inr h
 rcases key m.length (Nat.le_refl _)with h|h
 · exact⟨m.length,Nat.le_refl _,λi hi _=>h i hi hi,λi hi h=>by omega⟩
 · exact h
theorem zu {m:List gG} (hp:m.Pairwise λx y=>x.1<y.1) {i:Nat} (hi:i<m.length):At m m[i].1 (i+1):=by
 have hp:=pairwise_iff_getElem.1 hp;refine⟨hi,λt ht h=>?_,λt ht h=>hp i t hi ht h⟩;by_cases e:t=i
 · subst e;exact List.lt_irrefl _
 · exact λk=>List.lt_irrefl _ (List.lt_trans k (hp t i ht hi (by omega)))
theorem xN {b:gC} (h:lV b) {o:List Int} (ho:o.length<=1048576) {j:Nat} (hj:At (jZ b) o j):aj b o=some (if h:j<(jZ b).length then (jZ b)[j]else (o,130,0,[],[])):=by
 have hle:=vi h;have hjl:=hj.le
 obtain⟨v,h1,h2⟩:=jz (step:=λz:Int×Int×Int×List UInt8×List Int×List Int=>ai o (jZ b) z.1 z.2.1 z.2.2.1 z.2.2.2.1 z.2.2.2.2.1 z.2.2.2.2.2) (λk z=>z=((k:Int),0,0,[],[],[])) j (λv=>if h:j<(jZ b).length then v=.inr (jZ b)[j]else ∃u,v=.inl u)
  (λk z hk e=>by
   subst e;have hkl:k<(jZ b).length:=by omega
   have hn:=(q7 h _ (getElem_mem hkl)).1.n10;refine .inl ⟨(((k+1:Nat):Int),0,0,[],[],[]),?_,rfl⟩;show ai o (jZ b) (k:Int) 0 0 [] [] []=_
   unfold ai;rw[kY (by omega),cT]
   try rw[xH]
   rw[iQ hkl,gT,yO (by omega),dF (hj.no k hkl hk),gT,cF,j8 (by omega)])
  (λz e=>by
   subst e;show ∃v,ai o (jZ b) (j:Int) 0 0 [] [] []=_/\_
   unfold ai;by_cases hjn:j<(jZ b).length
   · have hn:=(q7 h _ (getElem_mem hjn)).1.n10;rw[kY (by omega),cT]
     try rw[xH]
     rw[iQ hjn,gT,yO (by omega),dT (hj.yes j hjn (Nat.le_refl _)),gT,cT];exact⟨_,rfl,by rw[dif_pos hjn]⟩
   · rw[jD (by omega),cF];exact⟨_,rfl,by rw[dif_neg hjn];exact⟨_,rfl⟩⟩) (x:=(0,0,0,[],[],[])) rfl
 unfold aj;rw[B3 h,gT,h1,gT];by_cases hjn:j<(jZ b).length
 · rw[dif_pos hjn]at h2;rw[dif_pos hjn,h2];rfl
 · rw[dif_neg hjn]at h2;obtain⟨u,rfl⟩:=h2;rw[dif_neg hjn];show ((aK o).bind _)=_
   unfold aK;rw[nj (by show 0+o.length<=_;omega)];rfl
theorem A0 {b:gC} (h:lV b) {o:List Int} (ho:o.length<=1048576) {j:Nat} (hj:At (jZ b) o j) {n:Nat} (hn:n<=200):ak b o (n:Int)=some (((jZ b).drop j).take n):=by
 have hle:=vi h;have hjl:=hj.le
 have hin:i9 (n:Int) 0 200=true:=rL (by omega) (by omega);obtain⟨v,h1,rfl⟩:=jz (step:=λz:List Int×List gG=>aa b (n:Int) z.1 z.2) (λk z=>At (jZ b) z.1 (j+k)/\z.1.length<=1048576/\z.2=((jZ b).drop j).take k/\z.2.length=k) (min n ((jZ b).length-j)) (λv=>v=((jZ b).drop j).take n)
  (λk z hk ⟨a1,a2,a3,a4⟩=>by
   obtain⟨q,out⟩:=z;simp only at a1 a2 a3 a4;left;have hjk:j+k<(jZ b).length:=by omega
   obtain⟨x1,x2⟩:=q7 h _ (getElem_mem hjk);have x10:=x1.n10
   refine⟨((jZ b)[j+k].1,out++[(jZ b)[j+k]]),?_,zu (vh h) hjk,by show (jZ b)[j+k].1.length<=_;omega,?_,by show (out++[_]).length=_;rw[length_append,a4];rfl⟩
   · show aa b (n:Int) q out=_;unfold aa;have h130:((jZ b)[j+k].2.1==130)=false:=by
      generalize (jZ b)[j+k].2=v at x2;cases x2<;>rfl
     rw[nr,gT,hin,cT,kY (show (out.length:Int)<(n:Int) by omega),gT,cT,xN h a2 a1,dif_pos hjk,gT,h130,cF,nj (by show out.length+1<=_;omega),gT]
   · show out++[(jZ b)[j+k]]=_;rw[take_add_one,←a3,List.getElem?_drop,List.getElem?_eq_getElem hjk];rfl)
  (λz ⟨a1,a2,a3,a4⟩=>by
   obtain⟨q,out⟩:=z;simp only at a1 a2 a3 a4;show ∃v,aa b (n:Int) q out=_/\_
   unfold aa;rw[nr,gT,hin,cT];by_cases hnl:n<=(jZ b).length-j
   · rw[Nat.min_eq_left hnl]at a1 a3 a4;rw[jD (show ¬(out.length:Int)<(n:Int) by omega),gT,cF];exact⟨_,rfl,a3⟩
   · rw[Nat.min_eq_right (by omega)]at a1 a3 a4;rw[kY (show (out.length:Int)<(n:Int) by omega),gT,cT,xN h a2 a1,dif_neg (by omega),gT];refine⟨_,rfl,?_⟩;rw[a3,List.take_of_length_le (by rw[List.length_drop];omega),List.take_of_length_le (by rw[List.length_drop];omega)]) (x:=(o,[])) ⟨hj,ho,by simp,rfl⟩
 unfold ak;rw[h1,gT]
end Go.V.W

