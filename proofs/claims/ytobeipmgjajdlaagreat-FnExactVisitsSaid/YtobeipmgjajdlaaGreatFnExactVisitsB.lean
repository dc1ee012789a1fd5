/- The law FnExactVisits: part of the proof that for every input it returns true. No condition. -/
import Derived.KernelRfl
import Derived.Test.YtobeipmgjajdlaaGreatFnExactVisits
import Derived.Test.YtobeipmgjajdlaaGreatFnExactVisitsM
open List (all_eq_true any_eq_false any_eq_true getElem_mem getElem_of_mem length_append length_drop length_set length_take mem_append mem_cons mem_cons_of_mem mem_range mem_singleton nil_append pairwise_cons pairwise_iff_getElem take_add_one take_length)
set_option linter.unusedVariables false
set_option linter.unusedSimpArgs false
namespace Go.V.W
theorem lP {α β:Type} (a:α) (f:α->Option β):(some a).bind f=f a:=rfl
abbrev M:Nat:=1048576
abbrev In (left:Int):Prop:=0<=left/\left<=1048576
theorem In.next {left r:Int} (h:In left) (h1:0<=r) (h2:r<=left):In r:=⟨h1,by have:=h.2;omega⟩
theorem oO {n:Nat} (h:n<=M):n<=4294967295:=Nat.le_trans h (by decide)
theorem Fv {a:List Int} {left:Int} (hl:In left) (h:a.length<=maxLen):oC left (du a left) (a.length<=M):=pP hl h
theorem EF {a:List Int} {left:Int} (hl:In left) (h:a.length<=maxLen):oC left (dA a left) (a.length<=M):=pP hl h
theorem Gx {a:List Pt} {left:Int} (hl:In left) (h:a.length<=maxLen):oC left (dp a left) (a.length<=M):=pP hl h
theorem EG {a:List m0} {left:Int} (hl:In left) (h:a.length<=maxLen):oC left (dq a left) (a.length<=M):=pP hl h
theorem EH {a:List nC} {left:Int} (hl:In left) (h:a.length<=maxLen):oC left (dt a left) (a.length<=M):=pP hl h
theorem Fw {a:mV} {left:Int} (hl:In left) (h:a.1.length<=maxLen/\a.2.length<=maxLen):oC left (dv a left) (a.1.length<=M/\a.2.length<=M/\True) :=
 po (EH hl h.1) λr h1 h2=>po (Fv (hl.next h1 h2) h.2) λr h1 h2=>tJ h1
def tO (n:Nat) (b:lS):Prop:=b.2.1.length<=n/\b.2.2.1.length<=n/\b.2.2.2.1.length<=n/\b.2.2.2.2.1.length<=n/\b.2.2.2.2.2.1.length<=n
theorem DG {b:lS} {left:Int} (hl:In left) (h:tO maxLen b):oC left (cp b left) (tO M b):=by
 obtain⟨h1,h2,h3,h4,h5⟩:=h;refine va (Aj hl h1 λr k1 k2=>po (Gx (hl.next k1 k2) h2) λr' k3 k4=>po (EG ((hl.next k1 k2).next k3 k4) h3) λr'' k5 k6=>po (Fw (a:=(b.2.2.2.2.1,b.2.2.2.2.2.1)) (((hl.next k1 k2).next k3 k4).next k5 k6) ⟨h4,h5⟩) λr3 k7 k8=>tJ k7) ?_;rintro⟨a1,a2,a3,⟨a4,a5,_⟩,_⟩;exact⟨a1,a2,a3,a4,a5⟩
theorem Fx {a:List Int} (h:a.length<=M):dY a=some a:=rU (oO h) (Ah (oO h) 0)
theorem EI {a:List Int} (h:a.length<=M):eg a=some a:=rU (oO h) (Ah (oO h) 0)
theorem Gy {a:List Pt} (h:a.length<=M):dR a=some a:=rU (oO h) (rC (f:=dQ) (λ_ _=>rfl) (oO h) _)
theorem EJ {a:List m0} (h:a.length<=M):dV a=some a:=rU (oO h) (rC (f:=dU) (λ_ _=>rfl) (oO h) _)
theorem EK {a:List nC} (h:a.length<=M):dX a=some a:=rU (oO h) (rC (f:=dW) (λ_ _=>rfl) (oO h) _)
theorem Fy {a:mV} (h:a.1.length<=M/\a.2.length<=M):cN a=some a:=by
 unfold cN;rw[EK h.1,lP,Fx h.2,lP]
theorem DH {b:lS} (h:tO M b):bM b=some b:=by
 obtain⟨h1,h2,h3,h4,h5⟩:=h;unfold bM;rw[Gy h2,lP,EJ h3,lP,Fy ⟨h4,h5⟩,lP]
theorem E4 (v:qk):bX v v=some true:=by unfold bX;simp
theorem H7 (v:Pt):bY v v=some true:=by unfold bY;simp[E4]
theorem Fz (v:m0):bZ v v=some true:=by unfold bZ;simp
theorem FA (v:nC):ca v v=some true:=by unfold ca;simp
theorem CV {a:List Int} (h:a.length<=M):br a a=some true:=rV (Ai (oO h))
theorem EL {a:List Int} (h:a.length<=M):eD a a=some true:=rV (Ai (oO h))
theorem Gz {a:List Pt} (h:a.length<=M):eq a a=some true:=rV (rD (g:=bY) (λx _=>H7 x) (oO h))
theorem EM {a:List m0} (h:a.length<=M):ew a a=some true:=rV (rD (g:=bZ) (λx _=>Fz x) (oO h))
theorem EN {a:List nC} (h:a.length<=M):ez a a=some true:=rV (rD (g:=ca) (λx _=>FA x) (oO h))
theorem FC {a:mV} (h:a.1.length<=M/\a.2.length<=M):d6 a a=some true:=by
 unfold d6;simp[EN h.1,CV h.2]
theorem DI {b:lS} (h:tO M b):cb b b=some true:=by
 obtain⟨h1,h2,h3,h4,h5⟩:=h;unfold cb;simp[Gz h2,EM h3,FC (a:=(b.2.2.2.2.1,b.2.2.2.2.2.1)) ⟨h4,h5⟩]
theorem C1 {α β:Type} {f g:α->Option (α⊕β)} (mj:α->Prop) (h:∀x,mj x->f x=g x) (hi:∀x y,mj x->f x=some (.inl y)->mj y) {x:α} (h0:mj x):loop f x=loop g x:=by
 have key:∀k x,mj x->ob f k x=ob g k x:=by
  intro k
  induction k with
  | zero=>intro x _;rfl
  | succ k ih =>
   intro x hx;rw[mN,mN,←h x hx];cases hf:f x with
   | none=>rfl
   | some v=>cases v with
    | inl y=>exact ih y (hi x y hx hf)
    | inr b=>rfl
 have hex:(∃k,(ob f k x).isSome)↔∃k,(ob g k x).isSome:=by
  constructor<;>rintro⟨k,hk⟩<;>exact⟨k,by first|rwa [←key k x h0]|rwa [key k x h0]⟩
 by_cases hc:∃k,(ob f k x).isSome
 · obtain⟨k,hk⟩:=hc;cases hv:ob f k x with
   | none=>rw[hv]at hk;cases hk
   | some b=>rw[pa hv,pa ((key k x h0)▸hv)]
 · have hc':¬ ∃k,(ob g k x).isSome:=λh=>hc (hex.2 h);unfold loop;rw[dif_neg hc,dif_neg hc']
theorem ql {α β:Type} {f g:α->Option (α⊕β)} (h:∀x,f x=g x) (x:α):loop f x=loop g x:=by rw[funext h]
def m3 (x a b:Int):Bool:=decide (x>=a)&&decide (x<=b)
theorem qG (x a b:Int):a7 x a b=some (m3 x a b):=by
 unfold a7 m3;cases decide (x>=a)<;>rfl
theorem rm (x a b:Int):a6 x a b=some (m3 x a b):=qG x a b
def wi (v:qk):Bool:=m3 v.1 1 99&&(m3 v.2.1 0 100000&&(m3 v.2.2.1 0 10&&(m3 v.2.2.2.1 1 99&&m3 v.2.2.2.2 0 7)))
theorem Ak (v:qk):ar v=some (wi v):=by
 unfold ar wi;simp only[qG,lP];cases m3 v.1 1 99<;>cases m3 v.2.1 0 100000<;>cases m3 v.2.2.1 0 10<;>cases m3 v.2.2.2.1 1 99<;>rfl
theorem FD:aP=ar:=rfl
def zi (p:Pt):Bool:=m3 p.2.1 1 1000&&(!(p.2.2.1&&!p.1)&&(cond p.2.2.1 (wi p.2.2.2) (p.2.2.2.1==0&&(p.2.2.2.2.1==0&&(p.2.2.2.2.2.1==0&&(p.2.2.2.2.2.2.1==0&&(p.2.2.2.2.2.2.2==0)))))))
theorem Ho (p:Pt):bN p=some (zi p):=by
 obtain⟨up,cost,heard,v⟩:=p;unfold bN zi;simp only[qG,Ak,lP];cases m3 cost 1 1000<;>cases up<;>cases heard<;>rfl
theorem Hp (p:Pt):bx p=some (zi p):=by
 obtain⟨up,cost,heard,v⟩:=p;unfold bx zi;simp only[rm,FD,Ak,lP];cases m3 cost 1 1000<;>cases up<;>cases heard<;>rfl
theorem qR {n:Nat} {c:Int->Option Bool} {b:Nat->Bool} (hn:n<9223372036854775807) (hc:∀k,k<n->c (k:Int)=some (b k)) :
 loop (λi:Int=>cond (decide (i<(n:Int))) ((c i).bind λt=>cond t (some (.inr (.inr false))) (some (.inl (lT (i+1))))) (some (.inr (.inl ())))) 0=some (cond ((List.range n).any b) (Sum.inr false) (Sum.inl ()):Unit⊕Bool):=by
 obtain⟨v,h1,h2⟩:=nl (β:=Unit⊕Bool) (step:=λi:Int=>cond (decide (i<(n:Int))) ((c i).bind λt=>cond t (some (.inr (.inr false))) (some (.inl (lT (i+1))))) (some (.inr (.inl ()))))
  (λk i=>i=(k:Int)/\(List.range k).any b=false) n (λv=>v=cond ((List.range n).any b) (Sum.inr false) (Sum.inl ()))
  (λk i hk ⟨e,ha⟩=>by
   subst e;have hs:(cond (decide ((k:Int)<(n:Int))) ((c (k:Int)).bind λt=>cond t (some (.inr (.inr false))) (some (.inl (lT ((k:Int)+1))))) (some (.inr (.inl ()))):Option (Int⊕(Unit⊕Bool)))=cond (b k) (some (.inr (.inr false))) (some (.inl ((k+1:Nat):Int))):=by
    rw[ng (by omega),cT,hc k hk,lP,me (by omega)]
   cases hb:b k with
   | true =>
    refine .inr ⟨.inr false,by rw[hs,hb];rfl,?_⟩;have:(List.range n).any b=true:=any_eq_true.2 ⟨k,mem_range.2 hk,hb⟩
    rw[this];rfl
   | false =>
    refine .inl ⟨_,by rw[hs,hb];rfl,rfl,?_⟩;rw[List.range_succ,List.any_append,ha];simp[hb])
  (λi ⟨e,ha⟩=>by
   subst e;exact⟨.inl (),by rw[mG (by omega),cF],by rw[ha];rfl⟩) (x:=0) ⟨rfl,rfl⟩
 rw[h1,h2]
def rM (e:m0):Bool:=m3 e.1 1 99&&(m3 e.2.1 1 9999&&(m3 e.2.2.1 0 7&&(m3 e.2.2.2.1 0 4&&(!e.2.2.2.2||e.2.2.2.1==0))))
theorem zA (e:m0):aJ e=some (rM e):=by
 unfold aJ rM;simp only[qG,lP];cases m3 e.1 1 99<;>cases m3 e.2.1 1 9999<;>cases m3 e.2.2.1 0 7<;>cases m3 e.2.2.2.1 0 4<;>cases e.2.2.2.2<;>rfl
theorem E5:bv=aJ:=rfl
def nu (e:m0) (tag mac:Int):Bool:=decide (e.1>tag)||(e.1==tag&&decide (e.2.1>mac))
theorem yK (e:m0) (tag mac:Int):b7 e tag mac=some (nu e tag mac):=by
 unfold b7 nu;cases decide (e.1>tag)<;>cases (e.1==tag)<;>rfl
theorem FE (p e:m0):aq p e.1 e.2.1=some (nu e p.1 p.2.1):=by
 unfold aq nu;by_cases h:p.1=e.1
 · simp[h]
 · have h':¬e.1=p.1:=λk=>h k.symm;have e1:(p.1 != e.1)=true:=by simpa using h
   have e2:(e.1==p.1)=false:=by simpa using h'
   rw[e1,e2,cT,Bool.false_and,Bool.or_false]
def qM (l:List m0) (k:Nat):Bool:=match l[k]? with
 | some e=>!(rM e)||(decide (0<k)&&(match l[k-1]? with|some p=>!(nu e p.1 p.2.1)|none=>false))
 | none=>false
def qS (l:List m0):Bool:=!((List.range l.length).any (qM l))&&decide ((l.length:Int)<=12)
theorem wE {α:Type} {l:List α} {k:Nat} (h:k<l.length) (hk:0<k) (hn:l.length<9223372036854775807):at? l (lT ((k:Int)-1))=some l[k-1]:=by
 rw[ny (by omega) (by omega),show (k:Int)-1=((k-1:Nat):Int) by omega,md (by omega)]
theorem DJ {l:List m0} (hn:l.length<9223372036854775807):bO l=some (qS l):=by
 unfold bO qS;have h:=qR (n:=l.length) (c:=λi=>(at? l i).bind λx10=>(aJ x10).bind λt13=>(cond (!t13) (some true) ((cond (decide (i>0)) ((at? l (lT (i-1))).bind λx23=>(at? l (lT (i-1))).bind λx29=>(b7 x10 x23.1 x29.2.1).bind λt32=>some (!t32)) (some false)).bind λt34=>some t34)).bind λt=>some t) (b:=qM l) hn (λk hk=>by
  simp only[md hk,lP,zA,qM,List.getElem?_eq_getElem hk];cases rM l[k]with
  | false=>rfl
  | true =>
   by_cases h0:0<k
   · have hd:decide ((k:Int)>0)=true:=dT (by omega);simp only[hd,wE hk h0 hn,lP,yK,dT h0,List.getElem?_eq_getElem (show k-1<l.length by omega)];rfl
   · have hd:decide ((k:Int)>0)=false:=dF (by omega);simp only[hd,dF h0];rfl)
 have e:(loop (λz=>eh l z) 0)=some (cond ((List.range l.length).any (qM l)) (Sum.inr false) (Sum.inl ())):=by
  rw[←h];refine ql (λi=>?_) 0;unfold eh;simp only[Option.bind_assoc,lP]
 rw[e,lP];cases (List.range l.length).any (qM l)<;>rfl
theorem FF {l:List m0} (hn:l.length<9223372036854775807):bw l=some (qS l):=by
 unfold bw qS;have h:=qR (n:=l.length) (c:=λi=>(at? l i).bind λx12=>(bv x12).bind λt14=>(cond (!t14) (some true) ((cond (decide (i>0)) ((at? l (lT (i-1))).bind λx23=>(at? l i).bind λx27=>(at? l i).bind λx32=>(aq x23 x27.1 x32.2.1).bind λt35=>some (!t35)) (some false)).bind λt37=>some t37)).bind λt=>some t) (b:=qM l) hn (λk hk=>by
  simp only[md hk,lP,E5,zA,qM,List.getElem?_eq_getElem hk];cases rM l[k]with
  | false=>rfl
  | true =>
   by_cases h0:0<k
   · have hd:decide ((k:Int)>0)=true:=dT (by omega);simp only[hd,wE hk h0 hn,lP,FE,dT h0,List.getElem?_eq_getElem (show k-1<l.length by omega)];rfl
   · have hd:decide ((k:Int)>0)=false:=dF (by omega);simp only[hd,dF h0];rfl)
 have e:(loop (λz=>dD l z) 0)=some (cond ((List.range l.length).any (qM l)) (Sum.inr false) (Sum.inl ())):=by
  rw[←h];refine ql (λi=>?_) 0;unfold dD;simp only[Option.bind_assoc,lP]
 rw[e,lP];cases (List.range l.length).any (qM l)<;>rfl

theorem FG {v:mV} (hn:v.1.length<9223372036854775807) (id:Int):∃r,aa v id=some r:=by
 unfold aa;obtain⟨b,h1,_⟩:=nl (β:=Unit⊕Int) (step:=λz=>aK v id z) (λk i=>i=(k:Int)) v.1.length (λ_=>True)
  (λk i hk h=>by
   subst h;unfold aK;rw[ng (by omega),cT,md hk,lP];cases (v.1[k].1==id)with
   | true=>exact .inr ⟨_,rfl,trivial⟩
   | false=>exact .inl ⟨_,rfl,me (by omega)⟩)
  (λi h=>by
   subst h;unfold aK;rw[mG (by omega)];exact⟨_,rfl,trivial⟩) (x:=0) rfl
 rw[h1,lP];cases b with
 | inl _=>exact⟨_,rfl⟩
 | inr r=>exact⟨r,rfl⟩
def s4 (i:Int):Int:=(2:Int)^i.toNat-1
theorem Al {i:Int} (h:m3 i 1 6=true):i=1\/i=2\/i=3\/i=4\/i=5\/i=6:=by
 unfold m3 at h;simp only[aT,decide_eq_true_eq]at h;omega
theorem CW {i:Int} (h:m3 i 1 6=true):cO i=some (s4 i):=by
 rcases Al h with rfl|rfl|rfl|rfl|rfl|rfl<;>rfl
theorem H8 {i:Int} (h:m3 i 1 6=true):∃t,shl .i64 1 (IntKind.u64.wrap i)=some t/\lT (t-1)=s4 i:=by
 rcases Al h with rfl|rfl|rfl|rfl|rfl|rfl<;>exact⟨_,rfl,rfl⟩
theorem GA {i:Int} (h:m3 i 1 6=true):1<=s4 i/\s4 i<=63:=by
 rcases Al h with rfl|rfl|rfl|rfl|rfl|rfl<;>decide
theorem yf (x:BitVec 64):IntKind.i64.wrap (x.toNat:Int)=x.toInt:=by
 have hx:=x.isLt;rw[BitVec.toInt_eq_toNat_cond];show (let m:=(x.toNat:Int)%18446744073709551616;if (true&&decide (m>=9223372036854775808))=true then m-18446744073709551616 else m)=_
 simp only[Bool.true_and,decide_eq_true_eq];have h1:(x.toNat:Int)%18446744073709551616=(x.toNat:Int):=by omega
 rw[h1];split<;>split<;>omega
theorem rN {b:Int} (h1:-9223372036854775808<=b) (h2:b<=9223372036854775807):(BitVec.ofInt 64 b).toInt=b:=by
 rw[BitVec.toInt_ofInt];unfold Int.bmod;simp only;split<;>omega
theorem E6 (a b:Int):ox .i64 a b=(BitVec.ofInt 64 a&&&BitVec.ofInt 64 b).toInt:=yf _
theorem GB (a b:Int):rn .i64 a b=(BitVec.ofInt 64 a &&& ~~~ BitVec.ofInt 64 b).toInt:=yf _
theorem Be (x y:BitVec 64):x&&&y=x↔x &&& ~~~ y=0:=by
 constructor
 · intro h;apply BitVec.eq_of_getLsbD_eq;intro i hi;have:=congrArg (λz=>z.getLsbD i) h
   simp only[BitVec.getLsbD_and]at this;simp only[BitVec.getLsbD_and,BitVec.getLsbD_not,BitVec.getLsbD_zero,hi,decide_true,Bool.true_and];cases hx:x.getLsbD i<;>cases hy:y.getLsbD i<;>simp_all
 · intro h;apply BitVec.eq_of_getLsbD_eq;intro i hi;have:=congrArg (λz=>z.getLsbD i) h
   simp only[BitVec.getLsbD_and,BitVec.getLsbD_not,BitVec.getLsbD_zero,hi,decide_true,Bool.true_and]at this;simp only[BitVec.getLsbD_and];cases hx:x.getLsbD i<;>cases hy:y.getLsbD i<;>simp_all
theorem CX {b m:Int} (h1:-9223372036854775808<=b) (h2:b<=9223372036854775807):(ox .i64 b m != b)=(rn .i64 b m != 0):=by
 rw[E6,GB];have e:((BitVec.ofInt 64 b&&&BitVec.ofInt 64 m).toInt=b)↔((BitVec.ofInt 64 b &&& ~~~ BitVec.ofInt 64 m).toInt=0):=by
  constructor
  · intro h;have:BitVec.ofInt 64 b&&&BitVec.ofInt 64 m=BitVec.ofInt 64 b:=BitVec.eq_of_toInt_eq (by rw[h,rN h1 h2])
    rw[(Be _ _).1 this];rfl
  · intro h;have:BitVec.ofInt 64 b &&& ~~~ BitVec.ofInt 64 m=0:=BitVec.eq_of_toInt_eq (by rw[h];rfl)
    rw[(Be _ _).2 this,rN h1 h2]
 by_cases h:(BitVec.ofInt 64 b&&&BitVec.ofInt 64 m).toInt=b
 · have h':=e.1 h;simp[h,h']
 · have h':¬(BitVec.ofInt 64 b &&& ~~~ BitVec.ofInt 64 m).toInt=0:=λk=>h (e.2 k);rw[bne_iff_ne.2 h,bne_iff_ne.2 h']
theorem EO {b m t:Int} (h1:-9223372036854775808<=b) (h2:b<=9223372036854775807) (hm:m3 m 0 t=true) (ht:t<=63) (h:(ox .i64 b m != b)=false):m3 b 0 t=true:=by
 unfold m3 at hm ⊢;simp only[aT,decide_eq_true_eq]at hm ⊢;have h:ox .i64 b m=b:=by simpa using h
 rw[E6]at h;have e:BitVec.ofInt 64 b&&&BitVec.ofInt 64 m=BitVec.ofInt 64 b:=BitVec.eq_of_toInt_eq (by rw[h,rN h1 h2])
 have hM:(BitVec.ofInt 64 m).toNat=m.toNat:=by
  rw[BitVec.toNat_ofInt];omega
 have hle:(BitVec.ofInt 64 b).toNat<=m.toNat:=by
  rw[←e,BitVec.toNat_and,hM];exact Nat.and_le_right
 have hb:(BitVec.ofInt 64 b).toInt=((BitVec.ofInt 64 b).toNat:Int):=by
  rw[BitVec.toInt_eq_toNat_cond];split<;>omega
 rw[rN h1 h2]at hb;omega
def tb (v:mV) (i:Int) (k:Nat):Bool:=match v.1[k]? with
 | some r=>!(m3 r.1 1 99)||((decide (0<k)&&(match v.1[k-1]? with|some p=>decide (p.1>=r.1)|none=>false))||(!(m3 r.2.1 0 (s4 i))||(rn .i64 r.2.2 r.2.1 != 0)))
 | none=>false
noncomputable def wF (v:mV) (k:Nat):Bool:=match v.2[k]? with
 | some x=>(match aa v x with|some t=>decide (t<0)|none=>false)
 | none=>false
noncomputable def qy (v:mV) (i:Int):Bool:=!(!(m3 i 1 6)||((v.2.length:Int) != i||decide ((v.1.length:Int)>6)))&&(!((List.range v.1.length).any (tb v i))&&!((List.range v.2.length).any (wF v)))
theorem CY {v:mV} {i:Int} (hi:m3 i 1 6=true) (hn:v.1.length<9223372036854775807):loop (λz=>ej v i z) 0=some (cond ((List.range v.1.length).any (tb v i)) (Sum.inr false) (Sum.inl ())):=by
 rw[←qR (n:=v.1.length) (c:=λt28=>(at? v.1 t28).bind λx31 =>
  (a7 x31.1 1 99).bind λt35 =>
  (cond (!t35) (some true) ((cond (decide (t28>0)) ((at? v.1 (lT (t28-1))).bind λx45=>some (decide (x45.1>=x31.1))) (some false)).bind λt51=>some t51)).bind λt52 =>
  (cond t52 (some true) ((cO i).bind λt57=>(a7 x31.2.1 0 t57).bind λt58=>some (!t58))).bind λt60 =>
  (cond t60 (some true) (some ((rn .i64 x31.2.2 x31.2.1) != 0))).bind λt=>some t) (b:=tb v i) hn (λk hk=>by
   simp only[md hk,lP,qG,tb,List.getElem?_eq_getElem hk,CW hi];cases m3 v.1[k].1 1 99 with
   | false=>rfl
   | true =>
    by_cases h0:0<k
    · have hd:decide ((k:Int)>0)=true:=dT (by omega);simp only[hd,wE hk h0 hn,lP,dT h0,List.getElem?_eq_getElem (show k-1<v.1.length by omega)];cases decide (v.1[k-1].1>=v.1[k].1)<;>cases m3 v.1[k].2.1 0 (s4 i)<;>rfl
    · have hd:decide ((k:Int)>0)=false:=dF (by omega);simp only[hd,dF h0];cases m3 v.1[k].2.1 0 (s4 i)<;>rfl)]
 refine ql (λi=>?_) 0;unfold ej;simp only[Option.bind_assoc,lP]
theorem C2 {v:mV} {i t:Int} (hi:m3 i 1 6=true) (ht:lT (t-1)=s4 i) (hn:v.1.length<9223372036854775807) (hw:∀r∈v.1,-9223372036854775808<=r.2.2/\r.2.2<=9223372036854775807):loop (λz=>dE v t z) 0=some (cond ((List.range v.1.length).any (tb v i)) (Sum.inr false) (Sum.inl ())):=by
 rw[←qR (n:=v.1.length) (c:=λt6=>(at? v.1 t6).bind λx39 =>
  (a6 x39.1 1 99).bind λt43 =>
  (cond (!t43) (some true) ((a6 x39.2.1 0 (lT (t-1))).bind λt49=>some (!t49))).bind λt51 =>
  (cond t51 (some true) ((a6 x39.2.2 0 (lT (t-1))).bind λt56=>some (!t56))).bind λt58 =>
  (cond t58 (some true) (some ((ox .i64 x39.2.2 x39.2.1) != x39.2.2))).bind λt68 =>
  (cond t68 (some true) ((cond (decide (t6>0)) ((at? v.1 (lT (t6-1))).bind λx77=>some (decide (x77.1>=x39.1))) (some false)).bind λt83=>some t83)).bind λt=>some t) (b:=tb v i) hn (λk hk=>by
   obtain⟨w1,w2⟩:=hw _ (getElem_mem hk);have hs:=CX (m:=v.1[k].2.1) w1 w2
   have hin:=EO (m:=v.1[k].2.1) (t:=s4 i) w1 w2;have ht2:=(GA hi).2
   simp only[md hk,lP,rm,tb,List.getElem?_eq_getElem hk,ht];rw[←hs];cases h1:m3 v.1[k].1 1 99 with
   | false=>rfl
   | true =>
    cases h2:m3 v.1[k].2.1 0 (s4 i)with
    | false =>
     by_cases h0:0<k
     · simp only[dT h0,List.getElem?_eq_getElem (show k-1<v.1.length by omega)];cases decide (v.1[k-1].1>=v.1[k].1)<;>rfl
     · simp only[dF h0];rfl
    | true =>
     cases h3:(ox .i64 v.1[k].2.2 v.1[k].2.1 != v.1[k].2.2)with
     | true =>
      by_cases h0:0<k
      · simp only[dT h0,List.getElem?_eq_getElem (show k-1<v.1.length by omega)];cases decide (v.1[k-1].1>=v.1[k].1)<;>cases m3 v.1[k].2.2 0 (s4 i)<;>rfl
      · simp only[dF h0];cases m3 v.1[k].2.2 0 (s4 i)<;>rfl
     | false =>
      have h4:=hin h2 ht2 h3;rw[h4];by_cases h0:0<k
      · have hd:decide ((k:Int)>0)=true:=dT (by omega);simp only[hd,wE hk h0 hn,lP,dT h0,List.getElem?_eq_getElem (show k-1<v.1.length by omega)];cases decide (v.1[k-1].1>=v.1[k].1)<;>rfl
      · have hd:decide ((k:Int)>0)=false:=dF (by omega);simp only[hd,dF h0];rfl)]
 refine ql (λi=>?_) 0;unfold dE;simp only[Option.bind_assoc,lP]
theorem zj {v:mV} (hn:v.1.length<9223372036854775807) (hn2:v.2.length<9223372036854775807):loop (λz=>cP v z) 0=some (cond ((List.range v.2.length).any (wF v)) (Sum.inr false) (Sum.inl ())):=by
 rw[←qR (n:=v.2.length) (c:=λt73=>(at? v.2 t73).bind λx75=>(aa v x75).bind λt79=>some (decide (t79<0))) (b:=wF v) hn2 (λk hk=>by
  obtain⟨r,hr⟩:=FG hn v.2[k];simp only[md hk,lP,wF,List.getElem?_eq_getElem hk,hr])]
 refine ql (λi=>?_) 0;unfold cP;simp only[Option.bind_assoc,lP]
theorem GC:eY=cP:=rfl
theorem GD {v:mV} (i:Int) (hn:v.1.length<9223372036854775807) (hn2:v.2.length<9223372036854775807):cQ v i=some (qy v i):=by
 unfold cQ qy;simp only[qG,lP];cases hi:m3 i 1 6 with
 | false=>rfl
 | true =>
  rw[CY hi hn,zj hn hn2];cases ((v.2.length:Int) != i)<;>cases decide ((v.1.length:Int)>6)<;>cases (List.range v.1.length).any (tb v i)<;>cases (List.range v.2.length).any (wF v)<;>rfl
theorem GE {v:mV} (i:Int) (hn:v.1.length<9223372036854775807) (hn2:v.2.length<9223372036854775807) (hw:∀r∈v.1,-9223372036854775808<=r.2.2/\r.2.2<=9223372036854775807):cq v i=some (qy v i):=by
 unfold cq qy;simp only[rm,lP,GC];cases hi:m3 i 1 6 with
 | false=>rfl
 | true =>
  obtain⟨t,h1,h2⟩:=H8 hi;rw[h1,lP,C2 hi h2 hn hw,zj hn hn2];cases ((v.2.length:Int) != i)<;>cases decide ((v.1.length:Int)>6)<;>cases (List.range v.1.length).any (tb v i)<;>cases (List.range v.2.length).any (wF v)<;>rfl
def vI (l:List Pt) (k:Nat):Bool:=match l[k]? with|some p=>!(zi p)|none=>false
def pb (b:lS):Bool:=m3 b.2.2.2.2.2.2.1 0 1000000&&(m3 b.2.2.2.2.2.2.2.1 0 1000000&&(m3 b.2.2.2.2.2.2.2.2.1 0 1000000&&(m3 b.2.2.2.2.2.2.2.2.2.1 0 1000000&&m3 b.2.2.2.2.2.2.2.2.2.2 0 1000000)))
noncomputable def nL (b:lS):Bool:=!((List.range b.2.2.1.length).any (vI b.2.2.1))&&(m3 b.1 1 99&&(!(decide ((b.2.1.length:Int)>10))&&(m3 (b.2.2.1.length:Int) 1 6&&(qS b.2.2.2.1&&(qy (b.2.2.2.2.1,b.2.2.2.2.2.1) (b.2.2.1.length:Int)&&pb b)))))
structure uC (b:lS):Prop where
 p:b.2.2.1.length<9223372036854775807
 f:b.2.2.2.1.length<9223372036854775807
 v:b.2.2.2.2.1.length<9223372036854775807
 q:b.2.2.2.2.2.1.length<9223372036854775807
 r:∀r∈b.2.2.2.2.1,-9223372036854775808<=r.2.2/\r.2.2<=9223372036854775807
theorem C3 {b:lS} (h:uC b):loop (λz=>ek b z) 0=some (cond ((List.range b.2.2.1.length).any (vI b.2.2.1)) (Sum.inr false) (Sum.inl ())):=by
 rw[←qR (n:=b.2.2.1.length) (c:=λt8=>(at? b.2.2.1 t8).bind λx10=>(bN x10).bind λt13=>some (!t13)) (b:=vI b.2.2.1) h.p (λk hk=>by
  simp only[md hk,lP,vI,List.getElem?_eq_getElem hk,Ho])]
 refine ql (λi=>?_) 0;unfold ek;simp only[Option.bind_assoc,lP]
theorem AU {b:lS} (h:uC b):loop (λz=>dG b z) 0=some (cond ((List.range b.2.2.1.length).any (vI b.2.2.1)) (Sum.inr false) (Sum.inl ())):=by
 rw[←qR (n:=b.2.2.1.length) (c:=λt8=>(at? b.2.2.1 t8).bind λx10=>(bx x10).bind λt13=>some (!t13)) (b:=vI b.2.2.1) h.p (λk hk=>by
  simp only[md hk,lP,vI,List.getElem?_eq_getElem hk,Hp])]
 refine ql (λi=>?_) 0;unfold dG;simp only[Option.bind_assoc,lP]
theorem EP (b:lS):ct b=some (pb b):=by
 unfold ct pb;simp only[rm,lP];cases m3 b.2.2.2.2.2.2.1 0 1000000<;>cases m3 b.2.2.2.2.2.2.2.1 0 1000000<;>cases m3 b.2.2.2.2.2.2.2.2.1 0 1000000<;>cases m3 b.2.2.2.2.2.2.2.2.2.1 0 1000000<;>rfl
theorem FH (n:Int):au n=some (m3 n 0 1000000):=by unfold au;rw[qG,lP]
theorem wG {b:lS} (h:uC b):bP b=some (nL b):=by
 unfold bP nL pb;rw[C3 h,lP];cases (List.range b.2.2.1.length).any (vI b.2.2.1)with
 | true=>rfl
 | false =>
  simp only[cF,Sum.elim_inl,qG,DJ h.f,GD (v:=(b.2.2.2.2.1,b.2.2.2.2.2.1)) _ h.v h.q,FH,lP];cases m3 b.1 1 99<;>cases decide ((b.2.1.length:Int)>10)<;>cases m3 (b.2.2.1.length:Int) 1 6<;>cases qS b.2.2.2.1<;>cases qy (b.2.2.2.2.1,b.2.2.2.2.2.1) (b.2.2.1.length:Int) <;>
   cases m3 b.2.2.2.2.2.2.1 0 1000000<;>cases m3 b.2.2.2.2.2.2.2.1 0 1000000<;>cases m3 b.2.2.2.2.2.2.2.2.1 0 1000000<;>cases m3 b.2.2.2.2.2.2.2.2.2.1 0 1000000<;>rfl
theorem Bf {b:lS} (h:uC b):bz b=some (nL b):=by
 unfold bz nL;rw[AU h,lP];cases (List.range b.2.2.1.length).any (vI b.2.2.1)with
 | true=>rfl
 | false =>
  have e:decide ((b.2.1.length:Int)<=10)=!(decide ((b.2.1.length:Int)>10)):=by
   by_cases hh:(b.2.1.length:Int)>10
   · rw[dT hh,dF (by omega)];rfl
   · rw[dF hh,dT (by omega)];rfl
  simp only[cF,Sum.elim_inl,rm,FF h.f,GE (v:=(b.2.2.2.2.1,b.2.2.2.2.2.1)) _ h.v h.q h.r,EP,lP,e];cases m3 b.1 1 99<;>cases decide ((b.2.1.length:Int)>10)<;>cases m3 (b.2.2.1.length:Int) 1 6<;>cases qS b.2.2.2.1<;>cases qy (b.2.2.2.2.1,b.2.2.2.2.2.1) (b.2.2.1.length:Int)<;>cases pb b<;>rfl
theorem E7:cC=bh:=rfl
theorem E8 (a b:qk):∃r,bh a b=some r:=by
 unfold bh;cases (a.1 != b.1)<;>cases (a.2.1 != b.2.1)<;>cases (a.2.2.2.1 != b.2.2.2.1)<;>exact⟨_,rfl⟩
theorem GF:dJ=bR:=rfl
theorem GG (v:qk) (c:Int):∃r,bR v c=some r:=by
 unfold bR;simp only[Ak,qG,lP];cases wi v<;>cases m3 c 1 1000<;>first|exact⟨_,rfl⟩|skip
 generalize wi (v.1,lT (v.2.1+c),lT (v.2.2.1+1),v.2.2.2.1,v.2.2.2.2)=q;cases q<;>exact⟨_,rfl⟩
theorem GH (p0:Int) (l:List Pt) (t8 t9 b0 b1 b2 b3 b4 c0 c1 c2 c3 c4:Int):dK p0 l t8 t9 b0 b1 b2 b3 b4 c0 c1 c2 c3 c4=bj p0 l t8 t9 b0 b1 b2 b3 b4 c0 c1 c2 c3 c4:=by
 unfold dK bj;rw[GF,E7];cases h:at? l t9 with
 | none=>rfl
 | some x=>simp only[lP]
theorem E9:bE=aw:=by
 funext p0 l
 unfold bE aw;rw[ql (λz=>GH p0 l _ _ _ _ _ _ _ _ _ _ _ _)]
theorem GI (p0:Int) {l:List Pt} (hn:l.length<9223372036854775807):∃r,aw p0 l=some r:=by
 unfold aw;obtain⟨b,h1,_⟩:=nl (step:=λz:Int×Int×Int×Int×Int×Int×Int×Int×Int×Int×Int×Int=>bj p0 l z.1 z.2.1 z.2.2.1 z.2.2.2.1 z.2.2.2.2.1 z.2.2.2.2.2.1 z.2.2.2.2.2.2.1 z.2.2.2.2.2.2.2.1 z.2.2.2.2.2.2.2.2.1 z.2.2.2.2.2.2.2.2.2.1 z.2.2.2.2.2.2.2.2.2.2.1 z.2.2.2.2.2.2.2.2.2.2.2)
  (λk z=>z.2.1=(k:Int)) l.length (λ_=>True)
  (λk z hk h=>by
   left;obtain⟨t7,t18,b0,b1,b2,b3,b4,c0,c1,c2,c3,c4⟩:=z;obtain rfl:t18=(k:Int):=h;unfold bj;simp only[ng (show (k:Int)<(l.length:Int) by omega),cT,md hk,lP];rw[show lT ((k:Int)+1)=((k+1:Nat):Int)from me (by omega)];generalize l[k]=x;have e:(cond (!x.1) (some true) (some (!x.2.2.1)):Option Bool)=some (cond (!x.1) true (!x.2.2.1)):=by cases x.1<;>rfl
   rw[e,lP];cases (cond (!x.1) true (!x.2.2.1))with
   | true=>exact⟨_,rfl,rfl⟩
   | false =>
    obtain⟨r,hr⟩:=GG x.2.2.2 x.2.1;obtain⟨q,hq⟩:=E8 r.1 (c0,c1,c2,c3,c4);rw[cF,hr,lP,hq];cases r.2<;>cases decide (r.1.1<p0)<;>cases decide (t7<0)<;>cases q<;>exact⟨_,rfl,rfl⟩)
  (λz h=>by
   obtain⟨t7,t18,b0,b1,b2,b3,b4,c0,c1,c2,c3,c4⟩:=z;obtain rfl:t18=(l.length:Int):=h;unfold bj;simp only[mG (show ¬(l.length:Int)<(l.length:Int) by omega),cF];exact⟨_,rfl,trivial⟩) (x:=((-1),0,p0,0,0,p0,0,0,0,0,0,0)) rfl
 rw[h1,lP];exact⟨_,rfl⟩
theorem H9:cD=bS:=by
 funext id l p
 unfold cD bS;rw[E9]
theorem GJ:cE=am:=by
 funext id l p
 unfold cE am;rw[E9,H9,E7];rfl
theorem GK (id:Int) {l:List Pt} (hn:l.length<9223372036854775807) (p:Int):∃r,am id l p=some r:=by
 obtain⟨v,hv⟩:=GI id hn;unfold am bS;simp only[qG,lP,hv];rw[show lT ((l.length:Int)-1)=(l.length:Int)-1 from ny (by omega) (by omega)];cases hp:m3 p 0 ((l.length:Int)-1)with
 | false=>exact⟨_,rfl⟩
 | true =>
  unfold m3 at hp;simp only[aT,decide_eq_true_eq]at hp;obtain⟨k,rfl⟩:∃k:Nat,p=(k:Int):=⟨p.toNat,by omega⟩;simp only[md (show k<l.length by omega),lP];generalize l[k]'(by omega)=x;obtain⟨q,hq⟩:=E8 (v.1.1,v.1.2.1,v.1.2.2.1,v.1.2.2.2.1,(k:Int)) x.2.2.2;rw[hq];cases x.1<;>cases (v.2==(k:Int))<;>cases x.2.2.1<;>cases q<;>exact⟨_,rfl⟩
def Am (n:Nat) (l:List lS):Prop:=l.length<=n/\∀x∈l,tO n x
theorem CZ {l:List lS} {left:Int} (hl:In left) (h:Am maxLen l):oC left (dw l left) (Am M l):=by
 have hn:l.length<=9223372036854775807:=h.1;show oC left (let l1:=lT (left-(l.length:Int));cond (decide (l1<0)) (some (-1)) ((loop (λz=>eK l z.1 z.2) (l1,0)).bind (Sum.elim (λd=>some d) (λr=>some r)))) _
 by_cases hle:l.length<=M
 · exact va (Aj hl h.1 λr k1 k2=>CQ (f:=cp) (Q:=tO M) (λx hx l' h1 h2=>DG ⟨h1,h2⟩ (h.2 x hx)) (oO hle) (hl.next k1 k2)) λ⟨a,b⟩=>⟨a,b⟩
 · refine⟨-1,?_,.inl rfl⟩;show cond (decide (lT (left-(l.length:Int))<0)) _ _=_
   have:M<l.length:=by omega
   have hM:(1048576:Int)<(l.length:Int):=by have:1048576<l.length:=this;omega
   have:=hl.2;rw[ny (by omega) (by omega),ng (by omega),cT]
theorem EQ {a:List my} {left:Int} (hl:In left) (h:a.length<=maxLen):oC left (dx a left) (a.length<=M):=pP hl h
theorem FJ {a:List nX} {left:Int} (hl:In left) (h:a.length<=maxLen):oC left (dy a left) (a.length<=M):=pP hl h
def yg (m:Nat) (n:mi):Prop:=Am m n.1/\n.2.1.length<=m/\n.2.2.length<=m
theorem GL {n:mi} {left:Int} (hl:In left) (h:yg maxLen n):oC left (dz n left) (yg M n) :=
 va (po (CZ hl h.1) λr k1 k2=>po (EQ (hl.next k1 k2) h.2.1) λr' k3 k4=>po (FJ ((hl.next k1 k2).next k3 k4) h.2.2) λr'' k5 k6=>tJ k5) λ⟨a,b,c,_⟩=>⟨a,b,c⟩
theorem D1 {l:List lS} (h:Am M l):dZ l=some l:=rU (oO h.1) (rC (f:=bM) (λx hx=>DH (h.2 x hx)) (oO h.1) _)
theorem ER {a:List my} (h:a.length<=M):ed a=some a:=rU (oO h) (rC (f:=ea) (λ_ _=>rfl) (oO h) _)
theorem FK {a:List nX} (h:a.length<=M):ef a=some a:=rU (oO h) (rC (f:=ee) (λ_ _=>rfl) (oO h) _)
theorem GM {n:mi} (h:yg M n):aH n=some n:=by
 unfold aH;rw[D1 h.1,lP,ER h.2.1,lP,FK h.2.2,lP]
theorem FM (v:my):cc v v=some true:=by unfold cc;simp
theorem GN (v:nX):ce v v=some true:=by unfold ce;simp[E4]
theorem D2 {l:List lS} (h:Am M l):eA l l=some true:=rV (rD (g:=cb) (λx hx=>DI (h.2 x hx)) (oO h.1))
theorem ES {a:List my} (h:a.length<=M):eB a a=some true:=rV (rD (g:=cc) (λx _=>FM x) (oO h))
theorem FO {a:List nX} (h:a.length<=M):eC a a=some true:=rV (rD (g:=ce) (λx _=>GN x) (oO h))
theorem GO {n:mi} (h:yg M n):d7 n n=some true:=by
 unfold d7;simp[D2 h.1,ES h.2.1,FO h.2.2]
theorem FP {n:mi} (h:Cs.wf np n):yg maxLen n:=by
 simp only[np,Cs.wf,CT.wf]at h;obtain⟨h1,h2,h3⟩:=h;refine⟨⟨h1.1,λb hb=>?_⟩,h2.1,h3.1⟩;obtain⟨_,k1,k2,k3,k4,k5,_⟩:=h1.2 b hb;exact⟨k1,k2.1,k3.1,k4.1,k5.1⟩
structure NS (n:mi):Prop where
 b:n.1.length<9223372036854775807
 l:n.2.1.length<=1048576
 p:∀b∈n.1,b.2.2.1.length<9223372036854775807
theorem GP {n:mi} (h:yg M n):NS n:=by
 have hM:M<9223372036854775807:=by decide
 exact⟨by have:=h.1.1;omega,h.2.1,λb hb=>by have:=(h.1.2 b hb).2.1;omega⟩
def nc (n:mi) (b p:Int):Option Pt:=cond (m3 b 0 ((n.1.length:Int)-1)) (match at? n.1 b with
 | some x=>cond (m3 p 0 ((x.2.2.1.length:Int)-1)) (at? x.2.2.1 p) none
 | none=>none) none
theorem ri {α:Type} {l:List α} {i:Int} (h:m3 i 0 ((l.length:Int)-1)=true):∃k:Nat,∃hk:k<l.length,i=(k:Int)/\at? l i=some l[k]:=by
 unfold m3 at h;simp only[aT,decide_eq_true_eq]at h;obtain⟨k,rfl⟩:∃k:Nat,i=(k:Int):=⟨i.toNat,by omega⟩;exact⟨k,by omega,rfl,md (by omega)⟩
theorem D3 {n:mi} (h:NS n) (b p:Int):ba n b p=some (match nc n b p with|some x=>(x,true)|none=>((false,0,false,0,0,0,0,0),false)):=by
 unfold ba nc;have hb:=h.b
 simp only[qG,lP];rw[ny (n:=(n.1.length:Int)-1) (by omega) (by omega)];cases h1:m3 b 0 ((n.1.length:Int)-1)with
 | false=>rfl
 | true =>
  obtain⟨k,hk,_,e⟩:=ri h1;rw[e];simp only[lP,cT,Bool.not_true,cF];have hp:=h.p _ (getElem_mem hk)
  rw[ny (n:=((n.1[k]).2.2.1.length:Int)-1) (by omega) (by omega)];cases h2:m3 p 0 (((n.1[k]).2.2.1.length:Int)-1)with
  | false=>rfl
  | true =>
   obtain⟨j,hj,_,e'⟩:=ri h2;simp only[Bool.not_true,cF,cT,e',lP]
theorem Hq {n:mi} (h:NS n) (b p:Int):bK n b p=some (match nc n b p with|some x=>x.1|none=>false):=by
 unfold bK nc;have hb:=h.b
 simp only[rm,lP];rw[ny (n:=(n.1.length:Int)-1) (by omega) (by omega)];cases h1:m3 b 0 ((n.1.length:Int)-1)with
 | false=>rfl
 | true =>
  obtain⟨k,hk,_,e⟩:=ri h1;rw[e];simp only[lP,cT];have hp:=h.p _ (getElem_mem hk)
  rw[ny (n:=((n.1[k]).2.2.1.length:Int)-1) (by omega) (by omega)];cases h2:m3 p 0 (((n.1[k]).2.2.1.length:Int)-1)with
  | false=>rfl
  | true =>
   obtain⟨j,hj,_,e'⟩:=ri h2;simp only[cT,e',lP]
def C4 (o:Option Pt):Bool:=match o with|some x=>x.1|none=>false
theorem pW {α:Type} {xs ys:List α} (h:xs.length+ys.length<=4294967296):nn xs ys=some (xs++ys):=by
 unfold nn;rw[if_pos (show xs.length+ys.length<=tS from h)]
noncomputable def q8 (id:Int) (l:List Pt) (p:Int):Int:=(am id l p).getD 0
theorem vn (id:Int) {l:List Pt} (hn:l.length<9223372036854775807) (p:Int):am id l p=some (q8 id l p):=by
 obtain⟨r,hr⟩:=GK id hn p;unfold q8;rw[hr];rfl
def C5 (l:List Int) (x:Int):Bool:=decide (x∈l)
def rO (b:Nat->Bool) (m:Nat):List Int:=((List.range m).filter b).map λ(k:Nat)=>(k:Int)
theorem DK (b:Nat->Bool) (m:Nat):(rO b m).length<=m:=by
 unfold rO;rw[List.length_map];exact Nat.le_trans (List.length_filter_le _ _) (by simp)
theorem C6 (b:Nat->Bool) (m:Nat):rO b (m+1)=cond (b m) (rO b m++[(m:Int)]) (rO b m):=by
 unfold rO;rw[List.range_succ,List.filter_append,List.map_append];cases h:b m<;>simp[h]
theorem qp {n:Nat} {c:Int->Option Bool} {b:Nat->Bool} (hn:n<=1048576) (hc:∀k,k<n->c (k:Int)=some (b k)) :
 loop (λz:Int×List Int=>cond (decide (z.1<(n:Int))) ((c z.1).bind λt=>cond t ((nn z.2 [z.1]).bind λzs=>some (.inl (lT (z.1+1),zs))) (some (.inl (lT (z.1+1),z.2)))) (some (.inr z.2))) (0,([]:List Int))=some (rO b n):=by
 obtain⟨v,h1,rfl⟩:=nl (step:=λz:Int×List Int=>cond (decide (z.1<(n:Int))) ((c z.1).bind λt=>cond t ((nn z.2 [z.1]).bind λzs=>some (.inl (lT (z.1+1),zs))) (some (.inl (lT (z.1+1),z.2)))) (some (.inr z.2))) (λk z=>z.1=(k:Int)/\z.2=rO b k) n (λl=>l=rO b n)
  (λk z hk ⟨e1,e2⟩=>by
   obtain⟨i,l⟩:=z;simp only at e1 e2;subst e1 e2;left;have hle:=DK b k
   refine⟨(lT ((k:Int)+1),rO b (k+1)),?_,me (by omega),rfl⟩;simp only[ng (show (k:Int)<(n:Int) by omega),cT,hc k hk,lP];rw[C6];cases b k with
   | false=>rfl
   | true=>rw[cT,pW (by simp;omega)];rfl)
  (λz ⟨e1,e2⟩=>by
   obtain⟨i,l⟩:=z;simp only at e1 e2;subst e1 e2;exact⟨_,by simp only[mG (show ¬(n:Int)<(n:Int) by omega),cF],rfl⟩) (x:=(0,[])) ⟨rfl,rfl⟩
 exact h1
def tP (l:List Bool):Nat:=l.count true
theorem FQ (l:List Bool):tP l<=l.length:=List.count_le_length
theorem ET {l:List Bool} {i:Nat} (h:l[i]?=some false):tP (l.set i true)=tP l+1:=by
 obtain⟨hi,he⟩:=List.getElem?_eq_some_iff.1 h;unfold tP;rw[List.count_set hi,he];simp
theorem An {n:Nat} {i:Int} (h:m3 i 0 ((n:Int)-1)=true):∃k:Nat,k<n/\i=(k:Int):=by
 unfold m3 at h;simp only[aT,decide_eq_true_eq]at h;exact⟨i.toNat,by omega,by omega⟩
theorem yh {n k:Nat} (h:k<n):m3 (k:Int) 0 ((n:Int)-1)=true:=by
 unfold m3;rw[dT (by omega),dT (by omega)];rfl
structure uD (X:List Int) (l:List Bool):Prop where
 r:∀x∈X,∃k:Nat,k<l.length/\x=(k:Int)
 m:∀k,k<l.length->l[k]?=some (C5 X (k:Int))
 c:X.length=tP l
theorem uD.len {X:List Int} {l:List Bool} (h:uD X l):X.length<=l.length:=by rw[h.c];exact FQ l
theorem uD.add {X:List Int} {l:List Bool} (h:uD X l) {i:Nat} (hi:l[i]?=some false):uD (X++[(i:Int)]) (l.set i true):=by
 obtain⟨hi',he⟩:=List.getElem?_eq_some_iff.1 hi;refine⟨λx hx=>?_,λk hk=>?_,?_⟩
 · rw[length_set];rcases mem_append.1 hx with hx|hx
   · exact h.r x hx
   · simp at hx;exact⟨i,hi',hx⟩
 · rw[length_set]at hk;rw[List.getElem?_set];split
   · rename_i e;subst e;rw[show C5 (X++[(i:Int)]) (i:Int)=true from dT (by simp)]
   · rename_i e;rw[h.m k hk]
     congr 1
     unfold C5;apply decide_eq_decide.2;rw[mem_append,mem_singleton];constructor
     · exact .inl
     · rintro (h|h)
       · exact h
       · omega
 · rw[length_append,ET hi,h.c];rfl
theorem uD.in {X:List Int} {l:List Bool} (h:uD X l) {x:Int} (hx:C5 X x=true):m3 x 0 ((l.length:Int)-1)=true:=by
 obtain⟨k,hk,rfl⟩:=h.r x (of_decide_eq_true hx);exact yh hk
def start (n:Nat) (b:Nat):List Bool:=(List.replicate n false).set b true
theorem GQ (id:Int) {l:List Pt} (hn:l.length<9223372036854775807) (p:Int):1<=q8 id l p:=by
 have h:=vn id hn p
 revert h
 generalize q8 id l p=v;unfold am;rw[qG,lP];intro h;have key:∀(o:Option Bool) (f:Bool->Option Int),(∀t x,f t=some x->1<=x)->o.bind f=some v->1<=v:=by
  intro o f hf h;cases o with
  | none=>cases h
  | some t=>exact hf t v h
 refine key _ _ (λt x hx=>?_) h;cases t with
 | true=>cases hx;decide
 | false =>
  rw[cF]at hx;cases hbv:aw id l with
  | none=>rw[hbv]at hx;cases hx
  | some w =>
   rw[hbv,lP]at hx;cases hw:w.2==p with
   | true=>rw[hw]at hx;cases hx;decide
   | false =>
    rw[hw,cF]at hx;cases ha:at? l p with
    | none=>rw[ha]at hx;cases hx
    | some y =>
     rw[ha,lP]at hx
     revert hx
     generalize (cond (!y.2.2.1) _ _:Option Bool)=o;intro hx;cases o with
     | none=>cases hx
     | some t=>cases t<;>(cases hx;decide)
theorem vo {k:Nat} (h:k<64):IntKind.u64.wrap (k:Int)=(k:Int):=by
 show ((k:Int)%18446744073709551616)=_;omega
theorem GR:∀b:Fin 64,∀p:Fin 6,∃t c,shl .i64 1 (p.1:Int)=some t/\zC .i64 (b.1:Int) t=(c:Int)/\0<=c/\c<64:=by
 intro b p;have h:∀b:Fin 64,∀p:Fin 6,(decide (0<=zC .i64 (b.1:Int) (2^p.1))&&decide (zC .i64 (b.1:Int) (2^p.1)<64))=true:=by decide
 have h1:=h b p;simp only[aT,decide_eq_true_eq]at h1;have h2:∀p:Fin 6,shl .i64 1 (p.1:Int)=some (2^p.1):=by decide
 exact⟨_,_,h2 p,rfl,h1.1,h1.2⟩
theorem FR {r:Int} (h:1<=r):decide (r<=2)=(r==1||r==2):=by
 by_cases h2:r<=2
 · rw[dT h2];rcases (show r=1\/r=2 by omega)with rfl|rfl<;>rfl
 · rw[dF h2,beq_eq_false_iff_ne.2 (show r≠1 by omega),beq_eq_false_iff_ne.2 (show r≠2 by omega)];rfl
theorem yi (id:Int) {l:List Pt} (hn:l.length<9223372036854775807) (z:Int×Int) (hz:0<=z.2):bG id l z.1 z.2=ae id l z.1 z.2:=by
 unfold bG ae;rw[GJ,vn id hn,lP];have hr:=GQ id hn z.2
 by_cases h1:z.2<(l.length:Int)
 · rw[ng h1,cT];by_cases h2:z.2<6
   · rw[ng h2,lP,lP,cT,cT,lP,FR hr];obtain⟨k,hk⟩:∃k:Nat,z.2=(k:Int):=⟨z.2.toNat,by omega⟩;rw[hk,vo (by omega)];cases q8 id l (k:Int)==1<;>cases q8 id l (k:Int)==2<;>rfl
   · rw[mG h2];rfl
 · rw[mG h1];rfl
theorem Ao (id:Int) {l:List Pt} (hn:l.length<9223372036854775807):∃c:Nat,c<64/\bT id l=some (c:Int)/\bH id l=some (c:Int):=by
 obtain⟨v,h1,c,h2,rfl⟩:=nl (step:=λz:Int×Int=>ae id l z.1 z.2) (λk z=>z.2=(k:Int)/\∃c:Nat,c<64/\z.1=(c:Int)) (min l.length 6) (λv=>∃c:Nat,c<64/\v=(c:Int))
  (λk z hk ⟨e1,c,e2,e3⟩=>by
   obtain⟨b,i⟩:=z;simp only at e1 e3;subst e1 e3;left;have k6:k<6:=by omega
   obtain⟨t,d,b1,b2,b3,b4⟩:=GR ⟨c,e2⟩ ⟨k,k6⟩;have hs:ae id l (c:Int) (k:Int)=cond (q8 id l (k:Int)==1||q8 id l (k:Int)==2) (some (.inl ((d:Int),((k+1:Nat):Int)))) (some (.inl ((c:Int),((k+1:Nat):Int)))):=by
    unfold ae;rw[ng (show (k:Int)<(l.length:Int) by omega),ng (show (k:Int)<6 by omega),cT,lP,cT,vn id hn,lP,b1,lP,b2,me (by omega)];cases q8 id l (k:Int)==1<;>cases q8 id l (k:Int)==2<;>rfl
   show ∃y,ae id l (c:Int) (k:Int)=_/\_;rw[hs];cases (q8 id l (k:Int)==1||q8 id l (k:Int)==2)with
   | true=>exact⟨_,rfl,rfl,d.toNat,by omega,by show d=_;omega⟩
   | false=>exact⟨_,rfl,rfl,c,e2,rfl⟩)
  (λz ⟨e1,c,e2,e3⟩=>by
   obtain⟨b,i⟩:=z;simp only at e1 e3;subst e1 e3;refine⟨(c:Int),?_,c,e2,rfl⟩;show ae id l _ _=_
   unfold ae;by_cases h:l.length<=6
   · rw[Nat.min_eq_left h,mG (by omega)];rfl
   · rw[Nat.min_eq_right (by omega),ng (by omega),mG (show ¬(((6:Nat):Int)<6) by omega)];rfl) (x:=(0,0)) ⟨rfl,0,by omega,rfl⟩
 refine⟨c,h2,by unfold bT;rw[h1];rfl,?_⟩;unfold bH;rw[C1 (f:=λz:Int×Int=>bG id l z.1 z.2) (g:=λz:Int×Int=>ae id l z.1 z.2) (λz=>0<=z.2/\z.2<=9223372036854775806) (λz hz=>yi id hn z hz.1) (λz y hz hy=>by
  have hy':bG id l z.1 z.2=some (.inl y):=hy;rw[yi id hn z hz.1]at hy';unfold ae at hy';by_cases h1:z.2<(l.length:Int)
  · by_cases h2:z.2<6
    · rw[ng h1,ng h2,cT,lP,cT,vn id hn,lP]at hy';have hw:lT (z.2+1)=z.2+1:=ny (by omega) (by omega)
      rw[hw]at hy'
      revert hy'
      generalize (cond (q8 id l z.2==1) (some true) (some (q8 id l z.2==2)))=o;intro hy';cases o with
      | none=>cases hy'
      | some t =>
       rw[lP]at hy';cases t with
       | false=>cases hy';exact⟨by show 0<=z.2+1;omega,by show z.2+1<=_;omega⟩
       | true =>
        rw[cT]at hy';cases hs:shl .i64 1 z.2 with
        | none=>rw[hs]at hy';cases hy'
        | some q=>rw[hs]at hy';cases hy';exact⟨by show 0<=z.2+1;omega,by show z.2+1<=_;omega⟩
    · rw[ng h1,mG h2]at hy';cases hy'
  · rw[mG h1]at hy';cases hy') (x:=(0,0)) ⟨by decide,by decide⟩,h1]
 rfl
def p5 (c:Nat) (p:Int):Bool:=cond (m3 p 0 7) (match shr .i64 (c:Int) p with|some t=>(ox .i64 t 1)==1|none=>false) false
theorem FS (c:Nat) (p:Int):ac (c:Int) p=some (p5 c p):=by
 unfold ac p5;rw[rm,lP];cases h:m3 p 0 7 with
 | false=>rfl
 | true =>
  obtain⟨k,hk,rfl⟩:=An (n:=8) h;rw[vo (by omega),cT,cT];have:∃t,shr .i64 (c:Int) (k:Int)=some t:=by unfold shr;rw[if_neg (by omega)];exact⟨_,rfl⟩
  obtain⟨t,ht⟩:=this;rw[ht];rfl
theorem FT {c:Nat} (hc:c<64) (p:Int):a9 (c:Int) p=some (p5 c p):=by
 unfold a9 p5;rw[qG,lP];cases h:m3 p 0 62 with
 | false =>
  have h7:m3 p 0 7=false:=by
   cases h7:m3 p 0 7 with
   | false=>rfl
   | true =>
    obtain⟨k,hk,rfl⟩:=An (n:=8) h7;have:m3 (k:Int) 0 ((63:Nat)-1:Int)=true:=yh (by omega)
    exact absurd (h.symm.trans this) (by decide)
  rw[h7];rfl
 | true =>
  obtain⟨k,hk,rfl⟩:=An (n:=63) h;have hs:shr .i64 (c:Int) (k:Int)=some ((c:Int).fdiv (2^(min k 64))):=by unfold shr;rw[if_neg (by omega)];rfl
  rw[cT,hs,lP,lP];by_cases h7:k<8
  · rw[show m3 (k:Int) 0 7=true from yh (n:=8) h7];rfl
  · rw[show m3 (k:Int) 0 7=false from by unfold m3;rw[dF (show ¬(k:Int)<=7 by omega),Bool.and_false],cF];have hz:(c:Int).fdiv (2^(min k 64))=0:=by
     rw[Nat.min_eq_left (by omega)];have h2:(c:Int)<2^k:=by
      have:2^6<=2^k:=Nat.pow_le_pow_right (by decide) (by omega);have h3:c<2^k:=by omega
      exact_mod_cast h3
     rw[Int.fdiv_eq_ediv_of_nonneg _ (by exact_mod_cast Nat.zero_le _)];exact Int.ediv_eq_zero_of_lt (by omega) h2
    rw[hz];rfl

abbrev Hr (x:Int):Prop:=-9223372036854775808<=x/\x<=9223372036854775807
structure VT (v:mV) (n:Nat):Prop where
 p:qy v (n:Int)=true
 r:∀r∈v.1,Hr r.2.2
theorem VT.len {v:mV} {n:Nat} (h:VT v n):1<=n/\n<=6/\v.2.length=n/\v.1.length<=6:=by
 have hp:=h.p;unfold qy m3 at hp;simp only[aT,Bool.not_eq_true',Bool.or_eq_false_iff,Bool.not_eq_false',aT,decide_eq_true_eq,decide_eq_false_iff_not,bne_eq_false_iff_eq]at hp;obtain⟨⟨h1,h2,h3⟩,_⟩:=hp;omega
theorem yj {α:Type} {l:List α} {a b:Nat} (h1:a<=b) (h2:b<=l.length):cut l (a:Int) (b:Int)=some ((l.take b).drop a):=by
 unfold cut;rw[if_pos (by omega),if_pos (by omega),if_pos (by omega)];simp
theorem pK {α:Type} {xs ys:List α} (h:xs.length+ys.length<=4294967296):nn xs ys=some (xs++ys):=by
 unfold nn;rw[if_pos (show xs.length+ys.length<=tS from h)]
def lt (a b:m0):Prop:=a.1<b.1\/(a.1=b.1/\a.2.1<b.2.1)
def same (a b:m0):Prop:=a.1=b.1/\a.2.1=b.2.1
theorem lt_trans {a b c:m0} (h:lt a b) (k:lt b c):lt a c:=by unfold lt at *;omega
theorem GS {a b:m0} (h:lt a b):¬same a b:=by unfold lt same at *;omega
structure FB (l:List m0):Prop where
 e:∀x∈l,rM x=true
 o:l.Pairwise lt
 n:l.length<=12
theorem FB.ok {l:List m0} (h:FB l):qS l=true:=by
 unfold qS;have hn:=h.n
 rw[dT (show (l.length:Int)<=12 by omega),Bool.and_true,Bool.not_eq_true'];apply Bool.eq_false_iff.2;intro ha;obtain⟨k,hk,hx⟩:=any_eq_true.1 ha;have hk:=mem_range.1 hk
 unfold qM at hx;simp only[List.getElem?_eq_getElem hk,h.e _ (getElem_mem hk),Bool.not_true,Bool.false_or,aT,decide_eq_true_eq]at hx;obtain⟨h0,hx⟩:=hx;simp only[List.getElem?_eq_getElem (show k-1<l.length by omega),Bool.not_eq_true']at hx;have hl:=pairwise_iff_getElem.1 h.o (k-1) k (by omega) hk (by omega)
 unfold nu at hx;simp only[Bool.or_eq_false_iff,Bool.and_eq_false_iff,decide_eq_false_iff_not,bF]at hx;unfold lt at hl;omega
def pq (x e:m0):Bool:=cond (x.1 != e.1) (decide (x.1<e.1)) (decide (x.2.1<e.2.1))
theorem Ap {x e:m0} (h:pq x e=true):lt x e:=by
 unfold pq at h;unfold lt;by_cases hx:x.1=e.1
 · rw[show (x.1 != e.1)=false by simp[hx],cF]at h;exact .inr ⟨hx,of_decide_eq_true h⟩
 · rw[show (x.1 != e.1)=true from bne_iff_ne.2 hx,cT]at h;exact .inl (of_decide_eq_true h)
theorem D4 {x e:m0} (h:pq x e=false):lt e x\/same x e:=by
 unfold pq at h;unfold lt same;by_cases hx:x.1=e.1
 · rw[show (x.1 != e.1)=false by simp[hx],cF]at h;have:=of_decide_eq_false h
   omega
 · rw[show (x.1 != e.1)=true from bne_iff_ne.2 hx,cT]at h;have:=of_decide_eq_false h
   omega
def oP (x e:m0):Bool:=x.1 != e.1||x.2.1 != e.2.1
theorem C7 {x e:m0} (h:oP x e=true):¬same x e:=by
 unfold oP at h;unfold same;simp only[Bool.or_eq_true,bne_iff_ne]at h;omega
theorem AW {x e:m0} (h:oP x e=false):same x e:=by
 unfold oP at h;unfold same;simp only[Bool.or_eq_false_iff,bne_eq_false_iff_eq]at h;exact h
structure rj (b:lS):Prop where
 w:uC b
 ok:nL b=true
 p:∀x∈b.2.2.1,zi x=true
 id:m3 b.1 1 99=true
 name:b.2.1.length<=10
 n1:1<=b.2.2.1.length
 n6:b.2.2.1.length<=6
 f:qS b.2.2.2.1=true
 v:qy (b.2.2.2.2.1,b.2.2.2.2.2.1) (b.2.2.1.length:Int)=true
 c:pb b=true
theorem Ea {b:lS} (h:uC b) (hb:nL b=true):rj b:=by
 have hb':=hb;unfold nL at hb;simp only[aT,Bool.not_eq_true',decide_eq_false_iff_not]at hb;obtain⟨h1,h2,h3,h4,h5,h6,h7⟩:=hb;refine⟨h,hb',λx hx=>?_,h2,by omega,?_,?_,h5,h6,h7⟩
 · obtain⟨k,hk,rfl⟩:=getElem_of_mem hx;cases hp:zi b.2.2.1[k]with
   | true=>rfl
   | false =>
    have:=any_eq_false.1 h1 k (mem_range.2 hk);unfold vI at this;simp only[List.getElem?_eq_getElem hk,hp]at this;exact absurd rfl this
 · unfold m3 at h4;simp only[aT,decide_eq_true_eq]at h4;omega
 · unfold m3 at h4;simp only[aT,decide_eq_true_eq]at h4;omega
theorem rj.vt {b:lS} (h:rj b):VT (b.2.2.2.2.1,b.2.2.2.2.2.1) b.2.2.1.length:=⟨h.v,h.w.r⟩
theorem rj.f12 {b:lS} (h:rj b):b.2.2.2.1.length<=12:=by
 have hf:=h.f;unfold qS at hf;simp only[aT,decide_eq_true_eq]at hf;omega
theorem Aq {α:Type} {R:α->α->Prop} (tr:∀a b c,R a b->R b c->R a c) {l:List α} (h:∀k (hk:k+1<l.length),R l[k] l[k+1]):l.Pairwise R:=by
 rw[pairwise_iff_getElem];intro i j hi hj hij
 induction j with
 | zero=>omega
 | succ j ih =>
  by_cases e:i=j
  · subst e;exact h i hj
  · exact tr _ _ _ (ih (by omega) (by omega)) (h j hj)
theorem D5 {b:lS} (h:rj b):b.2.2.2.2.1.Pairwise λr s=>r.1<s.1:=by
 refine Aq (R:=λ(r s:nC)=>r.1<s.1) (λ_ _ _ h k=>Int.lt_trans h k) λk hk=>?_;have hv:=h.v
 unfold qy at hv;simp only[aT,Bool.not_eq_true']at hv;have hx:=any_eq_false.1 hv.2.1 (k+1) (mem_range.2 hk)
 unfold tb at hx;simp only[List.getElem?_eq_getElem hk,Nat.add_sub_cancel,List.getElem?_eq_getElem (show k<b.2.2.2.2.1.length by omega),Bool.or_eq_true,aT,decide_eq_true_eq,not_or,not_and]at hx;have:=hx.2.1 (by omega)
 omega
theorem Hs {n a c:Int} (h1:a<=n) (h2:n<=c):m3 n a c=true:=by unfold m3;rw[dT (by omega),dT (by omega)];rfl
theorem pX {α:Type} {ys:List α} (h:ys.length<=M):nn [] ys=some ys:=by
 unfold nn;rw[if_pos (by show 0+ys.length<=4294967296;have h':ys.length<=1048576:=h;omega)];rfl
theorem DL {l:List Int} (h:l.length<=M):cU l=some l:=by unfold cU;rw[pX h];rfl
theorem D6 {l:List Int} (h:l.length<=M):cX l=some l:=by unfold cX;rw[pX h];rfl
theorem rE {l:List m0} (h:l.length<=M):av l=some l:=by unfold av;rw[pX h];rfl
theorem Ar {l:List m0} (h:l.length<=M):bC l=some l:=by unfold bC;rw[pX h];rfl
theorem DM {v:mV} (h:v.1.length<=M/\v.2.length<=M):cV v=some v:=by
 unfold cV;rw[pX h.1,lP,DL h.2];rfl
theorem D7 {v:mV} (h:v.1.length<=M/\v.2.length<=M):cz v=some v:=by
 unfold cz;rw[pX h.1,lP,pX h.2];rfl
theorem sm {b:lS} (h:tO M b):bQ b=some b:=by
 obtain⟨h1,h2,h3,h4,h5⟩:=h;unfold bQ;rw[pX h2,lP,rE h3,lP,DM ⟨h4,h5⟩];rfl
theorem u6 {b:lS} (h:tO M b):bD b=some b:=by
 obtain⟨h1,h2,h3,h4,h5⟩:=h;unfold bD;rw[pX h2,lP,Ar h3,lP,D7 ⟨h4,h5⟩];rfl
theorem C8 {b:lS} (h:Cs.wf mb b) (hl:tO M b):uC b:=by
 obtain⟨_,l2,l3,l4,l5⟩:=hl;have hM:M<9223372036854775807:=by decide
 refine⟨by omega,by omega,by omega,by omega,λr hr=>?_⟩;simp only[mb,Cs.wf,CT.wf]at h;obtain⟨_,_,_,_,h4,_⟩:=h;have:=(h4.2 r hr).2.2
 exact this
def tQ (l:List nC) (id:Int):Int:=match l.findIdx? (λr=>r.1==id)with|some k=>(k:Int)|none=>-1
theorem As {v:mV} (hn:v.1.length<9223372036854775807) (id:Int):aa v id=some (tQ v.1 id):=by
 unfold aa tQ;obtain⟨b,h1,rfl⟩:=nl (β:=Unit⊕Int) (step:=λz=>aK v id z) (λk i=>i=(k:Int)/\∀j (hj:j<k),∀(hl:j<v.1.length),¬((v.1[j].1==id)=true)) v.1.length (λb=>b=match v.1.findIdx? (λr=>r.1==id)with|some k=>.inr (k:Int)|none=>.inl ())
  (λk i hk ⟨h,hy⟩=>by
   subst h;unfold aK;rw[ng (by omega),cT,md hk,lP];cases hb:(v.1[k].1==id)with
   | true =>
    refine .inr ⟨_,rfl,?_⟩;rw[List.findIdx?_eq_some_iff_getElem.2 ⟨hk,hb,λj hj=>hy j hj (by omega)⟩]
   | false =>
    refine .inl ⟨_,rfl,me (by omega),λj hj hl=>?_⟩;by_cases hjk:j=k
    · subst hjk;rw[hb];simp
    · exact hy j (by omega) hl)
  (λi ⟨h,hy⟩=>by
   subst h;refine⟨.inl (),by unfold aK;rw[mG (by omega),cF],?_⟩;rw[List.findIdx?_eq_none_iff.2 λx hx=>by
    obtain⟨j,hj,rfl⟩:=getElem_of_mem hx;have:=hy j hj hj
    simpa using this]) (x:=0) ⟨rfl,λj hj=>by omega⟩
 rw[h1,lP];cases v.1.findIdx? (λr=>r.1==id)<;>rfl
theorem C9 {l:List nC} {id:Int} (h:0<=tQ l id):∃k,∃hk:k<l.length,tQ l id=(k:Int)/\l[k].1=id:=by
 unfold tQ at h ⊢;cases hf:l.findIdx? (λr=>r.1==id)with
 | none=>rw[hf]at h;simp at h
 | some k =>
  obtain⟨hk,h1,_⟩:=List.findIdx?_eq_some_iff_getElem.1 hf;exact⟨k,hk,rfl,by simpa using h1⟩
def vp (l:List m0) (tag mac:Int):Int:=match l.findIdx? (λe=>e.1==tag&&e.2.1==mac)with|some k=>(k:Int)|none=>-1
theorem uE {l:List m0} (hn:l.length<9223372036854775807) (tag mac:Int):bn l tag mac=some (vp l tag mac):=by
 unfold bn vp;obtain⟨b,h1,rfl⟩:=nl (β:=Unit⊕Int) (step:=λz=>aL l tag mac z) (λk i=>i=(k:Int)/\∀j (hj:j<k),∀(hl:j<l.length),¬((l[j].1==tag&&l[j].2.1==mac)=true)) l.length (λb=>b=match l.findIdx? (λe=>e.1==tag&&e.2.1==mac)with|some k=>.inr (k:Int)|none=>.inl ())
  (λk i hk ⟨h,hy⟩=>by
   subst h;have hs:aL l tag mac (k:Int)=cond (l[k].1==tag&&l[k].2.1==mac) (some (.inr (.inr (k:Int)))) (some (.inl ((k+1:Nat):Int))):=by
    unfold aL;simp only[ng (show (k:Int)<(l.length:Int) by omega),cT,md hk,lP,me (show k<9223372036854775807 by omega)];cases l[k].1==tag<;>rfl
   show (∃y,aL l tag mac (k:Int)=some (.inl y)/\_)\/∃b,aL l tag mac (k:Int)=some (.inr b)/\_;rw[hs];cases hb:(l[k].1==tag&&l[k].2.1==mac)with
   | true =>
    refine .inr ⟨_,rfl,?_⟩;rw[List.findIdx?_eq_some_iff_getElem.2 ⟨hk,hb,λj hj=>hy j hj (by omega)⟩]
   | false =>
    refine .inl ⟨_,rfl,rfl,λj hj hl=>?_⟩;by_cases hjk:j=k
    · subst hjk;rw[hb];simp
    · exact hy j (by omega) hl)
  (λi ⟨h,hy⟩=>by
   subst h;refine⟨.inl (),by unfold aL;rw[mG (by omega),cF],?_⟩;rw[List.findIdx?_eq_none_iff.2 λx hx=>by
    obtain⟨j,hj,rfl⟩:=getElem_of_mem hx;have:=hy j hj hj
    simpa using this]) (x:=0) ⟨rfl,λj hj=>by omega⟩
 rw[h1,lP];cases l.findIdx? (λe=>e.1==tag&&e.2.1==mac)<;>rfl
theorem Bg {l:List m0} (hn:l.length<9223372036854775807) (tag mac:Int):bI l tag mac=some (vp l tag mac):=by
 unfold bI vp;obtain⟨b,h1,rfl⟩:=nl (β:=Unit⊕Int) (step:=λz=>aD l tag mac z) (λk i=>i=(k:Int)/\∀j (hj:j<k),∀(hl:j<l.length),¬((l[j].1==tag&&l[j].2.1==mac)=true)) l.length (λb=>b=match l.findIdx? (λe=>e.1==tag&&e.2.1==mac)with|some k=>.inr (k:Int)|none=>.inl ())
  (λk i hk ⟨h,hy⟩=>by
   subst h;have hs:aD l tag mac (k:Int)=cond (l[k].1==tag&&l[k].2.1==mac) (some (.inr (.inr (k:Int)))) (some (.inl ((k+1:Nat):Int))):=by
    unfold aD;simp only[ng (show (k:Int)<(l.length:Int) by omega),cT,md hk,lP,me (show k<9223372036854775807 by omega)];cases l[k].1==tag<;>rfl
   show (∃y,aD l tag mac (k:Int)=some (.inl y)/\_)\/∃b,aD l tag mac (k:Int)=some (.inr b)/\_;rw[hs];cases hb:(l[k].1==tag&&l[k].2.1==mac)with
   | true =>
    refine .inr ⟨_,rfl,?_⟩;rw[List.findIdx?_eq_some_iff_getElem.2 ⟨hk,hb,λj hj=>hy j hj (by omega)⟩]
   | false =>
    refine .inl ⟨_,rfl,rfl,λj hj hl=>?_⟩;by_cases hjk:j=k
    · subst hjk;rw[hb];simp
    · exact hy j (by omega) hl)
  (λi ⟨h,hy⟩=>by
   subst h;refine⟨.inl (),by unfold aD;rw[mG (by omega),cF],?_⟩;rw[List.findIdx?_eq_none_iff.2 λx hx=>by
    obtain⟨j,hj,rfl⟩:=getElem_of_mem hx;have:=hy j hj hj
    simpa using this]) (x:=0) ⟨rfl,λj hj=>by omega⟩
 rw[h1,lP];cases l.findIdx? (λe=>e.1==tag&&e.2.1==mac)<;>rfl

structure tR (b:lS):Prop where
 id:m3 b.1 1 99=true
 name:b.2.1.length<=10
 n1:1<=b.2.2.1.length
 n6:b.2.2.1.length<=6
 p:∀x∈b.2.2.1,zi x=true
 f:qS b.2.2.2.1=true
 c:pb b=true
 q:b.2.2.2.2.2.1.length=b.2.2.1.length
 v:b.2.2.2.2.1.length<=6
 s:b.2.2.2.2.1.Pairwise λr s=>r.1<s.1
 i:∀r∈b.2.2.2.2.1,m3 r.1 1 99=true
 h:∀r∈b.2.2.2.2.1,-9223372036854775808<=r.2.2/\r.2.2<=9223372036854775807
theorem tR.f12 {b:lS} (h:tR b):b.2.2.2.1.length<=12:=by
 have hf:=h.f;unfold qS at hf;simp only[aT,decide_eq_true_eq]at hf;omega
theorem tR.le {b:lS} (h:tR b):tO M b:=by
 have h1:=h.name;have h2:=h.n6;have h3:=h.f12;have h4:=h.v;have h5:=h.q
 have hM:M=1048576:=rfl;exact⟨by omega,by omega,by omega,by omega,by omega⟩
theorem rj.sok {b:lS} (h:rj b):tR b:=by
 obtain⟨v1,v2,v3,v4⟩:=h.vt.len;refine⟨h.id,h.name,h.n1,h.n6,h.p,h.f,h.c,v3,v4,D5 h,λr hr=>?_,h.w.r⟩;obtain⟨k,hk,rfl⟩:=getElem_of_mem hr;have hv:=h.v
 unfold qy at hv;simp only[aT,Bool.not_eq_true']at hv;have hx:=any_eq_false.1 hv.2.1 k (mem_range.2 hk)
 unfold tb at hx;simp only[List.getElem?_eq_getElem hk]at hx;cases hq:m3 b.2.2.2.2.1[k].1 1 99 with
 | true=>rfl
 | false=>rw[hq]at hx;simp at hx
theorem tR.rows {b:lS} (h:tR b) {R:List nC} (h1:R.length<=6) (h2:R.Pairwise λr s=>r.1<s.1) (h3:∀x∈R,m3 x.1 1 99=true) (h4:∀x∈R,-9223372036854775808<=x.2.2/\x.2.2<=9223372036854775807) :
 tR (b.1,b.2.1,b.2.2.1,b.2.2.2.1,R,b.2.2.2.2.2.1,b.2.2.2.2.2.2.1,b.2.2.2.2.2.2.2.1,b.2.2.2.2.2.2.2.2.1,b.2.2.2.2.2.2.2.2.2.1,b.2.2.2.2.2.2.2.2.2.2) :=
 ⟨h.id,h.name,h.n1,h.n6,h.p,h.f,h.c,h.q,h1,h2,h3,h4⟩
theorem FU {b:lS} (h:tR b):m3 (b.2.2.1.length:Int) 1 6=true:=by
 have h1:=h.n1;have h2:=h.n6
 unfold m3;rw[dT (by omega),dT (by omega)];rfl
theorem Eb {l:List m0} (h:qS l=true):FB l:=by
 unfold qS at h;simp only[aT,Bool.not_eq_true',decide_eq_true_eq]at h;refine⟨λx hx=>?_,Aq (R:=lt) (λ_ _ _=>lt_trans) λk hk=>?_,by omega⟩
 · obtain⟨k,hk,rfl⟩:=getElem_of_mem hx;have hx:=any_eq_false.1 h.1 k (mem_range.2 hk)
   unfold qM at hx;simp only[List.getElem?_eq_getElem hk,Bool.or_eq_true,not_or,Bool.not_eq_true',Bool.not_eq_false]at hx;exact hx.1
 · have hx:=any_eq_false.1 h.1 (k+1) (mem_range.2 hk);unfold qM at hx;simp only[List.getElem?_eq_getElem hk,Nat.add_sub_cancel,List.getElem?_eq_getElem (show k<l.length by omega),Bool.or_eq_true,aT,decide_eq_true_eq,not_or,not_and,Bool.not_eq_true',Bool.not_eq_false]at hx;have hp:=hx.2 (by omega)
   unfold nu at hp;simp only[Bool.or_eq_true,aT,decide_eq_true_eq,beq_iff_eq]at hp;unfold lt;omega
theorem FB.sub {l m:List m0} (h:FB l) (hs:m.Sublist l):FB m :=
 ⟨λx hx=>h.e x (hs.subset hx),h.o.sublist hs,Nat.le_trans hs.length_le h.n⟩
theorem D8:∀k:Nat,k<6->m3 (k:Int) 0 62=true/\m3 (k:Int) 0 7=true:=by
 intro k hk;unfold m3;constructor<;>(rw[dT (by omega),dT (by omega)];rfl)
theorem Ha (c:Int) {k:Nat} (hk:k<6):∃t,shr .i64 c (k:Int)=some t:=by
 unfold shr;rw[if_neg (by omega)];exact⟨_,rfl⟩
theorem yL (c:Int) {k:Nat} (hk:k<6):∃t,a9 c (k:Int)=some t/\ac c (k:Int)=some t:=by
 obtain⟨t,h⟩:=Ha c hk;unfold a9 ac;rw[qG,rm,lP,lP,(D8 k hk).1,(D8 k hk).2,cT,cT,vo (by omega),h];exact⟨_,rfl,rfl⟩
theorem Ec {n:Int} (h:m3 n 0 1000000=true):∃r,ay n=some r/\aC n=some r/\m3 r 0 1000000=true:=by
 unfold m3 at h;simp only[aT,decide_eq_true_eq]at h;unfold ay aC m3 min2;rw[ny (by omega) (by omega)];by_cases hn:n>=1000000
 · rw[dT hn,cT];refine⟨n,?_,rfl,?_⟩
   · simp only;split<;>first|rfl | (congr 1;omega)
   · simp only[aT,decide_eq_true_eq];omega
 · rw[dF hn,cF];refine⟨n+1,?_,rfl,?_⟩
   · simp only;split<;>first|rfl | (congr 1;omega)
   · simp only[aT,decide_eq_true_eq];omega
theorem tR.ok {b:lS} (h:tR b) (hv:qy (b.2.2.2.2.1,b.2.2.2.2.2.1) (b.2.2.1.length:Int)=true):nL b=true:=by
 unfold nL;have h1:(List.range b.2.2.1.length).any (vI b.2.2.1)=false:=by
  rw[any_eq_false];intro k hk;have hk:=mem_range.1 hk
  unfold vI;simp[List.getElem?_eq_getElem hk,h.p _ (getElem_mem hk)]
 have h2:=h.name;rw[h1,h.id,h.f,hv,h.c,FU h,dF (show ¬(b.2.1.length:Int)>10 by omega)];rfl
theorem vq {α β:Type} {step:α->Option (α⊕β)} {x:α} {b:β} (h:step x=some (.inr b)):loop step x=some b:=pa (k:=1) (by rw[mN,h];rfl)
theorem rj.le {b:lS} (h:rj b):tO M b:=by
 obtain⟨v1,v2,v3,v4⟩:=h.vt.len;have h1:=h.name;have h2:=h.n6;have h3:=h.f12
 have v3':b.2.2.2.2.2.1.length=b.2.2.1.length:=v3;have v4':b.2.2.2.2.1.length<=6:=v4
 have hM:M=1048576:=rfl;exact⟨by omega,by omega,by omega,by omega,by omega⟩
def Hb (m:Int):List Int:=if m3 m (-128) 127 then [m%256]else if m3 m (-32768) 32767 then [m/256%256,m%256]else if m3 m (-8388608) 8388607 then [m/65536%256,m/256%256,m%256]else [m/16777216%256,m/65536%256,m/256%256,m%256]
theorem Bh {α β:Type} {step:α->Option (α⊕β)} {x y:α} {b:β} (h:step x=some (.inl y)) (k:loop step y=some b):loop step x=some b:=by
 obtain⟨n,hn⟩:=w4 k;exact pa (k:=n+1) (by rw[mN,h];exact hn)
theorem xo {n a b:Int} (h:m3 n a b=true):a<=n/\n<=b:=by
 unfold m3 at h;simp only[aT,decide_eq_true_eq]at h;omega
def Ht (b:List Int):Prop:=∀x∈b,0<=x/\x<=255
def yM (t:Int) (body:List Int):List Int:=t::((if body.length>=128 then [129,(body.length:Int)]else [(body.length:Int)])++body)
structure wj (b:List Int) (at':Int) (t:Int) (body:List Int) (next:Int):Prop where
 ex:∃pre rest,b=pre++(yM t body++rest)/\at'=(pre.length:Int)/\next=((pre.length+(yM t body).length:Nat):Int)
 n:body.length<=250
 t:m3 t 0 255=true
 b:Ht body
def Ed (x:Int):Int:=if x>127 then x-256 else x
theorem i8 {x:Int} (hx:0<=x/\x<=255):lT (IntKind.i8.wrap x)=Ed x:=by
 have:IntKind.i8.wrap x=Ed x:=by
  show (let m:=x%256;if (true&&decide (m>=128))=true then m-256 else m)=_;unfold Ed;simp only[Bool.true_and,decide_eq_true_eq];split<;>split<;>omega
 rw[this];unfold Ed;split<;>exact ny (by omega) (by omega)
def grp (n:Int):List Int:=if n<=127 then [n]else if n<=16383 then [n/128+128,n%128]else if n<=2097151 then [n/16384+128,n/128%128+128,n%128]else [n/2097152+128,n/16384%128+128,n/128%128+128,n%128]
theorem wj.next {b:List Int} {i t:Int} {body:List Int} {next:Int} (h:wj b i t body next):0<=next/\next<=(b.length:Int):=by
 obtain⟨pre,rest,e1,e2,e3⟩:=h.ex;have:=congrArg List.length e1
 rw[length_append,length_append]at this;omega
theorem wj.cons {b P s:List Int} {i t:Int} {x:List Int} {next:Int} (h:wj b i t x next) (e:b=P++s) (hi:i=(P.length:Int)):∃s',b=(P++yM t x)++s'/\next=((P++yM t x).length:Int):=by
 obtain⟨pre,rest,e1,e2,e3⟩:=h.ex;have hl:pre.length=P.length:=by omega
 obtain⟨q1,q2⟩:=List.append_inj (e1.symm.trans e) hl;subst q1;exact⟨rest,by rw[e1,List.append_assoc],by rw[e3,length_append]⟩
def yk (n:Int):Int:=min2 (lT (n+1)) 1000000
theorem wH (n:Int):ay n=some (yk n):=rfl
theorem Bi {n:Int} (h:m3 n 0 1000000=true):m3 (yk n) 0 1000000=true:=by
 obtain⟨r,h1,_,h3⟩:=Ec h;rw[wH]at h1;cases h1;exact h3
theorem zk {b:lS} (h:nL b=true):pb b=true/\∀c,pb (b.1,b.2.1,b.2.2.1,b.2.2.2.1,b.2.2.2.2.1,b.2.2.2.2.2.1,c)=true->nL (b.1,b.2.1,b.2.2.1,b.2.2.2.1,b.2.2.2.2.1,b.2.2.2.2.2.1,c)=true:=by
 unfold nL at h ⊢;simp only[aT]at h ⊢;obtain⟨h1,h2,h3,h4,h5,h6,h7⟩:=h;exact⟨h7,λc hc=>⟨h1,h2,h3,h4,h5,h6,hc⟩⟩
theorem td {b:lS} (h:pb b=true):m3 b.2.2.2.2.2.2.1 0 1000000=true/\m3 b.2.2.2.2.2.2.2.1 0 1000000=true/\m3 b.2.2.2.2.2.2.2.2.1 0 1000000=true/\m3 b.2.2.2.2.2.2.2.2.2.1 0 1000000=true/\m3 b.2.2.2.2.2.2.2.2.2.2 0 1000000=true:=by
 unfold pb at h;simpa only[aT]using h
theorem D9 {b:lS} (h:tR b) (hl:tO M b):uC b:=by
 obtain⟨_,l2,l3,l4,l5⟩:=hl;have hM:M<9223372036854775807:=by decide
 exact⟨by omega,by omega,by omega,by omega,h.h⟩
def Au (w:List UInt8):List Int:=yM 2 (Hb 1)++yM 4 (ua w)
theorem qm {α β:Type} {o:Option α} {a:α} {k:α->Option β} {r:Option β} (h:o=some a) (hk:k a=r):o.bind k=r:=by rw[h];exact hk
theorem Bj {b:lS} (h:rj b) (p:Int):ax b p=some (m3 p 0 ((b.2.2.1.length:Int)-1)):=by
 have hn:=h.n6;unfold ax;rw[wG h.w,lP,h.ok,cT,ny (by omega) (by omega),qG];rfl
theorem wk {x:m0} {t m:Int} (h:nu x t m=true):t<x.1\/(t=x.1/\m<x.2.1):=by
 unfold nu at h;simp only[Bool.or_eq_true,aT,decide_eq_true_eq,beq_iff_eq]at h;rcases h with h|⟨h1,h2⟩
 · exact .inl h
 · exact .inr ⟨h1.symm,h2⟩
theorem yl {x:m0} {t m:Int} (h:nu x t m=false) (hs:¬(x.1=t/\x.2.1=m)):x.1<t\/(x.1=t/\x.2.1<m):=by
 have h':¬(x.1>t\/(x.1=t/\x.2.1>m)):=by
  intro hc;have:nu x t m=true:=by
   unfold nu;simp only[Bool.or_eq_true,aT,decide_eq_true_eq,beq_iff_eq];exact hc
  rw[this]at h;cases h
 by_cases h1:x.1<t
 · exact .inl h1
 · have e:x.1=t:=by
    have:¬x.1>t:=λhc=>h' (.inl hc);omega
   refine .inr ⟨e,?_⟩;have:¬x.2.1>m:=λhc=>h' (.inr ⟨e,hc⟩)
   have:x.2.1≠m:=λhc=>hs ⟨e,hc⟩;omega
theorem EU {a b c:m0} (h:lt a b) (k:lt b c):lt a c:=by
 unfold lt at *;omega
theorem pY (l:List m0) (t m:Int):(vp l t m = -1/\∀x∈l,¬(x.1=t/\x.2.1=m))\/∃k,∃hk:k<l.length,vp l t m=(k:Int)/\l[k].1=t/\l[k].2.1=m:=by
 unfold vp;cases h:l.findIdx? (λe=>e.1==t&&e.2.1==m)with
 | none =>
  refine .inl ⟨rfl,λx hx hc=>?_⟩;have:=List.findIdx?_eq_none_iff.1 h x hx
  rw[hc.1,hc.2]at this;simp at this
 | some k =>
  obtain⟨hk,h1,_⟩:=List.findIdx?_eq_some_iff_getElem.1 h;simp only[aT,beq_iff_eq]at h1;exact .inr ⟨k,hk,rfl,h1.1,h1.2⟩
theorem Hc {l:List m0} (h:FB l) {e:m0} (he:rM e=true):∃y,aM l e=some y/\FB y.1:=by
 have hn:=h.n;have hM:M=1048576:=rfl
 unfold aM;rw[rE (by omega),lP,uE (by omega),lP];rcases pY l e.1 e.2.1 with ⟨h1,h2⟩|⟨k,hk,h1,h2,h3⟩
 · rw[h1,dF (by decide),cF];by_cases h12:(l.length:Int)>=12
   · rw[dT h12,cT];exact⟨_,rfl,h⟩
   · rw[dF h12,cF];obtain⟨d,d1,k,d2,d3,d4,d5⟩:=nl (step:=λz:Int=>af l e z) (λk z=>z=(k:Int)/\∀x∈l.take k,nu x e.1 e.2.1=false) l.length (λd=>∃k:Nat,d=(k:Int)/\k<=l.length/\(∀x∈l.take k,nu x e.1 e.2.1=false)/\∀hk:k<l.length,nu l[k] e.1 e.2.1=true)
      (λk z hk ⟨e1,e2⟩=>by
       subst e1;have hst:∀q,nu l[k] e.1 e.2.1=q->af l e (k:Int)=cond (!q) (some (.inl ((k+1:Nat):Int))) (some (.inr (k:Int))):=λq hq=>by
        unfold af;rw[ng (by omega),cT,md hk,lP,yK,lP,lP,hq,me (by omega)]
       cases hq:nu l[k] e.1 e.2.1 with
       | true=>exact .inr ⟨_,hst true hq,k,rfl,by omega,e2,λ_=>hq⟩
       | false =>
        refine .inl ⟨_,hst false hq,rfl,λx hx=>?_⟩;rw[take_add_one,List.getElem?_eq_getElem hk]at hx;rcases mem_append.1 hx with hx|hx
        · exact e2 x hx
        · simp at hx;rw[hx];exact hq)
      (λz ⟨e1,e2⟩=>by
       subst e1;refine⟨_,?_,l.length,rfl,Nat.le_refl _,e2,λhk=>absurd hk (by omega)⟩;show af l e (l.length:Int)=_
       unfold af;rw[mG (by omega),cF,lP,cF]) (x:=0) ⟨rfl,by simp⟩
     subst d2;have c1:cut l 0 (k:Int)=some (l.take k):=by
      have:=yj (l:=l) (a:=0) (b:=k) (by omega) d3;simpa using this
     have c2:cut l (k:Int) (l.length:Int)=some (l.drop k):=by
      have:=yj (l:=l) (a:=k) (b:=l.length) d3 (Nat.le_refl _);rw[take_length]at this;exact this
     have hl1:(l.take k).length<=12:=by rw[length_take];omega
     have hl2:(l.drop k).length<=12:=by rw[length_drop];omega
     refine⟨_,qm d1 (by rw[c1,lP,rE (by omega),lP,pK (by show (l.take k).length+1<=_;omega),lP,c2,lP,pK (by rw[length_append];show (l.take k).length+1+(l.drop k).length<=_;omega),lP]),?_⟩;refine⟨λx hx=>?_,?_,?_⟩
     · rcases mem_append.1 hx with hx|hx
       · rcases mem_append.1 hx with hx|hx
         · exact h.e x (List.mem_of_mem_take hx)
         · rw[mem_singleton.1 hx];exact he
       · exact h.e x (List.mem_of_mem_drop hx)
     · have ho:=h.o;rw[←List.take_append_drop k l]at ho;obtain⟨o1,o2,o3⟩:=List.pairwise_append.1 ho;have a1:∀x∈l.take k,lt x e:=λx hx=>yl (d4 x hx) (h2 x (List.mem_of_mem_take hx))
       have a2:∀y∈l.drop k,lt e y:=λy hy=>by
        obtain⟨j,hj,rfl⟩:=getElem_of_mem hy;rw[length_drop]at hj;have hk:k<l.length:=by omega
        have hb:lt e l[k]:=wk (d5 hk);rw[List.getElem_drop];rcases Nat.eq_zero_or_pos j with rfl|hj0
        · simpa using hb
        · exact EU hb (pairwise_iff_getElem.1 h.o k (k+j) hk (by omega) (by omega))
       refine List.pairwise_append.2 ⟨List.pairwise_append.2 ⟨o1,List.pairwise_singleton _ _,λx hx y hy=>by rw[mem_singleton.1 hy];exact a1 x hx⟩,o2,λx hx y hy=>?_⟩;rcases mem_append.1 hx with hx|hx
       · exact o3 x hx y hy
       · rw[mem_singleton.1 hx];exact a2 y hy
     · simp only[length_append,length_take,length_drop,List.length_singleton];omega
 · rw[h1,dT (by omega),cT,p4 hk,lP,List.getElem?_eq_getElem hk,lP];refine⟨_,rfl,λx hx=>?_,?_,by show (l.set k e).length<=12;rw[length_set];exact hn⟩
   · rcases List.mem_or_eq_of_mem_set hx with hx|rfl
     · exact h.e x hx
     · exact he
   · have ho:=pairwise_iff_getElem.1 h.o;refine pairwise_iff_getElem.2 λi j hi hj hij=>?_;rw[length_set]at hi hj;have:=ho i j hi hj hij
     simp only[List.getElem_set];unfold lt at this ⊢;split<;>split<;>rename_i q1 q2<;>(try subst q1)<;>(try subst q2)<;>omega
theorem Da {l:List m0} (h:FB l) (tag mac port:Int):∃y,bo l tag mac port=some y/\FB y:=by
 have hn:=h.n;have hM:M=1048576:=rfl
 unfold bo;rw[uE (by omega),lP,DJ (by omega),lP,h.ok,Bool.not_true,cF,zA,lP,lP];have hc:∃y,((av l).bind λt41=>some t41)=some y/\FB y:=⟨l,by rw[rE (by omega)];rfl,h⟩
 cases he:rM (tag,mac,port,0,false)with
 | false=>exact hc
 | true =>
  have hp:∃y,((aM l (tag,mac,port,0,false)).bind λt45=>some t45.1)=some y/\FB y:=by
   obtain⟨y,y1,y2⟩:=Hc h he;exact⟨y.1,by rw[y1];rfl,y2⟩
  rw[Bool.not_true,cF];rcases pY l tag mac with ⟨h1,_⟩|⟨k,hk,h1,_⟩
  · rw[h1,dF (by decide),cF,lP,lP,cF];exact hp
  · rw[h1,dT (by omega),cT,md hk,lP,lP,lP];cases l[k].2.2.2.2 with
    | true=>exact hc
    | false=>exact hp

def uF (f:mO):Bool:=m3 f.1 0 9999&&(m3 f.2.1 1 9999&&(m3 f.2.2.1 0 99&&decide ((f.2.2.2.length:Int)<=20)))
theorem Db (f:mO):bV f=some (uF f):=by
 unfold bV uF;simp only[qG,lP];cases m3 f.1 0 9999<;>cases m3 f.2.1 1 9999<;>cases m3 f.2.2.1 0 99<;>rfl
theorem xp (l:List nC) (id:Int):(tQ l id<0)\/∃k,∃hk:k<l.length,tQ l id=(k:Int):=by
 by_cases h:tQ l id<0
 · exact .inl h
 · obtain⟨k,hk,e,_⟩:=C9 (l:=l) (id:=id) (by omega);exact .inr ⟨k,hk,e⟩
theorem Dc {v:mV} (h1:v.1.length<=6) (h2:v.2.length<=6) {k:Nat} (hk:k<6) (id:Int):∃t,((aa v id).bind λt27=>(cond (decide (t27<0)) (some true) ((at? v.1 t27).bind λx34=>(a9 x34.2.1 (k:Int)).bind λt38=>some (!t38))).bind λt40=>cond t40 (some ((0:Int),false)) (some (id,true)))=some t:=by
 rw[As (by omega),lP];rcases xp v.1 id with h|⟨j,hj,e⟩
 · rw[dT h,cT,lP,cT];exact⟨_,rfl⟩
 · obtain⟨t,ht,_⟩:=yL v.1[j].2.1 hk;rw[e,dF (by omega),cF,md hj,lP,ht,lP,lP];cases t<;>exact⟨_,rfl⟩
theorem Dd {v:mV} (h1:v.1.length<=6) (h2:v.2.length<=6) {k:Nat} (hk:k<v.2.length) (tag:Int):∃t,bm v (k:Int) tag=some t:=by
 unfold bm;rw[ny (by omega) (by omega),qG,lP,Hs (by omega) (by omega),Bool.not_true,cF];cases tag==0 with
 | true=>rw[cT,md hk,lP];exact Dc h1 h2 (by omega) _
 | false=>rw[cF];exact Dc h1 h2 (by omega) _
theorem Bk {v:mV} (h1:v.1.length<=6) (id:Int):∃t,ao v id=some t:=by
 unfold ao;rw[As (by omega),lP];rcases xp v.1 id with h|⟨j,hj,e⟩
 · rw[dT h,cT];exact⟨_,rfl⟩
 · rw[e,dF (by omega),cF,md hj,lP];exact⟨_,rfl⟩
theorem De {v:mV} (h1:v.1.length<=6) (id:Int) {k:Nat} (hk:k<6):∃t,ap v id (k:Int)=some t:=by
 unfold ap;rw[As (by omega),lP];rcases xp v.1 id with h|⟨j,hj,e⟩
 · rw[dT h,cT,lP,cT];exact⟨_,rfl⟩
 · obtain⟨t,ht,_⟩:=yL v.1[j].2.2 hk;rw[e,dF (by omega),cF,md hj,lP,ht,lP,lP];cases t<;>exact⟨_,rfl⟩
theorem GT {l:List m0} (h:l.length<=12) (tag mac:Int):∃t,bp l tag mac=some t:=by
 unfold bp;rw[uE (by omega),lP];rcases pY l tag mac with ⟨h1,_⟩|⟨k,hk,h1,_⟩
 · rw[h1];exact⟨_,rfl⟩
 · rw[h1,dF (by omega),cF,md hk,lP];exact⟨_,rfl⟩
theorem FV {f:mO} (h:f.2.2.2.length<=20) (t:Int):aN f t=some (f.1,f.2.1,t,f.2.2.2):=by
 unfold aN;rw[D6 (by show _<=1048576;omega)];rfl
theorem FW {b:lS} (h:rj b) (i:Int) {f:mO} (hf:f.2.2.2.length<=20) (c:Int) (cl:Int×Bool) (q:Int->Option Bool) (hq:∀k,∃t,q k=some t) {k:Nat} (hk:k<b.2.2.1.length) {out:List ne} (ho:out.length<=10) :
 ∃o:List ne,o.length<=out.length+1/\(((cond ((k:Int) != i) ((ao (b.2.2.2.2.1,b.2.2.2.2.2.1) cl.1).bind λt89=>(a9 (ox .i64 c t89) (k:Int)).bind λt92=>some t92) (some false)).bind λt93 =>
  (cond t93 ((q (k:Int)).bind λt101=>some t101) (some false)).bind λt102 =>
  cond t102 ((ap (b.2.2.2.2.1,b.2.2.2.2.2.1) cl.1 (k:Int)).bind λt110=>(aN f t110).bind λt111=>(nn out [((k:Int),t111.1,t111.2.1,t111.2.2.1,t111.2.2.2)]).bind λzs114=>some (.inl (lT ((k:Int)+1),zs114)))
   (some (.inl (lT ((k:Int)+1),out)))):Option ((Int×List ne)⊕List ne))=some (.inl (((k+1:Nat):Int),o)):=by
 have s:=h.sok;have hv:=s.v
 have hn:=h.n6;obtain⟨e,he⟩:=Bk (v:=(b.2.2.2.2.1,b.2.2.2.2.2.1)) hv cl.1;obtain⟨t,ht,_⟩:=yL (ox .i64 c e) (k:=k) (by omega);obtain⟨u,hu⟩:=hq (k:Int);obtain⟨g,hg⟩:=De (v:=(b.2.2.2.2.1,b.2.2.2.2.2.1)) hv cl.1 (k:=k) (by omega);have no:∃o:List ne,o.length<=out.length+1/\(some (.inl (lT ((k:Int)+1),out)):Option ((Int×List ne)⊕List ne))=some (.inl (((k+1:Nat):Int),o)):=⟨out,by omega,by rw[me (by omega)]⟩
 rw[me (by omega)]at no ⊢;rw[he,lP,ht,lP,hu,lP,hg,lP,FV hf,lP,pK (by show out.length+1<=_;omega),lP];cases (k:Int) != i<;>cases t<;>cases u<;>first|exact no|exact⟨_,by rw[length_append];exact Nat.le_refl _,rfl⟩
theorem Bl {b:lS} (hn:b.2.2.1.length<=6) (step:Int×List ne->Option ((Int×List ne)⊕List ne))
 (hs:∀(k:Nat) (out:List ne),k<b.2.2.1.length->out.length<=10->∃o:List ne,o.length<=out.length+1/\step ((k:Int),out)=some (.inl (((k+1:Nat):Int),o)))
 (he:∀out:List ne,step ((b.2.2.1.length:Int),out)=some (.inr out)):∃o:List ne,loop step (0,[])=some o/\o.length<=6:=by
 obtain⟨v,h1,h2⟩:=nl (step:=step) (λk z=>z.1=(k:Int)/\z.2.length<=k) b.2.2.1.length (λv=>v.length<=6)
  (λk z hk ⟨e1,e2⟩=>by
   obtain⟨i,out⟩:=z;simp only at e1 e2;subst e1;obtain⟨o,o1,o2⟩:=hs k out hk (by omega);exact .inl ⟨_,o2,rfl,by show o.length<=k+1;omega⟩)
  (λz ⟨e1,e2⟩=>by
   obtain⟨i,out⟩:=z;simp only at e1 e2;subst e1;exact⟨out,he out,by omega⟩) (x:=(0,[])) ⟨rfl,Nat.le_refl _⟩
 exact⟨v,h1,h2⟩
theorem Df {b:lS} (s:tR b) {F:List m0} (hF:FB F) {d v:Int} (hd:m3 d 0 1000000=true) (hv:m3 v 0 1000000=true):tR (b.1,b.2.1,b.2.2.1,F,b.2.2.2.2.1,b.2.2.2.2.2.1,b.2.2.2.2.2.2.1,b.2.2.2.2.2.2.2.1,b.2.2.2.2.2.2.2.2.1,d,v):=by
 refine⟨s.id,s.name,s.n1,s.n6,s.p,hF.ok,?_,s.q,s.v,s.s,s.i,s.h⟩;obtain⟨q1,q2,q3,q4,q5⟩:=td s.c;unfold pb;simp only[aT];exact⟨q1,q2,q3,hd,hv⟩
theorem FX {n:Int} (h:m3 n 0 1000000=true):aC n=some (yk n):=by
 obtain⟨r,r1,r2,_⟩:=Ec h;rw[r2,←r1,wH]
theorem Dg {α β:Type} {f g:α->Option (α⊕β)} (mj:Nat->α->Prop) (m:Nat) (h:∀k x,k<m->mj k x->∃y,f x=some (.inl y)/\g x=some (.inl y)/\mj (k+1) y) (he:∀x,mj m x->∃b,f x=some (.inr b)/\g x=some (.inr b)) {x:α} (h0:mj 0 x):∃b,loop f x=some b/\loop g x=some b:=by
 have key:∀n k x,k+n=m->mj k x->∃b,ob f (n+1) x=some b/\ob g (n+1) x=some b:=by
  intro n
  induction n with
  | zero =>
   intro k x hk hx;obtain rfl:k=m:=by omega
   obtain⟨b,h1,h2⟩:=he x hx;exact⟨b,by rw[mN,h1];rfl,by rw[mN,h2];rfl⟩
  | succ n ih =>
   intro k x hk hx;obtain⟨y,h1,h2,h3⟩:=h k x (by omega) hx;obtain⟨b,h4,h5⟩:=ih (k+1) y (by omega) h3;exact⟨b,by rw[mN,h1];exact h4,by rw[mN,h2];exact h5⟩
 obtain⟨b,h1,h2⟩:=key m 0 x (by omega) h0;exact⟨b,pa h1,pa h2⟩
theorem GU {b:lS} (h:uC b) (hp:nL b=false) (i:Int):ax b i=some false:=by
 unfold ax;rw[wG h,lP,hp];rfl
def oS (e:m0):Bool->List m0->List m0
 | false,[]=>[e]
 | true,[]=>[]
 | false,x::t=>if pq x e=true then x::oS e false t else e::(if oP x e=true then x::oS e true t else oS e true t)
 | true,x::t=>if oP x e=true then x::oS e true t else oS e true t
theorem Av {x e:m0} (h:lt x e):pq x e=true:=by
 cases hb:pq x e with
 | true=>rfl
 | false =>
  exfalso;have:=D4 hb
  unfold lt same at *;omega
theorem zl {x e:m0} (h:lt e x\/same x e):pq x e=false:=by
 cases hb:pq x e with
 | false=>rfl
 | true =>
  exfalso;have:=Ap hb
  unfold lt same at *;omega
theorem xq {x e:m0} (h:¬same x e):oP x e=true:=by
 cases hb:oP x e with
 | true=>rfl
 | false=>exact absurd (AW hb) h
theorem Dh {x e:m0} (h:same x e):oP x e=false:=by
 cases hb:oP x e with
 | false=>rfl
 | true=>exact absurd h (C7 hb)
theorem wl {e:m0}:∀{l:List m0},(∀x∈l,¬same x e)->oS e true l=l
 | [],_=>rfl
 | x::t,h=>by
  unfold oS;rw[if_pos (xq (h x (by simp))),wl λy hy=>h y (mem_cons_of_mem _ hy)]
theorem Aw {e:m0}:∀{l:List m0} {k:Nat} (hk:k<l.length),l.Pairwise lt->same l[k] e->oS e false l=l.set k e
 | x::t,0,_,hp,hs=>by
  have hs':same x e:=hs;unfold oS;rw[if_neg (by rw[zl (.inr hs')];simp),if_neg (by rw[Dh hs'];simp),wl λy hy=>by
   have:=(pairwise_cons.1 hp).1 y hy;unfold lt same at *;omega]
  rfl
 | x::t,k+1,hk,hp,hs=>by
  have hs':same (t[k]'(by simpa using hk)) e:=hs;have:=(pairwise_cons.1 hp).1 _ (getElem_mem (by simpa using hk:k<t.length))
  unfold oS;rw[if_pos (Av (by unfold lt same at *;omega)),Aw (by simpa using hk) (pairwise_cons.1 hp).2 hs'];rfl
theorem Bm {e:m0}:∀{l:List m0} {d:Nat},l.Pairwise lt->(∀x∈l,¬same x e)->(∀x∈l.take d,lt x e)->(∀x,l[d]?=some x->lt e x)->oS e false l=l.take d++e::l.drop d
 | [],d,_,_,_,_=>by simp[oS]
 | x::t,0,hp,hn,_,h2=>by
  unfold oS;rw[if_neg (by rw[zl (.inl (h2 x rfl))];simp),if_pos (xq (hn x (by simp))),wl λy hy=>hn y (mem_cons_of_mem _ hy)];rfl
 | x::t,d+1,hp,hn,h1,h2=>by
  unfold oS;rw[if_pos (Av (h1 x (by simp))),Bm (d:=d) (pairwise_cons.1 hp).2 (λy hy=>hn y (mem_cons_of_mem _ hy)) (λy hy=>h1 y (by rw[List.take_succ_cons];exact mem_cons_of_mem _ hy)) (λy hy=>h2 y (by simpa using hy))];rfl
theorem GV {l:List m0} (hn:l.length<=1000) (e:m0):cH l e=some (oS e false l):=by
 obtain⟨d,hd,g⟩:=nl (step:=λz:Bool×Int×List m0=>aE l e z.1 z.2.1 z.2.2)
  (λk z=>z.2.1=(k:Int)/\z.2.2++oS e z.1 (l.drop k)=oS e false l/\z.2.2.length<=2*k) l.length
  (λz=>z.2++oS e z.1 []=oS e false l/\z.2.length<=2000)
  (λk z hk ⟨z1,z2,z3⟩=>by
   obtain⟨t,i,b⟩:=z;simp only at z1 z2 z3;subst z1;left;have ha:∀(xs:List m0) (y:m0),xs.length<=2001->nn xs [y]=some (xs++[y]):=λxs y h=>pK (by show xs.length+1<=_;omega)
   have hs:aE l e t (k:Int) b=cond (!t&&!(pq l[k] e))
    (cond (oP l[k] e) (some (.inl (true,((k+1:Nat):Int),b++[e]++[l[k]]))) (some (.inl (true,((k+1:Nat):Int),b++[e]))))
    (cond (oP l[k] e) (some (.inl (t,((k+1:Nat):Int),b++[l[k]]))) (some (.inl (t,((k+1:Nat):Int),b)))):=by
    have hA:aq l[k] e.1 e.2.1=some (pq l[k] e):=by unfold aq pq;cases (l[k].1 != e.1)<;>rfl
    have hO:(cond (l[k].1 != e.1) (some true) (some (l[k].2.1 != e.2.1)))=some (oP l[k] e):=by unfold oP;cases (l[k].1 != e.1)<;>rfl
    unfold aE;simp only[ng (show (k:Int)<(l.length:Int) by omega),cT,md hk,lP,me (show k<9223372036854775807 by omega),hA,hO,ha b e (by omega),ha b l[k] (by omega),ha (b++[e]) l[k] (by rw[length_append];show b.length+1<=_;omega)];cases t<;>cases pq l[k] e<;>rfl
   show ∃y,aE l e t (k:Int) b=_/\_;rw[hs];have hd:l.drop k=l[k]::l.drop (k+1):=List.drop_eq_getElem_cons hk
   rw[hd]at z2;generalize hG:oS e false l=G at z2 ⊢;cases t with
   | true =>
    unfold oS at z2;rw[Bool.not_true,Bool.false_and,cF];cases ho:oP l[k] e with
    | true =>
     rw[if_pos ho]at z2;exact⟨_,rfl,rfl,by simpa using z2,by simp;omega⟩
    | false =>
     rw[if_neg (by rw[ho];simp)]at z2;exact⟨_,rfl,rfl,by simpa using z2,by simp;omega⟩
   | false =>
    unfold oS at z2;rw[Bool.not_false,Bool.true_and];cases hq:pq l[k] e with
    | true =>
     rw[if_pos hq]at z2;rw[Bool.not_true,cF,xq (GS (Ap hq)),cT];exact⟨_,rfl,rfl,by simpa using z2,by simp;omega⟩
    | false =>
     rw[if_neg (by rw[hq];simp)]at z2;rw[Bool.not_false,cT];cases ho:oP l[k] e with
     | true =>
      rw[if_pos ho]at z2;exact⟨_,rfl,rfl,by simpa using z2,by simp;omega⟩
     | false =>
      rw[if_neg (by rw[ho];simp)]at z2;exact⟨_,rfl,rfl,by simpa using z2,by simp;omega⟩)
  (λz ⟨z1,z2,z3⟩=>by
   obtain⟨t,i,b⟩:=z;simp only at z1 z2 z3;subst z1;rw[List.drop_length]at z2;refine⟨(t,b),?_,z2,by show b.length<=2000;have:b.length<=2*l.length:=z3;omega⟩;show aE l e t _ b=_
   unfold aE;rw[mG (by omega),cF]) (x:=(false,0,[])) ⟨rfl,rfl,by simp⟩
 unfold cH;rw[hd,lP];obtain⟨t,b⟩:=d;simp only at g ⊢;cases t with
 | true=>rw[Bool.not_true,cF,←g.1];simp[oS]
 | false=>rw[Bool.not_false,cT,pK (by show b.length+1<=_;omega),lP,←g.1];rfl
theorem GW {l:List m0} (h:FB l) (e:m0):∃y,aM l e=some y/\(((∃x∈l,same x e)\/l.length<12)->y.1=oS e false l)/\(¬((∃x∈l,same x e)\/l.length<12)->y.1=l):=by
 have hn:=h.n;have hM:M=1048576:=rfl
 unfold aM;rw[rE (by omega),lP,uE (by omega),lP];rcases pY l e.1 e.2.1 with ⟨h1,h2⟩|⟨k,hk,h1,h2,h3⟩
 · rw[h1,dF (by decide),cF];have hns:∀x∈l,¬same x e:=λx hx hs=>h2 x hx hs
   by_cases h12:(l.length:Int)>=12
   · rw[dT h12,cT];refine⟨_,rfl,λhc=>?_,λ_=>rfl⟩;rcases hc with ⟨x,hx,hs⟩|hc
     · exact absurd hs (hns x hx)
     · omega
   · rw[dF h12,cF];obtain⟨d,d1,k,d2,d3,d4,d5⟩:=nl (step:=λz:Int=>af l e z) (λk z=>z=(k:Int)/\∀x∈l.take k,nu x e.1 e.2.1=false) l.length (λd=>∃k:Nat,d=(k:Int)/\k<=l.length/\(∀x∈l.take k,nu x e.1 e.2.1=false)/\∀hk:k<l.length,nu l[k] e.1 e.2.1=true)
      (λk z hk ⟨e1,e2⟩=>by
       subst e1;have hst:∀q,nu l[k] e.1 e.2.1=q->af l e (k:Int)=cond (!q) (some (.inl ((k+1:Nat):Int))) (some (.inr (k:Int))):=λq hq=>by
        unfold af;rw[ng (by omega),cT,md hk,lP,yK,lP,lP,hq,me (by omega)]
       cases hq:nu l[k] e.1 e.2.1 with
       | true=>exact .inr ⟨_,hst true hq,k,rfl,by omega,e2,λ_=>hq⟩
       | false =>
        refine .inl ⟨_,hst false hq,rfl,λx hx=>?_⟩;rw[take_add_one,List.getElem?_eq_getElem hk]at hx;rcases mem_append.1 hx with hx|hx
        · exact e2 x hx
        · simp at hx;rw[hx];exact hq)
      (λz ⟨e1,e2⟩=>by
       subst e1;refine⟨_,?_,l.length,rfl,Nat.le_refl _,e2,λhk=>absurd hk (by omega)⟩;show af l e (l.length:Int)=_
       unfold af;rw[mG (by omega),cF,lP,cF]) (x:=0) ⟨rfl,by simp⟩
     subst d2;have c1:cut l 0 (k:Int)=some (l.take k):=by
      have:=yj (l:=l) (a:=0) (b:=k) (by omega) d3;simpa using this
     have c2:cut l (k:Int) (l.length:Int)=some (l.drop k):=by
      have:=yj (l:=l) (a:=k) (b:=l.length) d3 (Nat.le_refl _);rw[take_length]at this;exact this
     have hl1:(l.take k).length<=12:=by rw[length_take];omega
     have hl2:(l.drop k).length<=12:=by rw[length_drop];omega
     refine⟨_,qm d1 (by rw[c1,lP,rE (by omega),lP,pK (by show (l.take k).length+1<=_;omega),lP,c2,lP,pK (by rw[length_append];show (l.take k).length+1+(l.drop k).length<=_;omega),lP]),λ_=>?_,λhc=>absurd (.inr (by omega)) hc⟩;rw[Bm h.o hns (λx hx=>yl (d4 x hx) (h2 x (List.mem_of_mem_take hx))) (λx hx=>by
      have hk:k<l.length:=(List.getElem?_eq_some_iff.1 hx).1;rw[List.getElem?_eq_getElem hk]at hx;cases hx;exact wk (d5 hk))]
     simp
 · rw[h1,dT (by omega),cT,p4 hk,lP,List.getElem?_eq_getElem hk,lP];refine⟨_,rfl,λ_=>?_,λhc=>absurd (.inl ⟨l[k],getElem_mem hk,h2,h3⟩) hc⟩;rw[Aw hk h.o ⟨h2,h3⟩]

theorem Ca {l:List m0} (h:FB l) (tag mac port:Int):cI l tag mac port=bo l tag mac port:=by
 have hn:=h.n;have hl:l.length<=M:=by show _<=1048576;omega
 obtain⟨y,y1,y2,y3⟩:=GW h (tag,mac,port,0,false);unfold cI bo;rw[uE (by omega),Bg (by omega),DJ (by omega),FF (by omega),E5,zA,h.ok,rE hl,Ar hl,GV (by omega),y1];simp only[lP,Bool.not_true,cF];cases rM (tag,mac,port,0,false)with
 | false=>rfl
 | true =>
  simp only[Bool.not_true,cF,lP];rcases pY l tag mac with ⟨e,e1⟩|⟨k,hk,e,e1,e2⟩
  · rw[e];simp only[show decide ((-1:Int)>=0)=false from rfl,show decide ((-1:Int)<0)=true from rfl,cT,cF,lP];by_cases hlt:l.length<12
    · rw[dF (show ¬((l.length:Int)>=12) by omega),cF,y2 (.inr hlt)]
    · rw[dT (show ((l.length:Int)>=12) by omega),cT,y3 (λhc=>hc.elim (λ⟨x,hx,hs⟩=>e1 x hx ⟨hs.1,hs.2⟩) hlt)]
  · rw[e,dT (show (k:Int)>=0 by omega),dF (show ¬(k:Int)<0 by omega)];simp only[cT,cF,md hk,lP];cases l[k].2.2.2.2 with
    | true=>rfl
    | false =>
     simp only[cF,lP,y2 (.inl ⟨l[k],getElem_mem hk,e1,e2⟩)]
theorem Ee:aB=aa:=rfl
theorem Cb (c:Int) {k:Nat} (hk:k<6):ac c (k:Int)=a9 c (k:Int):=by
 obtain⟨t,t1,t2⟩:=yL c hk;rw[t1,t2]
theorem FY (v:mV) {k:Nat} (hk:k<6) (tag:Int):cG v (k:Int) tag=bm v (k:Int) tag:=by
 unfold cG bm;simp only[qG,rm,Ee,Cb _ hk]
theorem EV:dL=ao:=rfl
theorem FZ (v:mV) (id:Int) {k:Nat} (hk:k<6):cL v id (k:Int)=ap v id (k:Int):=by
 unfold cL ap;simp only[Ee,Cb _ hk]
theorem G0:dH=bV:=rfl
theorem Di {b:lS} (h:uC b) (i:Int):cB b i=ax b i:=by
 unfold cB ax;rw[Bf h,wG h];simp only[qG,rm]
theorem GX {f:mO} (h:f.2.2.2.length<=20) (t:Int):cK f t=some (f.1,f.2.1,t,f.2.2.2):=by
 unfold cK dM;rw[pX (by show _<=1048576;omega)];rfl
theorem GY {l:List m0} (h:FB l) (tag mac:Int):∃u,bp l tag mac=some u/\cJ l tag mac=some u/\(u = -1\/(0<=u/\u<=7)):=by
 have hn:=h.n;unfold bp cJ;rw[uE (by omega),Bg (by omega)];simp only[lP];rcases pY l tag mac with ⟨e,_⟩|⟨k,hk,e,_,_⟩
 · rw[e];exact⟨-1,rfl,rfl,.inl rfl⟩
 · rw[e];simp only[dF (show ¬(k:Int)<0 by omega),cF,md hk,lP];have hf:=h.e _ (getElem_mem hk)
   unfold rM at hf;simp only[aT]at hf;have:=xo hf.2.2.1
   exact⟨_,rfl,rfl,.inr this⟩
theorem G3 {c:Nat} (hc:c<64) (e:Int):∃m:Nat,m<64/\ox .i64 (c:Int) e=(m:Int):=by
 have h:(BitVec.ofInt 64 (c:Int)&&&BitVec.ofInt 64 e).toNat<=c:=by
  rw[BitVec.toNat_and];refine Nat.le_trans Nat.and_le_left ?_;rw[BitVec.toNat_ofInt];omega
 refine⟨(BitVec.ofInt 64 (c:Int)&&&BitVec.ofInt 64 e).toNat,by omega,?_⟩;show IntKind.i64.wrap _=_
 exact ny (n:=(((BitVec.ofInt 64 (c:Int)&&&BitVec.ofInt 64 e).toNat:Nat):Int)) (by omega) (by omega)
def G4:Bool:=(List.range 64).all λm=>(List.range 6).all λk=>match shl .i64 1 (IntKind.u64.wrap (k:Int))with
 | some s=>decide (0<=rn .i64 (m:Int) s)&&(decide (rn .i64 (m:Int) s<64)&&((List.range 6).all λj=>p5 (rn .i64 (m:Int) s).toNat (j:Int)==(((j:Int) != (k:Int))&&p5 m (j:Int))))
 | none=>false
theorem AX:G4=true:=by kernel_rfl
theorem Hd {m:Nat} (hm:m<64) {k:Nat} (hk:k<6):∃s,shl .i64 1 (IntKind.u64.wrap (k:Int))=some s/\∃q:Nat,q<64/\rn .i64 (m:Int) s=(q:Int)/\∀j:Nat,j<6->p5 q (j:Int)=(((j:Int) != (k:Int))&&p5 m (j:Int)):=by
 have h:=all_eq_true.1 (all_eq_true.1 AX m (mem_range.2 hm)) k (mem_range.2 hk);cases hs:shl .i64 1 (IntKind.u64.wrap (k:Int))with
 | none=>rw[hs]at h;cases h
 | some s =>
  rw[hs]at h;simp only[aT,decide_eq_true_eq,all_eq_true,beq_iff_eq,mem_range]at h;obtain⟨h1,h2,h3⟩:=h;exact⟨s,rfl,(rn .i64 (m:Int) s).toNat,by omega,by omega,h3⟩
def G5:Bool:=(List.range 64).all λm=>(List.range 8).all λu=>match shl .i64 1 (IntKind.u64.wrap (u:Int))with
 | some s=>decide (0<=ox .i64 (m:Int) s)&&(decide (ox .i64 (m:Int) s<64)&&((List.range 6).all λj=>p5 (ox .i64 (m:Int) s).toNat (j:Int)==(p5 m (j:Int)&&((u:Int)==(j:Int)))))
 | none=>false
theorem AY:G5=true:=by kernel_rfl
theorem He {m:Nat} (hm:m<64) {u:Nat} (hu:u<8):∃s,shl .i64 1 (IntKind.u64.wrap (u:Int))=some s/\∃q:Nat,q<64/\ox .i64 (m:Int) s=(q:Int)/\∀j:Nat,j<6->p5 q (j:Int)=(p5 m (j:Int)&&((u:Int)==(j:Int))):=by
 have h:=all_eq_true.1 (all_eq_true.1 AY m (mem_range.2 hm)) u (mem_range.2 hu);cases hs:shl .i64 1 (IntKind.u64.wrap (u:Int))with
 | none=>rw[hs]at h;cases h
 | some s =>
  rw[hs]at h;simp only[aT,decide_eq_true_eq,all_eq_true,beq_iff_eq,mem_range]at h;obtain⟨h1,h2,h3⟩:=h;exact⟨s,rfl,(ox .i64 (m:Int) s).toNat,by omega,by omega,h3⟩
theorem G6 {b:lS} (hn:b.2.2.1.length<=6) (hv:b.2.2.2.2.1.length<=6) {f:mO} (hf:f.2.2.2.length<=20) {k:Nat} {c:Nat} {cl:Int×Bool} {e:Int} (he:ao (b.2.2.2.2.1,b.2.2.2.2.2.1) cl.1=some e) {m:Nat} (hm:m<64) (hme:ox .i64 (c:Int) e=(m:Int)) {q:Nat}
 (Q:Int->Option Bool) (Qb:Nat->Bool) (hQ:∀j:Nat,j<6->Q (j:Int)=some (Qb j)) (hq:∀j:Nat,j<6->p5 q (j:Int)=(((j:Int) != (k:Int)&&p5 m (j:Int))&&Qb j))
 (stepI:Int×List ne->Option ((Int×List ne)⊕List ne))
 (hs:∀(j:Nat) (out:List ne),j<b.2.2.1.length->stepI ((j:Int),out)=((cond ((j:Int) != (k:Int)) ((ao (b.2.2.2.2.1,b.2.2.2.2.2.1) cl.1).bind λt89=>(a9 (ox .i64 (c:Int) t89) (j:Int)).bind λt92=>some t92) (some false)).bind λt93 =>
  (cond t93 ((Q (j:Int)).bind λt101=>some t101) (some false)).bind λt102 =>
  cond t102 ((ap (b.2.2.2.2.1,b.2.2.2.2.2.1) cl.1 (j:Int)).bind λt110=>(aN f t110).bind λt111=>(nn out [((j:Int),t111.1,t111.2.1,t111.2.2.1,t111.2.2.2)]).bind λzs114=>some (.inl (lT ((j:Int)+1),zs114)))
   (some (.inl (lT ((j:Int)+1),out)))))
 (he2:∀out:List ne,stepI ((b.2.2.1.length:Int),out)=some (.inr out)) :
 ∃o,loop stepI (0,[])=some o/\aF b cl.1 (q:Int) f=some o:=by
 obtain⟨o,h1,h2⟩:=Dg (f:=stepI) (g:=λz:Int×List ne=>aY b cl.1 (q:Int) f z.1 z.2) (λj z=>z.1=(j:Int)/\z.2.length<=j) b.2.2.1.length
  (λj z hj ⟨z1,z2⟩=>by
   obtain⟨i,out⟩:=z;simp only at z1 z2;subst z1;obtain⟨g,hg⟩:=De (v:=(b.2.2.2.2.1,b.2.2.2.2.2.1)) hv cl.1 (k:=j) (by omega);have hap:nn out [((j:Int),f.1,f.2.1,g,f.2.2.2)]=some (out++[((j:Int),f.1,f.2.1,g,f.2.2.2)]):=pK (by show out.length+1<=_;omega)
   have hb:p5 q (j:Int)=(((j:Int) != (k:Int)&&p5 m (j:Int))&&Qb j):=hq j (by omega);have hI:stepI ((j:Int),out)=cond (p5 q (j:Int)) (some (.inl (((j+1:Nat):Int),out++[((j:Int),f.1,f.2.1,g,f.2.2.2)]))) (some (.inl (((j+1:Nat):Int),out))):=by
    rw[hs j out hj,he,hb];simp only[lP,hme,FT hm,hQ j (by omega),hg,FV hf,hap,me (show j<9223372036854775807 by omega)];cases (j:Int) != (k:Int)<;>cases p5 m (j:Int)<;>cases Qb j<;>rfl
   have hS:aY b cl.1 (q:Int) f (j:Int) out=cond (p5 q (j:Int)) (some (.inl (((j+1:Nat):Int),out++[((j:Int),f.1,f.2.1,g,f.2.2.2)]))) (some (.inl (((j+1:Nat):Int),out))):=by
    unfold aY;rw[dT (show (j:Int)<(b.2.2.1.length:Int) by omega),cT,FS,lP];simp only[FZ _ _ (show j<6 by omega),hg,lP,GX hf,hap,me (show j<9223372036854775807 by omega)]
   cases hbit:p5 q (j:Int)with
   | true =>
    rw[hbit]at hI hS;exact⟨_,hI,hS,rfl,by show (out++[_]).length<=j+1;rw[length_append];show out.length+1<=j+1;omega⟩
   | false =>
    rw[hbit]at hI hS;exact⟨_,hI,hS,rfl,by show out.length<=j+1;omega⟩)
  (λz ⟨z1,z2⟩=>by
   obtain⟨i,out⟩:=z;simp only at z1 z2;subst z1;refine⟨out,he2 out,?_⟩;show aY b cl.1 (q:Int) f (b.2.2.1.length:Int) out=_
   unfold aY;rw[dF (show ¬(b.2.2.1.length:Int)<(b.2.2.1.length:Int) by omega),cF]) (x:=(0,[])) ⟨rfl,Nat.le_refl _⟩
 refine⟨o,h1,?_⟩;unfold aF;exact qm h2 rfl
theorem DN {b:lS} (h:uC b) (hl:tO M b) (i:Int) (f:mO):aZ b i f=az b i f:=by
 cases hp0:nL b with
 | false =>
  unfold aZ az;rw[sm hl,u6 hl,Di h,GU h hp0];rfl
 | true =>
 have h:=Ea h hp0;have s:=h.sok
 have hn:=h.n6;have hv:=s.v
 have hq:=s.q;obtain⟨q1,q2,q3,q4,q5⟩:=td (zk h.ok).1;have hfb:=Eb h.f
 unfold aZ az;rw[sm h.le,u6 h.le,lP,lP,Di h.w,Bj h,lP,lP];cases hp:m3 i 0 ((b.2.2.1.length:Int)-1)with
 | false=>rfl
 | true =>
 rw[Bool.not_true,cF,cF,G0,Db,lP,lP,lP];cases hf:uF f with
 | false=>rfl
 | true =>
 have hlen:f.2.2.2.length<=20:=by
  unfold uF at hf;simp only[aT,decide_eq_true_eq]at hf;omega
 obtain⟨p0,p1⟩:=xo hp;obtain⟨k,rfl⟩:∃k:Nat,i=(k:Int):=⟨i.toNat,by omega⟩;have hk:k<b.2.2.1.length:=by omega
 have hk6:k<6:=by omega
 obtain⟨c,hc64,hc,hcs⟩:=Ao b.1 (l:=b.2.2.1) (by omega);obtain⟨cl,hcl⟩:=Dd (v:=(b.2.2.2.2.1,b.2.2.2.2.2.1)) hv (by show b.2.2.2.2.2.1.length<=6;omega) (k:=k) (by show k<b.2.2.2.2.2.1.length;omega) f.2.2.1;obtain⟨t,ht,_⟩:=yL (c:Int) hk6;rw[Bool.not_true,cF,cF,hc,hcs,lP,lP,FY _ hk6,hcl,lP,lP,Cb _ hk6,ht,lP,lP];have hst:∀{A B:Option (lS×List ne)},A=B->(cond (!t) (some true) (some (!cl.2))).bind (λt50=>cond t50 ((aC b.2.2.2.2.2.2.2.2.2.1).bind λt53=>some ((b.1,b.2.1,b.2.2.1,b.2.2.2.1,b.2.2.2.2.1,b.2.2.2.2.2.1,b.2.2.2.2.2.2.1,b.2.2.2.2.2.2.2.1,b.2.2.2.2.2.2.2.2.1,t53,b.2.2.2.2.2.2.2.2.2.2),([]:List ne))) A)=(cond (!t) (some true) (some (!cl.2))).bind (λt48=>cond t48 ((ay b.2.2.2.2.2.2.2.2.2.1).bind λt51=>some ((b.1,b.2.1,b.2.2.1,b.2.2.2.1,b.2.2.2.2.1,b.2.2.2.2.2.1,b.2.2.2.2.2.2.1,b.2.2.2.2.2.2.2.1,b.2.2.2.2.2.2.2.2.1,t51,b.2.2.2.2.2.2.2.2.2.2),[])) B):=λe=>by
  rw[e,FX q4,wH]
 refine hst ?_;rw[Ca hfb,EV];obtain⟨F,hF,hFB⟩:=Da hfb cl.1 f.2.1 (k:Int);obtain⟨e,he⟩:=Bk (v:=(b.2.2.2.2.1,b.2.2.2.2.2.1)) hv cl.1;obtain⟨m,hm,hme⟩:=G3 hc64 e;obtain⟨sh,hsh,q,hq64,hqe,hqb⟩:=Hd hm hk6;rw[hF,lP,lP,wH,FX q5,lP,lP,he,lP,hsh,lP,hme];simp only[hqe];obtain⟨o1,a1,a2⟩:=G6 hn hv hlen (k:=k) (c:=c) (cl:=cl) he hm hme (q:=q) (λj=>cond (decide ((-1:Int)<0)) (some true) (some ((-1)==j))) (λ_=>true) (λj hj=>rfl) (λj hj=>by rw[Bool.and_true];exact hqb j hj) (λz=>ai b (k:Int) f (c:Int) cl z.1 z.2)
  (λj out hj=>by
   show ai b (k:Int) f (c:Int) cl (j:Int) out=_;unfold ai;rw[ng (by omega),cT]) (λout=>by
   show ai b (k:Int) f (c:Int) cl (b.2.2.1.length:Int) out=_;unfold ai;rw[mG (by omega),cF])
 cases f.1 != 0 with
 | false =>
  rw[cF,cF,a2,lP]
  symm;exact qm a1 rfl
 | true =>
  obtain⟨u,u1,u2,u3⟩:=GY hFB cl.1 f.1;rw[cT,cT,u1,u2,lP,lP];have fin:∀(q:Nat),(∀j:Nat,j<6->p5 q (j:Int)=(((j:Int) != (k:Int)&&p5 m (j:Int))&&(decide (u<0)||(u==(j:Int)))))->∃o,loop (λz:Int×List ne=>ah b (k:Int) f (c:Int) cl u z.1 z.2) (0,[])=some o/\aF b cl.1 (q:Int) f=some o:=λq hq =>
   G6 hn hv hlen (k:=k) (c:=c) (cl:=cl) he hm hme (q:=q) (λj=>cond (decide (u<0)) (some true) (some (u==j))) (λj=>decide (u<0)||(u==(j:Int))) (λj hj=>by cases decide (u<0)<;>rfl) hq _
   (λj out hj=>by
    show ah b (k:Int) f (c:Int) cl u (j:Int) out=_;unfold ah;rw[ng (by omega),cT]) (λout=>by
    show ah b (k:Int) f (c:Int) cl u (b.2.2.1.length:Int) out=_;unfold ah;rw[mG (by omega),cF])
  rcases u3 with rfl|⟨u3,u4⟩
  · obtain⟨o,b1,b2⟩:=fin q (λj hj=>by rw[show decide ((-1:Int)<0)=true from rfl,Bool.true_or,Bool.and_true];exact hqb j hj);rw[show decide ((-1:Int)>=0)=false from rfl,cF,b2,lP]
    symm;exact qm b1 rfl
  · obtain⟨n,rfl⟩:∃n:Nat,u=(n:Int):=⟨u.toNat,by omega⟩;obtain⟨s2,g1,q',g2,g3,g4⟩:=He hq64 (u:=n) (by omega);obtain⟨o,b1,b2⟩:=fin q' (λj hj=>by rw[g4 j hj,hqb j hj,dF (show ¬(n:Int)<0 by omega),Bool.false_or]);rw[dT (show (n:Int)>=0 by omega),cT,g1,lP,g3,b2,lP]
    symm;exact qm b1 rfl
abbrev Bn:=Int×Int
def ml:List (Int×Int×Int×Int)->List Bn
 | []=>[]
 | x::l=>(x.1,x.2.1)::(x.2.2.1,x.2.2.2)::ml l
theorem s5:∀(l m:List (Int×Int×Int×Int)),ml (l++m)=ml l++ml m
 | [],m=>rfl
 | x::l,m=>by show _::_::ml (l++m)=_;rw[s5 l m];rfl
theorem ym:∀(l:List (Int×Int×Int×Int)),(ml l).length=2*l.length
 | []=>rfl
 | x::l=>by show (ml l).length+1+1=2*(l.length+1);rw[ym l];omega
theorem sn {l:List (Int×Int×Int×Int)} {e:Bn}:e∈ml l↔∃x∈l,e=(x.1,x.2.1)\/e=(x.2.2.1,x.2.2.2):=by
 induction l with
 | nil=>simp[ml]
 | cons x l ih =>
  show e∈(_::_::ml l)↔_;rw[mem_cons,mem_cons,ih];constructor
  · rintro (h|h|⟨y,hy,h⟩)
    · exact⟨x,by simp,.inl h⟩
    · exact⟨x,by simp,.inr h⟩
    · exact⟨y,mem_cons_of_mem _ hy,h⟩
  · rintro⟨y,hy,h⟩;rcases mem_cons.1 hy with rfl|hy
    · rcases h with h|h
      · exact .inl h
      · exact .inr (.inl h)
    · exact .inr (.inr ⟨y,hy,h⟩)
def Ef (l:List (Int×Int×Int×Int)) (k:Nat) (x:Int×Int×Int×Int):Prop:=(x.1,x.2.1)≠(x.2.2.1,x.2.2.2)/\(x.1,x.2.1)∉ml (l.take k)/\(x.2.2.1,x.2.2.2)∉ml (l.take k)
theorem yn (l:List (Int×Int×Int×Int)):∀m,m<=l.length->((ml (l.take m)).Nodup↔∀k (hk:k<l.length),k<m->Ef l k l[k])
 | 0,_=>by simp[ml]
 | m+1,hm=>by
  have hml:m<l.length:=by omega
  have ih:=yn l m (by omega);have et:l.take (m+1)=l.take m++[l[m]]:=by rw[take_add_one,List.getElem?_eq_getElem hml];rfl
  rw[et,s5,List.nodup_append,ih];constructor
  · rintro⟨h1,h2,h3⟩ k hk hkm;by_cases e:k=m
    · subst e;have h2:([((l[k]).1,(l[k]).2.1),((l[k]).2.2.1,(l[k]).2.2.2)]:List Bn).Nodup:=h2
      refine⟨λe=>?_,λe=>h3 _ e _ (List.mem_cons_self) rfl,λe=>h3 _ e _ (mem_cons_of_mem _ List.mem_cons_self) rfl⟩;rw[e]at h2;simp at h2
    · exact h1 k hk (by omega)
  · intro h;obtain⟨n1,n2,n3⟩:=h m hml (by omega);refine⟨λk hk hkm=>h k hk (by omega),?_,λa ha b hb hab=>?_⟩
    · show ([((l[m]).1,(l[m]).2.1),((l[m]).2.2.1,(l[m]).2.2.2)]:List Bn).Nodup;rw[List.nodup_cons];exact⟨λe=>n1 (by rwa [mem_singleton]at e),List.nodup_cons.2 ⟨by simp,List.nodup_nil⟩⟩
    · subst hab;have hb:a∈([((l[m]).1,(l[m]).2.1),((l[m]).2.2.1,(l[m]).2.2.2)]:List Bn):=hb
      simp only[mem_cons,List.not_mem_nil,or_false]at hb;rcases hb with rfl|rfl
      · exact n2 ha
      · exact n3 ha
theorem yo (l:List (Int×Int×Int×Int)):(∀k (hk:k<l.length),Ef l k l[k])↔∀x∈l,(x.1,x.2.1)≠(x.2.2.1,x.2.2.2)/\(ml l).count (x.1,x.2.1)=1/\(ml l).count (x.2.2.1,x.2.2.2)=1:=by
 have h:=yn l l.length (Nat.le_refl _);rw[take_length]at h;constructor
 · intro k x hx;have hn:=h.2 λi hi _=>k i hi
   obtain⟨i,hi,rfl⟩:=getElem_of_mem hx;have c1:∀e∈ml l,(ml l).count e=1:=λe he=>by
    have:=List.nodup_iff_count.1 hn e;have:=List.count_pos_iff.2 he
    omega
   exact⟨(k i hi).1,c1 _ (sn.2 ⟨_,hx,.inl rfl⟩),c1 _ (sn.2 ⟨_,hx,.inr rfl⟩)⟩
 · intro k i hi;refine h.1 (List.nodup_iff_count.2 λe=>?_) i hi hi;by_cases he:e∈ml l
   · obtain⟨x,hx,rfl|rfl⟩:=sn.1 he
     · rw[(k x hx).2.1];omega
     · rw[(k x hx).2.2];omega
   · rw[List.count_eq_zero.2 he];omega

theorem p6 {n:Nat} {step:Int->Option (Int⊕(Unit⊕Bool))} {b:Nat->Bool} {r:Bool} (h:∀k,k<n->step (k:Int)=cond (b k) (some (.inr (.inr r))) (some (.inl ((k+1:Nat):Int)))) (he:step (n:Int)=some (.inr (.inl ()))) :
 loop step 0=some (cond ((List.range n).any b) (.inr r) (.inl ())):=by
 obtain⟨v,h1,h2⟩:=nl (β:=Unit⊕Bool) (step:=step) (λk i=>i=(k:Int)/\(List.range k).any b=false) n (λv=>v=cond ((List.range n).any b) (Sum.inr r) (Sum.inl ()))
  (λk i hk ⟨e,ha⟩=>by
   subst e;cases hb:b k with
   | true =>
    refine .inr ⟨.inr r,by rw[h k hk,hb];rfl,?_⟩;have:(List.range n).any b=true:=any_eq_true.2 ⟨k,mem_range.2 hk,hb⟩
    rw[this];rfl
   | false =>
    refine .inl ⟨_,by rw[h k hk,hb];rfl,rfl,?_⟩;rw[List.range_succ,List.any_append,ha];simp[hb])
  (λi ⟨e,ha⟩=>by
   subst e;exact⟨.inl (),he,by rw[ha];rfl⟩) (x:=0) ⟨rfl,rfl⟩
 rw[h1,h2]
theorem wm {n:Nat} {b:Nat->Bool}:(List.range n).any b=true↔∃k,k<n/\b k=true:=by
 rw[any_eq_true];exact⟨λ⟨k,h1,h2⟩=>⟨k,mem_range.1 h1,h2⟩,λ⟨k,h1,h2⟩=>⟨k,mem_range.2 h1,h2⟩⟩
theorem rF {n:Nat} {b:Nat->Bool}:(List.range n).any b=false↔∀k,k<n->b k=false:=by
 rw[Bool.eq_false_iff,ne_eq,wm];exact⟨λh k hk=>by cases hb:b k with|false=>rfl|true=>exact absurd ⟨k,hk,hb⟩ h,λh ⟨k,hk,hb⟩=>by rw[h k hk]at hb;cases hb⟩
def Ax (x:my) (b p:Int):Bool:=(x.1==b&&x.2.1==p)||(x.2.2.1==b&&x.2.2.2==p)
theorem Ay (x:my) (b p:Int):Ax x b p=true↔(b,p)=(x.1,x.2.1)\/(b,p)=(x.2.2.1,x.2.2.2):=by
 unfold Ax;simp only[Bool.or_eq_true,aT,beq_iff_eq,Prod.mk.injEq];constructor
 · rintro (⟨h1,h2⟩|⟨h1,h2⟩)
   · exact .inl ⟨h1.symm,h2.symm⟩
   · exact .inr ⟨h1.symm,h2.symm⟩
 · rintro (⟨h1,h2⟩|⟨h1,h2⟩)
   · exact .inl ⟨h1.symm,h2.symm⟩
   · exact .inr ⟨h1.symm,h2.symm⟩
theorem Eg {l:List my} (hn:l.length<=1048576) (b p:Int):b9 l b p=some (decide ((b,p)∈ml l)):=by
 have hs:=p6 (n:=l.length) (step:=λz=>b8 l b p z) (b:=λk=>match l[k]? with|some x=>Ax x b p|none=>false) (r:=true) (λk hk=>by
  show b8 l b p (k:Int)=_;unfold b8;rw[ng (by omega),cT,md hk,lP,me (by omega),List.getElem?_eq_getElem hk];simp only;generalize l[k]=x;unfold Ax;cases x.1==b<;>cases x.2.1==p<;>cases x.2.2.1==b<;>cases x.2.2.2==p<;>rfl) (by
  show b8 l b p (l.length:Int)=_;unfold b8;rw[mG (by omega),cF])
 unfold b9;rw[hs,lP];have key:(List.range l.length).any (λk=>match l[k]? with|some x=>Ax x b p|none=>false)=decide ((b,p)∈ml l):=by
  rw[Bool.eq_iff_iff,wm,decide_eq_true_iff,sn];constructor
  · rintro⟨k,hk,h⟩;rw[List.getElem?_eq_getElem hk]at h;exact⟨_,getElem_mem hk,(Ay _ _ _).1 h⟩
  · rintro⟨x,hx,h⟩;obtain⟨k,hk,rfl⟩:=getElem_of_mem hx;exact⟨k,hk,by rw[List.getElem?_eq_getElem hk];exact (Ay _ _ _).2 h⟩
 rw[key];cases decide ((b,p)∈ml l)<;>rfl
theorem Dj (x:my) (b p:Int):([(x.1,x.2.1),(x.2.2.1,x.2.2.2)]:List Bn).count (b,p)=(cond (x.1==b&&x.2.1==p) 1 0)+(cond (x.2.2.1==b&&x.2.2.2==p) 1 0):=by
 rw[List.count_cons,List.count_cons,List.count_nil];have e1:((x.1,x.2.1)==(b,p))=(x.1==b&&x.2.1==p):=rfl
 have e2:((x.2.2.1,x.2.2.2)==(b,p))=(x.2.2.1==b&&x.2.2.2==p):=rfl;rw[e1,e2];cases (x.1==b&&x.2.1==p)<;>cases (x.2.2.1==b&&x.2.2.2==p)<;>rfl
theorem Eh {n:mi} (hn:n.2.1.length<=1048576) (b p:Int):bA n b p=some (((ml n.2.1).count (b,p):Nat):Int):=by
 unfold bA;obtain⟨v,e1,rfl⟩:=nl (step:=λz:Int×Int=>aQ n b p z.1 z.2) (λk z=>z=((((ml (n.2.1.take k)).count (b,p):Nat):Int),(k:Int))) n.2.1.length (λv=>v=(((ml n.2.1).count (b,p):Nat):Int))
  (λk z hk e=>by
   subst e;refine .inl ⟨_,?_,rfl⟩;have et:n.2.1.take (k+1)=n.2.1.take k++[n.2.1[k]]:=by rw[take_add_one,List.getElem?_eq_getElem hk];rfl
   have hc:(ml (n.2.1.take k)).count (b,p)<=2*k:=by
    refine Nat.le_trans List.count_le_length ?_;rw[ym,length_take];omega
   rw[et,s5,List.count_append];show aQ n b p _ _=_
   unfold aQ;rw[ng (by omega),cT,md hk,lP];have e2:=Dj n.2.1[k] b p
   have e3:ml [n.2.1[k]]=[(n.2.1[k].1,n.2.1[k].2.1),(n.2.1[k].2.2.1,n.2.1[k].2.2.2)]:=rfl;rw[e3,e2];generalize (ml (n.2.1.take k)).count (b,p)=c at hc;have w0:=me (show k<9223372036854775807 by omega)
   have w1:=me (show c<9223372036854775807 by omega);have w2:=me (show c+1<9223372036854775807 by omega)
   have a1:cond (n.2.1[k].1==b) (some (n.2.1[k].2.1==p)) (some false)=some (n.2.1[k].1==b&&n.2.1[k].2.1==p):=by cases n.2.1[k].1==b<;>rfl
   have a2:cond (n.2.1[k].2.2.1==b) (some (n.2.1[k].2.2.2==p)) (some false)=some (n.2.1[k].2.2.1==b&&n.2.1[k].2.2.2==p):=by cases n.2.1[k].2.2.1==b<;>rfl
   rw[a1,a2];generalize (n.2.1[k].1==b&&n.2.1[k].2.1==p)=u1;generalize (n.2.1[k].2.2.1==b&&n.2.1[k].2.2.2==p)=u2;cases u1<;>cases u2<;>simp only[lP,cT,cF,w0,w1,w2]<;>rfl)
  (λz e=>by
   subst e;refine⟨_,?_,rfl⟩;show aQ n b p _ _=_
   unfold aQ;rw[mG (by omega),cF,take_length]) (x:=(0,0)) (by simp[ml])
 rw[e1,lP]
def rk (n:mi) (x:lS) (j:Nat):Bool:=match n.1[j]? with|some c=>c.1==x.1|none=>false
def vr (n:mi) (i:Nat) (x:lS) (p:Nat):Bool:=match x.2.2.1[p]? with|some y=>y.2.2.1&&!(decide (((i:Int),(p:Int))∈ml n.2.1))|none=>false
noncomputable def u7 (n:mi) (i:Nat):Bool:=match n.1[i]? with
 | some x=>!(nL x)||((List.range i).any (rk n x)||(List.range x.2.2.1.length).any (vr n i x))
 | none=>false
structure s6 (n:mi):Prop where
 s:NS n
 c:n.1.length<=1048576
 w:∀b∈n.1,uC b
 d:n.2.2.length<=1048576
theorem zt {n:mi} (h:s6 n):loop (λz=>be n z) 0=some (cond ((List.range n.1.length).any (u7 n)) (.inr false) (.inl ())):=by
 have hb:=h.c;have hl:=h.s.l
 refine p6 (λk hk=>?_) (by
  show be n (n.1.length:Int)=_;unfold be;rw[mG (by omega),cF])
 have hx:n.1[k]∈n.1:=getElem_mem hk;have hw:=h.w _ hx
 have hp:=hw.p;show be n (k:Int)=_
 have l2:loop (λz=>bc n.1[k] (n.1.take k) z) 0=some (cond ((List.range k).any (rk n n.1[k])) (.inr false) (.inl ())):=p6 (λj hj=>by
  show bc n.1[k] (n.1.take k) (j:Int)=_;have hjl:j<(n.1.take k).length:=by rw[length_take];omega
  have hjn:j<n.1.length:=by omega
  have hcut:(n.1.take k)[j]=n.1[j]:=List.getElem_take;unfold bc rk;rw[ng (by omega),cT,md hjl,lP,hcut,me (by omega),List.getElem?_eq_getElem hjn]) (by
  show bc n.1[k] (n.1.take k) (k:Int)=_;unfold bc;rw[mG (by rw[length_take];omega),cF])
 have l4:loop (λz=>bd n (k:Int) n.1[k] z) 0=some (cond ((List.range n.1[k].2.2.1.length).any (vr n k n.1[k])) (.inr false) (.inl ())):=p6 (λj hj=>by
  show bd n (k:Int) n.1[k] (j:Int)=_;unfold bd vr;rw[ng (by omega),cT,md hj,lP,Eg hl,lP,me (by omega),List.getElem?_eq_getElem hj];simp only;generalize (n.1[k]).2.2.1[j]=y;cases y.2.2.1<;>cases decide (((k:Int),(j:Int))∈ml n.2.1)<;>rfl) (by
  show bd n (k:Int) n.1[k] (n.1[k].2.2.1.length:Int)=_;unfold bd;rw[mG (by omega),cF])
 unfold be u7;have hcut:cut n.1 0 (k:Int)=some (n.1.take k):=by
  unfold cut;rw[if_pos (by omega),if_pos (by omega),if_pos (by omega)];simp
 rw[ng (by omega),cT,md hk,lP,wG hw,lP,hcut,lP,l2,l4,me (by omega),List.getElem?_eq_getElem hk];simp only;cases nL n.1[k]<;>cases (List.range k).any (rk n n.1[k])<;>cases (List.range n.1[k].2.2.1.length).any (vr n k n.1[k])<;>rfl
theorem DO {n:mi} (h:s6 n):cu n=some (cond ((List.range n.1.length).any (u7 n)) false (m3 (n.1.length:Int) 1 6)):=by
 have hb:=h.c;have hl:=h.s.l
 have hs:loop (λz=>aU n z) 0=some (cond ((List.range n.1.length).any (u7 n)) (.inr false) (.inl ())):=by
  refine p6 (λk hk=>?_) (by
   show aU n (n.1.length:Int)=_;unfold aU;rw[mG (by omega),cF])
  have hx:n.1[k]∈n.1:=getElem_mem hk;have hw:=h.w _ hx
  have hp:=hw.p;show aU n (k:Int)=_
  have l2:loop (λz=>aR n (k:Int) z) 0=some (cond ((List.range k).any (rk n n.1[k])) (.inr false) (.inl ())):=p6 (λj hj=>by
   show aR n (k:Int) (j:Int)=_;have hjn:j<n.1.length:=by omega
   unfold aR rk;rw[ng (by omega),cT,md hjn,lP,md hk,lP,me (by omega),List.getElem?_eq_getElem hjn]) (by
   show aR n (k:Int) (k:Int)=_;unfold aR;rw[mG (by omega),cF])
  have l4:loop (λz=>aS n (k:Int) z) 0=some (cond ((List.range n.1[k].2.2.1.length).any (vr n k n.1[k])) (.inr false) (.inl ())):=p6 (λj hj=>by
   show aS n (k:Int) (j:Int)=_;unfold aS vr;rw[md hk,lP,ng (by omega),cT,lP,md hj,lP,Eh hl,lP,me (by omega),List.getElem?_eq_getElem hj];simp only;generalize (n.1[k]).2.2.1[j]=y;have e0:((((ml n.2.1).count ((k:Int),(j:Int)):Nat):Int)==0)=!(decide (((k:Int),(j:Int))∈ml n.2.1)):=by
    by_cases hm:((k:Int),(j:Int))∈ml n.2.1
    · have:=List.count_pos_iff.2 hm;rw[dT hm];exact beq_eq_false_iff_ne.2 (by omega)
    · rw[dF hm,List.count_eq_zero.2 hm];rfl
   rw[e0];cases y.2.2.1<;>cases decide (((k:Int),(j:Int))∈ml n.2.1)<;>rfl) (by
   show aS n (k:Int) (n.1[k].2.2.1.length:Int)=_;unfold aS;rw[md hk,lP,mG (by omega),cF])
  unfold aU u7;rw[ng (by omega),cT,md hk,lP,Bf hw,lP,l2,l4,me (by omega),List.getElem?_eq_getElem hk];simp only;cases nL n.1[k]<;>cases (List.range k).any (rk n n.1[k])<;>cases (List.range n.1[k].2.2.1.length).any (vr n k n.1[k])<;>rfl
 unfold cu;rw[hs,lP,rm];cases (List.range n.1.length).any (u7 n)<;>rfl
def xr (n:mi) (j:Nat):Bool:=match n.2.2[j]? with|some s=>!(m3 s.1 0 ((n.2.1.length:Int)-1))||!(wi s.2.2)|none=>false
theorem Cc {n:mi} (h:s6 n):loop (λz=>bf n z) 0=some (cond ((List.range n.2.2.length).any (xr n)) (.inr false) (.inl ())):=by
 have hd:=h.d;have hl:=h.s.l
 refine p6 (λk hk=>?_) (by
  show bf n (n.2.2.length:Int)=_;unfold bf;rw[mG (by omega),cF])
 show bf n (k:Int)=_;unfold bf xr;rw[ng (by omega),cT,md hk,lP,ny (n:=(n.2.1.length:Int)-1) (by omega) (by omega),qG,lP,Ak,lP,me (by omega),List.getElem?_eq_getElem hk];simp only;cases m3 n.2.2[k].1 0 ((n.2.1.length:Int)-1)<;>cases wi n.2.2[k].2.2<;>rfl
theorem Cd {n:mi} (h:s6 n):loop (λz=>aW n z) 0=some (cond ((List.range n.2.2.length).any (xr n)) (.inr false) (.inl ())):=by
 have hd:=h.d;have hl:=h.s.l
 refine p6 (λk hk=>?_) (by
  show aW n (n.2.2.length:Int)=_;unfold aW;rw[mG (by omega),cF])
 show aW n (k:Int)=_;unfold aW xr;rw[ng (by omega),cT,md hk,lP,ny (n:=(n.2.1.length:Int)-1) (by omega) (by omega),rm,lP,lP,FD,Ak,lP,me (by omega),List.getElem?_eq_getElem hk];simp only;cases m3 n.2.2[k].1 0 ((n.2.1.length:Int)-1)<;>cases wi n.2.2[k].2.2<;>rfl
def vu (o:Option Pt):Bool:=o.isSome
def so (n:mi) (x:my):Bool:=vu (nc n x.1 x.2.1)&&(vu (nc n x.2.2.1 x.2.2.2)&&(!(x.1==x.2.2.1)&&(C4 (nc n x.1 x.2.1)==C4 (nc n x.2.2.1 x.2.2.2))))
def u9 (n:mi) (k:Nat):Bool:=match n.2.1[k]? with
 | some x=>decide (9<=k)||(!(so n x)||(decide ((x.1,x.2.1)∈ml (n.2.1.take k))||decide ((x.2.2.1,x.2.2.2)∈ml (n.2.1.take k))))
 | none=>false
def xt (n:mi) (k:Nat):Bool:=match n.2.1[k]? with
 | some x=>!(so n x)||(!((ml n.2.1).count (x.1,x.2.1)==1)||!((ml n.2.1).count (x.2.2.1,x.2.2.2)==1))
 | none=>false
theorem G7 {n:mi} (h:s6 n):cR n=some (!((List.range n.2.1.length).any (u9 n))):=by
 have hl:=h.s.l;have hs:loop (λz=>bb n z) 0=some (cond ((List.range n.2.1.length).any (u9 n)) (.inr false) (.inl ())):=by
  refine p6 (λk hk=>?_) (by
   show bb n (n.2.1.length:Int)=_;unfold bb;rw[mG (by omega),cF])
  show bb n (k:Int)=_;have hcut:cut n.2.1 0 (k:Int)=some (n.2.1.take k):=by
   unfold cut;rw[if_pos (by omega),if_pos (by omega),if_pos (by omega)];simp
  have e9:decide ((k:Int)>=9)=decide (9<=k):=decide_eq_decide.2 (by omega);have ht:(n.2.1.take k).length<=1048576:=by rw[length_take];omega
  unfold bb u9;rw[ng (by omega),cT,md hk,lP,List.getElem?_eq_getElem hk,e9,me (by omega),hcut];simp only[D3 h.s,lP,Eg ht];generalize n.2.1[k]=x;unfold so;generalize decide ((x.1,x.2.1)∈ml (n.2.1.take k))=m1;generalize decide ((x.2.2.1,x.2.2.2)∈ml (n.2.1.take k))=m2;generalize decide (9<=k)=nine;generalize (x.1==x.2.2.1)=ab;generalize nc n x.1 x.2.1=o1;generalize nc n x.2.2.1 x.2.2.2=o2;cases nine with
  | true=>rfl
  | false =>
   cases o1 with
   | none=>cases o2<;>rfl
   | some a =>
    cases o2 with
    | none=>rfl
    | some c =>
     cases ab with
     | true=>rfl
     | false =>
      simp only[cF,lP,vu,C4,Option.isSome_some,Bool.true_and,Bool.not_false,Bool.not_true];cases (a.1==c.1)<;>cases m1<;>cases m2<;>rfl
 unfold cR;rw[hs,lP];cases (List.range n.2.1.length).any (u9 n)<;>rfl
theorem Hf {n:mi} (h:s6 n) (b p:Int):bB n b p=some (vu (nc n b p)&&((ml n.2.1).count (b,p)==1)):=by
 have hl:=h.s.l;have hb:=h.c
 unfold bB nc;rw[ny (n:=(n.1.length:Int)-1) (by omega) (by omega),rm,lP,Eh hl];cases h1:m3 b 0 ((n.1.length:Int)-1)with
 | false=>rfl
 | true =>
  obtain⟨k,hk,_,e⟩:=ri h1;rw[e];have hp:=h.s.p _ (getElem_mem hk)
  simp only[cT,lP,rm];rw[ny (n:=((n.1[k]).2.2.1.length:Int)-1) (by omega) (by omega)];cases h2:m3 p 0 (((n.1[k]).2.2.1.length:Int)-1)with
  | false=>rfl
  | true =>
   obtain⟨j,hj,_,e'⟩:=ri h2;rw[e'];simp only[cT,lP,vu,Option.isSome_some,Bool.true_and]
   congr 1
   rw[Bool.eq_iff_iff,beq_iff_eq,beq_iff_eq];omega
theorem Bo {n:mi} {b p:Int} {y:Pt} (h:nc n b p=some y):∃x∈n.1,at? n.1 b=some x/\at? x.2.2.1 p=some y:=by
 unfold nc at h;cases h1:m3 b 0 ((n.1.length:Int)-1)with
 | false=>rw[h1]at h;cases h
 | true =>
  obtain⟨k,hk,_,e⟩:=ri h1;rw[h1,e]at h;simp only[cT]at h;cases h2:m3 p 0 (((n.1[k]).2.2.1.length:Int)-1)with
  | false=>rw[h2]at h;cases h
  | true=>rw[h2]at h;exact⟨_,getElem_mem hk,e,h⟩
theorem AZ {n:mi} (h:s6 n):loop (λz=>aV n z) 0=some (cond ((List.range n.2.1.length).any (xt n)) (.inr false) (.inl ())):=by
 have hl:=h.s.l;refine p6 (λk hk=>?_) (by
  show aV n (n.2.1.length:Int)=_;unfold aV;rw[mG (by omega),cF])
 show aV n (k:Int)=_;unfold aV xt;rw[ng (by omega),cT,md hk,lP,List.getElem?_eq_getElem hk,me (by omega)];simp only[Hf h,lP];generalize n.2.1[k]=x;unfold so;generalize ((ml n.2.1).count (x.1,x.2.1)==1)=c1;generalize ((ml n.2.1).count (x.2.2.1,x.2.2.2)==1)=c2;generalize (x.1==x.2.2.1)=ab;cases ab with
 | true=>cases vu (nc n x.1 x.2.1)<;>cases vu (nc n x.2.2.1 x.2.2.2)<;>rfl
 | false =>
  cases ho1:nc n x.1 x.2.1 with
  | none=>cases ho2:nc n x.2.2.1 x.2.2.2<;>cases c1<;>cases c2<;>rfl
  | some a =>
   cases ho2:nc n x.2.2.1 x.2.2.2 with
   | none=>cases c1<;>cases c2<;>rfl
   | some c =>
    obtain⟨u,_,u1,u2⟩:=Bo ho1;obtain⟨v,_,v1,v2⟩:=Bo ho2;rw[u1,lP,u2,lP,v1,lP,v2,lP];simp only[vu,C4,Option.isSome_some,Bool.true_and,Bool.not_false,cF,lP];cases c1<;>cases c2<;>cases (a.1==c.1)<;>rfl
theorem yp {n:mi}:((List.range n.2.1.length).any (u9 n))=(decide ((n.2.1.length:Int)>9)||(List.range n.2.1.length).any (xt n)):=by
 cases hT:(List.range n.2.1.length).any (u9 n)with
 | false =>
  have hT:=rF.1 hT;have key:∀k (hk:k<n.2.1.length),k<9/\so n n.2.1[k]=true/\(n.2.1[k].1,n.2.1[k].2.1)∉ml (n.2.1.take k)/\(n.2.1[k].2.2.1,n.2.1[k].2.2.2)∉ml (n.2.1.take k):=λk hk=>by
   have:=hT k hk;unfold u9 at this;rw[List.getElem?_eq_getElem hk]at this;simp only[Bool.or_eq_false_iff,decide_eq_false_iff_not,Bool.not_eq_false']at this;exact⟨by omega,this.2.1,this.2.2.1,this.2.2.2⟩
  have hn:=(yo n.2.1).1 λk hk=>by
   obtain⟨_,k2,k3,k4⟩:=key k hk;refine⟨λe=>?_,k3,k4⟩;unfold so at k2;simp only[aT,Bool.not_eq_true',bF]at k2;exact k2.2.2.1 (Prod.mk.injEq _ _ _ _▸e).1
  symm
  rw[Bool.or_eq_false_iff];refine⟨dF λhg=>?_,rF.2 λk hk=>?_⟩
  · have:=(key (n.2.1.length-1) (by omega)).1;omega
  · obtain⟨_,k2,_⟩:=key k hk;obtain⟨_,h1,h2⟩:=hn _ (getElem_mem hk);unfold xt;rw[List.getElem?_eq_getElem hk];simp only[k2,h1,h2];rfl
 | true =>
  obtain⟨k,hk,hb⟩:=wm.1 hT
  symm
  rw[Bool.or_eq_true,decide_eq_true_iff];by_cases h9:(n.2.1.length:Int)>9
  · exact .inl h9
  · right;cases hU:(List.range n.2.1.length).any (xt n)with
    | true=>rfl
    | false =>
     exfalso;have hU:=rF.1 hU
     have key:∀k (hk:k<n.2.1.length),so n n.2.1[k]=true/\(ml n.2.1).count (n.2.1[k].1,n.2.1[k].2.1)=1/\(ml n.2.1).count (n.2.1[k].2.2.1,n.2.1[k].2.2.2)=1:=λk hk=>by
      have:=hU k hk;unfold xt at this;rw[List.getElem?_eq_getElem hk]at this;simp only[Bool.or_eq_false_iff,Bool.not_eq_false',beq_iff_eq]at this;exact⟨this.1,this.2.1,this.2.2⟩
     have hn:=(yo n.2.1).2 λx hx=>by
      obtain⟨i,hi,rfl⟩:=getElem_of_mem hx;obtain⟨k1,k2,k3⟩:=key i hi;refine⟨λe=>?_,k2,k3⟩;unfold so at k1;simp only[aT,Bool.not_eq_true',bF]at k1;exact k1.2.2.1 (Prod.mk.injEq _ _ _ _▸e).1
     obtain⟨_,n2,n3⟩:=hn k hk;unfold u9 at hb;rw[List.getElem?_eq_getElem hk]at hb;simp only[(key k hk).1,dF n2,dF n3,dF (show ¬9<=k by omega)]at hb;cases hb
noncomputable def xu (n:mi):Bool:=m3 (n.1.length:Int) 1 6&&(!(decide ((n.2.2.length:Int)>40))&&(!((List.range n.1.length).any (u7 n))&&(!((List.range n.2.2.length).any (xr n))&&!((List.range n.2.1.length).any (u9 n)))))
theorem Hg {n:mi} (h:s6 n):cS n=some (xu n):=by
 unfold cS xu;rw[qG,lP,zt h,Cc h,G7 h];cases m3 (n.1.length:Int) 1 6<;>cases decide ((n.2.2.length:Int)>40)<;>cases (List.range n.1.length).any (u7 n)<;>cases (List.range n.2.2.length).any (xr n)<;>rfl
theorem Hh {n:mi} (h:s6 n):cw n=some (xu n):=by
 unfold cw xu;rw[DO h,lP,AZ h,Cd h,yp];cases m3 (n.1.length:Int) 1 6<;>cases decide ((n.2.2.length:Int)>40)<;>cases (List.range n.1.length).any (u7 n)<;>cases (List.range n.2.2.length).any (xr n)<;>cases decide ((n.2.1.length:Int)>9)<;>cases (List.range n.2.1.length).any (xt n)<;>rfl

theorem G8 {n a b:Int} (h:m3 n a b=true):a<=n/\n<=b:=by
 unfold m3 at h;simp only[aT,decide_eq_true_eq]at h;exact⟨h.1,h.2⟩
structure yN (n:mi):Prop where
 b:s6 n
 n1:1<=n.1.length/\n.1.length<=6
 ok:∀x∈n.1,nL x=true
 one:∀i j (hi:i<n.1.length) (hj:j<n.1.length),n.1[i].1=n.1[j].1->i=j
 l9:n.2.1.length<=9
 ends:∀x∈n.2.1,(∃y,nc n x.1 x.2.1=some y)/\∃y,nc n x.2.2.1 x.2.2.2=some y
theorem zm {o:Option Pt} (h:vu o=true):∃y,o=some y:=by
 cases o with
 | none=>cases h
 | some y=>exact⟨y,rfl⟩
theorem EW {n:mi} (h:s6 n) (hp:xu n=true):yN n:=by
 unfold xu at hp;simp only[aT,Bool.not_eq_true']at hp;obtain⟨h1,h2,h3,h4,h5⟩:=hp;have h1:=G8 h1
 have h3:=rF.1 h3;have key:∀i (hi:i<n.1.length),nL n.1[i]=true/\∀j,j<i->rk n n.1[i] j=false:=λi hi=>by
  have:=h3 i hi;unfold u7 at this;rw[List.getElem?_eq_getElem hi]at this;simp only[Bool.or_eq_false_iff,Bool.not_eq_false']at this;exact⟨this.1,rF.1 this.2.1⟩
 have lt:∀i j (hi:i<n.1.length) (hj:j<i),n.1[j].1≠n.1[i].1:=λi j hi hj e=>by
  have:=(key i hi).2 j hj;unfold rk at this;rw[List.getElem?_eq_getElem (show j<n.1.length by omega)]at this;simp only[bF]at this;exact this e
 have h5':=h5;rw[yp,Bool.or_eq_false_iff]at h5';refine⟨h,⟨by omega,by omega⟩,λx hx=>?_,λi j hi hj e=>?_,?_,λx hx=>?_⟩
 · obtain⟨i,hi,rfl⟩:=getElem_of_mem hx;exact (key i hi).1
 · rcases Nat.lt_trichotomy i j with hij|hij|hij
   · exact absurd e (lt j i hj hij)
   · exact hij
   · exact absurd e.symm (lt i j hi hij)
 · have:=of_decide_eq_false h5'.1;omega
 · obtain⟨k,hk,rfl⟩:=getElem_of_mem hx;have:=rF.1 h5 k hk
   unfold u9 at this;rw[List.getElem?_eq_getElem hk]at this;simp only[Bool.or_eq_false_iff,Bool.not_eq_false']at this;have hb:=this.2.1
   unfold so at hb;simp only[aT]at hb;exact⟨zm hb.1,zm hb.2.1⟩
theorem EX {f:mO} {left:Int} (hl:In left) (h:f.2.2.2.length<=maxLen):oC left (dC f left) (f.2.2.2.length<=M) :=
 va (po (EF hl h) λr k1 k2=>tJ k1) λ⟨a,_⟩=>a
theorem EY {f:mO} (h:f.2.2.2.length<=M):aI f=some f:=by
 unfold aI;rw[EI h,lP]
theorem EZ {f:mO} (h:f.2.2.2.length<=M):d8 f f=some true:=by
 unfold d8;simp[EL h]
theorem xv {α α' β β':Type} {f:α->Option (α⊕β)} {g:α'->Option (α'⊕β')} (uD:Nat->α->α'->Prop) (m:Nat) (Q:β->β'->Prop)
 (h:∀k x y,k<m->uD k x y->(∃x' y',f x=some (.inl x')/\g y=some (.inl y')/\uD (k+1) x' y')\/∃b c,f x=some (.inr b)/\g y=some (.inr c)/\Q b c)
 (he:∀x y,uD m x y->∃b c,f x=some (.inr b)/\g y=some (.inr c)/\Q b c):∀(d k:Nat) (x:α) (y:α'),k+d=m->uD k x y->∃b c,loop f x=some b/\loop g y=some c/\Q b c
 | 0,k,x,y,hk,hr=>by
  obtain rfl:k=m:=by omega
  obtain⟨b,c,e1,e2,q⟩:=he x y hr;exact⟨b,c,vq e1,vq e2,q⟩
 | d+1,k,x,y,hk,hr=>by
  rcases h k x y (by omega) hr with ⟨x',y',e1,e2,hr'⟩|⟨b,c,e1,e2,q⟩
  · obtain⟨b,c,l1,l2,q⟩:=xv uD m Q h he d (k+1) x' y' (by omega) hr';exact⟨b,c,Bh e1 l1,Bh e2 l2,q⟩
  · exact⟨b,c,vq e1,vq e2,q⟩
theorem Hi {b:lS} (h:rj b) (i:Int) (f:mO):∃r,az b i f=some r/\rj r.1/\(r.1.1=b.1/\r.1.2.2.1=b.2.2.1)/\r.2.length<=6:=by
 have s:=h.sok;have hn:=h.n6
 have hv:=s.v;have hq:=s.q
 have h06:([]:List ne).length<=6:=by simp
 obtain⟨q1,q2,q3,q4,q5⟩:=td (zk h.ok).1;have hfb:=Eb h.f
 unfold az;rw[sm h.le,lP,Bj h,lP];cases hp:m3 i 0 ((b.2.2.1.length:Int)-1)with
 | false=>exact⟨(b,[]),rfl,h,⟨rfl,rfl⟩,h06⟩
 | true =>
 rw[Bool.not_true,cF,Db,lP,lP];cases hf:uF f with
 | false=>exact⟨(b,[]),rfl,h,⟨rfl,rfl⟩,h06⟩
 | true =>
 have hlen:f.2.2.2.length<=20:=by
  unfold uF at hf;simp only[aT,decide_eq_true_eq]at hf;omega
 obtain⟨p0,p1⟩:=xo hp;obtain⟨k,rfl⟩:∃k:Nat,i=(k:Int):=⟨i.toNat,by omega⟩;have hk:k<b.2.2.1.length:=by omega
 obtain⟨c,_,hc,_⟩:=Ao b.1 (l:=b.2.2.1) (by omega);obtain⟨cl,hcl⟩:=Dd (v:=(b.2.2.2.2.1,b.2.2.2.2.2.1)) hv (by show b.2.2.2.2.2.1.length<=6;omega) (k:=k) (by show k<b.2.2.2.2.2.1.length;omega) f.2.2.1;obtain⟨t,ht,_⟩:=yL (c:Int) (k:=k) (by omega);rw[Bool.not_true,cF,hc,lP,hcl,lP,ht,lP];have hdrop:∃r,((ay b.2.2.2.2.2.2.2.2.2.1).bind λt51=>some ((b.1,b.2.1,b.2.2.1,b.2.2.2.1,b.2.2.2.2.1,b.2.2.2.2.2.1,b.2.2.2.2.2.2.1,b.2.2.2.2.2.2.2.1,b.2.2.2.2.2.2.2.2.1,t51,b.2.2.2.2.2.2.2.2.2.2),([]:List ne)))=some r/\rj r.1/\(r.1.1=b.1/\r.1.2.2.1=b.2.2.1)/\r.2.length<=6:=by
  rw[wH,lP];have s':=Df s hfb (d:=yk b.2.2.2.2.2.2.2.2.2.1) (v:=b.2.2.2.2.2.2.2.2.2.2) (Bi q4) q5
  exact⟨_,rfl,Ea (D9 s' s'.le) (s'.ok h.v),⟨rfl,rfl⟩,h06⟩
 cases t with
 | false=>rw[Bool.not_false,cT,lP,cT];exact hdrop
 | true =>
 rw[Bool.not_true,cF,lP];cases cl.2 with
 | false=>rw[Bool.not_false,cT];exact hdrop
 | true =>
 rw[Bool.not_true,cF];obtain⟨F,hF,hFB⟩:=Da hfb cl.1 f.2.1 (k:Int);rw[hF,lP,wH,lP];have s':=Df s hFB (d:=b.2.2.2.2.2.2.2.2.2.1) (v:=yk b.2.2.2.2.2.2.2.2.2.2) q4 (Bi q5)
 have hB:=Ea (D9 s' s'.le) (s'.ok h.v);cases f.1 != 0 with
 | true =>
  obtain⟨u,hu⟩:=GT hFB.n cl.1 f.1;obtain⟨o,o1,o6⟩:=Bl hn (λz=>ah b (k:Int) f (c:Int) cl u z.1 z.2) (λj out hj ho=>by
   obtain⟨o,o1,o2⟩:=FW h (k:Int) hlen (c:Int) cl (λk=>cond (decide (u<0)) (some true) (some (u==k))) (λk=>by cases decide (u<0)<;>exact⟨_,rfl⟩) hj ho;refine⟨o,o1,?_⟩;show ah b (k:Int) f (c:Int) cl u (j:Int) out=_
   unfold ah;rw[ng (by omega),cT];exact o2) (λout=>by
   show ah b (k:Int) f (c:Int) cl u (b.2.2.1.length:Int) out=_;unfold ah;rw[mG (by omega),cF])
  rw[cT,hu,lP];exact⟨_,qm o1 rfl,hB,⟨rfl,rfl⟩,o6⟩
 | false =>
  obtain⟨o,o1,o6⟩:=Bl hn (λz=>ai b (k:Int) f (c:Int) cl z.1 z.2) (λj out hj ho=>by
   obtain⟨o,o1,o2⟩:=FW h (k:Int) hlen (c:Int) cl (λk=>cond (decide ((-1:Int)<0)) (some true) (some ((-1)==k))) (λk=>⟨true,rfl⟩) hj ho;refine⟨o,o1,?_⟩;show ai b (k:Int) f (c:Int) cl (j:Int) out=_
   unfold ai;rw[ng (by omega),cT];exact o2) (λout=>by
   show ai b (k:Int) f (c:Int) cl (b.2.2.1.length:Int) out=_;unfold ai;rw[mG (by omega),cF])
  rw[cF];exact⟨_,qm o1 rfl,hB,⟨rfl,rfl⟩,o6⟩
theorem DP {n:mi} (h:yg M n):cW n=some n:=by
 have h1:n.1.length<=1048576:=h.1.1;have h2:n.2.1.length<=1048576:=h.2.1
 have h3:n.2.2.length<=1048576:=h.2.2;unfold cW;rw[pW (by show 0+n.2.1.length<=_;omega),pW (by show 0+n.2.2.length<=_;omega),nil_append,nil_append,lP,lP];obtain⟨v,e1,rfl⟩:=nl (step:=λz:Int×List lS=>bg n z.1 z.2) (λk z=>z=((k:Int),n.1.take k)) n.1.length (λv=>v=n.1)
  (λk z hk e=>by
   subst e;refine .inl ⟨_,?_,rfl⟩;have et:n.1.take (k+1)=n.1.take k++[n.1[k]]:=by rw[take_add_one,List.getElem?_eq_getElem hk];rfl
   show bg n (k:Int) (n.1.take k)=_;unfold bg;rw[ng (by omega),cT,md hk,lP,sm (h.1.2 _ (getElem_mem hk)),lP,pW (by rw[length_take];show _+1<=_;omega),lP,me (by omega),et])
  (λz e=>by
   subst e;rw[take_length];refine⟨_,?_,rfl⟩;show bg n (n.1.length:Int) n.1=_
   unfold bg;rw[mG (by omega),cF]) (x:=(0,[])) rfl
 exact qm e1 rfl
theorem DQ {n:mi} (h:yg M n):cA n=some n:=by
 have h1:n.1.length<=1048576:=h.1.1;have h2:n.2.1.length<=1048576:=h.2.1
 have h3:n.2.2.length<=1048576:=h.2.2;unfold cA;rw[pW (by show 0+n.2.1.length<=_;omega),pW (by show 0+n.2.2.length<=_;omega),nil_append,nil_append,lP,lP];obtain⟨v,e1,rfl⟩:=nl (step:=λz:Int×List lS=>aX n z.1 z.2) (λk z=>z=((k:Int),n.1.take k)) n.1.length (λv=>v=n.1)
  (λk z hk e=>by
   subst e;refine .inl ⟨_,?_,rfl⟩;have et:n.1.take (k+1)=n.1.take k++[n.1[k]]:=by rw[take_add_one,List.getElem?_eq_getElem hk];rfl
   show aX n (k:Int) (n.1.take k)=_;unfold aX;rw[ng (by omega),cT,md hk,lP,u6 (h.1.2 _ (getElem_mem hk)),lP,pW (by rw[length_take];show _+1<=_;omega),lP,me (by omega),et])
  (λz e=>by
   subst e;rw[take_length];refine⟨_,?_,rfl⟩;show aX n (n.1.length:Int) n.1=_
   unfold aX;rw[mG (by omega),cF]) (x:=(0,[])) rfl
 exact qm e1 rfl
theorem F9:dN=aO:=rfl
theorem Fa {n:mi} (hl:n.2.1.length<=1048576) (b p:Int):∃r,aO n b p=some r/\(r.2.2=true->∃x∈n.2.1,(r.1,r.2.1)=(x.1,x.2.1)\/(r.1,r.2.1)=(x.2.2.1,x.2.2.2)):=by
 obtain⟨v,e1,hv⟩:=nl (β:=Unit⊕(Int×Int×Bool)) (step:=λz=>bq n b p z) (λk i=>i=(k:Int)) n.2.1.length
  (λv=>∀r,v=Sum.inr r->∃x∈n.2.1,(r.1,r.2.1)=(x.1,x.2.1)\/(r.1,r.2.1)=(x.2.2.1,x.2.2.2))
  (λk i hk e=>by
   subst e;show (∃y,bq n b p (k:Int)=_/\_)\/_
   unfold bq;rw[ng (by omega),cT,md hk,lP,me (by omega)];have hx:n.2.1[k]∈n.2.1:=getElem_mem hk
   generalize n.2.1[k]=x at hx;have a1:cond (x.1==b) (some (x.2.1==p)) (some false)=some (x.1==b&&x.2.1==p):=by cases x.1==b<;>rfl
   have a2:cond (x.2.2.1==b) (some (x.2.2.2==p)) (some false)=some (x.2.2.1==b&&x.2.2.2==p):=by cases x.2.2.1==b<;>rfl
   rw[a1,a2];cases (x.1==b&&x.2.1==p)with
   | true=>exact .inr ⟨_,rfl,λr hr=>by cases hr;exact⟨x,hx,.inr rfl⟩⟩
   | false =>
    cases (x.2.2.1==b&&x.2.2.2==p)with
    | true=>exact .inr ⟨_,rfl,λr hr=>by cases hr;exact⟨x,hx,.inl rfl⟩⟩
    | false=>exact .inl ⟨_,rfl,rfl⟩)
  (λi e=>by
   subst e;show ∃v,bq n b p (n.2.1.length:Int)=_/\_
   unfold bq;rw[mG (by omega),cF];exact⟨_,rfl,λr hr=>by cases hr⟩) (x:=0) rfl
 unfold aO;rw[e1,lP];cases v with
 | inl u=>exact⟨_,rfl,λh=>by cases h⟩
 | inr r=>exact⟨r,rfl,λ_=>hv r rfl⟩
abbrev pG:=Int×Int×Int×Int×Int×List Int
structure FI (n:mi) (bs:List lS):Prop where
 c:bs.length=n.1.length
 ok:∀x∈bs,rj x
 id:∀i (h:i<bs.length) (k:i<n.1.length),bs[i].1=n.1[i].1/\bs[i].2.2.1=n.1[i].2.2.1
def Az (n:mi) (w:pG):Prop:=∃k:Nat,k<n.1.length/\w.1=(k:Int)
theorem FI.set {n:mi} {bs:List lS} (h:FI n bs) {i:Nat} (hi:i<bs.length) {x:lS} (hx:rj x) (h1:x.1=bs[i].1/\x.2.2.1=bs[i].2.2.1):FI n (bs.set i x):=by
 refine⟨by rw[length_set];exact h.c,λy hy=>?_,λj hj hk=>?_⟩
 · rcases List.mem_or_eq_of_mem_set hy with hy|rfl
   · exact h.ok y hy
   · exact hx
 · rw[List.getElem_set];split
   · rename_i e;subst e;obtain⟨k1,k2⟩:=h.id i hi hk;exact⟨h1.1.trans k1,h1.2.trans k2⟩
   · exact h.id j (by rwa [length_set]at hj) hk
theorem FI.ns {n:mi} (hn:yN n) {bs:List lS} (h:FI n bs):NS (bs,n.2.1,n.2.2):=⟨by have:=h.c;have:=hn.n1;show bs.length<_;omega,hn.b.s.l,λb hb=>(h.ok b hb).w.p⟩
theorem DR {n:mi} (hn:yN n) {bs:List lS} (h:FI n bs) {c q:Int} (hc:∃x∈n.2.1,(c,q)=(x.1,x.2.1)\/(c,q)=(x.2.2.1,x.2.2.2)) :
 ∃k,∃hk:k<bs.length,c=(k:Int)/\∃y,at? bs[k].2.2.1 q=some y/\bK (bs,n.2.1,n.2.2) c q=some y.1:=by
 obtain⟨x,hx,he⟩:=hc;obtain⟨h1,h2⟩:=hn.ends x hx;have key:∃y,nc n c q=some y:=by
  rcases he with he|he
  · cases he;exact h1
  · cases he;exact h2
 obtain⟨y,hy⟩:=key;have hy':=hy
 unfold nc at hy;cases hp:m3 c 0 ((n.1.length:Int)-1)with
 | false=>rw[hp]at hy;cases hy
 | true =>
  obtain⟨k,hk,ec,e⟩:=ri hp;rw[hp,e]at hy;simp only[cT]at hy;have hkb:k<bs.length:=by rw[h.c];exact hk
  obtain⟨i1,i2⟩:=h.id k hkb hk;cases hq:m3 q 0 ((n.1[k].2.2.1.length:Int)-1)with
  | false=>rw[hq]at hy;cases hy
  | true =>
   rw[hq,cT]at hy;refine⟨k,hkb,ec,y,by rw[i2];exact hy,?_⟩;rw[Hq (h.ns hn)];have:nc (bs,n.2.1,n.2.2) c q=some y:=by
    unfold nc;rw[show ((bs,n.2.1,n.2.2):mi).1=bs from rfl,h.c,hp,ec,md hkb];simp only[cT];rw[i2,hq,cT];exact hy
   rw[this]
theorem Ei {n:mi} (hn:yN n) {bs:List lS} (h:FI n bs) {i:Nat} {x:lS} {outs:List ne} (ho:outs.length<=6) {wy:pG} (hset:FI n (bs.set i x)) {got todo:List pG} (hg:got.length<=1000) (ht:todo.length<=1000) (hin:∀w∈todo,Az n w) (tP:Int) (wb:Int)
 (step:Int×List pG×List pG->Option ((Int×List pG×List pG)⊕(List pG×List pG))) (p0:uy) (hp0:p0.1=bs.set i x/\p0.2.1=n.2.1/\p0.2.2.1=n.2.2)
 (hstep:∀t g d,step (t,g,d)=cond (decide (t<(outs.length:Int)))
  ((ix outs.length t).bind λj83=>(outs[j83]?).bind λx84=>(aO (bs.set i x,n.2.1,n.2.2) wb x84.1).bind λt93 =>
   cond (!t93.2.2) ((nn g [(wb,x84.1,x84.2.1,x84.2.2.1,x84.2.2.2.1,x84.2.2.2.2)]).bind λzs108=>some (.inl (lT (t+1),zs108,d)))
    ((ix (bs.set i x).length t93.1).bind λj114=>((bs.set i x)[j114]?).bind λx116=>(at? x116.2.2.1 t93.2.1).bind λx118 =>
     cond x118.1 ((nn d [(t93.1,t93.2.1,x84.2.1,x84.2.2.1,x84.2.2.2.1,x84.2.2.2.2)]).bind λzs128=>some (.inl (lT (t+1),g,zs128))) (some (.inl (lT (t+1),g,d)))))
  (some (.inr (g,d)))) :
 ∃g d,loop step (0,got,todo)=some (g,d)/\loop (λz:Int×Int×List pG×List pG=>aG p0 wb outs z.1 z.2.1 z.2.2.1 z.2.2.2) (0,tP,todo,got)=some (tP,d,g)/\g.length<=got.length+6/\d.length<=todo.length+6/\∀w∈d,Az n w:=by
 obtain⟨b,c,e1,e2,q1,q2,q3,q4⟩:=xv (f:=step) (g:=λz:Int×Int×List pG×List pG=>aG p0 wb outs z.1 z.2.1 z.2.2.1 z.2.2.2)
  (λk u v=>∃g d,u=((k:Int),g,d)/\v=((k:Int),tP,d,g)/\g.length<=got.length+k/\d.length<=todo.length+k/\∀w∈d,Az n w) outs.length
  (λb c=>c=(tP,b.2,b.1)/\b.1.length<=got.length+6/\b.2.length<=todo.length+6/\∀w∈b.2,Az n w)
  (λk u v hk ⟨g,d,eu,ev,h1,h2,h3⟩=>by
   subst eu ev;left;rw[hstep];show ∃x' y',_=some (Sum.inl x')/\aG p0 wb outs (k:Int) tP d g=some (Sum.inl y')/\_
   unfold aG;rw[ng (by omega),cT,cT,p4 hk,lP,List.getElem?_eq_getElem hk,lP,md hk,lP,lP,hp0.1,hp0.2.1,hp0.2.2,F9,me (by omega)];obtain⟨r,r1,r2⟩:=Fa (n:=(bs.set i x,n.2.1,n.2.2)) hn.b.s.l wb outs[k].1;rw[r1,lP,lP];cases hr:r.2.2 with
   | false =>
    have hg1:∀w:pG,nn g [w]=some (g++[w]):=λw=>pW (by show g.length+1<=_;omega);simp only[Bool.not_false,cT,lP,hg1];refine⟨_,_,rfl,rfl,_,_,rfl,rfl,?_,by omega,h3⟩;rw[length_append];show g.length+1<=_;omega
   | true =>
    obtain⟨m,hm,em,y,y1,y2⟩:=DR hn hset (r2 hr);rw[Bool.not_true,cF,cF,y2,lP,em,p4 hm,lP,List.getElem?_eq_getElem hm,lP,y1,lP];cases y.1 with
    | false=>exact⟨_,_,rfl,rfl,_,_,rfl,rfl,by omega,by omega,h3⟩
    | true =>
     have hd1:∀w:pG,nn d [w]=some (d++[w]):=λw=>pW (by show d.length+1<=_;omega);simp only[cT,lP,hd1];refine⟨_,_,rfl,rfl,_,_,rfl,rfl,by omega,?_,λw hw=>?_⟩
     · rw[length_append];show d.length+1<=_;omega
     · rcases mem_append.1 hw with hw|hw
       · exact h3 w hw
       · rw[mem_singleton]at hw;subst hw;exact⟨m,by rw[hset.c]at hm;exact hm,rfl⟩)
  (λu v ⟨g,d,eu,ev,h1,h2,h3⟩=>by
   subst eu ev;rw[hstep];show ∃b c,_/\aG p0 wb outs (outs.length:Int) tP d g=some (Sum.inr c)/\_
   unfold aG;rw[mG (by omega),cF,cF];exact⟨_,_,rfl,rfl,rfl,by show g.length<=_;omega,by show d.length<=_;omega,h3⟩) outs.length 0 (0,got,todo) (0,tP,todo,got) (by omega) ⟨got,todo,rfl,rfl,by omega,by omega,hin⟩
 exact⟨b.1,b.2,e1,by rw[e2,q1],q2,q3,q4⟩

theorem G9 (id:Int) {l:List Pt} (hn:l.length<9223372036854775807) (p:Int):∃v,(∀N:mi,∀b:Int,∀a:lS,at? N.1 b=some a->a.1=id->a.2.2.1=l->bU N b p=some v)/\(∀N:mi,∀b:Int,∀a:lS,at? N.1 b=some a->a.1=id->a.2.2.1=l->bJ N b p=some v):=by
 obtain⟨c,h1,h2,h3⟩:=Ao id hn;refine⟨p5 c p,λN b a hb e1 e2=>?_,λN b a hb e1 e2=>?_⟩
 · unfold bU;rw[hb,lP,lP,e1,e2,h2,lP,FT h1,lP]
 · unfold bJ;rw[hb,lP,lP,e1,e2,h3,lP,FS,lP]
def Ga (n:mi) (k:Nat) (x:Int×List pG×List Int×List pG×List lS) (y:Int×List lS×List my×List nX×List pG×List pG×List Int):Prop :=
 ∃bs todo got vis,x=((k:Int),got,vis,todo,bs)/\y=((k:Int),bs,n.2.1,n.2.2,todo,got,vis)/\FI n bs/\got.length<=6*k/\todo.length<=1+6*k/\vis.length<=k/\∀w∈todo,Az n w
theorem Dk {n:mi} (hn:yN n) {k:Nat} (hk:k<60) {bs:List lS} {w:pG} {rest got:List pG} {vis:List Int} (h:FI n bs) (hg:got.length<=6*k) (ht:rest.length<=6*k) (hv:vis.length<=k) (hin:∀u∈w::rest,Az n u) :
 ∃x' y',aA n (k:Int) got vis (w::rest) bs=some (.inl x')/\ak (k:Int) bs n.2.1 n.2.2 (w::rest) got vis=some (.inl y')/\Ga n (k+1) x' y':=by
 obtain⟨i,hi,ei⟩:=hin w (by simp);have hib:i<bs.length:=by rw[h.c];exact hi
 have hB:=h.ok _ (getElem_mem hib);obtain⟨r,r1,r2,r3,r4⟩:=Hi hB w.2.1 w.2.2;have rs:aZ bs[i] w.2.1 w.2.2=some r:=(DN hB.w hB.le w.2.1 w.2.2).trans r1
 have hset:=h.set hib r2 r3;obtain⟨v,v1,v2⟩:=G9 bs[i].1 (l:=bs[i].2.2.1) hB.w.p w.2.1;have s1:bU (bs,n.2.1,n.2.2) (i:Int) w.2.1=some v:=v1 _ _ _ (md hib) rfl rfl
 have hil:i<(bs.set i r.1).length:=by rw[length_set];exact hib
 have s2:bJ (bs.set i r.1,n.2.1,n.2.2) (i:Int) w.2.1=some v:=v2 _ _ r.1 (by
  show at? (bs.set i r.1) (i:Int)=_;rw[md hil,List.getElem_set_self]) r3.1 r3.2
 have c1:uG (w::rest).length 1 ((w::rest).length:Int)=some (1,(w::rest).length):=by
  unfold uG;rw[if_pos (by omega),if_pos (by rw[List.length_cons];omega),if_pos (by omega)];simp
 have cr:((w::rest).take (w::rest).length).drop 1=rest:=by rw[take_length];rfl
 have hpos:decide (((w::rest).length:Int)>0)=true:=dT (by rw[List.length_cons];omega);have h60:decide ((k:Int)<60)=true:=dT (by omega)
 have i0:ix (w::rest).length 0=some 0:=p4 (k:=0) (by simp);have hr:∀u∈rest,Az n u:=λu hu=>hin u (mem_cons_of_mem _ hu)
 have hva:∀y:Int,nn vis [y]=some (vis++[y]):=λy=>pW (by show vis.length+1<=_;omega);unfold aA ak;simp only[hpos,h60,cT,lP,i0,show (w::rest)[0]?=some w from rfl,c1,cr,ei,p4 hib,List.getElem?_eq_getElem hib,s1,s2,r1,rs,hva,me (show k<9223372036854775807 by omega)];cases v with
 | true =>
  obtain⟨g,d,o1,o2,o3,o4,o5⟩:=Ei hn h (i:=i) (x:=r.1) (outs:=r.2) r4 (wy:=w) hset (got:=got) (todo:=rest) (by omega) (by omega) hr (((k+1:Nat)):Int) w.1
   (λz=>cY n bs w r i z.1 z.2.1 z.2.2) (bs.set i r.1,n.2.1,n.2.2,rest,got,vis++[(i:Int)],((k+1:Nat):Int)) ⟨rfl,rfl,rfl⟩ (λt g d=>by
    show cY n bs w r i t g d=_;unfold cY;rfl)
  rw[ei]at o2;simp only[cT,lP];unfold bL;simp only[o1,o2,lP];exact⟨_,_,rfl,rfl,bs.set i r.1,d,g,vis++[(i:Int)],rfl,rfl,hset,by omega,by omega,by rw[length_append];show vis.length+1<=_;omega,o5⟩
 | false =>
  obtain⟨g,d,o1,o2,o3,o4,o5⟩:=Ei hn h (i:=i) (x:=r.1) (outs:=r.2) r4 (wy:=w) hset (got:=got) (todo:=rest) (by omega) (by omega) hr (((k+1:Nat)):Int) w.1
   (λz=>cZ n bs w r i z.1 z.2.1 z.2.2) (bs.set i r.1,n.2.1,n.2.2,rest,got,vis,((k+1:Nat):Int)) ⟨rfl,rfl,rfl⟩ (λt g d=>by
    show cZ n bs w r i t g d=_;unfold cZ;rfl)
  rw[ei]at o2;simp only[cF,lP];unfold bL;simp only[o1,o2,lP];exact⟨_,_,rfl,rfl,bs.set i r.1,d,g,vis,rfl,rfl,hset,by omega,by omega,by omega,o5⟩
theorem GZ {n:mi} (hn:yN n) {b p:Int} {c:Nat} (hb:b=(c:Int)) (hc:c<n.1.length) (f:mO) (hbs:∀x∈n.1,rj x) :
 ∃q s,ep n b p f=some q/\loop (λz:Int×List lS×List my×List nX×List pG×List pG×List Int=>ak z.1 z.2.1 z.2.2.1 z.2.2.2.1 z.2.2.2.2.1 z.2.2.2.2.2.1 z.2.2.2.2.2.2) (0,n.1,n.2.1,n.2.2,[(b,p,f.1,f.2.1,f.2.2.1,f.2.2.2)],[],[])=some s/\s.2.2.2.2.2.2=q.2.2.1/\q.2.2.1.length<=60:=by
 obtain⟨u,s,e1,e2,q1,q2⟩:=xv (f:=λz:Int×List pG×List Int×List pG×List lS=>aA n z.1 z.2.1 z.2.2.1 z.2.2.2.1 z.2.2.2.2)
  (g:=λz:Int×List lS×List my×List nX×List pG×List pG×List Int=>ak z.1 z.2.1 z.2.2.1 z.2.2.2.1 z.2.2.2.2.1 z.2.2.2.2.2.1 z.2.2.2.2.2.2) (Ga n) 60
  (λu s=>s.2.2.2.2.2.2=u.2.2.1/\u.2.2.1.length<=60)
  (λk x y hk ⟨bs,todo,got,vis,ex,ey,h1,h2,h3,h4,h5⟩=>by
   subst ex ey;cases todo with
   | nil =>
    right;show ∃b c,aA n (k:Int) got vis [] bs=some (.inr b)/\ak (k:Int) bs n.2.1 n.2.2 [] got vis=some (.inr c)/\_
    unfold aA ak;exact⟨_,_,rfl,rfl,rfl,by show vis.length<=60;omega⟩
   | cons w rest=>exact .inl (Dk hn hk h1 h2 (by rw[List.length_cons]at h3;omega) h4 h5))
  (λx y ⟨bs,todo,got,vis,ex,ey,h1,h2,h3,h4,h5⟩=>by
   subst ex ey;show ∃b c,aA n ((60:Nat):Int) got vis todo bs=some (.inr b)/\ak ((60:Nat):Int) bs n.2.1 n.2.2 todo got vis=some (.inr c)/\_
   unfold aA ak;have h60:decide (((60:Nat):Int)<60)=false:=rfl
   rw[h60];cases decide ((todo.length:Int)>0)<;>exact⟨_,_,rfl,rfl,rfl,by show vis.length<=60;omega⟩) 60 0 (0,[],[],[(b,p,f.1,f.2.1,f.2.2.1,f.2.2.2)],n.1) (0,n.1,n.2.1,n.2.2,[(b,p,f.1,f.2.1,f.2.2.1,f.2.2.2)],[],[]) (by omega)
   ⟨n.1,_,[],[],rfl,rfl,⟨rfl,hbs,λi _ _=>⟨rfl,rfl⟩⟩,by simp,by simp,by simp,λw hw=>by rw[mem_singleton]at hw;subst hw;exact⟨c,hc,hb⟩⟩
 refine⟨_,s,qm e1 rfl,e2,q1,q2⟩
theorem Ce {n:mi} (h:s6 n) (hl:yg M n) (b p:Int) (f:mO):∃r:List Int,bW n b p f=some r/\cM n b p f=some r/\r.length<=60:=by
 have hb:=h.c;unfold bW cM eo dO;rw[D3 h.s,lP,DQ hl,lP,Hh h,Hg h,lP,lP];have none_:∀P:List Int->Prop,P []->∃r,P r:=λP h=>⟨[],h⟩
 cases hp:xu n with
 | false =>
  cases nc n b p<;>exact⟨[],rfl,rfl,by simp⟩
 | true =>
  have hR:=EW h hp;cases ho:nc n b p with
  | none =>
   refine⟨[],rfl,?_,by simp⟩;rw[ny (n:=(n.1.length:Int)-1) (by omega) (by omega),rm];unfold nc at ho;simp only[Bool.not_true,cF,lP];cases h1:m3 b 0 ((n.1.length:Int)-1)with
   | false=>rfl
   | true =>
    obtain⟨k,hk,_,e⟩:=ri h1;have hpl:=h.s.p _ (getElem_mem hk)
    rw[h1,e]at ho;simp only[cT]at ho;rw[e];simp only[Bool.not_true,cF,lP];rw[ny (n:=(n.1[k].2.2.1.length:Int)-1) (by omega) (by omega),rm];cases h2:m3 p 0 ((n.1[k].2.2.1.length:Int)-1)with
    | false=>rfl
    | true =>
     obtain⟨j,hj,_,e2⟩:=ri h2;rw[h2,cT,e2]at ho;cases ho
  | some y =>
   obtain⟨k,hk,eb,e,_⟩:∃k,∃hk:k<n.1.length,b=(k:Int)/\at? n.1[k].2.2.1 p=some y/\m3 p 0 ((n.1[k].2.2.1.length:Int)-1)=true:=by
    unfold nc at ho;cases h1:m3 b 0 ((n.1.length:Int)-1)with
    | false=>rw[h1]at ho;cases ho
    | true =>
     obtain⟨k,hk,eb,e⟩:=ri h1;rw[h1,e]at ho;simp only[cT]at ho;cases h2:m3 p 0 ((n.1[k].2.2.1.length:Int)-1)with
     | false=>rw[h2]at ho;cases ho
     | true=>rw[h2,cT]at ho;exact⟨k,hk,eb,ho,h2⟩
   rename_i hpp;have hpl:=h.s.p _ (getElem_mem hk)
   have hbs:∀x∈n.1,rj x:=λx hx=>Ea (h.w x hx) (hR.ok x hx);obtain⟨q,s,q1,q2,q3,q4⟩:=GZ hR (p:=p) eb hk f hbs;refine⟨q.2.2.1,?_,?_,q4⟩
   · simp only[cT,lP,Bool.not_true,cF,DP hl,q1]
   · rw[ny (n:=(n.1.length:Int)-1) (by omega) (by omega),rm];have h1:m3 b 0 ((n.1.length:Int)-1)=true:=by rw[eb];exact yh hk
     rw[h1,eb,md hk];simp only[Bool.not_true,cF,lP];rw[ny (n:=(n.1[k].2.2.1.length:Int)-1) (by omega) (by omega),rm,hpp];simp only[Bool.not_true,cF,lP];rw[eb]at q2;refine (congrArg (λo=>Option.bind (Option.bind o _) _) q2).trans ?_;show some s.2.2.2.2.2.2=_
     rw[q3]

end Go.V.W

