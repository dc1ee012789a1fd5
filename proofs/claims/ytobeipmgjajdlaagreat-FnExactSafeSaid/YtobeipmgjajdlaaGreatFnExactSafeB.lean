/- The law FnExactSafe: part of the proof that for every input it returns true. No condition. -/
import Derived.KernelRfl
import Derived.Test.YtobeipmgjajdlaaGreatFnExactSafe
import Derived.Test.YtobeipmgjajdlaaGreatV4
open List (any_eq_true foldl_append foldl_cons getElem_mem getElem_of_mem length_append length_replicate length_set length_take mem_append mem_cons mem_cons_of_mem mem_range range_succ take_add_one take_length)
set_option linter.unusedVariables false
set_option linter.unusedSimpArgs false
namespace Go.V.W
theorem kG {α β:Type} (a:α) (f:α->Option β):(some a).bind f=f a:=rfl
abbrev M:Nat:=1048576
abbrev In (left:Int):Prop:=0<=left/\left<=1048576
theorem In.next {left r:Int} (h:In left) (h1:0<=r) (h2:r<=left):In r:=⟨h1,by have:=h.2;omega⟩
theorem nL {n:Nat} (h:n<=M):n<=4294967295:=Nat.le_trans h (by decide)
theorem Cb {a:List Int} {left:Int} (hl:In left) (h:a.length<=maxLen):nk left (cS a left) (a.length<=M):=pa hl h
theorem CF {a:List Pt} {left:Int} (hl:In left) (h:a.length<=maxLen):nk left (cP a left) (a.length<=M):=pa hl h
theorem By {a:List ma} {left:Int} (hl:In left) (h:a.length<=maxLen):nk left (cQ a left) (a.length<=M):=pa hl h
theorem Bz {a:List nK} {left:Int} (hl:In left) (h:a.length<=maxLen):nk left (cR a left) (a.length<=M):=pa hl h
theorem Cc {a:n6} {left:Int} (hl:In left) (h:a.1.length<=maxLen/\a.2.length<=maxLen):nk left (cU a left) (a.1.length<=M/\a.2.length<=M/\True) :=
 om (Bz hl h.1) λr h1 h2=>om (Cb (hl.next h1 h2) h.2) λr h1 h2=>tY h1
def xI (n:Nat) (b:kZ):Prop:=b.2.1.length<=n/\b.2.2.1.length<=n/\b.2.2.2.1.length<=n/\b.2.2.2.2.1.length<=n/\b.2.2.2.2.2.1.length<=n
theorem AS {b:kZ} {left:Int} (hl:In left) (h:xI maxLen b):nk left (bR b left) (xI M b):=by
 obtain⟨h1,h2,h3,h4,h5⟩:=h;refine uQ (xH hl h1 λr k1 k2=>om (CF (hl.next k1 k2) h2) λr' k3 k4=>om (By ((hl.next k1 k2).next k3 k4) h3) λr'' k5 k6=>om (Cc (a:=(b.2.2.2.2.1,b.2.2.2.2.2.1)) (((hl.next k1 k2).next k3 k4).next k5 k6) ⟨h4,h5⟩) λr3 k7 k8=>tY k7) ?_;rintro⟨a1,a2,a3,⟨a4,a5,_⟩,_⟩;exact⟨a1,a2,a3,a4,a5⟩
theorem Cd {a:List Int} (h:a.length<=M):da a=some a:=rm (nL h) (AQ (nL h) 0)
theorem CG {a:List Pt} (h:a.length<=M):d5 a=some a:=rm (nL h) (qf (f:=d4) (λ_ _=>rfl) (nL h) _)
theorem BA {a:List ma} (h:a.length<=M):d7 a=some a:=rm (nL h) (qf (f:=d6) (λ_ _=>rfl) (nL h) _)
theorem BB {a:List nK} (h:a.length<=M):d9 a=some a:=rm (nL h) (qf (f:=d8) (λ_ _=>rfl) (nL h) _)
theorem Ce {a:n6} (h:a.1.length<=M/\a.2.length<=M):bS a=some a:=by
 unfold bS;rw[BB h.1,kG,Cd h.2,kG]
theorem AT {b:kZ} (h:xI M b):bq b=some b:=by
 obtain⟨h1,h2,h3,h4,h5⟩:=h;unfold bq;rw[CG h2,kG,BA h3,kG,Ce ⟨h4,h5⟩,kG]
theorem B9 (v:nG):br v v=some true:=by unfold br;simp
theorem Dg (v:Pt):bu v v=some true:=by unfold bu;simp[B9]
theorem Cf (v:ma):bv v v=some true:=by unfold bv;simp
theorem Cg (v:nK):bw v v=some true:=by unfold bw;simp
theorem Ch {a:List Int} (h:a.length<=M):dl a a=some true:=rn (AR (nL h))
theorem CH {a:List Pt} (h:a.length<=M):dj a a=some true:=rn (qg (g:=bu) (λx _=>Dg x) (nL h))
theorem BC {a:List ma} (h:a.length<=M):dk a a=some true:=rn (qg (g:=bv) (λx _=>Cf x) (nL h))
theorem BD {a:List nK} (h:a.length<=M):dn a a=some true:=rn (qg (g:=bw) (λx _=>Cg x) (nL h))
theorem Ci {a:n6} (h:a.1.length<=M/\a.2.length<=M):bT a a=some true:=by
 unfold bT;simp[BD h.1,Ch h.2]
theorem AU {b:kZ} (h:xI M b):bx b b=some true:=by
 obtain⟨h1,h2,h3,h4,h5⟩:=h;unfold bx;simp[CH h2,BC h3,Ci (a:=(b.2.2.2.2.1,b.2.2.2.2.2.1)) ⟨h4,h5⟩]
theorem zl {α β:Type} {f g:α->Option (α⊕β)} (lh:α->Prop) (h:∀x,lh x->f x=g x) (hi:∀x y,lh x->f x=some (.inl y)->lh y) {x:α} (h0:lh x):loop f x=loop g x:=by
 have key:∀k x,lh x->nA f k x=nA g k x:=by
  intro k
  induction k with
  | zero=>intro x _;rfl
  | succ k ih =>
   intro x hx;rw[nW,nW,←h x hx];cases hf:f x with
   | none=>rfl
   | some v=>cases v with
    | inl y=>exact ih y (hi x y hx hf)
    | inr b=>rfl
 have hex:(∃k,(nA f k x).isSome)↔∃k,(nA g k x).isSome:=by
  constructor<;>rintro⟨k,hk⟩<;>exact⟨k,by first|rwa [←key k x h0]|rwa [key k x h0]⟩
 by_cases hc:∃k,(nA f k x).isSome
 · obtain⟨k,hk⟩:=hc;cases hv:nA f k x with
   | none=>rw[hv]at hk;cases hk
   | some b=>rw[uh hv,uh ((key k x h0)▸hv)]
 · have hc':¬ ∃k,(nA g k x).isSome:=λh=>hc (hex.2 h);unfold loop;rw[dif_neg hc,dif_neg hc']
theorem mE {α β:Type} {f g:α->Option (α⊕β)} (h:∀x,f x=g x) (x:α):loop f x=loop g x:=by rw[funext h]
def kU (x a b:Int):Bool:=decide (x>=a)&&decide (x<=b)
theorem pg (x a b:Int):a7 x a b=some (kU x a b):=by
 unfold a7 kU;cases decide (x>=a)<;>rfl
theorem q4 (x a b:Int):a6 x a b=some (kU x a b):=pg x a b
def tZ (v:nG):Bool:=kU v.1 1 99&&(kU v.2.1 0 100000&&(kU v.2.2.1 0 10&&(kU v.2.2.2.1 1 99&&kU v.2.2.2.2 0 7)))
theorem xJ (v:nG):am v=some (tZ v):=by
 unfold am tZ;simp only[pg,kG];cases kU v.1 1 99<;>cases kU v.2.1 0 100000<;>cases kU v.2.2.1 0 10<;>cases kU v.2.2.2.1 1 99<;>rfl
theorem Cj:aJ=am:=rfl
def yz (p:Pt):Bool:=kU p.2.1 1 1000&&(!(p.2.2.1&&!p.1)&&(cond p.2.2.1 (tZ p.2.2.2) (p.2.2.2.1==0&&(p.2.2.2.2.1==0&&(p.2.2.2.2.2.1==0&&(p.2.2.2.2.2.2.1==0&&(p.2.2.2.2.2.2.2==0)))))))
theorem Dv (p:Pt):bL p=some (yz p):=by
 obtain⟨up,cost,heard,v⟩:=p;unfold bL yz;simp only[pg,xJ,kG];cases kU cost 1 1000<;>cases up<;>cases heard<;>rfl
theorem Dw (p:Pt):bC p=some (yz p):=by
 obtain⟨up,cost,heard,v⟩:=p;unfold bC yz;simp only[q4,Cj,xJ,kG];cases kU cost 1 1000<;>cases up<;>cases heard<;>rfl
theorem ox {n:Nat} {c:Int->Option Bool} {b:Nat->Bool} (hn:n<9223372036854775807) (hc:∀k,k<n->c (k:Int)=some (b k)) :
 loop (λi:Int=>cond (decide (i<(n:Int))) ((c i).bind λt=>cond t (some (.inr (.inr false))) (some (.inl (kJ (i+1))))) (some (.inr (.inl ())))) 0=some (cond ((List.range n).any b) (Sum.inr false) (Sum.inl ()):Unit⊕Bool):=by
 obtain⟨v,h1,h2⟩:=lD (β:=Unit⊕Bool) (step:=λi:Int=>cond (decide (i<(n:Int))) ((c i).bind λt=>cond t (some (.inr (.inr false))) (some (.inl (kJ (i+1))))) (some (.inr (.inl ()))))
  (λk i=>i=(k:Int)/\(List.range k).any b=false) n (λv=>v=cond ((List.range n).any b) (Sum.inr false) (Sum.inl ()))
  (λk i hk ⟨e,ha⟩=>by
   subst e;have hs:(cond (decide ((k:Int)<(n:Int))) ((c (k:Int)).bind λt=>cond t (some (.inr (.inr false))) (some (.inl (kJ ((k:Int)+1))))) (some (.inr (.inl ()))):Option (Int⊕(Unit⊕Bool)))=cond (b k) (some (.inr (.inr false))) (some (.inl ((k+1:Nat):Int))):=by
    rw[lW (by omega),cT,hc k hk,kG,lb (by omega)]
   cases hb:b k with
   | true =>
    refine .inr ⟨.inr false,by rw[hs,hb];rfl,?_⟩;have:(List.range n).any b=true:=any_eq_true.2 ⟨k,mem_range.2 hk,hb⟩
    rw[this];rfl
   | false =>
    refine .inl ⟨_,by rw[hs,hb];rfl,rfl,?_⟩;rw[range_succ,List.any_append,ha];simp[hb])
  (λi ⟨e,ha⟩=>by
   subst e;exact⟨.inl (),by rw[ls (by omega),cF],by rw[ha];rfl⟩) (x:=0) ⟨rfl,rfl⟩
 rw[h1,h2]
def vw (e:ma):Bool:=kU e.1 1 99&&(kU e.2.1 1 9999&&(kU e.2.2.1 0 7&&(kU e.2.2.2.1 0 4&&(!e.2.2.2.2||e.2.2.2.1==0))))
theorem Ba (e:ma):aY e=some (vw e):=by
 unfold aY vw;simp only[pg,kG];cases kU e.1 1 99<;>cases kU e.2.1 1 9999<;>cases kU e.2.2.1 0 7<;>cases kU e.2.2.2.1 0 4<;>cases e.2.2.2.2<;>rfl
theorem CI:bV=aY:=rfl
def su (e:ma) (tag mac:Int):Bool:=decide (e.1>tag)||(e.1==tag&&decide (e.2.1>mac))
theorem BE (e:ma) (tag mac:Int):bM e tag mac=some (su e tag mac):=by
 unfold bM su;cases decide (e.1>tag)<;>cases (e.1==tag)<;>rfl
theorem Ck (p e:ma):bB p e.1 e.2.1=some (su e p.1 p.2.1):=by
 unfold bB su;by_cases h:p.1=e.1
 · simp[h]
 · have h':¬e.1=p.1:=λk=>h k.symm;have e1:(p.1 != e.1)=true:=by simpa using h
   have e2:(e.1==p.1)=false:=by simpa using h'
   rw[e1,e2,cT,Bool.false_and,Bool.or_false]
def qP (l:List ma) (k:Nat):Bool:=match l[k]? with
 | some e=>!(vw e)||(decide (0<k)&&(match l[k-1]? with|some p=>!(su e p.1 p.2.1)|none=>false))
 | none=>false
def uR (l:List ma):Bool:=!((List.range l.length).any (qP l))&&decide ((l.length:Int)<=12)
theorem ui {α:Type} {l:List α} {k:Nat} (h:k<l.length) (hk:0<k) (hn:l.length<9223372036854775807):at? l (kJ ((k:Int)-1))=some l[k-1]:=by
 rw[lO (by omega) (by omega),show (k:Int)-1=((k-1:Nat):Int) by omega,kW (by omega)]
theorem Dh {l:List ma} (hn:l.length<9223372036854775807):cr l=some (uR l):=by
 unfold cr uR;have h:=ox (n:=l.length) (c:=λi=>(at? l i).bind λx10=>(aY x10).bind λt13=>(cond (!t13) (some true) ((cond (decide (i>0)) ((at? l (kJ (i-1))).bind λx23=>(at? l (kJ (i-1))).bind λx29=>(bM x10 x23.1 x29.2.1).bind λt32=>some (!t32)) (some false)).bind λt34=>some t34)).bind λt=>some t) (b:=qP l) hn (λk hk=>by
  simp only[kW hk,kG,Ba,qP,List.getElem?_eq_getElem hk];cases vw l[k]with
  | false=>rfl
  | true =>
   by_cases h0:0<k
   · have hd:decide ((k:Int)>0)=true:=dT (by omega);simp only[hd,ui hk h0 hn,kG,BE,dT h0,List.getElem?_eq_getElem (show k-1<l.length by omega)];rfl
   · have hd:decide ((k:Int)>0)=false:=dF (by omega);simp only[hd,dF h0];rfl)
 have e:(loop (λz=>dE l z) 0)=some (cond ((List.range l.length).any (qP l)) (Sum.inr false) (Sum.inl ())):=by
  rw[←h];refine mE (λi=>?_) 0;unfold dE;simp only[Option.bind_assoc,kG]
 rw[e,kG];cases (List.range l.length).any (qP l)<;>rfl
theorem Di {l:List ma} (hn:l.length<9223372036854775807):bW l=some (uR l):=by
 unfold bW uR;have h:=ox (n:=l.length) (c:=λi=>(at? l i).bind λx12=>(bV x12).bind λt14=>(cond (!t14) (some true) ((cond (decide (i>0)) ((at? l (kJ (i-1))).bind λx23=>(at? l i).bind λx27=>(at? l i).bind λx32=>(bB x23 x27.1 x32.2.1).bind λt35=>some (!t35)) (some false)).bind λt37=>some t37)).bind λt=>some t) (b:=qP l) hn (λk hk=>by
  simp only[kW hk,kG,CI,Ba,qP,List.getElem?_eq_getElem hk];cases vw l[k]with
  | false=>rfl
  | true =>
   by_cases h0:0<k
   · have hd:decide ((k:Int)>0)=true:=dT (by omega);simp only[hd,ui hk h0 hn,kG,Ck,dT h0,List.getElem?_eq_getElem (show k-1<l.length by omega)];rfl
   · have hd:decide ((k:Int)>0)=false:=dF (by omega);simp only[hd,dF h0];rfl)
 have e:(loop (λz=>du l z) 0)=some (cond ((List.range l.length).any (qP l)) (Sum.inr false) (Sum.inl ())):=by
  rw[←h];refine mE (λi=>?_) 0;unfold du;simp only[Option.bind_assoc,kG]
 rw[e,kG];cases (List.range l.length).any (qP l)<;>rfl

theorem Cl {v:n6} (hn:v.1.length<9223372036854775807) (id:Int):∃r,aZ v id=some r:=by
 unfold aZ;obtain⟨b,h1,_⟩:=lD (β:=Unit⊕Int) (step:=λz=>ct v id z) (λk i=>i=(k:Int)) v.1.length (λ_=>True)
  (λk i hk h=>by
   subst h;unfold ct;rw[lW (by omega),cT,kW hk,kG];cases (v.1[k].1==id)with
   | true=>exact .inr ⟨_,rfl,trivial⟩
   | false=>exact .inl ⟨_,rfl,lb (by omega)⟩)
  (λi h=>by
   subst h;unfold ct;rw[ls (by omega)];exact⟨_,rfl,trivial⟩) (x:=0) rfl
 rw[h1,kG];cases b with
 | inl _=>exact⟨_,rfl⟩
 | inr r=>exact⟨r,rfl⟩
def qC (i:Int):Int:=(2:Int)^i.toNat-1
theorem xK {i:Int} (h:kU i 1 6=true):i=1\/i=2\/i=3\/i=4\/i=5\/i=6:=by
 unfold kU at h;simp only[aT,decide_eq_true_eq]at h;omega
theorem A8 {i:Int} (h:kU i 1 6=true):cu i=some (qC i):=by
 rcases xK h with rfl|rfl|rfl|rfl|rfl|rfl<;>rfl
theorem Dj {i:Int} (h:kU i 1 6=true):∃t,shl .i64 1 (IntKind.u64.wrap i)=some t/\kJ (t-1)=qC i:=by
 rcases xK h with rfl|rfl|rfl|rfl|rfl|rfl<;>exact⟨_,rfl,rfl⟩
theorem CJ {i:Int} (h:kU i 1 6=true):1<=qC i/\qC i<=63:=by
 rcases xK h with rfl|rfl|rfl|rfl|rfl|rfl<;>decide
theorem vz (x:BitVec 64):IntKind.i64.wrap (x.toNat:Int)=x.toInt:=by
 have hx:=x.isLt;rw[BitVec.toInt_eq_toNat_cond];show (let m:=(x.toNat:Int)%18446744073709551616;if (true&&decide (m>=9223372036854775808))=true then m-18446744073709551616 else m)=_
 simp only[Bool.true_and,decide_eq_true_eq];have h1:(x.toNat:Int)%18446744073709551616=(x.toNat:Int):=by omega
 rw[h1];split<;>split<;>omega
theorem qo {b:Int} (h1:-9223372036854775808<=b) (h2:b<=9223372036854775807):(BitVec.ofInt 64 b).toInt=b:=by
 rw[BitVec.toInt_ofInt];unfold Int.bmod;simp only;split<;>omega
theorem Bb (a b:Int):qx .i64 a b=(BitVec.ofInt 64 a&&&BitVec.ofInt 64 b).toInt:=vz _
theorem CK (a b:Int):uH .i64 a b=(BitVec.ofInt 64 a &&& ~~~ BitVec.ofInt 64 b).toInt:=vz _
theorem yA (x y:BitVec 64):x&&&y=x↔x &&& ~~~ y=0:=by
 constructor
 · intro h;apply BitVec.eq_of_getLsbD_eq;intro i hi;have:=congrArg (λz=>z.getLsbD i) h
   simp only[BitVec.getLsbD_and]at this;simp only[BitVec.getLsbD_and,BitVec.getLsbD_not,BitVec.getLsbD_zero,hi,decide_true,Bool.true_and];cases hx:x.getLsbD i<;>cases hy:y.getLsbD i<;>simp_all
 · intro h;apply BitVec.eq_of_getLsbD_eq;intro i hi;have:=congrArg (λz=>z.getLsbD i) h
   simp only[BitVec.getLsbD_and,BitVec.getLsbD_not,BitVec.getLsbD_zero,hi,decide_true,Bool.true_and]at this;simp only[BitVec.getLsbD_and];cases hx:x.getLsbD i<;>cases hy:y.getLsbD i<;>simp_all
theorem A9 {b m:Int} (h1:-9223372036854775808<=b) (h2:b<=9223372036854775807):(qx .i64 b m != b)=(uH .i64 b m != 0):=by
 rw[Bb,CK];have e:((BitVec.ofInt 64 b&&&BitVec.ofInt 64 m).toInt=b)↔((BitVec.ofInt 64 b &&& ~~~ BitVec.ofInt 64 m).toInt=0):=by
  constructor
  · intro h;have:BitVec.ofInt 64 b&&&BitVec.ofInt 64 m=BitVec.ofInt 64 b:=BitVec.eq_of_toInt_eq (by rw[h,qo h1 h2])
    rw[(yA _ _).1 this];rfl
  · intro h;have:BitVec.ofInt 64 b &&& ~~~ BitVec.ofInt 64 m=0:=BitVec.eq_of_toInt_eq (by rw[h];rfl)
    rw[(yA _ _).2 this,qo h1 h2]
 by_cases h:(BitVec.ofInt 64 b&&&BitVec.ofInt 64 m).toInt=b
 · have h':=e.1 h;simp[h,h']
 · have h':¬(BitVec.ofInt 64 b &&& ~~~ BitVec.ofInt 64 m).toInt=0:=λk=>h (e.2 k);rw[bne_iff_ne.2 h,bne_iff_ne.2 h']
theorem BF {b m t:Int} (h1:-9223372036854775808<=b) (h2:b<=9223372036854775807) (hm:kU m 0 t=true) (ht:t<=63) (h:(qx .i64 b m != b)=false):kU b 0 t=true:=by
 unfold kU at hm ⊢;simp only[aT,decide_eq_true_eq]at hm ⊢;have h:qx .i64 b m=b:=by simpa using h
 rw[Bb]at h;have e:BitVec.ofInt 64 b&&&BitVec.ofInt 64 m=BitVec.ofInt 64 b:=BitVec.eq_of_toInt_eq (by rw[h,qo h1 h2])
 have hM:(BitVec.ofInt 64 m).toNat=m.toNat:=by
  rw[BitVec.toNat_ofInt];omega
 have hle:(BitVec.ofInt 64 b).toNat<=m.toNat:=by
  rw[←e,BitVec.toNat_and,hM];exact Nat.and_le_right
 have hb:(BitVec.ofInt 64 b).toInt=((BitVec.ofInt 64 b).toNat:Int):=by
  rw[BitVec.toInt_eq_toNat_cond];split<;>omega
 rw[qo h1 h2]at hb;omega
def sX (v:n6) (i:Int) (k:Nat):Bool:=match v.1[k]? with
 | some r=>!(kU r.1 1 99)||((decide (0<k)&&(match v.1[k-1]? with|some p=>decide (p.1>=r.1)|none=>false))||(!(kU r.2.1 0 (qC i))||(uH .i64 r.2.2 r.2.1 != 0)))
 | none=>false
noncomputable def uj (v:n6) (k:Nat):Bool:=match v.2[k]? with
 | some x=>(match aZ v x with|some t=>decide (t<0)|none=>false)
 | none=>false
noncomputable def sY (v:n6) (i:Int):Bool:=!(!(kU i 1 6)||((v.2.length:Int) != i||decide ((v.1.length:Int)>6)))&&(!((List.range v.1.length).any (sX v i))&&!((List.range v.2.length).any (uj v)))
theorem Aa {v:n6} {i:Int} (hi:kU i 1 6=true) (hn:v.1.length<9223372036854775807):loop (λz=>dG v i z) 0=some (cond ((List.range v.1.length).any (sX v i)) (Sum.inr false) (Sum.inl ())):=by
 rw[←ox (n:=v.1.length) (c:=λt28=>(at? v.1 t28).bind λx31 =>
  (a7 x31.1 1 99).bind λt35 =>
  (cond (!t35) (some true) ((cond (decide (t28>0)) ((at? v.1 (kJ (t28-1))).bind λx45=>some (decide (x45.1>=x31.1))) (some false)).bind λt51=>some t51)).bind λt52 =>
  (cond t52 (some true) ((cu i).bind λt57=>(a7 x31.2.1 0 t57).bind λt58=>some (!t58))).bind λt60 =>
  (cond t60 (some true) (some ((uH .i64 x31.2.2 x31.2.1) != 0))).bind λt=>some t) (b:=sX v i) hn (λk hk=>by
   simp only[kW hk,kG,pg,sX,List.getElem?_eq_getElem hk,A8 hi];cases kU v.1[k].1 1 99 with
   | false=>rfl
   | true =>
    by_cases h0:0<k
    · have hd:decide ((k:Int)>0)=true:=dT (by omega);simp only[hd,ui hk h0 hn,kG,dT h0,List.getElem?_eq_getElem (show k-1<v.1.length by omega)];cases decide (v.1[k-1].1>=v.1[k].1)<;>cases kU v.1[k].2.1 0 (qC i)<;>rfl
    · have hd:decide ((k:Int)>0)=false:=dF (by omega);simp only[hd,dF h0];cases kU v.1[k].2.1 0 (qC i)<;>rfl)]
 refine mE (λi=>?_) 0;unfold dG;simp only[Option.bind_assoc,kG]
theorem zm {v:n6} {i t:Int} (hi:kU i 1 6=true) (ht:kJ (t-1)=qC i) (hn:v.1.length<9223372036854775807) (hw:∀r∈v.1,-9223372036854775808<=r.2.2/\r.2.2<=9223372036854775807):loop (λz=>dv v t z) 0=some (cond ((List.range v.1.length).any (sX v i)) (Sum.inr false) (Sum.inl ())):=by
 rw[←ox (n:=v.1.length) (c:=λt6=>(at? v.1 t6).bind λx39 =>
  (a6 x39.1 1 99).bind λt43 =>
  (cond (!t43) (some true) ((a6 x39.2.1 0 (kJ (t-1))).bind λt49=>some (!t49))).bind λt51 =>
  (cond t51 (some true) ((a6 x39.2.2 0 (kJ (t-1))).bind λt56=>some (!t56))).bind λt58 =>
  (cond t58 (some true) (some ((qx .i64 x39.2.2 x39.2.1) != x39.2.2))).bind λt68 =>
  (cond t68 (some true) ((cond (decide (t6>0)) ((at? v.1 (kJ (t6-1))).bind λx77=>some (decide (x77.1>=x39.1))) (some false)).bind λt83=>some t83)).bind λt=>some t) (b:=sX v i) hn (λk hk=>by
   obtain⟨w1,w2⟩:=hw _ (getElem_mem hk);have hs:=A9 (m:=v.1[k].2.1) w1 w2
   have hin:=BF (m:=v.1[k].2.1) (t:=qC i) w1 w2;have ht2:=(CJ hi).2
   simp only[kW hk,kG,q4,sX,List.getElem?_eq_getElem hk,ht];rw[←hs];cases h1:kU v.1[k].1 1 99 with
   | false=>rfl
   | true =>
    cases h2:kU v.1[k].2.1 0 (qC i)with
    | false =>
     by_cases h0:0<k
     · simp only[dT h0,List.getElem?_eq_getElem (show k-1<v.1.length by omega)];cases decide (v.1[k-1].1>=v.1[k].1)<;>rfl
     · simp only[dF h0];rfl
    | true =>
     cases h3:(qx .i64 v.1[k].2.2 v.1[k].2.1 != v.1[k].2.2)with
     | true =>
      by_cases h0:0<k
      · simp only[dT h0,List.getElem?_eq_getElem (show k-1<v.1.length by omega)];cases decide (v.1[k-1].1>=v.1[k].1)<;>cases kU v.1[k].2.2 0 (qC i)<;>rfl
      · simp only[dF h0];cases kU v.1[k].2.2 0 (qC i)<;>rfl
     | false =>
      have h4:=hin h2 ht2 h3;rw[h4];by_cases h0:0<k
      · have hd:decide ((k:Int)>0)=true:=dT (by omega);simp only[hd,ui hk h0 hn,kG,dT h0,List.getElem?_eq_getElem (show k-1<v.1.length by omega)];cases decide (v.1[k-1].1>=v.1[k].1)<;>rfl
      · have hd:decide ((k:Int)>0)=false:=dF (by omega);simp only[hd,dF h0];rfl)]
 refine mE (λi=>?_) 0;unfold dv;simp only[Option.bind_assoc,kG]
theorem wz {v:n6} (hn:v.1.length<9223372036854775807) (hn2:v.2.length<9223372036854775807):loop (λz=>cw v z) 0=some (cond ((List.range v.2.length).any (uj v)) (Sum.inr false) (Sum.inl ())):=by
 rw[←ox (n:=v.2.length) (c:=λt73=>(at? v.2 t73).bind λx75=>(aZ v x75).bind λt79=>some (decide (t79<0))) (b:=uj v) hn2 (λk hk=>by
  obtain⟨r,hr⟩:=Cl hn v.2[k];simp only[kW hk,kG,uj,List.getElem?_eq_getElem hk,hr])]
 refine mE (λi=>?_) 0;unfold cw;simp only[Option.bind_assoc,kG]
theorem CL:f0=cw:=rfl
theorem CM {v:n6} (i:Int) (hn:v.1.length<9223372036854775807) (hn2:v.2.length<9223372036854775807):cz v i=some (sY v i):=by
 unfold cz sY;simp only[pg,kG];cases hi:kU i 1 6 with
 | false=>rfl
 | true =>
  rw[Aa hi hn,wz hn hn2];cases ((v.2.length:Int) != i)<;>cases decide ((v.1.length:Int)>6)<;>cases (List.range v.1.length).any (sX v i)<;>cases (List.range v.2.length).any (uj v)<;>rfl
theorem CN {v:n6} (i:Int) (hn:v.1.length<9223372036854775807) (hn2:v.2.length<9223372036854775807) (hw:∀r∈v.1,-9223372036854775808<=r.2.2/\r.2.2<=9223372036854775807):bX v i=some (sY v i):=by
 unfold bX sY;simp only[q4,kG,CL];cases hi:kU i 1 6 with
 | false=>rfl
 | true =>
  obtain⟨t,h1,h2⟩:=Dj hi;rw[h1,kG,zm hi h2 hn hw,wz hn hn2];cases ((v.2.length:Int) != i)<;>cases decide ((v.1.length:Int)>6)<;>cases (List.range v.1.length).any (sX v i)<;>cases (List.range v.2.length).any (uj v)<;>rfl
def uG (l:List Pt) (k:Nat):Bool:=match l[k]? with|some p=>!(yz p)|none=>false
def sv (b:kZ):Bool:=kU b.2.2.2.2.2.2.1 0 1000000&&(kU b.2.2.2.2.2.2.2.1 0 1000000&&(kU b.2.2.2.2.2.2.2.2.1 0 1000000&&(kU b.2.2.2.2.2.2.2.2.2.1 0 1000000&&kU b.2.2.2.2.2.2.2.2.2.2 0 1000000)))
noncomputable def oe (b:kZ):Bool:=!((List.range b.2.2.1.length).any (uG b.2.2.1))&&(kU b.1 1 99&&(!(decide ((b.2.1.length:Int)>10))&&(kU (b.2.2.1.length:Int) 1 6&&(uR b.2.2.2.1&&(sY (b.2.2.2.2.1,b.2.2.2.2.2.1) (b.2.2.1.length:Int)&&sv b)))))
structure xL (b:kZ):Prop where
 p:b.2.2.1.length<9223372036854775807
 f:b.2.2.2.1.length<9223372036854775807
 v:b.2.2.2.2.1.length<9223372036854775807
 q:b.2.2.2.2.2.1.length<9223372036854775807
 r:∀r∈b.2.2.2.2.1,-9223372036854775808<=r.2.2/\r.2.2<=9223372036854775807
theorem zn {b:kZ} (h:xL b):loop (λz=>dH b z) 0=some (cond ((List.range b.2.2.1.length).any (uG b.2.2.1)) (Sum.inr false) (Sum.inl ())):=by
 rw[←ox (n:=b.2.2.1.length) (c:=λt8=>(at? b.2.2.1 t8).bind λx10=>(bL x10).bind λt13=>some (!t13)) (b:=uG b.2.2.1) h.p (λk hk=>by
  simp only[kW hk,kG,uG,List.getElem?_eq_getElem hk,Dv])]
 refine mE (λi=>?_) 0;unfold dH;simp only[Option.bind_assoc,kG]
theorem yi {b:kZ} (h:xL b):loop (λz=>dw b z) 0=some (cond ((List.range b.2.2.1.length).any (uG b.2.2.1)) (Sum.inr false) (Sum.inl ())):=by
 rw[←ox (n:=b.2.2.1.length) (c:=λt8=>(at? b.2.2.1 t8).bind λx10=>(bC x10).bind λt13=>some (!t13)) (b:=uG b.2.2.1) h.p (λk hk=>by
  simp only[kW hk,kG,uG,List.getElem?_eq_getElem hk,Dw])]
 refine mE (λi=>?_) 0;unfold dw;simp only[Option.bind_assoc,kG]
theorem BG (b:kZ):bY b=some (sv b):=by
 unfold bY sv;simp only[q4,kG];cases kU b.2.2.2.2.2.2.1 0 1000000<;>cases kU b.2.2.2.2.2.2.2.1 0 1000000<;>cases kU b.2.2.2.2.2.2.2.2.1 0 1000000<;>cases kU b.2.2.2.2.2.2.2.2.2.1 0 1000000<;>rfl
theorem Cm (n:Int):ao n=some (kU n 0 1000000):=by unfold ao;rw[pg,kG]
theorem BH {b:kZ} (h:xL b):cA b=some (oe b):=by
 unfold cA oe sv;rw[zn h,kG];cases (List.range b.2.2.1.length).any (uG b.2.2.1)with
 | true=>rfl
 | false =>
  simp only[cF,Sum.elim_inl,pg,Dh h.f,CM (v:=(b.2.2.2.2.1,b.2.2.2.2.2.1)) _ h.v h.q,Cm,kG];cases kU b.1 1 99<;>cases decide ((b.2.1.length:Int)>10)<;>cases kU (b.2.2.1.length:Int) 1 6<;>cases uR b.2.2.2.1<;>cases sY (b.2.2.2.2.1,b.2.2.2.2.2.1) (b.2.2.1.length:Int) <;>
   cases kU b.2.2.2.2.2.2.1 0 1000000<;>cases kU b.2.2.2.2.2.2.2.1 0 1000000<;>cases kU b.2.2.2.2.2.2.2.2.1 0 1000000<;>cases kU b.2.2.2.2.2.2.2.2.2.1 0 1000000<;>rfl
theorem BI {b:kZ} (h:xL b):bZ b=some (oe b):=by
 unfold bZ oe;rw[yi h,kG];cases (List.range b.2.2.1.length).any (uG b.2.2.1)with
 | true=>rfl
 | false =>
  have e:decide ((b.2.1.length:Int)<=10)=!(decide ((b.2.1.length:Int)>10)):=by
   by_cases hh:(b.2.1.length:Int)>10
   · rw[dT hh,dF (by omega)];rfl
   · rw[dF hh,dT (by omega)];rfl
  simp only[cF,Sum.elim_inl,q4,Di h.f,CN (v:=(b.2.2.2.2.1,b.2.2.2.2.2.1)) _ h.v h.q h.r,BG,kG,e];cases kU b.1 1 99<;>cases decide ((b.2.1.length:Int)>10)<;>cases kU (b.2.2.1.length:Int) 1 6<;>cases uR b.2.2.2.1<;>cases sY (b.2.2.2.2.1,b.2.2.2.2.2.1) (b.2.2.1.length:Int)<;>cases sv b<;>rfl
theorem Bc:cc=bc:=rfl
theorem Bd (a b:nG):∃r,bc a b=some r:=by
 unfold bc;cases (a.1 != b.1)<;>cases (a.2.1 != b.2.1)<;>cases (a.2.2.2.1 != b.2.2.2.1)<;>exact⟨_,rfl⟩
theorem CO:dx=bO:=rfl
theorem CP (v:nG) (c:Int):∃r,bO v c=some r:=by
 unfold bO;simp only[xJ,pg,kG];cases tZ v<;>cases kU c 1 1000<;>first|exact⟨_,rfl⟩|skip
 generalize tZ (v.1,kJ (v.2.1+c),kJ (v.2.2.1+1),v.2.2.2.1,v.2.2.2.2)=q;cases q<;>exact⟨_,rfl⟩
theorem CQ (p0:Int) (l:List Pt) (t8 t9 b0 b1 b2 b3 b4 c0 c1 c2 c3 c4:Int):dy p0 l t8 t9 b0 b1 b2 b3 b4 c0 c1 c2 c3 c4=bd p0 l t8 t9 b0 b1 b2 b3 b4 c0 c1 c2 c3 c4:=by
 unfold dy bd;rw[CO,Bc];cases h:at? l t9 with
 | none=>rfl
 | some x=>simp only[kG]
theorem zo:aQ=ai:=by
 funext p0 l
 unfold aQ ai;rw[mE (λz=>CQ p0 l _ _ _ _ _ _ _ _ _ _ _ _)]
theorem zp (p0:Int) {l:List Pt} (hn:l.length<9223372036854775807):∃r,ai p0 l=some r:=by
 unfold ai;obtain⟨b,h1,_⟩:=lD (step:=λz:Int×Int×Int×Int×Int×Int×Int×Int×Int×Int×Int×Int=>bd p0 l z.1 z.2.1 z.2.2.1 z.2.2.2.1 z.2.2.2.2.1 z.2.2.2.2.2.1 z.2.2.2.2.2.2.1 z.2.2.2.2.2.2.2.1 z.2.2.2.2.2.2.2.2.1 z.2.2.2.2.2.2.2.2.2.1 z.2.2.2.2.2.2.2.2.2.2.1 z.2.2.2.2.2.2.2.2.2.2.2)
  (λk z=>z.2.1=(k:Int)) l.length (λ_=>True)
  (λk z hk h=>by
   left;obtain⟨t7,t18,b0,b1,b2,b3,b4,c0,c1,c2,c3,c4⟩:=z;obtain rfl:t18=(k:Int):=h;unfold bd;simp only[lW (show (k:Int)<(l.length:Int) by omega),cT,kW hk,kG];rw[show kJ ((k:Int)+1)=((k+1:Nat):Int)from lb (by omega)];generalize l[k]=x;have e:(cond (!x.1) (some true) (some (!x.2.2.1)):Option Bool)=some (cond (!x.1) true (!x.2.2.1)):=by cases x.1<;>rfl
   rw[e,kG];cases (cond (!x.1) true (!x.2.2.1))with
   | true=>exact⟨_,rfl,rfl⟩
   | false =>
    obtain⟨r,hr⟩:=CP x.2.2.2 x.2.1;obtain⟨q,hq⟩:=Bd r.1 (c0,c1,c2,c3,c4);rw[cF,hr,kG,hq];cases r.2<;>cases decide (r.1.1<p0)<;>cases decide (t7<0)<;>cases q<;>exact⟨_,rfl,rfl⟩)
  (λz h=>by
   obtain⟨t7,t18,b0,b1,b2,b3,b4,c0,c1,c2,c3,c4⟩:=z;obtain rfl:t18=(l.length:Int):=h;unfold bd;simp only[ls (show ¬(l.length:Int)<(l.length:Int) by omega),cF];exact⟨_,rfl,trivial⟩) (x:=((-1),0,p0,0,0,p0,0,0,0,0,0,0)) rfl
 rw[h1,kG];exact⟨_,rfl⟩
theorem AW:aR=ak:=by
 funext id l p
 unfold aR ak;rw[zo]
theorem Be:al=aa:=by
 funext id l p
 unfold al aa;rw[zo,AW,Bc];rfl
theorem CR (id:Int) {l:List Pt} (hn:l.length<9223372036854775807) (p:Int):∃r,aa id l p=some r:=by
 obtain⟨v,hv⟩:=zp id hn;unfold aa ak;simp only[pg,kG,hv];rw[show kJ ((l.length:Int)-1)=(l.length:Int)-1 from lO (by omega) (by omega)];cases hp:kU p 0 ((l.length:Int)-1)with
 | false=>exact⟨_,rfl⟩
 | true =>
  unfold kU at hp;simp only[aT,decide_eq_true_eq]at hp;obtain⟨k,rfl⟩:∃k:Nat,p=(k:Int):=⟨p.toNat,by omega⟩;simp only[kW (show k<l.length by omega),kG];generalize l[k]'(by omega)=x;obtain⟨q,hq⟩:=Bd (v.1.1,v.1.2.1,v.1.2.2.1,v.1.2.2.2.1,(k:Int)) x.2.2.2;rw[hq];cases x.1<;>cases (v.2==(k:Int))<;>cases x.2.2.1<;>cases q<;>exact⟨_,rfl⟩
def xM (n:Nat) (l:List kZ):Prop:=l.length<=n/\∀x∈l,xI n x
theorem Ab {l:List kZ} {left:Int} (hl:In left) (h:xM maxLen l):nk left (cV l left) (xM M l):=by
 have hn:l.length<=9223372036854775807:=h.1;show nk left (let l1:=kJ (left-(l.length:Int));cond (decide (l1<0)) (some (-1)) ((loop (λz=>dV l z.1 z.2) (l1,0)).bind (Sum.elim (λd=>some d) (λr=>some r)))) _
 by_cases hle:l.length<=M
 · exact uQ (xH hl h.1 λr k1 k2=>A7 (f:=bR) (Q:=xI M) (λx hx l' h1 h2=>AS ⟨h1,h2⟩ (h.2 x hx)) (nL hle) (hl.next k1 k2)) λ⟨a,b⟩=>⟨a,b⟩
 · refine⟨-1,?_,.inl rfl⟩;show cond (decide (kJ (left-(l.length:Int))<0)) _ _=_
   have:M<l.length:=by omega
   have hM:(1048576:Int)<(l.length:Int):=by have:1048576<l.length:=this;omega
   have:=hl.2;rw[lO (by omega) (by omega),lW (by omega),cT]
theorem BJ {a:List lp} {left:Int} (hl:In left) (h:a.length<=maxLen):nk left (cW a left) (a.length<=M):=pa hl h
theorem Cn {a:List nH} {left:Int} (hl:In left) (h:a.length<=maxLen):nk left (cX a left) (a.length<=M):=pa hl h
def yB (m:Nat) (n:kK):Prop:=xM m n.1/\n.2.1.length<=m/\n.2.2.length<=m
theorem CS {n:kK} {left:Int} (hl:In left) (h:yB maxLen n):nk left (cY n left) (yB M n) :=
 uQ (om (Ab hl h.1) λr k1 k2=>om (BJ (hl.next k1 k2) h.2.1) λr' k3 k4=>om (Cn ((hl.next k1 k2).next k3 k4) h.2.2) λr'' k5 k6=>tY k5) λ⟨a,b,c,_⟩=>⟨a,b,c⟩
theorem Ac {l:List kZ} (h:xM M l):dc l=some l:=rm (nL h.1) (qf (f:=bq) (λx hx=>AT (h.2 x hx)) (nL h.1) _)
theorem BK {a:List lp} (h:a.length<=M):df a=some a:=rm (nL h) (qf (f:=de) (λ_ _=>rfl) (nL h) _)
theorem Co {a:List nH} (h:a.length<=M):dh a=some a:=rm (nL h) (qf (f:=dg) (λ_ _=>rfl) (nL h) _)
theorem CU {n:kK} (h:yB M n):aI n=some n:=by
 unfold aI;rw[Ac h.1,kG,BK h.2.1,kG,Co h.2.2,kG]
theorem Cp (v:lp):bz v v=some true:=by unfold bz;simp
theorem CV (v:nH):bA v v=some true:=by unfold bA;simp[B9]
theorem Ad {l:List kZ} (h:xM M l):dp l l=some true:=rn (qg (g:=bx) (λx hx=>AU (h.2 x hx)) (nL h.1))
theorem BL {a:List lp} (h:a.length<=M):dq a a=some true:=rn (qg (g:=bz) (λx _=>Cp x) (nL h))
theorem Cq {a:List nH} (h:a.length<=M):dt a a=some true:=rn (qg (g:=bA) (λx _=>CV x) (nL h))
theorem CW {n:kK} (h:yB M n):bU n n=some true:=by
 unfold bU;simp[Ad h.1,BL h.2.1,Cq h.2.2]
theorem Cr {n:kK} (h:Cs.wf lq n):yB maxLen n:=by
 simp only[lq,Cs.wf,CT.wf]at h;obtain⟨h1,h2,h3⟩:=h;refine⟨⟨h1.1,λb hb=>?_⟩,h2.1,h3.1⟩;obtain⟨_,k1,k2,k3,k4,k5,_⟩:=h1.2 b hb;exact⟨k1,k2.1,k3.1,k4.1,k5.1⟩
structure NS (n:kK):Prop where
 b:n.1.length<9223372036854775807
 l:n.2.1.length<=1048576
 p:∀b∈n.1,b.2.2.1.length<9223372036854775807
theorem CX {n:kK} (h:yB M n):NS n:=by
 have hM:M<9223372036854775807:=by decide
 exact⟨by have:=h.1.1;omega,h.2.1,λb hb=>by have:=(h.1.2 b hb).2.1;omega⟩
def ln (n:kK) (b p:Int):Option Pt:=cond (kU b 0 ((n.1.length:Int)-1)) (match at? n.1 b with
 | some x=>cond (kU p 0 ((x.2.2.1.length:Int)-1)) (at? x.2.2.1 p) none
 | none=>none) none
theorem o5 {α:Type} {l:List α} {i:Int} (h:kU i 0 ((l.length:Int)-1)=true):∃k:Nat,∃hk:k<l.length,i=(k:Int)/\at? l i=some l[k]:=by
 unfold kU at h;simp only[aT,decide_eq_true_eq]at h;obtain⟨k,rfl⟩:∃k:Nat,i=(k:Int):=⟨i.toNat,by omega⟩;exact⟨k,by omega,rfl,kW (by omega)⟩
theorem xN {n:kK} (h:NS n) (b p:Int):ap n b p=some (match ln n b p with|some x=>(x,true)|none=>((false,0,false,0,0,0,0,0),false)):=by
 unfold ap ln;have hb:=h.b
 simp only[pg,kG];rw[lO (n:=(n.1.length:Int)-1) (by omega) (by omega)];cases h1:kU b 0 ((n.1.length:Int)-1)with
 | false=>rfl
 | true =>
  obtain⟨k,hk,_,e⟩:=o5 h1;rw[e];simp only[kG,cT,Bool.not_true,cF];have hp:=h.p _ (getElem_mem hk)
  rw[lO (n:=((n.1[k]).2.2.1.length:Int)-1) (by omega) (by omega)];cases h2:kU p 0 (((n.1[k]).2.2.1.length:Int)-1)with
  | false=>rfl
  | true =>
   obtain⟨j,hj,_,e'⟩:=o5 h2;simp only[Bool.not_true,cF,cT,e',kG]
theorem Dx {n:kK} (h:NS n) (b p:Int):bG n b p=some (match ln n b p with|some x=>x.1|none=>false):=by
 unfold bG ln;have hb:=h.b
 simp only[q4,kG];rw[lO (n:=(n.1.length:Int)-1) (by omega) (by omega)];cases h1:kU b 0 ((n.1.length:Int)-1)with
 | false=>rfl
 | true =>
  obtain⟨k,hk,_,e⟩:=o5 h1;rw[e];simp only[kG,cT];have hp:=h.p _ (getElem_mem hk)
  rw[lO (n:=((n.1[k]).2.2.1.length:Int)-1) (by omega) (by omega)];cases h2:kU p 0 (((n.1[k]).2.2.1.length:Int)-1)with
  | false=>rfl
  | true =>
   obtain⟨j,hj,_,e'⟩:=o5 h2;simp only[cT,e',kG]
def s0 (o:Option Pt):Bool:=match o with|some x=>x.1|none=>false
def u0 (n:kK) (x:lp):Bool:=s0 (ln n x.1 x.2.1)&&s0 (ln n x.2.2.1 x.2.2.2)
def lI (n:kK) (k:Int):Bool:=cond (kU k 0 ((n.2.1.length:Int)-1)) (match at? n.2.1 k with|some x=>u0 n x|none=>false) false
theorem zq {n:kK} (h:NS n) (k:Int):az n k=some (lI n k):=by
 unfold az lI;have hl:=h.l
 simp only[pg,kG];rw[lO (n:=(n.2.1.length:Int)-1) (by omega) (by omega)];cases h1:kU k 0 ((n.2.1.length:Int)-1)with
 | false=>rfl
 | true =>
  obtain⟨j,hj,_,e⟩:=o5 h1;rw[e];simp only[kG,cT,Bool.not_true,cF,xN h,u0];generalize ln n n.2.1[j].1 n.2.1[j].2.1=a;generalize ln n n.2.1[j].2.2.1 n.2.1[j].2.2.2=b;cases a with
  | none=>cases b<;>rfl
  | some x=>cases b with
   | none=>cases hx:x.1<;>simp[s0,hx]
   | some y=>cases hx:x.1<;>simp[s0,hx]
theorem uk {n:kK} (h:NS n) (k:Int):a9 n k=some (lI n k):=by
 unfold a9 lI;have hl:=h.l
 simp only[q4,kG];rw[lO (n:=(n.2.1.length:Int)-1) (by omega) (by omega)];cases h1:kU k 0 ((n.2.1.length:Int)-1)with
 | false=>rfl
 | true =>
  obtain⟨j,hj,_,e⟩:=o5 h1;rw[e];simp only[kG,cT,Bool.not_true,cF,Dx h,u0];generalize ln n n.2.1[j].1 n.2.1[j].2.1=a;generalize ln n n.2.1[j].2.2.1 n.2.1[j].2.2.2=b;cases a with
  | none=>rfl
  | some x=>cases hx:x.1<;>cases b<;>simp[s0,hx]
def lA (n:kK) (m:Nat):List Int:=((List.range m).filter λ(k:Nat)=>lI n (k:Int)).map λ(k:Nat)=>(k:Int)
theorem qX (n:kK) (m:Nat):(lA n m).length<=m:=by
 unfold lA;rw[List.length_map];exact Nat.le_trans (List.length_filter_le _ _) (by simp)
theorem wA (n:kK) (m:Nat):lA n (m+1)=cond (lI n (m:Int)) (lA n m++[(m:Int)]) (lA n m):=by
 unfold lA;rw[range_succ,List.filter_append,List.map_append];cases h:lI n (m:Int)<;>simp[h]
theorem oD {α:Type} {xs ys:List α} (h:xs.length+ys.length<=4294967296):nh xs ys=some (xs++ys):=by
 unfold nh;rw[if_pos (show xs.length+ys.length<=tA from h)]
theorem sZ {n:kK} (h:NS n):aC n=some (lA n n.2.1.length):=by
 unfold aC;have hl:=h.l
 obtain⟨b,h1,rfl⟩:=lD (step:=λz:Int×List Int=>bf n z.1 z.2) (λk z=>z.1=(k:Int)/\z.2=lA n k) n.2.1.length (λl=>l=lA n n.2.1.length)
  (λk z hk ⟨e1,e2⟩=>by
   obtain⟨i,l⟩:=z;simp only at e1 e2;subst e1 e2;left;have hle:=qX n k
   refine⟨(kJ ((k:Int)+1),lA n (k+1)),?_,lb (by omega),rfl⟩;show bf n (k:Int) (lA n k)=_
   unfold bf;rw[lW (by omega),cT,zq h,kG,wA];cases lI n (k:Int)with
   | false=>rfl
   | true=>rw[cT,oD (by simp;omega)];rfl)
  (λz ⟨e1,e2⟩=>by
   obtain⟨i,l⟩:=z;simp only at e1 e2;subst e1 e2;refine⟨_,?_,rfl⟩;show bf n _ _=_
   unfold bf;simp only[ls (show ¬(n.2.1.length:Int)<(n.2.1.length:Int) by omega),cF]) (x:=(0,[])) ⟨rfl,rfl⟩
 rw[h1,kG]
noncomputable def o6 (id:Int) (l:List Pt) (p:Int):Int:=(aa id l p).getD 0
theorem oT (id:Int) {l:List Pt} (hn:l.length<9223372036854775807) (p:Int):aa id l p=some (o6 id l p):=by
 obtain⟨r,hr⟩:=CR id hn p;unfold o6;rw[hr];rfl
noncomputable def pD (n:kK) (k:Nat):Bool:=match n.2.1[k]? with
 | some x=>(match at? n.1 x.1,at? n.1 x.2.2.1 with
  | some a,some b=>(o6 a.1 a.2.2.1 x.2.1==2)==(o6 b.1 b.2.2.1 x.2.2.2==2)
  | _,_=>false)
 | none=>false
theorem vW {n:kK} {k:Nat} (hk:k<n.2.1.length) (h:lI n (k:Int)=true):(∃a∈n.1,at? n.1 n.2.1[k].1=some a)/\∃b∈n.1,at? n.1 n.2.1[k].2.2.1=some b:=by
 unfold lI at h;rw[kW hk]at h;cases h1:kU (k:Int) 0 ((n.2.1.length:Int)-1)with
 | false=>rw[h1]at h;cases h
 | true =>
  rw[h1]at h;simp only[cT,u0,aT]at h;have key:∀b p,s0 (ln n b p)=true->∃a∈n.1,at? n.1 b=some a:=by
   intro b p hu;unfold ln at hu;cases h2:kU b 0 ((n.1.length:Int)-1)with
   | false=>rw[h2]at hu;cases hu
   | true =>
    obtain⟨j,hj,_,e⟩:=o5 h2;exact⟨_,getElem_mem hj,e⟩
  exact⟨key _ _ h.1,key _ _ h.2⟩
theorem BM {n:kK} (h:NS n):cN n=some (!((lA n n.2.1.length).any λk=>pD n k.toNat)):=by
 unfold cN;rw[sZ h,kG];have hl:=h.l
 have hle:=qX n n.2.1.length;have hin:∀x∈lA n n.2.1.length,∃k:Nat,k<n.2.1.length/\x=(k:Int)/\lI n (k:Int)=true:=by
  intro x hx;unfold lA at hx;obtain⟨k,hk,rfl⟩:=List.mem_map.1 hx;rw[List.mem_filter,mem_range]at hk;exact⟨k,hk.1,rfl,hk.2⟩
 generalize hu:lA n n.2.1.length=u at hle hin ⊢;have e:loop (λz=>dN n u z) 0=some (cond ((List.range u.length).any λj=>match u[j]? with|some k=>pD n k.toNat|none=>false) (Sum.inr false) (Sum.inl ())):=by
  rw[←ox (n:=u.length) (c:=λt11=>(ix u.length t11).bind λj13=>(u[j13]?).bind λx14=>(at? n.2.1 x14).bind λx18=>(at? n.1 x18.1).bind λx24=>(at? n.1 x18.1).bind λx31=>(aa x24.1 x31.2.2.1 x18.2.1).bind λt36=>(at? n.1 x18.2.2.1).bind λx41=>(at? n.1 x18.2.2.1).bind λx48=>(aa x41.1 x48.2.2.1 x18.2.2.2).bind λt53=>some ((t36==2)==(t53==2))) (b:=λj=>match u[j]? with|some k=>pD n k.toNat|none=>false) (by omega) (λj hj=>by
   obtain⟨k,hk,hk2,hk3⟩:=hin u[j] (getElem_mem hj);obtain⟨⟨a,ha,ea⟩,b,hb,eb⟩:=vW hk hk3;simp only[mY hj,kG,List.getElem?_eq_getElem hj,hk2,kW hk,ea,eb,oT _ (h.p a ha),oT _ (h.p b hb),pD,Int.toNat_natCast,List.getElem?_eq_getElem hk])]
  refine mE (λi=>?_) 0;unfold dN;simp only[Option.bind_assoc,kG]
 rw[e,kG];have hany:((List.range u.length).any λj=>match u[j]? with|some k=>pD n k.toNat|none=>false)=u.any λk=>pD n k.toNat:=by
  rw[Bool.eq_iff_iff,any_eq_true,any_eq_true];constructor
  · rintro⟨j,hj,hb⟩;rw[mem_range]at hj;rw[List.getElem?_eq_getElem hj]at hb;exact⟨u[j],getElem_mem hj,hb⟩
  · rintro⟨x,hx,hb⟩;obtain⟨j,hj,rfl⟩:=List.mem_iff_getElem.1 hx;exact⟨j,mem_range.2 hj,by rw[List.getElem?_eq_getElem hj];exact hb⟩
 rw[hany];cases u.any λk=>pD n k.toNat<;>rfl
theorem BN {n:kK} (h:NS n):cp n=some (!((lA n n.2.1.length).any λk=>pD n k.toNat)):=by
 unfold cp;have hl:=h.l
 have e:loop (λz=>dD n z) 0=some (cond ((List.range n.2.1.length).any λk=>lI n (k:Int)&&pD n k) (Sum.inr false) (Sum.inl ())):=by
  rw[←ox (n:=n.2.1.length) (c:=λi3=>(a9 n i3).bind λt16=>cond (!t16) (some false) ((at? n.2.1 i3).bind λx21=>(at? n.1 x21.1).bind λx27=>(at? n.1 x21.1).bind λx34=>(al x27.1 x34.2.2.1 x21.2.1).bind λt39=>(at? n.1 x21.2.2.1).bind λx45=>(at? n.1 x21.2.2.1).bind λx52=>(al x45.1 x52.2.2.1 x21.2.2.2).bind λt57=>some ((t39==2)==(t57==2)))) (b:=λk=>lI n (k:Int)&&pD n k) (by omega) (λk hk=>by
   rw[uk h,kG];cases hu:lI n (k:Int)with
   | false=>rfl
   | true =>
    obtain⟨⟨a,ha,ea⟩,b,hb,eb⟩:=vW hk hu;simp only[Bool.not_true,cF,kW hk,kG,ea,eb,Be,oT _ (h.p a ha),oT _ (h.p b hb),pD,List.getElem?_eq_getElem hk,Bool.true_and])]
  refine mE (λi=>?_) 0;unfold dD;rw[uk h];simp only[kG];cases lI n i with
  | false=>simp only[Bool.not_false,cT,kG,cF]
  | true=>simp only[Bool.not_true,cF,Option.bind_assoc,kG]
 rw[e,kG];have hany:(lA n n.2.1.length).any (λk=>pD n k.toNat)=((List.range n.2.1.length).any λk=>lI n (k:Int)&&pD n k):=by
  unfold lA;rw[List.any_map,List.any_filter];rfl
 rw[hany];cases ((List.range n.2.1.length).any λk=>lI n (k:Int)&&pD n k)<;>rfl
def oU (l:List Int) (x:Int):Bool:=decide (x∈l)
theorem xO {l:List Int} (x:Int) (h:l.length<9223372036854775807):a8 l x=some (oU l x):=by
 obtain⟨b,h1,rfl⟩:=lD (step:=λz=>aU l x z) (λk i=>i=(k:Int)/\x∉l.take k) l.length (λb=>b=cond (oU l x) (Sum.inr true) (Sum.inl ()))
  (λk i hk ⟨e,hn⟩=>by
   subst e;have hs:aU l x (k:Int)=cond (l[k]==x) (some (.inr (.inr true))) (some (.inl ((k+1:Nat):Int))):=by
    unfold aU;rw[lW (by omega),cT,kW hk,kG,lb (by omega)]
   cases hb:(l[k]==x)with
   | true =>
    refine .inr ⟨_,by rw[hs,hb];rfl,?_⟩;have:x∈l:=by rw[←eq_of_beq hb];exact getElem_mem hk
    rw[show oU l x=true from dT this];rfl
   | false =>
    refine .inl ⟨_,by rw[hs,hb];rfl,rfl,?_⟩;rw[take_add_one,List.getElem?_eq_getElem hk,mem_append];intro h1;rcases h1 with h1|h1
    · exact hn h1
    · simp at h1;rw[h1]at hb;simp at hb)
  (λi ⟨e,hn⟩=>by
   subst e;rw[take_length]at hn;refine⟨.inl (),?_,?_⟩
   · show aU l x _=_;unfold aU;rw[ls (by omega),cF]
   · rw[show oU l x=false from dF hn];rfl) (x:=0) ⟨rfl,by simp⟩
 unfold a8;rw[h1,kG];cases oU l x<;>rfl
theorem Dk:cI=a8:=rfl
def o7 (b:Nat->Bool) (m:Nat):List Int:=((List.range m).filter b).map λ(k:Nat)=>(k:Int)
theorem t0 (b:Nat->Bool) (m:Nat):(o7 b m).length<=m:=by
 unfold o7;rw[List.length_map];exact Nat.le_trans (List.length_filter_le _ _) (by simp)
theorem zr (b:Nat->Bool) (m:Nat):o7 b (m+1)=cond (b m) (o7 b m++[(m:Int)]) (o7 b m):=by
 unfold o7;rw[range_succ,List.filter_append,List.map_append];cases h:b m<;>simp[h]
theorem nb {n:Nat} {c:Int->Option Bool} {b:Nat->Bool} (hn:n<=1048576) (hc:∀k,k<n->c (k:Int)=some (b k)) :
 loop (λz:Int×List Int=>cond (decide (z.1<(n:Int))) ((c z.1).bind λt=>cond t ((nh z.2 [z.1]).bind λzs=>some (.inl (kJ (z.1+1),zs))) (some (.inl (kJ (z.1+1),z.2)))) (some (.inr z.2))) (0,([]:List Int))=some (o7 b n):=by
 obtain⟨v,h1,rfl⟩:=lD (step:=λz:Int×List Int=>cond (decide (z.1<(n:Int))) ((c z.1).bind λt=>cond t ((nh z.2 [z.1]).bind λzs=>some (.inl (kJ (z.1+1),zs))) (some (.inl (kJ (z.1+1),z.2)))) (some (.inr z.2))) (λk z=>z.1=(k:Int)/\z.2=o7 b k) n (λl=>l=o7 b n)
  (λk z hk ⟨e1,e2⟩=>by
   obtain⟨i,l⟩:=z;simp only at e1 e2;subst e1 e2;left;have hle:=t0 b k
   refine⟨(kJ ((k:Int)+1),o7 b (k+1)),?_,lb (by omega),rfl⟩;simp only[lW (show (k:Int)<(n:Int) by omega),cT,hc k hk,kG];rw[zr];cases b k with
   | false=>rfl
   | true=>rw[cT,oD (by simp;omega)];rfl)
  (λz ⟨e1,e2⟩=>by
   obtain⟨i,l⟩:=z;simp only at e1 e2;subst e1 e2;exact⟨_,by simp only[ls (show ¬(n:Int)<(n:Int) by omega),cF],rfl⟩) (x:=(0,[])) ⟨rfl,rfl⟩
 exact h1
def mw (l:List Bool) (x:lp):Bool:=kU x.1 0 ((l.length:Int)-1)&&(kU x.2.2.1 0 ((l.length:Int)-1)&&!(l.getD x.1.toNat false==l.getD x.2.2.1.toNat false))
def ng (l:List Bool) (x:lp):List Bool:=cond (mw l x) ((l.set x.1.toNat true).set x.2.2.1.toNat true) l
def qu (n:kK) (k:Int):Option lp:=cond (kU k 0 ((n.2.1.length:Int)-1)) (at? n.2.1 k) none
def u3 (n:kK) (l:List Bool) (k:Int):List Bool:=match qu n k with|some x=>ng l x|none=>l
def pk (n:kK) (ks:List Int) (l:List Bool):List Bool:=ks.foldl (u3 n) l
def np (n:kK) (ks:List Int) (l:List Bool):Nat->List Bool
 | 0=>l
 | k+1=>pk n ks (np n ks l k)
def q8 (l:List Bool):Nat:=l.count true
theorem Ae (l:List Bool):q8 l<=l.length:=List.count_le_length
theorem ta {l:List Bool} {i:Nat} (h:l[i]?=some true):l.set i true=l:=by
 obtain⟨hi,he⟩:=List.getElem?_eq_some_iff.1 h;rw[←he];exact List.set_getElem_self hi
theorem vX {l:List Bool} {i:Nat} (h:l[i]?=some false):q8 (l.set i true)=q8 l+1:=by
 obtain⟨hi,he⟩:=List.getElem?_eq_some_iff.1 h;unfold q8;rw[List.count_set hi,he];simp
theorem n8 {n:Nat} {i:Int} (h:kU i 0 ((n:Int)-1)=true):∃k:Nat,k<n/\i=(k:Int):=by
 unfold kU at h;simp only[aT,decide_eq_true_eq]at h;exact⟨i.toNat,by omega,by omega⟩
theorem sw {n k:Nat} (h:k<n):kU (k:Int) 0 ((n:Int)-1)=true:=by
 unfold kU;rw[dT (by omega),dT (by omega)];rfl
theorem mR {l:List Bool} {k:Nat} (h:k<l.length):l.getD k false=l[k]:=by
 rw[List.getD_eq_getElem?_getD,List.getElem?_eq_getElem h];rfl
theorem AX {l:List Bool} {x:lp} (h:mw l x=true):∃i,l[i]?=some false/\ng l x=l.set i true:=by
 unfold mw at h;simp only[aT,Bool.not_eq_true']at h;obtain⟨h1,h2,h3⟩:=h;obtain⟨a,ha,ea⟩:=n8 h1;obtain⟨b,hb,eb⟩:=n8 h2;have he:mw l x=true:=by unfold mw;rw[h1,h2,h3];rfl
 unfold ng;rw[he,cT,ea,eb,Int.toNat_natCast,Int.toNat_natCast];rw[ea,eb,Int.toNat_natCast,Int.toNat_natCast,mR ha,mR hb]at h3;cases va:l[a]with
 | true =>
  cases vb:l[b]with
  | true=>rw[va,vb]at h3;cases h3
  | false=>exact⟨b,by rw[List.getElem?_eq_getElem hb,vb],by rw[ta (l:=l) (i:=a) (by rw[List.getElem?_eq_getElem ha,va])]⟩
 | false =>
  cases vb:l[b]with
  | false=>rw[va,vb]at h3;cases h3
  | true =>
   refine⟨a,by rw[List.getElem?_eq_getElem ha,va],ta ?_⟩;rw[List.getElem?_set];split
   · rename_i e;subst e;exact absurd (va.symm.trans vb) (by decide)
   · rw[List.getElem?_eq_getElem hb,vb]
theorem xP (l:List Bool) (x:lp):(ng l x).length=l.length:=by
 unfold ng;cases mw l x<;>simp
theorem AY (n:kK) (l:List Bool) (k:Int):(u3 n l k).length=l.length:=by
 unfold u3;split
 · exact xP _ _
 · rfl
theorem xQ (n:kK) (ks:List Int) (l:List Bool):(pk n ks l).length=l.length:=by
 unfold pk
 induction ks generalizing l with
 | nil=>rfl
 | cons k ks ih=>rw[foldl_cons,ih,AY]
theorem qv (n:kK) (ks:List Int) (l:List Bool) (k:Nat):(np n ks l k).length=l.length:=by
 induction k with
 | zero=>rfl
 | succ k ih=>exact (xQ _ _ _).trans ih
theorem Af {n:kK} {ks:List Int} {l:List Bool} {k:Nat} (h:pk n ks (np n ks l k)=np n ks l k) (j:Nat):np n ks l (k+j)=np n ks l k:=by
 induction j with
 | zero=>rfl
 | succ j ih=>show pk n ks (np n ks l (k+j))=_;rw[ih,h]
def nB (n:kK) (s:Bool×List Bool) (k:Int):Bool×List Bool:=match qu n k with
 | some x=>cond (mw s.2 x) (true,ng s.2 x) s
 | none=>s
theorem AZ (n:kK) (s:Bool×List Bool) (k:Int):(nB n s k).2.length=s.2.length:=by
 unfold nB;split
 · cases mw s.2 _ with
   | false=>rfl
   | true=>exact xP _ _
 · rfl
theorem BO (n:kK) (s:Bool×List Bool) (k:Int):(nB n s k).2=u3 n s.2 k/\(((nB n s k).1=s.1/\(nB n s k).2=s.2)\/((nB n s k).1=true/\q8 (nB n s k).2=q8 s.2+1)):=by
 unfold nB u3;cases qu n k with
 | none=>exact⟨rfl,.inl ⟨rfl,rfl⟩⟩
 | some x =>
  show (cond (mw s.2 x) (true,ng s.2 x) s).2=_/\(((cond (mw s.2 x) (true,ng s.2 x) s).1=_/\(cond (mw s.2 x) (true,ng s.2 x) s).2=_)\/((cond (mw s.2 x) (true,ng s.2 x) s).1=true/\q8 (cond (mw s.2 x) (true,ng s.2 x) s).2=_));cases he:mw s.2 x with
  | false=>exact⟨by show s.2=ng s.2 x;unfold ng;rw[he];rfl,.inl ⟨rfl,rfl⟩⟩
  | true =>
   obtain⟨i,h1,h2⟩:=AX he;exact⟨rfl,.inr ⟨rfl,by show q8 (ng s.2 x)=_;rw[h2,vX h1]⟩⟩
theorem B0 (n:kK) (ks:List Int):∀s:Bool×List Bool,(ks.foldl (nB n) s).2=pk n ks s.2/\(((ks.foldl (nB n) s).1=s.1/\(ks.foldl (nB n) s).2=s.2)\/((ks.foldl (nB n) s).1=true/\q8 s.2<q8 (ks.foldl (nB n) s).2)):=by
 unfold pk
 induction ks with
 | nil=>exact λs=>⟨rfl,.inl ⟨rfl,rfl⟩⟩
 | cons k ks ih =>
  intro s;obtain⟨a1,a2⟩:=BO n s k;obtain⟨b1,b2⟩:=ih (nB n s k);rw[foldl_cons,foldl_cons,←a1];refine⟨b1,?_⟩;rcases a2 with ⟨a2,a3⟩|⟨a2,a3⟩
  · rcases b2 with ⟨b2,b3⟩|⟨b2,b3⟩
    · exact .inl ⟨b2.trans a2,b3.trans a3⟩
    · exact .inr ⟨b2,by rw[a3]at b3;exact b3⟩
  · rcases b2 with ⟨b2,b3⟩|⟨b2,b3⟩
    · exact .inr ⟨b2.trans a2,by rw[b3,a3];omega⟩
    · exact .inr ⟨b2,by omega⟩
theorem CY {n:kK} {ks:List Int} (hl:n.2.1.length<=1048576) (hk:ks.length<=1048576) (c:Bool) (l:List Bool) (h:l.length<=1048576) :
 loop (λz=>aD n ks z.1 z.2.1 z.2.2) (c,0,l)=some (ks.foldl (nB n) (c,l)):=by
 obtain⟨v,h1,rfl⟩:=lD (step:=λz:Bool×Int×List Bool=>aD n ks z.1 z.2.1 z.2.2) (λk z=>z.2.1=(k:Int)/\(z.1,z.2.2)=(ks.take k).foldl (nB n) (c,l)/\z.2.2.length=l.length) ks.length (λv=>v=ks.foldl (nB n) (c,l))
  (λk z hk' ⟨e1,e2,e3⟩=>by
   obtain⟨t,i,m⟩:=z;simp only at e1 e2 e3;subst e1;left;refine⟨((nB n (t,m) ks[k]).1,((k+1:Nat):Int),(nB n (t,m) ks[k]).2),?_,rfl,?_,by show (nB n (t,m) ks[k]).2.length=_;rw[AZ];exact e3⟩
   · show aD n ks t (k:Int) m=_;unfold aD;rw[lW (by omega),cT,kW hk',kG,pg,kG,lb (by omega),lO (n:=(n.2.1.length:Int)-1) (by omega) (by omega)];unfold nB qu;cases hin:kU ks[k] 0 ((n.2.1.length:Int)-1)with
     | false=>rfl
     | true =>
      obtain⟨j,hj,ej,aj⟩:=o5 hin;rw[Bool.not_true,cF,cT,aj,kG,lO (n:=(m.length:Int)-1) (by omega) (by omega)];simp only[pg,kG];show _=some (Sum.inl ((cond (mw m n.2.1[j]) (true,ng m n.2.1[j]) (t,m)).1,((k+1:Nat):Int),(cond (mw m n.2.1[j]) (true,ng m n.2.1[j]) (t,m)).2))
      generalize n.2.1[j]=x;cases h1:kU x.1 0 ((m.length:Int)-1)with
      | false=>rw[show mw m x=false by unfold mw;rw[h1];rfl];rfl
      | true =>
       cases h2:kU x.2.2.1 0 ((m.length:Int)-1)with
       | false=>rw[show mw m x=false by unfold mw;rw[h1,h2];rfl];rfl
       | true =>
        obtain⟨a,ha,ea⟩:=n8 h1;obtain⟨b,hb,eb⟩:=n8 h2;have hed:mw m x=!(m[a]==m[b]):=by unfold mw;rw[h1,h2,ea,eb,Int.toNat_natCast,Int.toNat_natCast,mR ha,mR hb];rfl
        have had:mw m x=true->ng m x=(m.set a true).set b true:=by intro h;unfold ng;rw[h,ea,eb];rfl
        rw[ea,eb];simp only[cT,kG,mY ha,mY hb,List.getElem?_eq_getElem ha,List.getElem?_eq_getElem hb,length_set,←hed];cases he:mw m x with
        | false=>rfl
        | true =>
         rw[had he];simp only[cT];rw[List.getElem?_eq_getElem (show b<(m.set a true).length by rw[length_set];exact hb),kG]
   · show nB n (t,m) ks[k]=_;rw[take_add_one,List.getElem?_eq_getElem hk',foldl_append,←e2];rfl)
  (λz ⟨e1,e2,e3⟩=>by
   obtain⟨t,i,m⟩:=z;simp only at e1 e2 e3;subst e1;rw[take_length]at e2;refine⟨(t,m),?_,e2⟩;show aD n ks t _ m=_
   unfold aD;rw[ls (by omega),cF]) (x:=(c,0,l)) ⟨rfl,rfl,rfl⟩
 exact h1
theorem CZ {n:kK} {ks:List Int} (hl:n.2.1.length<=1048576) (hk:ks.length<=1048576) (l:List Bool) (h:l.length<=1048576) (h0:1<=q8 l) :
 loop (λz=>bh n ks z.1 z.2) (true,l)=some (np n ks l l.length):=by
 obtain⟨v,h1,rfl⟩:=lD (step:=λz:Bool×List Bool=>bh n ks z.1 z.2) (λk z=>z.2=np n ks l k/\(z.1=true->k+1<=q8 z.2)/\(z.1=false->pk n ks z.2=z.2)) l.length (λv=>v=np n ks l l.length)
  (λk z hk' ⟨e1,e2,e3⟩=>by
   obtain⟨t,m⟩:=z;simp only at e1 e2 e3;have hm:m.length=l.length:=by rw[e1,qv]
   cases t with
   | false =>
    right;refine⟨m,rfl,?_⟩;have e:=e3 rfl
    rw[e1]at e;have:=Af e (l.length-k)
    rw[show k+(l.length-k)=l.length by omega]at this;rw[this];exact e1
   | true =>
    left;have hc:=e2 rfl
    refine⟨ks.foldl (nB n) (false,m),?_,?_⟩
    · show bh n ks true m=_;unfold bh;rw[cT,CY hl hk false m (by omega),kG]
    · obtain⟨b1,b2⟩:=B0 n ks (false,m);refine⟨by rw[b1];show pk n ks m=pk n ks (np n ks l k);rw[e1],λht=>?_,λhf=>?_⟩
      · rcases b2 with ⟨b2,_⟩|⟨_,b3⟩
        · rw[b2]at ht;cases ht
        · have b3':q8 m<_:=b3;omega
      · rcases b2 with ⟨_,b3⟩|⟨b2,_⟩
        · rw[b3];exact b1.symm.trans b3
        · rw[b2]at hf;cases hf)
  (λz ⟨e1,e2,e3⟩=>by
   obtain⟨t,m⟩:=z;simp only at e1 e2 e3;have hm:m.length=l.length:=by rw[e1,qv]
   cases t with
   | false=>exact⟨m,rfl,e1⟩
   | true =>
    have:=e2 rfl;have:=Ae m
    omega) (x:=(true,l)) ⟨rfl,λ_=>by show 0+1<=q8 l;omega,λh=>by cases h⟩
 exact h1

structure pL (X:List Int) (l:List Bool):Prop where
 r:∀x∈X,∃k:Nat,k<l.length/\x=(k:Int)
 m:∀k,k<l.length->l[k]?=some (oU X (k:Int))
 c:X.length=q8 l
theorem pL.len {X:List Int} {l:List Bool} (h:pL X l):X.length<=l.length:=by rw[h.c];exact Ae l
theorem pL.add {X:List Int} {l:List Bool} (h:pL X l) {i:Nat} (hi:l[i]?=some false):pL (X++[(i:Int)]) (l.set i true):=by
 obtain⟨hi',he⟩:=List.getElem?_eq_some_iff.1 hi;refine⟨λx hx=>?_,λk hk=>?_,?_⟩
 · rw[length_set];rcases mem_append.1 hx with hx|hx
   · exact h.r x hx
   · simp at hx;exact⟨i,hi',hx⟩
 · rw[length_set]at hk;rw[List.getElem?_set];split
   · rename_i e;subst e;rw[show oU (X++[(i:Int)]) (i:Int)=true from dT (by simp)]
   · rename_i e;rw[h.m k hk]
     congr 1
     unfold oU;apply decide_eq_decide.2;rw[mem_append,List.mem_singleton];constructor
     · exact .inl
     · rintro (h|h)
       · exact h
       · omega
 · rw[length_append,vX hi,h.c];rfl
theorem pL.in {X:List Int} {l:List Bool} (h:pL X l) {x:Int} (hx:oU X x=true):kU x 0 ((l.length:Int)-1)=true:=by
 obtain⟨k,hk,rfl⟩:=h.r x (of_decide_eq_true hx);exact sw hk
theorem Ag {n:kK} (hb:n.1.length<=1048576) (hl:n.2.1.length<=1048576) {ks:List Int} {k:Nat} (hk:k<ks.length) (hks:ks.length<=1048576) {X:List Int} {l:List Bool} (hn:l.length=n.1.length) (h:pL X l) :
 ∃Y,aV n ks (k:Int) X=some (.inl (((k+1:Nat):Int),Y))/\pL Y (u3 n l ks[k]):=by
 have hX:=h.len;have hs:∀x,a8 X x=some (oU X x):=λx=>xO x (by omega)
 have hs1:∀y x,a8 (X++[y]) x=some (oU (X++[y]) x):=λy x=>xO x (by rw[length_append];show X.length+1<_;omega);have ha1:∀y:Int,nh X [y]=some (X++[y]):=λy=>oD (by show X.length+1<=_;omega)
 unfold aV;rw[lW (by omega),cT,kW hk,kG,q4,kG,lb (by omega),lO (n:=(n.2.1.length:Int)-1) (by omega) (by omega),lO (n:=(n.1.length:Int)-1) (by omega) (by omega)];unfold u3 qu;cases hin:kU ks[k] 0 ((n.2.1.length:Int)-1)with
 | false=>exact⟨X,rfl,h⟩
 | true =>
  obtain⟨j,hj,ej,aj⟩:=o5 hin;rw[Bool.not_true,cF,kG,cT,aj,kG];simp only[hs,hs1,ha1,q4,kG];show ∃Y,_/\pL Y (ng l n.2.1[j])
  generalize n.2.1[j]=x;have hedge:mw l x=(kU x.1 0 ((n.1.length:Int)-1)&&(kU x.2.2.1 0 ((n.1.length:Int)-1)&&!(l.getD x.1.toNat false==l.getD x.2.2.1.toNat false))):=by unfold mw;rw[hn]
  cases hA:oU X x.1 with
  | true =>
   have rA:=h.in hA;rw[hn]at rA;cases hB:oU X x.2.2.1 with
   | true =>
    have rB:=h.in hB;rw[hn]at rB;refine⟨X,rfl,?_⟩;obtain⟨a,ha,ea⟩:=n8 rA;obtain⟨b,hb',eb⟩:=n8 rB;rw[←hn]at ha hb';have va:=h.m a ha
    have vb:=h.m b hb';rw[←ea,hA,List.getElem?_eq_getElem ha]at va;rw[←eb,hB,List.getElem?_eq_getElem hb']at vb;have he:mw l x=false:=by
     rw[hedge,rA,rB,ea,eb,Int.toNat_natCast,Int.toNat_natCast,mR ha,mR hb',Option.some.inj va,Option.some.inj vb];rfl
    unfold ng;rw[he];exact h
   | false =>
    cases rB:kU x.2.2.1 0 ((n.1.length:Int)-1)with
    | false =>
     refine⟨X,rfl,?_⟩;have he:mw l x=false:=by rw[hedge,rA,rB];rfl
     unfold ng;rw[he];exact h
    | true =>
     have m1:oU (X++[x.2.2.1]) x.2.2.1=true:=dT (by simp);have m2:oU (X++[x.2.2.1]) x.1=true:=dT (mem_append.2 (.inl (of_decide_eq_true hA)))
     refine⟨X++[x.2.2.1],?_,?_⟩
     · rw[m1,m2];rfl
     obtain⟨a,ha,ea⟩:=n8 rA;obtain⟨b,hb',eb⟩:=n8 rB;rw[←hn]at ha hb';have va:=h.m a ha
     have vb:=h.m b hb';rw[←ea,hA]at va;rw[←eb,hB]at vb;have he:mw l x=true:=by
      have va':=va;have vb':=vb
      rw[List.getElem?_eq_getElem ha]at va';rw[List.getElem?_eq_getElem hb']at vb';rw[hedge,rA,rB,ea,eb,Int.toNat_natCast,Int.toNat_natCast,mR ha,mR hb',Option.some.inj va',Option.some.inj vb'];rfl
     unfold ng;rw[he,cT,ea,eb,Int.toNat_natCast,Int.toNat_natCast,ta va];exact h.add vb
  | false =>
   cases hB:oU X x.2.2.1 with
   | false =>
    refine⟨X,rfl,?_⟩;have he:mw l x=false:=by
     rw[hedge];cases rA:kU x.1 0 ((n.1.length:Int)-1)with
     | false=>rfl
     | true =>
      cases rB:kU x.2.2.1 0 ((n.1.length:Int)-1)with
      | false=>rfl
      | true =>
       obtain⟨a,ha,ea⟩:=n8 rA;obtain⟨b,hb',eb⟩:=n8 rB;rw[←hn]at ha hb';have va:=h.m a ha
       have vb:=h.m b hb';rw[←ea,hA,List.getElem?_eq_getElem ha]at va;rw[←eb,hB,List.getElem?_eq_getElem hb']at vb;rw[ea,eb,Int.toNat_natCast,Int.toNat_natCast,mR ha,mR hb',Option.some.inj va,Option.some.inj vb];rfl
    unfold ng;rw[he];exact h
   | true =>
    have rB:=h.in hB;rw[hn]at rB;cases rA:kU x.1 0 ((n.1.length:Int)-1)with
    | false =>
     refine⟨X,rfl,?_⟩;have he:mw l x=false:=by rw[hedge,rA];rfl
     unfold ng;rw[he];exact h
    | true =>
     refine⟨X++[x.1],rfl,?_⟩;obtain⟨a,ha,ea⟩:=n8 rA;obtain⟨b,hb',eb⟩:=n8 rB;rw[←hn]at ha hb';have va:=h.m a ha
     have vb:=h.m b hb';rw[←ea,hA]at va;rw[←eb,hB]at vb;have he:mw l x=true:=by
      have va':=va;have vb':=vb
      rw[List.getElem?_eq_getElem ha]at va';rw[List.getElem?_eq_getElem hb']at vb';rw[hedge,rA,rB,ea,eb,Int.toNat_natCast,Int.toNat_natCast,mR ha,mR hb',Option.some.inj va',Option.some.inj vb'];rfl
     unfold ng;rw[he,cT,ea,eb,Int.toNat_natCast,Int.toNat_natCast];have hab:(l.set a true)[b]?=some true:=by
      rw[List.getElem?_set];split
      · rfl
      · exact vb
     rw[ta hab];exact h.add va
theorem D1 {n:kK} (hb:n.1.length<=1048576) (hl:n.2.1.length<=1048576) {ks:List Int} (hks:ks.length<=1048576) {X:List Int} {l:List Bool} (hn:l.length=n.1.length) (h:pL X l) :
 ∃Y,cj n ks X=some Y/\pL Y (pk n ks l):=by
 have hX:=h.len;obtain⟨v,h1,h2⟩:=lD (step:=λz:Int×List Int=>aV n ks z.1 z.2) (λk z=>z.1=(k:Int)/\pL z.2 (pk n (ks.take k) l)) ks.length (λv=>pL v (pk n ks l))
  (λk z hk ⟨e1,e2⟩=>by
   obtain⟨i,Z⟩:=z;simp only at e1 e2;subst e1;obtain⟨Y,hY,hr⟩:=Ag hb hl hk hks (by rw[xQ];exact hn) e2;refine .inl ⟨_,hY,rfl,?_⟩;have:pk n (ks.take (k+1)) l=u3 n (pk n (ks.take k) l) ks[k]:=by
    unfold pk;rw[take_add_one,List.getElem?_eq_getElem hk,foldl_append];rfl
   rw[this];exact hr)
  (λz ⟨e1,e2⟩=>by
   obtain⟨i,Z⟩:=z;simp only at e1 e2;subst e1;rw[take_length]at e2;refine⟨Z,?_,e2⟩;show aV n ks _ Z=_
   unfold aV;rw[ls (by omega),cF]) (x:=(0,X)) ⟨rfl,h⟩
 unfold cj;rw[oD (by show 0+X.length<=_;omega),kG,List.nil_append,h1,kG];exact⟨v,rfl,h2⟩
theorem BP {n:kK} (hb:n.1.length<=1048576) (hl:n.2.1.length<=1048576) {ks:List Int} (hks:ks.length<=1048576) {X:List Int} {l:List Bool} (hn:l.length=n.1.length) (h:pL X l) :
 ∃Y,loop (λz=>av n ks z.1 z.2) (0,X)=some Y/\pL Y (np n ks l l.length):=by
 obtain⟨v,h1,h2⟩:=lD (step:=λz:Int×List Int=>av n ks z.1 z.2) (λk z=>z.1=(k:Int)/\pL z.2 (np n ks l k)) n.1.length (λv=>pL v (np n ks l n.1.length))
  (λk z hk ⟨e1,e2⟩=>by
   obtain⟨i,Z⟩:=z;simp only at e1 e2;subst e1;obtain⟨Y,hY,hr⟩:=D1 hb hl hks (by rw[qv];exact hn) e2;refine .inl ⟨(((k+1:Nat):Int),Y),?_,rfl,hr⟩;show av n ks (k:Int) Z=_
   unfold av;rw[lW (by omega),cT,hY,kG,lb (by omega)])
  (λz ⟨e1,e2⟩=>by
   obtain⟨i,Z⟩:=z;simp only at e1 e2;subst e1;refine⟨Z,?_,e2⟩;show av n ks _ Z=_
   unfold av;rw[ls (by omega),cF]) (x:=(0,X)) ⟨rfl,h⟩
 rw[hn];exact⟨v,h1,h2⟩
def start (n:Nat) (b:Nat):List Bool:=(List.replicate n false).set b true
def og (n:kK) (b:Int) (ks:List Int):List Int:=cond (kU b 0 ((n.1.length:Int)-1)) (o7 (λk=>(np n ks (start n.1.length b.toNat) n.1.length).getD k false) n.1.length) []
theorem qw (n:kK) (b:Int) (ks:List Int):(og n b ks).length<=n.1.length:=by
 unfold og;cases kU b 0 ((n.1.length:Int)-1)with
 | false=>exact Nat.zero_le _
 | true=>exact t0 _ _
theorem wB (n b:Nat):(start n b).length=n:=by unfold start;simp
theorem ul {n:kK} (hb:n.1.length<=1048576) (hl:n.2.1.length<=1048576) (b:Int) {ks:List Int} (hks:ks.length<=1048576):ah n b ks=some (og n b ks):=by
 unfold ah og;rw[pg,kG,lO (n:=(n.1.length:Int)-1) (by omega) (by omega)];cases hin:kU b 0 ((n.1.length:Int)-1)with
 | false=>rfl
 | true =>
  obtain⟨k,hk,rfl⟩:=n8 hin;have e0:(List.replicate n.1.length false)[k]?=some false:=by rw[List.getElem?_replicate,if_pos hk]
  have hlen:(start n.1.length k).length=n.1.length:=wB _ _;have h1:1<=q8 (start n.1.length k):=by unfold start;rw[vX e0];omega
  rw[Bool.not_true,cF,wy (by omega),kG,length_replicate,mY hk,kG,e0,kG];show (loop (λz=>bh n ks z.1 z.2) (true,start n.1.length k)).bind _=_
  rw[CZ hl hks _ (by omega) h1,kG,hlen,Int.toNat_natCast,cT];have hp:(np n ks (start n.1.length k) n.1.length).length=n.1.length:=by rw[qv,hlen]
  generalize np n ks (start n.1.length k) n.1.length=d at hp ⊢;have hc:=nb (n:=d.length) (c:=λt=>(ix d.length t).bind λj=>(d[j]?).bind λx=>some x) (b:=λk=>d.getD k false) (by omega) (λk hk=>by
   simp only[mY hk,kG,List.getElem?_eq_getElem hk,mR hk])
  have he:loop (λz=>dK d z.1 z.2) (0,[])=some (o7 (λk=>d.getD k false) d.length):=by
   rw[←hc];refine mE (λz=>?_) _;unfold dK;simp only[Option.bind_assoc,kG]
  rw[he,kG,hp]
theorem um {n:kK} (hb:n.1.length<=1048576) (hl:n.2.1.length<=1048576) (b:Int) {ks:List Int} (hks:ks.length<=1048576):af n b ks=some (og n b ks):=by
 unfold af og;rw[q4,kG,lO (n:=(n.1.length:Int)-1) (by omega) (by omega)];cases hin:kU b 0 ((n.1.length:Int)-1)with
 | false=>rfl
 | true =>
  obtain⟨k,hk,rfl⟩:=n8 hin;have e0:(List.replicate n.1.length false)[k]?=some false:=by rw[List.getElem?_replicate,if_pos hk]
  have hlen:(start n.1.length k).length=n.1.length:=wB _ _;have hr:pL ([]:List Int) (List.replicate n.1.length false):=by
   refine⟨λx hx=>absurd hx (List.not_mem_nil),λj hj=>?_,?_⟩
   · rw[length_replicate]at hj;rw[List.getElem?_replicate,if_pos hj];rfl
   · unfold q8;rw[List.count_replicate];rfl
  have hr':pL [(k:Int)] (start n.1.length k):=hr.add e0;obtain⟨Y,hY,hrY⟩:=BP hb hl hks hlen hr';rw[hlen]at hrY;have hp:(np n ks (start n.1.length k) n.1.length).length=n.1.length:=by rw[qv,hlen]
  rw[Bool.not_true,cF,hY,kG,cT,Int.toNat_natCast];generalize np n ks (start n.1.length k) n.1.length=d at hp hrY ⊢;have hY':=hrY.len
  have hc:=nb (n:=n.1.length) (c:=λt=>a8 Y t) (b:=λk=>d.getD k false) (by omega) (λk hk=>by
   rw[xO _ (by omega),mR (by omega)];have:=hrY.m k (by omega)
   rw[List.getElem?_eq_getElem (by omega)]at this;exact this.symm)
  have he:loop (λz=>fB n Y z.1 z.2) (0,[])=some (o7 (λk=>d.getD k false) n.1.length):=hc;rw[he,kG]

theorem D2 (id:Int) {l:List Pt} (hn:l.length<9223372036854775807) (p:Int):1<=o6 id l p:=by
 have h:=oT id hn p
 revert h
 generalize o6 id l p=v;unfold aa;rw[pg,kG];intro h;have key:∀(o:Option Bool) (f:Bool->Option Int),(∀t x,f t=some x->1<=x)->o.bind f=some v->1<=v:=by
  intro o f hf h;cases o with
  | none=>cases h
  | some t=>exact hf t v h
 refine key _ _ (λt x hx=>?_) h;cases t with
 | true=>cases hx;decide
 | false =>
  rw[cF]at hx;cases hbv:ai id l with
  | none=>rw[hbv]at hx;cases hx
  | some w =>
   rw[hbv,kG]at hx;cases hw:w.2==p with
   | true=>rw[hw]at hx;cases hx;decide
   | false =>
    rw[hw,cF]at hx;cases ha:at? l p with
    | none=>rw[ha]at hx;cases hx
    | some y =>
     rw[ha,kG]at hx
     revert hx
     generalize (cond (!y.2.2.1) _ _:Option Bool)=o;intro hx;cases o with
     | none=>cases hx
     | some t=>cases t<;>(cases hx;decide)
theorem vA {k:Nat} (h:k<64):IntKind.u64.wrap (k:Int)=(k:Int):=by
 show ((k:Int)%18446744073709551616)=_;omega
theorem D3:∀b:Fin 64,∀p:Fin 6,∃t c,shl .i64 1 (p.1:Int)=some t/\wU .i64 (b.1:Int) t=(c:Int)/\0<=c/\c<64:=by
 intro b p;have h:∀b:Fin 64,∀p:Fin 6,(decide (0<=wU .i64 (b.1:Int) (2^p.1))&&decide (wU .i64 (b.1:Int) (2^p.1)<64))=true:=by decide
 have h1:=h b p;simp only[aT,decide_eq_true_eq]at h1;have h2:∀p:Fin 6,shl .i64 1 (p.1:Int)=some (2^p.1):=by decide
 exact⟨_,_,h2 p,rfl,h1.1,h1.2⟩
theorem Ct {r:Int} (h:1<=r):decide (r<=2)=(r==1||r==2):=by
 by_cases h2:r<=2
 · rw[dT h2];rcases (show r=1\/r=2 by omega)with rfl|rfl<;>rfl
 · rw[dF h2,beq_eq_false_iff_ne.2 (show r≠1 by omega),beq_eq_false_iff_ne.2 (show r≠2 by omega)];rfl
theorem vB (id:Int) {l:List Pt} (hn:l.length<9223372036854775807) (z:Int×Int) (hz:0<=z.2):bH id l z.1 z.2=ae id l z.1 z.2:=by
 unfold bH ae;rw[Be,oT id hn,kG];have hr:=D2 id hn z.2
 by_cases h1:z.2<(l.length:Int)
 · rw[lW h1,cT];by_cases h2:z.2<6
   · rw[lW h2,kG,kG,cT,cT,kG,Ct hr];obtain⟨k,hk⟩:∃k:Nat,z.2=(k:Int):=⟨z.2.toNat,by omega⟩;rw[hk,vA (by omega)];cases o6 id l (k:Int)==1<;>cases o6 id l (k:Int)==2<;>rfl
   · rw[ls h2];rfl
 · rw[ls h1];rfl
theorem Cu (id:Int) {l:List Pt} (hn:l.length<9223372036854775807):∃c:Nat,c<64/\cG id l=some (c:Int)/\cf id l=some (c:Int):=by
 obtain⟨v,h1,c,h2,rfl⟩:=lD (step:=λz:Int×Int=>ae id l z.1 z.2) (λk z=>z.2=(k:Int)/\∃c:Nat,c<64/\z.1=(c:Int)) (min l.length 6) (λv=>∃c:Nat,c<64/\v=(c:Int))
  (λk z hk ⟨e1,c,e2,e3⟩=>by
   obtain⟨b,i⟩:=z;simp only at e1 e3;subst e1 e3;left;have k6:k<6:=by omega
   obtain⟨t,d,b1,b2,b3,b4⟩:=D3 ⟨c,e2⟩ ⟨k,k6⟩;have hs:ae id l (c:Int) (k:Int)=cond (o6 id l (k:Int)==1||o6 id l (k:Int)==2) (some (.inl ((d:Int),((k+1:Nat):Int)))) (some (.inl ((c:Int),((k+1:Nat):Int)))):=by
    unfold ae;rw[lW (show (k:Int)<(l.length:Int) by omega),lW (show (k:Int)<6 by omega),cT,kG,cT,oT id hn,kG,b1,kG,b2,lb (by omega)];cases o6 id l (k:Int)==1<;>cases o6 id l (k:Int)==2<;>rfl
   show ∃y,ae id l (c:Int) (k:Int)=_/\_;rw[hs];cases (o6 id l (k:Int)==1||o6 id l (k:Int)==2)with
   | true=>exact⟨_,rfl,rfl,d.toNat,by omega,by show d=_;omega⟩
   | false=>exact⟨_,rfl,rfl,c,e2,rfl⟩)
  (λz ⟨e1,c,e2,e3⟩=>by
   obtain⟨b,i⟩:=z;simp only at e1 e3;subst e1 e3;refine⟨(c:Int),?_,c,e2,rfl⟩;show ae id l _ _=_
   unfold ae;by_cases h:l.length<=6
   · rw[Nat.min_eq_left h,ls (by omega)];rfl
   · rw[Nat.min_eq_right (by omega),lW (by omega),ls (show ¬(((6:Nat):Int)<6) by omega)];rfl) (x:=(0,0)) ⟨rfl,0,by omega,rfl⟩
 refine⟨c,h2,by unfold cG;rw[h1];rfl,?_⟩;unfold cf;rw[zl (f:=λz:Int×Int=>bH id l z.1 z.2) (g:=λz:Int×Int=>ae id l z.1 z.2) (λz=>0<=z.2/\z.2<=9223372036854775806) (λz hz=>vB id hn z hz.1) (λz y hz hy=>by
  have hy':bH id l z.1 z.2=some (.inl y):=hy;rw[vB id hn z hz.1]at hy';unfold ae at hy';by_cases h1:z.2<(l.length:Int)
  · by_cases h2:z.2<6
    · rw[lW h1,lW h2,cT,kG,cT,oT id hn,kG]at hy';have hw:kJ (z.2+1)=z.2+1:=lO (by omega) (by omega)
      rw[hw]at hy'
      revert hy'
      generalize (cond (o6 id l z.2==1) (some true) (some (o6 id l z.2==2)))=o;intro hy';cases o with
      | none=>cases hy'
      | some t =>
       rw[kG]at hy';cases t with
       | false=>cases hy';exact⟨by show 0<=z.2+1;omega,by show z.2+1<=_;omega⟩
       | true =>
        rw[cT]at hy';cases hs:shl .i64 1 z.2 with
        | none=>rw[hs]at hy';cases hy'
        | some q=>rw[hs]at hy';cases hy';exact⟨by show 0<=z.2+1;omega,by show z.2+1<=_;omega⟩
    · rw[lW h1,ls h2]at hy';cases hy'
  · rw[ls h1]at hy';cases hy') (x:=(0,0)) ⟨by decide,by decide⟩,h1]
 rfl
def xR (c:Nat) (p:Int):Bool:=cond (kU p 0 7) (match shr .i64 (c:Int) p with|some t=>(qx .i64 t 1)==1|none=>false) false
theorem Dl (c:Nat) (p:Int):cg (c:Int) p=some (xR c p):=by
 unfold cg xR;rw[q4,kG];cases h:kU p 0 7 with
 | false=>rfl
 | true =>
  obtain⟨k,hk,rfl⟩:=n8 (n:=8) h;rw[vA (by omega),cT,cT];have:∃t,shr .i64 (c:Int) (k:Int)=some t:=by unfold shr;rw[if_neg (by omega)];exact⟨_,rfl⟩
  obtain⟨t,ht⟩:=this;rw[ht];rfl
theorem Dm {c:Nat} (hc:c<64) (p:Int):cE (c:Int) p=some (xR c p):=by
 unfold cE xR;rw[pg,kG];cases h:kU p 0 62 with
 | false =>
  have h7:kU p 0 7=false:=by
   cases h7:kU p 0 7 with
   | false=>rfl
   | true =>
    obtain⟨k,hk,rfl⟩:=n8 (n:=8) h7;have:kU (k:Int) 0 ((63:Nat)-1:Int)=true:=sw (by omega)
    exact absurd (h.symm.trans this) (by decide)
  rw[h7];rfl
 | true =>
  obtain⟨k,hk,rfl⟩:=n8 (n:=63) h;have hs:shr .i64 (c:Int) (k:Int)=some ((c:Int).fdiv (2^(min k 64))):=by unfold shr;rw[if_neg (by omega)];rfl
  rw[cT,hs,kG,kG];by_cases h7:k<8
  · rw[show kU (k:Int) 0 7=true from sw (n:=8) h7];rfl
  · rw[show kU (k:Int) 0 7=false from by unfold kU;rw[dF (show ¬(k:Int)<=7 by omega),Bool.and_false],cF];have hz:(c:Int).fdiv (2^(min k 64))=0:=by
     rw[Nat.min_eq_left (by omega)];have h2:(c:Int)<2^k:=by
      have:2^6<=2^k:=Nat.pow_le_pow_right (by decide) (by omega);have h3:c<2^k:=by omega
      exact_mod_cast h3
     rw[Int.fdiv_eq_ediv_of_nonneg _ (by exact_mod_cast Nat.zero_le _)];exact Int.ediv_eq_zero_of_lt (by omega) h2
    rw[hz];rfl

theorem tb {n:Nat} {c:Int->Option Bool} {b:Nat->Bool} (r:Bool) (hn:n<9223372036854775807) (hc:∀k,k<n->c (k:Int)=some (b k)) :
 loop (λi:Int=>cond (decide (i<(n:Int))) ((c i).bind λt=>cond t (some (.inr (.inr r))) (some (.inl (kJ (i+1))))) (some (.inr (.inl ())))) 0=some (cond ((List.range n).any b) (Sum.inr r) (Sum.inl ()):Unit⊕Bool):=by
 obtain⟨v,h1,h2⟩:=lD (β:=Unit⊕Bool) (step:=λi:Int=>cond (decide (i<(n:Int))) ((c i).bind λt=>cond t (some (.inr (.inr r))) (some (.inl (kJ (i+1))))) (some (.inr (.inl ()))))
  (λk i=>i=(k:Int)/\(List.range k).any b=false) n (λv=>v=cond ((List.range n).any b) (Sum.inr r) (Sum.inl ()))
  (λk i hk ⟨e,ha⟩=>by
   subst e;have hs:(cond (decide ((k:Int)<(n:Int))) ((c (k:Int)).bind λt=>cond t (some (.inr (.inr r))) (some (.inl (kJ ((k:Int)+1))))) (some (.inr (.inl ()))):Option (Int⊕(Unit⊕Bool)))=cond (b k) (some (.inr (.inr r))) (some (.inl ((k+1:Nat):Int))):=by
    rw[lW (by omega),cT,hc k hk,kG,lb (by omega)]
   cases hb:b k with
   | true =>
    refine .inr ⟨.inr r,by rw[hs,hb];rfl,?_⟩;have:(List.range n).any b=true:=any_eq_true.2 ⟨k,mem_range.2 hk,hb⟩
    rw[this];rfl
   | false =>
    refine .inl ⟨_,by rw[hs,hb];rfl,rfl,?_⟩;rw[range_succ,List.any_append,ha];simp[hb])
  (λi ⟨e,ha⟩=>by
   subst e;exact⟨.inl (),by rw[ls (by omega),cF],by rw[ha];rfl⟩) (x:=0) ⟨rfl,rfl⟩
 rw[h1,h2]
theorem Ah {n:kK} (h:NS n) {b:Int} {a:kZ} (ha:a∈n.1) (hb:at? n.1 b=some a) (p:Int):∃v,aB n b p=some v/\ac n b p=some v:=by
 obtain⟨c,h1,h2,h3⟩:=Cu a.1 (h.p a ha);refine⟨xR c p,?_,?_⟩
 · unfold aB;rw[hb,kG,kG,h2,kG,Dm h1,kG]
 · unfold ac;rw[hb,kG,kG,h3,kG,Dl,kG]
noncomputable def un (n:kK) (t:Int):Option Bool:=(at? n.2.1 t).bind λx12=>(az n t).bind λt16=>(cond t16 ((aB n x12.1 x12.2.1).bind λt23=>some t23) (some false)).bind λt24=>(cond t24 ((aB n x12.2.2.1 x12.2.2.2).bind λt31=>some t31) (some false))
noncomputable def vC (n:kK) (k:Nat):Bool:=(un n (k:Int)).getD false
theorem yC {n:kK} (h:NS n) {k:Nat} (hk:k<n.2.1.length):∃v,un n (k:Int)=some v/\((at? n.2.1 (k:Int)).bind λx17=>(a9 n (k:Int)).bind λt21=>(cond t21 ((ac n x17.1 x17.2.1).bind λt28=>some t28) (some false)).bind λt29=>(cond t29 ((ac n x17.2.2.1 x17.2.2.2).bind λt36=>some t36) (some false)))=some v:=by
 unfold un;rw[kW hk,kG,kG,zq h,uk h,kG,kG];cases hu:lI n (k:Int)with
 | false=>exact⟨false,rfl,rfl⟩
 | true =>
  obtain⟨⟨a,ha,ea⟩,b,hb,eb⟩:=vW hk hu;obtain⟨v,v1,v2⟩:=Ah h ha ea n.2.1[k].2.1;obtain⟨w,w1,w2⟩:=Ah h hb eb n.2.1[k].2.2.2;rw[cT,cT,v1,v2,w1,w2];cases v<;>exact⟨_,rfl,rfl⟩
noncomputable def oV (n:kK):List Int:=o7 (vC n) n.2.1.length
theorem D4 {n:kK} (h:NS n):cH n=some (oV n):=by
 have hc:=nb (n:=n.2.1.length) (c:=un n) (b:=vC n) h.l (λk hk=>by
  obtain⟨v,hv,_⟩:=yC h hk;unfold vC;rw[hv];rfl)
 unfold cH oV;rw[←hc];have he:(λz:Int×List Int=>dJ n z.1 z.2)=(λz:Int×List Int=>cond (decide (z.1<(n.2.1.length:Int))) ((un n z.1).bind λt=>cond t ((nh z.2 [z.1]).bind λzs=>some (.inl (kJ (z.1+1),zs))) (some (.inl (kJ (z.1+1),z.2)))) (some (.inr z.2))):=by
  funext z
  unfold dJ un;simp only[Option.bind_assoc]
 rw[he];cases loop _ _<;>rfl
theorem D5 {n:kK} (h:NS n):ch n=some (oV n):=by
 have hc:=nb (n:=n.2.1.length) (c:=λt=>(at? n.2.1 t).bind λx17=>(a9 n t).bind λt21=>(cond t21 ((ac n x17.1 x17.2.1).bind λt28=>some t28) (some false)).bind λt29=>(cond t29 ((ac n x17.2.2.1 x17.2.2.2).bind λt36=>some t36) (some false))) (b:=vC n) h.l (λk hk=>by
  obtain⟨v,hv,hw⟩:=yC h hk;unfold vC;rw[hv];exact hw)
 unfold ch oV;rw[←hc];have he:(λz:Int×List Int=>dz n z.1 z.2)=(λz:Int×List Int=>cond (decide (z.1<(n.2.1.length:Int))) (((at? n.2.1 z.1).bind λx17=>(a9 n z.1).bind λt21=>(cond t21 ((ac n x17.1 x17.2.1).bind λt28=>some t28) (some false)).bind λt29=>(cond t29 ((ac n x17.2.2.1 x17.2.2.2).bind λt36=>some t36) (some false))).bind λt=>cond t ((nh z.2 [z.1]).bind λzs=>some (.inl (kJ (z.1+1),zs))) (some (.inl (kJ (z.1+1),z.2)))) (some (.inr z.2))):=by
  funext z
  unfold dz;simp only[Option.bind_assoc]
 rw[he];cases loop _ _<;>rfl
theorem xS {n:kK} (h:NS n):bI n=some (lA n n.2.1.length):=by
 have hc:=nb (n:=n.2.1.length) (c:=λt=>a9 n t) (b:=λk=>lI n (k:Int)) h.l (λk hk=>uk h _);unfold bI;have he:loop (λz=>fv n z.1 z.2) (0,[])=some (o7 (λk=>lI n (k:Int)) n.2.1.length):=hc
 rw[he,kG];rfl
def pc (n:kK) (l:List Int) (k:Nat):Bool:=match l[k]? with
 | some y=>(match qu n y with
  | some x=>oU (og n x.1 (l.take k++l.drop (k+1))) x.2.2.1
  | none=>false)
 | none=>false
theorem Ai {l:List Int} {k:Nat} (h:k<=l.length):cut l 0 (k:Int)=some (l.take k):=by
 unfold cut;rw[if_pos (by omega),if_pos (by omega),if_pos (by omega)];simp
theorem Aj {l:List Int} {k:Nat} (h:k<=l.length):cut l (k:Int) (l.length:Int)=some (l.drop k):=by
 unfold cut;rw[if_pos (by omega),if_pos (by omega),if_pos (by omega)];simp
theorem Cv {n:kK} (hb:n.1.length<=1048576) (hl:n.2.1.length<=1048576) {l:List Int} (h:l.length<=1048576):cJ n l=some ((List.range l.length).any (pc n l)):=by
 have hc:=tb (n:=l.length) (c:=λi=>(at? l i).bind λx13=>(a7 x13 0 (kJ ((n.2.1.length:Int)-1))).bind λt20=>cond (!t20) (some false) ((cut l 0 i).bind λt24=>(bP t24).bind λt25=>(cut l (kJ (i+1)) (l.length:Int)).bind λt29=>(nh t25 t29).bind λzs30=>(at? n.2.1 x13).bind λx35=>(ah n x35.1 zs30).bind λt39=>(at? n.2.1 x13).bind λx43=>(cI t39 x43.2.2.1))) (b:=pc n l) true (by omega) (λk hk=>by
  simp only[kW hk,kG,pg,pc,List.getElem?_eq_getElem hk,qu];rw[lO (n:=(n.2.1.length:Int)-1) (by omega) (by omega)];cases hin:kU l[k] 0 ((n.2.1.length:Int)-1)with
  | false=>rfl
  | true =>
   obtain⟨j,hj,ej,aj⟩:=o5 hin;have hlen:(l.take k++l.drop (k+1)).length<=1048576:=by rw[length_append,length_take,List.length_drop];omega
   have hcp:bP (l.take k)=some (l.take k):=by
    unfold bP;rw[oD (by rw[length_take];show 0+_<=_;omega)];rfl
   rw[Bool.not_true,cF,cT,Ai (by omega),kG,hcp,kG,lb (by omega),Aj (by omega),kG,oD (by rw[length_append]at hlen;omega),kG,aj,kG,ul hb hl _ hlen,kG,kG,Dk];have hj':=qw n n.2.1[j].1 (l.take k++l.drop (k+1))
   rw[xO _ (by omega)])
 have he:loop (λz=>dL n l z) 0=some (cond ((List.range l.length).any (pc n l)) (Sum.inr true) (Sum.inl ())):=by
  rw[←hc];refine mE (λi=>?_) _;unfold dL;simp only[Option.bind_assoc];cases at? l i with
  | none=>rfl
  | some y =>
   simp only[kG,pg];cases kU y 0 (kJ ((n.2.1.length:Int)-1))with
   | false=>rfl
   | true=>simp only[Bool.not_true,cF,Option.bind_assoc]
 unfold cJ;rw[he,kG];cases (List.range l.length).any (pc n l)<;>rfl
theorem Cw {n:kK} (hb:n.1.length<=1048576) (hl:n.2.1.length<=1048576) {l:List Int} (h:l.length<=1048576):ck n l=some ((List.range l.length).any (pc n l)):=by
 have hc:=tb (n:=l.length) (c:=λi=>(at? l i).bind λx13=>(a6 x13 0 (kJ ((n.2.1.length:Int)-1))).bind λt20=>cond (!t20) (some false) ((cut l 0 i).bind λt26=>(nh ([]:List Int) t26).bind λzs27=>(cut l (kJ (i+1)) (l.length:Int)).bind λt31=>(nh zs27 t31).bind λzs32=>(at? l i).bind λx38=>(at? n.2.1 x38).bind λx40=>(af n x40.1 zs32).bind λt44=>(at? l i).bind λx49=>(at? n.2.1 x49).bind λx51=>(a8 t44 x51.2.2.1))) (b:=pc n l) true (by omega) (λk hk=>by
  simp only[kW hk,kG,q4,pc,List.getElem?_eq_getElem hk,qu];rw[lO (n:=(n.2.1.length:Int)-1) (by omega) (by omega)];cases hin:kU l[k] 0 ((n.2.1.length:Int)-1)with
  | false=>rfl
  | true =>
   obtain⟨j,hj,ej,aj⟩:=o5 hin;have hlen:(l.take k++l.drop (k+1)).length<=1048576:=by rw[length_append,length_take,List.length_drop];omega
   have hcp:nh ([]:List Int) (l.take k)=some (l.take k):=by
    rw[oD (by rw[length_take];show 0+_<=_;omega)];rfl
   rw[Bool.not_true,cF,cT,Ai (by omega),kG,hcp,kG,lb (by omega),Aj (by omega),kG,oD (by rw[length_append]at hlen;omega),kG,aj,kG,um hb hl _ hlen,kG,kG];have hj':=qw n n.2.1[j].1 (l.take k++l.drop (k+1))
   rw[xO _ (by omega)])
 have he:loop (λz=>dA n l z) 0=some (cond ((List.range l.length).any (pc n l)) (Sum.inr true) (Sum.inl ())):=by
  rw[←hc];refine mE (λi=>?_) _;unfold dA;simp only[Option.bind_assoc];cases at? l i with
  | none=>rfl
  | some y =>
   simp only[kG,q4];cases kU y 0 (kJ ((n.2.1.length:Int)-1))with
   | false=>rfl
   | true=>simp only[Bool.not_true,cF,Option.bind_assoc]
 unfold ck;rw[he,kG];cases (List.range l.length).any (pc n l)<;>rfl
theorem B1:ci=aq:=rfl
theorem B2 (a b:List Int) (h:b.length<9223372036854775807):∃r,aq a b=some r:=by
 unfold aq;by_cases hl:a.length=b.length
 · have e:((a.length:Int) != (b.length:Int))=false:=by rw[hl];simp
   rw[e,cF];obtain⟨v,h1,-⟩:=lD (step:=λz=>bg a b z) (λk i=>i=(k:Int)) a.length (λ_=>True)
    (λk i hk e=>by
     subst e;have hs:bg a b (k:Int)=cond (a[k] != (b[k]'(by omega))) (some (.inr (.inr false))) (some (.inl ((k+1:Nat):Int))):=by
      unfold bg;rw[lW (by omega),cT,kW hk,kG,kW (by omega),kG,lb (by omega)]
     cases hb:(a[k] != (b[k]'(by omega)))with
     | true=>exact .inr ⟨_,by rw[hs,hb];rfl,trivial⟩
     | false=>exact .inl ⟨_,by rw[hs,hb];rfl,rfl⟩)
    (λi e=>by
     subst e;exact⟨.inl (),by show bg a b _=_;unfold bg;rw[ls (by omega),cF],trivial⟩) (x:=0) rfl
   rw[h1,kG];cases v with
   | inl u=>exact⟨true,rfl⟩
   | inr u=>exact⟨u,rfl⟩
 · have e:((a.length:Int) != (b.length:Int))=true:=by simp;omega
   rw[e,cT];exact⟨_,rfl⟩
noncomputable def zt (a b:List Int):Bool:=(aq a b).getD false
theorem xT (a b:List Int) (h:b.length<9223372036854775807):aq a b=some (zt a b):=by
 obtain⟨r,hr⟩:=B2 a b h;unfold zt;rw[hr];rfl
noncomputable def qQ (n:kK) (k:Nat):Bool:=!(zt (og n (k:Int) (oV n)) (og n (k:Int) (lA n n.2.1.length)))
theorem D6 {n:kK} (h:NS n) (hb:n.1.length<=1048576):cK n=some (cond ((List.range n.1.length).any (qQ n)) false (!((List.range (oV n).length).any (pc n (oV n))))):=by
 have hl:=h.l;have h1:(oV n).length<=1048576:=Nat.le_trans (t0 _ _) hl
 have h2:(lA n n.2.1.length).length<=1048576:=Nat.le_trans (qX _ _) hl;have hc:=tb (n:=n.1.length) (c:=λi=>(ah n i (oV n)).bind λt19=>(ah n i (lA n n.2.1.length)).bind λt23=>(aq t19 t23).bind λt24=>some (!t24)) (b:=qQ n) false (by omega) (λk hk=>by
  have h3:=qw n (k:Int) (lA n n.2.1.length);rw[ul hb hl _ h1,kG,ul hb hl _ h2,kG,xT _ _ (by omega),kG];rfl)
 have he:loop (λz=>dM n (oV n) (lA n n.2.1.length) z) 0=some (cond ((List.range n.1.length).any (qQ n)) (Sum.inr false) (Sum.inl ())):=by
  rw[←hc];refine mE (λi=>?_) _;unfold dM;simp only[Option.bind_assoc,kG]
 unfold cK;rw[D4 h,kG,sZ h,kG,he,kG];cases (List.range n.1.length).any (qQ n)with
 | true=>rfl
 | false=>simp only[cF,Sum.elim_inl,Cv hb hl h1,kG]
theorem D7 {n:kK} (h:NS n) (hb:n.1.length<=1048576):cl n=some (cond ((List.range n.1.length).any (qQ n)) false (!((List.range (oV n).length).any (pc n (oV n))))):=by
 have hl:=h.l;have h1:(oV n).length<=1048576:=Nat.le_trans (t0 _ _) hl
 have h2:(lA n n.2.1.length).length<=1048576:=Nat.le_trans (qX _ _) hl;have hc:=tb (n:=n.1.length) (c:=λi=>(af n i (oV n)).bind λt19=>(af n i (lA n n.2.1.length)).bind λt23=>(ci t19 t23).bind λt24=>some (!t24)) (b:=qQ n) false (by omega) (λk hk=>by
  have h3:=qw n (k:Int) (lA n n.2.1.length);rw[um hb hl _ h1,kG,um hb hl _ h2,kG,B1,xT _ _ (by omega),kG];rfl)
 have he:loop (λz=>dC n (oV n) (lA n n.2.1.length) z) 0=some (cond ((List.range n.1.length).any (qQ n)) (Sum.inr false) (Sum.inl ())):=by
  rw[←hc];refine mE (λi=>?_) _;unfold dC;simp only[Option.bind_assoc,kG]
 unfold cl;rw[D5 h,kG,xS h,kG,he,kG];cases (List.range n.1.length).any (qQ n)with
 | true=>rfl
 | false=>simp only[cF,Sum.elim_inl,Cw hb hl h1,kG]
theorem zu {b:kZ} (h:Cs.wf lC b) (hl:xI M b):xL b:=by
 obtain⟨_,l2,l3,l4,l5⟩:=hl;have hM:M<9223372036854775807:=by decide
 refine⟨by omega,by omega,by omega,by omega,λr hr=>?_⟩;simp only[lC,Cs.wf,CT.wf]at h;obtain⟨_,_,_,_,h4,_⟩:=h;have:=(h4.2 r hr).2.2
 exact this
def m7 (x y:Int):Prop:=y<0\/(0<=x/\x<=y)
theorem m7.rfl {x:Int}:m7 x x:=by unfold m7;omega
theorem m7.trans {x y z:Int} (h:m7 x y) (k:m7 y z):m7 x z:=by unfold m7 at *;omega
theorem m7.antisymm {x y:Int} (h:m7 x y) (k:m7 y x) (hx:-1<=x) (hy:-1<=y):x=y:=by unfold m7 at *;omega
abbrev q9:=Nat×Nat×Int
def gd (d:List Int) (v:Nat):Int:=d.getD v (-1)
theorem Ak {d:List Int} {v:Nat} (x:Int) (hv:v<d.length) (u:Nat):gd (d.set v x) u=if u=v then x else gd d u:=by
 unfold gd;rw[List.getD_eq_getElem?_getD,List.getD_eq_getElem?_getD,List.getElem?_set];by_cases h:v=u
 · subst h;simp[hv]
 · rw[if_neg h,if_neg (λe=>h e.symm)]
def m0 (s o:List Int) (a:q9):List Int:=if 0<=gd s a.1/\(gd o a.2.1<0\/gd s a.1+a.2.2<gd o a.2.1)then o.set a.2.1 (gd s a.1+a.2.2)else o
theorem pd (s o:List Int) (a:q9):(m0 s o a).length=o.length:=by unfold m0;split<;>simp
theorem rp {s o:List Int} {a:q9} (ha:a.2.1<o.length) (hc:1<=a.2.2) (v:Nat) :
 (gd (m0 s o a) v=gd o v/\(v=a.2.1->0<=gd s a.1->m7 (gd o v) (gd s a.1+a.2.2)))\/(v=a.2.1/\0<=gd s a.1/\gd (m0 s o a) v=gd s a.1+a.2.2/\m7 (gd s a.1+a.2.2) (gd o v)):=by
 unfold m0;by_cases h:0<=gd s a.1/\(gd o a.2.1<0\/gd s a.1+a.2.2<gd o a.2.1)
 · rw[if_pos h,Ak _ ha];by_cases hv:v=a.2.1
   · subst hv;refine .inr ⟨rfl,h.1,if_pos rfl,?_⟩;unfold m7;omega
   · rw[if_neg hv];exact .inl ⟨rfl,λe=>absurd e hv⟩
 · rw[if_neg h];refine .inl ⟨rfl,λe hs=>?_⟩;subst e;unfold m7;by_cases h0:gd o a.2.1<0
   · exact absurd ⟨hs,.inl h0⟩ h
   · by_cases h1:gd s a.1+a.2.2<gd o a.2.1
     · exact absurd ⟨hs,.inr h1⟩ h
     · omega
def po (n:Nat) (l:List q9):Prop:=∀a∈l,a.1<n/\a.2.1<n/\1<=a.2.2
theorem po.tail {n:Nat} {a:q9} {l:List q9} (h:po n (a::l)):po n l:=λx hx=>h x (mem_cons_of_mem _ hx)
def lF (l:List q9) (d:List Int):List Int:=l.foldl (m0 d) d
def gs (l:List q9) (d:List Int):List Int:=l.foldl (λd a=>m0 d d a) d
theorem oo (d:List Int) {n:Nat}:∀(l:List q9) (o:List Int),po n l->o.length=n->(l.foldl (m0 d) o).length=n/\∀v,m7 (gd (l.foldl (m0 d) o) v) (gd o v) /\
 (∀a∈l,a.2.1=v->0<=gd d a.1->m7 (gd (l.foldl (m0 d) o) v) (gd d a.1+a.2.2))/\(gd (l.foldl (m0 d) o) v=gd o v\/∃a∈l,a.2.1=v/\0<=gd d a.1/\gd (l.foldl (m0 d) o) v=gd d a.1+a.2.2)
 | [],o,_,ho=>⟨ho,λv=>⟨m7.rfl,(λa ha=>by cases ha),.inl rfl⟩⟩
 | a::l,o,h,ho=>by
  obtain⟨h1,h2,h3⟩:=h a (by simp);obtain⟨k1,k2⟩:=oo d l (m0 d o a) h.tail ((pd d o a).trans ho);refine⟨k1,λv=>?_⟩;obtain⟨m1,m2,m3⟩:=k2 v;rw[foldl_cons];rcases rp (s:=d) (o:=o) (a:=a) (by omega) h3 v with ⟨e1,e2⟩|⟨e1,e2,e3,e4⟩
  · rw[e1]at m1 m3;refine⟨m1,λb hb hv hs=>?_,?_⟩
    · rcases mem_cons.1 hb with rfl|hb
      · exact m1.trans (e2 hv.symm hs)
      · exact m2 b hb hv hs
    · rcases m3 with m3|⟨b,hb,m3⟩
      · exact .inl m3
      · exact .inr ⟨b,mem_cons_of_mem _ hb,m3⟩
  · rw[e3]at m1 m3;refine⟨m1.trans e4,λb hb hv hs=>?_,?_⟩
    · rcases mem_cons.1 hb with rfl|hb
      · exact m1
      · exact m2 b hb hv hs
    · rcases m3 with m3|⟨b,hb,m3⟩
      · exact .inr ⟨a,by simp,e1.symm,e2,m3⟩
      · exact .inr ⟨b,mem_cons_of_mem _ hb,m3⟩
theorem zv {n:Nat}:∀(l:List q9) (d o g:List Int),po n l->o.length=n->g.length=n->(∀v,m7 (gd g v) (gd d v))->(∀v,m7 (gd g v) (gd o v)) ->
 (l.foldl (λd a=>m0 d d a) g).length=n/\∀v,m7 (gd (l.foldl (λd a=>m0 d d a) g) v) (gd (l.foldl (m0 d) o) v)
 | [],d,o,g,_,ho,hg,h1,h2=>⟨hg,h2⟩
 | a::l,d,o,g,h,ho,hg,h1,h2=>by
  obtain⟨k1,k2,k3⟩:=h a (by simp);have key:∀v,m7 (gd (m0 g g a) v) (gd g v):=λv=>by
   rcases rp (s:=g) (o:=g) (a:=a) (by omega) k3 v with ⟨e1,_⟩|⟨_,_,e3,e4⟩
   · rw[e1];exact m7.rfl
   · rw[e3];exact e4
  refine zv l d (m0 d o a) (m0 g g a) h.tail ((pd _ _ _).trans ho) ((pd _ _ _).trans hg) (λv=>(key v).trans (h1 v)) (λv=>?_);rcases rp (s:=d) (o:=o) (a:=a) (by omega) k3 v with ⟨e1,_⟩|⟨e1,e2,e3,e4⟩
  · rw[e1];exact (key v).trans (h2 v)
  · rw[e3];have hs:=h1 a.1
    have hg0:0<=gd g a.1:=by unfold m7 at hs;omega
    rcases rp (s:=g) (o:=g) (a:=a) (by omega) k3 v with ⟨f1,f2⟩|⟨_,_,f3,_⟩
    · rw[f1];refine (f2 e1 hg0).trans ?_;unfold m7 at hs ⊢;omega
    · rw[f3];unfold m7 at hs ⊢;omega
theorem Bf {n:Nat} {p:List Int}:∀(l:List q9) (g:List Int),po n l->g.length=n->(∀a∈l,0<=gd p a.1->m7 (gd p a.2.1) (gd p a.1+a.2.2))->(∀v,m7 (gd p v) (gd g v))->∀v,m7 (gd p v) (gd (l.foldl (λd a=>m0 d d a) g) v)
 | [],g,_,hg,hp,h=>h
 | a::l,g,ha,hg,hp,h=>by
  obtain⟨k1,k2,k3⟩:=ha a (by simp);refine Bf l (m0 g g a) ha.tail ((pd _ _ _).trans hg) (λb hb=>hp b (mem_cons_of_mem _ hb)) (λv=>?_);rcases rp (s:=g) (o:=g) (a:=a) (by omega) k3 v with ⟨e1,_⟩|⟨e1,e2,e3,e4⟩
  · rw[e1];exact h v
  · rw[e3,e1];have hs:=h a.1
    have h0:0<=gd p a.1:=by unfold m7 at hs;omega
    have:=hp a (by simp) h0;unfold m7 at *;omega
def kS {α:Type} (f:α->α):Nat->α->α|0,x=>x|k+1,x=>f (kS f k x)
theorem wC:∀(n:Nat) (l:List Nat),l.Nodup->(∀x∈l,x<n)->l.length<=n
 | 0,l,_,h=>by
  cases l with
  | nil=>simp
  | cons x l=>exact absurd (h x (by simp)) (by omega)
 | n+1,l,hd,h=>by
  have hd2:(l.erase n).Nodup:=hd.sublist List.erase_sublist;have h2:∀x∈l.erase n,x<n:=λx hx=>by
   have h3:=h x (List.mem_of_mem_erase hx);have h4:x≠n:=λe=>by subst e;exact hd.not_mem_erase hx
   omega
  have:=wC n (l.erase n) hd2 h2;have h5:l.length<=(l.erase n).length+1:=by
   rw[List.length_erase];split<;>omega
  omega
theorem Al {n:Nat} {l:List q9} (hl:po n l) {g:List Int} (hg:g.length=n) (h:∀v,-1<=gd g v):∀v,-1<=gd (gs l g) v:=by
 unfold gs
 induction l generalizing g with
 | nil=>exact h
 | cons a l ih =>
  obtain⟨k1,k2,k3⟩:=hl a (by simp);refine ih hl.tail (g:=m0 g g a) ((pd _ _ _).trans hg) λv=>?_;rcases rp (s:=g) (o:=g) (a:=a) (by omega) k3 v with ⟨e1,_⟩|⟨_,e2,e3,_⟩
  · rw[e1];exact h v
  · rw[e3];omega
section
variable {n:Nat} {l:List q9} (hl:po n l) {d0:List Int} (h0:d0.length=n)
include hl h0
theorem oE:∀k,(kS (lF l) k d0).length=n
 | 0=>h0
 | k+1=>(oo _ l _ hl (oE k)).1
theorem xU (hd:∀v,-1<=gd d0 v):∀k v,-1<=gd (kS (lF l) k d0) v
 | 0,v=>hd v
 | k+1,v=>by
  have hk:gd (kS (lF l) (k+1) d0) v=gd (kS (lF l) k d0) v\/∃a∈l,a.2.1=v/\0<=gd (kS (lF l) k d0) a.1/\gd (kS (lF l) (k+1) d0) v=gd (kS (lF l) k d0) a.1+a.2.2 :=
   ((oo (kS (lF l) k d0) l _ hl (oE hl h0 k)).2 v).2.2
  rcases hk with e|⟨a,ha,e1,e2,e3⟩
  · rw[e];exact xU hd k v
  · rw[e3];have:=(hl a ha).2.2;omega
theorem wD (hz:∀v,0<=gd d0 v->gd d0 v=0):∀k v,¬m7 (gd (kS (lF l) k d0) v) (gd (kS (lF l) (k+1) d0) v) ->
 ∃m:List Nat,m.Nodup/\m.length=k+1/\∀x∈m,x<n/\0<=gd (kS (lF l) k d0) x/\gd (kS (lF l) k d0) x<gd (kS (lF l) (k+1) d0) v
 | k,v,h=>by
  have hk:=oo (kS (lF l) k d0) l _ hl (oE hl h0 k);rcases (hk.2 v).2.2 with e|⟨a,ha,e1,e2,e3⟩
  · exact absurd (by rw[show gd (kS (lF l) (k+1) d0) v=gd (kS (lF l) k d0) v from e];exact m7.rfl) h
  obtain⟨q1,q2,q3⟩:=hl a ha;have e3:gd (kS (lF l) (k+1) d0) v=gd (kS (lF l) k d0) a.1+a.2.2:=e3
  cases k with
  | zero =>
   refine⟨[a.1],by simp,rfl,λx hx=>?_⟩;rw[List.mem_singleton]at hx;subst hx;exact⟨q1,e2,by rw[e3];omega⟩
  | succ k =>
   have hj:=oo (kS (lF l) k d0) l _ hl (oE hl h0 k);have hu:¬m7 (gd (kS (lF l) k d0) a.1) (gd (kS (lF l) (k+1) d0) a.1):=λhle=>by
    have h1:0<=gd (kS (lF l) k d0) a.1:=by unfold m7 at hle;omega
    have h2:m7 (gd (kS (lF l) (k+1) d0) v) (gd (kS (lF l) k d0) a.1+a.2.2):=(hj.2 v).2.1 a ha e1 h1;refine h (h2.trans ?_);rw[e3];unfold m7 at hle ⊢;omega
   obtain⟨m,m1,m2,m3⟩:=wD hz k a.1 hu;refine⟨a.1::m,List.nodup_cons.2 ⟨λhm=>?_,m1⟩,by rw[List.length_cons,m2],λx hx=>?_⟩
   · obtain⟨_,p1,p2⟩:=m3 _ hm;exact hu (by unfold m7;omega)
   · rcases mem_cons.1 hx with rfl|hx
     · exact⟨q1,e2,by rw[e3];omega⟩
     · obtain⟨p0,p1,p2⟩:=m3 x hx;have hle:m7 (gd (kS (lF l) (k+1) d0) x) (gd (kS (lF l) k d0) x):=(hj.2 x).1
       refine⟨p0,?_,?_⟩
       · unfold m7 at hle;omega
       · rw[e3];unfold m7 at hle;omega
theorem BQ (hz:∀v,0<=gd d0 v->gd d0 v=0) (v:Nat):m7 (gd (kS (lF l) n d0) v) (gd (kS (lF l) (n+1) d0) v):=by
 by_cases h:m7 (gd (kS (lF l) n d0) v) (gd (kS (lF l) (n+1) d0) v)
 · exact h
 · obtain⟨m,m1,m2,m3⟩:=wD hl h0 hz n v h;have:=wC n m m1 λx hx=>(m3 x hx).1
   omega
theorem sx:∀k,(kS (gs l) k d0).length=n
 | 0=>h0
 | k+1=>(zv l (kS (gs l) k d0) (kS (gs l) k d0) (kS (gs l) k d0) hl (sx k) (sx k) (λ_=>m7.rfl) λ_=>m7.rfl).1
theorem xV:∀k v,m7 (gd (kS (gs l) k d0) v) (gd (kS (lF l) k d0) v)
 | 0,v=>m7.rfl
 | k+1,v=>(zv l (kS (lF l) k d0) (kS (lF l) k d0) (kS (gs l) k d0) hl (oE hl h0 k) (sx hl h0 k) (xV k) (xV k)).2 v
theorem yD:∀k v,m7 (gd (kS (lF l) k d0) v) (gd d0 v)
 | 0,v=>m7.rfl
 | k+1,v=>((oo (kS (lF l) k d0) l _ hl (oE hl h0 k)).2 v).1.trans (yD k v)
theorem Am (hz:∀v,0<=gd d0 v->gd d0 v=0) (hd:∀v,-1<=gd d0 v):kS (gs l) n d0=kS (lF l) n d0:=by
 have hp:∀a∈l,0<=gd (kS (lF l) n d0) a.1->m7 (gd (kS (lF l) n d0) a.2.1) (gd (kS (lF l) n d0) a.1+a.2.2):=λa ha hs =>
  (BQ hl h0 hz a.2.1).trans (((oo (kS (lF l) n d0) l _ hl (oE hl h0 n)).2 a.2.1).2.1 a ha rfl hs)
 have hge:∀k,(∀v,m7 (gd (kS (lF l) n d0) v) (gd (kS (gs l) k d0) v))/\∀v,-1<=gd (kS (gs l) k d0) v:=by
  intro k
  induction k with
  | zero=>exact⟨yD hl h0 n,hd⟩
  | succ k ih=>exact⟨Bf l (kS (gs l) k d0) hl (sx hl h0 k) hp ih.1,Al hl (sx hl h0 k) ih.2⟩
 have hall:∀v,gd (kS (gs l) n d0) v=gd (kS (lF l) n d0) v:=λv=>(xV hl h0 n v).antisymm ((hge n).1 v) ((hge n).2 v) (xU hl h0 hd n v);apply List.ext_getElem ((sx hl h0 n).trans (oE hl h0 n).symm);intro i h1 h2;have:=hall i
 unfold gd at this
 rwa [List.getD_eq_getElem?_getD,List.getD_eq_getElem?_getD,List.getElem?_eq_getElem h1,List.getElem?_eq_getElem h2]at this
end

abbrev yE:=Int×Int
def ld:List (Int×Int×Int×Int)->List yE
 | []=>[]
 | x::l=>(x.1,x.2.1)::(x.2.2.1,x.2.2.2)::ld l
theorem qD:∀(l m:List (Int×Int×Int×Int)),ld (l++m)=ld l++ld m
 | [],m=>rfl
 | x::l,m=>by show _::_::ld (l++m)=_;rw[qD l m];rfl
theorem vD:∀(l:List (Int×Int×Int×Int)),(ld l).length=2*l.length
 | []=>rfl
 | x::l=>by show (ld l).length+1+1=2*(l.length+1);rw[vD l];omega
theorem qR {l:List (Int×Int×Int×Int)} {e:yE}:e∈ld l↔∃x∈l,e=(x.1,x.2.1)\/e=(x.2.2.1,x.2.2.2):=by
 induction l with
 | nil=>simp[ld]
 | cons x l ih =>
  show e∈(_::_::ld l)↔_;rw[mem_cons,mem_cons,ih];constructor
  · rintro (h|h|⟨y,hy,h⟩)
    · exact⟨x,by simp,.inl h⟩
    · exact⟨x,by simp,.inr h⟩
    · exact⟨y,mem_cons_of_mem _ hy,h⟩
  · rintro⟨y,hy,h⟩;rcases mem_cons.1 hy with rfl|hy
    · rcases h with h|h
      · exact .inl h
      · exact .inr (.inl h)
    · exact .inr (.inr ⟨y,hy,h⟩)
def Bg (l:List (Int×Int×Int×Int)) (k:Nat) (x:Int×Int×Int×Int):Prop:=(x.1,x.2.1)≠(x.2.2.1,x.2.2.2)/\(x.1,x.2.1)∉ld (l.take k)/\(x.2.2.1,x.2.2.2)∉ld (l.take k)
theorem vE (l:List (Int×Int×Int×Int)):∀m,m<=l.length->((ld (l.take m)).Nodup↔∀k (hk:k<l.length),k<m->Bg l k l[k])
 | 0,_=>by simp[ld]
 | m+1,hm=>by
  have hml:m<l.length:=by omega
  have ih:=vE l m (by omega);have et:l.take (m+1)=l.take m++[l[m]]:=by rw[take_add_one,List.getElem?_eq_getElem hml];rfl
  rw[et,qD,List.nodup_append,ih];constructor
  · rintro⟨h1,h2,h3⟩ k hk hkm;by_cases e:k=m
    · subst e;have h2:([((l[k]).1,(l[k]).2.1),((l[k]).2.2.1,(l[k]).2.2.2)]:List yE).Nodup:=h2
      refine⟨λe=>?_,λe=>h3 _ e _ (List.mem_cons_self) rfl,λe=>h3 _ e _ (mem_cons_of_mem _ List.mem_cons_self) rfl⟩;rw[e]at h2;simp at h2
    · exact h1 k hk (by omega)
  · intro h;obtain⟨n1,n2,n3⟩:=h m hml (by omega);refine⟨λk hk hkm=>h k hk (by omega),?_,λa ha b hb hab=>?_⟩
    · show ([((l[m]).1,(l[m]).2.1),((l[m]).2.2.1,(l[m]).2.2.2)]:List yE).Nodup;rw[List.nodup_cons];exact⟨λe=>n1 (by rwa [List.mem_singleton]at e),List.nodup_cons.2 ⟨by simp,List.nodup_nil⟩⟩
    · subst hab;have hb:a∈([((l[m]).1,(l[m]).2.1),((l[m]).2.2.1,(l[m]).2.2.2)]:List yE):=hb
      simp only[mem_cons,List.not_mem_nil,or_false]at hb;rcases hb with rfl|rfl
      · exact n2 ha
      · exact n3 ha
theorem vF (l:List (Int×Int×Int×Int)):(∀k (hk:k<l.length),Bg l k l[k])↔∀x∈l,(x.1,x.2.1)≠(x.2.2.1,x.2.2.2)/\(ld l).count (x.1,x.2.1)=1/\(ld l).count (x.2.2.1,x.2.2.2)=1:=by
 have h:=vE l l.length (Nat.le_refl _);rw[take_length]at h;constructor
 · intro k x hx;have hn:=h.2 λi hi _=>k i hi
   obtain⟨i,hi,rfl⟩:=getElem_of_mem hx;have c1:∀e∈ld l,(ld l).count e=1:=λe he=>by
    have:=List.nodup_iff_count.1 hn e;have:=List.count_pos_iff.2 he
    omega
   exact⟨(k i hi).1,c1 _ (qR.2 ⟨_,hx,.inl rfl⟩),c1 _ (qR.2 ⟨_,hx,.inr rfl⟩)⟩
 · intro k i hi;refine h.1 (List.nodup_iff_count.2 λe=>?_) i hi hi;by_cases he:e∈ld l
   · obtain⟨x,hx,rfl|rfl⟩:=qR.1 he
     · rw[(k x hx).2.1];omega
     · rw[(k x hx).2.2];omega
   · rw[List.count_eq_zero.2 he];omega

theorem mF {n:Nat} {step:Int->Option (Int⊕(Unit⊕Bool))} {b:Nat->Bool} {r:Bool} (h:∀k,k<n->step (k:Int)=cond (b k) (some (.inr (.inr r))) (some (.inl ((k+1:Nat):Int)))) (he:step (n:Int)=some (.inr (.inl ()))) :
 loop step 0=some (cond ((List.range n).any b) (.inr r) (.inl ())):=by
 obtain⟨v,h1,h2⟩:=lD (β:=Unit⊕Bool) (step:=step) (λk i=>i=(k:Int)/\(List.range k).any b=false) n (λv=>v=cond ((List.range n).any b) (Sum.inr r) (Sum.inl ()))
  (λk i hk ⟨e,ha⟩=>by
   subst e;cases hb:b k with
   | true =>
    refine .inr ⟨.inr r,by rw[h k hk,hb];rfl,?_⟩;have:(List.range n).any b=true:=any_eq_true.2 ⟨k,mem_range.2 hk,hb⟩
    rw[this];rfl
   | false =>
    refine .inl ⟨_,by rw[h k hk,hb];rfl,rfl,?_⟩;rw[range_succ,List.any_append,ha];simp[hb])
  (λi ⟨e,ha⟩=>by
   subst e;exact⟨.inl (),he,by rw[ha];rfl⟩) (x:=0) ⟨rfl,rfl⟩
 rw[h1,h2]
theorem u4 {n:Nat} {b:Nat->Bool}:(List.range n).any b=true↔∃k,k<n/\b k=true:=by
 rw[any_eq_true];exact⟨λ⟨k,h1,h2⟩=>⟨k,mem_range.1 h1,h2⟩,λ⟨k,h1,h2⟩=>⟨k,mem_range.2 h1,h2⟩⟩
theorem pE {n:Nat} {b:Nat->Bool}:(List.range n).any b=false↔∀k,k<n->b k=false:=by
 rw[Bool.eq_false_iff,ne_eq,u4];exact⟨λh k hk=>by cases hb:b k with|false=>rfl|true=>exact absurd ⟨k,hk,hb⟩ h,λh ⟨k,hk,hb⟩=>by rw[h k hk]at hb;cases hb⟩
def xW (x:lp) (b p:Int):Bool:=(x.1==b&&x.2.1==p)||(x.2.2.1==b&&x.2.2.2==p)
theorem xX (x:lp) (b p:Int):xW x b p=true↔(b,p)=(x.1,x.2.1)\/(b,p)=(x.2.2.1,x.2.2.2):=by
 unfold xW;simp only[Bool.or_eq_true,aT,beq_iff_eq,Prod.mk.injEq];constructor
 · rintro (⟨h1,h2⟩|⟨h1,h2⟩)
   · exact .inl ⟨h1.symm,h2.symm⟩
   · exact .inr ⟨h1.symm,h2.symm⟩
 · rintro (⟨h1,h2⟩|⟨h1,h2⟩)
   · exact .inl ⟨h1.symm,h2.symm⟩
   · exact .inr ⟨h1.symm,h2.symm⟩
theorem Bh {l:List lp} (hn:l.length<=1048576) (b p:Int):b6 l b p=some (decide ((b,p)∈ld l)):=by
 have hs:=mF (n:=l.length) (step:=λz=>b5 l b p z) (b:=λk=>match l[k]? with|some x=>xW x b p|none=>false) (r:=true) (λk hk=>by
  show b5 l b p (k:Int)=_;unfold b5;rw[lW (by omega),cT,kW hk,kG,lb (by omega),List.getElem?_eq_getElem hk];simp only;generalize l[k]=x;unfold xW;cases x.1==b<;>cases x.2.1==p<;>cases x.2.2.1==b<;>cases x.2.2.2==p<;>rfl) (by
  show b5 l b p (l.length:Int)=_;unfold b5;rw[ls (by omega),cF])
 unfold b6;rw[hs,kG];have key:(List.range l.length).any (λk=>match l[k]? with|some x=>xW x b p|none=>false)=decide ((b,p)∈ld l):=by
  rw[Bool.eq_iff_iff,u4,decide_eq_true_iff,qR];constructor
  · rintro⟨k,hk,h⟩;rw[List.getElem?_eq_getElem hk]at h;exact⟨_,getElem_mem hk,(xX _ _ _).1 h⟩
  · rintro⟨x,hx,h⟩;obtain⟨k,hk,rfl⟩:=getElem_of_mem hx;exact⟨k,hk,by rw[List.getElem?_eq_getElem hk];exact (xX _ _ _).2 h⟩
 rw[key];cases decide ((b,p)∈ld l)<;>rfl
theorem An (x:lp) (b p:Int):([(x.1,x.2.1),(x.2.2.1,x.2.2.2)]:List yE).count (b,p)=(cond (x.1==b&&x.2.1==p) 1 0)+(cond (x.2.2.1==b&&x.2.2.2==p) 1 0):=by
 rw[List.count_cons,List.count_cons,List.count_nil];have e1:((x.1,x.2.1)==(b,p))=(x.1==b&&x.2.1==p):=rfl
 have e2:((x.2.2.1,x.2.2.2)==(b,p))=(x.2.2.1==b&&x.2.2.2==p):=rfl;rw[e1,e2];cases (x.1==b&&x.2.1==p)<;>cases (x.2.2.1==b&&x.2.2.2==p)<;>rfl
theorem Bi {n:kK} (hn:n.2.1.length<=1048576) (b p:Int):bD n b p=some (((ld n.2.1).count (b,p):Nat):Int):=by
 unfold bD;obtain⟨v,e1,rfl⟩:=lD (step:=λz:Int×Int=>aK n b p z.1 z.2) (λk z=>z=((((ld (n.2.1.take k)).count (b,p):Nat):Int),(k:Int))) n.2.1.length (λv=>v=(((ld n.2.1).count (b,p):Nat):Int))
  (λk z hk e=>by
   subst e;refine .inl ⟨_,?_,rfl⟩;have et:n.2.1.take (k+1)=n.2.1.take k++[n.2.1[k]]:=by rw[take_add_one,List.getElem?_eq_getElem hk];rfl
   have hc:(ld (n.2.1.take k)).count (b,p)<=2*k:=by
    refine Nat.le_trans List.count_le_length ?_;rw[vD,length_take];omega
   rw[et,qD,List.count_append];show aK n b p _ _=_
   unfold aK;rw[lW (by omega),cT,kW hk,kG];have e2:=An n.2.1[k] b p
   have e3:ld [n.2.1[k]]=[(n.2.1[k].1,n.2.1[k].2.1),(n.2.1[k].2.2.1,n.2.1[k].2.2.2)]:=rfl;rw[e3,e2];generalize (ld (n.2.1.take k)).count (b,p)=c at hc;have w0:=lb (show k<9223372036854775807 by omega)
   have w1:=lb (show c<9223372036854775807 by omega);have w2:=lb (show c+1<9223372036854775807 by omega)
   have a1:cond (n.2.1[k].1==b) (some (n.2.1[k].2.1==p)) (some false)=some (n.2.1[k].1==b&&n.2.1[k].2.1==p):=by cases n.2.1[k].1==b<;>rfl
   have a2:cond (n.2.1[k].2.2.1==b) (some (n.2.1[k].2.2.2==p)) (some false)=some (n.2.1[k].2.2.1==b&&n.2.1[k].2.2.2==p):=by cases n.2.1[k].2.2.1==b<;>rfl
   rw[a1,a2];generalize (n.2.1[k].1==b&&n.2.1[k].2.1==p)=u1;generalize (n.2.1[k].2.2.1==b&&n.2.1[k].2.2.2==p)=u2;cases u1<;>cases u2<;>simp only[kG,cT,cF,w0,w1,w2]<;>rfl)
  (λz e=>by
   subst e;refine⟨_,?_,rfl⟩;show aK n b p _ _=_
   unfold aK;rw[ls (by omega),cF,take_length]) (x:=(0,0)) (by simp[ld])
 rw[e1,kG]
def q5 (n:kK) (x:kZ) (j:Nat):Bool:=match n.1[j]? with|some c=>c.1==x.1|none=>false
def td (n:kK) (i:Nat) (x:kZ) (p:Nat):Bool:=match x.2.2.1[p]? with|some y=>y.2.2.1&&!(decide (((i:Int),(p:Int))∈ld n.2.1))|none=>false
noncomputable def s3 (n:kK) (i:Nat):Bool:=match n.1[i]? with
 | some x=>!(oe x)||((List.range i).any (q5 n x)||(List.range x.2.2.1.length).any (td n i x))
 | none=>false
structure oW (n:kK):Prop where
 s:NS n
 c:n.1.length<=1048576
 w:∀b∈n.1,xL b
 d:n.2.2.length<=1048576
theorem wN {n:kK} (h:oW n):loop (λz=>ba n z) 0=some (cond ((List.range n.1.length).any (s3 n)) (.inr false) (.inl ())):=by
 have hb:=h.c;have hl:=h.s.l
 refine mF (λk hk=>?_) (by
  show ba n (n.1.length:Int)=_;unfold ba;rw[ls (by omega),cF])
 have hx:n.1[k]∈n.1:=getElem_mem hk;have hw:=h.w _ hx
 have hp:=hw.p;show ba n (k:Int)=_
 have l2:loop (λz=>b8 n.1[k] (n.1.take k) z) 0=some (cond ((List.range k).any (q5 n n.1[k])) (.inr false) (.inl ())):=mF (λj hj=>by
  show b8 n.1[k] (n.1.take k) (j:Int)=_;have hjl:j<(n.1.take k).length:=by rw[length_take];omega
  have hjn:j<n.1.length:=by omega
  have hcut:(n.1.take k)[j]=n.1[j]:=List.getElem_take;unfold b8 q5;rw[lW (by omega),cT,kW hjl,kG,hcut,lb (by omega),List.getElem?_eq_getElem hjn]) (by
  show b8 n.1[k] (n.1.take k) (k:Int)=_;unfold b8;rw[ls (by rw[length_take];omega),cF])
 have l4:loop (λz=>b9 n (k:Int) n.1[k] z) 0=some (cond ((List.range n.1[k].2.2.1.length).any (td n k n.1[k])) (.inr false) (.inl ())):=mF (λj hj=>by
  show b9 n (k:Int) n.1[k] (j:Int)=_;unfold b9 td;rw[lW (by omega),cT,kW hj,kG,Bh hl,kG,lb (by omega),List.getElem?_eq_getElem hj];simp only;generalize (n.1[k]).2.2.1[j]=y;cases y.2.2.1<;>cases decide (((k:Int),(j:Int))∈ld n.2.1)<;>rfl) (by
  show b9 n (k:Int) n.1[k] (n.1[k].2.2.1.length:Int)=_;unfold b9;rw[ls (by omega),cF])
 unfold ba s3;have hcut:cut n.1 0 (k:Int)=some (n.1.take k):=by
  unfold cut;rw[if_pos (by omega),if_pos (by omega),if_pos (by omega)];simp
 rw[lW (by omega),cT,kW hk,kG,BH hw,kG,hcut,kG,l2,l4,lb (by omega),List.getElem?_eq_getElem hk];simp only;cases oe n.1[k]<;>cases (List.range k).any (q5 n n.1[k])<;>cases (List.range n.1[k].2.2.1.length).any (td n k n.1[k])<;>rfl
theorem B3 {n:kK} (h:oW n):ca n=some (cond ((List.range n.1.length).any (s3 n)) false (kU (n.1.length:Int) 1 6)):=by
 have hb:=h.c;have hl:=h.s.l
 have hs:loop (λz=>aN n z) 0=some (cond ((List.range n.1.length).any (s3 n)) (.inr false) (.inl ())):=by
  refine mF (λk hk=>?_) (by
   show aN n (n.1.length:Int)=_;unfold aN;rw[ls (by omega),cF])
  have hx:n.1[k]∈n.1:=getElem_mem hk;have hw:=h.w _ hx
  have hp:=hw.p;show aN n (k:Int)=_
  have l2:loop (λz=>aL n (k:Int) z) 0=some (cond ((List.range k).any (q5 n n.1[k])) (.inr false) (.inl ())):=mF (λj hj=>by
   show aL n (k:Int) (j:Int)=_;have hjn:j<n.1.length:=by omega
   unfold aL q5;rw[lW (by omega),cT,kW hjn,kG,kW hk,kG,lb (by omega),List.getElem?_eq_getElem hjn]) (by
   show aL n (k:Int) (k:Int)=_;unfold aL;rw[ls (by omega),cF])
  have l4:loop (λz=>aM n (k:Int) z) 0=some (cond ((List.range n.1[k].2.2.1.length).any (td n k n.1[k])) (.inr false) (.inl ())):=mF (λj hj=>by
   show aM n (k:Int) (j:Int)=_;unfold aM td;rw[kW hk,kG,lW (by omega),cT,kG,kW hj,kG,Bi hl,kG,lb (by omega),List.getElem?_eq_getElem hj];simp only;generalize (n.1[k]).2.2.1[j]=y;have e0:((((ld n.2.1).count ((k:Int),(j:Int)):Nat):Int)==0)=!(decide (((k:Int),(j:Int))∈ld n.2.1)):=by
    by_cases hm:((k:Int),(j:Int))∈ld n.2.1
    · have:=List.count_pos_iff.2 hm;rw[dT hm];exact beq_eq_false_iff_ne.2 (by omega)
    · rw[dF hm,List.count_eq_zero.2 hm];rfl
   rw[e0];cases y.2.2.1<;>cases decide (((k:Int),(j:Int))∈ld n.2.1)<;>rfl) (by
   show aM n (k:Int) (n.1[k].2.2.1.length:Int)=_;unfold aM;rw[kW hk,kG,ls (by omega),cF])
  unfold aN s3;rw[lW (by omega),cT,kW hk,kG,BI hw,kG,l2,l4,lb (by omega),List.getElem?_eq_getElem hk];simp only;cases oe n.1[k]<;>cases (List.range k).any (q5 n n.1[k])<;>cases (List.range n.1[k].2.2.1.length).any (td n k n.1[k])<;>rfl
 unfold ca;rw[hs,kG,q4];cases (List.range n.1.length).any (s3 n)<;>rfl
def uS (n:kK) (j:Nat):Bool:=match n.2.2[j]? with|some s=>!(kU s.1 0 ((n.2.1.length:Int)-1))||!(tZ s.2.2)|none=>false
theorem zw {n:kK} (h:oW n):loop (λz=>bb n z) 0=some (cond ((List.range n.2.2.length).any (uS n)) (.inr false) (.inl ())):=by
 have hd:=h.d;have hl:=h.s.l
 refine mF (λk hk=>?_) (by
  show bb n (n.2.2.length:Int)=_;unfold bb;rw[ls (by omega),cF])
 show bb n (k:Int)=_;unfold bb uS;rw[lW (by omega),cT,kW hk,kG,lO (n:=(n.2.1.length:Int)-1) (by omega) (by omega),pg,kG,xJ,kG,lb (by omega),List.getElem?_eq_getElem hk];simp only;cases kU n.2.2[k].1 0 ((n.2.1.length:Int)-1)<;>cases tZ n.2.2[k].2.2<;>rfl
theorem zx {n:kK} (h:oW n):loop (λz=>aP n z) 0=some (cond ((List.range n.2.2.length).any (uS n)) (.inr false) (.inl ())):=by
 have hd:=h.d;have hl:=h.s.l
 refine mF (λk hk=>?_) (by
  show aP n (n.2.2.length:Int)=_;unfold aP;rw[ls (by omega),cF])
 show aP n (k:Int)=_;unfold aP uS;rw[lW (by omega),cT,kW hk,kG,lO (n:=(n.2.1.length:Int)-1) (by omega) (by omega),q4,kG,kG,Cj,xJ,kG,lb (by omega),List.getElem?_eq_getElem hk];simp only;cases kU n.2.2[k].1 0 ((n.2.1.length:Int)-1)<;>cases tZ n.2.2[k].2.2<;>rfl
def te (o:Option Pt):Bool:=o.isSome
def qS (n:kK) (x:lp):Bool:=te (ln n x.1 x.2.1)&&(te (ln n x.2.2.1 x.2.2.2)&&(!(x.1==x.2.2.1)&&(s0 (ln n x.1 x.2.1)==s0 (ln n x.2.2.1 x.2.2.2))))
def s4 (n:kK) (k:Nat):Bool:=match n.2.1[k]? with
 | some x=>decide (9<=k)||(!(qS n x)||(decide ((x.1,x.2.1)∈ld (n.2.1.take k))||decide ((x.2.2.1,x.2.2.2)∈ld (n.2.1.take k))))
 | none=>false
def uT (n:kK) (k:Nat):Bool:=match n.2.1[k]? with
 | some x=>!(qS n x)||(!((ld n.2.1).count (x.1,x.2.1)==1)||!((ld n.2.1).count (x.2.2.1,x.2.2.2)==1))
 | none=>false
theorem Cx {n:kK} (h:oW n):cB n=some (!((List.range n.2.1.length).any (s4 n))):=by
 have hl:=h.s.l;have hs:loop (λz=>b7 n z) 0=some (cond ((List.range n.2.1.length).any (s4 n)) (.inr false) (.inl ())):=by
  refine mF (λk hk=>?_) (by
   show b7 n (n.2.1.length:Int)=_;unfold b7;rw[ls (by omega),cF])
  show b7 n (k:Int)=_;have hcut:cut n.2.1 0 (k:Int)=some (n.2.1.take k):=by
   unfold cut;rw[if_pos (by omega),if_pos (by omega),if_pos (by omega)];simp
  have e9:decide ((k:Int)>=9)=decide (9<=k):=decide_eq_decide.2 (by omega);have ht:(n.2.1.take k).length<=1048576:=by rw[length_take];omega
  unfold b7 s4;rw[lW (by omega),cT,kW hk,kG,List.getElem?_eq_getElem hk,e9,lb (by omega),hcut];simp only[xN h.s,kG,Bh ht];generalize n.2.1[k]=x;unfold qS;generalize decide ((x.1,x.2.1)∈ld (n.2.1.take k))=m1;generalize decide ((x.2.2.1,x.2.2.2)∈ld (n.2.1.take k))=m2;generalize decide (9<=k)=nine;generalize (x.1==x.2.2.1)=ab;generalize ln n x.1 x.2.1=o1;generalize ln n x.2.2.1 x.2.2.2=o2;cases nine with
  | true=>rfl
  | false =>
   cases o1 with
   | none=>cases o2<;>rfl
   | some a =>
    cases o2 with
    | none=>rfl
    | some c =>
     cases ab with
     | true=>rfl
     | false =>
      simp only[cF,kG,te,s0,Option.isSome_some,Bool.true_and,Bool.not_false,Bool.not_true];cases (a.1==c.1)<;>cases m1<;>cases m2<;>rfl
 unfold cB;rw[hs,kG];cases (List.range n.2.1.length).any (s4 n)<;>rfl
theorem Dn {n:kK} (h:oW n) (b p:Int):bE n b p=some (te (ln n b p)&&((ld n.2.1).count (b,p)==1)):=by
 have hl:=h.s.l;have hb:=h.c
 unfold bE ln;rw[lO (n:=(n.1.length:Int)-1) (by omega) (by omega),q4,kG,Bi hl];cases h1:kU b 0 ((n.1.length:Int)-1)with
 | false=>rfl
 | true =>
  obtain⟨k,hk,_,e⟩:=o5 h1;rw[e];have hp:=h.s.p _ (getElem_mem hk)
  simp only[cT,kG,q4];rw[lO (n:=((n.1[k]).2.2.1.length:Int)-1) (by omega) (by omega)];cases h2:kU p 0 (((n.1[k]).2.2.1.length:Int)-1)with
  | false=>rfl
  | true =>
   obtain⟨j,hj,_,e'⟩:=o5 h2;rw[e'];simp only[cT,kG,te,Option.isSome_some,Bool.true_and]
   congr 1
   rw[Bool.eq_iff_iff,beq_iff_eq,beq_iff_eq];omega
theorem qY {n:kK} {b p:Int} {y:Pt} (h:ln n b p=some y):∃x∈n.1,at? n.1 b=some x/\at? x.2.2.1 p=some y:=by
 unfold ln at h;cases h1:kU b 0 ((n.1.length:Int)-1)with
 | false=>rw[h1]at h;cases h
 | true =>
  obtain⟨k,hk,_,e⟩:=o5 h1;rw[h1,e]at h;simp only[cT]at h;cases h2:kU p 0 (((n.1[k]).2.2.1.length:Int)-1)with
  | false=>rw[h2]at h;cases h
  | true=>rw[h2]at h;exact⟨_,getElem_mem hk,e,h⟩
theorem yj {n:kK} (h:oW n):loop (λz=>aO n z) 0=some (cond ((List.range n.2.1.length).any (uT n)) (.inr false) (.inl ())):=by
 have hl:=h.s.l;refine mF (λk hk=>?_) (by
  show aO n (n.2.1.length:Int)=_;unfold aO;rw[ls (by omega),cF])
 show aO n (k:Int)=_;unfold aO uT;rw[lW (by omega),cT,kW hk,kG,List.getElem?_eq_getElem hk,lb (by omega)];simp only[Dn h,kG];generalize n.2.1[k]=x;unfold qS;generalize ((ld n.2.1).count (x.1,x.2.1)==1)=c1;generalize ((ld n.2.1).count (x.2.2.1,x.2.2.2)==1)=c2;generalize (x.1==x.2.2.1)=ab;cases ab with
 | true=>cases te (ln n x.1 x.2.1)<;>cases te (ln n x.2.2.1 x.2.2.2)<;>rfl
 | false =>
  cases ho1:ln n x.1 x.2.1 with
  | none=>cases ho2:ln n x.2.2.1 x.2.2.2<;>cases c1<;>cases c2<;>rfl
  | some a =>
   cases ho2:ln n x.2.2.1 x.2.2.2 with
   | none=>cases c1<;>cases c2<;>rfl
   | some c =>
    obtain⟨u,_,u1,u2⟩:=qY ho1;obtain⟨v,_,v1,v2⟩:=qY ho2;rw[u1,kG,u2,kG,v1,kG,v2,kG];simp only[te,s0,Option.isSome_some,Bool.true_and,Bool.not_false,cF,kG];cases c1<;>cases c2<;>cases (a.1==c.1)<;>rfl
theorem vG {n:kK}:((List.range n.2.1.length).any (s4 n))=(decide ((n.2.1.length:Int)>9)||(List.range n.2.1.length).any (uT n)):=by
 cases hT:(List.range n.2.1.length).any (s4 n)with
 | false =>
  have hT:=pE.1 hT;have key:∀k (hk:k<n.2.1.length),k<9/\qS n n.2.1[k]=true/\(n.2.1[k].1,n.2.1[k].2.1)∉ld (n.2.1.take k)/\(n.2.1[k].2.2.1,n.2.1[k].2.2.2)∉ld (n.2.1.take k):=λk hk=>by
   have:=hT k hk;unfold s4 at this;rw[List.getElem?_eq_getElem hk]at this;simp only[Bool.or_eq_false_iff,decide_eq_false_iff_not,Bool.not_eq_false']at this;exact⟨by omega,this.2.1,this.2.2.1,this.2.2.2⟩
  have hn:=(vF n.2.1).1 λk hk=>by
   obtain⟨_,k2,k3,k4⟩:=key k hk;refine⟨λe=>?_,k3,k4⟩;unfold qS at k2;simp only[aT,Bool.not_eq_true',bF]at k2;exact k2.2.2.1 (Prod.mk.injEq _ _ _ _▸e).1
  symm
  rw[Bool.or_eq_false_iff];refine⟨dF λhg=>?_,pE.2 λk hk=>?_⟩
  · have:=(key (n.2.1.length-1) (by omega)).1;omega
  · obtain⟨_,k2,_⟩:=key k hk;obtain⟨_,h1,h2⟩:=hn _ (getElem_mem hk);unfold uT;rw[List.getElem?_eq_getElem hk];simp only[k2,h1,h2];rfl
 | true =>
  obtain⟨k,hk,hb⟩:=u4.1 hT
  symm
  rw[Bool.or_eq_true,decide_eq_true_iff];by_cases h9:(n.2.1.length:Int)>9
  · exact .inl h9
  · right;cases hU:(List.range n.2.1.length).any (uT n)with
    | true=>rfl
    | false =>
     exfalso;have hU:=pE.1 hU
     have key:∀k (hk:k<n.2.1.length),qS n n.2.1[k]=true/\(ld n.2.1).count (n.2.1[k].1,n.2.1[k].2.1)=1/\(ld n.2.1).count (n.2.1[k].2.2.1,n.2.1[k].2.2.2)=1:=λk hk=>by
      have:=hU k hk;unfold uT at this;rw[List.getElem?_eq_getElem hk]at this;simp only[Bool.or_eq_false_iff,Bool.not_eq_false',beq_iff_eq]at this;exact⟨this.1,this.2.1,this.2.2⟩
     have hn:=(vF n.2.1).2 λx hx=>by
      obtain⟨i,hi,rfl⟩:=getElem_of_mem hx;obtain⟨k1,k2,k3⟩:=key i hi;refine⟨λe=>?_,k2,k3⟩;unfold qS at k1;simp only[aT,Bool.not_eq_true',bF]at k1;exact k1.2.2.1 (Prod.mk.injEq _ _ _ _▸e).1
     obtain⟨_,n2,n3⟩:=hn k hk;unfold s4 at hb;rw[List.getElem?_eq_getElem hk]at hb;simp only[(key k hk).1,dF n2,dF n3,dF (show ¬9<=k by omega)]at hb;cases hb
noncomputable def uU (n:kK):Bool:=kU (n.1.length:Int) 1 6&&(!(decide ((n.2.2.length:Int)>40))&&(!((List.range n.1.length).any (s3 n))&&(!((List.range n.2.2.length).any (uS n))&&!((List.range n.2.1.length).any (s4 n)))))
theorem Do {n:kK} (h:oW n):cC n=some (uU n):=by
 unfold cC uU;rw[pg,kG,wN h,zw h,Cx h];cases kU (n.1.length:Int) 1 6<;>cases decide ((n.2.2.length:Int)>40)<;>cases (List.range n.1.length).any (s3 n)<;>cases (List.range n.2.2.length).any (uS n)<;>rfl
theorem Dp {n:kK} (h:oW n):cb n=some (uU n):=by
 unfold cb uU;rw[B3 h,kG,yj h,zx h,vG];cases kU (n.1.length:Int) 1 6<;>cases decide ((n.2.2.length:Int)>40)<;>cases (List.range n.1.length).any (s3 n)<;>cases (List.range n.2.2.length).any (uS n)<;>cases decide ((n.2.1.length:Int)>9)<;>cases (List.range n.2.1.length).any (uT n)<;>rfl

theorem xY {n a b:Int} (h:kU n a b=true):a<=n/\n<=b:=by
 unfold kU at h;simp only[aT,decide_eq_true_eq]at h;exact⟨h.1,h.2⟩
theorem Dq (id:Int) {l:List Pt} (hn:l.length<9223372036854775807) (p:Int):∃r,ak id l p=some r:=by
 obtain⟨v,hv⟩:=zp id hn;unfold ak;rw[hv,kG];exact⟨_,rfl⟩
noncomputable def qh (n:kK) (b p:Int):nG:=(aA n b p).getD (0,0,0,0,0)
theorem wT {n:kK} (h:oW n) {b p:Int} {x:kZ} (hx:x∈n.1) (hb:at? n.1 b=some x):aA n b p=some (qh n b p)/\ak x.1 x.2.2.1 p=some (qh n b p):=by
 obtain⟨r,hr⟩:=Dq x.1 (h.w x hx).p p;have e:aA n b p=some r:=by
  unfold aA;rw[hb,kG,kG,hr,kG]
 unfold qh;rw[e];exact⟨rfl,hr⟩
def Dy (a v:nG):Bool:=a.1==v.1&&(a.2.1==v.2.1&&(a.2.2.1==v.2.2.1&&(a.2.2.2.1==v.2.2.2.1&&(a.2.2.2.2==v.2.2.2.2))))
def pv (n:kK) (b p:Int) (v:nG):Bool:=match ln n b p with|some y=>y.2.2.1&&Dy y.2.2.2 v|none=>false
theorem Cy {n:kK} (h:oW n) (b p:Int) (v:nG):bN n b p v=some (pv n b p v):=by
 unfold bN pv;rw[xN h.s,kG];cases ln n b p with
 | none=>rfl
 | some y=>cases hy:y.2.2.1<;>simp only[cT,cF,kG,hy]<;>rfl
noncomputable def tg (n:kK) (k:Nat):Bool:=match n.2.1[k]? with
 | some x=>lI n (k:Int)&&(!(pv n x.1 x.2.1 (qh n x.2.2.1 x.2.2.2))||!(pv n x.2.2.1 x.2.2.2 (qh n x.1 x.2.1)))
 | none=>false
theorem xZ {n:kK} {k:Nat} (hk:k<n.2.1.length) (h:lI n (k:Int)=true):(∃y,ln n n.2.1[k].1 n.2.1[k].2.1=some y)/\∃y,ln n n.2.1[k].2.2.1 n.2.1[k].2.2.2=some y:=by
 unfold lI at h;rw[sw hk,cT,kW hk]at h;simp only[u0,aT]at h;refine⟨?_,?_⟩
 · cases ho:ln n n.2.1[k].1 n.2.1[k].2.1 with
   | some y=>exact⟨y,rfl⟩
   | none=>rw[ho]at h;cases h.1
 · cases ho:ln n n.2.1[k].2.2.1 n.2.1[k].2.2.2 with
   | some y=>exact⟨y,rfl⟩
   | none=>rw[ho]at h;cases h.2
theorem BR {n:kK} (h:oW n):cD n=some (!((List.range n.2.1.length).any (tg n))):=by
 have hl:=h.s.l;have hs:loop (λz=>be n z) 0=some (cond ((List.range n.2.1.length).any (tg n)) (.inr false) (.inl ())):=by
  refine mF (λk hk=>?_) (by
   show be n (n.2.1.length:Int)=_;unfold be;rw[ls (by omega),cF])
  show be n (k:Int)=_;unfold be tg;rw[lW (by omega),cT,kW hk,kG,zq h.s,kG,lb (by omega),List.getElem?_eq_getElem hk];simp only;cases hu:lI n (k:Int)with
  | false=>rfl
  | true =>
   obtain⟨⟨y1,p1⟩,y2,p2⟩:=xZ hk hu;obtain⟨u,uu,u1,_⟩:=qY p1;obtain⟨v,vv,v1,_⟩:=qY p2;rw[(wT h vv v1).1,(wT h uu u1).1];simp only[cT,kG,Cy h];cases pv n n.2.1[k].1 n.2.1[k].2.1 (qh n n.2.1[k].2.2.1 n.2.1[k].2.2.2)<;>cases pv n n.2.1[k].2.2.1 n.2.1[k].2.2.2 (qh n n.2.1[k].1 n.2.1[k].2.1)<;>rfl
 unfold cD;rw[hs,kG];cases (List.range n.2.1.length).any (tg n)<;>rfl
theorem Cz {n:kK} (h:oW n) {k:Nat} (hk:k<n.2.1.length) (hu:lI n (k:Int)=true) :
 au n (k:Int) false=some (pv n n.2.1[k].2.2.1 n.2.1[k].2.2.2 (qh n n.2.1[k].1 n.2.1[k].2.1))/\au n (k:Int) true=some (pv n n.2.1[k].1 n.2.1[k].2.1 (qh n n.2.1[k].2.2.1 n.2.1[k].2.2.2)):=by
 obtain⟨⟨y1,p1⟩,y2,p2⟩:=xZ hk hu;obtain⟨u,uu,u1,u2⟩:=qY p1;obtain⟨v,vv,v1,v2⟩:=qY p2;have s1:ar n (k:Int) false=some (qh n n.2.1[k].1 n.2.1[k].2.1):=by
  unfold ar;rw[kW hk,kG,cF,u1,kG,kG,AW,(wT h uu u1).2,kG]
 have s2:ar n (k:Int) true=some (qh n n.2.1[k].2.2.1 n.2.1[k].2.2.2):=by
  unfold ar;rw[kW hk,kG,cT,v1,kG,kG,AW,(wT h vv v1).2,kG]
 constructor
 · unfold au pv;rw[kW hk,kG,v1,kG,v2,kG,cF,s1,p2];cases hy:y2.2.2.1<;>simp only[cT,cF,kG,hy]<;>rfl
 · unfold au pv;rw[kW hk,kG,v1,kG,v2,kG,cT,u1,kG,u2,kG,s2,p1];cases hy:y1.2.2.1<;>simp only[cT,cF,kG,hy]<;>rfl
theorem BS {n:kK} (h:oW n):ce n=some (!((List.range n.2.1.length).any (tg n))):=by
 have hl:=h.s.l;have hs:loop (λz=>aS n z) 0=some (cond ((List.range n.2.1.length).any (tg n)) (.inr false) (.inl ())):=by
  refine mF (λk hk=>?_) (by
   show aS n (n.2.1.length:Int)=_;unfold aS;rw[ls (by omega),cF])
  show aS n (k:Int)=_;unfold aS tg;rw[lW (by omega),cT,uk h.s,kG,lb (by omega),List.getElem?_eq_getElem hk];simp only;cases hu:lI n (k:Int)with
  | false=>rfl
  | true =>
   obtain⟨e1,e2⟩:=Cz h hk hu;rw[e1,e2];simp only[cT,kG];cases pv n n.2.1[k].1 n.2.1[k].2.1 (qh n n.2.1[k].2.2.1 n.2.1[k].2.2.2)<;>cases pv n n.2.1[k].2.2.1 n.2.1[k].2.2.2 (qh n n.2.1[k].1 n.2.1[k].2.1)<;>rfl
 unfold ce;rw[hs,kG];cases (List.range n.2.1.length).any (tg n)<;>rfl
structure qi (n:kK):Prop where
 b:oW n
 n1:1<=n.1.length/\n.1.length<=6
 ok:∀x∈n.1,oe x=true
 one:∀i j (hi:i<n.1.length) (hj:j<n.1.length),n.1[i].1=n.1[j].1->i=j
 l9:n.2.1.length<=9
 ends:∀x∈n.2.1,(∃y,ln n x.1 x.2.1=some y)/\∃y,ln n x.2.2.1 x.2.2.2=some y
theorem wE {o:Option Pt} (h:te o=true):∃y,o=some y:=by
 cases o with
 | none=>cases h
 | some y=>exact⟨y,rfl⟩
theorem BT {n:kK} (h:oW n) (hp:uU n=true):qi n:=by
 unfold uU at hp;simp only[aT,Bool.not_eq_true']at hp;obtain⟨h1,h2,h3,h4,h5⟩:=hp;have h1:=xY h1
 have h3:=pE.1 h3;have key:∀i (hi:i<n.1.length),oe n.1[i]=true/\∀j,j<i->q5 n n.1[i] j=false:=λi hi=>by
  have:=h3 i hi;unfold s3 at this;rw[List.getElem?_eq_getElem hi]at this;simp only[Bool.or_eq_false_iff,Bool.not_eq_false']at this;exact⟨this.1,pE.1 this.2.1⟩
 have lt:∀i j (hi:i<n.1.length) (hj:j<i),n.1[j].1≠n.1[i].1:=λi j hi hj e=>by
  have:=(key i hi).2 j hj;unfold q5 at this;rw[List.getElem?_eq_getElem (show j<n.1.length by omega)]at this;simp only[bF]at this;exact this e
 have h5':=h5;rw[vG,Bool.or_eq_false_iff]at h5';refine⟨h,⟨by omega,by omega⟩,λx hx=>?_,λi j hi hj e=>?_,?_,λx hx=>?_⟩
 · obtain⟨i,hi,rfl⟩:=getElem_of_mem hx;exact (key i hi).1
 · rcases Nat.lt_trichotomy i j with hij|hij|hij
   · exact absurd e (lt j i hj hij)
   · exact hij
   · exact absurd e.symm (lt i j hi hij)
 · have:=of_decide_eq_false h5'.1;omega
 · obtain⟨k,hk,rfl⟩:=getElem_of_mem hx;have:=pE.1 h5 k hk
   unfold s4 at this;rw[List.getElem?_eq_getElem hk]at this;simp only[Bool.or_eq_false_iff,Bool.not_eq_false']at this;have hb:=this.2.1
   unfold qS at hb;simp only[aT]at hb;exact⟨wE hb.1,wE hb.2.1⟩
theorem yF {n:kK} (h:qi n) {x:kZ} (hx:x∈n.1):1<=x.1:=by
 have:=h.ok x hx;unfold oe at this;simp only[aT]at this;exact (xY this.2.1).1
theorem yG {n:kK} (h:qi n) {x:kZ} (hx:x∈n.1) {y:Pt} (hy:y∈x.2.2.1):1<=y.2.1/\y.2.1<=1000:=by
 have:=h.ok x hx;unfold oe at this;simp only[aT,Bool.not_eq_true']at this;obtain⟨k,hk,rfl⟩:=getElem_of_mem hy;have h2:=pE.1 this.1 k hk
 unfold uG at h2;rw[List.getElem?_eq_getElem hk]at h2;simp only[Bool.not_eq_false']at h2;unfold yz at h2;simp only[aT]at h2;exact xY h2.1

def uV (n:kK) (x:Int):Int:=match at? n.1 x with|some y=>y.1|none=>0
def qE (n:kK) (l:List Int):Int:=l.foldl (λr x=>if r<0\/uV n x<uV n r then x else r) (-1)
def Ao (n:kK) (r:Int):Prop:=r = -1\/∃k:Nat,k<n.1.length/\r=(k:Int)
def oG (n:kK) (r:Int):Int:=if r<0 then 0 else uV n r
theorem th (n:kK) {l:List Int} {k:Nat} (hk:k<l.length):qE n (l.take (k+1))=if qE n (l.take k)<0\/uV n l[k]<uV n (qE n (l.take k))then l[k]else qE n (l.take k):=by
 have et:l.take (k+1)=l.take k++[l[k]]:=by rw[take_add_one,List.getElem?_eq_getElem hk];rfl
 unfold qE;rw[et,foldl_append];rfl
theorem pM {n:kK} {k:Nat} (hk:k<n.1.length):uV n (k:Int)=n.1[k].1:=by unfold uV;rw[kW hk]
theorem Ap (n:kK) (b:Int) (ks:List Int):∀x∈og n b ks,∃k:Nat,k<n.1.length/\x=(k:Int):=by
 intro x hx;unfold og at hx;cases hp:kU b 0 ((n.1.length:Int)-1)with
 | false=>rw[hp]at hx;cases hx
 | true =>
  rw[hp,cT]at hx;unfold o7 at hx;obtain⟨k,hk,rfl⟩:=List.mem_map.1 hx;exact⟨k,mem_range.1 (List.mem_filter.1 hk).1,rfl⟩
theorem Bj {n:kK} (h:qi n) (b:Int):∃r,aE n b=some r/\bJ n b=some (oG n r)/\Ao n r:=by
 have hl:=h.b.s.l;have hu:(lA n n.2.1.length).length<=1048576:=Nat.le_trans (qX _ _) hl
 have hv:=Ap n b (lA n n.2.1.length);have hjl:(og n b (lA n n.2.1.length)).length<=1048576:=Nat.le_trans (qw _ _ _) h.b.c
 unfold aE bJ;rw[sZ h.b.s,xS h.b.s,kG,kG,ul h.b.c hl b hu,um h.b.c hl b hu,kG,kG];generalize og n b (lA n n.2.1.length)=l at hv hjl;obtain⟨v,e1,rfl,ho⟩:=lD (step:=λz:Int×Int=>bm n l z.1 z.2) (λk z=>z=(qE n (l.take k),(k:Int))/\Ao n (qE n (l.take k))) l.length (λv=>v=qE n l/\Ao n (qE n l))
  (λk z hk ⟨e,ho⟩=>by
   subst e;obtain⟨j,hj,ej⟩:=hv _ (getElem_mem hk);refine .inl ⟨(qE n (l.take (k+1)),((k+1:Nat):Int)),?_,rfl,?_⟩
   · show bm n l (qE n (l.take k)) (k:Int)=_;rw[th n hk];unfold bm;rw[lW (by omega),cT,mY hk,kG,List.getElem?_eq_getElem hk,kG,lb (by omega)];rcases ho with e|⟨i,hi,e⟩
     · rw[e];rfl
     · rw[e,ej,ls (by omega),cF,kW hj,kG,kW hi,kG,kG,pM hj,pM hi];by_cases hc:n.1[j].1<n.1[i].1
       · rw[dT hc,cT,if_pos (.inr hc)]
       · rw[dF hc,cF,if_neg (by rintro (h|h);omega;exact hc h)]
   · rw[th n hk];split
     · exact .inr ⟨j,hj,ej⟩
     · exact ho)
  (λz ⟨e,ho⟩=>by
   subst e;rw[take_length]at ho ⊢;refine⟨_,?_,rfl,ho⟩;show bm n l _ (l.length:Int)=_
   unfold bm;rw[ls (by omega),cF]) (x:=(-1,0)) ⟨rfl,.inl rfl⟩
 obtain⟨v,e2,rfl,_⟩:=lD (step:=λz:Int×Int=>aW n l z.1 z.2) (λk z=>z=(oG n (qE n (l.take k)),(k:Int))/\Ao n (qE n (l.take k))) l.length (λv=>v=oG n (qE n l)/\True)
  (λk z hk ⟨e,ho⟩=>by
   subst e;obtain⟨j,hj,ej⟩:=hv _ (getElem_mem hk);refine .inl ⟨(oG n (qE n (l.take (k+1))),((k+1:Nat):Int)),?_,rfl,?_⟩
   · show aW n l (oG n (qE n (l.take k))) (k:Int)=_;rw[th n hk];have hvj:oG n (j:Int)=n.1[j].1:=by unfold oG;rw[if_neg (by omega),pM hj]
     unfold aW;rw[lW (by omega),cT,mY hk,kG,List.getElem?_eq_getElem hk,kG,lb (by omega),ej,kW hj,kG];rcases ho with e|⟨i,hi,e⟩
     · rw[e,if_pos (.inl (by omega)),hvj];have:(oG n (-1)==0)=true:=rfl
       rw[this];rfl
     · have hvi:oG n (i:Int)=n.1[i].1:=by unfold oG;rw[if_neg (by omega),pM hi]
       have hpos:=yF h (getElem_mem hi);rw[e,hvi,beq_eq_false_iff_ne.2 (show n.1[i].1≠0 by omega),cF,kG,pM hj,pM hi];by_cases hc:n.1[j].1<n.1[i].1
       · rw[dT hc,cT,if_pos (.inr hc),hvj]
       · rw[dF hc,cF,if_neg (by rintro (h|h);omega;exact hc h),hvi]
   · rw[th n hk];split
     · exact .inr ⟨j,hj,ej⟩
     · exact ho)
  (λz ⟨e,ho⟩=>by
   subst e;rw[take_length];refine⟨_,?_,rfl,trivial⟩;show aW n l _ (l.length:Int)=_
   unfold aW;rw[ls (by omega),cF]) (x:=(0,0)) ⟨rfl,.inl rfl⟩
 rw[e1,e2];exact⟨_,rfl,rfl,ho⟩
theorem Aq {n:kK} {b r:Int} (h1:aE n b=some r) (ho:Ao n r):cL n b=some (oG n r):=by
 unfold cL oG;rw[h1,kG];rcases ho with rfl|⟨k,hk,rfl⟩
 · rfl
 · rw[ls (by omega),cF,kW hk,kG,if_neg (by omega),pM hk]
theorem yH {n:kK} {b p:Int} {y:Pt} (h:ln n b p=some y):∃k,∃hk:k<n.1.length,b=(k:Int)/\at? n.1[k].2.2.1 p=some y/\y∈n.1[k].2.2.1:=by
 unfold ln at h;cases h1:kU b 0 ((n.1.length:Int)-1)with
 | false=>rw[h1]at h;cases h
 | true =>
  obtain⟨k,hk,eb,e⟩:=o5 h1;rw[h1,e]at h;simp only[cT]at h;cases h2:kU p 0 (((n.1[k]).2.2.1.length:Int)-1)with
  | false=>rw[h2]at h;cases h
  | true =>
   rw[h2,cT]at h;obtain⟨j,hj,_,e2⟩:=o5 h2;refine⟨k,hk,eb,h,?_⟩;rw[e2]at h;cases h;exact getElem_mem hj
def y0 (n:kK) (k:Int):List q9:=match at? n.2.1 k with
 | some x=>(match ln n x.1 x.2.1,ln n x.2.2.1 x.2.2.2 with
  | some q,some p=>[(x.1.toNat,x.2.2.1.toNat,p.2.1),(x.2.2.1.toNat,x.1.toNat,q.2.1)]
  | _,_=>[])
 | none=>[]
def mG (n:kK) (l:List Int):List q9:=l.flatMap (y0 n)
theorem vY {n:kK} (h:qi n) {k:Nat} (hk:k<n.2.1.length):∃i j,∃hi:i<n.1.length,∃hj:j<n.1.length,∃q p:Pt,n.2.1[k].1=(i:Int)/\n.2.1[k].2.2.1=(j:Int)/\at? n.1[i].2.2.1 n.2.1[k].2.1=some q/\at? n.1[j].2.2.1 n.2.1[k].2.2.2=some p /\
 (1<=q.2.1/\q.2.1<=1000)/\(1<=p.2.1/\p.2.1<=1000)/\y0 n (k:Int)=[(i,j,p.2.1),(j,i,q.2.1)]:=by
 obtain⟨⟨q,hq⟩,p,hp⟩:=h.ends _ (getElem_mem hk);obtain⟨i,hi,e1,e2,e3⟩:=yH hq;obtain⟨j,hj,f1,f2,f3⟩:=yH hp;refine⟨i,j,hi,hj,q,p,e1,f1,e2,f2,yG h (getElem_mem hi) e3,yG h (getElem_mem hj) f3,?_⟩;unfold y0;rw[kW hk];simp only[hq,hp];rw[e1,f1];rfl
theorem y3 {n:kK} {m:Nat} (hm:m<=n.2.1.length):∀x∈lA n m,∃k:Nat,k<n.2.1.length/\x=(k:Int):=λx hx=>by
 unfold lA at hx;obtain⟨k,hk,rfl⟩:=List.mem_map.1 hx;have:=mem_range.1 (List.mem_filter.1 hk).1
 exact⟨k,by omega,rfl⟩
theorem BU {n:kK} (h:qi n) {l:List Int} (hl:∀x∈l,∃k:Nat,k<n.2.1.length/\x=(k:Int)):po n.1.length (mG n l):=λa ha=>by
 obtain⟨x,hx,ha⟩:=List.mem_flatMap.1 ha;obtain⟨k,hk,rfl⟩:=hl x hx;obtain⟨i,j,hi,hj,q,p,_,_,_,_,hq,hp,e⟩:=vY h hk;rw[e]at ha;simp only[mem_cons,List.not_mem_nil,or_false]at ha;rcases ha with rfl|rfl
 · exact⟨hi,hj,hp.1⟩
 · exact⟨hj,hi,hq.1⟩
theorem nq {d:List Int} {v:Nat} (hv:v<d.length):gd d v=d[v]:=by
 unfold gd;rw[List.getD_eq_getElem?_getD,List.getElem?_eq_getElem hv];rfl
theorem vH {s o:List Int} {a:q9} {N:Int} (ha:a.2.1<o.length) (hc:1<=a.2.2/\a.2.2<=1000) (hs:∀v,gd s v<=N) (ho:∀v,gd o v<=N+1000):∀v,gd (m0 s o a) v<=N+1000:=λv=>by
 rcases rp (s:=s) (o:=o) ha hc.1 v with ⟨e,_⟩|⟨_,_,e,_⟩
 · rw[e];exact ho v
 · rw[e];have:=hs a.1;omega
theorem Ar {net:kK} {d:List Int} {i j:Nat} (hi:i<d.length) (hj:j<d.length) {port:Int} {bt:kZ} {y:Pt} (h1:at? net.1 (j:Int)=some bt) (h2:at? bt.2.2.1 port=some y) (hc:1<=y.2.1/\y.2.1<=1000) (hb:gd d i<=1000000000) :
 bQ (i:Int) (j:Int) port d net=some (m0 d d (i,j,y.2.1),net):=by
 unfold bQ m0;rw[nq hi]at hb ⊢;rw[nq hj];simp only[mY hi,mY hj,kG,List.getElem?_eq_getElem hi,List.getElem?_eq_getElem hj,h1,h2];by_cases h0:d[i]<0
 · rw[lW h0,cT,if_neg (by omega)]
 · rw[ls h0,cF,lO (n:=d[i]+y.2.1) (by omega) (by omega)];by_cases h3:d[j]<0
   · rw[lW h3,cT,kG,cT,if_pos ⟨by omega,.inl h3⟩]
   · rw[ls h3,cF,kG];by_cases h4:d[i]+y.2.1<d[j]
     · rw[lW h4,cT,if_pos ⟨by omega,.inr h4⟩]
     · rw[ls h4,cF,if_neg (by rintro⟨_,h|h⟩;exact h3 h;exact h4 h)]
theorem CA {n:kK} (h:qi n) {d:List Int} (hd:d.length=n.1.length) {N:Int} (hN:N<=900000000) (hb:∀v,gd d v<=N) :
 loop (λz:Int×List kZ×List lp×List nH×List Int=>aG (lA n n.2.1.length) z.1 z.2.1 z.2.2.1 z.2.2.2.1 z.2.2.2.2) (0,n.1,n.2.1,n.2.2,d)=some (n.1,n.2.1,n.2.2,gs (mG n (lA n n.2.1.length)) d) /\
  (gs (mG n (lA n n.2.1.length)) d).length=n.1.length/\∀v,gd (gs (mG n (lA n n.2.1.length)) d) v<=N+18000:=by
 have hks:=y3 (n:=n) (Nat.le_refl n.2.1.length);have hkl:(lA n n.2.1.length).length<=9:=Nat.le_trans (qX _ _) h.l9
 generalize lA n n.2.1.length=ks at hks hkl;obtain⟨v,e1,rfl,e2,e3⟩:=lD (step:=λz:Int×List kZ×List lp×List nH×List Int=>aG ks z.1 z.2.1 z.2.2.1 z.2.2.2.1 z.2.2.2.2)
  (λk z=>z=((k:Int),n.1,n.2.1,n.2.2,gs (mG n (ks.take k)) d)/\(gs (mG n (ks.take k)) d).length=n.1.length/\∀v,gd (gs (mG n (ks.take k)) d) v<=N+2000*(k:Int)) ks.length
  (λv=>v=(n.1,n.2.1,n.2.2,gs (mG n ks) d)/\(gs (mG n ks) d).length=n.1.length/\∀v,gd (gs (mG n ks) d) v<=N+18000)
  (λk z hk ⟨e,el,eb⟩=>by
   subst e;obtain⟨m,hm,em⟩:=hks _ (getElem_mem hk);obtain⟨i,j,hi,hj,q,p,x1,x2,x3,x4,hq,hp,ea⟩:=vY h hm;have et:ks.take (k+1)=ks.take k++[ks[k]]:=by rw[take_add_one,List.getElem?_eq_getElem hk];rfl
   have eg:gs (mG n (ks.take (k+1))) d=m0 (m0 (gs (mG n (ks.take k)) d) (gs (mG n (ks.take k)) d) (i,j,p.2.1)) (m0 (gs (mG n (ks.take k)) d) (gs (mG n (ks.take k)) d) (i,j,p.2.1)) (j,i,q.2.1):=by
    unfold gs mG;rw[et,List.flatMap_append,foldl_append];show List.foldl _ _ (y0 n ks[k]++[])=_
    rw[em,ea];rfl
   rw[eg];generalize gs (mG n (ks.take k)) d=c at el eb;have b1:=vH (s:=c) (o:=c) (a:=(i,j,p.2.1)) (N:=N+2000*(k:Int)) (by rw[el];exact hj) hp eb (λv=>by have:=eb v;omega)
   have l1:(m0 c c (i,j,p.2.1)).length=n.1.length:=(pd _ _ _).trans el;have b2:=vH (s:=m0 c c (i,j,p.2.1)) (o:=m0 c c (i,j,p.2.1)) (a:=(j,i,q.2.1)) (N:=N+2000*(k:Int)+1000) (by rw[l1];exact hi) hq b1 (λv=>by have:=b1 v;omega)
   refine .inl ⟨_,?_,rfl,(pd _ _ _).trans l1,λv=>by have:=b2 v;omega⟩;show aG ks (k:Int) n.1 n.2.1 n.2.2 c=_
   unfold aG;rw[lW (by omega),cT,mY hk,kG,List.getElem?_eq_getElem hk,kG,em,kW hm,kG,lb (by omega),x1,x2];rw[Ar (net:=(n.1,n.2.1,n.2.2)) (by omega) (by omega) (kW hj) x4 hp (by have:=eb i;omega),kG];simp only;rw[Ar (net:=(n.1,n.2.1,n.2.2)) (by omega) (by omega) (kW hi) x3 hq (by have:=b1 j;omega),kG])
  (λz ⟨e,el,eb⟩=>by
   subst e;rw[take_length]at el eb ⊢;refine⟨_,?_,rfl,el,λv=>by have:=eb v;omega⟩;show aG ks (ks.length:Int) n.1 n.2.1 n.2.2 _=_
   unfold aG;rw[ls (by omega),cF]) (x:=(0,n.1,n.2.1,n.2.2,d)) ⟨rfl,hd,λv=>by have:=hb v;show gd d v<=N+2000*((0:Nat):Int);omega⟩
 exact⟨e1,e2,e3⟩
theorem D8 {n:kK} (h:qi n) {d:List Int} (hd:d.length=n.1.length) {N:Int} (hN:N<=900000000) (hb:∀v,gd d v<=N) :
 cm n d=some (lF (mG n (lA n n.2.1.length)) d)/\(lF (mG n (lA n n.2.1.length)) d).length=n.1.length/\∀v,gd (lF (mG n (lA n n.2.1.length)) d) v<=N+1000:=by
 have hn1:=h.n1;have hl9:=h.l9
 obtain⟨v,e1,rfl,e2,e3⟩:=lD (step:=λz:Int×List Int=>aw n d z.1 z.2)
  (λk z=>z=((k:Int),(mG n (lA n k)).foldl (m0 d) d)/\((mG n (lA n k)).foldl (m0 d) d).length=n.1.length/\∀v,gd ((mG n (lA n k)).foldl (m0 d) d) v<=N+1000) n.2.1.length
  (λv=>v=lF (mG n (lA n n.2.1.length)) d/\(lF (mG n (lA n n.2.1.length)) d).length=n.1.length/\∀v,gd (lF (mG n (lA n n.2.1.length)) d) v<=N+1000)
  (λk z hk ⟨e,el,eb⟩=>by
   subst e;left;have es:=wA n k
   show ∃y,aw n d (k:Int) _=some (.inl y)/\_;unfold aw;rw[lW (by omega),cT,uk h.b.s,kG,lb (by omega)];cases hu:lI n (k:Int)with
   | false =>
    rw[hu,cF]at es;rw[es];exact⟨_,rfl,rfl,el,eb⟩
   | true =>
    rw[hu,cT]at es;obtain⟨i,j,hi,hj,q,p,x1,x2,x3,x4,hq,hp,ea⟩:=vY h hk;have eg:(mG n (lA n (k+1))).foldl (m0 d) d=m0 d (m0 d ((mG n (lA n k)).foldl (m0 d) d) (i,j,p.2.1)) (j,i,q.2.1):=by
     unfold mG;rw[es,List.flatMap_append,foldl_append];show List.foldl _ _ (y0 n (k:Int)++[])=_
     rw[ea];rfl
    rw[eg];generalize (mG n (lA n k)).foldl (m0 d) d=c at el eb;have b1:=vH (s:=d) (o:=c) (a:=(i,j,p.2.1)) (N:=N) (by rw[el];exact hj) hp hb eb
    have l1:(m0 d c (i,j,p.2.1)).length=n.1.length:=(pd _ _ _).trans el;have b2:=vH (s:=d) (o:=m0 d c (i,j,p.2.1)) (a:=(j,i,q.2.1)) (N:=N) (by rw[l1];exact hi) hq hb b1
    refine⟨(((k+1:Nat):Int),m0 d (m0 d c (i,j,p.2.1)) (j,i,q.2.1)),?_,rfl,(pd _ _ _).trans l1,b2⟩;have hdi:i<d.length:=by omega
    have hdj:j<d.length:=by omega
    have hci:i<c.length:=by omega
    have hcj:j<c.length:=by omega
    have bi:d[i]<=N:=by rw[←nq hdi];exact hb i
    have bj:d[j]<=N:=by rw[←nq hdj];exact hb j
    have w1:kJ (d[i]+p.2.1)=d[i]+p.2.1\/d[i]<0:=by
     by_cases h0:d[i]<0
     · exact .inr h0
     · exact .inl (lO (by omega) (by omega))
    have w2:kJ (d[j]+q.2.1)=d[j]+q.2.1\/d[j]<0:=by
     by_cases h0:d[j]<0
     · exact .inr h0
     · exact .inl (lO (by omega) (by omega))
    simp only[Bool.not_true,cF,kW hk,kG,x1,x2,kW hi,kW hj,x3,x4,kW hdi,kW hdj,mY hcj,List.getElem?_eq_getElem hcj];have first:(cond (decide (d[i]>=0)) ((cond (decide (c[j]<0)) (some true) (some (decide (kJ (d[i]+p.2.1)<c[j])))).bind λt80=>some t80) (some false))=some (decide (0<=gd d i/\(gd c j<0\/gd d i+p.2.1<gd c j))):=by
     rw[nq hdi,nq hcj];by_cases h0:d[i]<0
     · rw[dF (show ¬d[i]>=0 by omega),cF,dF (by omega)]
     · rw[dT (show d[i]>=0 by omega),cT,w1.resolve_right h0];by_cases h1:c[j]<0
       · rw[lW h1,cT,kG,dT ⟨by omega,.inl h1⟩]
       · rw[ls h1,cF,kG]
         congr 1
         apply decide_eq_decide.2;constructor
         · exact λh=>⟨by omega,.inr h⟩
         · rintro⟨_,h|h⟩
           · exact absurd h h1
           · exact h
    have second:∀(o:List Int) (ho:i<o.length),(cond (decide (d[j]>=0)) ((cond (decide (o[i]<0)) (some true) (some (decide (kJ (d[j]+q.2.1)<o[i])))).bind λt80=>some t80) (some false))=some (decide (0<=gd d j/\(gd o i<0\/gd d j+q.2.1<gd o i))):=λo ho=>by
     rw[nq hdj,nq ho];by_cases h0:d[j]<0
     · rw[dF (show ¬d[j]>=0 by omega),cF,dF (by omega)]
     · rw[dT (show d[j]>=0 by omega),cT,w2.resolve_right h0];by_cases h1:o[i]<0
       · rw[lW h1,cT,kG,dT ⟨by omega,.inl h1⟩]
       · rw[ls h1,cF,kG]
         congr 1
         apply decide_eq_decide.2;constructor
         · exact λh=>⟨by omega,.inr h⟩
         · rintro⟨_,h|h⟩
           · exact absurd h h1
           · exact h
    rw[first,kG];by_cases c1:0<=gd d i/\(gd c j<0\/gd d i+p.2.1<gd c j)
    · have hd0:¬d[i]<0:=by have:=c1.1;rw[nq hdi]at this;omega
      have r1:m0 d c (i,j,p.2.1)=c.set j (d[i]+p.2.1):=by unfold m0;rw[if_pos c1,nq hdi]
      have hsi:i<(c.set j (d[i]+p.2.1)).length:=by rw[length_set];exact hci
      rw[dT c1,cT,r1];simp only[w1.resolve_right hd0,mY hsi,kG,List.getElem?_eq_getElem hsi];rw[second _ hsi,kG];by_cases c2:0<=gd d j/\(gd (c.set j (d[i]+p.2.1)) i<0\/gd d j+q.2.1<gd (c.set j (d[i]+p.2.1)) i)
      · have hd1:¬d[j]<0:=by have:=c2.1;rw[nq hdj]at this;omega
        have r2:m0 d (c.set j (d[i]+p.2.1)) (j,i,q.2.1)=(c.set j (d[i]+p.2.1)).set i (d[j]+q.2.1):=by unfold m0;rw[if_pos c2,nq hdj]
        rw[dT c2,cT,r2,w2.resolve_right hd1]
      · have r2:m0 d (c.set j (d[i]+p.2.1)) (j,i,q.2.1)=c.set j (d[i]+p.2.1):=by unfold m0;rw[if_neg c2]
        rw[dF c2,cF,r2]
    · have r1:m0 d c (i,j,p.2.1)=c:=by unfold m0;rw[if_neg c1]
      rw[dF c1,cF,r1];simp only[mY hci,kG,List.getElem?_eq_getElem hci];rw[second _ hci,kG];by_cases c2:0<=gd d j/\(gd c i<0\/gd d j+q.2.1<gd c i)
      · have hd1:¬d[j]<0:=by have:=c2.1;rw[nq hdj]at this;omega
        have r2:m0 d c (j,i,q.2.1)=c.set i (d[j]+q.2.1):=by unfold m0;rw[if_pos c2,nq hdj]
        rw[dT c2,cT,r2,w2.resolve_right hd1]
      · have r2:m0 d c (j,i,q.2.1)=c:=by unfold m0;rw[if_neg c2]
        rw[dF c2,cF,r2])
  (λz ⟨e,el,eb⟩=>by
   subst e;refine⟨_,?_,rfl,el,eb⟩;show aw n d (n.2.1.length:Int) _=_
   unfold aw;rw[ls (by omega),cF];rfl) (x:=(0,d)) ⟨rfl,hd,λv=>by have:=hb v;show gd d v<=N+1000;omega⟩
 refine⟨?_,e2,e3⟩;unfold cm;rw[oD (by show 0+d.length<=_;omega),List.nil_append,kG];have e1:loop (λz=>aw n d z.1 z.2) (0,d)=_:=e1
 rw[e1,kG]

theorem u5 (m v:Nat):gd (List.replicate m (-1)) v = -1:=by
 unfold gd;rw[List.getD_eq_getElem?_getD,List.getElem?_replicate];split<;>rfl
def oh (m:Nat) (k:Nat):List Int:=(List.replicate m (-1)).set k 0
theorem tj (m k:Nat):(oh m k).length=m:=by unfold oh;simp
theorem sy {m k:Nat} (hk:k<m) (v:Nat):gd (oh m k) v=if v=k then 0 else -1:=by
 unfold oh;rw[Ak _ (by simpa using hk),u5]
theorem As {m:Nat} (hm:m<=1048576):loop (λz:Int×List Int=>aF m z.1 z.2) (0,List.replicate m (0:Int))=some (List.replicate m (-1)):=by
 obtain⟨v,e1,rfl⟩:=lD (step:=λz:Int×List Int=>aF m z.1 z.2) (λk z=>z.1=(k:Int)/\z.2.length=m/\∀v,v<k->z.2[v]?=some (-1)) m (λv=>v=List.replicate m (-1))
  (λk z hk ⟨z1,z2,z3⟩=>by
   obtain⟨i,l⟩:=z;simp only at z1 z2 z3;subst z1;have hkl:k<l.length:=by omega
   refine .inl ⟨(((k+1:Nat):Int),l.set k (-1)),?_,rfl,by rw[length_set];exact z2,λv hv=>?_⟩
   · show aF m (k:Int) l=_;unfold aF;rw[length_replicate,lW (by omega),cT,mY hkl,kG,List.getElem?_eq_getElem hkl,kG,lb (by omega)]
   · show (l.set k (-1))[v]?=_;rw[List.getElem?_set];split
     · first|rfl|rw[if_pos hkl]
     · exact z3 v (by omega))
  (λz ⟨z1,z2,z3⟩=>by
   obtain⟨i,l⟩:=z;simp only at z1 z2 z3;subst z1;refine⟨l,?_,?_⟩
   · show aF m (m:Int) l=_;unfold aF;rw[length_replicate,ls (by omega),cF]
   · apply List.ext_getElem?;intro v;rw[List.getElem?_replicate];split
     · rename_i h;exact z3 v h
     · rename_i h;exact List.getElem?_eq_none (by omega)) (x:=(0,List.replicate m (0:Int))) ⟨rfl,by simp,λv hv=>by omega⟩
 exact e1
abbrev my (n:kK):List q9:=mG n (lA n n.2.1.length)
theorem D9 {n:kK} (h:qi n) {b:Int} {c k:Nat} (hb:b=(c:Int)) (hc:c<n.1.length) (hk:k<n.1.length) (hr:aE n b=some (k:Int)):bo n b=some (gd (kS (gs (my n)) n.1.length (oh n.1.length k)) c):=by
 have hn:=h.n1;subst hb;unfold bo;have hm:nM (n.1.length:Int)=some n.1.length:=by
  unfold nM;have:tA=4294967296:=rfl
  rw[if_pos (by omega),if_pos (by omega)];rfl
 have hrl:(List.replicate n.1.length (-1:Int)).length=n.1.length:=by simp
 rw[hr,kG,ls (by omega),cF,hm,kG,As (by omega),kG];have hkr:k<(List.replicate n.1.length (-1:Int)).length:=by rw[hrl];exact hk
 rw[mY hkr,kG,List.getElem?_eq_getElem hkr,kG];obtain⟨v,e1,rfl,e2⟩:=lD (step:=λz:Int×List kZ×List lp×List nH×List Int=>bn n z.1 z.2.1 z.2.2.1 z.2.2.2.1 z.2.2.2.2)
  (λt z=>z=((t:Int),n.1,n.2.1,n.2.2,kS (gs (my n)) t (oh n.1.length k))/\(kS (gs (my n)) t (oh n.1.length k)).length=n.1.length/\∀v,gd (kS (gs (my n)) t (oh n.1.length k)) v<=18000*(t:Int)) n.1.length
  (λv=>v=(n.1,n.2.1,n.2.2,kS (gs (my n)) n.1.length (oh n.1.length k))/\(kS (gs (my n)) n.1.length (oh n.1.length k)).length=n.1.length)
  (λt z ht ⟨e,el,eb⟩=>by
   subst e;obtain⟨r1,r2,r3⟩:=CA h el (N:=18000*(t:Int)) (by omega) eb;refine .inl ⟨(((t+1:Nat):Int),n.1,n.2.1,n.2.2,kS (gs (my n)) (t+1) (oh n.1.length k)),?_,rfl,r2,λv=>by have:gd (kS (gs (my n)) (t+1) (oh n.1.length k)) v<=_:=r3 v;omega⟩;show bn n (t:Int) n.1 n.2.1 n.2.2 _=_
   unfold bn;rw[lW (by omega),cT,sZ (n:=(n.1,n.2.1,n.2.2)) h.b.s,kG,lb (by omega)];refine (congrArg (λo=>Option.bind o _) r1).trans ?_;rfl)
  (λz ⟨e,el,eb⟩=>by
   subst e;refine⟨_,?_,rfl,el⟩;show bn n (n.1.length:Int) n.1 n.2.1 n.2.2 _=_
   unfold bn;rw[ls (by omega),cF]) (x:=(0,n.1,n.2.1,n.2.2,oh n.1.length k)) ⟨rfl,tj _ _,λv=>by
    show gd (oh n.1.length k) v<=_;rw[sy hk];split<;>omega⟩
 have hcl:c<(kS (gs (my n)) n.1.length (oh n.1.length k)).length:=by omega
 refine (congrArg (λo=>Option.bind o _) e1).trans ?_;show (ix (kS (gs (my n)) n.1.length (oh n.1.length k)).length (c:Int)).bind _=_
 rw[mY hcl,kG,List.getElem?_eq_getElem hcl,kG,nq hcl]
theorem vZ {n:Nat} {l:List q9} (hl:po n l) {d0:List Int} (h0:d0.length=n) (hd:∀v,gd d0 v<0):∀k v,gd (kS (lF l) k d0) v<0
 | 0,v=>hd v
 | k+1,v=>by
  have hk:gd (kS (lF l) (k+1) d0) v=gd (kS (lF l) k d0) v\/∃a∈l,a.2.1=v/\0<=gd (kS (lF l) k d0) a.1/\gd (kS (lF l) (k+1) d0) v=gd (kS (lF l) k d0) a.1+a.2.2 :=
   ((oo (kS (lF l) k d0) l _ hl (oE hl h0 k)).2 v).2.2
  rcases hk with e|⟨a,_,_,e2,_⟩
  · rw[e];exact vZ hl h0 hd k v
  · exact absurd e2 (by have:=vZ hl h0 hd k a.1;omega)
theorem Dr {n:kK} (h:qi n) {d0:List Int} (hd:d0.length=n.1.length) (hb:∀v,gd d0 v<=0):loop (λz:Int×List Int=>ay n z.1 z.2) (0,d0)=some (kS (lF (my n)) n.1.length d0):=by
 have hn:=h.n1;obtain⟨v,e1,rfl⟩:=lD (step:=λz:Int×List Int=>ay n z.1 z.2)
  (λt z=>z=((t:Int),kS (lF (my n)) t d0)/\(kS (lF (my n)) t d0).length=n.1.length/\∀v,gd (kS (lF (my n)) t d0) v<=18000*(t:Int)) n.1.length
  (λv=>v=kS (lF (my n)) n.1.length d0)
  (λt z ht ⟨e,el,eb⟩=>by
   subst e;obtain⟨r1,r2,r3⟩:=D8 h el (N:=18000*(t:Int)) (by omega) eb;refine .inl ⟨(((t+1:Nat):Int),kS (lF (my n)) (t+1) d0),?_,rfl,r2,λv=>by have:gd (kS (lF (my n)) (t+1) d0) v<=_:=r3 v;omega⟩;show ay n (t:Int) _=_
   unfold ay;rw[lW (by omega),cT,r1,kG,lb (by omega)];rfl)
  (λz ⟨e,el,eb⟩=>by
   subst e;refine⟨_,?_,rfl⟩;show ay n (n.1.length:Int) _=_
   unfold ay;rw[ls (by omega),cF]) (x:=(0,d0)) ⟨rfl,hd,λv=>by have:=hb v;show gd d0 v<=18000*((0:Nat):Int);omega⟩
 exact e1
def pp (n:kK) (root:Int):List Int:=n.1.map λx=>if x.1=root then 0 else -1
theorem zy {n:kK} (hn:n.1.length<=1048576) (root:Int):loop (λz:Int×List Int=>ax n root z.1 z.2) (0,([]:List Int))=some (pp n root):=by
 obtain⟨v,e1,rfl⟩:=lD (step:=λz:Int×List Int=>ax n root z.1 z.2) (λk z=>z=((k:Int),(n.1.take k).map λx=>if x.1=root then 0 else -1)) n.1.length (λv=>v=pp n root)
  (λk z hk e=>by
   subst e;refine .inl ⟨_,?_,rfl⟩;have et:n.1.take (k+1)=n.1.take k++[n.1[k]]:=by rw[take_add_one,List.getElem?_eq_getElem hk];rfl
   have hl:((n.1.take k).map λx=>if x.1=root then (0:Int)else -1).length+1<=4294967296:=by rw[List.length_map,length_take];omega
   have ha:∀y:Int,nh ((n.1.take k).map λx=>if x.1=root then (0:Int)else -1) [y]=some (((n.1.take k).map λx=>if x.1=root then (0:Int)else -1)++[y]):=λy=>oD hl;rw[et,List.map_append];show ax n root (k:Int) _=_
   unfold ax;rw[lW (by omega),cT,kW hk,kG,ha,ha,lb (by omega)];by_cases hq:n.1[k].1=root
   · rw[beq_iff_eq.2 hq,cT,kG];simp[hq]
   · rw[beq_eq_false_iff_ne.2 hq,cF,kG];simp[hq])
  (λz e=>by
   subst e;rw[take_length];refine⟨pp n root,?_,rfl⟩;show ax n root (n.1.length:Int) _=_
   unfold ax;rw[ls (by omega),cF];rfl) (x:=(0,[])) rfl
 exact e1
theorem q6 (n:kK) (root:Int):(pp n root).length=n.1.length:=by unfold pp;simp
theorem wF {n:kK} {v:Nat} (hv:v<n.1.length) (root:Int):gd (pp n root) v=if n.1[v].1=root then 0 else -1:=by
 rw[nq (by rw[q6];exact hv)];unfold pp;rw[List.getElem_map]
theorem yI {a b:List Int} (hl:a.length=b.length) (h:∀v,v<a.length->gd a v=gd b v):a=b:=by
 apply List.ext_getElem hl;intro i h1 h2;have:=h i h1
 rwa [nq h1,nq h2]at this
theorem B4 {n:kK} (h:qi n) {c:Nat} (hc:c<n.1.length):∃x,bo n (c:Int)=some x/\bK n (c:Int)=some x:=by
 obtain⟨r,r1,r2,ho⟩:=Bj h (c:Int);have hn:=h.n1
 have ok:=BU h (y3 (n:=n) (Nat.le_refl n.2.1.length));have hin:kU (c:Int) 0 ((n.1.length:Int)-1)=true:=sw hc
 have hs:∀d:List Int,d.length=n.1.length->(∀v,gd d v<=0)->pp n (oG n r)=d->bK n (c:Int)=some (gd (kS (lF (my n)) n.1.length d) c):=λd hd hb e=>by
  have hcl:c<(kS (lF (my n)) n.1.length d).length:=by rw[oE ok hd];exact hc
  unfold bK;rw[lO (n:=(n.1.length:Int)-1) (by omega) (by omega),q4,kG,hin,Bool.not_true,cF,r2,kG,zy h.b.c,kG,e,Dr h hd hb,kG,mY hcl,kG,
   List.getElem?_eq_getElem hcl,kG,nq hcl]
 rcases ho with rfl|⟨k,hk,rfl⟩
 · have e0:pp n (oG n (-1))=List.replicate n.1.length (-1):=by
    refine yI (by rw[q6];simp) λv hv=>?_;rw[q6]at hv;have:=yF h (getElem_mem hv)
    rw[wF hv,u5,if_neg (by show ¬n.1[v].1=0;omega)]
   have hl:(List.replicate n.1.length (-1:Int)).length=n.1.length:=by simp
   refine⟨-1,?_,?_⟩
   · unfold bo;rw[r1];rfl
   · rw[hs _ hl (λv=>by rw[u5];omega) e0];have h1:gd (kS (lF (my n)) n.1.length (List.replicate n.1.length (-1))) c<0:=vZ ok hl (λv=>by rw[u5];omega) n.1.length c
     have h2:-1<=gd (kS (lF (my n)) n.1.length (List.replicate n.1.length (-1))) c:=xU ok hl (λv=>by rw[u5];omega) n.1.length c
     congr 1;omega
 · have e0:pp n (oG n (k:Int))=oh n.1.length k:=by
    refine yI (by rw[q6,tj]) λv hv=>?_;rw[q6]at hv;have hvr:oG n (k:Int)=n.1[k].1:=by unfold oG;rw[if_neg (by omega),pM hk]
    rw[wF hv,sy hk,hvr];by_cases e:v=k
    · subst e;rw[if_pos rfl,if_pos rfl]
    · rw[if_neg e,if_neg λq=>e (h.one v k hv hk q)]
   have hz:∀v,0<=gd (oh n.1.length k) v->gd (oh n.1.length k) v=0:=λv=>by rw[sy hk];split<;>omega
   have hd:∀v,-1<=gd (oh n.1.length k) v:=λv=>by rw[sy hk];split<;>omega
   refine⟨_,D9 h rfl hc hk r1,?_⟩;rw[hs _ (tj _ _) (λv=>by rw[sy hk];split<;>omega) e0,Am ok (tj _ _) hz hd]
theorem wG {n:kK} (h:qi n) {c:Nat} (hc:c<n.1.length):∃x,aH n (c:Int)=some x/\cn n (c:Int)=some x:=by
 obtain⟨r,r1,r2,ho⟩:=Bj h (c:Int);obtain⟨x,x1,x2⟩:=B4 h hc;have hn:=h.n1
 have hin:kU (c:Int) 0 ((n.1.length:Int)-1)=true:=sw hc;obtain⟨v,hv⟩:=zp n.1[c].1 (h.b.w _ (getElem_mem hc)).p;unfold aH cn;rw[lO (n:=(n.1.length:Int)-1) (by omega) (by omega),pg,q4,kG,kG,hin,Bool.not_true,cF,cF,kW hc,kG,kG,kG,kG,zo,hv,kG,kG,Aq r1 ho,r2,x1,x2];simp only[kG];cases (v.1.1==oG n r)<;>exact⟨_,rfl,rfl⟩
theorem yk {n:kK} (h:qi n):∃x,cM n=some x/\co n=some x:=by
 have hn:=h.n1;have hs1:loop (λz=>bp n z) 0=some (cond ((List.range n.1.length).any λk=>!((aH n (k:Int)).getD false)) (.inr false) (.inl ())):=mF (λk hk=>by
  obtain⟨x,x1,_⟩:=wG h hk;show bp n (k:Int)=_
  unfold bp;rw[lW (by omega),cT,x1,kG,lb (by omega)];rfl) (by
  show bp n (n.1.length:Int)=_;unfold bp;rw[ls (by omega),cF])
 have hs2:loop (λz=>aX n z) 0=some (cond ((List.range n.1.length).any λk=>!((aH n (k:Int)).getD false)) (.inr false) (.inl ())):=mF (λk hk=>by
  obtain⟨x,x1,x2⟩:=wG h hk;show aX n (k:Int)=_
  unfold aX;rw[lW (by omega),cT,x1,x2,kG,lb (by omega)];rfl) (by
  show aX n (n.1.length:Int)=_;unfold aX;rw[ls (by omega),cF])
 unfold cM co;rw[hs1,hs2,kG];cases (List.range n.1.length).any λk=>!((aH n (k:Int)).getD false)<;>exact⟨_,rfl,rfl⟩
theorem B5 {n:kK} (h:oW n):∃x,cO n=some x/\cq n=some x:=by
 unfold cO cq;rw[Do h,Dp h,kG,kG];cases hp:uU n with
 | false=>exact⟨_,rfl,rfl⟩
 | true =>
  have hR:=BT h hp;rw[Bool.not_true,cF,cF,BR h,BS h,kG,kG];cases !((List.range n.2.1.length).any (tg n))with
  | false=>exact⟨_,rfl,rfl⟩
  | true =>
   rw[Bool.not_true,cF,cF,D6 h.s h.c,D7 h.s h.c,kG,kG];generalize (cond ((List.range n.1.length).any (qQ n)) false (!((List.range (oV n).length).any (pc n (oV n)))))=q;cases q with
   | false=>exact⟨_,rfl,rfl⟩
   | true =>
    obtain⟨x,x1,x2⟩:=yk hR;rw[Bool.not_true,cF,cF,x1,x2,kG,kG];cases x with
    | false=>exact⟨_,rfl,rfl⟩
    | true =>
     rw[Bool.not_true,cF,cF,BM h.s,BN h.s,kG];generalize ((lA n n.2.1.length).any λk=>pD n k.toNat)=q;cases q<;>exact⟨_,rfl,rfl⟩

end Go.V.W

