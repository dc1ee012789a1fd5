/- The law FnRepliesBent: part of the proof that for every input it returns true. No condition. -/
import Derived.KernelRfl
import Derived.Test.YtpidgkkbmlgehaaGreatFnRepliesBent
import Derived.Test.YtpidgkkbmlgehaaGreatV4
open List (any_eq_false any_eq_true append_assoc cons_lt_cons_iff getElem_mem getElem_of_mem length_append length_map length_set map_append mem_append mem_cons mem_flatMap mem_map mem_range nil_append not_mem_nil pairwise_append pairwise_iff_getElem range_succ take_add_one take_append_drop take_length)
set_option linter.unusedVariables false
set_option linter.unusedSimpArgs false
namespace Go.V.W
theorem oy {α β:Type} (a:α) (f:α->Option β):(some a).bind f=f a:=rfl
abbrev M:Nat:=1048576
abbrev In (left:Int):Prop:=0<=left/\left<=1048576
theorem In.next {left r:Int} (h:In left) (h1:0<=r) (h2:r<=left):In r:=⟨h1,by have:=h.2;omega⟩
theorem JY {n:Nat} (h:n<=M):n<=4294967295:=Nat.le_trans h (by decide)
def uI (n:Nat) (b:oA):Prop:=b.2.1.length<=n/\b.2.2.1.length<=n/\b.2.2.2.1.length<=n/\b.2.2.2.2.1.length<=n/\b.2.2.2.2.2.1.length<=n
def JF (n:Nat) (v:rm):Prop:=v.2.2.1.length<=n/\v.2.2.2.length<=n
def vq (n:Nat) (x:oC):Prop:=x.1.length<=n/\JF n x.2
def xa (n:Nat) (l:List oC):Prop:=l.length<=n/\∀x∈l,vq n x
def tH (n:Nat) (p:p7):Prop:=xa n p.2.2.2.2
theorem As {α β:Type} {f g:α->Option (α⊕β)} (pc:α->Prop) (h:∀x,pc x->f x=g x) (hi:∀x y,pc x->f x=some (.inl y)->pc y) {x:α} (h0:pc x):loop f x=loop g x:=by
 have key:∀k x,pc x->rB f k x=rB g k x:=by
  intro k
  induction k with
  | zero=>intro x _;rfl
  | succ k ih =>
   intro x hx;rw[q9,q9,←h x hx];cases hf:f x with
   | none=>rfl
   | some v=>cases v with
    | inl y=>exact ih y (hi x y hx hf)
    | inr b=>rfl
 have hex:(∃k,(rB f k x).isSome)↔∃k,(rB g k x).isSome:=by
  constructor<;>rintro⟨k,hk⟩<;>exact⟨k,by first|rwa [←key k x h0]|rwa [key k x h0]⟩
 by_cases hc:∃k,(rB f k x).isSome
 · obtain⟨k,hk⟩:=hc;cases hv:rB f k x with
   | none=>rw[hv]at hk;cases hk
   | some b=>rw[td hv,td ((key k x h0)▸hv)]
 · have hc':¬ ∃k,(rB g k x).isSome:=λh=>hc (hex.2 h);unfold loop;rw[dif_neg hc,dif_neg hc']
theorem qP {α β:Type} {f g:α->Option (α⊕β)} (h:∀x,f x=g x) (x:α):loop f x=loop g x:=by rw[funext h]
def oE (x a b:Int):Bool:=decide (x>=a)&&decide (x<=b)
theorem s4 (x a b:Int):ae x a b=some (oE x a b):=by
 unfold ae oE;cases decide (x>=a)<;>rfl
theorem uN (x a b:Int):af x a b=some (oE x a b):=s4 x a b
def yO (v:ul):Bool:=oE v.1 1 99&&(oE v.2.1 0 100000&&(oE v.2.2.1 0 10&&(oE v.2.2.2.1 1 99&&oE v.2.2.2.2 0 7)))
theorem Ge (v:ul):bY v=some (yO v):=by
 unfold bY yO;simp only[s4,oy];cases oE v.1 1 99<;>cases oE v.2.1 0 100000<;>cases oE v.2.2.1 0 10<;>cases oE v.2.2.2.1 1 99<;>rfl
theorem JZ:d9=bY:=rfl
def un (p:Pt):Bool:=oE p.2.1 1 1000&&(!(p.2.2.1&&!p.1)&&(cond p.2.2.1 (yO p.2.2.2) (p.2.2.2.1==0&&(p.2.2.2.2.1==0&&(p.2.2.2.2.2.1==0&&(p.2.2.2.2.2.2.1==0&&(p.2.2.2.2.2.2.2==0)))))))
theorem Kp (p:Pt):dL p=some (un p):=by
 obtain⟨up,cost,heard,v⟩:=p;unfold dL un;simp only[s4,Ge,oy];cases oE cost 1 1000<;>cases up<;>cases heard<;>rfl
theorem Kq (p:Pt):ea p=some (un p):=by
 obtain⟨up,cost,heard,v⟩:=p;unfold ea un;simp only[uN,JZ,Ge,oy];cases oE cost 1 1000<;>cases up<;>cases heard<;>rfl
theorem sq {n:Nat} {c:Int->Option Bool} {b:Nat->Bool} (hn:n<9223372036854775807) (hc:∀k,k<n->c (k:Int)=some (b k)) :
 loop (λi:Int=>cond (decide (i<(n:Int))) ((c i).bind λt=>cond t (some (.inr (.inr false))) (some (.inl (oB (i+1))))) (some (.inr (.inl ())))) 0=some (cond ((List.range n).any b) (Sum.inr false) (Sum.inl ()):Unit⊕Bool):=by
 obtain⟨v,h1,h2⟩:=oR (β:=Unit⊕Bool) (step:=λi:Int=>cond (decide (i<(n:Int))) ((c i).bind λt=>cond t (some (.inr (.inr false))) (some (.inl (oB (i+1))))) (some (.inr (.inl ()))))
  (λk i=>i=(k:Int)/\(List.range k).any b=false) n (λv=>v=cond ((List.range n).any b) (Sum.inr false) (Sum.inl ()))
  (λk i hk ⟨e,ha⟩=>by
   subst e;have hs:(cond (decide ((k:Int)<(n:Int))) ((c (k:Int)).bind λt=>cond t (some (.inr (.inr false))) (some (.inl (oB ((k:Int)+1))))) (some (.inr (.inl ()))):Option (Int⊕(Unit⊕Bool)))=cond (b k) (some (.inr (.inr false))) (some (.inl ((k+1:Nat):Int))):=by
    rw[pr (by omega),cT,hc k hk,oy,oQ (by omega)]
   cases hb:b k with
   | true =>
    refine .inr ⟨.inr false,by rw[hs,hb];rfl,?_⟩;have:(List.range n).any b=true:=any_eq_true.2 ⟨k,mem_range.2 hk,hb⟩
    rw[this];rfl
   | false =>
    refine .inl ⟨_,by rw[hs,hb];rfl,rfl,?_⟩;rw[range_succ,List.any_append,ha];simp[hb])
  (λi ⟨e,ha⟩=>by
   subst e;exact⟨.inl (),by rw[pb (by omega),cF],by rw[ha];rfl⟩) (x:=0) ⟨rfl,rfl⟩
 rw[h1,h2]
def rz (e:oG):Bool:=oE e.1 1 99&&(oE e.2.1 1 9999&&(oE e.2.2.1 0 7&&(oE e.2.2.2.1 0 4&&(!e.2.2.2.2||e.2.2.2.1==0))))
theorem E3 (e:oG):cL e=some (rz e):=by
 unfold cL rz;simp only[s4,oy];cases oE e.1 1 99<;>cases oE e.2.1 1 9999<;>cases oE e.2.2.1 0 7<;>cases oE e.2.2.2.1 0 4<;>cases e.2.2.2.2<;>rfl
theorem GM:bQ=cL:=rfl
def uo (e:oG) (tag mac:Int):Bool:=decide (e.1>tag)||(e.1==tag&&decide (e.2.1>mac))
theorem Hm (e:oG) (tag mac:Int):dM e tag mac=some (uo e tag mac):=by
 unfold dM uo;cases decide (e.1>tag)<;>cases (e.1==tag)<;>rfl
theorem Io (p e:oG):bo p e.1 e.2.1=some (uo e p.1 p.2.1):=by
 unfold bo uo;by_cases h:p.1=e.1
 · simp[h]
 · have h':¬e.1=p.1:=λk=>h k.symm;have e1:(p.1 != e.1)=true:=by simpa using h
   have e2:(e.1==p.1)=false:=by simpa using h'
   rw[e1,e2,cT,Bool.false_and,Bool.or_false]
def tk (l:List oG) (k:Nat):Bool:=match l[k]? with
 | some e=>!(rz e)||(decide (0<k)&&(match l[k-1]? with|some p=>!(uo e p.1 p.2.1)|none=>false))
 | none=>false
def th (l:List oG):Bool:=!((List.range l.length).any (tk l))&&decide ((l.length:Int)<=12)
theorem ze {α:Type} {l:List α} {k:Nat} (h:k<l.length) (hk:0<k) (hn:l.length<9223372036854775807):at? l (oB ((k:Int)-1))=some l[k-1]:=by
 rw[pj (by omega) (by omega),show (k:Int)-1=((k-1:Nat):Int) by omega,oT (by omega)]
theorem K0 {l:List oG} (hn:l.length<9223372036854775807):f9 l=some (th l):=by
 unfold f9 th;have h:=sq (n:=l.length) (c:=λi=>(at? l i).bind λx10=>(cL x10).bind λt13=>(cond (!t13) (some true) ((cond (decide (i>0)) ((at? l (oB (i-1))).bind λx23=>(at? l (oB (i-1))).bind λx29=>(dM x10 x23.1 x29.2.1).bind λt32=>some (!t32)) (some false)).bind λt34=>some t34)).bind λt=>some t) (b:=tk l) hn (λk hk=>by
  simp only[oT hk,oy,E3,tk,List.getElem?_eq_getElem hk];cases rz l[k]with
  | false=>rfl
  | true =>
   by_cases h0:0<k
   · have hd:decide ((k:Int)>0)=true:=dT (by omega);simp only[hd,ze hk h0 hn,oy,Hm,dT h0,List.getElem?_eq_getElem (show k-1<l.length by omega)];rfl
   · have hd:decide ((k:Int)>0)=false:=dF (by omega);simp only[hd,dF h0];rfl)
 have e:(loop (λz=>fO l z) 0)=some (cond ((List.range l.length).any (tk l)) (Sum.inr false) (Sum.inl ())):=by
  rw[←h];refine qP (λi=>?_) 0;unfold fO;simp only[Option.bind_assoc,oy]
 rw[e,oy];cases (List.range l.length).any (tk l)<;>rfl
theorem Ip {l:List oG} (hn:l.length<9223372036854775807):bP l=some (th l):=by
 unfold bP th;have h:=sq (n:=l.length) (c:=λi=>(at? l i).bind λx12=>(bQ x12).bind λt14=>(cond (!t14) (some true) ((cond (decide (i>0)) ((at? l (oB (i-1))).bind λx23=>(at? l i).bind λx27=>(at? l i).bind λx32=>(bo x23 x27.1 x32.2.1).bind λt35=>some (!t35)) (some false)).bind λt37=>some t37)).bind λt=>some t) (b:=tk l) hn (λk hk=>by
  simp only[oT hk,oy,GM,E3,tk,List.getElem?_eq_getElem hk];cases rz l[k]with
  | false=>rfl
  | true =>
   by_cases h0:0<k
   · have hd:decide ((k:Int)>0)=true:=dT (by omega);simp only[hd,ze hk h0 hn,oy,Io,dT h0,List.getElem?_eq_getElem (show k-1<l.length by omega)];rfl
   · have hd:decide ((k:Int)>0)=false:=dF (by omega);simp only[hd,dF h0];rfl)
 have e:(loop (λz=>fS l z) 0)=some (cond ((List.range l.length).any (tk l)) (Sum.inr false) (Sum.inl ())):=by
  rw[←h];refine qP (λi=>?_) 0;unfold fS;simp only[Option.bind_assoc,oy]
 rw[e,oy];cases (List.range l.length).any (tk l)<;>rfl

theorem Iq:aR=al:=rfl
theorem Fi {v:pk} (hn:v.1.length<9223372036854775807) (id:Int):∃r,al v id=some r:=by
 unfold al;obtain⟨b,h1,_⟩:=oR (β:=Unit⊕Int) (step:=λz=>aB v id z) (λk i=>i=(k:Int)) v.1.length (λ_=>True)
  (λk i hk h=>by
   subst h;unfold aB;rw[pr (by omega),cT,oT hk,oy];cases (v.1[k].1==id)with
   | true=>exact .inr ⟨_,rfl,trivial⟩
   | false=>exact .inl ⟨_,rfl,oQ (by omega)⟩)
  (λi h=>by
   subst h;unfold aB;rw[pb (by omega)];exact⟨_,rfl,trivial⟩) (x:=0) rfl
 rw[h1,oy];cases b with
 | inl _=>exact⟨_,rfl⟩
 | inr r=>exact⟨r,rfl⟩
def qd (i:Int):Int:=(2:Int)^i.toNat-1
theorem Au {i:Int} (h:oE i 1 6=true):i=1\/i=2\/i=3\/i=4\/i=5\/i=6:=by
 unfold oE at h;simp only[aT,decide_eq_true_eq]at h;omega
theorem Bk {i:Int} (h:oE i 1 6=true):dN i=some (qd i):=by
 rcases Au h with rfl|rfl|rfl|rfl|rfl|rfl<;>rfl
theorem E4 {i:Int} (h:oE i 1 6=true):∃t,shl .i64 1 (IntKind.u64.wrap i)=some t/\oB (t-1)=qd i:=by
 rcases Au h with rfl|rfl|rfl|rfl|rfl|rfl<;>exact⟨_,rfl,rfl⟩
theorem BC {i:Int} (h:oE i 1 6=true):1<=qd i/\qd i<=63:=by
 rcases Au h with rfl|rfl|rfl|rfl|rfl|rfl<;>decide
theorem Av (x:BitVec 64):IntKind.i64.wrap (x.toNat:Int)=x.toInt:=by
 have hx:=x.isLt;rw[BitVec.toInt_eq_toNat_cond];show (let m:=(x.toNat:Int)%18446744073709551616;if (true&&decide (m>=9223372036854775808))=true then m-18446744073709551616 else m)=_
 simp only[Bool.true_and,decide_eq_true_eq];have h1:(x.toNat:Int)%18446744073709551616=(x.toNat:Int):=by omega
 rw[h1];split<;>split<;>omega
theorem vc {b:Int} (h1:-9223372036854775808<=b) (h2:b<=9223372036854775807):(BitVec.ofInt 64 b).toInt=b:=by
 rw[BitVec.toInt_ofInt];unfold Int.bmod;simp only;split<;>omega
theorem BD (a b:Int):rJ .i64 a b=(BitVec.ofInt 64 a&&&BitVec.ofInt 64 b).toInt:=Av _
theorem J9 (a b:Int):wQ .i64 a b=(BitVec.ofInt 64 a &&& ~~~ BitVec.ofInt 64 b).toInt:=Av _
theorem Dc (x y:BitVec 64):x&&&y=x↔x &&& ~~~ y=0:=by
 constructor
 · intro h;apply BitVec.eq_of_getLsbD_eq;intro i hi;have:=congrArg (λz=>z.getLsbD i) h
   simp only[BitVec.getLsbD_and]at this;simp only[BitVec.getLsbD_and,BitVec.getLsbD_not,BitVec.getLsbD_zero,hi,decide_true,Bool.true_and];cases hx:x.getLsbD i<;>cases hy:y.getLsbD i<;>simp_all
 · intro h;apply BitVec.eq_of_getLsbD_eq;intro i hi;have:=congrArg (λz=>z.getLsbD i) h
   simp only[BitVec.getLsbD_and,BitVec.getLsbD_not,BitVec.getLsbD_zero,hi,decide_true,Bool.true_and]at this;simp only[BitVec.getLsbD_and];cases hx:x.getLsbD i<;>cases hy:y.getLsbD i<;>simp_all
theorem Bl {b m:Int} (h1:-9223372036854775808<=b) (h2:b<=9223372036854775807):(rJ .i64 b m != b)=(wQ .i64 b m != 0):=by
 rw[BD,J9];have e:((BitVec.ofInt 64 b&&&BitVec.ofInt 64 m).toInt=b)↔((BitVec.ofInt 64 b &&& ~~~ BitVec.ofInt 64 m).toInt=0):=by
  constructor
  · intro h;have:BitVec.ofInt 64 b&&&BitVec.ofInt 64 m=BitVec.ofInt 64 b:=BitVec.eq_of_toInt_eq (by rw[h,vc h1 h2])
    rw[(Dc _ _).1 this];rfl
  · intro h;have:BitVec.ofInt 64 b &&& ~~~ BitVec.ofInt 64 m=0:=BitVec.eq_of_toInt_eq (by rw[h];rfl)
    rw[(Dc _ _).2 this,vc h1 h2]
 by_cases h:(BitVec.ofInt 64 b&&&BitVec.ofInt 64 m).toInt=b
 · have h':=e.1 h;simp[h,h']
 · have h':¬(BitVec.ofInt 64 b &&& ~~~ BitVec.ofInt 64 m).toInt=0:=λk=>h (e.2 k);rw[bne_iff_ne.2 h,bne_iff_ne.2 h']
theorem Dd {b m t:Int} (h1:-9223372036854775808<=b) (h2:b<=9223372036854775807) (hm:oE m 0 t=true) (ht:t<=63) (h:(rJ .i64 b m != b)=false):oE b 0 t=true:=by
 unfold oE at hm ⊢;simp only[aT,decide_eq_true_eq]at hm ⊢;have h:rJ .i64 b m=b:=by simpa using h
 rw[BD]at h;have e:BitVec.ofInt 64 b&&&BitVec.ofInt 64 m=BitVec.ofInt 64 b:=BitVec.eq_of_toInt_eq (by rw[h,vc h1 h2])
 have hM:(BitVec.ofInt 64 m).toNat=m.toNat:=by
  rw[BitVec.toNat_ofInt];omega
 have hle:(BitVec.ofInt 64 b).toNat<=m.toNat:=by
  rw[←e,BitVec.toNat_and,hM];exact Nat.and_le_right
 have hb:(BitVec.ofInt 64 b).toInt=((BitVec.ofInt 64 b).toNat:Int):=by
  rw[BitVec.toInt_eq_toNat_cond];split<;>omega
 rw[vc h1 h2]at hb;omega
def ud (v:pk) (i:Int) (k:Nat):Bool:=match v.1[k]? with
 | some r=>!(oE r.1 1 99)||((decide (0<k)&&(match v.1[k-1]? with|some p=>decide (p.1>=r.1)|none=>false))||(!(oE r.2.1 0 (qd i))||(wQ .i64 r.2.2 r.2.1 != 0)))
 | none=>false
noncomputable def vG (v:pk) (k:Nat):Bool:=match v.2[k]? with
 | some x=>(match al v x with|some t=>decide (t<0)|none=>false)
 | none=>false
noncomputable def rg (v:pk) (i:Int):Bool:=!(!(oE i 1 6)||((v.2.length:Int) != i||decide ((v.1.length:Int)>6)))&&(!((List.range v.1.length).any (ud v i))&&!((List.range v.2.length).any (vG v)))
theorem Fj {v:pk} {i:Int} (hi:oE i 1 6=true) (hn:v.1.length<9223372036854775807):loop (λz=>fP v i z) 0=some (cond ((List.range v.1.length).any (ud v i)) (Sum.inr false) (Sum.inl ())):=by
 rw[←sq (n:=v.1.length) (c:=λt28=>(at? v.1 t28).bind λx31 =>
  (ae x31.1 1 99).bind λt35 =>
  (cond (!t35) (some true) ((cond (decide (t28>0)) ((at? v.1 (oB (t28-1))).bind λx45=>some (decide (x45.1>=x31.1))) (some false)).bind λt51=>some t51)).bind λt52 =>
  (cond t52 (some true) ((dN i).bind λt57=>(ae x31.2.1 0 t57).bind λt58=>some (!t58))).bind λt60 =>
  (cond t60 (some true) (some ((wQ .i64 x31.2.2 x31.2.1) != 0))).bind λt=>some t) (b:=ud v i) hn (λk hk=>by
   simp only[oT hk,oy,s4,ud,List.getElem?_eq_getElem hk,Bk hi];cases oE v.1[k].1 1 99 with
   | false=>rfl
   | true =>
    by_cases h0:0<k
    · have hd:decide ((k:Int)>0)=true:=dT (by omega);simp only[hd,ze hk h0 hn,oy,dT h0,List.getElem?_eq_getElem (show k-1<v.1.length by omega)];cases decide (v.1[k-1].1>=v.1[k].1)<;>cases oE v.1[k].2.1 0 (qd i)<;>rfl
    · have hd:decide ((k:Int)>0)=false:=dF (by omega);simp only[hd,dF h0];cases oE v.1[k].2.1 0 (qd i)<;>rfl)]
 refine qP (λi=>?_) 0;unfold fP;simp only[Option.bind_assoc,oy]
theorem E5 {v:pk} {i t:Int} (hi:oE i 1 6=true) (ht:oB (t-1)=qd i) (hn:v.1.length<9223372036854775807) (hw:∀r∈v.1,-9223372036854775808<=r.2.2/\r.2.2<=9223372036854775807):loop (λz=>fT v t z) 0=some (cond ((List.range v.1.length).any (ud v i)) (Sum.inr false) (Sum.inl ())):=by
 rw[←sq (n:=v.1.length) (c:=λt6=>(at? v.1 t6).bind λx39 =>
  (af x39.1 1 99).bind λt43 =>
  (cond (!t43) (some true) ((af x39.2.1 0 (oB (t-1))).bind λt49=>some (!t49))).bind λt51 =>
  (cond t51 (some true) ((af x39.2.2 0 (oB (t-1))).bind λt56=>some (!t56))).bind λt58 =>
  (cond t58 (some true) (some ((rJ .i64 x39.2.2 x39.2.1) != x39.2.2))).bind λt68 =>
  (cond t68 (some true) ((cond (decide (t6>0)) ((at? v.1 (oB (t6-1))).bind λx77=>some (decide (x77.1>=x39.1))) (some false)).bind λt83=>some t83)).bind λt=>some t) (b:=ud v i) hn (λk hk=>by
   obtain⟨w1,w2⟩:=hw _ (getElem_mem hk);have hs:=Bl (m:=v.1[k].2.1) w1 w2
   have hin:=Dd (m:=v.1[k].2.1) (t:=qd i) w1 w2;have ht2:=(BC hi).2
   simp only[oT hk,oy,uN,ud,List.getElem?_eq_getElem hk,ht];rw[←hs];cases h1:oE v.1[k].1 1 99 with
   | false=>rfl
   | true =>
    cases h2:oE v.1[k].2.1 0 (qd i)with
    | false =>
     by_cases h0:0<k
     · simp only[dT h0,List.getElem?_eq_getElem (show k-1<v.1.length by omega)];cases decide (v.1[k-1].1>=v.1[k].1)<;>rfl
     · simp only[dF h0];rfl
    | true =>
     cases h3:(rJ .i64 v.1[k].2.2 v.1[k].2.1 != v.1[k].2.2)with
     | true =>
      by_cases h0:0<k
      · simp only[dT h0,List.getElem?_eq_getElem (show k-1<v.1.length by omega)];cases decide (v.1[k-1].1>=v.1[k].1)<;>cases oE v.1[k].2.2 0 (qd i)<;>rfl
      · simp only[dF h0];cases oE v.1[k].2.2 0 (qd i)<;>rfl
     | false =>
      have h4:=hin h2 ht2 h3;rw[h4];by_cases h0:0<k
      · have hd:decide ((k:Int)>0)=true:=dT (by omega);simp only[hd,ze hk h0 hn,oy,dT h0,List.getElem?_eq_getElem (show k-1<v.1.length by omega)];cases decide (v.1[k-1].1>=v.1[k].1)<;>rfl
      · have hd:decide ((k:Int)>0)=false:=dF (by omega);simp only[hd,dF h0];rfl)]
 refine qP (λi=>?_) 0;unfold fT;simp only[Option.bind_assoc,oy]
theorem Bm {v:pk} (hn:v.1.length<9223372036854775807) (hn2:v.2.length<9223372036854775807):loop (λz=>fa v z) 0=some (cond ((List.range v.2.length).any (vG v)) (Sum.inr false) (Sum.inl ())):=by
 rw[←sq (n:=v.2.length) (c:=λt73=>(at? v.2 t73).bind λx75=>(al v x75).bind λt79=>some (decide (t79<0))) (b:=vG v) hn2 (λk hk=>by
  obtain⟨r,hr⟩:=Fi hn v.2[k];simp only[oT hk,oy,vG,List.getElem?_eq_getElem hk,hr])]
 refine qP (λi=>?_) 0;unfold fa;simp only[Option.bind_assoc,oy]
theorem Ja:kH=fa:=rfl
theorem GN {v:pk} (i:Int) (hn:v.1.length<9223372036854775807) (hn2:v.2.length<9223372036854775807):cM v i=some (rg v i):=by
 unfold cM rg;simp only[s4,oy];cases hi:oE i 1 6 with
 | false=>rfl
 | true =>
  rw[Fj hi hn,Bm hn hn2];cases ((v.2.length:Int) != i)<;>cases decide ((v.1.length:Int)>6)<;>cases (List.range v.1.length).any (ud v i)<;>cases (List.range v.2.length).any (vG v)<;>rfl
theorem E6 {v:pk} (i:Int) (hn:v.1.length<9223372036854775807) (hn2:v.2.length<9223372036854775807) (hw:∀r∈v.1,-9223372036854775808<=r.2.2/\r.2.2<=9223372036854775807):aF v i=some (rg v i):=by
 unfold aF rg;simp only[uN,oy,Ja];cases hi:oE i 1 6 with
 | false=>rfl
 | true =>
  obtain⟨t,h1,h2⟩:=E4 hi;rw[h1,oy,E5 hi h2 hn hw,Bm hn hn2];cases ((v.2.length:Int) != i)<;>cases decide ((v.1.length:Int)>6)<;>cases (List.range v.1.length).any (ud v i)<;>cases (List.range v.2.length).any (vG v)<;>rfl
def wm (l:List Pt) (k:Nat):Bool:=match l[k]? with|some p=>!(un p)|none=>false
def sF (b:oA):Bool:=oE b.2.2.2.2.2.2.1 0 1000000&&(oE b.2.2.2.2.2.2.2.1 0 1000000&&(oE b.2.2.2.2.2.2.2.2.1 0 1000000&&(oE b.2.2.2.2.2.2.2.2.2.1 0 1000000&&oE b.2.2.2.2.2.2.2.2.2.2 0 1000000)))
noncomputable def pY (b:oA):Bool:=!((List.range b.2.2.1.length).any (wm b.2.2.1))&&(oE b.1 1 99&&(!(decide ((b.2.1.length:Int)>10))&&(oE (b.2.2.1.length:Int) 1 6&&(th b.2.2.2.1&&(rg (b.2.2.2.2.1,b.2.2.2.2.2.1) (b.2.2.1.length:Int)&&sF b)))))
structure sG (b:oA):Prop where
 p:b.2.2.1.length<9223372036854775807
 f:b.2.2.2.1.length<9223372036854775807
 v:b.2.2.2.2.1.length<9223372036854775807
 q:b.2.2.2.2.2.1.length<9223372036854775807
 r:∀r∈b.2.2.2.2.1,-9223372036854775808<=r.2.2/\r.2.2<=9223372036854775807
theorem E7 {b:oA} (h:sG b):loop (λz=>fQ b z) 0=some (cond ((List.range b.2.2.1.length).any (wm b.2.2.1)) (Sum.inr false) (Sum.inl ())):=by
 rw[←sq (n:=b.2.2.1.length) (c:=λt8=>(at? b.2.2.1 t8).bind λx10=>(dL x10).bind λt13=>some (!t13)) (b:=wm b.2.2.1) h.p (λk hk=>by
  simp only[oT hk,oy,wm,List.getElem?_eq_getElem hk,Kp])]
 refine qP (λi=>?_) 0;unfold fQ;simp only[Option.bind_assoc,oy]
theorem CK {b:oA} (h:sG b):loop (λz=>fU b z) 0=some (cond ((List.range b.2.2.1.length).any (wm b.2.2.1)) (Sum.inr false) (Sum.inl ())):=by
 rw[←sq (n:=b.2.2.1.length) (c:=λt8=>(at? b.2.2.1 t8).bind λx10=>(ea x10).bind λt13=>some (!t13)) (b:=wm b.2.2.1) h.p (λk hk=>by
  simp only[oT hk,oy,wm,List.getElem?_eq_getElem hk,Kq])]
 refine qP (λi=>?_) 0;unfold fU;simp only[Option.bind_assoc,oy]
theorem Hn (b:oA):ft b=some (sF b):=by
 unfold ft sF;simp only[uN,oy];cases oE b.2.2.2.2.2.2.1 0 1000000<;>cases oE b.2.2.2.2.2.2.2.1 0 1000000<;>cases oE b.2.2.2.2.2.2.2.2.1 0 1000000<;>cases oE b.2.2.2.2.2.2.2.2.2.1 0 1000000<;>rfl
theorem Ir (n:Int):bv n=some (oE n 0 1000000):=by unfold bv;rw[s4,oy]
theorem AQ {b:oA} (h:sG b):cN b=some (pY b):=by
 unfold cN pY sF;rw[E7 h,oy];cases (List.range b.2.2.1.length).any (wm b.2.2.1)with
 | true=>rfl
 | false =>
  simp only[cF,Sum.elim_inl,s4,K0 h.f,GN (v:=(b.2.2.2.2.1,b.2.2.2.2.2.1)) _ h.v h.q,Ir,oy];cases oE b.1 1 99<;>cases decide ((b.2.1.length:Int)>10)<;>cases oE (b.2.2.1.length:Int) 1 6<;>cases th b.2.2.2.1<;>cases rg (b.2.2.2.2.1,b.2.2.2.2.2.1) (b.2.2.1.length:Int) <;>
   cases oE b.2.2.2.2.2.2.1 0 1000000<;>cases oE b.2.2.2.2.2.2.2.1 0 1000000<;>cases oE b.2.2.2.2.2.2.2.2.1 0 1000000<;>cases oE b.2.2.2.2.2.2.2.2.2.1 0 1000000<;>rfl
theorem AR {b:oA} (h:sG b):cj b=some (pY b):=by
 unfold cj pY;rw[CK h,oy];cases (List.range b.2.2.1.length).any (wm b.2.2.1)with
 | true=>rfl
 | false =>
  have e:decide ((b.2.1.length:Int)<=10)=!(decide ((b.2.1.length:Int)>10)):=by
   by_cases hh:(b.2.1.length:Int)>10
   · rw[dT hh,dF (by omega)];rfl
   · rw[dF hh,dT (by omega)];rfl
  simp only[cF,Sum.elim_inl,uN,Ip h.f,E6 (v:=(b.2.2.2.2.1,b.2.2.2.2.2.1)) _ h.v h.q h.r,Hn,oy,e];cases oE b.1 1 99<;>cases decide ((b.2.1.length:Int)>10)<;>cases oE (b.2.2.1.length:Int) 1 6<;>cases th b.2.2.2.1<;>cases rg (b.2.2.2.2.1,b.2.2.2.2.2.1) (b.2.2.1.length:Int)<;>cases sF b<;>rfl
theorem GO:eo=cO:=rfl
theorem GP (a b:ul):∃r,cO a b=some r:=by
 unfold cO;cases (a.1 != b.1)<;>cases (a.2.1 != b.2.1)<;>cases (a.2.2.2.1 != b.2.2.2.1)<;>exact⟨_,rfl⟩
theorem Jb:fA=dP:=rfl
theorem Jc (v:ul) (c:Int):∃r,dP v c=some r:=by
 unfold dP;simp only[Ge,s4,oy];cases yO v<;>cases oE c 1 1000<;>first|exact⟨_,rfl⟩|skip
 generalize yO (v.1,oB (v.2.1+c),oB (v.2.2.1+1),v.2.2.2.1,v.2.2.2.2)=q;cases q<;>exact⟨_,rfl⟩
theorem Jd (p0:Int) (l:List Pt) (t8 t9 b0 b1 b2 b3 b4 c0 c1 c2 c3 c4:Int):fB p0 l t8 t9 b0 b1 b2 b3 b4 c0 c1 c2 c3 c4=cP p0 l t8 t9 b0 b1 b2 b3 b4 c0 c1 c2 c3 c4:=by
 unfold fB cP;rw[Jb,GO];cases h:at? l t9 with
 | none=>rfl
 | some x=>simp only[oy]
theorem GQ:da=ba:=by
 funext p0 l
 unfold da ba;rw[qP (λz=>Jd p0 l _ _ _ _ _ _ _ _ _ _ _ _)]
theorem Je (p0:Int) {l:List Pt} (hn:l.length<9223372036854775807):∃r,ba p0 l=some r:=by
 unfold ba;obtain⟨b,h1,_⟩:=oR (step:=λz:Int×Int×Int×Int×Int×Int×Int×Int×Int×Int×Int×Int=>cP p0 l z.1 z.2.1 z.2.2.1 z.2.2.2.1 z.2.2.2.2.1 z.2.2.2.2.2.1 z.2.2.2.2.2.2.1 z.2.2.2.2.2.2.2.1 z.2.2.2.2.2.2.2.2.1 z.2.2.2.2.2.2.2.2.2.1 z.2.2.2.2.2.2.2.2.2.2.1 z.2.2.2.2.2.2.2.2.2.2.2)
  (λk z=>z.2.1=(k:Int)) l.length (λ_=>True)
  (λk z hk h=>by
   left;obtain⟨t7,t18,b0,b1,b2,b3,b4,c0,c1,c2,c3,c4⟩:=z;obtain rfl:t18=(k:Int):=h;unfold cP;simp only[pr (show (k:Int)<(l.length:Int) by omega),cT,oT hk,oy];rw[show oB ((k:Int)+1)=((k+1:Nat):Int)from oQ (by omega)];generalize l[k]=x;have e:(cond (!x.1) (some true) (some (!x.2.2.1)):Option Bool)=some (cond (!x.1) true (!x.2.2.1)):=by cases x.1<;>rfl
   rw[e,oy];cases (cond (!x.1) true (!x.2.2.1))with
   | true=>exact⟨_,rfl,rfl⟩
   | false =>
    obtain⟨r,hr⟩:=Jc x.2.2.2 x.2.1;obtain⟨q,hq⟩:=GP r.1 (c0,c1,c2,c3,c4);rw[cF,hr,oy,hq];cases r.2<;>cases decide (r.1.1<p0)<;>cases decide (t7<0)<;>cases q<;>exact⟨_,rfl,rfl⟩)
  (λz h=>by
   obtain⟨t7,t18,b0,b1,b2,b3,b4,c0,c1,c2,c3,c4⟩:=z;obtain rfl:t18=(l.length:Int):=h;unfold cP;simp only[pb (show ¬(l.length:Int)<(l.length:Int) by omega),cF];exact⟨_,rfl,trivial⟩) (x:=((-1),0,p0,0,0,p0,0,0,0,0,0,0)) rfl
 rw[h1,oy];exact⟨_,rfl⟩
theorem K1:ep=dQ:=by
 funext id l p
 unfold ep dQ;rw[GQ]
theorem GR:de=aK:=by
 funext id l p
 unfold de aK;rw[GQ,K1,GO];rfl
theorem E8 (id:Int) {l:List Pt} (hn:l.length<9223372036854775807) (p:Int):∃r,aK id l p=some r:=by
 obtain⟨v,hv⟩:=Je id hn;unfold aK dQ;simp only[s4,oy,hv];rw[show oB ((l.length:Int)-1)=(l.length:Int)-1 from pj (by omega) (by omega)];cases hp:oE p 0 ((l.length:Int)-1)with
 | false=>exact⟨_,rfl⟩
 | true =>
  unfold oE at hp;simp only[aT,decide_eq_true_eq]at hp;obtain⟨k,rfl⟩:∃k:Nat,p=(k:Int):=⟨p.toNat,by omega⟩;simp only[oT (show k<l.length by omega),oy];generalize l[k]'(by omega)=x;obtain⟨q,hq⟩:=GP (v.1.1,v.1.2.1,v.1.2.2.1,v.1.2.2.2.1,(k:Int)) x.2.2.2;rw[hq];cases x.1<;>cases (v.2==(k:Int))<;>cases x.2.2.1<;>cases q<;>exact⟨_,rfl⟩
theorem Jf (b:oA) (c p:Int):eB b c p=bw b c p:=by
 unfold eB bw dO;rw[GR];cases at? b.2.2.1 p with
 | none=>rfl
 | some x=>simp only[oy];cases x.1<;>rfl
theorem zK {α:Type} (out:List oC) (name:List Int) (n:Int) (f:List oC->Option α):((aO n).bind λv=>(aC v name).bind λt=>(oX out [t]).bind f)=(aj out name n).bind f:=by
 unfold aO aC aj ac ai;simp only[oy,Option.bind_assoc]
theorem Gf (b:oA) (c i:Int) (out:List oC):fD b c i out=bb b c i out:=by
 unfold fD bb;simp only[Jf,zK]
theorem K2 {r:oO} {c:Int} (h:1<=c/\c<=3):((ix [1,r.2.1,r.2.2].length (oB (c-1))).bind λj=>([1,r.2.1,r.2.2][j]?).bind λx=>some x)=fC r c:=by
 have:c=1\/c=2\/c=3:=by omega
 rcases this with rfl|rfl|rfl<;>rfl
theorem Ho (b:oA) {c:Int} (h:1<=c/\c<=3) (i:Int) (out:List oC):fF b c i out=bc b c i out:=by
 unfold fF bc;cases hr:at? b.2.2.2.2.1 i with
 | none=>rfl
 | some r =>
  simp only[oy,←K2 (r:=r) h,Option.bind_assoc,zK]
theorem Is (b:oA) (i:Int) (out:List oC):fG b i out=aW b i out:=by
 unfold fG aW;cases hr:at? b.2.2.2.1 i with
 | none=>rfl
 | some r=>simp only[oy,zK]
theorem Jg (b:oA) (c:Int) (out:List oC):fE b c out=bx b c out:=by
 unfold fE bx;rw[qP (λz=>Gf b c _ _)]
theorem Jh (b:oA) {c:Int} (h:1<=c) (out:List oC):dj b c out=bz b c out:=by
 unfold dj bz;by_cases h3:c<=3
 · rw[qP (λz=>Ho b ⟨h,h3⟩ _ _)]
 · rw[dF h3];rfl
theorem E9 (b:oA) {c:Int} {out:List oC} {y:Int×List oC} (h:1<=c) (e:dj b c out=some (.inl y)):1<=y.1:=by
 unfold dj at e;by_cases h3:c<=3
 · rw[dT h3,cT,Option.bind_eq_some_iff]at e;obtain⟨d,_,e⟩:=e;cases e;show 1<=oB (c+1)
   rw[pj (by omega) (by omega)];omega
 · rw[dF h3]at e;cases e
def ue (b:oA):List oC:=[([1,3,1,1,1],4,0,b.2.1,[]),([1,3,1,1,2],2,b.2.2.2.2.2.2.1,[],[]),([1,3,1,1,3],2,b.2.2.2.2.2.2.2.1,[],[]),([1,3,1,1,4],2,b.2.2.2.2.2.2.2.2.1,[],[]),([1,3,1,1,5],2,b.2.2.2.2.2.2.2.2.2.1,[],[])]
theorem K3 (b:oA):aC (4,0,b.2.1,[]) ([1,1]:List Int)=some ([1,3,1,1,1],4,0,b.2.1,[]):=by kernel_rfl
theorem K4 (b:oA):rB (λz=>jM b z.1 z.2) 5 (0,[([1,3,1,1,1],4,0,b.2.1,[])])=some (ue b):=by kernel_rfl
theorem K5 (b:oA):((ac ([1,1]:List Int)).bind λt14=>(aj ([(t14,4,0,b.2.1,[])]) ([1,2]:List Int) b.2.2.2.2.2.2.1).bind λt24=>(aj t24 ([1,3]:List Int) b.2.2.2.2.2.2.2.1).bind λt29 =>
 (aj t29 ([1,4]:List Int) b.2.2.2.2.2.2.2.2.1).bind λt34=>(aj t34 ([1,5]:List Int) b.2.2.2.2.2.2.2.2.2.1))=some (ue b):=by kernel_rfl
noncomputable def zf (b:oA) (l:List oC):Option (List oC) :=
 (loop (λz=>bx b z.1 z.2) (1,l)).bind λd_2 =>
  (loop (λz=>bz b z.1 z.2) (1,d_2)).bind λd_4 =>
  (loop (λz=>aW b z.1 z.2) (0,d_4)).bind λd_5 =>
  some d_5
theorem It {b:oA} (h:sG b):bd b=cond (!(pY b)) (some []) (zf b (ue b)):=by
 unfold bd;rw[AQ h,oy,K3,oy,td (K4 b),oy];rfl
theorem K6 {b:oA} (h:sG b):bI b=cond (!(pY b)) (some []) (zf b (ue b)):=by
 unfold bI;rw[AR h,oy];have hc:=K5 b
 have e:∀{α:Type} (f:List oC->Option α),((ac ([1,1]:List Int)).bind λt14=>(aj ([(t14,4,0,b.2.1,[])]) ([1,2]:List Int) b.2.2.2.2.2.2.1).bind λt24=>(aj t24 ([1,3]:List Int) b.2.2.2.2.2.2.2.1).bind λt29 =>
  (aj t29 ([1,4]:List Int) b.2.2.2.2.2.2.2.2.1).bind λt34=>(aj t34 ([1,5]:List Int) b.2.2.2.2.2.2.2.2.2.1).bind f)=f (ue b):=by
  intro α f;have:((ac ([1,1]:List Int)).bind λt14=>(aj ([(t14,4,0,b.2.1,[])]) ([1,2]:List Int) b.2.2.2.2.2.2.1).bind λt24=>(aj t24 ([1,3]:List Int) b.2.2.2.2.2.2.2.1).bind λt29 =>
   (aj t29 ([1,4]:List Int) b.2.2.2.2.2.2.2.2.1).bind λt34=>(aj t34 ([1,5]:List Int) b.2.2.2.2.2.2.2.2.2.1)).bind f=f (ue b):=by rw[hc,oy]
  rw[←this];simp only[Option.bind_assoc]
 rw[e]
 congr 1
 unfold zf;rw[qP (λz=>Jg b _ _)]
 congr 1
 funext d
 rw[As (λz:Int×List oC=>1<=z.1) (λz hz=>Jh b hz _) (λz y hz e=>E9 b hz e) (show (1:Int)<=1 by omega)]
 congr 1
 funext d
 rw[qP (λz=>Is b _ _)]
theorem zL {b:oA} (h:sG b):bI b=bd b:=by rw[K6 h,It h]

theorem Ji {b:oA} (h:sG b) (c:Int) {k:Nat} (hk:k<b.2.2.1.length) (hq:b.2.2.1.length=b.2.2.2.2.2.1.length):∃n,bw b c (k:Int)=some n:=by
 obtain⟨r,hr⟩:=E8 b.1 h.p (k:Int);unfold bw dO;rw[oT hk,oT (show k<b.2.2.2.2.2.1.length by omega),hr];simp only[oy];cases (c==1)<;>cases (c==2)<;>cases (c==3)<;>cases (b.2.2.1[k]).1<;>exact⟨_,rfl⟩
theorem Hp {α:Type} {xs ys:List α} (h:xs.length+ys.length<=4294967296):oX xs ys=some (xs++ys):=by
 unfold oX;rw[if_pos (show xs.length+ys.length<=vQ from h)]
noncomputable def tn (id:Int) (l:List Pt) (p:Int):Int:=(aK id l p).getD 0
theorem xZ (id:Int) {l:List Pt} (hn:l.length<9223372036854775807) (p:Int):aK id l p=some (tn id l p):=by
 obtain⟨r,hr⟩:=E8 id hn p;unfold tn;rw[hr];rfl
def Ea (l:List Int) (x:Int):Bool:=decide (x∈l)
def vd (b:Nat->Bool) (m:Nat):List Int:=((List.range m).filter b).map λ(k:Nat)=>(k:Int)
theorem Gg (b:Nat->Bool) (m:Nat):(vd b m).length<=m:=by
 unfold vd;rw[length_map];exact Nat.le_trans (List.length_filter_le _ _) (by simp)
theorem Eb (b:Nat->Bool) (m:Nat):vd b (m+1)=cond (b m) (vd b m++[(m:Int)]) (vd b m):=by
 unfold vd;rw[range_succ,List.filter_append,map_append];cases h:b m<;>simp[h]
theorem tK {n:Nat} {c:Int->Option Bool} {b:Nat->Bool} (hn:n<=1048576) (hc:∀k,k<n->c (k:Int)=some (b k)) :
 loop (λz:Int×List Int=>cond (decide (z.1<(n:Int))) ((c z.1).bind λt=>cond t ((oX z.2 [z.1]).bind λzs=>some (.inl (oB (z.1+1),zs))) (some (.inl (oB (z.1+1),z.2)))) (some (.inr z.2))) (0,([]:List Int))=some (vd b n):=by
 obtain⟨v,h1,rfl⟩:=oR (step:=λz:Int×List Int=>cond (decide (z.1<(n:Int))) ((c z.1).bind λt=>cond t ((oX z.2 [z.1]).bind λzs=>some (.inl (oB (z.1+1),zs))) (some (.inl (oB (z.1+1),z.2)))) (some (.inr z.2))) (λk z=>z.1=(k:Int)/\z.2=vd b k) n (λl=>l=vd b n)
  (λk z hk ⟨e1,e2⟩=>by
   obtain⟨i,l⟩:=z;simp only at e1 e2;subst e1 e2;left;have hle:=Gg b k
   refine⟨(oB ((k:Int)+1),vd b (k+1)),?_,oQ (by omega),rfl⟩;simp only[pr (show (k:Int)<(n:Int) by omega),cT,hc k hk,oy];rw[Eb];cases b k with
   | false=>rfl
   | true=>rw[cT,Hp (by simp;omega)];rfl)
  (λz ⟨e1,e2⟩=>by
   obtain⟨i,l⟩:=z;simp only at e1 e2;subst e1 e2;exact⟨_,by simp only[pb (show ¬(n:Int)<(n:Int) by omega),cF],rfl⟩) (x:=(0,[])) ⟨rfl,rfl⟩
 exact h1
def De (l:List Bool):Nat:=l.count true
theorem Iu (l:List Bool):De l<=l.length:=List.count_le_length
theorem Hq {l:List Bool} {i:Nat} (h:l[i]?=some false):De (l.set i true)=De l+1:=by
 obtain⟨hi,he⟩:=List.getElem?_eq_some_iff.1 h;unfold De;rw[List.count_set hi,he];simp
theorem Iv {n:Nat} {i:Int} (h:oE i 0 ((n:Int)-1)=true):∃k:Nat,k<n/\i=(k:Int):=by
 unfold oE at h;simp only[aT,decide_eq_true_eq]at h;exact⟨i.toNat,by omega,by omega⟩
theorem Iw {n k:Nat} (h:k<n):oE (k:Int) 0 ((n:Int)-1)=true:=by
 unfold oE;rw[dT (by omega),dT (by omega)];rfl
structure Ct (X:List Int) (l:List Bool):Prop where
 r:∀x∈X,∃k:Nat,k<l.length/\x=(k:Int)
 m:∀k,k<l.length->l[k]?=some (Ea X (k:Int))
 c:X.length=De l
theorem Ct.len {X:List Int} {l:List Bool} (h:Ct X l):X.length<=l.length:=by rw[h.c];exact Iu l
theorem Ct.add {X:List Int} {l:List Bool} (h:Ct X l) {i:Nat} (hi:l[i]?=some false):Ct (X++[(i:Int)]) (l.set i true):=by
 obtain⟨hi',he⟩:=List.getElem?_eq_some_iff.1 hi;refine⟨λx hx=>?_,λk hk=>?_,?_⟩
 · rw[length_set];rcases mem_append.1 hx with hx|hx
   · exact h.r x hx
   · simp at hx;exact⟨i,hi',hx⟩
 · rw[length_set]at hk;rw[List.getElem?_set];split
   · rename_i e;subst e;rw[show Ea (X++[(i:Int)]) (i:Int)=true from dT (by simp)]
   · rename_i e;rw[h.m k hk]
     congr 1
     unfold Ea;apply decide_eq_decide.2;rw[mem_append,List.mem_singleton];constructor
     · exact .inl
     · rintro (h|h)
       · exact h
       · omega
 · rw[length_append,Hq hi,h.c];rfl
theorem Ct.in {X:List Int} {l:List Bool} (h:Ct X l) {x:Int} (hx:Ea X x=true):oE x 0 ((l.length:Int)-1)=true:=by
 obtain⟨k,hk,rfl⟩:=h.r x (of_decide_eq_true hx);exact Iw hk
def start (n:Nat) (b:Nat):List Bool:=(List.replicate n false).set b true
theorem Jj (id:Int) {l:List Pt} (hn:l.length<9223372036854775807) (p:Int):1<=tn id l p:=by
 have h:=xZ id hn p
 revert h
 generalize tn id l p=v;unfold aK;rw[s4,oy];intro h;have key:∀(o:Option Bool) (f:Bool->Option Int),(∀t x,f t=some x->1<=x)->o.bind f=some v->1<=v:=by
  intro o f hf h;cases o with
  | none=>cases h
  | some t=>exact hf t v h
 refine key _ _ (λt x hx=>?_) h;cases t with
 | true=>cases hx;decide
 | false =>
  rw[cF]at hx;cases hbv:ba id l with
  | none=>rw[hbv]at hx;cases hx
  | some w =>
   rw[hbv,oy]at hx;cases hw:w.2==p with
   | true=>rw[hw]at hx;cases hx;decide
   | false =>
    rw[hw,cF]at hx;cases ha:at? l p with
    | none=>rw[ha]at hx;cases hx
    | some y =>
     rw[ha,oy]at hx
     revert hx
     generalize (cond (!y.2.2.1) _ _:Option Bool)=o;intro hx;cases o with
     | none=>cases hx
     | some t=>cases t<;>(cases hx;decide)
theorem Aw {k:Nat} (h:k<64):IntKind.u64.wrap (k:Int)=(k:Int):=by
 show ((k:Int)%18446744073709551616)=_;omega
theorem Jk:∀b:Fin 64,∀p:Fin 6,∃t c,shl .i64 1 (p.1:Int)=some t/\zS .i64 (b.1:Int) t=(c:Int)/\0<=c/\c<64:=by
 intro b p;have h:∀b:Fin 64,∀p:Fin 6,(decide (0<=zS .i64 (b.1:Int) (2^p.1))&&decide (zS .i64 (b.1:Int) (2^p.1)<64))=true:=by decide
 have h1:=h b p;simp only[aT,decide_eq_true_eq]at h1;have h2:∀p:Fin 6,shl .i64 1 (p.1:Int)=some (2^p.1):=by decide
 exact⟨_,_,h2 p,rfl,h1.1,h1.2⟩
theorem Ix {r:Int} (h:1<=r):decide (r<=2)=(r==1||r==2):=by
 by_cases h2:r<=2
 · rw[dT h2];rcases (show r=1\/r=2 by omega)with rfl|rfl<;>rfl
 · rw[dF h2,beq_eq_false_iff_ne.2 (show r≠1 by omega),beq_eq_false_iff_ne.2 (show r≠2 by omega)];rfl
theorem Ax (id:Int) {l:List Pt} (hn:l.length<9223372036854775807) (z:Int×Int) (hz:0<=z.2):dg id l z.1 z.2=aQ id l z.1 z.2:=by
 unfold dg aQ;rw[GR,xZ id hn,oy];have hr:=Jj id hn z.2
 by_cases h1:z.2<(l.length:Int)
 · rw[pr h1,cT];by_cases h2:z.2<6
   · rw[pr h2,oy,oy,cT,cT,oy,Ix hr];obtain⟨k,hk⟩:∃k:Nat,z.2=(k:Int):=⟨z.2.toNat,by omega⟩;rw[hk,Aw (by omega)];cases tn id l (k:Int)==1<;>cases tn id l (k:Int)==2<;>rfl
   · rw[pb h2];rfl
 · rw[pb h1];rfl
theorem Iy (id:Int) {l:List Pt} (hn:l.length<9223372036854775807):∃c:Nat,c<64/\fj id l=some (c:Int)/\eq id l=some (c:Int):=by
 obtain⟨v,h1,c,h2,rfl⟩:=oR (step:=λz:Int×Int=>aQ id l z.1 z.2) (λk z=>z.2=(k:Int)/\∃c:Nat,c<64/\z.1=(c:Int)) (min l.length 6) (λv=>∃c:Nat,c<64/\v=(c:Int))
  (λk z hk ⟨e1,c,e2,e3⟩=>by
   obtain⟨b,i⟩:=z;simp only at e1 e3;subst e1 e3;left;have k6:k<6:=by omega
   obtain⟨t,d,b1,b2,b3,b4⟩:=Jk ⟨c,e2⟩ ⟨k,k6⟩;have hs:aQ id l (c:Int) (k:Int)=cond (tn id l (k:Int)==1||tn id l (k:Int)==2) (some (.inl ((d:Int),((k+1:Nat):Int)))) (some (.inl ((c:Int),((k+1:Nat):Int)))):=by
    unfold aQ;rw[pr (show (k:Int)<(l.length:Int) by omega),pr (show (k:Int)<6 by omega),cT,oy,cT,xZ id hn,oy,b1,oy,b2,oQ (by omega)];cases tn id l (k:Int)==1<;>cases tn id l (k:Int)==2<;>rfl
   show ∃y,aQ id l (c:Int) (k:Int)=_/\_;rw[hs];cases (tn id l (k:Int)==1||tn id l (k:Int)==2)with
   | true=>exact⟨_,rfl,rfl,d.toNat,by omega,by show d=_;omega⟩
   | false=>exact⟨_,rfl,rfl,c,e2,rfl⟩)
  (λz ⟨e1,c,e2,e3⟩=>by
   obtain⟨b,i⟩:=z;simp only at e1 e3;subst e1 e3;refine⟨(c:Int),?_,c,e2,rfl⟩;show aQ id l _ _=_
   unfold aQ;by_cases h:l.length<=6
   · rw[Nat.min_eq_left h,pb (by omega)];rfl
   · rw[Nat.min_eq_right (by omega),pr (by omega),pb (show ¬(((6:Nat):Int)<6) by omega)];rfl) (x:=(0,0)) ⟨rfl,0,by omega,rfl⟩
 refine⟨c,h2,by unfold fj;rw[h1];rfl,?_⟩;unfold eq;rw[As (f:=λz:Int×Int=>dg id l z.1 z.2) (g:=λz:Int×Int=>aQ id l z.1 z.2) (λz=>0<=z.2/\z.2<=9223372036854775806) (λz hz=>Ax id hn z hz.1) (λz y hz hy=>by
  have hy':dg id l z.1 z.2=some (.inl y):=hy;rw[Ax id hn z hz.1]at hy';unfold aQ at hy';by_cases h1:z.2<(l.length:Int)
  · by_cases h2:z.2<6
    · rw[pr h1,pr h2,cT,oy,cT,xZ id hn,oy]at hy';have hw:oB (z.2+1)=z.2+1:=pj (by omega) (by omega)
      rw[hw]at hy'
      revert hy'
      generalize (cond (tn id l z.2==1) (some true) (some (tn id l z.2==2)))=o;intro hy';cases o with
      | none=>cases hy'
      | some t =>
       rw[oy]at hy';cases t with
       | false=>cases hy';exact⟨by show 0<=z.2+1;omega,by show z.2+1<=_;omega⟩
       | true =>
        rw[cT]at hy';cases hs:shl .i64 1 z.2 with
        | none=>rw[hs]at hy';cases hy'
        | some q=>rw[hs]at hy';cases hy';exact⟨by show 0<=z.2+1;omega,by show z.2+1<=_;omega⟩
    · rw[pr h1,pb h2]at hy';cases hy'
  · rw[pb h1]at hy';cases hy') (x:=(0,0)) ⟨by decide,by decide⟩,h1]
 rfl
structure CW (c:oL):Prop where
 p:0<=c.2.1
 n:c.1.length<9223372036854775807
theorem Df (x:Int):0<=rJ .i64 x 255/\rJ .i64 x 255<=255:=by
 rw[BD];have h1:(BitVec.ofInt 64 x&&&BitVec.ofInt 64 255).toNat<=255:=by
  rw[BitVec.toNat_and];exact Nat.le_trans Nat.and_le_right (by decide)
 rw[BitVec.toInt_eq_toNat_cond];split<;>omega
theorem BE {c:oL} (h:CW c):∃c' r,bL c=some (c',r)/\CW c'/\0<=r/\r<=255:=by
 unfold bL;have hn:=h.n
 have hp:=h.p;by_cases hlt:c.2.1<(c.1.length:Int)
 · obtain⟨k,hk⟩:∃k:Nat,c.2.1=(k:Int):=⟨c.2.1.toNat,by omega⟩;simp only[pr hlt,cT];rw[hk,oT (by omega),oy,oQ (by omega)];exact⟨_,_,rfl,⟨by show (0:Int)<=((k+1:Nat):Int);omega,hn⟩,Df _⟩
 · simp only[pb hlt,cF];exact⟨_,_,rfl,⟨hp,hn⟩,Df _⟩
theorem Dg {a n:Int} (ha:0<=a) (hn:1<=n):∃r,rem a n=some r/\0<=r/\r<n:=by
 unfold rem;rw[if_neg (by omega)];refine⟨_,rfl,Int.tmod_nonneg _ ha,?_⟩;have:=Int.tmod_lt_of_pos a (show 0<n by omega)
 exact this
theorem qq {c:oL} (h:CW c) (n:Int):∃c' r,aa c n=some (c',r)/\CW c'/\0<=r/\(1<=n->r<n):=by
 unfold aa;by_cases h0:n<=0
 · rw[dT h0];exact⟨_,_,rfl,h,Int.le_refl 0,λh=>by omega⟩
 · rw[dF h0,cF];by_cases h1:n<=256
   · rw[dT h1,cT];obtain⟨c1,r1,e1,w1,a1,b1⟩:=BE h;obtain⟨r,e,a,b⟩:=Dg (n:=n) a1 (by omega);rw[e1,oy,e,oy];exact⟨_,_,rfl,w1,a,λ_=>b⟩
   · rw[dF h1,cF];obtain⟨c1,r1,e1,w1,a1,b1⟩:=BE h;obtain⟨c2,r2,e2,w2,a2,b2⟩:=BE w1;obtain⟨c3,r3,e3,w3,a3,b3⟩:=BE w2;rw[e1,oy,e2,oy,e3,oy];show ∃c' r,((rem (oB (oB (oB (r1*65536)+oB (r2*256))+r3)) n).bind _)=_/\_
     rw[pj (n:=r1*65536) (by omega) (by omega),pj (n:=r2*256) (by omega) (by omega),pj (n:=r1*65536+r2*256) (by omega) (by omega),pj (n:=r1*65536+r2*256+r3) (by omega) (by omega)];obtain⟨r,e,a,b⟩:=Dg (a:=r1*65536+r2*256+r3) (n:=n) (by omega) (by omega);rw[e,oy];exact⟨_,_,rfl,w3,a,λ_=>b⟩
theorem qr {c:oL} (h:CW c) {n:Nat} (hn:1<=n):∃c' k,aa c (n:Int)=some (c',((k:Nat):Int))/\CW c'/\k<n:=by
 obtain⟨c',r,e,w,a,b⟩:=qq h (n:Int);have b:=b (by omega)
 exact⟨c',r.toNat,by rw[e];congr 2;omega,w,by omega⟩
theorem Ay {c:oL} (h:CW c) (n:Int):∃c' r,aU c n=some (c',r)/\CW c':=by
 obtain⟨c',r,e,w,_⟩:=qq h n;unfold aU;rw[e,oy];exact⟨_,_,rfl,w⟩
theorem rM {c:oL} (h:CW c) {l:List Int} (hl:1<=l.length):∃c' x,ah c l=some (c',x)/\CW c'/\x∈l:=by
 obtain⟨c',k,e,w,b⟩:=qr h hl;unfold ah;rw[e,oy];show ∃c'' x,(at? l (k:Int)).bind _=_/\_
 rw[oT b,oy];exact⟨_,_,rfl,w,getElem_mem b⟩
theorem Gk {c:oL} (h:CW c) {l:List (List UInt8)} (hl:1<=l.length):∃c' x,aN c l=some (c',x)/\CW c'/\x∈l:=by
 obtain⟨c',k,e,w,b⟩:=qr h hl;unfold aN;rw[e,oy];show ∃c'' x,(at? l (k:Int)).bind _=_/\_
 rw[oT b,oy];exact⟨_,_,rfl,w,getElem_mem b⟩
theorem Iz {code:List Int} (h:code.length<=1048576):∃c,dt code=some c/\CW c:=by
 obtain⟨v,h1,-⟩:=oR (step:=λz:Int×Int=>bK code z.1 z.2) (λk z=>z.2=(k:Int)) (min code.length 4000) (λ_=>True)
  (λk z hk e=>by
   obtain⟨x,i⟩:=z;simp only at e;subst e;left;have k4:k<4000:=by omega
   have hs:∃y,bK code x (k:Int)=some (.inl (y,((k+1:Nat):Int))):=by
    unfold bK;rw[pr (show (k:Int)<(code.length:Int) by omega),pr (show (k:Int)<4000 by omega),cT,oy,cT,oT (by omega),oy,oQ (by omega)];exact⟨_,rfl⟩
   obtain⟨y,hs⟩:=hs;exact⟨_,hs,rfl⟩)
  (λz e=>by
   obtain⟨x,i⟩:=z;simp only at e;subst e;refine⟨x,?_,trivial⟩;show bK code x _=_
   unfold bK;by_cases h:code.length<=4000
   · rw[Nat.min_eq_left h,pb (by omega)];rfl
   · rw[Nat.min_eq_right (by omega),pr (by omega),pb (show ¬(((4000:Nat):Int)<4000) by omega)];rfl) (x:=(oB (762762+(code.length:Int)),0)) rfl
 unfold dt;show ∃c,(loop (λz=>bK code z.1 z.2) (oB (762762+(code.length:Int)),0)).bind (λd=>some (code,0,d))=some c/\CW c
 rw[h1,oy];exact⟨_,rfl,by show (0:Int)<=0;omega,by show code.length<_;omega⟩

abbrev uJ (x:Int):Prop:=-9223372036854775808<=x/\x<=9223372036854775807
structure VT (v:pk) (n:Nat):Prop where
 p:rg v (n:Int)=true
 r:∀r∈v.1,uJ r.2.2
theorem VT.len {v:pk} {n:Nat} (h:VT v n):1<=n/\n<=6/\v.2.length=n/\v.1.length<=6:=by
 have hp:=h.p;unfold rg oE at hp;simp only[aT,Bool.not_eq_true',Bool.or_eq_false_iff,Bool.not_eq_false',aT,decide_eq_true_eq,decide_eq_false_iff_not,bne_eq_false_iff_eq]at hp;obtain⟨⟨h1,h2,h3⟩,_⟩:=hp;omega
theorem JG {v:pk} (n:Int) (h1:v.1.length<=1000) (h2:v.2.length<=1000) (hr:∀r∈v.1,uJ r.2.2):aF v n=some (rg v n):=E6 n (by omega) (by omega) hr
theorem Ec {v:pk} (h1:v.1.length<=1000) (h2:v.2.length<=1000):aG v=some v:=by
 unfold aG;unfold oX;have m:(vQ:Nat)=4294967296:=rfl
 rw[if_pos (by show 0+v.1.length<=vQ;omega),oy,if_pos (by show 0+v.2.length<=vQ;omega),oy];rfl
theorem IA {x v:pk} {n:Nat} (hv:VT v n) (h1:x.1.length<=1000) (h2:x.2.length<=1000) (hr:∀r∈x.1,uJ r.2.2):∃y ok,cp x v=some (y,ok)/\VT y n:=by
 obtain⟨l1,l2,l3,l4⟩:=hv.len;unfold cp;rw[JG _ h1 h2 hr,oy];cases h:rg x (v.2.length:Int)with
 | true=>exact⟨_,_,rfl,by rw[l3]at h;exact h,hr⟩
 | false =>
  rw[Bool.not_false,cT,Ec (by omega) (by omega),oy];exact⟨_,_,rfl,hv⟩
theorem IB {v:pk} {n:Nat} (hv:VT v n):aF v (v.2.length:Int)=some true:=by
 obtain⟨l1,l2,l3,l4⟩:=hv.len;rw[JG _ (by omega) (by omega) hv.r,l3,hv.p]
theorem Jl {v:pk} {n:Nat} (hv:VT v n) (port id:Int):∃y ok,dx v port id=some (y,ok)/\VT y n:=by
 obtain⟨l1,l2,l3,l4⟩:=hv.len;unfold dx;rw[IB hv,oy,Bool.not_true,cF,uN,oy,oy,Ec (by omega) (by omega),pj (n:=(v.2.length:Int)-1) (by omega) (by omega)];cases hin:oE port 0 ((v.2.length:Int)-1)with
 | false=>exact⟨_,_,rfl,hv⟩
 | true =>
  obtain⟨k,hk,rfl⟩:=Iv hin;simp only[Bool.not_true,cF,oy,tZ hk,List.getElem?_eq_getElem hk];obtain⟨y,ok,e,hy⟩:=IA (x:=(v.1,v.2.set k id)) hv (by show v.1.length<=_;omega) (by show (v.2.set k id).length<=_;rw[length_set];omega) hv.r;rw[e];exact⟨_,_,rfl,hy⟩
theorem IC {v:pk} (hn:v.1.length<9223372036854775807) (id:Int):∃r,aR v id=some r/\(r = -1\/∃k:Nat,k<v.1.length/\r=(k:Int)):=by
 rw[Iq];unfold al;obtain⟨b,h1,h2⟩:=oR (β:=Unit⊕Int) (step:=λz=>aB v id z) (λk i=>i=(k:Int)) v.1.length (λb=>∀r,b=.inr r->∃k:Nat,k<v.1.length/\r=(k:Int))
  (λk i hk h=>by
   subst h;unfold aB;rw[pr (by omega),cT,oT hk,oy];cases (v.1[k].1==id)with
   | true=>exact .inr ⟨_,rfl,λr hr=>⟨k,hk,by cases hr;rfl⟩⟩
   | false=>exact .inl ⟨_,rfl,oQ (by omega)⟩)
  (λi h=>by
   subst h;unfold aB;rw[pb (by omega)];exact⟨_,rfl,λr hr=>by cases hr⟩) (x:=0) rfl
 rw[h1,oy];cases b with
 | inl _=>exact⟨_,rfl,.inl rfl⟩
 | inr r=>exact⟨r,rfl,.inr (h2 r rfl)⟩
theorem rV {α:Type} {l:List α} {a b:Nat} (h1:a<=b) (h2:b<=l.length):cut l (a:Int) (b:Int)=some ((l.take b).drop a):=by
 unfold cut;rw[if_pos (by omega),if_pos (by omega),if_pos (by omega)];simp
theorem oH {α:Type} {xs ys:List α} (h:xs.length+ys.length<=4294967296):oX xs ys=some (xs++ys):=by
 unfold oX;rw[if_pos (show xs.length+ys.length<=vQ from h)]
theorem Jm {v:pk} {n:Nat} (hv:VT v n) (id:Int):∃y ok,dy v id=some (y,ok)/\VT y n:=by
 obtain⟨l1,l2,l3,l4⟩:=hv.len;obtain⟨r,hr,hr2⟩:=IC (v:=v) (by omega) id;unfold dy;rw[hr,oy,IB hv,oy,Bool.not_true,cF,Ec (by omega) (by omega),oy,oy,oy];rcases hr2 with rfl|⟨k,hk,rfl⟩
 · exact⟨_,_,rfl,hv⟩
 · rw[pb (by omega),cF,show (0:Int)=((0:Nat):Int)from rfl,rV (by omega) (by omega),oy,oQ (by omega),rV (by omega) (by omega)];have t1:((v.1.take k).drop 0).length<=6:=by simp;omega
   have t2:((v.1.take v.1.length).drop (k+1)).length<=6:=by simp;omega
   rw[oH (by show 0+_<=_;omega),oy,oy,nil_append,oH (by omega),oy];obtain⟨y,ok,e,hy⟩:=IA (x:=((v.1.take k).drop 0++(v.1.take v.1.length).drop (k+1),v.2)) hv (by show ((v.1.take k).drop 0++(v.1.take v.1.length).drop (k+1)).length<=_;rw[length_append];omega) (by show v.2.length<=_;omega) (λr hr=>by
    rcases mem_append.1 hr with hr|hr
    · exact hv.r r (List.mem_of_mem_take (List.mem_of_mem_drop hr))
    · exact hv.r r (List.mem_of_mem_take (List.mem_of_mem_drop hr)))
   rw[e];exact⟨_,_,rfl,hy⟩
theorem K7 {v:pk} {n:Nat} (hv:VT v n) {r:oO} (hr:uJ r.2.2):∃y,az v r=some y/\y.1.length<=1000/\y.2.length<=1000/\∀r∈y.1,uJ r.2.2:=by
 obtain⟨l1,l2,l3,l4⟩:=hv.len;obtain⟨d,h1,h2,h3⟩:=oR (step:=λz:Bool×Int×List oO=>aw v r z.1 z.2.1 z.2.2) (λk z=>z.2.1=(k:Int)/\z.2.2.length<=2*k/\∀x∈z.2.2,uJ x.2.2) v.1.length (λd=>d.2.length<=12/\∀x∈d.2,uJ x.2.2)
  (λk z hk ⟨e1,e2,e3⟩=>by
   obtain⟨t,i,b⟩:=z;simp only at e1 e2 e3;subst e1;left;have hvk:uJ v.1[k].2.2:=hv.r _ (getElem_mem hk)
   show ∃y,aw v r t (k:Int) b=_/\_;unfold aw;simp only[pr (show (k:Int)<(v.1.length:Int) by omega),cT,oT hk,oy,oQ (show k<9223372036854775807 by omega),Int.not_lt];have ha:∀(xs:List oO) (y:oO),xs.length<=100->oX xs [y]=some (xs++[y]):=λxs y h=>oH (by show xs.length+1<=_;omega)
   have key:∀(tt:Bool),((cond (!t) (some (decide (v.1[k].1>=r.1))) (some false))=some tt->∃y:Bool×Int×List oO,(cond tt ((oX b [r]).bind λzs37=>cond (v.1[k].1 != r.1) ((oX zs37 [v.1[k]]).bind λzs56=>some (.inl (true,((k+1:Nat):Int),zs56))) (some (.inl (true,((k+1:Nat):Int),zs37)))) (cond (v.1[k].1 != r.1) ((oX b [v.1[k]]).bind λzs56_1=>some (.inl (t,((k+1:Nat):Int),zs56_1))) (some (.inl (t,((k+1:Nat):Int),b)))):Option ((Bool×Int×List oO)⊕(Bool×List oO)))=some (.inl y)/\y.2.1=((k+1:Nat):Int)/\y.2.2.length<=2*(k+1)/\∀x∈y.2.2,uJ x.2.2):=by
    intro tt _;cases tt with
    | true =>
     rw[cT,ha b r (by omega),oy];cases v.1[k].1 != r.1 with
     | true =>
      rw[cT,ha (b++[r]) _ (by simp;omega),oy];refine⟨_,rfl,rfl,by simp;omega,λx hx=>?_⟩;simp at hx;rcases hx with hx|rfl|rfl
      · exact e3 x hx
      · exact hr
      · exact hvk
     | false =>
      refine⟨_,rfl,rfl,by simp;omega,λx hx=>?_⟩;simp at hx;rcases hx with hx|rfl
      · exact e3 x hx
      · exact hr
    | false =>
     rw[cF];cases v.1[k].1 != r.1 with
     | true =>
      rw[cT,ha b _ (by omega),oy];refine⟨_,rfl,rfl,by simp;omega,λx hx=>?_⟩;simp at hx;rcases hx with hx|rfl
      · exact e3 x hx
      · exact hvk
     | false=>exact⟨_,rfl,rfl,by show b.length<=_;omega,e3⟩
   cases ht:(cond (!t) (some (decide (v.1[k].1>=r.1))) (some false))with
   | none=>cases t<;>cases ht
   | some tt =>
    rw[oy];exact key tt ht)
  (λz ⟨e1,e2,e3⟩=>by
   obtain⟨t,i,b⟩:=z;simp only at e1 e2 e3;subst e1;refine⟨(t,b),?_,by show b.length<=12;omega,e3⟩;show aw v r t _ b=_
   unfold aw;rw[pb (by omega),cF]) (x:=(false,0,[])) ⟨rfl,by simp,λx hx=>absurd hx not_mem_nil⟩
 unfold az;rw[oH (by show 0+v.2.length<=_;omega),oy,h1,oy,nil_append];cases d.1 with
 | true=>exact⟨_,rfl,by show d.2.length<=_;omega,by show v.2.length<=_;omega,h3⟩
 | false =>
  rw[Bool.not_false,cT,oH (by show d.2.length+1<=_;omega),oy];refine⟨_,rfl,by show (d.2++[r]).length<=_;simp;omega,by show v.2.length<=_;omega,λx hx=>?_⟩;have hx:x∈d.2++[r]:=hx
  simp at hx;rcases hx with hx|rfl
  · exact h3 x hx
  · exact hr
theorem K8 {v:pk} {n:Nat} (hv:VT v n) {r:oO} (hr:uJ r.2.2):∃y ok,dz v r=some (y,ok)/\VT y n:=by
 obtain⟨x,hx,h1,h2,h3⟩:=K7 hv hr;unfold dz;rw[IB hv,oy,Bool.not_true,cF,hx,oy];obtain⟨y,ok,e,hy⟩:=IA hv h1 h2 h3;rw[e];exact⟨_,_,rfl,hy⟩
theorem Jn (a b:Int):uJ (rJ .i64 a b):=by
 rw[BD];have h1:=BitVec.toInt_lt (x:=BitVec.ofInt 64 a&&&BitVec.ofInt 64 b)
 have h2:=BitVec.le_toInt (x:=BitVec.ofInt 64 a&&&BitVec.ofInt 64 b);exact⟨by omega,by omega⟩
theorem Jo {c:oL} (h:CW c) {n:Nat} (h1:1<=n) (h6:n<=6):∃c' r,eM c (n:Int)=some (c',r)/\CW c'/\uJ r.2.2:=by
 obtain⟨t,ht,_⟩:=E4 (i:=(n:Int)) (by unfold oE;rw[dT (by omega),dT (by omega)];rfl);unfold eM;rw[ht,oy];obtain⟨c1,r1,e1,w1,_⟩:=qq h (oB ((oB (t-1))+1));obtain⟨c2,r2,e2,w2,_⟩:=rM w1 (l:=[1,2,3,2]) (by decide);obtain⟨c3,r3,e3,w3,_⟩:=qq w2 (oB ((oB (t-1))+1));rw[e1,oy,e2,oy,e3,oy];exact⟨_,_,rfl,w3,Jn _ _⟩

theorem ID {n:Nat} (h1:1<=n) (h6:n<=6):du (n:Int)=some ([(1,qd (n:Int),qd (n:Int))],List.replicate n 1):=by
 have hin:oE (n:Int) 1 6=true:=by unfold oE;rw[dT (by omega),dT (by omega)];rfl
 obtain⟨t,ht,ht2⟩:=E4 hin;obtain⟨d,hd,rfl⟩:=oR (step:=λz:Int×List Int=>cm (n:Int) z.1 z.2) (λk z=>z.1=(k:Int)/\z.2=List.replicate k 1) n (λd=>d=List.replicate n 1)
  (λk z hk ⟨e1,e2⟩=>by
   obtain⟨i,l⟩:=z;simp only at e1 e2;subst e1 e2;left;refine⟨(((k+1:Nat):Int),List.replicate k 1++[1]),?_,rfl,?_⟩
   · show cm (n:Int) (k:Int) _=_;unfold cm;rw[pr (by omega),cT,oH (by simp;omega),oy,oQ (by omega)]
   · show List.replicate k 1++[1]=_;rw[←List.replicate_succ'])
  (λz ⟨e1,e2⟩=>by
   obtain⟨i,l⟩:=z;simp only at e1 e2;subst e1 e2;refine⟨_,?_,rfl⟩;show cm (n:Int) _ _=_
   unfold cm;rw[pb (by omega),cF]) (x:=(0,[])) ⟨rfl,rfl⟩
 unfold du;rw[uN,oy,hin,Bool.not_true,cF,ht,oy,hd,oy,ht2]
theorem Jp {n:Nat} (h1:1<=n) (h6:n<=6):VT ([(1,qd (n:Int),qd (n:Int))],List.replicate n 1) n:=by
 have hin:oE (n:Int) 1 6=true:=by unfold oE;rw[dT (by omega),dT (by omega)];rfl
 have ht:=BC hin;have hrow:al ([(1,qd (n:Int),qd (n:Int))],List.replicate n 1) 1=some 0:=by
  unfold al;rw[td (k:=1) (b:=.inr 0) (by rfl)];rfl
 have hb:(wQ .i64 (qd (n:Int)) (qd (n:Int)) != 0)=false:=by
  rcases Au hin with h|h|h|h|h|h<;>rw[h]<;>decide
 refine⟨?_,λr hr=>?_⟩
 · unfold rg;rw[hin];show (!(!true||(((List.replicate n (1:Int)).length:Int) != (n:Int)||decide ((1:Int)>6)))&&(!(List.range 1).any _&&!(List.range (List.replicate n (1:Int)).length).any _))=true
   rw[List.length_replicate];have e1:(((n:Int)) != (n:Int))=false:=by simp
   rw[e1];have e2:(List.range 1).any (ud ([(1,qd (n:Int),qd (n:Int))],List.replicate n 1) (n:Int))=false:=by
    show (ud ([(1,qd (n:Int),qd (n:Int))],List.replicate n 1) (n:Int) 0||false)=false;unfold ud;show ((!(oE 1 1 99)||((decide (0<0)&&_)||(!(oE (qd (n:Int)) 0 (qd (n:Int)))||(wQ .i64 (qd (n:Int)) (qd (n:Int)) != 0))))||false)=false
    rw[hb];have:oE (qd (n:Int)) 0 (qd (n:Int))=true:=by unfold oE;rw[dT (by omega),dT (by omega)];rfl
    rw[this];rfl
   rw[e2];have e3:(List.range n).any (vG ([(1,qd (n:Int),qd (n:Int))],List.replicate n 1))=false:=by
    apply Bool.eq_false_iff.2;intro h;obtain⟨k,hk,hx⟩:=any_eq_true.1 h;have hk:=mem_range.1 hk
    unfold vG at hx;have:(List.replicate n (1:Int))[k]?=some 1:=by rw[List.getElem?_replicate,if_pos hk]
    simp only[this,hrow]at hx
    revert hx;decide
   rw[e3];rfl
 · have hr:r∈[((1:Int),qd (n:Int),qd (n:Int))]:=hr;simp at hr;subst hr;exact⟨by show _<=qd (n:Int);omega,by show qd (n:Int)<=_;omega⟩
theorem GS {c:oL} (h:CW c) {n:Nat} (h1:1<=n) (h6:n<=6):∃c' v,bN c (n:Int)=some (c',v)/\CW c'/\VT v n:=by
 unfold bN;obtain⟨c0,m,e0,w0,hm⟩:=qr h (n:=6) (by decide);rw[ID h1 h6,oy];have e0':aa c 6=some (c0,(m:Int)):=e0
 rw[e0',oy];obtain⟨d,hd,g1,g2⟩:=oR (step:=λz:Int×List Int×Int×Int×List oO×List Int=>cq (n:Int) z.1 z.2.1 z.2.2.1 z.2.2.2.1 z.2.2.2.2.1 z.2.2.2.2.2) (λk z=>z.1=(m:Int)-(k:Int)/\CW (z.2.1,z.2.2.1,z.2.2.2.1)/\VT z.2.2.2.2 n) m (λd=>CW (d.1,d.2.1,d.2.2.1)/\VT d.2.2.2 n)
  (λk z hk ⟨a1,a2,a3⟩=>by
   obtain⟨i,x,y,s,v⟩:=z;simp only at a1 a2 a3;left;show ∃y',cq (n:Int) i x y s v.1 v.2=_/\_
   unfold cq;have hi:decide (i>0)=true:=dT (by omega)
   have hw:oB (i-1)=(m:Int)-((k+1:Nat):Int):=by rw[pj (by omega) (by omega)];omega
   obtain⟨c1,r1,e1,w1,_⟩:=qq a2 4;rw[hi,cT,e1,oy,hw];show ∃y',cond (r1==0) _ _=_/\_
   cases r1==0 with
   | true =>
    obtain⟨c2,r2,e2,w2,_⟩:=qq w1 (n:Int);obtain⟨c3,r3,e3,w3,_⟩:=qq w2 3;obtain⟨v',ok,e4,g4⟩:=Jl a3 r2 (oB (1+r3));have e4':dx (v.1,v.2) r2 (oB (1+r3))=some (v',ok):=e4
    rw[cT,e2,oy,e3,oy,e4',oy];exact⟨_,rfl,rfl,w3,g4⟩
   | false =>
    rw[cF];show ∃y',cond (r1==1) _ _=_/\_
    cases r1==1 with
    | true =>
     obtain⟨c2,r2,e2,w2,_⟩:=qq w1 2;obtain⟨v',ok,e4,g4⟩:=Jm a3 (oB (2+r2));have e4':dy (v.1,v.2) (oB (2+r2))=some (v',ok):=e4
     rw[cT,e2,oy,e4',oy];exact⟨_,rfl,rfl,w2,g4⟩
    | false =>
     obtain⟨c2,r2,e2,w2,hr2⟩:=Jo w1 h1 h6;obtain⟨v',ok,e4,g4⟩:=K8 a3 hr2;have e4':dz (v.1,v.2) r2=some (v',ok):=e4
     rw[cF,e2,oy,e4',oy];exact⟨_,rfl,rfl,w2,g4⟩)
  (λz ⟨a1,a2,a3⟩=>by
   obtain⟨i,x,y,s,v⟩:=z;simp only at a1 a2 a3;refine⟨(x,y,s,v),?_,a2,a3⟩;show cq (n:Int) i x y s v.1 v.2=_
   unfold cq;have hi:decide (i>0)=false:=dF (by omega)
   rw[hi,cF]) (x:=((m:Int),c0.1,c0.2.1,c0.2.2,[(1,qd (n:Int),qd (n:Int))],List.replicate n 1)) ⟨by simp,w0,Jp h1 h6⟩
 rw[hd,oy];exact⟨_,_,rfl,g1,g2⟩
theorem IE {c:oL} (h:CW c):∃c' v,dw c=some (c',v)/\CW c'/\yO v=true:=by
 obtain⟨c1,k1,e1,w1,b1⟩:=qr h (n:=5) (by decide);obtain⟨c2,x2,e2,w2,b2⟩:=rM w1 (l:=[0,1,2,5,10,100]) (by decide);obtain⟨c3,x3,e3,w3,b3⟩:=rM w2 (l:=[0,1,2,9,10]) (by decide);obtain⟨c4,k4,e4,w4,b4⟩:=qr w3 (n:=5) (by decide);obtain⟨c5,k5,e5,w5,b5⟩:=qr w4 (n:=4) (by decide);have e1':aa c 5=some (c1,(k1:Int)):=e1
 have e4':aa c3 5=some (c4,(k4:Int)):=e4;have e5':aa c4 4=some (c5,(k5:Int)):=e5
 unfold dw;rw[e1',oy,e2,oy,e3,oy,e4',oy,e5',oy];refine⟨_,_,rfl,w5,?_⟩;show yO (oB (1+(k1:Int)),x2,x3,oB (1+(k4:Int)),(k5:Int))=true
 rw[pj (by omega) (by omega),pj (by omega) (by omega)];have i1:oE (1+(k1:Int)) 1 99=true:=by unfold oE;rw[dT (by omega),dT (by omega)];rfl
 have i4:oE (1+(k4:Int)) 1 99=true:=by unfold oE;rw[dT (by omega),dT (by omega)];rfl
 have i5:oE (k5:Int) 0 7=true:=by unfold oE;rw[dT (by omega),dT (by omega)];rfl
 have i2:oE x2 0 100000=true:=by
  have:∀x∈([0,1,2,5,10,100]:List Int),oE x 0 100000=true:=by decide
  exact this x2 b2
 have i3:oE x3 0 10=true:=by
  have:∀x∈([0,1,2,9,10]:List Int),oE x 0 10=true:=by decide
  exact this x3 b3
 unfold yO;rw[i1,i2,i3,i4,i5];rfl
theorem Fk {c:oL} (h:CW c) {n:Nat} (h6:n<=6):∃c' l,bM c (n:Int)=some (c',l)/\CW c'/\l.length=n/\∀x∈l,un x=true:=by
 unfold bM;obtain⟨d,hd,g1,g2,g3⟩:=oR (step:=λz:Int×List Int×Int×Int×List Pt=>co (n:Int) z.1 z.2.1 z.2.2.1 z.2.2.2.1 z.2.2.2.2) (λk z=>z.1=(k:Int)/\CW (z.2.1,z.2.2.1,z.2.2.2.1)/\z.2.2.2.2.length=k/\∀x∈z.2.2.2.2,un x=true) n (λd=>CW (d.1,d.2.1,d.2.2.1)/\d.2.2.2.length=n/\∀x∈d.2.2.2,un x=true)
  (λk z hk ⟨a1,a2,a3,a4⟩=>by
   obtain⟨i,x,y,s,l⟩:=z;simp only at a1 a2 a3 a4;subst a1;left;show ∃y',co (n:Int) (k:Int) x y s l=_/\_
   unfold co;obtain⟨c1,up,e1,w1⟩:=Ay a2 4;obtain⟨c2,cost,e2,w2,b2⟩:=rM w1 (l:=[1,1,2,5,10]) (by decide);have hc:oE cost 1 1000=true:=by
    have:∀x∈([1,1,2,5,10]:List Int),oE x 1 1000=true:=by decide
    exact this cost b2
   have ha:∀q:Pt,oX l [q]=some (l++[q]):=λq=>oH (by show l.length+1<=_;omega);have hin:∀q:Pt,un q=true->(l++[q]).length=k+1/\∀x∈l++[q],un x=true:=λq hq=>⟨by simp;omega,λx hx=>by
    simp at hx;rcases hx with hx|rfl
    · exact a4 x hx
    · exact hq⟩
   rw[pr (by omega),cT,e1,oy,e2,oy,oQ (by omega)];show ∃y',cond (!up) _ _=_/\_
   cases up with
   | true =>
    simp only[ha,Bool.not_true,cF,oy];obtain⟨q1,q2⟩:=hin (false,cost,false,0,0,0,0,0) (by unfold un;rw[hc];rfl);exact⟨_,rfl,rfl,w2,q1,q2⟩
   | false =>
    obtain⟨c3,has,e3,w3⟩:=Ay w2 4;rw[Bool.not_false,cT,e3,oy];show ∃y',cond (!has) _ _=_/\_
    cases has with
    | true =>
     simp only[ha,Bool.not_true,cF,oy];obtain⟨q1,q2⟩:=hin (true,cost,false,0,0,0,0,0) (by unfold un;rw[hc];rfl);exact⟨_,rfl,rfl,w3,q1,q2⟩
    | false =>
     obtain⟨c4,v,e4,w4,hv⟩:=IE w3;simp only[ha,Bool.not_false,cT,oy,e4];obtain⟨q1,q2⟩:=hin (true,cost,true,v.1,v.2.1,v.2.2.1,v.2.2.2.1,v.2.2.2.2) (by unfold un;rw[hc];exact hv);exact⟨_,rfl,rfl,w4,q1,q2⟩)
  (λz ⟨a1,a2,a3,a4⟩=>by
   obtain⟨i,x,y,s,l⟩:=z;simp only at a1 a2 a3 a4;subst a1;refine⟨(x,y,s,l),?_,a2,a3,a4⟩;show co (n:Int) _ x y s l=_
   unfold co;rw[pb (by omega),cF]) (x:=(0,c.1,c.2.1,c.2.2,[])) ⟨rfl,h,rfl,λx hx=>absurd hx not_mem_nil⟩
 rw[hd,oy];exact⟨_,_,rfl,g1,g2,g3⟩

def lt (a b:oG):Prop:=a.1<b.1\/(a.1=b.1/\a.2.1<b.2.1)
def same (a b:oG):Prop:=a.1=b.1/\a.2.1=b.2.1
theorem lt_trans {a b c:oG} (h:lt a b) (k:lt b c):lt a c:=by unfold lt at *;omega
theorem Ed {a b:oG} (h:lt a b):¬same a b:=by unfold lt same at *;omega
structure FB (l:List oG):Prop where
 e:∀x∈l,rz x=true
 o:l.Pairwise lt
 n:l.length<=12
theorem FB.ok {l:List oG} (h:FB l):th l=true:=by
 unfold th;have hn:=h.n
 rw[dT (show (l.length:Int)<=12 by omega),Bool.and_true,Bool.not_eq_true'];apply Bool.eq_false_iff.2;intro ha;obtain⟨k,hk,hx⟩:=any_eq_true.1 ha;have hk:=mem_range.1 hk
 unfold tk at hx;simp only[List.getElem?_eq_getElem hk,h.e _ (getElem_mem hk),Bool.not_true,Bool.false_or,aT,decide_eq_true_eq]at hx;obtain⟨h0,hx⟩:=hx;simp only[List.getElem?_eq_getElem (show k-1<l.length by omega),Bool.not_eq_true']at hx;have hl:=pairwise_iff_getElem.1 h.o (k-1) k (by omega) hk (by omega)
 unfold uo at hx;simp only[Bool.or_eq_false_iff,Bool.and_eq_false_iff,decide_eq_false_iff_not,bF]at hx;unfold lt at hl;omega
theorem JH {l:List oG} (h:FB l):bP l=some true:=by
 have hn:=h.n;rw[Ip (by omega),h.ok]
theorem FB.copy {l:List oG} (h:FB l):bp l=some l:=by
 have hn:=h.n;unfold bp;rw[oH (by show 0+l.length<=_;omega)];rfl
theorem JI {l:List oG} (hn:l.length<9223372036854775807) (tag mac:Int):∃r,bn l tag mac=some r/\((r = -1/\∀x∈l,¬(x.1=tag/\x.2.1=mac))\/∃k:Nat,∃hk:k<l.length,r=(k:Int)/\l[k].1=tag/\l[k].2.1=mac):=by
 obtain⟨v,h1,h2⟩:=oR (step:=λz=>aD l tag mac z) (λk i=>i=(k:Int)/\∀x∈l.take k,¬(x.1=tag/\x.2.1=mac)) l.length (λv=>(v=.inl ()/\∀x∈l,¬(x.1=tag/\x.2.1=mac))\/∃k:Nat,∃hk:k<l.length,v=.inr (k:Int)/\l[k].1=tag/\l[k].2.1=mac)
  (λk i hk ⟨e,hx⟩=>by
   subst e;have hs:aD l tag mac (k:Int)=cond (l[k].1==tag&&l[k].2.1==mac) (some (.inr (.inr (k:Int)))) (some (.inl ((k+1:Nat):Int))):=by
    unfold aD;simp only[pr (show (k:Int)<(l.length:Int) by omega),cT,oT hk,oy,oQ (show k<9223372036854775807 by omega)];cases l[k].1==tag<;>rfl
   cases hb:(l[k].1==tag&&l[k].2.1==mac)with
   | true =>
    simp only[aT,beq_iff_eq]at hb;refine .inr ⟨_,by rw[hs];rw[show (l[k].1==tag&&l[k].2.1==mac)=true by simp[hb.1,hb.2]];rfl,.inr ⟨k,hk,rfl,hb.1,hb.2⟩⟩
   | false =>
    refine .inl ⟨_,by rw[hs,hb];rfl,rfl,λx hx'=>?_⟩;rw[take_add_one,List.getElem?_eq_getElem hk,mem_append]at hx';rcases hx' with hx'|hx'
    · exact hx x hx'
    · simp at hx';subst hx';intro ⟨q1,q2⟩;rw[q1,q2]at hb;simp at hb)
  (λi ⟨e,hx⟩=>by
   subst e;rw[take_length]at hx;refine⟨.inl (),?_,.inl ⟨rfl,hx⟩⟩;show aD l tag mac _=_
   unfold aD;rw[pb (by omega),cF]) (x:=0) ⟨rfl,by simp⟩
 unfold bn;rw[h1,oy];rcases h2 with ⟨rfl,h2⟩|⟨k,hk,rfl,h2⟩
 · exact⟨_,rfl,.inl ⟨rfl,h2⟩⟩
 · exact⟨_,rfl,.inr ⟨k,hk,rfl,h2⟩⟩
def uK (x e:oG):Bool:=cond (x.1 != e.1) (decide (x.1<e.1)) (decide (x.2.1<e.2.1))
theorem Gl {x e:oG} (h:uK x e=true):lt x e:=by
 unfold uK at h;unfold lt;by_cases hx:x.1=e.1
 · rw[show (x.1 != e.1)=false by simp[hx],cF]at h;exact .inr ⟨hx,of_decide_eq_true h⟩
 · rw[show (x.1 != e.1)=true from bne_iff_ne.2 hx,cT]at h;exact .inl (of_decide_eq_true h)
theorem Fl {x e:oG} (h:uK x e=false):lt e x\/same x e:=by
 unfold uK at h;unfold lt same;by_cases hx:x.1=e.1
 · rw[show (x.1 != e.1)=false by simp[hx],cF]at h;have:=of_decide_eq_false h
   omega
 · rw[show (x.1 != e.1)=true from bne_iff_ne.2 hx,cT]at h;have:=of_decide_eq_false h
   omega
def sX (x e:oG):Bool:=x.1 != e.1||x.2.1 != e.2.1
theorem y0 {x e:oG} (h:sX x e=true):¬same x e:=by
 unfold sX at h;unfold same;simp only[Bool.or_eq_true,bne_iff_ne]at h;omega
theorem CL {x e:oG} (h:sX x e=false):same x e:=by
 unfold sX at h;unfold same;simp only[Bool.or_eq_false_iff,bne_eq_false_iff_eq]at h;exact h
theorem vi {l:List oG} {x:oG} (h:l.Pairwise lt) (k:∀y∈l,lt y x):(l++[x]).Pairwise lt:=by
 rw[pairwise_append];exact⟨h,List.pairwise_singleton _ _,λa ha b hb=>by simp at hb;subst hb;exact k a ha⟩
theorem Ee {l:List oG} (h:FB l) {e:oG} (he:rz e=true) (hroom:(∃x∈l,same x e)\/l.length<12):∃y,dA l e=some y/\FB y:=by
 have hn:=h.n;have hlt:∀i j (hi:i<l.length) (hj:j<l.length),i<j->lt l[i] l[j]:=pairwise_iff_getElem.1 h.o
 obtain⟨d,hd,g⟩:=oR (step:=λz:Bool×Int×List oG=>bO l e z.1 z.2.1 z.2.2)
  (λk z=>z.2.1=(k:Int)/\(∀x∈z.2.2,rz x=true)/\z.2.2.Pairwise lt /\
   (z.1=false->z.2.2=l.take k/\∀x∈l.take k,lt x e) /\
   (z.1=true->(∀x∈z.2.2,∀j (hj:j<l.length),k<=j->lt x l[j])/\(∀j (hj:j<l.length),k<=j->lt e l[j])/\z.2.2.length<=k+1/\((∃x∈l.take k,same x e)->z.2.2.length<=k))) l.length
  (λd=>(∀x∈d.2,rz x=true)/\d.2.Pairwise lt/\(d.1=false->d.2=l/\∀x∈l,lt x e)/\(d.1=true->d.2.length<=l.length+1/\((∃x∈l,same x e)->d.2.length<=l.length)))
  (λk z hk ⟨e1,e2,e3,e4,e5⟩=>by
   obtain⟨t,i,b⟩:=z;simp only at e1 e2 e3 e4 e5;subst e1;left;have hf:rz l[k]=true:=h.e _ (getElem_mem hk)
   have hbl:b.length<=100:=by
    cases t with
    | false=>rw[(e4 rfl).1,List.length_take];omega
    | true=>have:=(e5 rfl).2.2.1;omega
   have ha:∀(xs:List oG) (y:oG),xs.length<=101->oX xs [y]=some (xs++[y]):=λxs y h=>oH (by show xs.length+1<=_;omega);have htk:l.take (k+1)=l.take k++[l[k]]:=by rw[take_add_one,List.getElem?_eq_getElem hk];rfl
   have hs:bO l e t (k:Int) b=cond (!t&&!(uK l[k] e))
    (cond (sX l[k] e) (some (.inl (true,((k+1:Nat):Int),b++[e]++[l[k]]))) (some (.inl (true,((k+1:Nat):Int),b++[e]))))
    (cond (sX l[k] e) (some (.inl (t,((k+1:Nat):Int),b++[l[k]]))) (some (.inl (t,((k+1:Nat):Int),b)))):=by
    have hA:bo l[k] e.1 e.2.1=some (uK l[k] e):=by unfold bo uK;cases (l[k].1 != e.1)<;>rfl
    have hO:(cond (l[k].1 != e.1) (some true) (some (l[k].2.1 != e.2.1)))=some (sX l[k] e):=by unfold sX;cases (l[k].1 != e.1)<;>rfl
    unfold bO;simp only[pr (show (k:Int)<(l.length:Int) by omega),cT,oT hk,oy,oQ (show k<9223372036854775807 by omega),hA,hO,ha b e (by omega),ha b l[k] (by omega),ha (b++[e]) l[k] (by rw[length_append];show b.length+1<=_;omega)];cases t<;>cases uK l[k] e<;>rfl
   show ∃y,bO l e t (k:Int) b=_/\_;rw[hs];cases t with
   | false =>
    obtain⟨f1,f2⟩:=e4 rfl;subst f1;cases hah:uK l[k] e with
    | true =>
     have hl:=Gl hah;have ho:sX l[k] e=true:=by
      cases ho:sX l[k] e with
      | true=>rfl
      | false=>exact absurd (CL ho) (Ed hl)
     rw[ho];refine⟨_,rfl,rfl,λx hx=>?_,?_,λ_=>⟨by show l.take k++[l[k]]=_;rw[htk],λx hx=>?_⟩,(λht=>by cases ht)⟩
     · have hx:x∈l.take k++[l[k]]:=hx;rcases mem_append.1 hx with hx|hx
       · exact e2 x hx
       · simp at hx;subst hx;exact hf
     · show (l.take k++[l[k]]).Pairwise lt;rw[←htk];exact List.Pairwise.sublist (List.take_sublist _ _) h.o
     · rw[htk]at hx;rcases mem_append.1 hx with hx|hx
       · exact f2 x hx
       · simp at hx;subst hx;exact hl
    | false =>
     have hge:=Fl hah;have hpe:(l.take k++[e]).Pairwise lt:=vi e3 f2
     have hee:∀x∈l.take k++[e],rz x=true:=λx hx=>by
      rcases mem_append.1 hx with hx|hx
      · exact e2 x hx
      · simp at hx;subst hx;exact he
     have hlater:∀j (hj:j<l.length),k+1<=j->lt e l[j]:=λj hj hkj=>by
      have h1:=hlt k j hk hj (by omega);rcases hge with h2|h2
      · exact lt_trans h2 h1
      · unfold same at h2;unfold lt at h1 ⊢;omega
     have htl:∀x∈l.take k,∀j (hj:j<l.length),k+1<=j->lt x l[j]:=λx hx j hj hkj=>lt_trans (f2 x hx) (hlater j hj hkj);have hlen:(l.take k).length=k:=by rw[List.length_take];omega
     cases ho:sX l[k] e with
     | true =>
      have hek:lt e l[k]:=by
       rcases hge with h2|h2
       · exact h2
       · exact absurd h2 (y0 ho)
      refine⟨_,rfl,rfl,λx hx=>?_,?_,(λht=>by cases ht),λ_=>⟨λx hx j hj hkj=>?_,hlater,?_,λ⟨x,hx,hxe⟩=>?_⟩⟩
      · have hx:x∈l.take k++[e]++[l[k]]:=hx;rcases mem_append.1 hx with hx|hx
        · exact hee x hx
        · simp at hx;subst hx;exact hf
      · show (l.take k++[e]++[l[k]]).Pairwise lt;refine vi hpe λy hy=>?_;rcases mem_append.1 hy with hy|hy
        · exact lt_trans (f2 y hy) hek
        · simp at hy;subst hy;exact hek
      · have hx:x∈l.take k++[e]++[l[k]]:=hx;rcases mem_append.1 hx with hx|hx
        · rcases mem_append.1 hx with hx|hx
          · exact htl x hx j hj hkj
          · simp at hx;subst hx;exact hlater j hj hkj
        · simp at hx;subst hx;exact hlt k j hk hj (by omega)
      · show (l.take k++[e]++[l[k]]).length<=_;simp only[length_append,hlen,List.length_singleton];omega
      · rw[htk]at hx;rcases mem_append.1 hx with hx|hx
        · exact absurd hxe (Ed (f2 x hx))
        · simp at hx;subst hx;exact absurd hxe (y0 ho)
     | false =>
      refine⟨_,rfl,rfl,hee,hpe,(λht=>by cases ht),λ_=>⟨λx hx j hj hkj=>?_,hlater,?_,λ_=>?_⟩⟩
      · have hx:x∈l.take k++[e]:=hx;rcases mem_append.1 hx with hx|hx
        · exact htl x hx j hj hkj
        · simp at hx;subst hx;exact hlater j hj hkj
      · show (l.take k++[e]).length<=_;simp only[length_append,hlen,List.length_singleton];omega
      · show (l.take k++[e]).length<=_;simp only[length_append,hlen,List.length_singleton];omega
   | true =>
    obtain⟨f1,f2,f3,f4⟩:=e5 rfl;cases ho:sX l[k] e with
    | true =>
     refine⟨_,rfl,rfl,λx hx=>?_,vi e3 λy hy=>f1 y hy k hk (Nat.le_refl _),(λht=>by cases ht),λ_=>⟨λx hx j hj hkj=>?_,λj hj hkj=>f2 j hj (by omega),?_,λ⟨x,hx,hxe⟩=>?_⟩⟩
     · have hx:x∈b++[l[k]]:=hx;rcases mem_append.1 hx with hx|hx
       · exact e2 x hx
       · simp at hx;subst hx;exact hf
     · have hx:x∈b++[l[k]]:=hx;rcases mem_append.1 hx with hx|hx
       · exact f1 x hx j hj (by omega)
       · simp at hx;subst hx;exact hlt k j hk hj (by omega)
     · show (b++[l[k]]).length<=_;rw[length_append];show b.length+1<=_;omega
     · show (b++[l[k]]).length<=_;rw[htk]at hx;rcases mem_append.1 hx with hx|hx
       · have:=f4 ⟨x,hx,hxe⟩;rw[length_append];show b.length+1<=_;omega
       · simp at hx;subst hx;exact absurd hxe (y0 ho)
    | false =>
     exact⟨_,rfl,rfl,e2,e3,(λht=>by cases ht),λ_=>⟨λx hx j hj hkj=>f1 x hx j hj (by omega),λj hj hkj=>f2 j hj (by omega),by show b.length<=_;omega,λ_=>by show b.length<=_;omega⟩⟩)
  (λz ⟨e1,e2,e3,e4,e5⟩=>by
   obtain⟨t,i,b⟩:=z;simp only at e1 e2 e3 e4 e5;subst e1;rw[take_length]at e4 e5;refine⟨(t,b),?_,e2,e3,e4,λht=>⟨(e5 ht).2.2.1,(e5 ht).2.2.2⟩⟩;show bO l e t _ b=_
   unfold bO;rw[pb (by omega),cF]) (x:=(false,0,[])) ⟨rfl,λx hx=>absurd hx not_mem_nil,List.Pairwise.nil,λ_=>⟨by simp,λx hx=>by simp at hx⟩,(λht=>by cases ht)⟩
 obtain⟨g1,g2,g3,g4⟩:=g;unfold dA;rw[hd,oy];obtain⟨t,b⟩:=d;simp only at g1 g2 g3 g4;cases t with
 | true =>
  refine⟨b,rfl,g1,g2,?_⟩;obtain⟨k1,k2⟩:=g4 rfl;rcases hroom with hr|hr
  · have:=k2 hr;omega
  · omega
 | false =>
  obtain⟨k1,k2⟩:=g3 rfl;have hr:l.length<12:=by
   rcases hroom with ⟨x,hx,hxe⟩|hr
   · exact absurd hxe (Ed (k2 x hx))
   · exact hr
  show ∃y,((oX b [e]).bind λzs=>some zs)=some y/\FB y;rw[k1,oH (by show l.length+1<=_;omega),oy];refine⟨_,rfl,λx hx=>?_,vi h.o k2,by rw[length_append];show l.length+1<=12;omega⟩;rcases mem_append.1 hx with hx|hx
  · exact h.e x hx
  · simp at hx;subst hx;exact he
theorem IF (e:oG):bQ e=some (rz e):=by rw[GM];exact E3 e
theorem Fm {l:List oG} (h:FB l) (tag mac port:Int):∃y,dC l tag mac port=some y/\FB y:=by
 have hn:=h.n;obtain⟨r,hr,hr2⟩:=JI (l:=l) (by omega) tag mac;unfold dC;rw[hr,oy,JH h,oy,IF,oy,h.copy,oy,Bool.not_true,cF,oy];cases he:rz (tag,mac,port,0,false)with
 | false=>exact⟨_,rfl,h⟩
 | true =>
  rcases hr2 with ⟨rfl,hr2⟩|⟨k,hk,rfl,q1,q2⟩
  · rw[Bool.not_true,cF];by_cases hlen:l.length<12
    · obtain⟨y,hy,hy2⟩:=Ee h he (.inr hlen);refine⟨y,?_,hy2⟩;rw[hy];show (cond (decide ((l.length:Int)>=12)) _ _)=_
      rw[dF (by omega)];rfl
    · refine⟨l,?_,h⟩;show (cond (decide ((l.length:Int)>=12)) _ _)=_
      rw[dT (by omega)];rfl
  · simp only[Bool.not_true,cF,dT (show (k:Int)>=0 by omega),cT,oT hk,oy,pb (show ¬(k:Int)<0 by omega)];obtain⟨y,hy,hy2⟩:=Ee h he (.inl ⟨l[k],getElem_mem hk,q1,q2⟩);cases l[k].2.2.2.2 with
    | true=>exact⟨_,rfl,h⟩
    | false=>exact⟨y,by rw[hy];rfl,hy2⟩
theorem Dh {l:List oG} (h:FB l) (tag mac port:Int):∃y ok,cr l tag mac port=some (y,ok)/\FB y:=by
 have hn:=h.n;obtain⟨r,hr,hr2⟩:=JI (l:=l) (by omega) tag mac;unfold cr;rw[hr,oy,JH h,oy,IF,oy,h.copy,oy,Bool.not_true,cF,oy];cases he:rz (tag,mac,port,0,true)with
 | false=>exact⟨_,_,rfl,h⟩
 | true =>
  rcases hr2 with ⟨rfl,hr2⟩|⟨k,hk,rfl,q1,q2⟩
  · rw[Bool.not_true,cF];by_cases hlen:l.length<12
    · obtain⟨y,hy,hy2⟩:=Ee h he (.inr hlen);refine⟨y,true,?_,hy2⟩;rw[hy];show (cond (decide ((l.length:Int)>=12)) _ _)=_
      rw[dF (by omega)];rfl
    · refine⟨l,false,?_,h⟩;show (cond (decide ((l.length:Int)>=12)) _ _)=_
      rw[dT (by omega)];rfl
  · rw[Bool.not_true,cF,pb (show ¬(k:Int)<0 by omega),cF,oy];obtain⟨y,hy,hy2⟩:=Ee h he (.inl ⟨l[k],getElem_mem hk,q1,q2⟩);rw[oy,cF,hy];exact⟨y,true,rfl,hy2⟩

theorem K9 {id n:Nat} (i1:1<=id) (i2:id<=99) (h1:1<=n) (h6:n<=6):∃ps rs qs,dv (id:Int) (n:Int)=some ((id:Int),[],ps,[],rs,qs,0,0,0,0,0):=by
 have hin:oE (n:Int) 1 6=true:=by unfold oE;rw[dT (by omega),dT (by omega)];rfl
 have hid:oE (id:Int) 1 99=true:=by unfold oE;rw[dT (by omega),dT (by omega)];rfl
 obtain⟨d,hd,ps,rfl⟩:=oR (step:=λz:Int×Int×List UInt8×Int×Int×Int×Int×Int×List Pt×List oG=>cn (n:Int) z.1 z.2.1 z.2.2.1 z.2.2.2.1 z.2.2.2.2.1 z.2.2.2.2.2.1 z.2.2.2.2.2.2.1 z.2.2.2.2.2.2.2.1 z.2.2.2.2.2.2.2.2.1 z.2.2.2.2.2.2.2.2.2)
  (λk z=>∃ps:List Pt,ps.length=k/\z=((k:Int),(id:Int),[],0,0,0,0,0,ps,[])) n (λd=>∃ps:List Pt,d=((id:Int),[],0,0,0,0,0,ps,[]))
  (λk z hk ⟨ps,hp,e⟩=>by
   subst e;left;refine⟨(((k+1:Nat):Int),(id:Int),[],0,0,0,0,0,ps++[(false,1,false,0,0,0,0,0)],[]),?_,ps++[(false,1,false,0,0,0,0,0)],by simp;exact hp,rfl⟩;show cn (n:Int) (k:Int) (id:Int) [] 0 0 0 0 0 ps []=_
   unfold cn;rw[pr (by omega),cT,oH (by show ps.length+1<=_;omega),oy,oQ (by omega)])
  (λz ⟨ps,hp,e⟩=>by
   subst e;refine⟨((id:Int),[],0,0,0,0,0,ps,[]),?_,ps,rfl⟩;show cn (n:Int) _ (id:Int) [] 0 0 0 0 0 ps []=_
   unfold cn;rw[pb (by omega),cF]) (x:=(0,(id:Int),[],0,0,0,0,0,[],[])) ⟨[],rfl,rfl⟩
 unfold dv;rw[uN,oy,hid,Bool.not_true,cF,uN,oy,hin,oy,Bool.not_true,cF,ID h1 h6,oy,hd,oy];exact⟨_,_,_,rfl⟩
theorem Ef {c:oL} (h:CW c):∃c' x,bq c=some (c',x)/\CW c':=by
 obtain⟨c1,x,e,w,_⟩:=rM h (l:=[11,12,13,14]) (by decide);unfold bq;rw[e,oy];exact⟨_,_,rfl,w⟩
def IG (b:oA):Prop:=b.2.2.2.2.2.2.2.1=0/\b.2.2.2.2.2.2.2.2.1=0/\b.2.2.2.2.2.2.2.2.2.1=0
theorem Di {c:oL} (h:CW c):∃c' b,cu c=some (c',b)/\CW c'/\sG b/\pY b=true/\IG b:=by
 obtain⟨c1,p,e1,w1,b1⟩:=qr h (n:=4) (by decide);obtain⟨c2,q,e2,w2,b2⟩:=qr w1 (n:=5) (by decide);have e1':aa c 4=some (c1,(p:Int)):=e1
 have e2':aa c1 5=some (c2,(q:Int)):=e2;have hp:oB (1+(p:Int))=((p+1:Nat):Int):=by rw[pj (by omega) (by omega)];omega
 have hq:oB (1+(q:Int))=((q+1:Nat):Int):=by rw[pj (by omega) (by omega)];omega
 obtain⟨ps,rs,qs,e3⟩:=K9 (id:=q+1) (n:=p+1) (by omega) (by omega) (by omega) (by omega);obtain⟨c4,name,e4,w4,b4⟩:=Gk w2 (l:=[[],[121,97,114,100],[98,49]]) (by decide);obtain⟨c5,pts,e5,w5,l5,a5⟩:=Fk w4 (n:=p+1) (by omega);obtain⟨c6,v,e6,w6,a6⟩:=GS w5 (n:=p+1) (by omega) (by omega);obtain⟨c7,m,e7,w7,b7⟩:=qr w6 (n:=6) (by decide);have e7':aa c6 6=some (c7,(m:Int)):=e7
 have hname:name.length<=10:=by
  have:∀x∈([[],[121,97,114,100],[98,49]]:List (List UInt8)),x.length<=10:=by decide
  exact this name b4
 obtain⟨d,hd,g1,g2,g3,g4⟩:=oR (step:=λz:Int×List Int×Int×Int×Int×List UInt8×Int×Int×Int×Int×Int×List oG=>ct (c1,(p:Int)) z.1 z.2.1 z.2.2.1 z.2.2.2.1 z.2.2.2.2.1 z.2.2.2.2.2.1 z.2.2.2.2.2.2.1 z.2.2.2.2.2.2.2.1 z.2.2.2.2.2.2.2.2.1 z.2.2.2.2.2.2.2.2.2.1 z.2.2.2.2.2.2.2.2.2.2.1 z.2.2.2.2.2.2.2.2.2.2.2)
  (λk z=>z.1=(m:Int)-(k:Int)/\CW (z.2.1,z.2.2.1,z.2.2.2.1)/\(z.2.2.2.2.1=((q+1:Nat):Int)/\z.2.2.2.2.2.1=name)/\(z.2.2.2.2.2.2.1,z.2.2.2.2.2.2.2.1,z.2.2.2.2.2.2.2.2.1,z.2.2.2.2.2.2.2.2.2.1,z.2.2.2.2.2.2.2.2.2.2.1)=((0:Int),(0:Int),(0:Int),(0:Int),(0:Int))/\FB z.2.2.2.2.2.2.2.2.2.2.2) m
  (λd=>CW (d.1,d.2.1,d.2.2.1)/\(d.2.2.2.1=((q+1:Nat):Int)/\d.2.2.2.2.1=name)/\(d.2.2.2.2.2.1,d.2.2.2.2.2.2.1,d.2.2.2.2.2.2.2.1,d.2.2.2.2.2.2.2.2.1,d.2.2.2.2.2.2.2.2.2.1)=((0:Int),(0:Int),(0:Int),(0:Int),(0:Int))/\FB d.2.2.2.2.2.2.2.2.2.2)
  (λk z hk ⟨a1,a2,a3,a4,a5⟩=>by
   obtain⟨i,x,y,s,bid,nm,n6,n7,n8,n9,n10,f⟩:=z;simp only at a1 a2 a3 a4 a5;left;show ∃y',ct (c1,(p:Int)) i x y s bid nm n6 n7 n8 n9 n10 f=_/\_
   unfold ct;have hi:decide (i>0)=true:=dT (by omega)
   have hw:oB (i-1)=(m:Int)-((k+1:Nat):Int):=by rw[pj (by omega) (by omega)];omega
   obtain⟨d1,r1,f1,v1,_⟩:=qq a2 3;obtain⟨d2,r2,f2,v2⟩:=Ef v1;obtain⟨d3,r3,f3,v3,_⟩:=qq v2 (oB (1+(p:Int)));obtain⟨y',f4,g4⟩:=Fm a5 (oB (1+r1)) r2 r3;rw[hi,cT,f1,oy,f2,oy,f3,oy,f4,oy,hw];exact⟨_,rfl,rfl,v3,a3,a4,g4⟩)
  (λz ⟨a1,a2,a3,a4,a5⟩=>by
   obtain⟨i,x,y,s,bid,nm,n6,n7,n8,n9,n10,f⟩:=z;simp only at a1 a2 a3 a4 a5;refine⟨(x,y,s,bid,nm,n6,n7,n8,n9,n10,f),?_,a2,a3,a4,a5⟩;show ct (c1,(p:Int)) i x y s bid nm n6 n7 n8 n9 n10 f=_
   unfold ct;have hi:decide (i>0)=false:=dF (by omega)
   rw[hi,cF]) (x:=((m:Int),c7.1,c7.2.1,c7.2.2,((q+1:Nat):Int),name,0,0,0,0,0,[])) ⟨by simp,w7,⟨rfl,rfl⟩,rfl,⟨λx hx=>absurd hx not_mem_nil,List.Pairwise.nil,by simp⟩⟩
 obtain⟨dc,dp,ds,did,dn,n6,n7,n8,n9,n10,df⟩:=d;simp only at g1 g2 g3 g4;obtain⟨rfl,rfl⟩:=g2;simp only[Prod.mk.injEq]at g3;obtain⟨rfl,rfl,rfl,rfl,rfl⟩:=g3;obtain⟨c8,st,e8,w8⟩:=Ay g1 3;obtain⟨z1,z2,z3,z4⟩:=a6.len;have hin:∀n:Nat,n<=1000000->oE (n:Int) 0 1000000=true:=λn hn=>by unfold oE;rw[dT (by omega),dT (by omega)];rfl
 have hlast:∀(c:oL) (F:List oG),CW c->FB F->∃c' b,((aa c 5).bind λt59=>(ah t59.1 ([0,1,5,1000000]:List Int)).bind λt63=>some (t63.1,((((q+1:Nat):Int),dn,pts,F,v.1,v.2,t59.2,0,0,0,t63.2):oA)))=some (c',b)/\CW c'/\sG b/\pY b=true/\IG b:=by
  intro c F hc hF;obtain⟨k1,t,f1,u1,b1⟩:=qr hc (n:=5) (by decide);have f1':aa c 5=some (k1,(t:Int)):=f1
  obtain⟨k2,x,f2,u2,b2⟩:=rM u1 (l:=[0,1,5,1000000]) (by decide);have hx:oE x 0 1000000=true:=by
   have:∀x∈([0,1,5,1000000]:List Int),oE x 0 1000000=true:=by decide
   exact this x b2
  have hFn:=hF.n;rw[f1',oy,f2,oy];refine⟨_,_,rfl,u2,⟨by show pts.length<_;omega,by show F.length<_;omega,by show v.1.length<_;omega,by show v.2.length<_;omega,a6.r⟩,?_,rfl,rfl,rfl⟩;unfold pY sF;show (!((List.range pts.length).any (wm pts))&&(oE ((q+1:Nat):Int) 1 99&&(!(decide ((dn.length:Int)>10))&&(oE (pts.length:Int) 1 6&&(th F&&(rg v (pts.length:Int)&&(oE (t:Int) 0 1000000&&(oE 0 0 1000000&&(oE 0 0 1000000&&(oE 0 0 1000000&&oE x 0 1000000))))))))))=true
  have q1:(List.range pts.length).any (wm pts)=false:=by
   apply Bool.eq_false_iff.2;intro ha;obtain⟨k,hk,hx⟩:=any_eq_true.1 ha;have hk:=mem_range.1 hk
   unfold wm at hx;simp only[List.getElem?_eq_getElem hk,a5 _ (getElem_mem hk)]at hx
   revert hx;decide
  have q2:oE ((q+1:Nat):Int) 1 99=true:=by unfold oE;rw[dT (by omega),dT (by omega)];rfl
  have q3:decide ((dn.length:Int)>10)=false:=dF (by omega);have q4:oE (pts.length:Int) 1 6=true:=by unfold oE;rw[dT (by omega),dT (by omega)];rfl
  rw[q1,q2,q3,q4,hF.ok,l5,a6.p,hin t (by omega),hx];rfl
 have e8':aU (dc,dp,ds) 3=some (c8,st):=e8;unfold cu;rw[e1',oy];show ∃c' b,((aa c1 5).bind _)=_/\_
 rw[e2',oy];show ∃c' b,((dv (oB (1+(q:Int))) (oB (1+(p:Int)))).bind _)=_/\_
 rw[hp,hq,e3,oy,e4,oy];show ∃c' b,((bM c4 ((p+1:Nat):Int)).bind _)=_/\_
 rw[e5,oy];show ∃c' b,((bN c5 ((p+1:Nat):Int)).bind _)=_/\_
 rw[e6,oy];show ∃c' b,((aa c6 6).bind _)=_/\_
 rw[e7',oy];show ∃c' b,((loop _ ((m:Int),c7.1,c7.2.1,c7.2.2,((q+1:Nat):Int),dn,0,0,0,0,0,[])).bind _)=_/\_
 rw[hd,oy];show ∃c' b,((aU (dc,dp,ds) 3).bind _)=_/\_
 rw[e8',oy];cases st with
 | false =>
  show ∃c' b,((aa c8 5).bind _)=_/\_;exact hlast c8 df w8 g4
 | true =>
  obtain⟨k1,x1,f1,u1⟩:=Ef w8;obtain⟨k2,x2,f2,u2,_⟩:=qq u1 ((p+1:Nat):Int);obtain⟨F,ok,f3,hF⟩:=Dh g4 1 x1 x2;show ∃c' b,((bq c8).bind _)=_/\_
  rw[f1,oy];show ∃c' b,((aa k1 ((p+1:Nat):Int)).bind _)=_/\_
  rw[f2,oy];show ∃c' b,((cr df 1 x1 x2).bind _)=_/\_
  rw[f3,oy];exact hlast k2 F u2 hF
theorem Hr {c:oL} (h:CW c):∃c' b,cu c=some (c',b)/\CW c'/\sG b/\pY b=true:=by
 obtain⟨c',b,h1,h2,h3,h4,_⟩:=Di h;exact⟨c',b,h1,h2,h3,h4⟩

noncomputable def y4 (b:oA) (c p:Int):Int:=(bw b c p).getD 0
def num (name:List Int) (n:Int):oC:=([1,3,1]++name,2,n,[],[])
def yP (r:oO) (c:Nat):Int:=match c with|0=>1|1=>r.2.1|_=>r.2.2
noncomputable def qL (b:oA) (c:Nat):List oC:=(List.range b.2.2.1.length).map λk=>num [2,((c+1:Nat):Int),((k+1:Nat):Int)] (y4 b ((c+1:Nat):Int) (k:Int))
def rN (b:oA) (c:Nat):List oC:=b.2.2.2.2.1.map λr=>num [3,((c+1:Nat):Int),r.1] (yP r c)
def xb (b:oA):List oC:=b.2.2.2.1.map λe=>num [4,1,e.1,e.2.1] (oB (e.2.2.1+1))
noncomputable def qJ (b:oA):List oC:=ue b++(List.range 4).flatMap (qL b)++(List.range 3).flatMap (rN b)++xb b
theorem zM {out:List oC} (name:List Int) (n i:Int) (h1:out.length<=900) (h2:name.length<=900):((aO n).bind λv=>(aC v name).bind λt=>(oX out [t]).bind λzs=>some (Sum.inl (oB (i+1),zs):(Int×List oC)⊕List oC))=some (Sum.inl (oB (i+1),out++[num name n])):=by
 unfold aO aC;rw[oy,oH (by show 3+name.length<=_;omega),oy,oy,oH (by show out.length+1<=_;omega),oy];rfl
theorem Jq {b:oA} (h:sG b) (hq:b.2.2.1.length=b.2.2.2.2.2.1.length) (h6:b.2.2.1.length<=6) (c:Nat) (out:List oC) (ho:out.length<=500):loop (λz=>bb b ((c+1:Nat):Int) z.1 z.2) (0,out)=some (out++qL b c):=by
 obtain⟨v,h1,rfl⟩:=oR (step:=λz:Int×List oC=>bb b ((c+1:Nat):Int) z.1 z.2) (λk z=>z.1=(k:Int)/\z.2=out++(List.range k).map λk=>num [2,((c+1:Nat):Int),((k+1:Nat):Int)] (y4 b ((c+1:Nat):Int) (k:Int))) b.2.2.1.length (λv=>v=out++qL b c)
  (λk z hk ⟨e1,e2⟩=>by
   obtain⟨i,l⟩:=z;simp only at e1 e2;subst e1;left;obtain⟨n,hn⟩:=Ji h ((c+1:Nat):Int) hk hq;have hv:y4 b ((c+1:Nat):Int) (k:Int)=n:=by unfold y4;rw[hn];rfl
   have hl:l.length<=900:=by rw[e2];simp;omega
   refine⟨(((k+1:Nat):Int),l++[num [2,((c+1:Nat):Int),((k+1:Nat):Int)] n]),?_,rfl,?_⟩
   · show bb b ((c+1:Nat):Int) (k:Int) l=_;unfold bb;rw[pr (by omega),cT,hn,oy,zM _ _ _ hl (by simp),oQ (by omega)]
   · show l++[num _ n]=_;rw[e2,range_succ,map_append,←append_assoc,List.map_singleton,hv])
  (λz ⟨e1,e2⟩=>by
   obtain⟨i,l⟩:=z;simp only at e1 e2;subst e1;refine⟨l,?_,e2⟩;show bb b ((c+1:Nat):Int) _ l=_
   unfold bb;rw[pb (by omega),cF]) (x:=(0,out)) ⟨rfl,by simp⟩
 exact h1
theorem II {b:oA} (h:sG b) (hq:b.2.2.1.length=b.2.2.2.2.2.1.length) (h6:b.2.2.1.length<=6) (out:List oC) (ho:out.length<=100):loop (λz=>bx b z.1 z.2) (1,out)=some (out++(List.range 4).flatMap (qL b)):=by
 have hg:∀c,(qL b c).length<=6:=λc=>by unfold qL;rw[length_map,List.length_range];exact h6
 obtain⟨v,h1,rfl⟩:=oR (step:=λz:Int×List oC=>bx b z.1 z.2) (λk z=>z.1=((k+1:Nat):Int)/\z.2=out++(List.range k).flatMap (qL b)/\z.2.length<=100+6*k) 4 (λv=>v=out++(List.range 4).flatMap (qL b))
  (λk z hk ⟨e1,e2,e3⟩=>by
   obtain⟨i,l⟩:=z;simp only at e1 e2 e3;subst e1;left;have hg':=hg k
   refine⟨(((k+1+1:Nat):Int),l++qL b k),?_,rfl,?_,by show (l++qL b k).length<=_;rw[length_append];omega⟩
   · show bx b ((k+1:Nat):Int) l=_;unfold bx;rw[dT (show ((k+1:Nat):Int)<=4 by omega),cT,Jq h hq h6 k l (by omega),oy,oQ (by omega)]
   · show l++qL b k=_;rw[e2,range_succ,List.flatMap_append,←append_assoc];simp)
  (λz ⟨e1,e2,e3⟩=>by
   obtain⟨i,l⟩:=z;simp only at e1 e2 e3;subst e1;exact⟨l,rfl,e2⟩) (x:=(1,out)) ⟨rfl,by simp,by show out.length<=_;omega⟩
 exact h1
theorem Ka {b:oA} (h6:b.2.2.2.2.1.length<=6) {c:Nat} (hc:c<3) (out:List oC) (ho:out.length<=500):loop (λz=>bc b ((c+1:Nat):Int) z.1 z.2) (0,out)=some (out++rN b c):=by
 obtain⟨v,h1,rfl⟩:=oR (step:=λz:Int×List oC=>bc b ((c+1:Nat):Int) z.1 z.2) (λk z=>z.1=(k:Int)/\z.2=out++(b.2.2.2.2.1.take k).map λr=>num [3,((c+1:Nat):Int),r.1] (yP r c)) b.2.2.2.2.1.length (λv=>v=out++rN b c)
  (λk z hk ⟨e1,e2⟩=>by
   obtain⟨i,l⟩:=z;simp only at e1 e2;subst e1;left;have hl:l.length<=900:=by rw[e2];simp;omega
   refine⟨(((k+1:Nat):Int),l++[num [3,((c+1:Nat):Int),b.2.2.2.2.1[k].1] (yP b.2.2.2.2.1[k] c)]),?_,rfl,?_⟩
   · show bc b ((c+1:Nat):Int) (k:Int) l=_;unfold bc;rw[pr (by omega),cT,oT hk,oy];generalize b.2.2.2.2.1[k]=r;have hw:oB (((c+1:Nat):Int)-1)=(c:Int):=by rw[pj (by omega) (by omega)];omega
     have hx:(ix [1,r.2.1,r.2.2].length (oB (((c+1:Nat):Int)-1))).bind (λj91=>([1,r.2.1,r.2.2][j91]?).bind λx92=>(aO x92).bind λt93=>(aC t93 [3,((c+1:Nat):Int),r.1]).bind λt98=>(oX l [t98]).bind λzs100=>some (Sum.inl (oB ((k:Int)+1),zs100):(Int×List oC)⊕List oC))=(aO (yP r c)).bind λt93=>(aC t93 [3,((c+1:Nat):Int),r.1]).bind λt98=>(oX l [t98]).bind λzs100=>some (Sum.inl (oB ((k:Int)+1),zs100)):=by
      rw[hw,tZ (show c<[1,r.2.1,r.2.2].length from hc),oy];rcases (show c=0\/c=1\/c=2 by omega)with rfl|rfl|rfl<;>rfl
     rw[hx,zM _ _ _ hl (by simp),oQ (by omega)]
   · show l++[num _ _]=_;rw[e2,take_add_one,List.getElem?_eq_getElem hk,map_append,←append_assoc];rfl)
  (λz ⟨e1,e2⟩=>by
   obtain⟨i,l⟩:=z;simp only at e1 e2;subst e1;rw[take_length]at e2;refine⟨l,?_,e2⟩;show bc b ((c+1:Nat):Int) _ l=_
   unfold bc;rw[pb (by omega),cF]) (x:=(0,out)) ⟨rfl,by simp⟩
 exact h1
theorem Jr {b:oA} (h6:b.2.2.2.2.1.length<=6) (out:List oC) (ho:out.length<=200):loop (λz=>bz b z.1 z.2) (1,out)=some (out++(List.range 3).flatMap (rN b)):=by
 have hg:∀c,(rN b c).length<=6:=λc=>by unfold rN;rw[length_map];exact h6
 obtain⟨v,h1,rfl⟩:=oR (step:=λz:Int×List oC=>bz b z.1 z.2) (λk z=>z.1=((k+1:Nat):Int)/\z.2=out++(List.range k).flatMap (rN b)/\z.2.length<=200+6*k) 3 (λv=>v=out++(List.range 3).flatMap (rN b))
  (λk z hk ⟨e1,e2,e3⟩=>by
   obtain⟨i,l⟩:=z;simp only at e1 e2 e3;subst e1;left;have hg':=hg k
   refine⟨(((k+1+1:Nat):Int),l++rN b k),?_,rfl,?_,by show (l++rN b k).length<=_;rw[length_append];omega⟩
   · show bz b ((k+1:Nat):Int) l=_;unfold bz;rw[dT (show ((k+1:Nat):Int)<=3 by omega),cT,Ka h6 hk l (by omega),oy,oQ (by omega)]
   · show l++rN b k=_;rw[e2,range_succ,List.flatMap_append,←append_assoc];simp)
  (λz ⟨e1,e2,e3⟩=>by
   obtain⟨i,l⟩:=z;simp only at e1 e2 e3;subst e1;exact⟨l,rfl,e2⟩) (x:=(1,out)) ⟨rfl,by simp,by show out.length<=_;omega⟩
 exact h1
theorem Kb {b:oA} (h12:b.2.2.2.1.length<=12) (out:List oC) (ho:out.length<=500):loop (λz=>aW b z.1 z.2) (0,out)=some (out++xb b):=by
 obtain⟨v,h1,rfl⟩:=oR (step:=λz:Int×List oC=>aW b z.1 z.2) (λk z=>z.1=(k:Int)/\z.2=out++(b.2.2.2.1.take k).map λe=>num [4,1,e.1,e.2.1] (oB (e.2.2.1+1))) b.2.2.2.1.length (λv=>v=out++xb b)
  (λk z hk ⟨e1,e2⟩=>by
   obtain⟨i,l⟩:=z;simp only at e1 e2;subst e1;left;have hl:l.length<=900:=by rw[e2];simp;omega
   refine⟨(((k+1:Nat):Int),l++[num [4,1,b.2.2.2.1[k].1,b.2.2.2.1[k].2.1] (oB (b.2.2.2.1[k].2.2.1+1))]),?_,rfl,?_⟩
   · show aW b (k:Int) l=_;unfold aW;rw[pr (by omega),cT,oT hk,oy,zM _ _ _ hl (by simp),oQ (by omega)]
   · show l++[num _ _]=_;rw[e2,take_add_one,List.getElem?_eq_getElem hk,map_append,←append_assoc];rfl)
  (λz ⟨e1,e2⟩=>by
   obtain⟨i,l⟩:=z;simp only at e1 e2;subst e1;rw[take_length]at e2;refine⟨l,?_,e2⟩;show aW b _ l=_
   unfold aW;rw[pb (by omega),cF]) (x:=(0,out)) ⟨rfl,by simp⟩
 exact h1
structure qe (b:oA):Prop where
 w:sG b
 ok:pY b=true
 p:∀x∈b.2.2.1,un x=true
 id:oE b.1 1 99=true
 name:b.2.1.length<=10
 n1:1<=b.2.2.1.length
 n6:b.2.2.1.length<=6
 f:th b.2.2.2.1=true
 v:rg (b.2.2.2.2.1,b.2.2.2.2.2.1) (b.2.2.1.length:Int)=true
 c:sF b=true
theorem Bn {b:oA} (h:sG b) (hb:pY b=true):qe b:=by
 have hb':=hb;unfold pY at hb;simp only[aT,Bool.not_eq_true',decide_eq_false_iff_not]at hb;obtain⟨h1,h2,h3,h4,h5,h6,h7⟩:=hb;refine⟨h,hb',λx hx=>?_,h2,by omega,?_,?_,h5,h6,h7⟩
 · obtain⟨k,hk,rfl⟩:=getElem_of_mem hx;cases hp:un b.2.2.1[k]with
   | true=>rfl
   | false =>
    have:=any_eq_false.1 h1 k (mem_range.2 hk);unfold wm at this;simp only[List.getElem?_eq_getElem hk,hp]at this;exact absurd rfl this
 · unfold oE at h4;simp only[aT,decide_eq_true_eq]at h4;omega
 · unfold oE at h4;simp only[aT,decide_eq_true_eq]at h4;omega
theorem qe.vt {b:oA} (h:qe b):VT (b.2.2.2.2.1,b.2.2.2.2.2.1) b.2.2.1.length:=⟨h.v,h.w.r⟩
theorem qe.f12 {b:oA} (h:qe b):b.2.2.2.1.length<=12:=by
 have hf:=h.f;unfold th at hf;simp only[aT,decide_eq_true_eq]at hf;omega
theorem Gm {b:oA} (h:qe b):bd b=some (qJ b):=by
 obtain⟨v1,v2,v3,v4⟩:=h.vt.len;have v3':b.2.2.2.2.2.1.length=b.2.2.1.length:=v3
 have v4':b.2.2.2.2.1.length<=6:=v4;have hp:((List.range 4).flatMap (qL b)).length<=24:=by
  have hg:∀c,(qL b c).length<=6:=λc=>by unfold qL;rw[length_map,List.length_range];exact h.n6
  have h0:=hg 0;have h1:=hg 1;have h2:=hg 2;have h3:=hg 3
  show (qL b 0++(qL b 1++(qL b 2++(qL b 3++[])))).length<=24;simp only[length_append,List.length_nil];omega
 have hr:((List.range 3).flatMap (rN b)).length<=18:=by
  have hg:∀c,(rN b c).length<=6:=λc=>by unfold rN;rw[length_map];exact v4'
  have h0:=hg 0;have h1:=hg 1;have h2:=hg 2
  show (rN b 0++(rN b 1++(rN b 2++[]))).length<=18;simp only[length_append,List.length_nil];omega
 have k5:(ue b).length=5:=rfl;rw[It h.w,h.ok,Bool.not_true,cF];unfold zf;rw[II h.w v3'.symm h.n6 (ue b) (by omega),oy,Jr v4' _ (by rw[length_append];omega),oy,Kb h.f12 _ (by rw[length_append,length_append];omega),oy];rfl

theorem zN {α:Type} {R:α->α->Prop} (tr:∀a b c,R a b->R b c->R a c) {l:List α} (h:∀k (hk:k+1<l.length),R l[k] l[k+1]):l.Pairwise R:=by
 rw[pairwise_iff_getElem];intro i j hi hj hij
 induction j with
 | zero=>omega
 | succ j ih =>
  by_cases e:i=j
  · subst e;exact h i hj
  · exact tr _ _ _ (ih (by omega) (by omega)) (h j hj)
def zO (g c:Int) (x:oC):Prop:=∃t,x.1=1::3::1::g::c::t
theorem uX {g c g' c':Int} {x y:oC} (hx:zO g c x) (hy:zO g' c' y) (h:g<g'\/(g=g'/\c<c')):x.1<y.1:=by
 obtain⟨t,ht⟩:=hx;obtain⟨s,hs⟩:=hy;rw[ht,hs];simp only[cons_lt_cons_iff,Int.lt_irrefl,false_or,true_and];rcases h with h|⟨h,k⟩
 · exact .inl h
 · exact .inr ⟨h,.inl k⟩
theorem vH {b:oA} {c:Nat} {x:oC} (h:x∈qL b c):zO 2 ((c+1:Nat):Int) x:=by
 unfold qL at h;obtain⟨k,_,rfl⟩:=mem_map.1 h;exact⟨_,rfl⟩
theorem wP {b:oA} {c:Nat} {x:oC} (h:x∈rN b c):zO 3 ((c+1:Nat):Int) x:=by
 unfold rN at h;obtain⟨k,_,rfl⟩:=mem_map.1 h;exact⟨_,rfl⟩
theorem yQ {b:oA} {x:oC} (h:x∈xb b):zO 4 1 x:=by
 unfold xb at h;obtain⟨k,_,rfl⟩:=mem_map.1 h;exact⟨_,rfl⟩
theorem yR {b:oA} {x:oC} (h:x∈ue b):∃c,zO 1 c x:=by
 unfold ue at h;simp only[mem_cons,not_mem_nil,or_false]at h;rcases h with rfl|rfl|rfl|rfl|rfl<;>exact⟨_,_,rfl⟩
theorem Eg (b:oA) (c:Nat):(qL b c).Pairwise λx y=>x.1<y.1:=by
 unfold qL;rw[List.pairwise_map];refine List.Pairwise.imp ?_ List.pairwise_lt_range;intro i j h;show (1::3::1::2::((c+1:Nat):Int)::((i+1:Nat):Int)::[])<(1::3::1::2::((c+1:Nat):Int)::((j+1:Nat):Int)::[])
 simp only[cons_lt_cons_iff,Int.lt_irrefl,false_or,true_and];exact .inl (by omega)
theorem Bo {b:oA} (h:qe b):b.2.2.2.2.1.Pairwise λr s=>r.1<s.1:=by
 refine zN (R:=λ(r s:oO)=>r.1<s.1) (λ_ _ _ h k=>Int.lt_trans h k) λk hk=>?_;have hv:=h.v
 unfold rg at hv;simp only[aT,Bool.not_eq_true']at hv;have hx:=any_eq_false.1 hv.2.1 (k+1) (mem_range.2 hk)
 unfold ud at hx;simp only[List.getElem?_eq_getElem hk,Nat.add_sub_cancel,List.getElem?_eq_getElem (show k<b.2.2.2.2.1.length by omega),Bool.or_eq_true,aT,decide_eq_true_eq,not_or,not_and]at hx;have:=hx.2.1 (by omega)
 omega
theorem Fo {b:oA} (h:qe b) (c:Nat):(rN b c).Pairwise λx y=>x.1<y.1:=by
 unfold rN;rw[List.pairwise_map];refine List.Pairwise.imp ?_ (Bo h);intro r s h;show (1::3::1::3::((c+1:Nat):Int)::r.1::[])<(1::3::1::3::((c+1:Nat):Int)::s.1::[])
 simp only[cons_lt_cons_iff,Int.lt_irrefl,false_or,true_and];exact .inl h
theorem Gn {b:oA} (h:qe b):b.2.2.2.1.Pairwise lt:=by
 refine zN (R:=lt) (λ_ _ _=>lt_trans) λk hk=>?_;have hv:=h.f
 unfold th at hv;simp only[aT,Bool.not_eq_true']at hv;have hx:=any_eq_false.1 hv.1 (k+1) (mem_range.2 hk)
 unfold tk at hx;simp only[List.getElem?_eq_getElem hk,Nat.add_sub_cancel,List.getElem?_eq_getElem (show k<b.2.2.2.1.length by omega),Bool.or_eq_true,aT,decide_eq_true_eq,not_or,not_and,Bool.not_eq_true',Bool.not_eq_false]at hx;have hp:=hx.2 (by omega)
 unfold uo at hp;simp only[Bool.or_eq_true,aT,decide_eq_true_eq,beq_iff_eq]at hp;unfold lt;omega
theorem Gp {b:oA} (h:qe b):(xb b).Pairwise λx y=>x.1<y.1:=by
 unfold xb;rw[List.pairwise_map];refine List.Pairwise.imp ?_ (Gn h);intro r s h;show (1::3::1::4::1::r.1::r.2.1::[])<(1::3::1::4::1::s.1::s.2.1::[])
 unfold lt at h;simp only[cons_lt_cons_iff,Int.lt_irrefl,false_or,true_and];rcases h with h|⟨h,k⟩
 · exact .inl h
 · exact .inr ⟨h,.inl k⟩
theorem Fp (b:oA):(ue b).Pairwise λx y=>x.1<y.1:=by
 unfold ue;simp only[List.pairwise_cons,mem_cons,not_mem_nil,or_false,forall_eq_or_imp,forall_eq,List.Pairwise.nil,and_true,false_imp_iff,implies_true,cons_lt_cons_iff,Int.lt_irrefl,false_or,true_and];refine⟨⟨.inl (by decide),.inl (by decide),.inl (by decide),.inl (by decide)⟩,⟨.inl (by decide),.inl (by decide),.inl (by decide)⟩,⟨.inl (by decide),.inl (by decide)⟩,.inl (by decide)⟩
theorem Js {α:Type} (f:Nat->List α):(List.range 4).flatMap f=f 0++(f 1++(f 2++(f 3++[]))):=rfl
theorem Jt {α:Type} (f:Nat->List α):(List.range 3).flatMap f=f 0++(f 1++(f 2++[])):=rfl
theorem Az {n:Nat} {f:Nat->List oC} {g:Int} (hp:∀c,(f c).Pairwise λx y=>x.1<y.1) (hh:∀c x,x∈f c->zO g ((c+1:Nat):Int) x):((List.range n).flatMap f).Pairwise λx y=>x.1<y.1:=by
 induction n with
 | zero=>exact List.Pairwise.nil
 | succ n ih =>
  rw[range_succ,List.flatMap_append,pairwise_append];refine⟨ih,by simp;exact hp n,λx hx y hy=>?_⟩;obtain⟨c,hc,hx⟩:=mem_flatMap.1 hx;have hc:=mem_range.1 hc
  simp at hy;exact uX (hh c x hx) (hh n y hy) (.inr ⟨rfl,by omega⟩)
theorem Gq {b:oA} (h:qe b):(qJ b).Pairwise λx y=>x.1<y.1:=by
 unfold qJ;rw[pairwise_append,pairwise_append,pairwise_append];refine⟨⟨⟨Fp b,Az (Eg b) (λc x=>vH),λx hx y hy=>?_⟩,Az (Fo h) (λc x=>wP),λx hx y hy=>?_⟩,Gp h,λx hx y hy=>?_⟩
 · obtain⟨c,hc⟩:=yR hx;obtain⟨d,_,hy⟩:=mem_flatMap.1 hy;exact uX hc (vH hy) (.inl (by decide))
 · obtain⟨d,_,hy⟩:=mem_flatMap.1 hy;rcases mem_append.1 hx with hx|hx
   · obtain⟨c,hc⟩:=yR hx;exact uX hc (wP hy) (.inl (by decide))
   · obtain⟨e,_,hx⟩:=mem_flatMap.1 hx;exact uX (vH hx) (wP hy) (.inl (by decide))
 · rcases mem_append.1 hx with hx|hx
   · rcases mem_append.1 hx with hx|hx
     · obtain⟨c,hc⟩:=yR hx;exact uX hc (yQ hy) (.inl (by decide))
     · obtain⟨e,_,hx⟩:=mem_flatMap.1 hx;exact uX (vH hx) (yQ hy) (.inl (by decide))
   · obtain⟨e,_,hx⟩:=mem_flatMap.1 hx;exact uX (wP hx) (yQ hy) (.inl (by decide))
theorem IJ (p s t:List Int) {x y:Int} (h:x≠y):(p++x::s<p++y::t)↔x<y:=by
 induction p with
 | nil =>
  simp only[nil_append,cons_lt_cons_iff];exact⟨λk=>k.elim id λk=>absurd k.1 h,.inl⟩
 | cons a p ih=>simp only[List.cons_append,cons_lt_cons_iff,ih,Int.lt_irrefl,false_or,true_and]
theorem Hs (p:List Int) {s:List Int} (h:s≠[]):p<p++s:=by
 induction p with
 | nil=>cases s with
  | nil=>exact absurd rfl h
  | cons a s=>exact List.nil_lt_cons a s
 | cons a p ih=>simp only[List.cons_append,cons_lt_cons_iff,Int.lt_irrefl,false_or,true_and];exact ih
theorem Ht (p s:List Int):¬p++s<p:=by
 induction p with
 | nil=>exact List.not_lt_nil s
 | cons a p ih=>simp only[List.cons_append,cons_lt_cons_iff,Int.lt_irrefl,false_or,true_and];exact ih
theorem GT {a b:List Int} (h:b.length<9223372036854775807):dR a b=some (decide (a<b)):=by
 have hsplit:∀k,a.take k=b.take k->∀(ha:k<a.length) (hb:k<b.length),a=a.take k++a[k]::a.drop (k+1)/\b=a.take k++b[k]::b.drop (k+1):=by
  intro k e ha hb;refine⟨?_,?_⟩
  · rw[←List.drop_eq_getElem_cons ha,take_append_drop]
  · rw[e,←List.drop_eq_getElem_cons hb,take_append_drop]
 obtain⟨v,h1,h2⟩:=oR (step:=λz=>cQ a b z) (λk i=>i=(k:Int)/\a.take k=b.take k) (min a.length b.length) (λv=>(v=.inr (decide (a<b)))\/(v=.inl ()/\decide ((a.length:Int)<(b.length:Int))=decide (a<b)))
  (λk i hk ⟨e,ht⟩=>by
   subst e;have ha:k<a.length:=by omega
   have hb:k<b.length:=by omega
   have hs:cQ a b (k:Int)=cond (a[k] != b[k]) (some (.inr (.inr (decide (a[k]<b[k]))))) (some (.inl ((k+1:Nat):Int))):=by
    unfold cQ;rw[pr (show (k:Int)<(a.length:Int) by omega),pr (show (k:Int)<(b.length:Int) by omega),cT,oy,cT,oT ha,oy,oT hb,oy,oQ (by omega),oy,oy]
   obtain⟨s1,s2⟩:=hsplit k ht ha hb;by_cases hne:a[k]=b[k]
   · refine .inl ⟨_,by rw[hs,show (a[k] != b[k])=false by simp[hne]];rfl,rfl,?_⟩;rw[take_add_one,take_add_one,List.getElem?_eq_getElem ha,List.getElem?_eq_getElem hb,ht,hne]
   · refine .inr ⟨_,by rw[hs,show (a[k] != b[k])=true from bne_iff_ne.2 hne];rfl,.inl ?_⟩
     congr 1
     apply decide_eq_decide.2;have:=IJ (a.take k) (a.drop (k+1)) (b.drop (k+1)) hne
     rw[←s1,←s2]at this;exact this.symm)
  (λi ⟨e,ht⟩=>by
   subst e;refine⟨.inl (),?_,.inr ⟨rfl,?_⟩⟩
   · show cQ a b _=_;unfold cQ;by_cases h:a.length<=b.length
     · rw[Nat.min_eq_left h,pb (by omega)];rfl
     · rw[Nat.min_eq_right (by omega),pr (by omega),pb (show ¬(b.length:Int)<(b.length:Int) by omega)];rfl
   · apply decide_eq_decide.2;by_cases h:a.length<=b.length
     · rw[Nat.min_eq_left h,take_length]at ht;have hb:b=a++b.drop a.length:=by
        have:=take_append_drop a.length b;rw[←ht]at this;exact this.symm
       constructor
       · intro hlt;have hd:b.drop a.length≠[]:=by
          intro h0;have:=congrArg List.length h0
          rw[List.length_drop]at this;simp at this;omega
         have:=Hs a hd;rw[←hb]at this;exact this
       · intro hlt;by_cases he:a.length=b.length
         · have hd:b.drop a.length=[]:=List.drop_eq_nil_of_le (by omega);rw[hd,List.append_nil]at hb;rw[hb]at hlt;exact absurd hlt (List.lt_irrefl _)
         · omega
     · rw[Nat.min_eq_right (by omega),take_length]at ht;have ha:a=b++a.drop b.length:=by
        have:=take_append_drop b.length a;rw[ht]at this;exact this.symm
       constructor
       · intro hlt;omega
       · intro hlt;have:=Ht b (a.drop b.length)
         rw[←ha]at this;exact absurd hlt this) (x:=0) ⟨rfl,by simp⟩
 unfold dR;rw[h1,oy];rcases h2 with rfl|⟨rfl,h2⟩
 · rfl
 · show some (decide _)=_;rw[h2]

theorem uL {a b:List Int} (h:b.length<9223372036854775807):au a b=some (a==b):=by
 unfold au;by_cases hl:a.length=b.length
 · have e:((a.length:Int) != (b.length:Int))=false:=by rw[hl];simp
   rw[e,cF];obtain⟨v,h1,rfl⟩:=oR (step:=λz=>cG a b z) (λk i=>i=(k:Int)/\a.take k=b.take k) a.length (λv=>v=cond (a==b) (.inl ()) (.inr false))
    (λk i hk ⟨e,ht⟩=>by
     subst e;have hb:k<b.length:=by omega
     have hs:cG a b (k:Int)=cond (a[k] != b[k]) (some (.inr (.inr false))) (some (.inl ((k+1:Nat):Int))):=by
      unfold cG;rw[pr (by omega),cT,oT hk,oy,oT hb,oy,oQ (by omega)]
     by_cases hne:a[k]=b[k]
     · refine .inl ⟨_,by rw[hs,show (a[k] != b[k])=false by simp[hne]];rfl,rfl,?_⟩;rw[take_add_one,take_add_one,List.getElem?_eq_getElem hk,List.getElem?_eq_getElem hb,ht,hne]
     · refine .inr ⟨_,by rw[hs,show (a[k] != b[k])=true from bne_iff_ne.2 hne];rfl,?_⟩;have:(a==b)=false:=by
        apply beq_eq_false_iff_ne.2;intro hab;subst hab;exact hne rfl
       rw[this];rfl)
    (λi ⟨e,ht⟩=>by
     subst e;have hab:a=b:=by
      rw[take_length,List.take_of_length_le (by omega)]at ht;exact ht
     exact⟨.inl (),by show cG a b _=_;unfold cG;rw[pb (by omega),cF],by rw[show (a==b)=true from beq_iff_eq.2 hab];rfl⟩) (x:=0) ⟨rfl,by simp⟩
   rw[h1,oy];cases (a==b)<;>rfl
 · have e:((a.length:Int) != (b.length:Int))=true:=by simp;omega
   have hne:(a==b)=false:=beq_eq_false_iff_ne.2 λh=>hl (by rw[h]);rw[e,cT,hne]
theorem IK {v:rm} (h:v.2.2.2.length<9223372036854775807):aA v v=some true:=by
 unfold aA;rw[uL h];simp
structure Nm (o:List Int):Prop where
 n1:1<=o.length
 n10:o.length<=10
 e:∀x∈o,oE x 0 100000=true
theorem Nm.ok {o:List Int} (h:Nm o):ak o=some true:=by
 have h10:=h.n10;have h1:=h.n1
 unfold ak;obtain⟨v,e,rfl⟩:=oR (step:=λz=>aI o z) (λk i=>i=(k:Int)) o.length (λv=>v=.inl ())
  (λk i hk e=>by
   subst e;refine .inl ⟨((k+1:Nat):Int),?_,rfl⟩;show aI o (k:Int)=_
   unfold aI;rw[pr (by omega),cT,oT hk,oy,s4,oy,h.e _ (getElem_mem hk),oQ (by omega)];rfl)
  (λi e=>by
   subst e;exact⟨.inl (),by show aI o _=_;unfold aI;rw[pb (by omega),cF],rfl⟩) (x:=0) rfl
 rw[e,oy];show ((ae (o.length:Int) 1 10).bind λt=>some t)=_
 rw[s4,oy];unfold oE;rw[dT (by omega),dT (by omega)];rfl
inductive Vl:rm->Prop
 | num {n:Int} (h:oE n (-2147483648) 2147483647=true):Vl (2,n,[],[])
 | word {s:List UInt8} (h:s.length<=20):Vl (4,0,s,[])
theorem Vl.ok {v:rm} (h:Vl v):am v=some true:=by
 cases h with
 | num h =>
  unfold am ax aA;simp only[s4,h,oy,uL (show ([]:List Int).length<9223372036854775807 by decide)];simp
 | word h =>
  rename_i s;have hd:decide ((s.length:Int)<=20)=true:=dT (by omega)
  unfold am aA;simp only[hd,oy,uL (show ([]:List Int).length<9223372036854775807 by decide)];simp
theorem Vl.k {v:rm} (h:Vl v):(v.1==128)=false:=by cases h<;>rfl
theorem Vl.o {v:rm} (h:Vl v):v.2.2.2=[]:=by cases h<;>rfl
theorem yS {n:Int} (h1:0<=n) (h2:n<=2147483647):oE n (-2147483648) 2147483647=true:=by unfold oE;rw[dT (by omega),dT (by omega)];rfl
theorem wn {n a c:Int} (h1:a<=n) (h2:n<=c):oE n a c=true:=by unfold oE;rw[dT (by omega),dT (by omega)];rfl
theorem yi {n a c:Int} (h:oE n a c=true):a<=n/\n<=c:=by
 unfold oE at h;simp only[aT,decide_eq_true_eq]at h;exact h
theorem IL {v:pk} (hn:v.1.length<9223372036854775807) {id r:Int} (h:al v id=some r) (h0:¬r<0):∃x∈v.1,x.1=id:=by
 unfold al at h;obtain⟨b,h1,h2⟩:=oR (β:=Unit⊕Int) (step:=λz=>aB v id z) (λk i=>i=(k:Int)) v.1.length (λb=>∀r,b=.inr r->∃x∈v.1,x.1=id)
  (λk i hk h=>by
   subst h;unfold aB;rw[pr (by omega),cT,oT hk,oy];cases hb:(v.1[k].1==id)with
   | true=>exact .inr ⟨_,rfl,λr hr=>⟨_,getElem_mem hk,eq_of_beq hb⟩⟩
   | false=>exact .inl ⟨_,rfl,oQ (by omega)⟩)
  (λi h=>by
   subst h;unfold aB;rw[pb (by omega)];exact⟨_,rfl,λr hr=>by cases hr⟩) (x:=0) rfl
 rw[h1,oy]at h;cases b with
 | inl _=>cases h;exact absurd (by decide) h0
 | inr r'=>exact h2 r' rfl
theorem Hu {id:Int} {l:List Pt} {p v:Int} (h:aK id l p=some v):1<=v/\v<=4:=by
 unfold aK at h;rw[s4,oy]at h;have key:∀(o:Option Bool) (f:Bool->Option Int),(∀t x,f t=some x->1<=x/\x<=4)->o.bind f=some v->1<=v/\v<=4:=by
  intro o f hf h;cases o with
  | none=>cases h
  | some t=>exact hf t v h
 refine key _ _ (λt x hx=>?_) h;cases t with
 | true=>cases hx;decide
 | false =>
  rw[cF]at hx;cases hbv:ba id l with
  | none=>rw[hbv]at hx;cases hx
  | some w =>
   rw[hbv,oy]at hx;cases hw:w.2==p with
   | true=>rw[hw]at hx;cases hx;decide
   | false =>
    rw[hw,cF]at hx;cases ha:at? l p with
    | none=>rw[ha]at hx;cases hx
    | some y =>
     rw[ha,oy]at hx
     revert hx
     generalize (cond (!y.2.2.1) _ _:Option Bool)=o;intro hx;cases o with
     | none=>cases hx
     | some t=>cases t<;>(cases hx;decide)
theorem Dj {b:oA} (h:qe b) {r:oO} (hr:r∈b.2.2.2.2.1):(1<=r.1/\r.1<=99)/\(0<=r.2.1/\r.2.1<=63)/\(0<=r.2.2/\r.2.2<=63):=by
 obtain⟨k,hk,rfl⟩:=getElem_of_mem hr;have hv:=h.v
 unfold rg at hv;simp only[aT,Bool.not_eq_true',Bool.or_eq_false_iff,Bool.not_eq_false']at hv;have hx:=any_eq_false.1 hv.2.1 k (mem_range.2 hk)
 unfold ud at hx;simp only[List.getElem?_eq_getElem hk,Bool.or_eq_true,Bool.not_eq_true',not_or,Bool.not_eq_false]at hx;obtain⟨x1,_,x3,x4⟩:=hx;have ht:=BC (i:=(b.2.2.1.length:Int)) hv.1.1
 have y1:=yi x1;have y3:=yi x3
 have x4:(wQ .i64 b.2.2.2.2.1[k].2.2 b.2.2.2.2.1[k].2.1 != 0)=false:=by simpa using x4
 refine⟨y1,by omega,?_⟩;have hI:=h.w.r _ (getElem_mem hk)
 have hband:=yi (Dd hI.1 hI.2 x3 ht.2 (by rw[Bl hI.1 hI.2];exact x4));omega
theorem Hv {b:oA} (h:qe b) {x:Int} (hx:x∈b.2.2.2.2.2.1):1<=x/\x<=99:=by
 obtain⟨k,hk,rfl⟩:=getElem_of_mem hx;have hv:=h.v
 have hn:b.2.2.2.2.1.length<9223372036854775807:=h.w.v;unfold rg at hv;simp only[aT,Bool.not_eq_true']at hv;have hq:=any_eq_false.1 hv.2.2 k (mem_range.2 hk)
 unfold vG at hq;simp only[List.getElem?_eq_getElem hk]at hq;obtain⟨r,hr⟩:=Fi (v:=(b.2.2.2.2.1,b.2.2.2.2.2.1)) hn b.2.2.2.2.2.1[k];rw[hr]at hq;simp only[decide_eq_true_eq]at hq;obtain⟨y,hy,e⟩:=IL (v:=(b.2.2.2.2.1,b.2.2.2.2.2.1)) hn hr hq;have:=(Dj h (r:=y) hy).1
 rw[e]at this;exact this
theorem Gr {b:oA} (h:qe b) (c:Int) {k:Nat} (hk:k<b.2.2.1.length):0<=y4 b c (k:Int)/\y4 b c (k:Int)<=1000:=by
 have v3:b.2.2.2.2.2.1.length=b.2.2.1.length:=h.vt.len.2.2.1;have hkq:k<b.2.2.2.2.2.1.length:=by omega
 obtain⟨r,hr⟩:=E8 b.1 h.w.p (k:Int);have hr2:=Hu hr
 have hp:=h.p _ (getElem_mem hk);unfold un at hp;simp only[aT]at hp;have hc:=yi hp.1
 have hq:=Hv h (getElem_mem hkq);unfold y4 bw dO;rw[oT hk,oT hkq,hr];simp only[oy];cases (c==1)with
 | true =>
  cases b.2.2.1[k].1 with
  | true=>show (0:Int)<=1/\(1:Int)<=1000;decide
  | false=>show (0:Int)<=0/\(0:Int)<=1000;decide
 | false =>
  cases (c==2)with
  | true=>show 0<=b.2.2.1[k].2.1/\b.2.2.1[k].2.1<=1000;omega
  | false =>
   cases (c==3)with
   | true=>show 0<=r/\r<=1000;omega
   | false=>show 0<=b.2.2.2.2.2.1[k]/\b.2.2.2.2.2.1[k]<=1000;omega
theorem IM {b:oA} (h:qe b) {e:oG} (he:e∈b.2.2.2.1):(1<=e.1/\e.1<=99)/\(1<=e.2.1/\e.2.1<=9999)/\(0<=e.2.2.1/\e.2.2.1<=7):=by
 obtain⟨k,hk,rfl⟩:=getElem_of_mem he;have hv:=h.f
 unfold th at hv;simp only[aT,Bool.not_eq_true']at hv;have hx:=any_eq_false.1 hv.1 k (mem_range.2 hk)
 unfold tk at hx;simp only[List.getElem?_eq_getElem hk,Bool.or_eq_true,Bool.not_eq_true',not_or,Bool.not_eq_false]at hx;have hf:=hx.1
 unfold rz at hf;simp only[aT]at hf;exact⟨yi hf.1,yi hf.2.1,yi hf.2.2.1⟩
theorem Fq {b:oA} (h:qe b):(0<=b.2.2.2.2.2.2.1/\b.2.2.2.2.2.2.1<=1000000)/\(0<=b.2.2.2.2.2.2.2.1/\b.2.2.2.2.2.2.2.1<=1000000)/\(0<=b.2.2.2.2.2.2.2.2.1/\b.2.2.2.2.2.2.2.2.1<=1000000)/\(0<=b.2.2.2.2.2.2.2.2.2.1/\b.2.2.2.2.2.2.2.2.2.1<=1000000)/\(0<=b.2.2.2.2.2.2.2.2.2.2/\b.2.2.2.2.2.2.2.2.2.2<=1000000):=by
 have hc:=h.c;unfold sF at hc;simp only[aT]at hc;exact⟨yi hc.1,yi hc.2.1,yi hc.2.2.1,yi hc.2.2.2.1,yi hc.2.2.2.2⟩
theorem Dk {a b:Int} (ha:0<=a/\a<=100000) (hb:0<=b/\b<=100000):Nm [1,3,1,a,b]:=⟨by simp,by simp,λx hx=>by
 simp only[mem_cons,not_mem_nil,or_false]at hx;rcases hx with rfl|rfl|rfl|rfl|rfl
 · decide
 · decide
 · decide
 · exact wn ha.1 ha.2
 · exact wn hb.1 hb.2⟩
theorem GU {a b c:Int} (ha:0<=a/\a<=100000) (hb:0<=b/\b<=100000) (hc:0<=c/\c<=100000):Nm [1,3,1,a,b,c]:=⟨by simp,by simp,λx hx=>by
 simp only[mem_cons,not_mem_nil,or_false]at hx;rcases hx with rfl|rfl|rfl|rfl|rfl|rfl
 · decide
 · decide
 · decide
 · exact wn ha.1 ha.2
 · exact wn hb.1 hb.2
 · exact wn hc.1 hc.2⟩
theorem JJ {a b c d:Int} (ha:0<=a/\a<=100000) (hb:0<=b/\b<=100000) (hc:0<=c/\c<=100000) (hd:0<=d/\d<=100000):Nm [1,3,1,a,b,c,d]:=⟨by simp,by simp,λx hx=>by
 simp only[mem_cons,not_mem_nil,or_false]at hx;rcases hx with rfl|rfl|rfl|rfl|rfl|rfl|rfl
 · decide
 · decide
 · decide
 · exact wn ha.1 ha.2
 · exact wn hb.1 hb.2
 · exact wn hc.1 hc.2
 · exact wn hd.1 hd.2⟩
theorem uY {b:oA} (h:qe b):∀x∈qJ b,Nm x.1/\Vl x.2:=by
 intro x hx;obtain⟨t1,t2,t3,t4,_⟩:=Fq h;have hn6:=h.n6
 unfold qJ at hx;simp only[mem_append]at hx;rcases hx with ((hx|hx)|hx)|hx
 · unfold ue at hx;simp only[mem_cons,not_mem_nil,or_false]at hx;have hname:=h.name
   rcases hx with rfl|rfl|rfl|rfl|rfl
   · exact⟨Dk (by decide) (by decide),.word (by omega)⟩
   · exact⟨Dk (by decide) (by decide),.num (yS t1.1 (by omega))⟩
   · exact⟨Dk (by decide) (by decide),.num (yS t2.1 (by omega))⟩
   · exact⟨Dk (by decide) (by decide),.num (yS t3.1 (by omega))⟩
   · exact⟨Dk (by decide) (by decide),.num (yS t4.1 (by omega))⟩
 · obtain⟨c,hc,hx⟩:=mem_flatMap.1 hx;have hc:=mem_range.1 hc
   unfold qL at hx;obtain⟨k,hk,rfl⟩:=mem_map.1 hx;have hk:=mem_range.1 hk
   have hp:=Gr h ((c+1:Nat):Int) hk;exact⟨GU (by decide) (by omega) (by omega),.num (yS hp.1 (by omega))⟩
 · obtain⟨c,hc,hx⟩:=mem_flatMap.1 hx;have hc:=mem_range.1 hc
   unfold rN at hx;obtain⟨r,hr,rfl⟩:=mem_map.1 hx;obtain⟨r1,r2,r3⟩:=Dj h hr;refine⟨GU (by decide) (by omega) (by omega),.num ?_⟩;unfold yP;split
   · decide
   · exact yS r2.1 (by omega)
   · exact yS r3.1 (by omega)
 · unfold xb at hx;obtain⟨e,he,rfl⟩:=mem_map.1 hx;obtain⟨e1,e2,e3⟩:=IM h he;refine⟨JJ (by decide) (by decide) (by omega) (by omega),.num ?_⟩;rw[pj (by omega) (by omega)];exact yS (by omega) (by omega)
theorem Dl {b:oA} (h:qe b):(qJ b).length=5+4*b.2.2.1.length+3*b.2.2.2.2.1.length+b.2.2.2.1.length:=by
 have hp:∀c,(qL b c).length=b.2.2.1.length:=λc=>by unfold qL;rw[length_map,List.length_range]
 have hr:∀c,(rN b c).length=b.2.2.2.2.1.length:=λc=>by unfold rN;rw[length_map]
 have hf:(xb b).length=b.2.2.2.1.length:=by unfold xb;rw[length_map]
 have k5:(ue b).length=5:=rfl;unfold qJ;rw[Js,Jt];simp only[length_append,List.length_nil,hp,hr,hf,k5];omega
theorem Cu {b:oA} (h:qe b):(qJ b).length<=59:=by
 have h1:=Dl h;have h2:=h.n6
 have h3:b.2.2.2.2.1.length<=6:=h.vt.len.2.2.2;have h4:=h.f12
 omega
theorem Kc {b:oA} (h:qe b) {o:List Int} (ho:o.length<9223372036854775807):∃v,bA b o=some v/\((∃x∈qJ b,x.1=o/\v=x.2)\/((∀x∈qJ b,x.1≠o)/\v=(128,0,[],[]))):=by
 have hle:=Cu h;obtain⟨v,h1,h2⟩:=oR (step:=λz:Int×Int×Int×List UInt8×List Int=>aX o (qJ b) z.1 z.2.1 z.2.2.1 z.2.2.2.1 z.2.2.2.2) (λk z=>z=((k:Int),0,0,[],[])/\∀x∈(qJ b).take k,x.1≠o) (qJ b).length (λv=>(∃x∈qJ b,x.1=o/\v=.inr x.2)\/((∀x∈qJ b,x.1≠o)/\∃u,v=.inl u))
  (λk z hk ⟨e,hx⟩=>by
   subst e;have hs:aX o (qJ b) (k:Int) 0 0 [] []=cond ((qJ b)[k].1==o) (some (.inr (.inr (qJ b)[k].2))) (some (.inl (((k+1:Nat):Int),0,0,[],[]))):=by
    unfold aX;rw[pr (by omega),cT,oT hk,oy,uL ho,oy,oQ (by omega)]
   show (∃y,aX o (qJ b) (k:Int) 0 0 [] []=_/\_)\/(∃v,aX o (qJ b) (k:Int) 0 0 [] []=_/\_);rw[hs];cases hb:((qJ b)[k].1==o)with
   | true=>exact .inr ⟨_,rfl,.inl ⟨_,getElem_mem hk,eq_of_beq hb,rfl⟩⟩
   | false =>
    refine .inl ⟨_,rfl,rfl,λx hx'=>?_⟩;rw[take_add_one,List.getElem?_eq_getElem hk,mem_append]at hx';rcases hx' with hx'|hx'
    · exact hx x hx'
    · simp at hx';subst hx';exact beq_eq_false_iff_ne.1 hb)
  (λz ⟨e,hx⟩=>by
   subst e;rw[take_length]at hx;refine⟨.inl (0,0,[],[]),?_,.inr ⟨hx,_,rfl⟩⟩;show aX o (qJ b) _ 0 0 [] []=_
   unfold aX;rw[pb (by omega),cF]) (x:=(0,0,0,[],[])) ⟨rfl,by simp⟩
 unfold bA;rw[Gm h,oy,h1,oy];rcases h2 with ⟨x,hx,e,rfl⟩|⟨hx,u,rfl⟩
 · exact⟨_,rfl,.inl ⟨x,hx,e,rfl⟩⟩
 · exact⟨_,rfl,.inr ⟨hx,rfl⟩⟩

theorem IN {c:oL} (h:CW c):∃c' o,av c=some (c',o)/\CW c'/\Nm o:=by
 obtain⟨c0,m,e0,w0,hm⟩:=qr h (n:=6) (by decide);have e0':aa c 6=some (c0,(m:Int)):=e0
 obtain⟨d,hd,g1,g2,g3⟩:=oR (step:=λz:Int×List Int×Int×Int×List Int=>cw z.1 z.2.1 z.2.2.1 z.2.2.2.1 z.2.2.2.2) (λk z=>z.1=((m+1:Nat):Int)-(k:Int)/\CW (z.2.1,z.2.2.1,z.2.2.2.1)/\z.2.2.2.2.length=k/\∀x∈z.2.2.2.2,oE x 0 100000=true) (m+1) (λd=>CW (d.1,d.2.1,d.2.2.1)/\d.2.2.2.length=m+1/\∀x∈d.2.2.2,oE x 0 100000=true)
  (λk z hk ⟨a1,a2,a3,a4⟩=>by
   obtain⟨i,x,y,s,l⟩:=z;simp only at a1 a2 a3 a4;left;show ∃y',cw i x y s l=_/\_
   unfold cw;have hi:decide (i>0)=true:=dT (by omega)
   have hw:oB (i-1)=((m+1:Nat):Int)-((k+1:Nat):Int):=by rw[pj (by omega) (by omega)];omega
   obtain⟨c1,r1,e1,w1,b1⟩:=rM a2 (l:=[0,1,2,3,127,128,16384,100000]) (by decide);have hr:oE r1 0 100000=true:=by
    have:∀x∈([0,1,2,3,127,128,16384,100000]:List Int),oE x 0 100000=true:=by decide
    exact this r1 b1
   rw[hi,cT,e1,oy];show ∃y',((oX l [r1]).bind _)=_/\_
   rw[oH (by show l.length+1<=_;omega),oy,hw];refine⟨_,rfl,rfl,w1,by show (l++[r1]).length=_;rw[length_append,a3];rfl,λx hx=>?_⟩;have hx:x∈l++[r1]:=hx
   simp at hx;rcases hx with hx|rfl
   · exact a4 x hx
   · exact hr)
  (λz ⟨a1,a2,a3,a4⟩=>by
   obtain⟨i,x,y,s,l⟩:=z;simp only at a1 a2 a3 a4;refine⟨(x,y,s,l),?_,a2,a3,a4⟩;show cw i x y s l=_
   unfold cw;have hi:decide (i>0)=false:=dF (by omega)
   rw[hi,cF]) (x:=(((m+1:Nat):Int),c0.1,c0.2.1,c0.2.2,[])) ⟨by simp,w0,rfl,λx hx=>absurd hx not_mem_nil⟩
 have hw:oB (1+(m:Int))=((m+1:Nat):Int):=by rw[pj (by omega) (by omega)];omega
 unfold av;rw[e0',oy];show ∃c' o,((loop _ (oB (1+(m:Int)),c0.1,c0.2.1,c0.2.2,[])).bind _)=_/\_
 rw[hw,hd,oy];exact⟨_,_,rfl,g1,by omega,by omega,g3⟩
theorem Kr {a:Int} (ha:0<=a/\a<=100000):Nm [1,3,1,a]:=⟨by simp,by simp,λx hx=>by
 simp only[mem_cons,not_mem_nil,or_false]at hx;rcases hx with rfl|rfl|rfl|rfl
 · decide
 · decide
 · decide
 · exact wn ha.1 ha.2⟩
theorem zg (l:List Int) (h:l.length<=100):ac l=some ([1,3,1]++l):=by
 unfold ac;rw[oH (by show 3+l.length<=_;omega)];rfl
theorem Ju {c:oL} (h:CW c) {b:oA} (hb:qe b):∃c' o,aq c b=some (c',o)/\CW c'/\Nm o:=by
 have hm:5<=(qJ b).length:=by rw[Dl hb];omega
 have hle:=Cu hb;unfold aq;rw[zL hb.w,Gm hb,oy,dT (show ((qJ b).length:Int)>0 by omega),cT];obtain⟨c1,st,e1,w1⟩:=Ay h 4;rw[e1,oy];show ∃c' o,cond (!st) _ _=_/\_
 cases st with
 | false =>
  obtain⟨c2,k,e2,w2,hk⟩:=qr w1 (n:=(qJ b).length) (by omega);have hn:=(uY hb _ (getElem_mem hk)).1
  have h10:=hn.n10;rw[Bool.not_false,cT,e2,oy];show ∃c' o,((ix (qJ b).length (k:Int)).bind _)=_/\_
  rw[tZ hk,oy,List.getElem?_eq_getElem hk,oy,oH (by show 0+_<=_;omega),oy];exact⟨_,_,rfl,w2,hn⟩
 | true =>
  obtain⟨c2,r,e2,w2,_⟩:=qq w1 8;rw[Bool.not_true,cF,e2,oy];show ∃c' o,cond (r==0) _ (cond (r==1) _ (cond (r==2) _ (cond (r==3) _ (cond (r==4) _ (cond (r==5) _ (cond (r==6) _ _))))))=_/\_
  cases r==0 with
  | true=>exact⟨_,_,rfl,w2,⟨by decide,by decide,by decide⟩⟩
  | false =>
  cases r==1 with
  | true=>exact⟨_,_,rfl,w2,⟨by decide,by decide,by decide⟩⟩
  | false =>
  cases r==2 with
  | true=>rw[zg _ (by decide)];exact⟨_,_,rfl,w2,GU (by decide) (by decide) (by decide)⟩
  | false =>
  cases r==3 with
  | true =>
   obtain⟨c3,k,e3,w3,hk⟩:=qr w2 (n:=9) (by decide);have e3':aa c2 9=some (c3,(k:Int)):=e3
   show ∃c' o,((aa c2 9).bind _)=_/\_;rw[e3',oy,zg _ (by simp),oy];refine⟨_,_,rfl,w3,?_⟩;show Nm [1,3,1,3,1,oB (1+(k:Int))]
   rw[pj (by omega) (by omega)];exact GU (by decide) (by decide) (by omega)
  | false =>
  cases r==4 with
  | true=>rw[zg _ (by decide)];exact⟨_,_,rfl,w2,Dk (by decide) (by decide)⟩
  | false =>
  cases r==5 with
  | true=>rw[zg _ (by decide)];exact⟨_,_,rfl,w2,Kr (by decide)⟩
  | false =>
  cases r==6 with
  | true=>rw[zg _ (by decide)];exact⟨_,_,rfl,w2,JJ (by decide) (by decide) (by decide) (by decide)⟩
  | false =>
   obtain⟨c3,o,e3,w3,hn⟩:=IN w2;show ∃c' o,((av c2).bind _)=_/\_
   rw[e3,oy];exact⟨_,_,rfl,w3,hn⟩
theorem Kd {l:List oG} (h:FB l):∃y,eR l=some y/\FB y:=by
 have hn:=h.n;have hlt:∀i j (hi:i<l.length) (hj:j<l.length),i<j->lt l[i] l[j]:=pairwise_iff_getElem.1 h.o
 obtain⟨d,hd,g1,g2,g3⟩:=oR (step:=λz:Int×List oG=>cz l z.1 z.2)
  (λk z=>z.1=(k:Int)/\(∀x∈z.2,rz x=true)/\z.2.Pairwise lt/\z.2.length<=k/\∀x∈z.2,∀j (hj:j<l.length),k<=j->lt x l[j]) l.length
  (λd=>(∀x∈d,rz x=true)/\d.Pairwise lt/\d.length<=12)
  (λk z hk ⟨e1,e2,e3,e4,e5⟩=>by
   obtain⟨i,b⟩:=z;simp only at e1 e2 e3 e4 e5;subst e1;left;have hf:rz l[k]=true:=h.e _ (getElem_mem hk)
   have hgo:∀y:oG,rz y=true->y.1=l[k].1->y.2.1=l[k].2.1->(∀x∈b++[y],rz x=true)/\(b++[y]).Pairwise lt/\(b++[y]).length<=k+1/\∀x∈b++[y],∀j (hj:j<l.length),k+1<=j->lt x l[j]:=by
    intro y hy q1 q2;refine⟨λx hx=>?_,vi e3 λx hx=>?_,by rw[length_append];show b.length+1<=_;omega,λx hx j hj hkj=>?_⟩
    · rcases mem_append.1 hx with hx|hx
      · exact e2 x hx
      · simp at hx;subst hx;exact hy
    · have:=e5 x hx k hk (Nat.le_refl _);unfold lt at this ⊢;omega
    · rcases mem_append.1 hx with hx|hx
      · exact e5 x hx j hj (by omega)
      · simp at hx;subst hx;have:=hlt k j hk hj (by omega)
        unfold lt at this ⊢;omega
   have ha:∀y:oG,oX b [y]=some (b++[y]):=λy=>oH (by show b.length+1<=_;omega);show ∃y,cz l (k:Int) b=_/\_
   unfold cz;rw[pr (by omega),cT,oT hk,oy,ha,ha,oy,oy,oQ (by omega)];cases hs:l[k].2.2.2.2 with
   | true=>exact⟨_,rfl,rfl,hgo _ hf rfl rfl⟩
   | false =>
    rw[cF];by_cases ha4:l[k].2.2.2.1<4
    · rw[pr ha4,cT];refine⟨_,rfl,rfl,hgo _ ?_ rfl rfl⟩;unfold rz at hf ⊢;simp only[aT]at hf;obtain⟨f1,f2,f3,f4,f5⟩:=hf;have f4':=f4
      unfold oE at f4';simp only[aT,decide_eq_true_eq]at f4';show (oE l[k].1 1 99&&(oE l[k].2.1 1 9999&&(oE l[k].2.2.1 0 7&&(oE (oB (l[k].2.2.2.1+1)) 0 4&&(!false||_)))))=true
      rw[f1,f2,f3,pj (by omega) (by omega)];have:oE (l[k].2.2.2.1+1) 0 4=true:=by unfold oE;rw[dT (by omega),dT (by omega)];rfl
      rw[this];rfl
    · rw[pb ha4,cF];exact⟨_,rfl,rfl,e2,e3,by show b.length<=_;omega,λx hx j hj hkj=>e5 x hx j hj (by omega)⟩)
  (λz ⟨e1,e2,e3,e4,e5⟩=>by
   obtain⟨i,b⟩:=z;simp only at e1 e2 e3 e4 e5;subst e1;refine⟨b,?_,e2,e3,by omega⟩;show cz l _ b=_
   unfold cz;rw[pb (by omega),cF]) (x:=(0,[])) ⟨rfl,λx hx=>absurd hx not_mem_nil,List.Pairwise.nil,Nat.le_refl _,λx hx=>absurd hx not_mem_nil⟩
 unfold eR;rw[hd,oy];exact⟨_,rfl,g1,g2,g3⟩
theorem Ke:FB ([]:List oG):=⟨λx hx=>absurd hx not_mem_nil,List.Pairwise.nil,by simp⟩
theorem Kf {c:oL} (h:CW c):∃c' l,eS c=some (c',l)/\CW c'/\FB l:=by
 obtain⟨c0,m,e0,w0,hm⟩:=qr h (n:=10) (by decide);have e0':aa c 10=some (c0,(m:Int)):=e0
 obtain⟨d,hd,g1,g2⟩:=oR (step:=λz:Int×List Int×Int×Int×List oG=>cA z.1 z.2.1 z.2.2.1 z.2.2.2.1 z.2.2.2.2) (λk z=>z.1=(m:Int)-(k:Int)/\CW (z.2.1,z.2.2.1,z.2.2.2.1)/\FB z.2.2.2.2) m (λd=>CW (d.1,d.2.1,d.2.2.1)/\FB d.2.2.2)
  (λk z hk ⟨a1,a2,a3⟩=>by
   obtain⟨i,x,y,s,l⟩:=z;simp only at a1 a2 a3;left;show ∃y',cA i x y s l=_/\_
   unfold cA;have hi:decide (i>0)=true:=dT (by omega)
   have hw:oB (i-1)=(m:Int)-((k+1:Nat):Int):=by rw[pj (by omega) (by omega)];omega
   obtain⟨c1,r1,e1,w1,_⟩:=qq a2 6;rw[hi,cT,e1,oy,hw];show ∃y',cond (r1==0) _ (cond (r1==1) _ _)=_/\_
   cases r1==0 with
   | true =>
    obtain⟨c2,r2,e2,w2,_⟩:=qq w1 3;obtain⟨c3,r3,e3,w3⟩:=Ef w2;obtain⟨c4,r4,e4,w4,_⟩:=qq w3 4;obtain⟨y',ok,e5,g5⟩:=Dh a3 (oB (1+r2)) r3 r4;rw[cT,e2,oy,e3,oy,e4,oy,e5,oy];exact⟨_,rfl,rfl,w4,g5⟩
   | false =>
   cases r1==1 with
   | true =>
    obtain⟨y',e5,g5⟩:=Kd a3;rw[cF,cT,e5,oy];exact⟨_,rfl,rfl,w1,g5⟩
   | false =>
    obtain⟨c2,r2,e2,w2,_⟩:=qq w1 3;obtain⟨c3,r3,e3,w3⟩:=Ef w2;obtain⟨c4,r4,e4,w4,_⟩:=qq w3 3;obtain⟨c5,r5,e5,w5,_⟩:=qq w4 4;obtain⟨y',e6,g6⟩:=Fm a3 (oB (1+r2)) (oB (r3+r4)) r5;rw[cF,cF,e2,oy,e3,oy,e4,oy,e5,oy,e6,oy];exact⟨_,rfl,rfl,w5,g6⟩)
  (λz ⟨a1,a2,a3⟩=>by
   obtain⟨i,x,y,s,l⟩:=z;simp only at a1 a2 a3;refine⟨(x,y,s,l),?_,a2,a3⟩;show cA i x y s l=_
   unfold cA;have hi:decide (i>0)=false:=dF (by omega)
   rw[hi,cF]) (x:=((m:Int),c0.1,c0.2.1,c0.2.2,[])) ⟨by simp,w0,Ke⟩
 unfold eS;rw[e0',oy];show ∃c' l,((loop _ ((m:Int),c0.1,c0.2.1,c0.2.2,[])).bind _)=_/\_
 rw[hd,oy];exact⟨_,_,rfl,g1,g2⟩
theorem Kg {c:oL} (h:CW c):∃c' l,eT c=some (c',l)/\CW c'/\l.length<=100:=by
 obtain⟨c1,l,e1,w1,g1⟩:=Kf h;have hn:=g1.n
 obtain⟨c2,r,e2,w2,_⟩:=qq w1 12;unfold eT;rw[e1,oy];show ∃c' l',((aa c1 12).bind _)=_/\_
 rw[e2,oy];show ∃c' l',cond (r==0) _ (cond (r==1) _ _)=_/\_
 cases r==0 with
 | true =>
  obtain⟨c3,x3,e3,w3,_⟩:=rM w2 (l:=[0,1,99,100]) (by decide);obtain⟨c4,x4,e4,w4,_⟩:=rM w3 (l:=[0,1,9999]) (by decide);obtain⟨c5,x5,e5,w5,_⟩:=rM w4 (l:=[(-1),7,8]) (by decide);obtain⟨c6,x6,e6,w6,_⟩:=rM w5 (l:=[(-1),4,5]) (by decide);rw[cT,e3,oy,e4,oy,e5,oy,e6,oy];show ∃c' l',((oX l [_]).bind _)=_/\_
  rw[oH (by show l.length+1<=_;omega),oy];exact⟨_,_,rfl,w6,by rw[length_append];show l.length+1<=100;omega⟩
 | false =>
 cases r==1 with
 | true =>
  rw[cF,cT];obtain⟨d,hd,g1,g2⟩:=oR (step:=λz:Int×List Int×Int×Int×List oG=>bt z.1 z.2.1 z.2.2.1 z.2.2.2.1 z.2.2.2.2) (λk z=>z.1=(k:Int)/\CW (z.2.1,z.2.2.1,z.2.2.2.1)/\z.2.2.2.2.length<=12+k) 13 (λd=>CW (d.1,d.2.1,d.2.2.1)/\d.2.2.2.length<=100)
   (λk z hk ⟨a1,a2,a3⟩=>by
    obtain⟨i,x,y,s,l⟩:=z;simp only at a1 a2 a3;subst a1;obtain⟨c3,q,e3,w3,hq⟩:=qr a2 (n:=3) (by decide);have e3':aa (x,y,s) 3=some (c3,(q:Int)):=e3
    have hs:bt (k:Int) x y s l=cond (decide ((k:Int)<oB (11+(q:Int)))) (some (.inl (((k+1:Nat):Int),c3.1,c3.2.1,c3.2.2,l++[(50,oB (100+(k:Int)),1,0,false)]))) (some (.inr (c3.1,c3.2.1,c3.2.2,l))):=by
     unfold bt;rw[e3',oy,oH (by show l.length+1<=_;omega),oy,oQ (by omega)]
    show (∃y',bt (k:Int) x y s l=_/\_)\/(∃v,bt (k:Int) x y s l=_/\_);rw[hs];cases decide ((k:Int)<oB (11+(q:Int)))with
    | true=>exact .inl ⟨_,rfl,rfl,w3,by show (l++[_]).length<=_;rw[length_append];show l.length+1<=_;omega⟩
    | false=>exact .inr ⟨_,rfl,w3,by show l.length<=100;omega⟩)
   (λz ⟨a1,a2,a3⟩=>by
    obtain⟨i,x,y,s,l⟩:=z;simp only at a1 a2 a3;subst a1;obtain⟨c3,q,e3,w3,hq⟩:=qr a2 (n:=3) (by decide);have e3':aa (x,y,s) 3=some (c3,(q:Int)):=e3
    refine⟨(c3.1,c3.2.1,c3.2.2,l),?_,w3,by show l.length<=100;omega⟩;show bt ((13:Nat):Int) x y s l=_
    unfold bt;rw[e3',oy,pj (n:=11+(q:Int)) (by omega) (by omega),pb (by omega),cF]) (x:=(0,c2.1,c2.2.1,c2.2.2,l)) ⟨rfl,w2,by show l.length<=12+0;omega⟩
  show ∃c' l',((loop _ (0,c2.1,c2.2.1,c2.2.2,l)).bind _)=_/\_;rw[hd,oy];exact⟨_,_,rfl,g1,g2⟩
 | false=>exact⟨_,_,rfl,w2,by show l.length<=100;omega⟩
theorem Kh {c:oL} (h:CW c):∃c' v,eP c=some (c',v)/\CW c':=by
 obtain⟨c1,v,e1,w1,_⟩:=IE h;obtain⟨c2,r,e2,w2,_⟩:=qq w1 12;unfold eP;rw[e1,oy];show ∃c' l',((aa c1 12).bind _)=_/\_
 rw[e2,oy];show ∃c' l',cond (r==0) _ (cond (r==1) _ (cond (r==2) _ (cond (r==3) _ _)))=_/\_
 cases r==0 with
 | true =>
  obtain⟨c3,x3,e3,w3,_⟩:=rM w2 (l:=[0,99,100]) (by decide);rw[cT,e3,oy];exact⟨_,_,rfl,w3⟩
 | false =>
 cases r==1 with
 | true =>
  obtain⟨c3,x3,e3,w3,_⟩:=rM w2 (l:=[(-1),99999,100000,100001]) (by decide);rw[cF,cT,e3,oy];exact⟨_,_,rfl,w3⟩
 | false =>
 cases r==2 with
 | true =>
  obtain⟨c3,x3,e3,w3,_⟩:=rM w2 (l:=[(-1),11]) (by decide);rw[cF,cF,cT,e3,oy];exact⟨_,_,rfl,w3⟩
 | false =>
 cases r==3 with
 | true =>
  obtain⟨c3,x3,e3,w3,_⟩:=rM w2 (l:=[(-1),7,8]) (by decide);rw[cF,cF,cF,cT,e3,oy];exact⟨_,_,rfl,w3⟩
 | false=>exact⟨_,_,rfl,w2⟩
theorem IO {c:oL} (h:CW c):∃c' l,eQ c=some (c',l)/\CW c'/\l.length<=100:=by
 obtain⟨c1,p,e1,w1,b1⟩:=qr h (n:=4) (by decide);have e1':aa c 4=some (c1,(p:Int)):=e1
 have hp:oB (1+(p:Int))=((p+1:Nat):Int):=by rw[pj (by omega) (by omega)];omega
 obtain⟨c2,l,e2,w2,l2,_⟩:=Fk w1 (n:=p+1) (by omega);obtain⟨c3,r,e3,w3,_⟩:=qq w2 12;have h0:0<l.length:=by omega
 have hi:ix l.length 0=some 0:=tZ h0;have hg:l[0]?=some l[0]:=List.getElem?_eq_getElem h0
 unfold eQ;rw[e1',oy];show ∃c' l',((bM c1 (oB (1+(p:Int)))).bind _)=_/\_
 rw[hp,e2,oy];show ∃c' l',((aa c2 12).bind _)=_/\_
 rw[e3,oy];show ∃c' l',cond (r==0) _ (cond (r==1) _ (cond (r==2) _ _))=_/\_
 cases r==0 with
 | true =>
  obtain⟨c4,v,e4,w4⟩:=Kh w3;rw[cT,e4,oy];show ∃c' l',((ix l.length 0).bind _)=_/\_
  rw[hi,oy];show ∃c' l',((l[0]?).bind _)=_/\_
  rw[hg,oy];exact⟨_,_,rfl,w4,by rw[length_set];show l.length<=100;omega⟩
 | false =>
 cases r==1 with
 | true =>
  obtain⟨c4,x4,e4,w4,_⟩:=rM w3 (l:=[0,1000,1001]) (by decide);rw[cF,cT,e4,oy];show ∃c' l',((ix l.length 0).bind _)=_/\_
  rw[hi,oy];show ∃c' l',((l[0]?).bind _)=_/\_
  rw[hg,oy];exact⟨_,_,rfl,w4,by rw[length_set];show l.length<=100;omega⟩
 | false =>
 cases r==2 with
 | true =>
  rw[cF,cF,cT];show ∃c' l',((ix l.length 0).bind _)=_/\_
  rw[hi,oy];show ∃c' l',((l[0]?).bind _)=_/\_
  rw[hg,oy];exact⟨_,_,rfl,w3,by rw[length_set];show l.length<=100;omega⟩
 | false=>exact⟨_,_,rfl,w3,by show l.length<=100;omega⟩

structure VS (v:pk) (n:Nat):Prop where
 a:v.1.length<=n
 b:v.2.length<=100
 r:∀r∈v.1,uJ r.2.2
theorem Jv {v:pk} {n:Nat} (hn:n<=1000) (hv:VS v n) {r:oO} (hr:uJ r.2.2):∃y,az v r=some y/\VS y (2*n+1):=by
 have l4:=hv.a;have l3:=hv.b
 obtain⟨d,h1,h2,h3⟩:=oR (step:=λz:Bool×Int×List oO=>aw v r z.1 z.2.1 z.2.2) (λk z=>z.2.1=(k:Int)/\z.2.2.length<=2*k/\∀x∈z.2.2,uJ x.2.2) v.1.length (λd=>d.2.length<=2*n/\∀x∈d.2,uJ x.2.2)
  (λk z hk ⟨e1,e2,e3⟩=>by
   obtain⟨t,i,b⟩:=z;simp only at e1 e2 e3;subst e1;left;have hvk:uJ v.1[k].2.2:=hv.r _ (getElem_mem hk)
   show ∃y,aw v r t (k:Int) b=_/\_;unfold aw;simp only[pr (show (k:Int)<(v.1.length:Int) by omega),cT,oT hk,oy,oQ (show k<9223372036854775807 by omega),Int.not_lt];have ha:∀(xs:List oO) (y:oO),xs.length<=10000->oX xs [y]=some (xs++[y]):=λxs y h=>oH (by show xs.length+1<=_;omega)
   have key:∀(tt:Bool),((cond (!t) (some (decide (v.1[k].1>=r.1))) (some false))=some tt->∃y:Bool×Int×List oO,(cond tt ((oX b [r]).bind λzs37=>cond (v.1[k].1 != r.1) ((oX zs37 [v.1[k]]).bind λzs56=>some (.inl (true,((k+1:Nat):Int),zs56))) (some (.inl (true,((k+1:Nat):Int),zs37)))) (cond (v.1[k].1 != r.1) ((oX b [v.1[k]]).bind λzs56_1=>some (.inl (t,((k+1:Nat):Int),zs56_1))) (some (.inl (t,((k+1:Nat):Int),b)))):Option ((Bool×Int×List oO)⊕(Bool×List oO)))=some (.inl y)/\y.2.1=((k+1:Nat):Int)/\y.2.2.length<=2*(k+1)/\∀x∈y.2.2,uJ x.2.2):=by
    intro tt _;cases tt with
    | true =>
     rw[cT,ha b r (by omega),oy];cases v.1[k].1 != r.1 with
     | true =>
      rw[cT,ha (b++[r]) _ (by simp;omega),oy];refine⟨_,rfl,rfl,by simp;omega,λx hx=>?_⟩;simp at hx;rcases hx with hx|rfl|rfl
      · exact e3 x hx
      · exact hr
      · exact hvk
     | false =>
      refine⟨_,rfl,rfl,by simp;omega,λx hx=>?_⟩;simp at hx;rcases hx with hx|rfl
      · exact e3 x hx
      · exact hr
    | false =>
     rw[cF];cases v.1[k].1 != r.1 with
     | true =>
      rw[cT,ha b _ (by omega),oy];refine⟨_,rfl,rfl,by simp;omega,λx hx=>?_⟩;simp at hx;rcases hx with hx|rfl
      · exact e3 x hx
      · exact hvk
     | false=>exact⟨_,rfl,rfl,by show b.length<=_;omega,e3⟩
   cases ht:(cond (!t) (some (decide (v.1[k].1>=r.1))) (some false))with
   | none=>cases t<;>cases ht
   | some tt =>
    rw[oy];exact key tt ht)
  (λz ⟨e1,e2,e3⟩=>by
   obtain⟨t,i,b⟩:=z;simp only at e1 e2 e3;subst e1;refine⟨(t,b),?_,by show b.length<=_;omega,e3⟩;show aw v r t _ b=_
   unfold aw;rw[pb (by omega),cF]) (x:=(false,0,[])) ⟨rfl,by simp,λx hx=>absurd hx not_mem_nil⟩
 unfold az;rw[oH (by show 0+v.2.length<=_;omega),oy,h1,oy,nil_append];cases d.1 with
 | true=>exact⟨_,rfl,by show d.2.length<=_;omega,l3,h3⟩
 | false =>
  rw[Bool.not_false,cT,oH (by show d.2.length+1<=_;omega),oy];refine⟨_,rfl,by show (d.2++[r]).length<=_;simp;omega,l3,λx hx=>?_⟩;have hx:x∈d.2++[r]:=hx
  simp at hx;rcases hx with hx|rfl
  · exact h3 x hx
  · exact hr
theorem Jw {c:oL} (h:CW c):∃c' v n,eU c=some (c',v,n)/\CW c'/\VS v 1000:=by
 obtain⟨c1,p,e1,w1,b1⟩:=qr h (n:=4) (by decide);have e1':aa c 4=some (c1,(p:Int)):=e1
 have hp:oB (1+(p:Int))=((p+1:Nat):Int):=by rw[pj (by omega) (by omega)];omega
 obtain⟨c2,v,e2,w2,hv⟩:=GS w1 (n:=p+1) (by omega) (by omega);obtain⟨l1,l2,l3,l4⟩:=hv.len;obtain⟨c3,r,e3,w3,_⟩:=qq w2 12;unfold eU;rw[e1',oy];show ∃c' v' n',((bN c1 (oB (1+(p:Int)))).bind _)=_/\_
 rw[hp,e2,oy];show ∃c' v' n',((aa c2 12).bind _)=_/\_
 rw[e3,oy];show ∃c' v' n',cond (r==0) _ (cond (r==1) _ (cond (r==2) _ (cond (r==3) _ _)))=_/\_
 cases r==0 with
 | true =>
  obtain⟨c4,x4,e4,w4,_⟩:=rM w3 (l:=[0,1,9,100]) (by decide);obtain⟨c5,x5,e5,w5,_⟩:=rM w4 (l:=[(-1),0,1,64]) (by decide);obtain⟨c6,k6,e6,w6,b6⟩:=qr w5 (n:=3) (by decide);have e6':aa c5 3=some (c6,(k6:Int)):=e6
  rw[cT,e4,oy,e5,oy];show ∃c' v' n',((aa c5 3).bind _)=_/\_
  rw[e6',oy];show ∃c' v' n',((oX v.1 [_]).bind _)=_/\_
  rw[oH (by show v.1.length+1<=_;omega),oy];refine⟨_,_,_,rfl,w6,by show (v.1++[_]).length<=_;rw[length_append];show v.1.length+1<=_;omega,by show v.2.length<=_;omega,λx hx=>?_⟩;have hx:x∈v.1++[(x4,x5,(k6:Int))]:=hx
  simp at hx;rcases hx with hx|rfl
  · exact hv.r x hx
  · show uJ (k6:Int);exact⟨by omega,by omega⟩
 | false =>
 cases r==1 with
 | true =>
  obtain⟨c4,x4,e4,w4,_⟩:=rM w3 (l:=[0,7]) (by decide);have h0:0<v.2.length:=by omega
  rw[cF,cT,e4,oy];show ∃c' v' n',((ix v.2.length 0).bind _)=_/\_
  rw[show ix v.2.length 0=some 0 from tZ h0,oy];show ∃c' v' n',((v.2[0]?).bind _)=_/\_
  rw[List.getElem?_eq_getElem h0,oy];exact⟨_,_,_,rfl,w4,by show v.1.length<=_;omega,by show (v.2.set 0 x4).length<=_;rw[length_set];omega,hv.r⟩
 | false =>
 cases r==2 with
 | true =>
  obtain⟨c4,x4,e4,w4,_⟩:=rM w3 (l:=[0,6,7]) (by decide);rw[cF,cF,cT,e4,oy];exact⟨_,_,_,rfl,w4,by show v.1.length<=_;omega,by show v.2.length<=_;omega,hv.r⟩
 | false =>
 cases r==3 with
 | true =>
  rw[cF,cF,cF,cT];have hpow:∀k,k<=6->8*2^k<=512:=by
   intro k hk;have:2^k<=2^6:=Nat.pow_le_pow_right (by decide) hk
   omega
  obtain⟨d,hd,hv2⟩:=oR (step:=λz:Int×List oO×List Int=>cB z.1 z.2.1 z.2.2) (λk z=>z.1=(k:Int)/\VS z.2 (8*2^k-1)) 6 (λd=>VS d 1000)
   (λk z hk ⟨a1,a2⟩=>by
    obtain⟨i,rows,qs⟩:=z;simp only at a1 a2;subst a1;left;have hk':=hpow k (by omega)
    obtain⟨y,hy,hy2⟩:=Jv (by omega) a2 (r:=(oB (10+(k:Int)),0,0)) ⟨by show (-9223372036854775808:Int)<=0;decide,by show (0:Int)<=9223372036854775807;decide⟩;refine⟨(((k+1:Nat):Int),y),?_,rfl,?_⟩
    · show cB (k:Int) rows qs=_;unfold cB;rw[pr (by omega),cT,hy,oy,oQ (by omega)]
    · have e:2*(8*2^k-1)+1=8*2^(k+1)-1:=by
       have:1<=2^k:=Nat.one_le_two_pow;rw[Nat.pow_succ];omega
      rw[←e];exact hy2)
   (λz ⟨a1,a2⟩=>by
    obtain⟨i,rows,qs⟩:=z;simp only at a1 a2;subst a1;refine⟨(rows,qs),?_,Nat.le_trans a2.a (by decide),a2.b,a2.r⟩;show cB ((6:Nat):Int) rows qs=_
    unfold cB;rw[pb (by omega),cF]) (x:=(0,v.1,v.2)) ⟨rfl,by show v.1.length<=8*2^0-1;omega,by show v.2.length<=_;omega,hv.r⟩
  show ∃c' v' n',((loop _ (0,v.1,v.2)).bind _)=_/\_;rw[hd,oy];exact⟨_,_,_,rfl,w3,hv2⟩
 | false=>exact⟨_,_,_,rfl,w3,by show v.1.length<=_;omega,by show v.2.length<=_;omega,hv.r⟩
structure At (m:List oC) (o:List Int) (j:Nat):Prop where
 le:j<=m.length
 no:∀i (hi:i<m.length),i<j->¬o<m[i].1
 yes:∀i (hi:i<m.length),j<=i->o<m[i].1
theorem Jx {m:List oC} (hp:m.Pairwise λx y=>x.1<y.1) (o:List Int):∃j,At m o j:=by
 have hp:=pairwise_iff_getElem.1 hp;have key:∀n,n<=m.length->(∀i (hi:i<m.length),i<n->¬o<m[i].1)\/∃j,At m o j:=by
  intro n
  induction n with
  | zero=>exact λ_=>.inl λi hi h=>by omega
  | succ n ih =>
   intro hn;rcases ih (by omega)with h|h
   · by_cases hlt:o<m[n].1
     · refine .inr ⟨n,by omega,h,λi hi hni=>?_⟩;by_cases e:i=n
       · subst e;exact hlt
       · exact List.lt_trans hlt (hp n i (by omega) hi (by omega))
     · refine .inl λi hi hin=>?_;by_cases e:i=n
       · subst e;exact hlt
       · exact h i hi (by omega)
   · exact .inr h
 rcases key m.length (Nat.le_refl _)with h|h
 · exact⟨m.length,Nat.le_refl _,λi hi _=>h i hi hi,λi hi h=>by omega⟩
 · exact h
theorem Jy {b:oA} (h:qe b) {o:List Int} (ho:o.length<=1000) {j:Nat} (hj:At (qJ b) o j):aY b o=some (if h:j<(qJ b).length then (qJ b)[j]else (o,130,0,[],[])):=by
 have hle:=Cu h;have hjl:=hj.le
 obtain⟨v,h1,h2⟩:=oR (step:=λz:Int×Int×Int×List UInt8×List Int×List Int=>bB o (qJ b) z.1 z.2.1 z.2.2.1 z.2.2.2.1 z.2.2.2.2.1 z.2.2.2.2.2) (λk z=>z=((k:Int),0,0,[],[],[])) j (λv=>if h:j<(qJ b).length then v=.inr (qJ b)[j]else ∃u,v=.inl u)
  (λk z hk e=>by
   subst e;have hkl:k<(qJ b).length:=by omega
   have hn:=(uY h _ (getElem_mem hkl)).1.n10;refine .inl ⟨(((k+1:Nat):Int),0,0,[],[],[]),?_,rfl⟩;show bB o (qJ b) (k:Int) 0 0 [] [] []=_
   unfold bB;rw[pr (by omega),cT,oT hkl,oy,GT (by omega),dF (hj.no k hkl hk),oy,cF,oQ (by omega)])
  (λz e=>by
   subst e;show ∃v,bB o (qJ b) (j:Int) 0 0 [] [] []=_/\_
   unfold bB;by_cases hjn:j<(qJ b).length
   · have hn:=(uY h _ (getElem_mem hjn)).1.n10;rw[pr (by omega),cT,oT hjn,oy,GT (by omega),dT (hj.yes j hjn (Nat.le_refl _)),oy,cT];exact⟨_,rfl,by rw[dif_pos hjn]⟩
   · rw[pb (by omega),cF];exact⟨_,rfl,by rw[dif_neg hjn];exact⟨_,rfl⟩⟩) (x:=(0,0,0,[],[],[])) rfl
 unfold aY;rw[Gm h,oy,h1,oy];by_cases hjn:j<(qJ b).length
 · rw[dif_pos hjn]at h2;rw[dif_pos hjn,h2];rfl
 · rw[dif_neg hjn]at h2;obtain⟨u,rfl⟩:=h2;rw[dif_neg hjn];show ((aP o).bind _)=_
   unfold aP;rw[oH (by show 0+o.length<=_;omega)];rfl
theorem s7 {α:Type} {ys:List α} (h:ys.length<=M):oX [] ys=some ys:=by
 unfold oX;rw[if_pos (by show 0+ys.length<=4294967296;have h':ys.length<=1048576:=h;omega)];rfl
theorem y5 {l:List Int} (h:l.length<=M):aP l=some l:=by unfold aP;rw[s7 h];rfl
theorem Fr {l:List Int} (h:l.length<=M):dJ l=some l:=by unfold dJ;rw[s7 h];rfl
theorem Hw {l:List oG} (h:l.length<=M):fb l=some l:=by unfold fb;rw[s7 h];rfl
theorem Gt {l:List oG} (h:l.length<=M):bp l=some l:=by unfold bp;rw[s7 h];rfl
theorem zP {v:pk} (h:v.1.length<=M/\v.2.length<=M):cR v=some v:=by
 unfold cR;rw[s7 h.1,oy,y5 h.2];rfl
theorem Ft {v:pk} (h:v.1.length<=M/\v.2.length<=M):aG v=some v:=by
 unfold aG;rw[s7 h.1,oy,s7 h.2];rfl
theorem vI {b:oA} (h:uI M b):aL b=some b:=by
 obtain⟨h1,h2,h3,h4,h5⟩:=h;unfold aL;rw[s7 h2,oy,Hw h3,oy,zP ⟨h4,h5⟩];rfl
theorem te {b:oA} (h:uI M b):aE b=some b:=by
 obtain⟨h1,h2,h3,h4,h5⟩:=h;unfold aE;rw[s7 h2,oy,Gt h3,oy,Ft ⟨h4,h5⟩];rfl
def AS (o:List Int) (k:Nat):Bool:=match o[k]? with|some x=>!(oE x 0 100000)|none=>false
def rW (o:List Int):Bool:=!((List.range o.length).any (AS o))&&oE (o.length:Int) 1 10
theorem zQ {o:List Int} (h:o.length<9223372036854775807):ak o=some (rW o):=by
 unfold ak rW;have e:loop (λz=>aI o z) 0=some (cond ((List.range o.length).any (AS o)) (Sum.inr false) (Sum.inl ())):=by
  rw[←sq (n:=o.length) (c:=λi=>(at? o i).bind λx=>(ae x 0 100000).bind λt=>some (!t)) (b:=AS o) h (λk hk=>by
   simp only[oT hk,oy,AS,List.getElem?_eq_getElem hk,s4])]
  refine qP (λi=>?_) 0;unfold aI;simp only[Option.bind_assoc,oy]
 rw[e,oy];cases (List.range o.length).any (AS o)with
 | true=>rfl
 | false=>simp only[cF,Sum.elim_inl,s4,oy,Bool.not_false,Bool.true_and]
theorem Gu:bj=ak:=rfl
theorem GV (n:Int):∃c,ao n=some c/\(c==n)=oE n (-2147483648) 2147483647:=by
 unfold ao oE;by_cases h1:n>2147483647
 · refine⟨_,by rw[dT h1];rfl,?_⟩;rw[dF (show ¬n<=2147483647 by omega),Bool.and_false];exact beq_eq_false_iff_ne.2 (by omega)
 · by_cases h2:n < -2147483648
   · refine⟨_,by rw[dF h1,dT h2];rfl,?_⟩;rw[dF (show ¬n >= -2147483648 by omega),Bool.false_and];exact beq_eq_false_iff_ne.2 (by omega)
   · refine⟨_,by rw[dF h1,dF h2];rfl,?_⟩;rw[dT (show n >= -2147483648 by omega),dT (show n<=2147483647 by omega),beq_self_eq_true];rfl
theorem Hx (l:List Int):au l []=some ((l.length:Int)==0):=by
 cases l with
 | nil=>exact ET (n:=0) (Ck (a:=[]) (by decide))
 | cons x l =>
  unfold au;have e:(((x::l).length:Int) != (([]:List Int).length:Int))=true:=by simp;omega
  rw[e,cT,beq_eq_false_iff_ne.2 (by simp;omega)]
theorem Gv {l:List Int} (h:l.length<=M):au l l=some true:=ET (Ck (JY h))
def sT (v:rm):Bool :=
 cond (v.1==5||(v.1==128||v.1==130)) (v.2.1==0&&(v.2.2.1==[]&&((v.2.2.2.length:Int)==0)))
  (cond (v.1==2) (oE v.2.1 (-2147483648) 2147483647&&(v.2.2.1==[]&&((v.2.2.2.length:Int)==0)))
   (cond (v.1==4) (decide ((v.2.2.1.length:Int)<=20)&&(v.2.1==0&&((v.2.2.2.length:Int)==0)))
    (cond (v.1==6) (rW v.2.2.2&&(v.2.1==0&&(v.2.2.1==[]))) false)))
theorem Gw {v:rm} (h:v.2.2.2.length<=M):am v=some (sT v):=by
 obtain⟨k,n,s,o⟩:=v;have h':o.length<=1048576:=h
 have ho:o.length<=M:=h;have hb:o.length<9223372036854775807:=by omega
 unfold am sT aA ax;simp only[s4,Hx,Gv ho,zQ hb,oy];by_cases h2:k=2
 · subst h2;cases oE n (-2147483648) 2147483647<;>cases s==[]<;>cases (o.length:Int)==0<;>simp
 by_cases h4:k=4
 · subst h4;cases decide ((s.length:Int)<=20)<;>cases n==0<;>cases (o.length:Int)==0<;>simp
 by_cases h6:k=6
 · subst h6;cases rW o<;>cases n==0<;>cases s==[]<;>simp
 rw[beq_eq_false_iff_ne.2 h2,beq_eq_false_iff_ne.2 h4,beq_eq_false_iff_ne.2 h6];by_cases h5:k=5
 · subst h5;cases n==0<;>cases s==[]<;>cases (o.length:Int)==0<;>simp
 by_cases h128:k=128
 · subst h128;cases n==0<;>cases s==[]<;>cases (o.length:Int)==0<;>simp
 by_cases h130:k=130
 · subst h130;cases n==0<;>cases s==[]<;>cases (o.length:Int)==0<;>simp
 rw[beq_eq_false_iff_ne.2 h5,beq_eq_false_iff_ne.2 h128,beq_eq_false_iff_ne.2 h130];rfl
theorem IP {v:rm} (h:v.2.2.2.length<=M):ce v=some (sT v):=by
 obtain⟨k,n,s,o⟩:=v;have h':o.length<=1048576:=h
 have hb:o.length<9223372036854775807:=by omega
 obtain⟨c,hc,hc2⟩:=GV n;unfold ce sT;simp only[Gu,zQ hb,hc,hc2,oy];by_cases h5:k=5
 · subst h5;cases n==0<;>cases s==[]<;>cases (o.length:Int)==0<;>simp
 by_cases h128:k=128
 · subst h128;cases n==0<;>cases s==[]<;>cases (o.length:Int)==0<;>simp
 by_cases h130:k=130
 · subst h130;cases n==0<;>cases s==[]<;>cases (o.length:Int)==0<;>simp
 rw[beq_eq_false_iff_ne.2 h5,beq_eq_false_iff_ne.2 h128,beq_eq_false_iff_ne.2 h130];by_cases h2:k=2
 · subst h2;cases oE n (-2147483648) 2147483647<;>cases s==[]<;>cases (o.length:Int)==0<;>simp
 by_cases h4:k=4
 · subst h4;cases decide ((s.length:Int)<=20)<;>cases n==0<;>cases (o.length:Int)==0<;>simp
 by_cases h6:k=6
 · subst h6;cases rW o<;>cases n==0<;>cases s==[]<;>simp
 rw[beq_eq_false_iff_ne.2 h2,beq_eq_false_iff_ne.2 h4,beq_eq_false_iff_ne.2 h6];rfl
def sK (x:oC):Bool:=rW x.1&&sT x.2
def bX (l:List oC) (k:Nat):Bool:=match l[k]? with|some x=>!(sK x)|none=>false
def r9 (p:p7):Bool :=
 (!((List.range p.2.2.2.2.length).any (bX p.2.2.2.2))&&decide ((p.2.2.2.2.length:Int)<=10)) &&
 (cond (p.1==162||p.1==165) (oE p.2.2.1 0 1000&&oE p.2.2.2.1 0 1000)
  (cond (p.1==160||(p.1==161||p.1==163)) (p.2.2.1==0&&p.2.2.2.1==0) false)&&oE p.2.1 (-2147483648) 2147483647)
theorem IQ {n:Nat} {f g:Nat->Bool}:(List.range n).any (λk=>f k||g k)=((List.range n).any f||(List.range n).any g):=by
 generalize List.range n=l
 induction l with
 | nil=>rfl
 | cons a l ih=>simp only[List.any_cons,ih];cases f a<;>cases g a<;>simp
theorem Hy (n:Nat):(List.range n).any (λk=>decide ((k:Int)>=10))=!(decide ((n:Int)<=10)):=by
 by_cases h:(n:Int)<=10
 · rw[dT h];refine Bool.eq_false_iff.2 λha=>?_;obtain⟨k,h1,h2⟩:=any_eq_true.1 ha;have:=mem_range.1 h1
   have:=of_decide_eq_true h2;omega
 · rw[dF h];exact any_eq_true.2 ⟨10,mem_range.2 (by omega),by decide⟩
theorem Gx {p:p7} (h:tH M p):loop (λz=>f6 p z) 0=some (cond (!(decide ((p.2.2.2.2.length:Int)<=10))||(List.range p.2.2.2.2.length).any (bX p.2.2.2.2)) (Sum.inr false) (Sum.inl ())):=by
 obtain⟨k,i,e,x,l⟩:=p;have h':xa M l:=h
 have hl:l.length<=1048576:=h'.1;show loop (λz=>f6 (k,i,e,x,l) z) 0=some (cond (!(decide ((l.length:Int)<=10))||(List.range l.length).any (bX l)) (Sum.inr false) (Sum.inl ()))
 rw[←Hy,←IQ,←sq (n:=l.length) (c:=λi=>(at? l i).bind λx=>(cond (decide (i>=10)) (some true) ((ak x.1).bind λt=>some (!t))).bind λt=>(cond t (some true) ((am x.2).bind λt=>some (!t)))) (b:=λk=>decide ((k:Int)>=10)||bX l k) (by omega) (λk hk=>by
  have hx:vq M l[k]:=h'.2 _ (getElem_mem hk);have h1:l[k].1.length<=1048576:=hx.1
  have h2:l[k].2.2.2.2.length<=M:=hx.2.2;simp only[oT hk,oy,bX,List.getElem?_eq_getElem hk,zQ (show l[k].1.length<9223372036854775807 by omega),Gw (v:=l[k].2) h2,sK];cases decide ((k:Int)>=10)<;>cases rW l[k].1<;>cases sT l[k].2<;>rfl)]
 refine qP (λi=>?_) 0;unfold f6;simp only[Option.bind_assoc,oy]
theorem Fu {p:p7} (h:tH M p):loop (λz=>fu p z) 0=some (cond ((List.range p.2.2.2.2.length).any (bX p.2.2.2.2)) (Sum.inr false) (Sum.inl ())):=by
 obtain⟨k,i,e,x,l⟩:=p;have h':xa M l:=h
 have hl:l.length<=1048576:=h'.1;show loop (λz=>fu (k,i,e,x,l) z) 0=some (cond ((List.range l.length).any (bX l)) (Sum.inr false) (Sum.inl ()))
 rw[←sq (n:=l.length) (c:=λi=>(at? l i).bind λx=>(bj x.1).bind λt=>(cond (!t) (some true) ((at? l i).bind λx=>(ce x.2).bind λt=>some (!t)))) (b:=bX l) (by omega) (λk hk=>by
  have hx:vq M l[k]:=h'.2 _ (getElem_mem hk);have h1:l[k].1.length<=1048576:=hx.1
  have h2:l[k].2.2.2.2.length<=M:=hx.2.2;simp only[oT hk,oy,bX,List.getElem?_eq_getElem hk,Gu,zQ (show l[k].1.length<9223372036854775807 by omega),IP (v:=l[k].2) h2,sK];cases rW l[k].1<;>cases sT l[k].2<;>rfl)]
 refine qP (λi=>?_) 0;unfold fu;simp only[Option.bind_assoc,oy]
theorem IR {p:p7} (h:tH M p):dH p=some (r9 p):=by
 have e0:=Gx h;have e1:loop (λz=>jb p z) 0=_:=e0
 have e2:loop (λz=>jc p z) 0=_:=e0;have e3:loop (λz=>jd p z) 0=_:=e0
 have e4:loop (λz=>je p z) 0=_:=e0;have e5:loop (λz=>jf p z) 0=_:=e0
 have e6:loop (λz=>jg p z) 0=_:=e0;have e7:loop (λz=>jh p z) 0=_:=e0
 have e8:loop (λz=>ji p z) 0=_:=e0;unfold dH r9 ax;rw[e0,e1,e2,e3,e4,e5,e6,e7,e8];simp only[s4,oy];generalize (List.range p.2.2.2.2.length).any (bX p.2.2.2.2)=u;generalize decide ((p.2.2.2.2.length:Int)<=10)=w;generalize oE p.2.1 (-2147483648) 2147483647=x;generalize p.2.2.1=e;generalize p.2.2.2.1=i;generalize p.1=k;by_cases h0:k=160
 · subst h0;have b1:(e != 0)=!(e==0):=rfl
   have b2:(i != 0)=!(i==0):=rfl;rw[b1,b2];cases e==0<;>cases i==0<;>cases u<;>cases w<;>cases x<;>rfl
 by_cases h1:k=161
 · subst h1;have b1:(e != 0)=!(e==0):=rfl
   have b2:(i != 0)=!(i==0):=rfl;rw[b1,b2];cases e==0<;>cases i==0<;>cases u<;>cases w<;>cases x<;>rfl
 by_cases h3:k=163
 · subst h3;have b1:(e != 0)=!(e==0):=rfl
   have b2:(i != 0)=!(i==0):=rfl;rw[b1,b2];cases e==0<;>cases i==0<;>cases u<;>cases w<;>cases x<;>rfl
 by_cases h2:k=162
 · subst h2;cases oE e 0 1000<;>cases oE i 0 1000<;>cases u<;>cases w<;>cases x<;>rfl
 by_cases h5:k=165
 · subst h5;cases oE e 0 1000<;>cases oE i 0 1000<;>cases u<;>cases w<;>cases x<;>rfl
 rw[beq_eq_false_iff_ne.2 h0,beq_eq_false_iff_ne.2 h1,beq_eq_false_iff_ne.2 h2,beq_eq_false_iff_ne.2 h3,beq_eq_false_iff_ne.2 h5];cases u<;>cases w<;>rfl
theorem IS {p:p7} (h:tH M p):cZ p=some (r9 p):=by
 obtain⟨c,hc,hc2⟩:=GV p.2.1;unfold cZ r9 fV;rw[Fu h];simp only[uN,hc,hc2,oy];generalize (List.range p.2.2.2.2.length).any (bX p.2.2.2.2)=u;generalize decide ((p.2.2.2.2.length:Int)<=10)=w;generalize oE p.2.1 (-2147483648) 2147483647=x;generalize p.2.2.1=e;generalize p.2.2.2.1=i;generalize p.1=k;have b1:(e != 0)=!(e==0):=rfl
 have b2:(i != 0)=!(i==0):=rfl;rw[b1,b2];have z1:(e==0)=true->oE e 0 1000=true:=λh=>by rw[eq_of_beq h];rfl
 have z2:(i==0)=true->oE i 0 1000=true:=λh=>by rw[eq_of_beq h];rfl
 by_cases h2:k=162
 · subst h2;cases oE e 0 1000<;>cases oE i 0 1000<;>cases u<;>cases w<;>cases x<;>rfl
 by_cases h5:k=165
 · subst h5;cases oE e 0 1000<;>cases oE i 0 1000<;>cases u<;>cases w<;>cases x<;>rfl
 have n2:(k != 162)=true:=bne_iff_ne.2 h2;have n5:(k != 165)=true:=bne_iff_ne.2 h5
 rw[n2,n5,beq_eq_false_iff_ne.2 h2,beq_eq_false_iff_ne.2 h5];cases he:e==0 with
 | false=>cases hi:i==0<;>cases u<;>cases w<;>cases x<;>cases k==160<;>cases k==161<;>cases k==163<;>rfl
 | true =>
  rw[z1 he];cases hi:i==0 with
  | false=>cases u<;>cases w<;>cases x<;>cases k==160<;>cases k==161<;>cases k==163<;>rfl
  | true =>
   rw[z2 hi];cases u<;>cases w<;>cases x<;>cases k==160<;>cases k==161<;>cases k==163<;>rfl
theorem Bp {α:Type} {l:List α} {step:Int×List α->Option ((Int×List α)⊕List α)} (hn:l.length<=M)
 (hs:∀k (hk:k<l.length) out,step ((k:Int),out)=(oX out [l[k]]).bind λzs=>some (.inl (((k+1:Nat):Int),zs)))
 (he:∀out,step ((l.length:Int),out)=some (.inr out)):loop step (0,[])=some l:=by
 have hn':l.length<=1048576:=hn;obtain⟨b,h1,rfl⟩:=oR (step:=step) (λk z=>z=((k:Int),l.take k)) l.length (λb=>b=l)
  (λk z hk e=>by
   subst e;left;refine⟨_,by rw[hs k hk,oH (by rw[List.length_take];show _+1<=_;omega),oy],?_⟩;rw[take_add_one,List.getElem?_eq_getElem hk];rfl)
  (λz e=>by
   subst e;exact⟨_,he _,by rw[take_length]⟩) (x:=(0,[])) rfl
 exact h1
theorem Hz {v:rm} (h:JF M v):fq v=some v:=by unfold fq;rw[y5 h.2];rfl
theorem Fv {l:List oC} (h:xa M l):fr l=some l:=by
 have hn:l.length<=1048576:=h.1;unfold fr;rw[Bp (step:=λz=>cX l z.1 z.2) h.1 (λk hk out=>by
  show cX l (k:Int) out=_;unfold cX;have hx:=h.2 _ (getElem_mem hk)
  rw[pr (by omega),cT,oT hk,oy,y5 hx.1,oy,Hz hx.2,oy,oQ (by omega)]) (λout=>by
  show cX l (l.length:Int) out=_;unfold cX;rw[pb (by omega),cF])];rfl
theorem AA {l:List oC} (h:xa M l):d6 l=some l:=by
 have hn:l.length<=1048576:=h.1;unfold d6;rw[Bp (step:=λz=>cf l z.1 z.2) h.1 (λk hk out=>by
  show cf l (k:Int) out=_;unfold cf;have hx:=h.2 _ (getElem_mem hk)
  rw[pr (by omega),cT,oT hk,oy,s7 hx.2.2,oy,oy,s7 hx.1,oy,oQ (by omega)]) (λout=>by
  show cf l (l.length:Int) out=_;unfold cf;rw[pb (by omega),cF])];rfl
theorem y6 {n:Nat} {step:Int->Option (Int⊕(Unit⊕Bool))} (h:∀k,k<n->step (k:Int)=some (.inl ((k+1:Nat):Int))) (he:step (n:Int)=some (.inr (.inl ()))):loop step 0=some (.inl ()):=by
 obtain⟨v,e,rfl⟩:=oR (step:=step) (λk i=>i=(k:Int)) n (λv=>v=.inl ()) (λk i hk e=>by subst e;exact .inl ⟨_,h k hk,rfl⟩) (λi e=>by subst e;exact⟨_,he,rfl⟩) (x:=0) rfl;exact e
def qt (l:List oO) (id:Int):Int:=match l.findIdx? (λr=>r.1==id)with|some k=>(k:Int)|none=>-1
theorem yT {v:pk} (hn:v.1.length<9223372036854775807) (id:Int):al v id=some (qt v.1 id):=by
 unfold al qt;obtain⟨b,h1,rfl⟩:=oR (β:=Unit⊕Int) (step:=λz=>aB v id z) (λk i=>i=(k:Int)/\∀j (hj:j<k),∀(hl:j<v.1.length),¬((v.1[j].1==id)=true)) v.1.length (λb=>b=match v.1.findIdx? (λr=>r.1==id)with|some k=>.inr (k:Int)|none=>.inl ())
  (λk i hk ⟨h,hy⟩=>by
   subst h;unfold aB;rw[pr (by omega),cT,oT hk,oy];cases hb:(v.1[k].1==id)with
   | true =>
    refine .inr ⟨_,rfl,?_⟩;rw[List.findIdx?_eq_some_iff_getElem.2 ⟨hk,hb,λj hj=>hy j hj (by omega)⟩]
   | false =>
    refine .inl ⟨_,rfl,oQ (by omega),λj hj hl=>?_⟩;by_cases hjk:j=k
    · subst hjk;rw[hb];simp
    · exact hy j (by omega) hl)
  (λi ⟨h,hy⟩=>by
   subst h;refine⟨.inl (),by unfold aB;rw[pb (by omega),cF],?_⟩;rw[List.findIdx?_eq_none_iff.2 λx hx=>by
    obtain⟨j,hj,rfl⟩:=getElem_of_mem hx;have:=hy j hj hj
    simpa using this]) (x:=0) ⟨rfl,λj hj=>by omega⟩
 rw[h1,oy];cases v.1.findIdx? (λr=>r.1==id)<;>rfl
theorem HA {v:pk} (hn:v.1.length<9223372036854775807) (id:Int):aR v id=some (qt v.1 id):=yT hn id
theorem vJ {l:List oO} {id:Int} (h:0<=qt l id):∃k,∃hk:k<l.length,qt l id=(k:Int)/\l[k].1=id:=by
 unfold qt at h ⊢;cases hf:l.findIdx? (λr=>r.1==id)with
 | none=>rw[hf]at h;simp at h
 | some k =>
  obtain⟨hk,h1,_⟩:=List.findIdx?_eq_some_iff_getElem.1 hf;exact⟨k,hk,rfl,by simpa using h1⟩
theorem Eh {l:List oO} {id:Int} (h:qt l id<0):∀x∈l,x.1≠id:=by
 unfold qt at h;cases hf:l.findIdx? (λr=>r.1==id)with
 | some k=>rw[hf]at h;simp at h;omega
 | none =>
  intro x hx;have:=List.findIdx?_eq_none_iff.1 hf x hx
  simpa using this
def zh (l:List oG) (tag mac:Int):Int:=match l.findIdx? (λe=>e.1==tag&&e.2.1==mac)with|some k=>(k:Int)|none=>-1
theorem IT {l:List oG} (hn:l.length<9223372036854775807) (tag mac:Int):fh l tag mac=some (zh l tag mac):=by
 unfold fh zh;obtain⟨b,h1,rfl⟩:=oR (β:=Unit⊕Int) (step:=λz=>ca l tag mac z) (λk i=>i=(k:Int)/\∀j (hj:j<k),∀(hl:j<l.length),¬((l[j].1==tag&&l[j].2.1==mac)=true)) l.length (λb=>b=match l.findIdx? (λe=>e.1==tag&&e.2.1==mac)with|some k=>.inr (k:Int)|none=>.inl ())
  (λk i hk ⟨h,hy⟩=>by
   subst h;have hs:ca l tag mac (k:Int)=cond (l[k].1==tag&&l[k].2.1==mac) (some (.inr (.inr (k:Int)))) (some (.inl ((k+1:Nat):Int))):=by
    unfold ca;simp only[pr (show (k:Int)<(l.length:Int) by omega),cT,oT hk,oy,oQ (show k<9223372036854775807 by omega)];cases l[k].1==tag<;>rfl
   show (∃y,ca l tag mac (k:Int)=some (.inl y)/\_)\/∃b,ca l tag mac (k:Int)=some (.inr b)/\_;rw[hs];cases hb:(l[k].1==tag&&l[k].2.1==mac)with
   | true =>
    refine .inr ⟨_,rfl,?_⟩;rw[List.findIdx?_eq_some_iff_getElem.2 ⟨hk,hb,λj hj=>hy j hj (by omega)⟩]
   | false =>
    refine .inl ⟨_,rfl,rfl,λj hj hl=>?_⟩;by_cases hjk:j=k
    · subst hjk;rw[hb];simp
    · exact hy j (by omega) hl)
  (λi ⟨h,hy⟩=>by
   subst h;refine⟨.inl (),by unfold ca;rw[pb (by omega),cF],?_⟩;rw[List.findIdx?_eq_none_iff.2 λx hx=>by
    obtain⟨j,hj,rfl⟩:=getElem_of_mem hx;have:=hy j hj hj
    simpa using this]) (x:=0) ⟨rfl,λj hj=>by omega⟩
 rw[h1,oy];cases l.findIdx? (λe=>e.1==tag&&e.2.1==mac)<;>rfl
theorem HB {l:List oG} (hn:l.length<9223372036854775807) (tag mac:Int):bn l tag mac=some (zh l tag mac):=by
 unfold bn zh;obtain⟨b,h1,rfl⟩:=oR (β:=Unit⊕Int) (step:=λz=>aD l tag mac z) (λk i=>i=(k:Int)/\∀j (hj:j<k),∀(hl:j<l.length),¬((l[j].1==tag&&l[j].2.1==mac)=true)) l.length (λb=>b=match l.findIdx? (λe=>e.1==tag&&e.2.1==mac)with|some k=>.inr (k:Int)|none=>.inl ())
  (λk i hk ⟨h,hy⟩=>by
   subst h;have hs:aD l tag mac (k:Int)=cond (l[k].1==tag&&l[k].2.1==mac) (some (.inr (.inr (k:Int)))) (some (.inl ((k+1:Nat):Int))):=by
    unfold aD;simp only[pr (show (k:Int)<(l.length:Int) by omega),cT,oT hk,oy,oQ (show k<9223372036854775807 by omega)];cases l[k].1==tag<;>rfl
   show (∃y,aD l tag mac (k:Int)=some (.inl y)/\_)\/∃b,aD l tag mac (k:Int)=some (.inr b)/\_;rw[hs];cases hb:(l[k].1==tag&&l[k].2.1==mac)with
   | true =>
    refine .inr ⟨_,rfl,?_⟩;rw[List.findIdx?_eq_some_iff_getElem.2 ⟨hk,hb,λj hj=>hy j hj (by omega)⟩]
   | false =>
    refine .inl ⟨_,rfl,rfl,λj hj hl=>?_⟩;by_cases hjk:j=k
    · subst hjk;rw[hb];simp
    · exact hy j (by omega) hl)
  (λi ⟨h,hy⟩=>by
   subst h;refine⟨.inl (),by unfold aD;rw[pb (by omega),cF],?_⟩;rw[List.findIdx?_eq_none_iff.2 λx hx=>by
    obtain⟨j,hj,rfl⟩:=getElem_of_mem hx;have:=hy j hj hj
    simpa using this]) (x:=0) ⟨rfl,λj hj=>by omega⟩
 rw[h1,oy];cases l.findIdx? (λe=>e.1==tag&&e.2.1==mac)<;>rfl

def qo (o:List Int) (lo hi:Int) (head:List Int):Bool:=(o.length==head.length+4)&&((o.take (head.length+3)==[1,3,1]++head)&&(match o[head.length+3]? with|some x=>oE x lo hi|none=>false))
theorem y7 {o:List Int} (lo hi:Int) {head:List Int} (ho:o.length<=M) (hh:head.length<=100):aM o lo hi head=some (qo o lo hi head):=by
 have ho':o.length<=1048576:=ho;have hw:oB ((head.length:Int)+4)=((head.length+4:Nat):Int):=by rw[pj (by omega) (by omega)];omega
 unfold aM qo;rw[hw];by_cases hl:o.length=head.length+4
 · have hw2:oB ((o.length:Int)-1)=((head.length+3:Nat):Int):=by rw[pj (by omega) (by omega)];omega
   have hc:cut o 0 ((head.length+3:Nat):Int)=some (o.take (head.length+3)):=by
    rw[show (0:Int)=((0:Nat):Int)from rfl,rV (Nat.zero_le _) (by omega),List.drop_zero]
   have hlt:head.length+3<o.length:=by omega
   rw[show ((o.length:Int)==((head.length+4:Nat):Int))=true from beq_iff_eq.2 (by omega),cT,hw2,hc,oy,oH (by show 3+head.length<=_;omega),oy,uL (by rw[length_append];show 3+head.length<_;omega),oy,oT hlt,oy,s4,oy,List.getElem?_eq_getElem hlt];rw[show (o.length==head.length+4)=true from beq_iff_eq.2 hl];cases (o.take (head.length+3)==[1,3,1]++head)<;>rfl
 · rw[show ((o.length:Int)==((head.length+4:Nat):Int))=false from beq_eq_false_iff_ne.2 (by omega),cF,show (o.length==head.length+4)=false from beq_eq_false_iff_ne.2 hl];rfl
abbrev qR (b:oA):Int:=(b.2.2.1.length:Int)
abbrev s3 (b:oA):List oO:=b.2.2.2.2.1
def Ei (b:oA) (o:List Int):Bool:=qo o 1 1 [1]||(qo o 1 (qR b) [2,2]||(qo o 1 (qR b) [2,4]||(qo o 1 99 [3,1]||((qo o 1 99 [3,2]||qo o 1 99 [3,3])&&(match o[5]? with|some x=>decide (qt (s3 b) x>=0)|none=>false)))))
theorem Cv {o:List Int} {lo hi:Int} {head:List Int} (h:qo o lo hi head=true):o.length=head.length+4:=by
 unfold qo at h;simp only[aT,beq_iff_eq]at h;exact h.1
theorem Ki {b:oA} (hb:uI M b) {o:List Int} (ho:o.length<=M):fe b o=some (Ei b o):=by
 have hr:b.2.2.2.2.1.length<9223372036854775807:=by have:b.2.2.2.2.1.length<=1048576:=hb.2.2.2.1;omega
 unfold fe Ei;rw[y7 1 1 ho (by decide),y7 1 _ ho (by decide),y7 1 _ ho (by decide),y7 1 99 ho (by decide),y7 1 99 ho (by decide),y7 1 99 ho (by decide)];simp only[oy];cases qo o 1 1 [1]with
 | true=>rfl
 | false =>
 cases qo o 1 (qR b) [2,2]with
 | true=>rfl
 | false =>
 cases qo o 1 (qR b) [2,4]with
 | true=>rfl
 | false =>
 cases qo o 1 99 [3,1]with
 | true=>rfl
 | false =>
 have key:o.length=6->((at? o 5).bind λx41=>(al (b.2.2.2.2.1,b.2.2.2.2.2.1) x41).bind λt43=>some (decide (t43>=0)))=some (match o[5]? with|some x=>decide (qt (s3 b) x>=0)|none=>false):=by
  intro h6;have h5:5<o.length:=by omega
  rw[show (5:Int)=((5:Nat):Int)from rfl,oT h5,oy,yT hr,oy,List.getElem?_eq_getElem h5]
 cases h2:qo o 1 99 [3,2]with
 | true =>
  simp only[cF,cT,oy,Bool.false_or,Bool.true_or,Bool.true_and];rw[key (Cv h2)];rfl
 | false =>
  cases h3:qo o 1 99 [3,3]with
  | true =>
   simp only[cF,cT,oy,Bool.false_or,Bool.or_true,Bool.true_and];rw[key (Cv h3)];rfl
  | false=>rfl
def BF (b:oA) (o:List Int):Bool:=qo o 2 5 [1]||(qo o 1 (qR b) [2,1]||(qo o 1 (qR b) [2,3]||(((o.length==7)&&(o.take 5==[1,3,1,4,1]))&&(match o[5]?,o[6]? with|some x,some y=>decide (zh b.2.2.2.1 x y>=0)|_,_=>false))))
theorem Jz {b:oA} (hb:uI M b) {o:List Int} (ho:o.length<=M):fi b o=some (BF b o):=by
 have hr:b.2.2.2.1.length<9223372036854775807:=by have:b.2.2.2.1.length<=1048576:=hb.2.2.1;omega
 unfold fi BF;rw[y7 2 5 ho (by decide),y7 1 _ ho (by decide),y7 1 _ ho (by decide)];simp only[oy];cases qo o 2 5 [1]with
 | true=>rfl
 | false =>
 cases qo o 1 (qR b) [2,1]with
 | true=>rfl
 | false =>
 cases qo o 1 (qR b) [2,3]with
 | true=>rfl
 | false =>
 by_cases h7:o.length=7
 · have h5:5<o.length:=by omega
   have h6:6<o.length:=by omega
   have hc:cut o 0 5=some (o.take 5):=by
    rw[show (0:Int)=((0:Nat):Int)from rfl,show (5:Int)=((5:Nat):Int)from rfl,rV (Nat.zero_le _) (by omega),List.drop_zero]
   rw[show ((o.length:Int)==7)=true from beq_iff_eq.2 (by omega),show (o.length==7)=true from beq_iff_eq.2 h7];simp only[cF,cT,oy,hc,uL (show ([1,3,1,4,1]:List Int).length<9223372036854775807 by decide),Bool.false_or,Bool.true_and];cases (o.take 5==[1,3,1,4,1])with
   | false=>rfl
   | true =>
    rw[show (5:Int)=((5:Nat):Int)from rfl,show (6:Int)=((6:Nat):Int)from rfl];simp only[cT,oT h5,oT h6,oy,IT hr,List.getElem?_eq_getElem h5,List.getElem?_eq_getElem h6,Bool.true_and]
 · rw[show ((o.length:Int)==7)=false from beq_eq_false_iff_ne.2 (by omega),show (o.length==7)=false from beq_eq_false_iff_ne.2 h7];rfl

def uZ (o:List Int):Bool:=decide (o.length>3)&&(o.take 3==[1,3,1])
theorem IU {o:List Int} (ho:o.length<=M):d7 o=some (cond (uZ o) (o.drop 3,true) ([],false)):=by
 have ho':o.length<=1048576:=ho;unfold d7 fw uZ;by_cases h:o.length>3
 · have hc:cut o 0 ((([1,3,1]:List Int).length:Nat):Int)=some (o.take 3):=by
    rw[show (0:Int)=((0:Nat):Int)from rfl,rV (Nat.zero_le _) (by show 3<=_;omega),List.drop_zero];rfl
   have hc2:cut o 3 (o.length:Int)=some (o.drop 3):=by
    rw[show (3:Int)=((3:Nat):Int)from rfl,rV (by omega) (Nat.le_refl _),take_length]
   have hs:bH (o.take 3) [1,3,1]=some (o.take 3==[1,3,1]):=uL (a:=o.take 3) (b:=[1,3,1]) (by decide);rw[dT (show (o.length:Int)>(([1,3,1]:List Int).length:Int) by show (o.length:Int)>3;omega),cT,hc,oy,hs,dT h];simp only[oy,Bool.true_and];cases (o.take 3==[1,3,1])with
   | false=>rfl
   | true=>simp only[Bool.not_true,cF,cT,hc2,oy]
 · rw[dF (show ¬(o.length:Int)>(([1,3,1]:List Int).length:Int) by show ¬(o.length:Int)>3;omega),dF h];rfl
def zR (b:oA) (o:List Int):Bool:=uZ o&&(match o.drop 3 with
 | [a,c]=>a==1&&c==1
 | [a,c,p]=>(a==2&&((c==2||c==4)&&oE p 1 (qR b)))||(a==3&&((c==1&&oE p 1 99)||((c==2||c==3)&&decide (qt (s3 b) p>=0))))
 | _=>false)
theorem Kj {b:oA} (hb:uI M b) {o:List Int} (ho:o.length<=M):eh b o=some (zR b o):=by
 have hr:b.2.2.2.2.1.length<9223372036854775807:=by have:b.2.2.2.2.1.length<=1048576:=hb.2.2.2.1;omega
 unfold eh zR;rw[IU ho,oy];cases uZ o with
 | false=>rfl
 | true =>
  simp only[cT,Bool.not_true,cF,Bool.true_and]
  match o.drop 3 with
  | []=>rfl
  | [a]=>rfl
  | [a,c] =>
   rw[show (([a,c].length:Int)==2)=true from rfl,cT,show at? [a,c] 0=some a from rfl,show at? [a,c] 1=some c from rfl];simp only[oy];cases a==1<;>rfl
  | [a,c,p] =>
   rw[show (([a,c,p].length:Int)==2)=false from rfl,cF,show (([a,c,p].length:Int) != 3)=false from rfl,cF,show at? [a,c,p] 0=some a from rfl,show at? [a,c,p] 1=some c from rfl,show at? [a,c,p] 2=some p from rfl];simp only[oy,uN,HA (v:=(b.2.2.2.2.1,b.2.2.2.2.2.1)) hr];by_cases h2:a=2
   · subst h2;cases c==2<;>cases c==4<;>simp
   · by_cases h3:a=3
     · subst h3;cases c==1<;>cases c==2<;>cases c==3<;>cases oE p 1 99<;>simp
     · rw[show (a==2)=false from beq_eq_false_iff_ne.2 h2,show (a==3)=false from beq_eq_false_iff_ne.2 h3];rfl
  | a::c::p::q::l =>
   simp only[List.length_cons];rw[show ((((l.length+1+1+1+1:Nat):Int))==2)=false from beq_eq_false_iff_ne.2 (by omega),show ((((l.length+1+1+1+1:Nat):Int)) != 3)=true from bne_iff_ne.2 (by omega)];rfl
end Go.V.W
