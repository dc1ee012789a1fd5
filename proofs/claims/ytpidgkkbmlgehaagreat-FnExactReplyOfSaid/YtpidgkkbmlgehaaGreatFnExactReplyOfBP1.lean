/- The law FnExactReplyOf: part of the proof that for every input it returns true. No condition. -/
import Derived.KernelRfl
import Derived.Test.YtpidgkkbmlgehaaGreatFnExactReplyOf
import Derived.Test.YtpidgkkbmlgehaaGreatFnExactReplyOfM
open List (any_eq_false any_eq_true append_assoc cons_lt_cons_iff drop_zero getElem_mem getElem_of_mem length_append length_cons length_drop length_map length_nil length_take map_append mem_append mem_cons mem_cons_of_mem mem_flatMap mem_map mem_range not_mem_nil pairwise_append pairwise_cons range_succ take_add_one take_append_drop take_length take_succ_cons)
set_option linter.unusedVariables false
set_option linter.unusedSimpArgs false
namespace Go.V.W
theorem oJ {α β:Type} (a:α) (f:α->Option β):(some a).bind f=f a:=rfl
abbrev M:Nat:=1048576
abbrev In (left:Int):Prop:=0<=left/\left<=1048576
theorem In.next {left r:Int} (h:In left) (h1:0<=r) (h2:r<=left):In r:=⟨h1,by have:=h.2;omega⟩
theorem u6 {n:Nat} (h:n<=M):n<=4294967295:=Nat.le_trans h (by decide)
theorem E1 {a:List Int} {left:Int} (hl:In left) (h:a.length<=maxLen):s6 left (d6 a left) (a.length<=M):=wj hl h
theorem Lf {a:List Pt} {left:Int} (hl:In left) (h:a.length<=maxLen):s6 left (fy a left) (a.length<=M):=wj hl h
theorem Jf {a:List oT} {left:Int} (hl:In left) (h:a.length<=maxLen):s6 left (fA a left) (a.length<=M):=wj hl h
theorem Jg {a:List oZ} {left:Int} (hl:In left) (h:a.length<=maxLen):s6 left (fB a left) (a.length<=M):=wj hl h
theorem Kj {a:pU} {left:Int} (hl:In left) (h:a.1.length<=maxLen/\a.2.length<=maxLen):s6 left (fC a left) (a.1.length<=M/\a.2.length<=M/\True) :=
 sK (Jg hl h.1) λr h1 h2=>sK (E1 (hl.next h1 h2) h.2) λr h1 h2=>vR h1
def u7 (n:Nat) (b:oI):Prop:=b.2.1.length<=n/\b.2.2.1.length<=n/\b.2.2.2.1.length<=n/\b.2.2.2.2.1.length<=n/\b.2.2.2.2.2.1.length<=n
theorem I5 {b:oI} {left:Int} (hl:In left) (h:u7 maxLen b):s6 left (fD b left) (u7 M b):=by
 obtain⟨h1,h2,h3,h4,h5⟩:=h;refine wQ (AO hl h1 λr k1 k2=>sK (Lf (hl.next k1 k2) h2) λr' k3 k4=>sK (Jf ((hl.next k1 k2).next k3 k4) h3) λr'' k5 k6=>sK (Kj (a:=(b.2.2.2.2.1,b.2.2.2.2.2.1)) (((hl.next k1 k2).next k3 k4).next k5 k6) ⟨h4,h5⟩) λr3 k7 k8=>vR k7) ?_;rintro⟨a1,a2,a3,⟨a4,a5,_⟩,_⟩;exact⟨a1,a2,a3,a4,a5⟩
def EZ (n:Nat) (v:rk):Prop:=v.2.2.1.length<=n/\v.2.2.2.length<=n
theorem Lg {v:rk} {left:Int} (hl:In left) (h:EZ maxLen v):s6 left (fO v left) (EZ M v) :=
 wQ (AO hl h.1 λr k1 k2=>sK (E1 (hl.next k1 k2) h.2) λr' k3 k4=>vR k3) λ⟨a,b,_⟩=>⟨a,b⟩
def wZ (n:Nat) (x:oK):Prop:=x.1.length<=n/\EZ n x.2
theorem Kk {x:oK} {left:Int} (hl:In left) (h:wZ maxLen x):s6 left (eQ x left) (wZ M x) :=
 wQ (sK (E1 hl h.1) λr k1 k2=>sK (Lg (hl.next k1 k2) h.2) λr' k3 k4=>vR k3) λ⟨a,b,_⟩=>⟨a,b⟩
def vA (n:Nat) (l:List oK):Prop:=l.length<=n/\∀x∈l,wZ n x
theorem Jh {l:List oK} {left:Int} (hl:In left) (h:vA maxLen l):s6 left (fP l left) (vA M l):=by
 have hn:l.length<=9223372036854775807:=h.1;show s6 left (let l1:=oL (left-(l.length:Int));cond (decide (l1<0)) (some (-1)) ((loop (λz=>kG l z.1 z.2) (l1,0)).bind (Sum.elim (λd=>some d) (λr=>some r)))) _
 by_cases hle:l.length<=M
 · exact wQ (AO hl h.1 λr k1 k2=>GZ (f:=eQ) (Q:=wZ M) (λx hx l' h1 h2=>Kk ⟨h1,h2⟩ (h.2 x hx)) (u6 hle) (hl.next k1 k2)) λ⟨a,b⟩=>⟨a,b⟩
 · refine⟨-1,?_,.inl rfl⟩;show cond (decide (oL (left-(l.length:Int))<0)) _ _=_
   have:M<l.length:=by omega
   have hM:(1048576:Int)<(l.length:Int):=by have:1048576<l.length:=this;omega
   have:=hl.2;rw[rb (by omega) (by omega),pK (by omega),cT]
def tB (n:Nat) (p:ph):Prop:=vA n p.2.2.2.2
theorem Lh {p:ph} {left:Int} (hl:In left) (h:tB maxLen p):s6 left (fQ p left) (tB M p) :=
 wQ (sK (Jh hl h) λr k1 k2=>vR k1) λ⟨a,_⟩=>a
theorem E2 {a:List Int} (h:a.length<=M):d7 a=some a:=zO (u6 h) (HV (u6 h) 0)
theorem Li {a:List Pt} (h:a.length<=M):fF a=some a:=zO (u6 h) (yq (f:=fE) (λ_ _=>rfl) (u6 h) _)
theorem Ji {a:List oT} (h:a.length<=M):fH a=some a:=zO (u6 h) (yq (f:=fG) (λ_ _=>rfl) (u6 h) _)
theorem Jj {a:List oZ} (h:a.length<=M):fK a=some a:=zO (u6 h) (yq (f:=fJ) (λ_ _=>rfl) (u6 h) _)
theorem Kl {a:pU} (h:a.1.length<=M/\a.2.length<=M):eF a=some a:=by
 unfold eF;rw[Jj h.1,oJ,E2 h.2,oJ]
theorem I6 {b:oI} (h:u7 M b):bB b=some b:=by
 obtain⟨h1,h2,h3,h4,h5⟩:=h;unfold bB;rw[Li h2,oJ,Ji h3,oJ,Kl ⟨h4,h5⟩,oJ]
theorem Lj {v:rk} (h:EZ M v):eR v=some v:=by
 unfold eR;rw[E2 h.2,oJ]
theorem Km {x:oK} (h:wZ M x):de x=some x:=by
 unfold de;rw[E2 h.1,oJ,Lj h.2,oJ]
theorem Jk {l:List oK} (h:vA M l):fR l=some l:=zO (u6 h.1) (yq (f:=de) (λx hx=>Km (h.2 x hx)) (u6 h.1) _)
theorem Lk {p:ph} (h:tB M p):bD p=some p:=by
 unfold bD;rw[Jk h,oJ]
theorem Ll (v:u4):eG v v=some true:=by unfold eG;simp
theorem M6 (v:Pt):d8 v v=some true:=by unfold d8;simp[Ll]
theorem Kn (v:oT):d9 v v=some true:=by unfold d9;simp
theorem Ko (v:oZ):da v v=some true:=by unfold da;simp
theorem E3 {a:List Int} (h:a.length<=M):dc a a=some true:=wP (AN (u6 h))
theorem Lm {a:List Pt} (h:a.length<=M):fL a a=some true:=wP (yr (g:=d8) (λx _=>M6 x) (u6 h))
theorem Jl {a:List oT} (h:a.length<=M):fM a a=some true:=wP (yr (g:=d9) (λx _=>Kn x) (u6 h))
theorem Jm {a:List oZ} (h:a.length<=M):fN a a=some true:=wP (yr (g:=da) (λx _=>Ko x) (u6 h))
theorem Kp {a:pU} (h:a.1.length<=M/\a.2.length<=M):eH a a=some true:=by
 unfold eH;simp[Jm h.1,E3 h.2]
theorem E4 {b:oI} (h:u7 M b):bC b b=some true:=by
 obtain⟨h1,h2,h3,h4,h5⟩:=h;unfold bC;simp[Lm h2,Jl h3,Kp (a:=(b.2.2.2.2.1,b.2.2.2.2.2.1)) ⟨h4,h5⟩]
theorem Ln {v:rk} (h:EZ M v):eS v v=some true:=by
 unfold eS;simp[E3 h.2]
theorem Kq {x:oK} (h:wZ M x):df x x=some true:=by
 unfold df;simp[E3 h.1,Ln h.2]
theorem Jn {l:List oK} (h:vA M l):fS l l=some true:=wP (yr (g:=df) (λx hx=>Kq (h.2 x hx)) (u6 h.1))
theorem IA {p:ph} (h:tB M p):bE p p=some true:=by
 unfold bE;simp[Jn (l:=p.2.2.2.2) h]
theorem BT {α β:Type} {f g:α->Option (α⊕β)} (pq:α->Prop) (h:∀x,pq x->f x=g x) (hi:∀x y,pq x->f x=some (.inl y)->pq y) {x:α} (h0:pq x):loop f x=loop g x:=by
 have key:∀k x,pq x->rp f k x=rp g k x:=by
  intro k
  induction k with
  | zero=>intro x _;rfl
  | succ k ih =>
   intro x hx;rw[pT,pT,←h x hx];cases hf:f x with
   | none=>rfl
   | some v=>cases v with
    | inl y=>exact ih y (hi x y hx hf)
    | inr b=>rfl
 have hex:(∃k,(rp f k x).isSome)↔∃k,(rp g k x).isSome:=by
  constructor<;>rintro⟨k,hk⟩<;>exact⟨k,by first|rwa [←key k x h0]|rwa [key k x h0]⟩
 by_cases hc:∃k,(rp f k x).isSome
 · obtain⟨k,hk⟩:=hc;cases hv:rp f k x with
   | none=>rw[hv]at hk;cases hk
   | some b=>rw[sx hv,sx ((key k x h0)▸hv)]
 · have hc':¬ ∃k,(rp g k x).isSome:=λh=>hc (hex.2 h);unfold loop;rw[dif_neg hc,dif_neg hc']
theorem r8 {α β:Type} {f g:α->Option (α⊕β)} (h:∀x,f x=g x) (x:α):loop f x=loop g x:=by rw[funext h]
def oU (x a b:Int):Bool:=decide (x>=a)&&decide (x<=b)
theorem sr (x a b:Int):aa x a b=some (oU x a b):=by
 unfold aa oU;cases decide (x>=a)<;>rfl
theorem xF (x a b:Int):ac x a b=some (oU x a b):=sr x a b
def E5 (v:u4):Bool:=oU v.1 1 99&&(oU v.2.1 0 100000&&(oU v.2.2.1 0 10&&(oU v.2.2.2.1 1 99&&oU v.2.2.2.2 0 7)))
theorem I7 (v:u4):bj v=some (E5 v):=by
 unfold bj E5;simp only[sr,oJ];cases oU v.1 1 99<;>cases oU v.2.1 0 100000<;>cases oU v.2.2.1 0 10<;>cases oU v.2.2.2.1 1 99<;>rfl
theorem M7:cL=bj:=rfl
def zi (p:Pt):Bool:=oU p.2.1 1 1000&&(!(p.2.2.1&&!p.1)&&(cond p.2.2.1 (E5 p.2.2.2) (p.2.2.2.1==0&&(p.2.2.2.2.1==0&&(p.2.2.2.2.2.1==0&&(p.2.2.2.2.2.2.1==0&&(p.2.2.2.2.2.2.2==0)))))))
theorem Mt (p:Pt):cr p=some (zi p):=by
 obtain⟨up,cost,heard,v⟩:=p;unfold cr zi;simp only[sr,I7,oJ];cases oU cost 1 1000<;>cases up<;>cases heard<;>rfl
theorem Mu (p:Pt):cM p=some (zi p):=by
 obtain⟨up,cost,heard,v⟩:=p;unfold cM zi;simp only[xF,M7,I7,oJ];cases oU cost 1 1000<;>cases up<;>cases heard<;>rfl
theorem sP {n:Nat} {c:Int->Option Bool} {b:Nat->Bool} (hn:n<9223372036854775807) (hc:∀k,k<n->c (k:Int)=some (b k)) :
 loop (λi:Int=>cond (decide (i<(n:Int))) ((c i).bind λt=>cond t (some (.inr (.inr false))) (some (.inl (oL (i+1))))) (some (.inr (.inl ())))) 0=some (cond ((List.range n).any b) (Sum.inr false) (Sum.inl ()):Unit⊕Bool):=by
 obtain⟨v,h1,h2⟩:=pr (β:=Unit⊕Bool) (step:=λi:Int=>cond (decide (i<(n:Int))) ((c i).bind λt=>cond t (some (.inr (.inr false))) (some (.inl (oL (i+1))))) (some (.inr (.inl ()))))
  (λk i=>i=(k:Int)/\(List.range k).any b=false) n (λv=>v=cond ((List.range n).any b) (Sum.inr false) (Sum.inl ()))
  (λk i hk ⟨e,ha⟩=>by
   subst e;have hs:(cond (decide ((k:Int)<(n:Int))) ((c (k:Int)).bind λt=>cond t (some (.inr (.inr false))) (some (.inl (oL ((k:Int)+1))))) (some (.inr (.inl ()))):Option (Int⊕(Unit⊕Bool)))=cond (b k) (some (.inr (.inr false))) (some (.inl ((k+1:Nat):Int))):=by
    rw[pK (by omega),cT,hc k hk,oJ,p9 (by omega)]
   cases hb:b k with
   | true =>
    refine .inr ⟨.inr false,by rw[hs,hb];rfl,?_⟩;have:(List.range n).any b=true:=any_eq_true.2 ⟨k,mem_range.2 hk,hb⟩
    rw[this];rfl
   | false =>
    refine .inl ⟨_,by rw[hs,hb];rfl,rfl,?_⟩;rw[range_succ,List.any_append,ha];simp[hb])
  (λi ⟨e,ha⟩=>by
   subst e;exact⟨.inl (),by rw[pk (by omega),cF],by rw[ha];rfl⟩) (x:=0) ⟨rfl,rfl⟩
 rw[h1,h2]
def yY (e:oT):Bool:=oU e.1 1 99&&(oU e.2.1 1 9999&&(oU e.2.2.1 0 7&&(oU e.2.2.2.1 0 4&&(!e.2.2.2.2||e.2.2.2.1==0))))
theorem IB (e:oT):bN e=some (yY e):=by
 unfold bN yY;simp only[sr,oJ];cases oU e.1 1 99<;>cases oU e.2.1 1 9999<;>cases oU e.2.2.1 0 7<;>cases oU e.2.2.2.1 0 4<;>cases e.2.2.2.2<;>rfl
theorem Lo:dP=bN:=rfl
def uP (e:oT) (tag mac:Int):Bool:=decide (e.1>tag)||(e.1==tag&&decide (e.2.1>mac))
theorem Jo (e:oT) (tag mac:Int):ct e tag mac=some (uP e tag mac):=by
 unfold ct uP;cases decide (e.1>tag)<;>cases (e.1==tag)<;>rfl
theorem Kr (p e:oT):cN p e.1 e.2.1=some (uP e p.1 p.2.1):=by
 unfold cN uP;by_cases h:p.1=e.1
 · simp[h]
 · have h':¬e.1=p.1:=λk=>h k.symm;have e1:(p.1 != e.1)=true:=by simpa using h
   have e2:(e.1==p.1)=false:=by simpa using h'
   rw[e1,e2,cT,Bool.false_and,Bool.or_false]
def tM (l:List oT) (k:Nat):Bool:=match l[k]? with
 | some e=>!(yY e)||(decide (0<k)&&(match l[k-1]? with|some p=>!(uP e p.1 p.2.1)|none=>false))
 | none=>false
def u9 (l:List oT):Bool:=!((List.range l.length).any (tM l))&&decide ((l.length:Int)<=12)
theorem Ac {α:Type} {l:List α} {k:Nat} (h:k<l.length) (hk:0<k) (hn:l.length<9223372036854775807):at? l (oL ((k:Int)-1))=some l[k-1]:=by
 rw[rb (by omega) (by omega),show (k:Int)-1=((k-1:Nat):Int) by omega,pb (by omega)]
theorem M8 {l:List oT} (hn:l.length<9223372036854775807):dw l=some (u9 l):=by
 unfold dw u9;have h:=sP (n:=l.length) (c:=λi=>(at? l i).bind λx10=>(bN x10).bind λt13=>(cond (!t13) (some true) ((cond (decide (i>0)) ((at? l (oL (i-1))).bind λx23=>(at? l (oL (i-1))).bind λx29=>(ct x10 x23.1 x29.2.1).bind λt32=>some (!t32)) (some false)).bind λt34=>some t34)).bind λt=>some t) (b:=tM l) hn (λk hk=>by
  simp only[pb hk,oJ,IB,tM,List.getElem?_eq_getElem hk];cases yY l[k]with
  | false=>rfl
  | true =>
   by_cases h0:0<k
   · have hd:decide ((k:Int)>0)=true:=dT (by omega);simp only[hd,Ac hk h0 hn,oJ,Jo,dT h0,List.getElem?_eq_getElem (show k-1<l.length by omega)];rfl
   · have hd:decide ((k:Int)>0)=false:=dF (by omega);simp only[hd,dF h0];rfl)
 have e:(loop (λz=>f5 l z) 0)=some (cond ((List.range l.length).any (tM l)) (Sum.inr false) (Sum.inl ())):=by
  rw[←h];refine r8 (λi=>?_) 0;unfold f5;simp only[Option.bind_assoc,oJ]
 rw[e,oJ];cases (List.range l.length).any (tM l)<;>rfl
theorem M9 {l:List oT} (hn:l.length<9223372036854775807):dQ l=some (u9 l):=by
 unfold dQ u9;have h:=sP (n:=l.length) (c:=λi=>(at? l i).bind λx12=>(dP x12).bind λt14=>(cond (!t14) (some true) ((cond (decide (i>0)) ((at? l (oL (i-1))).bind λx23=>(at? l i).bind λx27=>(at? l i).bind λx32=>(cN x23 x27.1 x32.2.1).bind λt35=>some (!t35)) (some false)).bind λt37=>some t37)).bind λt=>some t) (b:=tM l) hn (λk hk=>by
  simp only[pb hk,oJ,Lo,IB,tM,List.getElem?_eq_getElem hk];cases yY l[k]with
  | false=>rfl
  | true =>
   by_cases h0:0<k
   · have hd:decide ((k:Int)>0)=true:=dT (by omega);simp only[hd,Ac hk h0 hn,oJ,Kr,dT h0,List.getElem?_eq_getElem (show k-1<l.length by omega)];rfl
   · have hd:decide ((k:Int)>0)=false:=dF (by omega);simp only[hd,dF h0];rfl)
 have e:(loop (λz=>f9 l z) 0)=some (cond ((List.range l.length).any (tM l)) (Sum.inr false) (Sum.inl ())):=by
  rw[←h];refine r8 (λi=>?_) 0;unfold f9;simp only[Option.bind_assoc,oJ]
 rw[e,oJ];cases (List.range l.length).any (tM l)<;>rfl

theorem Hj {v:pU} (hn:v.1.length<9223372036854775807) (id:Int):∃r,aj v id=some r:=by
 unfold aj;obtain⟨b,h1,_⟩:=pr (β:=Unit⊕Int) (step:=λz=>aG v id z) (λk i=>i=(k:Int)) v.1.length (λ_=>True)
  (λk i hk h=>by
   subst h;unfold aG;rw[pK (by omega),cT,pb hk,oJ];cases (v.1[k].1==id)with
   | true=>exact .inr ⟨_,rfl,trivial⟩
   | false=>exact .inl ⟨_,rfl,p9 (by omega)⟩)
  (λi h=>by
   subst h;unfold aG;rw[pk (by omega)];exact⟨_,rfl,trivial⟩) (x:=0) rfl
 rw[h1,oJ];cases b with
 | inl _=>exact⟨_,rfl⟩
 | inr r=>exact⟨r,rfl⟩
def vB (i:Int):Int:=(2:Int)^i.toNat-1
theorem E6 {i:Int} (h:oU i 1 6=true):i=1\/i=2\/i=3\/i=4\/i=5\/i=6:=by
 unfold oU at h;simp only[aT,decide_eq_true_eq]at h;omega
theorem CQ {i:Int} (h:oU i 1 6=true):cu i=some (vB i):=by
 rcases E6 h with rfl|rfl|rfl|rfl|rfl|rfl<;>rfl
theorem Ks {i:Int} (h:oU i 1 6=true):∃t,shl .i64 1 (IntKind.u64.wrap i)=some t/\oL (t-1)=vB i:=by
 rcases E6 h with rfl|rfl|rfl|rfl|rfl|rfl<;>exact⟨_,rfl,rfl⟩
theorem G7 {i:Int} (h:oU i 1 6=true):1<=vB i/\vB i<=63:=by
 rcases E6 h with rfl|rfl|rfl|rfl|rfl|rfl<;>decide
theorem BU (x:BitVec 64):IntKind.i64.wrap (x.toNat:Int)=x.toInt:=by
 have hx:=x.isLt;rw[BitVec.toInt_eq_toNat_cond];show (let m:=(x.toNat:Int)%18446744073709551616;if (true&&decide (m>=9223372036854775808))=true then m-18446744073709551616 else m)=_
 simp only[Bool.true_and,decide_eq_true_eq];have h1:(x.toNat:Int)%18446744073709551616=(x.toNat:Int):=by omega
 rw[h1];split<;>split<;>omega
theorem vK {b:Int} (h1:-9223372036854775808<=b) (h2:b<=9223372036854775807):(BitVec.ofInt 64 b).toInt=b:=by
 rw[BitVec.toInt_ofInt];unfold Int.bmod;simp only;split<;>omega
theorem IC (a b:Int):tO .i64 a b=(BitVec.ofInt 64 a&&&BitVec.ofInt 64 b).toInt:=BU _
theorem Lp (a b:Int):zl .i64 a b=(BitVec.ofInt 64 a &&& ~~~ BitVec.ofInt 64 b).toInt:=BU _
theorem F9 (x y:BitVec 64):x&&&y=x↔x &&& ~~~ y=0:=by
 constructor
 · intro h;apply BitVec.eq_of_getLsbD_eq;intro i hi;have:=congrArg (λz=>z.getLsbD i) h
   simp only[BitVec.getLsbD_and]at this;simp only[BitVec.getLsbD_and,BitVec.getLsbD_not,BitVec.getLsbD_zero,hi,decide_true,Bool.true_and];cases hx:x.getLsbD i<;>cases hy:y.getLsbD i<;>simp_all
 · intro h;apply BitVec.eq_of_getLsbD_eq;intro i hi;have:=congrArg (λz=>z.getLsbD i) h
   simp only[BitVec.getLsbD_and,BitVec.getLsbD_not,BitVec.getLsbD_zero,hi,decide_true,Bool.true_and]at this;simp only[BitVec.getLsbD_and];cases hx:x.getLsbD i<;>cases hy:y.getLsbD i<;>simp_all
theorem CR {b m:Int} (h1:-9223372036854775808<=b) (h2:b<=9223372036854775807):(tO .i64 b m != b)=(zl .i64 b m != 0):=by
 rw[IC,Lp];have e:((BitVec.ofInt 64 b&&&BitVec.ofInt 64 m).toInt=b)↔((BitVec.ofInt 64 b &&& ~~~ BitVec.ofInt 64 m).toInt=0):=by
  constructor
  · intro h;have:BitVec.ofInt 64 b&&&BitVec.ofInt 64 m=BitVec.ofInt 64 b:=BitVec.eq_of_toInt_eq (by rw[h,vK h1 h2])
    rw[(F9 _ _).1 this];rfl
  · intro h;have:BitVec.ofInt 64 b &&& ~~~ BitVec.ofInt 64 m=0:=BitVec.eq_of_toInt_eq (by rw[h];rfl)
    rw[(F9 _ _).2 this,vK h1 h2]
 by_cases h:(BitVec.ofInt 64 b&&&BitVec.ofInt 64 m).toInt=b
 · have h':=e.1 h;simp[h,h']
 · have h':¬(BitVec.ofInt 64 b &&& ~~~ BitVec.ofInt 64 m).toInt=0:=λk=>h (e.2 k);rw[bne_iff_ne.2 h,bne_iff_ne.2 h']
theorem Fa {b m t:Int} (h1:-9223372036854775808<=b) (h2:b<=9223372036854775807) (hm:oU m 0 t=true) (ht:t<=63) (h:(tO .i64 b m != b)=false):oU b 0 t=true:=by
 unfold oU at hm ⊢;simp only[aT,decide_eq_true_eq]at hm ⊢;have h:tO .i64 b m=b:=by simpa using h
 rw[IC]at h;have e:BitVec.ofInt 64 b&&&BitVec.ofInt 64 m=BitVec.ofInt 64 b:=BitVec.eq_of_toInt_eq (by rw[h,vK h1 h2])
 have hM:(BitVec.ofInt 64 m).toNat=m.toNat:=by
  rw[BitVec.toNat_ofInt];omega
 have hle:(BitVec.ofInt 64 b).toNat<=m.toNat:=by
  rw[←e,BitVec.toNat_and,hM];exact Nat.and_le_right
 have hb:(BitVec.ofInt 64 b).toInt=((BitVec.ofInt 64 b).toNat:Int):=by
  rw[BitVec.toInt_eq_toNat_cond];split<;>omega
 rw[vK h1 h2]at hb;omega
def vW (v:pU) (i:Int) (k:Nat):Bool:=match v.1[k]? with
 | some r=>!(oU r.1 1 99)||((decide (0<k)&&(match v.1[k-1]? with|some p=>decide (p.1>=r.1)|none=>false))||(!(oU r.2.1 0 (vB i))||(zl .i64 r.2.2 r.2.1 != 0)))
 | none=>false
noncomputable def yZ (v:pU) (k:Nat):Bool:=match v.2[k]? with
 | some x=>(match aj v x with|some t=>decide (t<0)|none=>false)
 | none=>false
noncomputable def so (v:pU) (i:Int):Bool:=!(!(oU i 1 6)||((v.2.length:Int) != i||decide ((v.1.length:Int)>6)))&&(!((List.range v.1.length).any (vW v i))&&!((List.range v.2.length).any (yZ v)))
theorem Hk {v:pU} {i:Int} (hi:oU i 1 6=true) (hn:v.1.length<9223372036854775807):loop (λz=>f6 v i z) 0=some (cond ((List.range v.1.length).any (vW v i)) (Sum.inr false) (Sum.inl ())):=by
 rw[←sP (n:=v.1.length) (c:=λt28=>(at? v.1 t28).bind λx31 =>
  (aa x31.1 1 99).bind λt35 =>
  (cond (!t35) (some true) ((cond (decide (t28>0)) ((at? v.1 (oL (t28-1))).bind λx45=>some (decide (x45.1>=x31.1))) (some false)).bind λt51=>some t51)).bind λt52 =>
  (cond t52 (some true) ((cu i).bind λt57=>(aa x31.2.1 0 t57).bind λt58=>some (!t58))).bind λt60 =>
  (cond t60 (some true) (some ((zl .i64 x31.2.2 x31.2.1) != 0))).bind λt=>some t) (b:=vW v i) hn (λk hk=>by
   simp only[pb hk,oJ,sr,vW,List.getElem?_eq_getElem hk,CQ hi];cases oU v.1[k].1 1 99 with
   | false=>rfl
   | true =>
    by_cases h0:0<k
    · have hd:decide ((k:Int)>0)=true:=dT (by omega);simp only[hd,Ac hk h0 hn,oJ,dT h0,List.getElem?_eq_getElem (show k-1<v.1.length by omega)];cases decide (v.1[k-1].1>=v.1[k].1)<;>cases oU v.1[k].2.1 0 (vB i)<;>rfl
    · have hd:decide ((k:Int)>0)=false:=dF (by omega);simp only[hd,dF h0];cases oU v.1[k].2.1 0 (vB i)<;>rfl)]
 refine r8 (λi=>?_) 0;unfold f6;simp only[Option.bind_assoc,oJ]
theorem G8 {v:pU} {i t:Int} (hi:oU i 1 6=true) (ht:oL (t-1)=vB i) (hn:v.1.length<9223372036854775807) (hw:∀r∈v.1,-9223372036854775808<=r.2.2/\r.2.2<=9223372036854775807):loop (λz=>fa v t z) 0=some (cond ((List.range v.1.length).any (vW v i)) (Sum.inr false) (Sum.inl ())):=by
 rw[←sP (n:=v.1.length) (c:=λt6=>(at? v.1 t6).bind λx39 =>
  (ac x39.1 1 99).bind λt43 =>
  (cond (!t43) (some true) ((ac x39.2.1 0 (oL (t-1))).bind λt49=>some (!t49))).bind λt51 =>
  (cond t51 (some true) ((ac x39.2.2 0 (oL (t-1))).bind λt56=>some (!t56))).bind λt58 =>
  (cond t58 (some true) (some ((tO .i64 x39.2.2 x39.2.1) != x39.2.2))).bind λt68 =>
  (cond t68 (some true) ((cond (decide (t6>0)) ((at? v.1 (oL (t6-1))).bind λx77=>some (decide (x77.1>=x39.1))) (some false)).bind λt83=>some t83)).bind λt=>some t) (b:=vW v i) hn (λk hk=>by
   obtain⟨w1,w2⟩:=hw _ (getElem_mem hk);have hs:=CR (m:=v.1[k].2.1) w1 w2
   have hin:=Fa (m:=v.1[k].2.1) (t:=vB i) w1 w2;have ht2:=(G7 hi).2
   simp only[pb hk,oJ,xF,vW,List.getElem?_eq_getElem hk,ht];rw[←hs];cases h1:oU v.1[k].1 1 99 with
   | false=>rfl
   | true =>
    cases h2:oU v.1[k].2.1 0 (vB i)with
    | false =>
     by_cases h0:0<k
     · simp only[dT h0,List.getElem?_eq_getElem (show k-1<v.1.length by omega)];cases decide (v.1[k-1].1>=v.1[k].1)<;>rfl
     · simp only[dF h0];rfl
    | true =>
     cases h3:(tO .i64 v.1[k].2.2 v.1[k].2.1 != v.1[k].2.2)with
     | true =>
      by_cases h0:0<k
      · simp only[dT h0,List.getElem?_eq_getElem (show k-1<v.1.length by omega)];cases decide (v.1[k-1].1>=v.1[k].1)<;>cases oU v.1[k].2.2 0 (vB i)<;>rfl
      · simp only[dF h0];cases oU v.1[k].2.2 0 (vB i)<;>rfl
     | false =>
      have h4:=hin h2 ht2 h3;rw[h4];by_cases h0:0<k
      · have hd:decide ((k:Int)>0)=true:=dT (by omega);simp only[hd,Ac hk h0 hn,oJ,dT h0,List.getElem?_eq_getElem (show k-1<v.1.length by omega)];cases decide (v.1[k-1].1>=v.1[k].1)<;>rfl
      · have hd:decide ((k:Int)>0)=false:=dF (by omega);simp only[hd,dF h0];rfl)]
 refine r8 (λi=>?_) 0;unfold fa;simp only[Option.bind_assoc,oJ]
theorem CS {v:pU} (hn:v.1.length<9223372036854775807) (hn2:v.2.length<9223372036854775807):loop (λz=>dx v z) 0=some (cond ((List.range v.2.length).any (yZ v)) (Sum.inr false) (Sum.inl ())):=by
 rw[←sP (n:=v.2.length) (c:=λt73=>(at? v.2 t73).bind λx75=>(aj v x75).bind λt79=>some (decide (t79<0))) (b:=yZ v) hn2 (λk hk=>by
  obtain⟨r,hr⟩:=Hj hn v.2[k];simp only[pb hk,oJ,yZ,List.getElem?_eq_getElem hk,hr])]
 refine r8 (λi=>?_) 0;unfold dx;simp only[Option.bind_assoc,oJ]
theorem Lr:iE=dx:=rfl
theorem ID {v:pU} (i:Int) (hn:v.1.length<9223372036854775807) (hn2:v.2.length<9223372036854775807):bO v i=some (so v i):=by
 unfold bO so;simp only[sr,oJ];cases hi:oU i 1 6 with
 | false=>rfl
 | true =>
  rw[Hk hi hn,CS hn hn2];cases ((v.2.length:Int) != i)<;>cases decide ((v.1.length:Int)>6)<;>cases (List.range v.1.length).any (vW v i)<;>cases (List.range v.2.length).any (yZ v)<;>rfl
theorem IE {v:pU} (i:Int) (hn:v.1.length<9223372036854775807) (hn2:v.2.length<9223372036854775807) (hw:∀r∈v.1,-9223372036854775808<=r.2.2/\r.2.2<=9223372036854775807):ca v i=some (so v i):=by
 unfold ca so;simp only[xF,oJ,Lr];cases hi:oU i 1 6 with
 | false=>rfl
 | true =>
  obtain⟨t,h1,h2⟩:=Ks hi;rw[h1,oJ,G8 hi h2 hn hw,CS hn hn2];cases ((v.2.length:Int) != i)<;>cases decide ((v.1.length:Int)>6)<;>cases (List.range v.1.length).any (vW v i)<;>cases (List.range v.2.length).any (yZ v)<;>rfl
def zj (l:List Pt) (k:Nat):Bool:=match l[k]? with|some p=>!(zi p)|none=>false
def tI (b:oI):Bool:=oU b.2.2.2.2.2.2.1 0 1000000&&(oU b.2.2.2.2.2.2.2.1 0 1000000&&(oU b.2.2.2.2.2.2.2.2.1 0 1000000&&(oU b.2.2.2.2.2.2.2.2.2.1 0 1000000&&oU b.2.2.2.2.2.2.2.2.2.2 0 1000000)))
noncomputable def qI (b:oI):Bool:=!((List.range b.2.2.1.length).any (zj b.2.2.1))&&(oU b.1 1 99&&(!(decide ((b.2.1.length:Int)>10))&&(oU (b.2.2.1.length:Int) 1 6&&(u9 b.2.2.2.1&&(so (b.2.2.2.2.1,b.2.2.2.2.2.1) (b.2.2.1.length:Int)&&tI b)))))
structure uQ (b:oI):Prop where
 p:b.2.2.1.length<9223372036854775807
 f:b.2.2.2.1.length<9223372036854775807
 v:b.2.2.2.2.1.length<9223372036854775807
 q:b.2.2.2.2.2.1.length<9223372036854775807
 r:∀r∈b.2.2.2.2.1,-9223372036854775808<=r.2.2/\r.2.2<=9223372036854775807
theorem G9 {b:oI} (h:uQ b):loop (λz=>f7 b z) 0=some (cond ((List.range b.2.2.1.length).any (zj b.2.2.1)) (Sum.inr false) (Sum.inl ())):=by
 rw[←sP (n:=b.2.2.1.length) (c:=λt8=>(at? b.2.2.1 t8).bind λx10=>(cr x10).bind λt13=>some (!t13)) (b:=zj b.2.2.1) h.p (λk hk=>by
  simp only[pb hk,oJ,zj,List.getElem?_eq_getElem hk,Mt])]
 refine r8 (λi=>?_) 0;unfold f7;simp only[Option.bind_assoc,oJ]
theorem Ey {b:oI} (h:uQ b):loop (λz=>fb b z) 0=some (cond ((List.range b.2.2.1.length).any (zj b.2.2.1)) (Sum.inr false) (Sum.inl ())):=by
 rw[←sP (n:=b.2.2.1.length) (c:=λt8=>(at? b.2.2.1 t8).bind λx10=>(cM x10).bind λt13=>some (!t13)) (b:=zj b.2.2.1) h.p (λk hk=>by
  simp only[pb hk,oJ,zj,List.getElem?_eq_getElem hk,Mu])]
 refine r8 (λi=>?_) 0;unfold fb;simp only[Option.bind_assoc,oJ]
theorem Jp (b:oI):dR b=some (tI b):=by
 unfold dR tI;simp only[xF,oJ];cases oU b.2.2.2.2.2.2.1 0 1000000<;>cases oU b.2.2.2.2.2.2.2.1 0 1000000<;>cases oU b.2.2.2.2.2.2.2.2.1 0 1000000<;>cases oU b.2.2.2.2.2.2.2.2.2.1 0 1000000<;>rfl
theorem Kt (n:Int):aV n=some (oU n 0 1000000):=by unfold aV;rw[sr,oJ]
theorem Cj {b:oI} (h:uQ b):bP b=some (qI b):=by
 unfold bP qI tI;rw[G9 h,oJ];cases (List.range b.2.2.1.length).any (zj b.2.2.1)with
 | true=>rfl
 | false =>
  simp only[cF,Sum.elim_inl,sr,M8 h.f,ID (v:=(b.2.2.2.2.1,b.2.2.2.2.2.1)) _ h.v h.q,Kt,oJ];cases oU b.1 1 99<;>cases decide ((b.2.1.length:Int)>10)<;>cases oU (b.2.2.1.length:Int) 1 6<;>cases u9 b.2.2.2.1<;>cases so (b.2.2.2.2.1,b.2.2.2.2.2.1) (b.2.2.1.length:Int) <;>
   cases oU b.2.2.2.2.2.2.1 0 1000000<;>cases oU b.2.2.2.2.2.2.2.1 0 1000000<;>cases oU b.2.2.2.2.2.2.2.2.1 0 1000000<;>cases oU b.2.2.2.2.2.2.2.2.2.1 0 1000000<;>rfl
theorem Ck {b:oI} (h:uQ b):cb b=some (qI b):=by
 unfold cb qI;rw[Ey h,oJ];cases (List.range b.2.2.1.length).any (zj b.2.2.1)with
 | true=>rfl
 | false =>
  have e:decide ((b.2.1.length:Int)<=10)=!(decide ((b.2.1.length:Int)>10)):=by
   by_cases hh:(b.2.1.length:Int)>10
   · rw[dT hh,dF (by omega)];rfl
   · rw[dF hh,dT (by omega)];rfl
  simp only[cF,Sum.elim_inl,xF,M9 h.f,IE (v:=(b.2.2.2.2.1,b.2.2.2.2.2.1)) _ h.v h.q h.r,Jp,oJ,e];cases oU b.1 1 99<;>cases decide ((b.2.1.length:Int)>10)<;>cases oU (b.2.2.1.length:Int) 1 6<;>cases u9 b.2.2.2.1<;>cases so (b.2.2.2.2.1,b.2.2.2.2.2.1) (b.2.2.1.length:Int)<;>cases tI b<;>rfl
theorem IF:ei=bQ:=rfl
theorem IG (a b:u4):∃r,bQ a b=some r:=by
 unfold bQ;cases (a.1 != b.1)<;>cases (a.2.1 != b.2.1)<;>cases (a.2.2.2.1 != b.2.2.2.1)<;>exact⟨_,rfl⟩
theorem Ls:fk=cz:=rfl
theorem Lt (v:u4) (c:Int):∃r,cz v c=some r:=by
 unfold cz;simp only[I7,sr,oJ];cases E5 v<;>cases oU c 1 1000<;>first|exact⟨_,rfl⟩|skip
 generalize E5 (v.1,oL (v.2.1+c),oL (v.2.2.1+1),v.2.2.2.1,v.2.2.2.2)=q;cases q<;>exact⟨_,rfl⟩
theorem Lu (p0:Int) (l:List Pt) (t8 t9 b0 b1 b2 b3 b4 c0 c1 c2 c3 c4:Int):fm p0 l t8 t9 b0 b1 b2 b3 b4 c0 c1 c2 c3 c4=bR p0 l t8 t9 b0 b1 b2 b3 b4 c0 c1 c2 c3 c4:=by
 unfold fm bR;rw[Ls,IF];cases h:at? l t9 with
 | none=>rfl
 | some x=>simp only[oJ]
theorem II:cU=aM:=by
 funext p0 l
 unfold cU aM;rw[r8 (λz=>Lu p0 l _ _ _ _ _ _ _ _ _ _ _ _)]
theorem Lv (p0:Int) {l:List Pt} (hn:l.length<9223372036854775807):∃r,aM p0 l=some r:=by
 unfold aM;obtain⟨b,h1,_⟩:=pr (step:=λz:Int×Int×Int×Int×Int×Int×Int×Int×Int×Int×Int×Int=>bR p0 l z.1 z.2.1 z.2.2.1 z.2.2.2.1 z.2.2.2.2.1 z.2.2.2.2.2.1 z.2.2.2.2.2.2.1 z.2.2.2.2.2.2.2.1 z.2.2.2.2.2.2.2.2.1 z.2.2.2.2.2.2.2.2.2.1 z.2.2.2.2.2.2.2.2.2.2.1 z.2.2.2.2.2.2.2.2.2.2.2)
  (λk z=>z.2.1=(k:Int)) l.length (λ_=>True)
  (λk z hk h=>by
   left;obtain⟨t7,t18,b0,b1,b2,b3,b4,c0,c1,c2,c3,c4⟩:=z;obtain rfl:t18=(k:Int):=h;unfold bR;simp only[pK (show (k:Int)<(l.length:Int) by omega),cT,pb hk,oJ];rw[show oL ((k:Int)+1)=((k+1:Nat):Int)from p9 (by omega)];generalize l[k]=x;have e:(cond (!x.1) (some true) (some (!x.2.2.1)):Option Bool)=some (cond (!x.1) true (!x.2.2.1)):=by cases x.1<;>rfl
   rw[e,oJ];cases (cond (!x.1) true (!x.2.2.1))with
   | true=>exact⟨_,rfl,rfl⟩
   | false =>
    obtain⟨r,hr⟩:=Lt x.2.2.2 x.2.1;obtain⟨q,hq⟩:=IG r.1 (c0,c1,c2,c3,c4);rw[cF,hr,oJ,hq];cases r.2<;>cases decide (r.1.1<p0)<;>cases decide (t7<0)<;>cases q<;>exact⟨_,rfl,rfl⟩)
  (λz h=>by
   obtain⟨t7,t18,b0,b1,b2,b3,b4,c0,c1,c2,c3,c4⟩:=z;obtain rfl:t18=(l.length:Int):=h;unfold bR;simp only[pk (show ¬(l.length:Int)<(l.length:Int) by omega),cF];exact⟨_,rfl,trivial⟩) (x:=((-1),0,p0,0,0,p0,0,0,0,0,0,0)) rfl
 rw[h1,oJ];exact⟨_,rfl⟩
theorem Ma:ej=cA:=by
 funext id l p
 unfold ej cA;rw[II]
theorem IJ:cV=aw:=by
 funext id l p
 unfold cV aw;rw[II,Ma,IF];rfl
theorem Ga (id:Int) {l:List Pt} (hn:l.length<9223372036854775807) (p:Int):∃r,aw id l p=some r:=by
 obtain⟨v,hv⟩:=Lv id hn;unfold aw cA;simp only[sr,oJ,hv];rw[show oL ((l.length:Int)-1)=(l.length:Int)-1 from rb (by omega) (by omega)];cases hp:oU p 0 ((l.length:Int)-1)with
 | false=>exact⟨_,rfl⟩
 | true =>
  unfold oU at hp;simp only[aT,decide_eq_true_eq]at hp;obtain⟨k,rfl⟩:∃k:Nat,p=(k:Int):=⟨p.toNat,by omega⟩;simp only[pb (show k<l.length by omega),oJ];generalize l[k]'(by omega)=x;obtain⟨q,hq⟩:=IG (v.1.1,v.1.2.1,v.1.2.2.1,v.1.2.2.2.1,(k:Int)) x.2.2.2;rw[hq];cases x.1<;>cases (v.2==(k:Int))<;>cases x.2.2.1<;>cases q<;>exact⟨_,rfl⟩
theorem Lw (b:oI) (c p:Int):ez b c p=aW b c p:=by
 unfold ez aW cw;rw[IJ];cases at? b.2.2.1 p with
 | none=>rfl
 | some x=>simp only[oJ];cases x.1<;>rfl
theorem B0 {α:Type} (out:List oK) (name:List Int) (n:Int) (f:List oK->Option α):((aB n).bind λv=>(ar v name).bind λt=>(pw out [t]).bind f)=(ae out name n).bind f:=by
 unfold aB ar ae bz fo;simp only[oJ,Option.bind_assoc]
theorem I8 (b:oI) (c i:Int) (out:List oK):fq b c i out=aN b c i out:=by
 unfold fq aN;simp only[Lw,B0]
theorem Mb {r:oZ} {c:Int} (h:1<=c/\c<=3):((ix [1,r.2.1,r.2.2].length (oL (c-1))).bind λj=>([1,r.2.1,r.2.2][j]?).bind λx=>some x)=fp r c:=by
 have:c=1\/c=2\/c=3:=by omega
 rcases this with rfl|rfl|rfl<;>rfl
theorem Jq (b:oI) {c:Int} (h:1<=c/\c<=3) (i:Int) (out:List oK):ft b c i out=aO b c i out:=by
 unfold ft aO;cases hr:at? b.2.2.2.2.1 i with
 | none=>rfl
 | some r =>
  simp only[oJ,←Mb (r:=r) h,Option.bind_assoc,B0]
theorem Ku (b:oI) (i:Int) (out:List oK):fu b i out=aH b i out:=by
 unfold fu aH;cases hr:at? b.2.2.2.1 i with
 | none=>rfl
 | some r=>simp only[oJ,B0]
theorem Lx (b:oI) (c:Int) (out:List oK):fr b c out=aX b c out:=by
 unfold fr aX;rw[r8 (λz=>I8 b c _ _)]
theorem Ly (b:oI) {c:Int} (h:1<=c) (out:List oK):cY b c out=aY b c out:=by
 unfold cY aY;by_cases h3:c<=3
 · rw[r8 (λz=>Jq b ⟨h,h3⟩ _ _)]
 · rw[dF h3];rfl
theorem Gb (b:oI) {c:Int} {out:List oK} {y:Int×List oK} (h:1<=c) (e:cY b c out=some (.inl y)):1<=y.1:=by
 unfold cY at e;by_cases h3:c<=3
 · rw[dT h3,cT,Option.bind_eq_some_iff]at e;obtain⟨d,_,e⟩:=e;cases e;show 1<=oL (c+1)
   rw[rb (by omega) (by omega)];omega
 · rw[dF h3]at e;cases e
def uE (b:oI):List oK:=[([1,3,1,1,1],4,0,b.2.1,[]),([1,3,1,1,2],2,b.2.2.2.2.2.2.1,[],[]),([1,3,1,1,3],2,b.2.2.2.2.2.2.2.1,[],[]),([1,3,1,1,4],2,b.2.2.2.2.2.2.2.2.1,[],[]),([1,3,1,1,5],2,b.2.2.2.2.2.2.2.2.2.1,[],[])]
theorem Mc (b:oI):ar (4,0,b.2.1,[]) ([1,1]:List Int)=some ([1,3,1,1,1],4,0,b.2.1,[]):=by kernel_rfl
theorem Md (b:oI):rp (λz=>gP b z.1 z.2) 5 (0,[([1,3,1,1,1],4,0,b.2.1,[])])=some (uE b):=by kernel_rfl
theorem Me (b:oI):((bz ([1,1]:List Int)).bind λt14=>(ae ([(t14,4,0,b.2.1,[])]) ([1,2]:List Int) b.2.2.2.2.2.2.1).bind λt24=>(ae t24 ([1,3]:List Int) b.2.2.2.2.2.2.2.1).bind λt29 =>
 (ae t29 ([1,4]:List Int) b.2.2.2.2.2.2.2.2.1).bind λt34=>(ae t34 ([1,5]:List Int) b.2.2.2.2.2.2.2.2.2.1))=some (uE b):=by kernel_rfl
noncomputable def Ad (b:oI) (l:List oK):Option (List oK) :=
 (loop (λz=>aX b z.1 z.2) (1,l)).bind λd_2 =>
  (loop (λz=>aY b z.1 z.2) (1,d_2)).bind λd_4 =>
  (loop (λz=>aH b z.1 z.2) (0,d_4)).bind λd_5 =>
  some d_5
theorem Kv {b:oI} (h:uQ b):aP b=cond (!(qI b)) (some []) (Ad b (uE b)):=by
 unfold aP;rw[Cj h,oJ,Mc,oJ,sx (Md b),oJ];rfl
theorem Mf {b:oI} (h:uQ b):cj b=cond (!(qI b)) (some []) (Ad b (uE b)):=by
 unfold cj;rw[Ck h,oJ];have hc:=Me b
 have e:∀{α:Type} (f:List oK->Option α),((bz ([1,1]:List Int)).bind λt14=>(ae ([(t14,4,0,b.2.1,[])]) ([1,2]:List Int) b.2.2.2.2.2.2.1).bind λt24=>(ae t24 ([1,3]:List Int) b.2.2.2.2.2.2.2.1).bind λt29 =>
  (ae t29 ([1,4]:List Int) b.2.2.2.2.2.2.2.2.1).bind λt34=>(ae t34 ([1,5]:List Int) b.2.2.2.2.2.2.2.2.2.1).bind f)=f (uE b):=by
  intro α f;have:((bz ([1,1]:List Int)).bind λt14=>(ae ([(t14,4,0,b.2.1,[])]) ([1,2]:List Int) b.2.2.2.2.2.2.1).bind λt24=>(ae t24 ([1,3]:List Int) b.2.2.2.2.2.2.2.1).bind λt29 =>
   (ae t29 ([1,4]:List Int) b.2.2.2.2.2.2.2.2.1).bind λt34=>(ae t34 ([1,5]:List Int) b.2.2.2.2.2.2.2.2.2.1)).bind f=f (uE b):=by rw[hc,oJ]
  rw[←this];simp only[Option.bind_assoc]
 rw[e]
 congr 1
 unfold Ad;rw[r8 (λz=>Lx b _ _)]
 congr 1
 funext d
 rw[BT (λz:Int×List oK=>1<=z.1) (λz hz=>Ly b hz _) (λz y hz e=>Gb b hz e) (show (1:Int)<=1 by omega)]
 congr 1
 funext d
 rw[r8 (λz=>Ku b _ _)]
theorem E7 {b:oI} (h:uQ b):cj b=aP b:=by rw[Mf h,Kv h]

theorem Lz {b:oI} (h:uQ b) (c:Int) {k:Nat} (hk:k<b.2.2.1.length) (hq:b.2.2.1.length=b.2.2.2.2.2.1.length):∃n,aW b c (k:Int)=some n:=by
 obtain⟨r,hr⟩:=Ga b.1 h.p (k:Int);unfold aW cw;rw[pb hk,pb (show k<b.2.2.2.2.2.1.length by omega),hr];simp only[oJ];cases (c==1)<;>cases (c==2)<;>cases (c==3)<;>cases (b.2.2.1[k]).1<;>exact⟨_,rfl⟩
theorem Jr {α:Type} {xs ys:List α} (h:xs.length+ys.length<=4294967296):pw xs ys=some (xs++ys):=by
 unfold pw;rw[if_pos (show xs.length+ys.length<=xK from h)]
noncomputable def tN (id:Int) (l:List Pt) (p:Int):Int:=(aw id l p).getD 0
theorem z0 (id:Int) {l:List Pt} (hn:l.length<9223372036854775807) (p:Int):aw id l p=some (tN id l p):=by
 obtain⟨r,hr⟩:=Ga id hn p;unfold tN;rw[hr];rfl
def Gc (l:List Int) (x:Int):Bool:=decide (x∈l)
def vL (b:Nat->Bool) (m:Nat):List Int:=((List.range m).filter b).map λ(k:Nat)=>(k:Int)
theorem I9 (b:Nat->Bool) (m:Nat):(vL b m).length<=m:=by
 unfold vL;rw[length_map];exact Nat.le_trans (List.length_filter_le _ _) (by simp)
theorem Ge (b:Nat->Bool) (m:Nat):vL b (m+1)=cond (b m) (vL b m++[(m:Int)]) (vL b m):=by
 unfold vL;rw[range_succ,List.filter_append,map_append];cases h:b m<;>simp[h]
theorem ud {n:Nat} {c:Int->Option Bool} {b:Nat->Bool} (hn:n<=1048576) (hc:∀k,k<n->c (k:Int)=some (b k)) :
 loop (λz:Int×List Int=>cond (decide (z.1<(n:Int))) ((c z.1).bind λt=>cond t ((pw z.2 [z.1]).bind λzs=>some (.inl (oL (z.1+1),zs))) (some (.inl (oL (z.1+1),z.2)))) (some (.inr z.2))) (0,([]:List Int))=some (vL b n):=by
 obtain⟨v,h1,rfl⟩:=pr (step:=λz:Int×List Int=>cond (decide (z.1<(n:Int))) ((c z.1).bind λt=>cond t ((pw z.2 [z.1]).bind λzs=>some (.inl (oL (z.1+1),zs))) (some (.inl (oL (z.1+1),z.2)))) (some (.inr z.2))) (λk z=>z.1=(k:Int)/\z.2=vL b k) n (λl=>l=vL b n)
  (λk z hk ⟨e1,e2⟩=>by
   obtain⟨i,l⟩:=z;simp only at e1 e2;subst e1 e2;left;have hle:=I9 b k
   refine⟨(oL ((k:Int)+1),vL b (k+1)),?_,p9 (by omega),rfl⟩;simp only[pK (show (k:Int)<(n:Int) by omega),cT,hc k hk,oJ];rw[Ge];cases b k with
   | false=>rfl
   | true=>rw[cT,Jr (by simp;omega)];rfl)
  (λz ⟨e1,e2⟩=>by
   obtain⟨i,l⟩:=z;simp only at e1 e2;subst e1 e2;exact⟨_,by simp only[pk (show ¬(n:Int)<(n:Int) by omega),cF],rfl⟩) (x:=(0,[])) ⟨rfl,rfl⟩
 exact h1
def Fb (l:List Bool):Nat:=l.count true
theorem Kw (l:List Bool):Fb l<=l.length:=List.count_le_length
theorem Js {l:List Bool} {i:Nat} (h:l[i]?=some false):Fb (l.set i true)=Fb l+1:=by
 obtain⟨hi,he⟩:=List.getElem?_eq_some_iff.1 h;unfold Fb;rw[List.count_set hi,he];simp
theorem Kx {n k:Nat} (h:k<n):oU (k:Int) 0 ((n:Int)-1)=true:=by
 unfold oU;rw[dT (by omega),dT (by omega)];rfl
structure E8 (X:List Int) (l:List Bool):Prop where
 r:∀x∈X,∃k:Nat,k<l.length/\x=(k:Int)
 m:∀k,k<l.length->l[k]?=some (Gc X (k:Int))
 c:X.length=Fb l
theorem E8.len {X:List Int} {l:List Bool} (h:E8 X l):X.length<=l.length:=by rw[h.c];exact Kw l
theorem E8.add {X:List Int} {l:List Bool} (h:E8 X l) {i:Nat} (hi:l[i]?=some false):E8 (X++[(i:Int)]) (l.set i true):=by
 obtain⟨hi',he⟩:=List.getElem?_eq_some_iff.1 hi;refine⟨λx hx=>?_,λk hk=>?_,?_⟩
 · rw[List.length_set];rcases mem_append.1 hx with hx|hx
   · exact h.r x hx
   · simp at hx;exact⟨i,hi',hx⟩
 · rw[List.length_set]at hk;rw[List.getElem?_set];split
   · rename_i e;subst e;rw[show Gc (X++[(i:Int)]) (i:Int)=true from dT (by simp)]
   · rename_i e;rw[h.m k hk]
     congr 1
     unfold Gc;apply decide_eq_decide.2;rw[mem_append,List.mem_singleton];constructor
     · exact .inl
     · rintro (h|h)
       · exact h
       · omega
 · rw[length_append,Js hi,h.c];rfl
theorem E8.in {X:List Int} {l:List Bool} (h:E8 X l) {x:Int} (hx:Gc X x=true):oU x 0 ((l.length:Int)-1)=true:=by
 obtain⟨k,hk,rfl⟩:=h.r x (of_decide_eq_true hx);exact Kx hk
def start (n:Nat) (b:Nat):List Bool:=(List.replicate n false).set b true
theorem LA (id:Int) {l:List Pt} (hn:l.length<9223372036854775807) (p:Int):1<=tN id l p:=by
 have h:=z0 id hn p
 revert h
 generalize tN id l p=v;unfold aw;rw[sr,oJ];intro h;have key:∀(o:Option Bool) (f:Bool->Option Int),(∀t x,f t=some x->1<=x)->o.bind f=some v->1<=v:=by
  intro o f hf h;cases o with
  | none=>cases h
  | some t=>exact hf t v h
 refine key _ _ (λt x hx=>?_) h;cases t with
 | true=>cases hx;decide
 | false =>
  rw[cF]at hx;cases hbv:aM id l with
  | none=>rw[hbv]at hx;cases hx
  | some w =>
   rw[hbv,oJ]at hx;cases hw:w.2==p with
   | true=>rw[hw]at hx;cases hx;decide
   | false =>
    rw[hw,cF]at hx;cases ha:at? l p with
    | none=>rw[ha]at hx;cases hx
    | some y =>
     rw[ha,oJ]at hx
     revert hx
     generalize (cond (!y.2.2.1) _ _:Option Bool)=o;intro hx;cases o with
     | none=>cases hx
     | some t=>cases t<;>(cases hx;decide)
theorem BV {k:Nat} (h:k<64):IntKind.u64.wrap (k:Int)=(k:Int):=by
 show ((k:Int)%18446744073709551616)=_;omega
theorem LB:∀b:Fin 64,∀p:Fin 6,∃t c,shl .i64 1 (p.1:Int)=some t/\B8 .i64 (b.1:Int) t=(c:Int)/\0<=c/\c<64:=by
 intro b p;have h:∀b:Fin 64,∀p:Fin 6,(decide (0<=B8 .i64 (b.1:Int) (2^p.1))&&decide (B8 .i64 (b.1:Int) (2^p.1)<64))=true:=by decide
 have h1:=h b p;simp only[aT,decide_eq_true_eq]at h1;have h2:∀p:Fin 6,shl .i64 1 (p.1:Int)=some (2^p.1):=by decide
 exact⟨_,_,h2 p,rfl,h1.1,h1.2⟩
theorem Ky {r:Int} (h:1<=r):decide (r<=2)=(r==1||r==2):=by
 by_cases h2:r<=2
 · rw[dT h2];rcases (show r=1\/r=2 by omega)with rfl|rfl<;>rfl
 · rw[dF h2,beq_eq_false_iff_ne.2 (show r≠1 by omega),beq_eq_false_iff_ne.2 (show r≠2 by omega)];rfl
theorem BW (id:Int) {l:List Pt} (hn:l.length<9223372036854775807) (z:Int×Int) (hz:0<=z.2):cW id l z.1 z.2=aD id l z.1 z.2:=by
 unfold cW aD;rw[IJ,z0 id hn,oJ];have hr:=LA id hn z.2
 by_cases h1:z.2<(l.length:Int)
 · rw[pK h1,cT];by_cases h2:z.2<6
   · rw[pK h2,oJ,oJ,cT,cT,oJ,Ky hr];obtain⟨k,hk⟩:∃k:Nat,z.2=(k:Int):=⟨z.2.toNat,by omega⟩;rw[hk,BV (by omega)];cases tN id l (k:Int)==1<;>cases tN id l (k:Int)==2<;>rfl
   · rw[pk h2];rfl
 · rw[pk h1];rfl
theorem Kz (id:Int) {l:List Pt} (hn:l.length<9223372036854775807):∃c:Nat,c<64/\dH id l=some (c:Int)/\em id l=some (c:Int):=by
 obtain⟨v,h1,c,h2,rfl⟩:=pr (step:=λz:Int×Int=>aD id l z.1 z.2) (λk z=>z.2=(k:Int)/\∃c:Nat,c<64/\z.1=(c:Int)) (min l.length 6) (λv=>∃c:Nat,c<64/\v=(c:Int))
  (λk z hk ⟨e1,c,e2,e3⟩=>by
   obtain⟨b,i⟩:=z;simp only at e1 e3;subst e1 e3;left;have k6:k<6:=by omega
   obtain⟨t,d,b1,b2,b3,b4⟩:=LB ⟨c,e2⟩ ⟨k,k6⟩;have hs:aD id l (c:Int) (k:Int)=cond (tN id l (k:Int)==1||tN id l (k:Int)==2) (some (.inl ((d:Int),((k+1:Nat):Int)))) (some (.inl ((c:Int),((k+1:Nat):Int)))):=by
    unfold aD;rw[pK (show (k:Int)<(l.length:Int) by omega),pK (show (k:Int)<6 by omega),cT,oJ,cT,z0 id hn,oJ,b1,oJ,b2,p9 (by omega)];cases tN id l (k:Int)==1<;>cases tN id l (k:Int)==2<;>rfl
   show ∃y,aD id l (c:Int) (k:Int)=_/\_;rw[hs];cases (tN id l (k:Int)==1||tN id l (k:Int)==2)with
   | true=>exact⟨_,rfl,rfl,d.toNat,by omega,by show d=_;omega⟩
   | false=>exact⟨_,rfl,rfl,c,e2,rfl⟩)
  (λz ⟨e1,c,e2,e3⟩=>by
   obtain⟨b,i⟩:=z;simp only at e1 e3;subst e1 e3;refine⟨(c:Int),?_,c,e2,rfl⟩;show aD id l _ _=_
   unfold aD;by_cases h:l.length<=6
   · rw[Nat.min_eq_left h,pk (by omega)];rfl
   · rw[Nat.min_eq_right (by omega),pK (by omega),pk (show ¬(((6:Nat):Int)<6) by omega)];rfl) (x:=(0,0)) ⟨rfl,0,by omega,rfl⟩
 refine⟨c,h2,by unfold dH;rw[h1];rfl,?_⟩;unfold em;rw[BT (f:=λz:Int×Int=>cW id l z.1 z.2) (g:=λz:Int×Int=>aD id l z.1 z.2) (λz=>0<=z.2/\z.2<=9223372036854775806) (λz hz=>BW id hn z hz.1) (λz y hz hy=>by
  have hy':cW id l z.1 z.2=some (.inl y):=hy;rw[BW id hn z hz.1]at hy';unfold aD at hy';by_cases h1:z.2<(l.length:Int)
  · by_cases h2:z.2<6
    · rw[pK h1,pK h2,cT,oJ,cT,z0 id hn,oJ]at hy';have hw:oL (z.2+1)=z.2+1:=rb (by omega) (by omega)
      rw[hw]at hy'
      revert hy'
      generalize (cond (tN id l z.2==1) (some true) (some (tN id l z.2==2)))=o;intro hy';cases o with
      | none=>cases hy'
      | some t =>
       rw[oJ]at hy';cases t with
       | false=>cases hy';exact⟨by show 0<=z.2+1;omega,by show z.2+1<=_;omega⟩
       | true =>
        rw[cT]at hy';cases hs:shl .i64 1 z.2 with
        | none=>rw[hs]at hy';cases hy'
        | some q=>rw[hs]at hy';cases hy';exact⟨by show 0<=z.2+1;omega,by show z.2+1<=_;omega⟩
    · rw[pK h1,pk h2]at hy';cases hy'
  · rw[pk h1]at hy';cases hy') (x:=(0,0)) ⟨by decide,by decide⟩,h1]
 rfl
abbrev Mv (x:Int):Prop:=-9223372036854775808<=x/\x<=9223372036854775807
structure VT (v:pU) (n:Nat):Prop where
 p:so v (n:Int)=true
 r:∀r∈v.1,Mv r.2.2
theorem VT.len {v:pU} {n:Nat} (h:VT v n):1<=n/\n<=6/\v.2.length=n/\v.1.length<=6:=by
 have hp:=h.p;unfold so oU at hp;simp only[aT,Bool.not_eq_true',Bool.or_eq_false_iff,Bool.not_eq_false',aT,decide_eq_true_eq,decide_eq_false_iff_not,bne_eq_false_iff_eq]at hp;obtain⟨⟨h1,h2,h3⟩,_⟩:=hp;omega
theorem tC {α:Type} {l:List α} {a b:Nat} (h1:a<=b) (h2:b<=l.length):cut l (a:Int) (b:Int)=some ((l.take b).drop a):=by
 unfold cut;rw[if_pos (by omega),if_pos (by omega),if_pos (by omega)];simp
theorem p5 {α:Type} {xs ys:List α} (h:xs.length+ys.length<=4294967296):pw xs ys=some (xs++ys):=by
 unfold pw;rw[if_pos (show xs.length+ys.length<=xK from h)]
def lt (a b:oT):Prop:=a.1<b.1\/(a.1=b.1/\a.2.1<b.2.1)
def same (a b:oT):Prop:=a.1=b.1/\a.2.1=b.2.1
theorem lt_trans {a b c:oT} (h:lt a b) (k:lt b c):lt a c:=by unfold lt at *;omega
structure FB (l:List oT):Prop where
 e:∀x∈l,yY x=true
 o:l.Pairwise lt
 n:l.length<=12
theorem FB.ok {l:List oT} (h:FB l):u9 l=true:=by
 unfold u9;have hn:=h.n
 rw[dT (show (l.length:Int)<=12 by omega),Bool.and_true,Bool.not_eq_true'];apply Bool.eq_false_iff.2;intro ha;obtain⟨k,hk,hx⟩:=any_eq_true.1 ha;have hk:=mem_range.1 hk
 unfold tM at hx;simp only[List.getElem?_eq_getElem hk,h.e _ (getElem_mem hk),Bool.not_true,Bool.false_or,aT,decide_eq_true_eq]at hx;obtain⟨h0,hx⟩:=hx;simp only[List.getElem?_eq_getElem (show k-1<l.length by omega),Bool.not_eq_true']at hx;have hl:=List.pairwise_iff_getElem.1 h.o (k-1) k (by omega) hk (by omega)
 unfold uP at hx;simp only[Bool.or_eq_false_iff,Bool.and_eq_false_iff,decide_eq_false_iff_not,bF]at hx;unfold lt at hl;omega
theorem E9 {α β:Type} (l:List α) (i:Int) (f:α->Option β):((ix l.length i).bind λj=>(l[j]?).bind f)=(at? l i).bind f:=by
 unfold ix at?;by_cases h0:0<=i
 · rw[if_pos h0,if_pos h0];by_cases h1:i<(l.length:Int)
   · rw[if_pos h1,oJ]
   · rw[if_neg h1,List.getElem?_eq_none (by omega)];rfl
 · rw[if_neg h0,if_neg h0];rfl
noncomputable def z4 (b:oI) (c p:Int):Int:=(aW b c p).getD 0
def num (name:List Int) (n:Int):oK:=([1,3,1]++name,2,n,[],[])
def zU (r:oZ) (c:Nat):Int:=match c with|0=>1|1=>r.2.1|_=>r.2.2
noncomputable def qX (b:oI) (c:Nat):List oK:=(List.range b.2.2.1.length).map λk=>num [2,((c+1:Nat):Int),((k+1:Nat):Int)] (z4 b ((c+1:Nat):Int) (k:Int))
def s7 (b:oI) (c:Nat):List oK:=b.2.2.2.2.1.map λr=>num [3,((c+1:Nat):Int),r.1] (zU r c)
def xW (b:oI):List oK:=b.2.2.2.1.map λe=>num [4,1,e.1,e.2.1] (oL (e.2.2.1+1))
noncomputable def rz (b:oI):List oK:=uE b++(List.range 4).flatMap (qX b)++(List.range 3).flatMap (s7 b)++xW b
theorem B1 {out:List oK} (name:List Int) (n i:Int) (h1:out.length<=900) (h2:name.length<=900):((aB n).bind λv=>(ar v name).bind λt=>(pw out [t]).bind λzs=>some (Sum.inl (oL (i+1),zs):(Int×List oK)⊕List oK))=some (Sum.inl (oL (i+1),out++[num name n])):=by
 unfold aB ar;rw[oJ,p5 (by show 3+name.length<=_;omega),oJ,oJ,p5 (by show out.length+1<=_;omega),oJ];rfl
theorem LC {b:oI} (h:uQ b) (hq:b.2.2.1.length=b.2.2.2.2.2.1.length) (h6:b.2.2.1.length<=6) (c:Nat) (out:List oK) (ho:out.length<=500):loop (λz=>aN b ((c+1:Nat):Int) z.1 z.2) (0,out)=some (out++qX b c):=by
 obtain⟨v,h1,rfl⟩:=pr (step:=λz:Int×List oK=>aN b ((c+1:Nat):Int) z.1 z.2) (λk z=>z.1=(k:Int)/\z.2=out++(List.range k).map λk=>num [2,((c+1:Nat):Int),((k+1:Nat):Int)] (z4 b ((c+1:Nat):Int) (k:Int))) b.2.2.1.length (λv=>v=out++qX b c)
  (λk z hk ⟨e1,e2⟩=>by
   obtain⟨i,l⟩:=z;simp only at e1 e2;subst e1;left;obtain⟨n,hn⟩:=Lz h ((c+1:Nat):Int) hk hq;have hv:z4 b ((c+1:Nat):Int) (k:Int)=n:=by unfold z4;rw[hn];rfl
   have hl:l.length<=900:=by rw[e2];simp;omega
   refine⟨(((k+1:Nat):Int),l++[num [2,((c+1:Nat):Int),((k+1:Nat):Int)] n]),?_,rfl,?_⟩
   · show aN b ((c+1:Nat):Int) (k:Int) l=_;unfold aN;rw[pK (by omega),cT,hn,oJ,B1 _ _ _ hl (by simp),p9 (by omega)]
   · show l++[num _ n]=_;rw[e2,range_succ,map_append,←append_assoc,List.map_singleton,hv])
  (λz ⟨e1,e2⟩=>by
   obtain⟨i,l⟩:=z;simp only at e1 e2;subst e1;refine⟨l,?_,e2⟩;show aN b ((c+1:Nat):Int) _ l=_
   unfold aN;rw[pk (by omega),cF]) (x:=(0,out)) ⟨rfl,by simp⟩
 exact h1
theorem KA {b:oI} (h:uQ b) (hq:b.2.2.1.length=b.2.2.2.2.2.1.length) (h6:b.2.2.1.length<=6) (out:List oK) (ho:out.length<=100):loop (λz=>aX b z.1 z.2) (1,out)=some (out++(List.range 4).flatMap (qX b)):=by
 have hg:∀c,(qX b c).length<=6:=λc=>by unfold qX;rw[length_map,List.length_range];exact h6
 obtain⟨v,h1,rfl⟩:=pr (step:=λz:Int×List oK=>aX b z.1 z.2) (λk z=>z.1=((k+1:Nat):Int)/\z.2=out++(List.range k).flatMap (qX b)/\z.2.length<=100+6*k) 4 (λv=>v=out++(List.range 4).flatMap (qX b))
  (λk z hk ⟨e1,e2,e3⟩=>by
   obtain⟨i,l⟩:=z;simp only at e1 e2 e3;subst e1;left;have hg':=hg k
   refine⟨(((k+1+1:Nat):Int),l++qX b k),?_,rfl,?_,by show (l++qX b k).length<=_;rw[length_append];omega⟩
   · show aX b ((k+1:Nat):Int) l=_;unfold aX;rw[dT (show ((k+1:Nat):Int)<=4 by omega),cT,LC h hq h6 k l (by omega),oJ,p9 (by omega)]
   · show l++qX b k=_;rw[e2,range_succ,List.flatMap_append,←append_assoc];simp)
  (λz ⟨e1,e2,e3⟩=>by
   obtain⟨i,l⟩:=z;simp only at e1 e2 e3;subst e1;exact⟨l,rfl,e2⟩) (x:=(1,out)) ⟨rfl,by simp,by show out.length<=_;omega⟩
 exact h1
theorem Mg {b:oI} (h6:b.2.2.2.2.1.length<=6) {c:Nat} (hc:c<3) (out:List oK) (ho:out.length<=500):loop (λz=>aO b ((c+1:Nat):Int) z.1 z.2) (0,out)=some (out++s7 b c):=by
 obtain⟨v,h1,rfl⟩:=pr (step:=λz:Int×List oK=>aO b ((c+1:Nat):Int) z.1 z.2) (λk z=>z.1=(k:Int)/\z.2=out++(b.2.2.2.2.1.take k).map λr=>num [3,((c+1:Nat):Int),r.1] (zU r c)) b.2.2.2.2.1.length (λv=>v=out++s7 b c)
  (λk z hk ⟨e1,e2⟩=>by
   obtain⟨i,l⟩:=z;simp only at e1 e2;subst e1;left;have hl:l.length<=900:=by rw[e2];simp;omega
   refine⟨(((k+1:Nat):Int),l++[num [3,((c+1:Nat):Int),b.2.2.2.2.1[k].1] (zU b.2.2.2.2.1[k] c)]),?_,rfl,?_⟩
   · show aO b ((c+1:Nat):Int) (k:Int) l=_;unfold aO;rw[pK (by omega),cT,pb hk,oJ];generalize b.2.2.2.2.1[k]=r;have hw:oL (((c+1:Nat):Int)-1)=(c:Int):=by rw[rb (by omega) (by omega)];omega
     have hx:(ix [1,r.2.1,r.2.2].length (oL (((c+1:Nat):Int)-1))).bind (λj91=>([1,r.2.1,r.2.2][j91]?).bind λx92=>(aB x92).bind λt93=>(ar t93 [3,((c+1:Nat):Int),r.1]).bind λt98=>(pw l [t98]).bind λzs100=>some (Sum.inl (oL ((k:Int)+1),zs100):(Int×List oK)⊕List oK))=(aB (zU r c)).bind λt93=>(ar t93 [3,((c+1:Nat):Int),r.1]).bind λt98=>(pw l [t98]).bind λzs100=>some (Sum.inl (oL ((k:Int)+1),zs100)):=by
      rw[hw,tY (show c<[1,r.2.1,r.2.2].length from hc),oJ];rcases (show c=0\/c=1\/c=2 by omega)with rfl|rfl|rfl<;>rfl
     rw[hx,B1 _ _ _ hl (by simp),p9 (by omega)]
   · show l++[num _ _]=_;rw[e2,take_add_one,List.getElem?_eq_getElem hk,map_append,←append_assoc];rfl)
  (λz ⟨e1,e2⟩=>by
   obtain⟨i,l⟩:=z;simp only at e1 e2;subst e1;rw[take_length]at e2;refine⟨l,?_,e2⟩;show aO b ((c+1:Nat):Int) _ l=_
   unfold aO;rw[pk (by omega),cF]) (x:=(0,out)) ⟨rfl,by simp⟩
 exact h1
theorem LD {b:oI} (h6:b.2.2.2.2.1.length<=6) (out:List oK) (ho:out.length<=200):loop (λz=>aY b z.1 z.2) (1,out)=some (out++(List.range 3).flatMap (s7 b)):=by
 have hg:∀c,(s7 b c).length<=6:=λc=>by unfold s7;rw[length_map];exact h6
 obtain⟨v,h1,rfl⟩:=pr (step:=λz:Int×List oK=>aY b z.1 z.2) (λk z=>z.1=((k+1:Nat):Int)/\z.2=out++(List.range k).flatMap (s7 b)/\z.2.length<=200+6*k) 3 (λv=>v=out++(List.range 3).flatMap (s7 b))
  (λk z hk ⟨e1,e2,e3⟩=>by
   obtain⟨i,l⟩:=z;simp only at e1 e2 e3;subst e1;left;have hg':=hg k
   refine⟨(((k+1+1:Nat):Int),l++s7 b k),?_,rfl,?_,by show (l++s7 b k).length<=_;rw[length_append];omega⟩
   · show aY b ((k+1:Nat):Int) l=_;unfold aY;rw[dT (show ((k+1:Nat):Int)<=3 by omega),cT,Mg h6 hk l (by omega),oJ,p9 (by omega)]
   · show l++s7 b k=_;rw[e2,range_succ,List.flatMap_append,←append_assoc];simp)
  (λz ⟨e1,e2,e3⟩=>by
   obtain⟨i,l⟩:=z;simp only at e1 e2 e3;subst e1;exact⟨l,rfl,e2⟩) (x:=(1,out)) ⟨rfl,by simp,by show out.length<=_;omega⟩
 exact h1
theorem Mh {b:oI} (h12:b.2.2.2.1.length<=12) (out:List oK) (ho:out.length<=500):loop (λz=>aH b z.1 z.2) (0,out)=some (out++xW b):=by
 obtain⟨v,h1,rfl⟩:=pr (step:=λz:Int×List oK=>aH b z.1 z.2) (λk z=>z.1=(k:Int)/\z.2=out++(b.2.2.2.1.take k).map λe=>num [4,1,e.1,e.2.1] (oL (e.2.2.1+1))) b.2.2.2.1.length (λv=>v=out++xW b)
  (λk z hk ⟨e1,e2⟩=>by
   obtain⟨i,l⟩:=z;simp only at e1 e2;subst e1;left;have hl:l.length<=900:=by rw[e2];simp;omega
   refine⟨(((k+1:Nat):Int),l++[num [4,1,b.2.2.2.1[k].1,b.2.2.2.1[k].2.1] (oL (b.2.2.2.1[k].2.2.1+1))]),?_,rfl,?_⟩
   · show aH b (k:Int) l=_;unfold aH;rw[pK (by omega),cT,pb hk,oJ,B1 _ _ _ hl (by simp),p9 (by omega)]
   · show l++[num _ _]=_;rw[e2,take_add_one,List.getElem?_eq_getElem hk,map_append,←append_assoc];rfl)
  (λz ⟨e1,e2⟩=>by
   obtain⟨i,l⟩:=z;simp only at e1 e2;subst e1;rw[take_length]at e2;refine⟨l,?_,e2⟩;show aH b _ l=_
   unfold aH;rw[pk (by omega),cF]) (x:=(0,out)) ⟨rfl,by simp⟩
 exact h1
structure qy (b:oI):Prop where
 w:uQ b
 ok:qI b=true
 p:∀x∈b.2.2.1,zi x=true
 id:oU b.1 1 99=true
 name:b.2.1.length<=10
 n1:1<=b.2.2.1.length
 n6:b.2.2.1.length<=6
 f:u9 b.2.2.2.1=true
 v:so (b.2.2.2.2.1,b.2.2.2.2.2.1) (b.2.2.1.length:Int)=true
 c:tI b=true
theorem Fc {b:oI} (h:uQ b) (hb:qI b=true):qy b:=by
 have hb':=hb;unfold qI at hb;simp only[aT,Bool.not_eq_true',decide_eq_false_iff_not]at hb;obtain⟨h1,h2,h3,h4,h5,h6,h7⟩:=hb;refine⟨h,hb',λx hx=>?_,h2,by omega,?_,?_,h5,h6,h7⟩
 · obtain⟨k,hk,rfl⟩:=getElem_of_mem hx;cases hp:zi b.2.2.1[k]with
   | true=>rfl
   | false =>
    have:=any_eq_false.1 h1 k (mem_range.2 hk);unfold zj at this;simp only[List.getElem?_eq_getElem hk,hp]at this;exact absurd rfl this
 · unfold oU at h4;simp only[aT,decide_eq_true_eq]at h4;omega
 · unfold oU at h4;simp only[aT,decide_eq_true_eq]at h4;omega
theorem qy.vt {b:oI} (h:qy b):VT (b.2.2.2.2.1,b.2.2.2.2.2.1) b.2.2.1.length:=⟨h.v,h.w.r⟩
theorem qy.f12 {b:oI} (h:qy b):b.2.2.2.1.length<=12:=by
 have hf:=h.f;unfold u9 at hf;simp only[aT,decide_eq_true_eq]at hf;omega
theorem KB {b:oI} (h:qy b):aP b=some (rz b):=by
 obtain⟨v1,v2,v3,v4⟩:=h.vt.len;have v3':b.2.2.2.2.2.1.length=b.2.2.1.length:=v3
 have v4':b.2.2.2.2.1.length<=6:=v4;have hp:((List.range 4).flatMap (qX b)).length<=24:=by
  have hg:∀c,(qX b c).length<=6:=λc=>by unfold qX;rw[length_map,List.length_range];exact h.n6
  have h0:=hg 0;have h1:=hg 1;have h2:=hg 2;have h3:=hg 3
  show (qX b 0++(qX b 1++(qX b 2++(qX b 3++[])))).length<=24;simp only[length_append,length_nil];omega
 have hr:((List.range 3).flatMap (s7 b)).length<=18:=by
  have hg:∀c,(s7 b c).length<=6:=λc=>by unfold s7;rw[length_map];exact v4'
  have h0:=hg 0;have h1:=hg 1;have h2:=hg 2
  show (s7 b 0++(s7 b 1++(s7 b 2++[]))).length<=18;simp only[length_append,length_nil];omega
 have k5:(uE b).length=5:=rfl;rw[Kv h.w,h.ok,Bool.not_true,cF];unfold Ad;rw[KA h.w v3'.symm h.n6 (uE b) (by omega),oJ,LD v4' _ (by rw[length_append];omega),oJ,Mh h.f12 _ (by rw[length_append,length_append];omega),oJ];rfl

theorem B2 {α:Type} {R:α->α->Prop} (tr:∀a b c,R a b->R b c->R a c) {l:List α} (h:∀k (hk:k+1<l.length),R l[k] l[k+1]):l.Pairwise R:=by
 rw[List.pairwise_iff_getElem];intro i j hi hj hij
 induction j with
 | zero=>omega
 | succ j ih =>
  by_cases e:i=j
  · subst e;exact h i hj
  · exact tr _ _ _ (ih (by omega) (by omega)) (h j hj)
def B3 (g c:Int) (x:oK):Prop:=∃t,x.1=1::3::1::g::c::t
theorem vC {g c g' c':Int} {x y:oK} (hx:B3 g c x) (hy:B3 g' c' y) (h:g<g'\/(g=g'/\c<c')):x.1<y.1:=by
 obtain⟨t,ht⟩:=hx;obtain⟨s,hs⟩:=hy;rw[ht,hs];simp only[cons_lt_cons_iff,Int.lt_irrefl,false_or,true_and];rcases h with h|⟨h,k⟩
 · exact .inl h
 · exact .inr ⟨h,.inl k⟩
theorem wk {b:oI} {c:Nat} {x:oK} (h:x∈qX b c):B3 2 ((c+1:Nat):Int) x:=by
 unfold qX at h;obtain⟨k,_,rfl⟩:=mem_map.1 h;exact⟨_,rfl⟩
theorem xG {b:oI} {c:Nat} {x:oK} (h:x∈s7 b c):B3 3 ((c+1:Nat):Int) x:=by
 unfold s7 at h;obtain⟨k,_,rfl⟩:=mem_map.1 h;exact⟨_,rfl⟩
theorem zV {b:oI} {x:oK} (h:x∈xW b):B3 4 1 x:=by
 unfold xW at h;obtain⟨k,_,rfl⟩:=mem_map.1 h;exact⟨_,rfl⟩
theorem zW {b:oI} {x:oK} (h:x∈uE b):∃c,B3 1 c x:=by
 unfold uE at h;simp only[mem_cons,not_mem_nil,or_false]at h;rcases h with rfl|rfl|rfl|rfl|rfl<;>exact⟨_,_,rfl⟩
theorem Gf (b:oI) (c:Nat):(qX b c).Pairwise λx y=>x.1<y.1:=by
 unfold qX;rw[List.pairwise_map];refine List.Pairwise.imp ?_ List.pairwise_lt_range;intro i j h;show (1::3::1::2::((c+1:Nat):Int)::((i+1:Nat):Int)::[])<(1::3::1::2::((c+1:Nat):Int)::((j+1:Nat):Int)::[])
 simp only[cons_lt_cons_iff,Int.lt_irrefl,false_or,true_and];exact .inl (by omega)
theorem CU {b:oI} (h:qy b):b.2.2.2.2.1.Pairwise λr s=>r.1<s.1:=by
 refine B2 (R:=λ(r s:oZ)=>r.1<s.1) (λ_ _ _ h k=>Int.lt_trans h k) λk hk=>?_;have hv:=h.v
 unfold so at hv;simp only[aT,Bool.not_eq_true']at hv;have hx:=any_eq_false.1 hv.2.1 (k+1) (mem_range.2 hk)
 unfold vW at hx;simp only[List.getElem?_eq_getElem hk,Nat.add_sub_cancel,List.getElem?_eq_getElem (show k<b.2.2.2.2.1.length by omega),Bool.or_eq_true,aT,decide_eq_true_eq,not_or,not_and]at hx;have:=hx.2.1 (by omega)
 omega
theorem Hl {b:oI} (h:qy b) (c:Nat):(s7 b c).Pairwise λx y=>x.1<y.1:=by
 unfold s7;rw[List.pairwise_map];refine List.Pairwise.imp ?_ (CU h);intro r s h;show (1::3::1::3::((c+1:Nat):Int)::r.1::[])<(1::3::1::3::((c+1:Nat):Int)::s.1::[])
 simp only[cons_lt_cons_iff,Int.lt_irrefl,false_or,true_and];exact .inl h
theorem Ia {b:oI} (h:qy b):b.2.2.2.1.Pairwise lt:=by
 refine B2 (R:=lt) (λ_ _ _=>lt_trans) λk hk=>?_;have hv:=h.f
 unfold u9 at hv;simp only[aT,Bool.not_eq_true']at hv;have hx:=any_eq_false.1 hv.1 (k+1) (mem_range.2 hk)
 unfold tM at hx;simp only[List.getElem?_eq_getElem hk,Nat.add_sub_cancel,List.getElem?_eq_getElem (show k<b.2.2.2.1.length by omega),Bool.or_eq_true,aT,decide_eq_true_eq,not_or,not_and,Bool.not_eq_true',Bool.not_eq_false]at hx;have hp:=hx.2 (by omega)
 unfold uP at hp;simp only[Bool.or_eq_true,aT,decide_eq_true_eq,beq_iff_eq]at hp;unfold lt;omega
theorem Ib {b:oI} (h:qy b):(xW b).Pairwise λx y=>x.1<y.1:=by
 unfold xW;rw[List.pairwise_map];refine List.Pairwise.imp ?_ (Ia h);intro r s h;show (1::3::1::4::1::r.1::r.2.1::[])<(1::3::1::4::1::s.1::s.2.1::[])
 unfold lt at h;simp only[cons_lt_cons_iff,Int.lt_irrefl,false_or,true_and];rcases h with h|⟨h,k⟩
 · exact .inl h
 · exact .inr ⟨h,.inl k⟩
theorem Hm (b:oI):(uE b).Pairwise λx y=>x.1<y.1:=by
 unfold uE;simp only[pairwise_cons,mem_cons,not_mem_nil,or_false,forall_eq_or_imp,forall_eq,List.Pairwise.nil,and_true,false_imp_iff,implies_true,cons_lt_cons_iff,Int.lt_irrefl,false_or,true_and];refine⟨⟨.inl (by decide),.inl (by decide),.inl (by decide),.inl (by decide)⟩,⟨.inl (by decide),.inl (by decide),.inl (by decide)⟩,⟨.inl (by decide),.inl (by decide)⟩,.inl (by decide)⟩
theorem LE {α:Type} (f:Nat->List α):(List.range 4).flatMap f=f 0++(f 1++(f 2++(f 3++[]))):=rfl
theorem LF {α:Type} (f:Nat->List α):(List.range 3).flatMap f=f 0++(f 1++(f 2++[])):=rfl
theorem BX {n:Nat} {f:Nat->List oK} {g:Int} (hp:∀c,(f c).Pairwise λx y=>x.1<y.1) (hh:∀c x,x∈f c->B3 g ((c+1:Nat):Int) x):((List.range n).flatMap f).Pairwise λx y=>x.1<y.1:=by
 induction n with
 | zero=>exact List.Pairwise.nil
 | succ n ih =>
  rw[range_succ,List.flatMap_append,pairwise_append];refine⟨ih,by simp;exact hp n,λx hx y hy=>?_⟩;obtain⟨c,hc,hx⟩:=mem_flatMap.1 hx;have hc:=mem_range.1 hc
  simp at hy;exact vC (hh c x hx) (hh n y hy) (.inr ⟨rfl,by omega⟩)
theorem Id {b:oI} (h:qy b):(rz b).Pairwise λx y=>x.1<y.1:=by
 unfold rz;rw[pairwise_append,pairwise_append,pairwise_append];refine⟨⟨⟨Hm b,BX (Gf b) (λc x=>wk),λx hx y hy=>?_⟩,BX (Hl h) (λc x=>xG),λx hx y hy=>?_⟩,Ib h,λx hx y hy=>?_⟩
 · obtain⟨c,hc⟩:=zW hx;obtain⟨d,_,hy⟩:=mem_flatMap.1 hy;exact vC hc (wk hy) (.inl (by decide))
 · obtain⟨d,_,hy⟩:=mem_flatMap.1 hy;rcases mem_append.1 hx with hx|hx
   · obtain⟨c,hc⟩:=zW hx;exact vC hc (xG hy) (.inl (by decide))
   · obtain⟨e,_,hx⟩:=mem_flatMap.1 hx;exact vC (wk hx) (xG hy) (.inl (by decide))
 · rcases mem_append.1 hx with hx|hx
   · rcases mem_append.1 hx with hx|hx
     · obtain⟨c,hc⟩:=zW hx;exact vC hc (zV hy) (.inl (by decide))
     · obtain⟨e,_,hx⟩:=mem_flatMap.1 hx;exact vC (wk hx) (zV hy) (.inl (by decide))
   · obtain⟨e,_,hx⟩:=mem_flatMap.1 hx;exact vC (xG hx) (zV hy) (.inl (by decide))
theorem KC (p s t:List Int) {x y:Int} (h:x≠y):(p++x::s<p++y::t)↔x<y:=by
 induction p with
 | nil =>
  simp only[List.nil_append,cons_lt_cons_iff];exact⟨λk=>k.elim id λk=>absurd k.1 h,.inl⟩
 | cons a p ih=>simp only[List.cons_append,cons_lt_cons_iff,ih,Int.lt_irrefl,false_or,true_and]
theorem Jt (p:List Int) {s:List Int} (h:s≠[]):p<p++s:=by
 induction p with
 | nil=>cases s with
  | nil=>exact absurd rfl h
  | cons a s=>exact List.nil_lt_cons a s
 | cons a p ih=>simp only[List.cons_append,cons_lt_cons_iff,Int.lt_irrefl,false_or,true_and];exact ih
theorem Ju (p s:List Int):¬p++s<p:=by
 induction p with
 | nil=>exact List.not_lt_nil s
 | cons a p ih=>simp only[List.cons_append,cons_lt_cons_iff,Int.lt_irrefl,false_or,true_and];exact ih
theorem IK {a b:List Int} (h:b.length<9223372036854775807):cB a b=some (decide (a<b)):=by
 have hsplit:∀k,a.take k=b.take k->∀(ha:k<a.length) (hb:k<b.length),a=a.take k++a[k]::a.drop (k+1)/\b=a.take k++b[k]::b.drop (k+1):=by
  intro k e ha hb;refine⟨?_,?_⟩
  · rw[←List.drop_eq_getElem_cons ha,take_append_drop]
  · rw[e,←List.drop_eq_getElem_cons hb,take_append_drop]
 obtain⟨v,h1,h2⟩:=pr (step:=λz=>bS a b z) (λk i=>i=(k:Int)/\a.take k=b.take k) (min a.length b.length) (λv=>(v=.inr (decide (a<b)))\/(v=.inl ()/\decide ((a.length:Int)<(b.length:Int))=decide (a<b)))
  (λk i hk ⟨e,ht⟩=>by
   subst e;have ha:k<a.length:=by omega
   have hb:k<b.length:=by omega
   have hs:bS a b (k:Int)=cond (a[k] != b[k]) (some (.inr (.inr (decide (a[k]<b[k]))))) (some (.inl ((k+1:Nat):Int))):=by
    unfold bS;rw[pK (show (k:Int)<(a.length:Int) by omega),pK (show (k:Int)<(b.length:Int) by omega),cT,oJ,cT,pb ha,oJ,pb hb,oJ,p9 (by omega),oJ,oJ]
   obtain⟨s1,s2⟩:=hsplit k ht ha hb;by_cases hne:a[k]=b[k]
   · refine .inl ⟨_,by rw[hs,show (a[k] != b[k])=false by simp[hne]];rfl,rfl,?_⟩;rw[take_add_one,take_add_one,List.getElem?_eq_getElem ha,List.getElem?_eq_getElem hb,ht,hne]
   · refine .inr ⟨_,by rw[hs,show (a[k] != b[k])=true from bne_iff_ne.2 hne];rfl,.inl ?_⟩
     congr 1
     apply decide_eq_decide.2;have:=KC (a.take k) (a.drop (k+1)) (b.drop (k+1)) hne
     rw[←s1,←s2]at this;exact this.symm)
  (λi ⟨e,ht⟩=>by
   subst e;refine⟨.inl (),?_,.inr ⟨rfl,?_⟩⟩
   · show bS a b _=_;unfold bS;by_cases h:a.length<=b.length
     · rw[Nat.min_eq_left h,pk (by omega)];rfl
     · rw[Nat.min_eq_right (by omega),pK (by omega),pk (show ¬(b.length:Int)<(b.length:Int) by omega)];rfl
   · apply decide_eq_decide.2;by_cases h:a.length<=b.length
     · rw[Nat.min_eq_left h,take_length]at ht;have hb:b=a++b.drop a.length:=by
        have:=take_append_drop a.length b;rw[←ht]at this;exact this.symm
       constructor
       · intro hlt;have hd:b.drop a.length≠[]:=by
          intro h0;have:=congrArg List.length h0
          rw[length_drop]at this;simp at this;omega
         have:=Jt a hd;rw[←hb]at this;exact this
       · intro hlt;by_cases he:a.length=b.length
         · have hd:b.drop a.length=[]:=List.drop_eq_nil_of_le (by omega);rw[hd,List.append_nil]at hb;rw[hb]at hlt;exact absurd hlt (List.lt_irrefl _)
         · omega
     · rw[Nat.min_eq_right (by omega),take_length]at ht;have ha:a=b++a.drop b.length:=by
        have:=take_append_drop b.length a;rw[ht]at this;exact this.symm
       constructor
       · intro hlt;omega
       · intro hlt;have:=Ju b (a.drop b.length)
         rw[←ha]at this;exact absurd hlt this) (x:=0) ⟨rfl,by simp⟩
 unfold cB;rw[h1,oJ];rcases h2 with rfl|⟨rfl,h2⟩
 · rfl
 · show some (decide _)=_;rw[h2]

theorem xH {a b:List Int} (h:b.length<9223372036854775807):aq a b=some (a==b):=by
 unfold aq;by_cases hl:a.length=b.length
 · have e:((a.length:Int) != (b.length:Int))=false:=by rw[hl];simp
   rw[e,cF];obtain⟨v,h1,rfl⟩:=pr (step:=λz=>bI a b z) (λk i=>i=(k:Int)/\a.take k=b.take k) a.length (λv=>v=cond (a==b) (.inl ()) (.inr false))
    (λk i hk ⟨e,ht⟩=>by
     subst e;have hb:k<b.length:=by omega
     have hs:bI a b (k:Int)=cond (a[k] != b[k]) (some (.inr (.inr false))) (some (.inl ((k+1:Nat):Int))):=by
      unfold bI;rw[pK (by omega),cT,pb hk,oJ,pb hb,oJ,p9 (by omega)]
     by_cases hne:a[k]=b[k]
     · refine .inl ⟨_,by rw[hs,show (a[k] != b[k])=false by simp[hne]];rfl,rfl,?_⟩;rw[take_add_one,take_add_one,List.getElem?_eq_getElem hk,List.getElem?_eq_getElem hb,ht,hne]
     · refine .inr ⟨_,by rw[hs,show (a[k] != b[k])=true from bne_iff_ne.2 hne];rfl,?_⟩;have:(a==b)=false:=by
        apply beq_eq_false_iff_ne.2;intro hab;subst hab;exact hne rfl
       rw[this];rfl)
    (λi ⟨e,ht⟩=>by
     subst e;have hab:a=b:=by
      rw[take_length,List.take_of_length_le (by omega)]at ht;exact ht
     exact⟨.inl (),by show bI a b _=_;unfold bI;rw[pk (by omega),cF],by rw[show (a==b)=true from beq_iff_eq.2 hab];rfl⟩) (x:=0) ⟨rfl,by simp⟩
   rw[h1,oJ];cases (a==b)<;>rfl
 · have e:((a.length:Int) != (b.length:Int))=true:=by simp;omega
   have hne:(a==b)=false:=beq_eq_false_iff_ne.2 λh=>hl (by rw[h]);rw[e,cT,hne]
structure Nm (o:List Int):Prop where
 n1:1<=o.length
 n10:o.length<=10
 e:∀x∈o,oU x 0 100000=true
theorem Nm.ok {o:List Int} (h:Nm o):af o=some true:=by
 have h10:=h.n10;have h1:=h.n1
 unfold af;obtain⟨v,e,rfl⟩:=pr (step:=λz=>au o z) (λk i=>i=(k:Int)) o.length (λv=>v=.inl ())
  (λk i hk e=>by
   subst e;refine .inl ⟨((k+1:Nat):Int),?_,rfl⟩;show au o (k:Int)=_
   unfold au;rw[pK (by omega),cT,pb hk,oJ,sr,oJ,h.e _ (getElem_mem hk),p9 (by omega)];rfl)
  (λi e=>by
   subst e;exact⟨.inl (),by show au o _=_;unfold au;rw[pk (by omega),cF],rfl⟩) (x:=0) rfl
 rw[e,oJ];show ((aa (o.length:Int) 1 10).bind λt=>some t)=_
 rw[sr,oJ];unfold oU;rw[dT (by omega),dT (by omega)];rfl
inductive Vl:rk->Prop
 | num {n:Int} (h:oU n (-2147483648) 2147483647=true):Vl (2,n,[],[])
 | word {s:List UInt8} (h:s.length<=20):Vl (4,0,s,[])
theorem Vl.ok {v:rk} (h:Vl v):ai v=some true:=by
 cases h with
 | num h =>
  unfold ai ao aE;simp only[sr,h,oJ,xH (show ([]:List Int).length<9223372036854775807 by decide)];simp
 | word h =>
  rename_i s;have hd:decide ((s.length:Int)<=20)=true:=dT (by omega)
  unfold ai aE;simp only[hd,oJ,xH (show ([]:List Int).length<9223372036854775807 by decide)];simp
theorem Vl.k {v:rk} (h:Vl v):(v.1==128)=false:=by cases h<;>rfl
theorem Vl.o {v:rk} (h:Vl v):v.2.2.2=[]:=by cases h<;>rfl
theorem zX {n:Int} (h1:0<=n) (h2:n<=2147483647):oU n (-2147483648) 2147483647=true:=by unfold oU;rw[dT (by omega),dT (by omega)];rfl
theorem xI {n a c:Int} (h1:a<=n) (h2:n<=c):oU n a c=true:=by unfold oU;rw[dT (by omega),dT (by omega)];rfl
theorem zk {n a c:Int} (h:oU n a c=true):a<=n/\n<=c:=by
 unfold oU at h;simp only[aT,decide_eq_true_eq]at h;exact h
theorem KD {v:pU} (hn:v.1.length<9223372036854775807) {id r:Int} (h:aj v id=some r) (h0:¬r<0):∃x∈v.1,x.1=id:=by
 unfold aj at h;obtain⟨b,h1,h2⟩:=pr (β:=Unit⊕Int) (step:=λz=>aG v id z) (λk i=>i=(k:Int)) v.1.length (λb=>∀r,b=.inr r->∃x∈v.1,x.1=id)
  (λk i hk h=>by
   subst h;unfold aG;rw[pK (by omega),cT,pb hk,oJ];cases hb:(v.1[k].1==id)with
   | true=>exact .inr ⟨_,rfl,λr hr=>⟨_,getElem_mem hk,eq_of_beq hb⟩⟩
   | false=>exact .inl ⟨_,rfl,p9 (by omega)⟩)
  (λi h=>by
   subst h;unfold aG;rw[pk (by omega)];exact⟨_,rfl,λr hr=>by cases hr⟩) (x:=0) rfl
 rw[h1,oJ]at h;cases b with
 | inl _=>cases h;exact absurd (by decide) h0
 | inr r'=>exact h2 r' rfl
theorem Jv {id:Int} {l:List Pt} {p v:Int} (h:aw id l p=some v):1<=v/\v<=4:=by
 unfold aw at h;rw[sr,oJ]at h;have key:∀(o:Option Bool) (f:Bool->Option Int),(∀t x,f t=some x->1<=x/\x<=4)->o.bind f=some v->1<=v/\v<=4:=by
  intro o f hf h;cases o with
  | none=>cases h
  | some t=>exact hf t v h
 refine key _ _ (λt x hx=>?_) h;cases t with
 | true=>cases hx;decide
 | false =>
  rw[cF]at hx;cases hbv:aM id l with
  | none=>rw[hbv]at hx;cases hx
  | some w =>
   rw[hbv,oJ]at hx;cases hw:w.2==p with
   | true=>rw[hw]at hx;cases hx;decide
   | false =>
    rw[hw,cF]at hx;cases ha:at? l p with
    | none=>rw[ha]at hx;cases hx
    | some y =>
     rw[ha,oJ]at hx
     revert hx
     generalize (cond (!y.2.2.1) _ _:Option Bool)=o;intro hx;cases o with
     | none=>cases hx
     | some t=>cases t<;>(cases hx;decide)
theorem Fe {b:oI} (h:qy b) {r:oZ} (hr:r∈b.2.2.2.2.1):(1<=r.1/\r.1<=99)/\(0<=r.2.1/\r.2.1<=63)/\(0<=r.2.2/\r.2.2<=63):=by
 obtain⟨k,hk,rfl⟩:=getElem_of_mem hr;have hv:=h.v
 unfold so at hv;simp only[aT,Bool.not_eq_true',Bool.or_eq_false_iff,Bool.not_eq_false']at hv;have hx:=any_eq_false.1 hv.2.1 k (mem_range.2 hk)
 unfold vW at hx;simp only[List.getElem?_eq_getElem hk,Bool.or_eq_true,Bool.not_eq_true',not_or,Bool.not_eq_false]at hx;obtain⟨x1,_,x3,x4⟩:=hx;have ht:=G7 (i:=(b.2.2.1.length:Int)) hv.1.1
 have y1:=zk x1;have y3:=zk x3
 have x4:(zl .i64 b.2.2.2.2.1[k].2.2 b.2.2.2.2.1[k].2.1 != 0)=false:=by simpa using x4
 refine⟨y1,by omega,?_⟩;have hI:=h.w.r _ (getElem_mem hk)
 have hband:=zk (Fa hI.1 hI.2 x3 ht.2 (by rw[CR hI.1 hI.2];exact x4));omega
theorem Jw {b:oI} (h:qy b) {x:Int} (hx:x∈b.2.2.2.2.2.1):1<=x/\x<=99:=by
 obtain⟨k,hk,rfl⟩:=getElem_of_mem hx;have hv:=h.v
 have hn:b.2.2.2.2.1.length<9223372036854775807:=h.w.v;unfold so at hv;simp only[aT,Bool.not_eq_true']at hv;have hq:=any_eq_false.1 hv.2.2 k (mem_range.2 hk)
 unfold yZ at hq;simp only[List.getElem?_eq_getElem hk]at hq;obtain⟨r,hr⟩:=Hj (v:=(b.2.2.2.2.1,b.2.2.2.2.2.1)) hn b.2.2.2.2.2.1[k];rw[hr]at hq;simp only[decide_eq_true_eq]at hq;obtain⟨y,hy,e⟩:=KD (v:=(b.2.2.2.2.1,b.2.2.2.2.2.1)) hn hr hq;have:=(Fe h (r:=y) hy).1
 rw[e]at this;exact this
theorem Ie {b:oI} (h:qy b) (c:Int) {k:Nat} (hk:k<b.2.2.1.length):0<=z4 b c (k:Int)/\z4 b c (k:Int)<=1000:=by
 have v3:b.2.2.2.2.2.1.length=b.2.2.1.length:=h.vt.len.2.2.1;have hkq:k<b.2.2.2.2.2.1.length:=by omega
 obtain⟨r,hr⟩:=Ga b.1 h.w.p (k:Int);have hr2:=Jv hr
 have hp:=h.p _ (getElem_mem hk);unfold zi at hp;simp only[aT]at hp;have hc:=zk hp.1
 have hq:=Jw h (getElem_mem hkq);unfold z4 aW cw;rw[pb hk,pb hkq,hr];simp only[oJ];cases (c==1)with
 | true =>
  cases b.2.2.1[k].1 with
  | true=>show (0:Int)<=1/\(1:Int)<=1000;decide
  | false=>show (0:Int)<=0/\(0:Int)<=1000;decide
 | false =>
  cases (c==2)with
  | true=>show 0<=b.2.2.1[k].2.1/\b.2.2.1[k].2.1<=1000;omega
  | false =>
   cases (c==3)with
   | true=>show 0<=r/\r<=1000;omega
   | false=>show 0<=b.2.2.2.2.2.1[k]/\b.2.2.2.2.2.1[k]<=1000;omega
theorem KE {b:oI} (h:qy b) {e:oT} (he:e∈b.2.2.2.1):(1<=e.1/\e.1<=99)/\(1<=e.2.1/\e.2.1<=9999)/\(0<=e.2.2.1/\e.2.2.1<=7):=by
 obtain⟨k,hk,rfl⟩:=getElem_of_mem he;have hv:=h.f
 unfold u9 at hv;simp only[aT,Bool.not_eq_true']at hv;have hx:=any_eq_false.1 hv.1 k (mem_range.2 hk)
 unfold tM at hx;simp only[List.getElem?_eq_getElem hk,Bool.or_eq_true,Bool.not_eq_true',not_or,Bool.not_eq_false]at hx;have hf:=hx.1
 unfold yY at hf;simp only[aT]at hf;exact⟨zk hf.1,zk hf.2.1,zk hf.2.2.1⟩
theorem Hn {b:oI} (h:qy b):(0<=b.2.2.2.2.2.2.1/\b.2.2.2.2.2.2.1<=1000000)/\(0<=b.2.2.2.2.2.2.2.1/\b.2.2.2.2.2.2.2.1<=1000000)/\(0<=b.2.2.2.2.2.2.2.2.1/\b.2.2.2.2.2.2.2.2.1<=1000000)/\(0<=b.2.2.2.2.2.2.2.2.2.1/\b.2.2.2.2.2.2.2.2.2.1<=1000000)/\(0<=b.2.2.2.2.2.2.2.2.2.2/\b.2.2.2.2.2.2.2.2.2.2<=1000000):=by
 have hc:=h.c;unfold tI at hc;simp only[aT]at hc;exact⟨zk hc.1,zk hc.2.1,zk hc.2.2.1,zk hc.2.2.2.1,zk hc.2.2.2.2⟩
theorem Ho {a b:Int} (ha:0<=a/\a<=100000) (hb:0<=b/\b<=100000):Nm [1,3,1,a,b]:=⟨by simp,by simp,λx hx=>by
 simp only[mem_cons,not_mem_nil,or_false]at hx;rcases hx with rfl|rfl|rfl|rfl|rfl
 · decide
 · decide
 · decide
 · exact xI ha.1 ha.2
 · exact xI hb.1 hb.2⟩
theorem LN {a b c:Int} (ha:0<=a/\a<=100000) (hb:0<=b/\b<=100000) (hc:0<=c/\c<=100000):Nm [1,3,1,a,b,c]:=⟨by simp,by simp,λx hx=>by
 simp only[mem_cons,not_mem_nil,or_false]at hx;rcases hx with rfl|rfl|rfl|rfl|rfl|rfl
 · decide
 · decide
 · decide
 · exact xI ha.1 ha.2
 · exact xI hb.1 hb.2
 · exact xI hc.1 hc.2⟩
theorem Mw {a b c d:Int} (ha:0<=a/\a<=100000) (hb:0<=b/\b<=100000) (hc:0<=c/\c<=100000) (hd:0<=d/\d<=100000):Nm [1,3,1,a,b,c,d]:=⟨by simp,by simp,λx hx=>by
 simp only[mem_cons,not_mem_nil,or_false]at hx;rcases hx with rfl|rfl|rfl|rfl|rfl|rfl|rfl
 · decide
 · decide
 · decide
 · exact xI ha.1 ha.2
 · exact xI hb.1 hb.2
 · exact xI hc.1 hc.2
 · exact xI hd.1 hd.2⟩
theorem x7 {b:oI} (h:qy b):∀x∈rz b,Nm x.1/\Vl x.2:=by
 intro x hx;obtain⟨t1,t2,t3,t4,_⟩:=Hn h;have hn6:=h.n6
 unfold rz at hx;simp only[mem_append]at hx;rcases hx with ((hx|hx)|hx)|hx
 · unfold uE at hx;simp only[mem_cons,not_mem_nil,or_false]at hx;have hname:=h.name
   rcases hx with rfl|rfl|rfl|rfl|rfl
   · exact⟨Ho (by decide) (by decide),.word (by omega)⟩
   · exact⟨Ho (by decide) (by decide),.num (zX t1.1 (by omega))⟩
   · exact⟨Ho (by decide) (by decide),.num (zX t2.1 (by omega))⟩
   · exact⟨Ho (by decide) (by decide),.num (zX t3.1 (by omega))⟩
   · exact⟨Ho (by decide) (by decide),.num (zX t4.1 (by omega))⟩
 · obtain⟨c,hc,hx⟩:=mem_flatMap.1 hx;have hc:=mem_range.1 hc
   unfold qX at hx;obtain⟨k,hk,rfl⟩:=mem_map.1 hx;have hk:=mem_range.1 hk
   have hp:=Ie h ((c+1:Nat):Int) hk;exact⟨LN (by decide) (by omega) (by omega),.num (zX hp.1 (by omega))⟩
 · obtain⟨c,hc,hx⟩:=mem_flatMap.1 hx;have hc:=mem_range.1 hc
   unfold s7 at hx;obtain⟨r,hr,rfl⟩:=mem_map.1 hx;obtain⟨r1,r2,r3⟩:=Fe h hr;refine⟨LN (by decide) (by omega) (by omega),.num ?_⟩;unfold zU;split
   · decide
   · exact zX r2.1 (by omega)
   · exact zX r3.1 (by omega)
 · unfold xW at hx;obtain⟨e,he,rfl⟩:=mem_map.1 hx;obtain⟨e1,e2,e3⟩:=KE h he;refine⟨Mw (by decide) (by decide) (by omega) (by omega),.num ?_⟩;rw[rb (by omega) (by omega)];exact zX (by omega) (by omega)
theorem Jx {b:oI} (h:qy b):(rz b).length=5+4*b.2.2.1.length+3*b.2.2.2.2.1.length+b.2.2.2.1.length:=by
 have hp:∀c,(qX b c).length=b.2.2.1.length:=λc=>by unfold qX;rw[length_map,List.length_range]
 have hr:∀c,(s7 b c).length=b.2.2.2.2.1.length:=λc=>by unfold s7;rw[length_map]
 have hf:(xW b).length=b.2.2.2.1.length:=by unfold xW;rw[length_map]
 have k5:(uE b).length=5:=rfl;unfold rz;rw[LE,LF];simp only[length_append,length_nil,hp,hr,hf,k5];omega
theorem Hp {b:oI} (h:qy b):(rz b).length<=59:=by
 have h1:=Jx h;have h2:=h.n6
 have h3:b.2.2.2.2.1.length<=6:=h.vt.len.2.2.2;have h4:=h.f12
 omega
theorem Mi {b:oI} (h:qy b) {o:List Int} (ho:o.length<9223372036854775807):∃v,aZ b o=some v/\((∃x∈rz b,x.1=o/\v=x.2)\/((∀x∈rz b,x.1≠o)/\v=(128,0,[],[]))):=by
 have hle:=Hp h;obtain⟨v,h1,h2⟩:=pr (step:=λz:Int×Int×Int×List UInt8×List Int=>aI o (rz b) z.1 z.2.1 z.2.2.1 z.2.2.2.1 z.2.2.2.2) (λk z=>z=((k:Int),0,0,[],[])/\∀x∈(rz b).take k,x.1≠o) (rz b).length (λv=>(∃x∈rz b,x.1=o/\v=.inr x.2)\/((∀x∈rz b,x.1≠o)/\∃u,v=.inl u))
  (λk z hk ⟨e,hx⟩=>by
   subst e;have hs:aI o (rz b) (k:Int) 0 0 [] []=cond ((rz b)[k].1==o) (some (.inr (.inr (rz b)[k].2))) (some (.inl (((k+1:Nat):Int),0,0,[],[]))):=by
    unfold aI;rw[pK (by omega),cT]
    try rw[E9]
    rw[pb hk,oJ,xH ho,oJ,p9 (by omega)]
   show (∃y,aI o (rz b) (k:Int) 0 0 [] []=_/\_)\/(∃v,aI o (rz b) (k:Int) 0 0 [] []=_/\_);rw[hs];cases hb:((rz b)[k].1==o)with
   | true=>exact .inr ⟨_,rfl,.inl ⟨_,getElem_mem hk,eq_of_beq hb,rfl⟩⟩
   | false =>
    refine .inl ⟨_,rfl,rfl,λx hx'=>?_⟩;rw[take_add_one,List.getElem?_eq_getElem hk,mem_append]at hx';rcases hx' with hx'|hx'
    · exact hx x hx'
    · simp at hx';subst hx';exact beq_eq_false_iff_ne.1 hb)
  (λz ⟨e,hx⟩=>by
   subst e;rw[take_length]at hx;refine⟨.inl (0,0,[],[]),?_,.inr ⟨hx,_,rfl⟩⟩;show aI o (rz b) _ 0 0 [] []=_
   unfold aI;rw[pk (by omega),cF]) (x:=(0,0,0,[],[])) ⟨rfl,by simp⟩
 unfold aZ;rw[KB h,oJ,h1,oJ];rcases h2 with ⟨x,hx,e,rfl⟩|⟨hx,u,rfl⟩
 · exact⟨_,rfl,.inl ⟨x,hx,e,rfl⟩⟩
 · exact⟨_,rfl,.inr ⟨hx,rfl⟩⟩

structure At (m:List oK) (o:List Int) (j:Nat):Prop where
 le:j<=m.length
 no:∀i (hi:i<m.length),i<j->¬o<m[i].1
 yes:∀i (hi:i<m.length),j<=i->o<m[i].1
theorem LG {m:List oK} (hp:m.Pairwise λx y=>x.1<y.1) (o:List Int):∃j,At m o j:=by
 have hp:=List.pairwise_iff_getElem.1 hp;have key:∀n,n<=m.length->(∀i (hi:i<m.length),i<n->¬o<m[i].1)\/∃j,At m o j:=by
  intro n
  induction n with
  | zero=>exact λ_=>.inl λi hi h=>by omega
  | succ n ih =>
   intro hn;rcases ih (by omega)with h|h
   · by_cases hlt:o<m[n].1
     · refine .inr ⟨n,by omega,h,λi hi hni=>?_⟩;by_cases e:i=n
       · subst e;exact hlt
       · exact List.lt_trans hlt (hp n i (by omega) hi (by omega))
     · refine .inl λi hi hin=>?_;by_cases e:i=n
       · subst e;exact hlt
       · exact h i hi (by omega)
   · exact .inr h
 rcases key m.length (Nat.le_refl _)with h|h
 · exact⟨m.length,Nat.le_refl _,λi hi _=>h i hi hi,λi hi h=>by omega⟩
 · exact h
theorem LH {b:oI} (h:qy b) {o:List Int} (ho:o.length<=1000) {j:Nat} (hj:At (rz b) o j):aJ b o=some (if h:j<(rz b).length then (rz b)[j]else (o,130,0,[],[])):=by
 have hle:=Hp h;have hjl:=hj.le
 obtain⟨v,h1,h2⟩:=pr (step:=λz:Int×Int×Int×List UInt8×List Int×List Int=>ba o (rz b) z.1 z.2.1 z.2.2.1 z.2.2.2.1 z.2.2.2.2.1 z.2.2.2.2.2) (λk z=>z=((k:Int),0,0,[],[],[])) j (λv=>if h:j<(rz b).length then v=.inr (rz b)[j]else ∃u,v=.inl u)
  (λk z hk e=>by
   subst e;have hkl:k<(rz b).length:=by omega
   have hn:=(x7 h _ (getElem_mem hkl)).1.n10;refine .inl ⟨(((k+1:Nat):Int),0,0,[],[],[]),?_,rfl⟩;show ba o (rz b) (k:Int) 0 0 [] [] []=_
   unfold ba;rw[pK (by omega),cT]
   try rw[E9]
   rw[pb hkl,oJ,IK (by omega),dF (hj.no k hkl hk),oJ,cF,p9 (by omega)])
  (λz e=>by
   subst e;show ∃v,ba o (rz b) (j:Int) 0 0 [] [] []=_/\_
   unfold ba;by_cases hjn:j<(rz b).length
   · have hn:=(x7 h _ (getElem_mem hjn)).1.n10;rw[pK (by omega),cT]
     try rw[E9]
     rw[pb hjn,oJ,IK (by omega),dT (hj.yes j hjn (Nat.le_refl _)),oJ,cT];exact⟨_,rfl,by rw[dif_pos hjn]⟩
   · rw[pk (by omega),cF];exact⟨_,rfl,by rw[dif_neg hjn];exact⟨_,rfl⟩⟩) (x:=(0,0,0,[],[],[])) rfl
 unfold aJ;rw[KB h,oJ,h1,oJ];by_cases hjn:j<(rz b).length
 · rw[dif_pos hjn]at h2;rw[dif_pos hjn,h2];rfl
 · rw[dif_neg hjn]at h2;obtain⟨u,rfl⟩:=h2;rw[dif_neg hjn];show ((aC o).bind _)=_
   unfold aC;rw[p5 (by show 0+o.length<=_;omega)];rfl
theorem sy {α:Type} {ys:List α} (h:ys.length<=M):pw [] ys=some ys:=by
 unfold pw;rw[if_pos (by show 0+ys.length<=4294967296;have h':ys.length<=1048576:=h;omega)];rfl
theorem z5 {l:List Int} (h:l.length<=M):aC l=some l:=by unfold aC;rw[sy h];rfl
theorem Hq {l:List Int} (h:l.length<=M):cp l=some l:=by unfold cp;rw[sy h];rfl
theorem Jy {l:List oT} (h:l.length<=M):dy l=some l:=by unfold dy;rw[sy h];rfl
theorem If {l:List oT} (h:l.length<=M):dV l=some l:=by unfold dV;rw[sy h];rfl
theorem B4 {v:pU} (h:v.1.length<=M/\v.2.length<=M):bT v=some v:=by
 unfold bT;rw[sy h.1,oJ,z5 h.2];rfl
theorem Hr {v:pU} (h:v.1.length<=M/\v.2.length<=M):dW v=some v:=by
 unfold dW;rw[sy h.1,oJ,sy h.2];rfl
theorem wl {b:oI} (h:u7 M b):ax b=some b:=by
 obtain⟨h1,h2,h3,h4,h5⟩:=h;unfold ax;rw[sy h2,oJ,Jy h3,oJ,B4 ⟨h4,h5⟩];rfl
theorem tJ {b:oI} (h:u7 M b):az b=some b:=by
 obtain⟨h1,h2,h3,h4,h5⟩:=h;unfold az;rw[sy h2,oJ,If h3,oJ,Hr ⟨h4,h5⟩];rfl
theorem Hs {b:oI} (h:Cs.wf p4 b):u7 maxLen b:=by
 simp only[p4,Cs.wf,CT.wf]at h;obtain⟨_,h1,h2,h3,h4,h5,_⟩:=h;exact⟨h1,h2.1,h3.1,h4.1,h5.1⟩
theorem Gg {b:oI} (h:Cs.wf p4 b) (hl:u7 M b):uQ b:=by
 obtain⟨_,l2,l3,l4,l5⟩:=hl;have hM:M<9223372036854775807:=by decide
 refine⟨by omega,by omega,by omega,by omega,λr hr=>?_⟩;simp only[p4,Cs.wf,CT.wf]at h;obtain⟨_,_,_,_,h4,_⟩:=h;have:=(h4.2 r hr).2.2
 exact this
def Cl (o:List Int) (k:Nat):Bool:=match o[k]? with|some x=>!(oU x 0 100000)|none=>false
def si (o:List Int):Bool:=!((List.range o.length).any (Cl o))&&oU (o.length:Int) 1 10
theorem B5 {o:List Int} (h:o.length<9223372036854775807):af o=some (si o):=by
 unfold af si;have e:loop (λz=>au o z) 0=some (cond ((List.range o.length).any (Cl o)) (Sum.inr false) (Sum.inl ())):=by
  rw[←sP (n:=o.length) (c:=λi=>(at? o i).bind λx=>(aa x 0 100000).bind λt=>some (!t)) (b:=Cl o) h (λk hk=>by
   simp only[pb hk,oJ,Cl,List.getElem?_eq_getElem hk,sr])]
  refine r8 (λi=>?_) 0;unfold au;simp only[Option.bind_assoc,oJ]
 rw[e,oJ];cases (List.range o.length).any (Cl o)with
 | true=>rfl
 | false=>simp only[cF,Sum.elim_inl,sr,oJ,Bool.not_false,Bool.true_and]
theorem Ig:bb=af:=rfl
theorem IL (n:Int):∃c,aK n=some c/\(c==n)=oU n (-2147483648) 2147483647:=by
 unfold aK oU;by_cases h1:n>2147483647
 · refine⟨_,by rw[dT h1];rfl,?_⟩;rw[dF (show ¬n<=2147483647 by omega),Bool.and_false];exact beq_eq_false_iff_ne.2 (by omega)
 · by_cases h2:n < -2147483648
   · refine⟨_,by rw[dF h1,dT h2];rfl,?_⟩;rw[dF (show ¬n >= -2147483648 by omega),Bool.false_and];exact beq_eq_false_iff_ne.2 (by omega)
   · refine⟨_,by rw[dF h1,dF h2];rfl,?_⟩;rw[dT (show n >= -2147483648 by omega),dT (show n<=2147483647 by omega),beq_self_eq_true];rfl
theorem Jz (l:List Int):aq l []=some ((l.length:Int)==0):=by
 cases l with
 | nil=>exact wP (n:=0) (AN (a:=[]) (by decide))
 | cons x l =>
  unfold aq;have e:(((x::l).length:Int) != (([]:List Int).length:Int))=true:=by simp;omega
  rw[e,cT,beq_eq_false_iff_ne.2 (by simp;omega)]
theorem Ih {l:List Int} (h:l.length<=M):aq l l=some true:=wP (AN (u6 h))
def tu (v:rk):Bool :=
 cond (v.1==5||(v.1==128||v.1==130)) (v.2.1==0&&(v.2.2.1==[]&&((v.2.2.2.length:Int)==0)))
  (cond (v.1==2) (oU v.2.1 (-2147483648) 2147483647&&(v.2.2.1==[]&&((v.2.2.2.length:Int)==0)))
   (cond (v.1==4) (decide ((v.2.2.1.length:Int)<=20)&&(v.2.1==0&&((v.2.2.2.length:Int)==0)))
    (cond (v.1==6) (si v.2.2.2&&(v.2.1==0&&(v.2.2.1==[]))) false)))
theorem Ii {v:rk} (h:v.2.2.2.length<=M):ai v=some (tu v):=by
 obtain⟨k,n,s,o⟩:=v;have h':o.length<=1048576:=h
 have ho:o.length<=M:=h;have hb:o.length<9223372036854775807:=by omega
 unfold ai tu aE ao;simp only[sr,Jz,Ih ho,B5 hb,oJ];by_cases h2:k=2
 · subst h2;cases oU n (-2147483648) 2147483647<;>cases s==[]<;>cases (o.length:Int)==0<;>simp
 by_cases h4:k=4
 · subst h4;cases decide ((s.length:Int)<=20)<;>cases n==0<;>cases (o.length:Int)==0<;>simp
 by_cases h6:k=6
 · subst h6;cases si o<;>cases n==0<;>cases s==[]<;>simp
 rw[beq_eq_false_iff_ne.2 h2,beq_eq_false_iff_ne.2 h4,beq_eq_false_iff_ne.2 h6];by_cases h5:k=5
 · subst h5;cases n==0<;>cases s==[]<;>cases (o.length:Int)==0<;>simp
 by_cases h128:k=128
 · subst h128;cases n==0<;>cases s==[]<;>cases (o.length:Int)==0<;>simp
 by_cases h130:k=130
 · subst h130;cases n==0<;>cases s==[]<;>cases (o.length:Int)==0<;>simp
 rw[beq_eq_false_iff_ne.2 h5,beq_eq_false_iff_ne.2 h128,beq_eq_false_iff_ne.2 h130];rfl
theorem KF {v:rk} (h:v.2.2.2.length<=M):cc v=some (tu v):=by
 obtain⟨k,n,s,o⟩:=v;have h':o.length<=1048576:=h
 have hb:o.length<9223372036854775807:=by omega
 obtain⟨c,hc,hc2⟩:=IL n;unfold cc tu;simp only[Ig,B5 hb,hc,hc2,oJ];by_cases h5:k=5
 · subst h5;cases n==0<;>cases s==[]<;>cases (o.length:Int)==0<;>simp
 by_cases h128:k=128
 · subst h128;cases n==0<;>cases s==[]<;>cases (o.length:Int)==0<;>simp
 by_cases h130:k=130
 · subst h130;cases n==0<;>cases s==[]<;>cases (o.length:Int)==0<;>simp
 rw[beq_eq_false_iff_ne.2 h5,beq_eq_false_iff_ne.2 h128,beq_eq_false_iff_ne.2 h130];by_cases h2:k=2
 · subst h2;cases oU n (-2147483648) 2147483647<;>cases s==[]<;>cases (o.length:Int)==0<;>simp
 by_cases h4:k=4
 · subst h4;cases decide ((s.length:Int)<=20)<;>cases n==0<;>cases (o.length:Int)==0<;>simp
 by_cases h6:k=6
 · subst h6;cases si o<;>cases n==0<;>cases s==[]<;>simp
 rw[beq_eq_false_iff_ne.2 h2,beq_eq_false_iff_ne.2 h4,beq_eq_false_iff_ne.2 h6];rfl
def ua (x:oK):Bool:=si x.1&&tu x.2
def bX (l:List oK) (k:Nat):Bool:=match l[k]? with|some x=>!(ua x)|none=>false
def rA (p:ph):Bool :=
 (!((List.range p.2.2.2.2.length).any (bX p.2.2.2.2))&&decide ((p.2.2.2.2.length:Int)<=10)) &&
 (cond (p.1==162||p.1==165) (oU p.2.2.1 0 1000&&oU p.2.2.2.1 0 1000)
  (cond (p.1==160||(p.1==161||p.1==163)) (p.2.2.1==0&&p.2.2.2.1==0) false)&&oU p.2.1 (-2147483648) 2147483647)
theorem KG {n:Nat} {f g:Nat->Bool}:(List.range n).any (λk=>f k||g k)=((List.range n).any f||(List.range n).any g):=by
 generalize List.range n=l
 induction l with
 | nil=>rfl
 | cons a l ih=>simp only[List.any_cons,ih];cases f a<;>cases g a<;>simp
theorem JA (n:Nat):(List.range n).any (λk=>decide ((k:Int)>=10))=!(decide ((n:Int)<=10)):=by
 by_cases h:(n:Int)<=10
 · rw[dT h];refine Bool.eq_false_iff.2 λha=>?_;obtain⟨k,h1,h2⟩:=any_eq_true.1 ha;have:=mem_range.1 h1
   have:=of_decide_eq_true h2;omega
 · rw[dF h];exact any_eq_true.2 ⟨10,mem_range.2 (by omega),by decide⟩
theorem Ij {p:ph} (h:tB M p):loop (λz=>dt p z) 0=some (cond (!(decide ((p.2.2.2.2.length:Int)<=10))||(List.range p.2.2.2.2.length).any (bX p.2.2.2.2)) (Sum.inr false) (Sum.inl ())):=by
 obtain⟨k,i,e,x,l⟩:=p;have h':vA M l:=h
 have hl:l.length<=1048576:=h'.1;show loop (λz=>dt (k,i,e,x,l) z) 0=some (cond (!(decide ((l.length:Int)<=10))||(List.range l.length).any (bX l)) (Sum.inr false) (Sum.inl ()))
 rw[←JA,←KG,←sP (n:=l.length) (c:=λi=>(at? l i).bind λx=>(cond (decide (i>=10)) (some true) ((af x.1).bind λt=>some (!t))).bind λt=>(cond t (some true) ((ai x.2).bind λt=>some (!t)))) (b:=λk=>decide ((k:Int)>=10)||bX l k) (by omega) (λk hk=>by
  have hx:wZ M l[k]:=h'.2 _ (getElem_mem hk);have h1:l[k].1.length<=1048576:=hx.1
  have h2:l[k].2.2.2.2.length<=M:=hx.2.2;simp only[pb hk,oJ,bX,List.getElem?_eq_getElem hk,B5 (show l[k].1.length<9223372036854775807 by omega),Ii (v:=l[k].2) h2,ua];cases decide ((k:Int)>=10)<;>cases si l[k].1<;>cases tu l[k].2<;>rfl)]
 refine r8 (λi=>?_) 0;unfold dt;simp only[Option.bind_assoc,oJ]
theorem Ht {p:ph} (h:tB M p):loop (λz=>dU p z) 0=some (cond ((List.range p.2.2.2.2.length).any (bX p.2.2.2.2)) (Sum.inr false) (Sum.inl ())):=by
 obtain⟨k,i,e,x,l⟩:=p;have h':vA M l:=h
 have hl:l.length<=1048576:=h'.1;show loop (λz=>dU (k,i,e,x,l) z) 0=some (cond ((List.range l.length).any (bX l)) (Sum.inr false) (Sum.inl ()))
 rw[←sP (n:=l.length) (c:=λi=>(at? l i).bind λx=>(bb x.1).bind λt=>(cond (!t) (some true) ((at? l i).bind λx=>(cc x.2).bind λt=>some (!t)))) (b:=bX l) (by omega) (λk hk=>by
  have hx:wZ M l[k]:=h'.2 _ (getElem_mem hk);have h1:l[k].1.length<=1048576:=hx.1
  have h2:l[k].2.2.2.2.length<=M:=hx.2.2;simp only[pb hk,oJ,bX,List.getElem?_eq_getElem hk,Ig,B5 (show l[k].1.length<9223372036854775807 by omega),KF (v:=l[k].2) h2,ua];cases si l[k].1<;>cases tu l[k].2<;>rfl)]
 refine r8 (λi=>?_) 0;unfold dU;simp only[Option.bind_assoc,oJ]
theorem KH {p:ph} (h:tB M p):co p=some (rA p):=by
 have e0:=Ij h;have e1:loop (λz=>fZ p z) 0=_:=e0
 have e2:loop (λz=>ga p z) 0=_:=e0;have e3:loop (λz=>gb p z) 0=_:=e0
 have e4:loop (λz=>gd p z) 0=_:=e0;have e5:loop (λz=>ge p z) 0=_:=e0
 have e6:loop (λz=>gg p z) 0=_:=e0;have e7:loop (λz=>gh p z) 0=_:=e0
 have e8:loop (λz=>gi p z) 0=_:=e0;unfold co rA ao;rw[e0,e1,e2,e3,e4,e5,e6,e7,e8];simp only[sr,oJ];generalize (List.range p.2.2.2.2.length).any (bX p.2.2.2.2)=u;generalize decide ((p.2.2.2.2.length:Int)<=10)=w;generalize oU p.2.1 (-2147483648) 2147483647=x;generalize p.2.2.1=e;generalize p.2.2.2.1=i;generalize p.1=k;by_cases h0:k=160
 · subst h0;have b1:(e != 0)=!(e==0):=rfl
   have b2:(i != 0)=!(i==0):=rfl;rw[b1,b2];cases e==0<;>cases i==0<;>cases u<;>cases w<;>cases x<;>rfl
 by_cases h1:k=161
 · subst h1;have b1:(e != 0)=!(e==0):=rfl
   have b2:(i != 0)=!(i==0):=rfl;rw[b1,b2];cases e==0<;>cases i==0<;>cases u<;>cases w<;>cases x<;>rfl
 by_cases h3:k=163
 · subst h3;have b1:(e != 0)=!(e==0):=rfl
   have b2:(i != 0)=!(i==0):=rfl;rw[b1,b2];cases e==0<;>cases i==0<;>cases u<;>cases w<;>cases x<;>rfl
 by_cases h2:k=162
 · subst h2;cases oU e 0 1000<;>cases oU i 0 1000<;>cases u<;>cases w<;>cases x<;>rfl
 by_cases h5:k=165
 · subst h5;cases oU e 0 1000<;>cases oU i 0 1000<;>cases u<;>cases w<;>cases x<;>rfl
 rw[beq_eq_false_iff_ne.2 h0,beq_eq_false_iff_ne.2 h1,beq_eq_false_iff_ne.2 h2,beq_eq_false_iff_ne.2 h3,beq_eq_false_iff_ne.2 h5];cases u<;>cases w<;>rfl
theorem KI {p:ph} (h:tB M p):cO p=some (rA p):=by
 obtain⟨c,hc,hc2⟩:=IL p.2.1;unfold cO rA fe;rw[Ht h];simp only[xF,hc,hc2,oJ];generalize (List.range p.2.2.2.2.length).any (bX p.2.2.2.2)=u;generalize decide ((p.2.2.2.2.length:Int)<=10)=w;generalize oU p.2.1 (-2147483648) 2147483647=x;generalize p.2.2.1=e;generalize p.2.2.2.1=i;generalize p.1=k;have b1:(e != 0)=!(e==0):=rfl
 have b2:(i != 0)=!(i==0):=rfl;rw[b1,b2];have z1:(e==0)=true->oU e 0 1000=true:=λh=>by rw[eq_of_beq h];rfl
 have z2:(i==0)=true->oU i 0 1000=true:=λh=>by rw[eq_of_beq h];rfl
 by_cases h2:k=162
 · subst h2;cases oU e 0 1000<;>cases oU i 0 1000<;>cases u<;>cases w<;>cases x<;>rfl
 by_cases h5:k=165
 · subst h5;cases oU e 0 1000<;>cases oU i 0 1000<;>cases u<;>cases w<;>cases x<;>rfl
 have n2:(k != 162)=true:=bne_iff_ne.2 h2;have n5:(k != 165)=true:=bne_iff_ne.2 h5
 rw[n2,n5,beq_eq_false_iff_ne.2 h2,beq_eq_false_iff_ne.2 h5];cases he:e==0 with
 | false=>cases hi:i==0<;>cases u<;>cases w<;>cases x<;>cases k==160<;>cases k==161<;>cases k==163<;>rfl
 | true =>
  rw[z1 he];cases hi:i==0 with
  | false=>cases u<;>cases w<;>cases x<;>cases k==160<;>cases k==161<;>cases k==163<;>rfl
  | true =>
   rw[z2 hi];cases u<;>cases w<;>cases x<;>cases k==160<;>cases k==161<;>cases k==163<;>rfl
theorem CV {α:Type} {l:List α} {step:Int×List α->Option ((Int×List α)⊕List α)} (hn:l.length<=M)
 (hs:∀k (hk:k<l.length) out,step ((k:Int),out)=(pw out [l[k]]).bind λzs=>some (.inl (((k+1:Nat):Int),zs)))
 (he:∀out,step ((l.length:Int),out)=some (.inr out)):loop step (0,[])=some l:=by
 have hn':l.length<=1048576:=hn;obtain⟨b,h1,rfl⟩:=pr (step:=step) (λk z=>z=((k:Int),l.take k)) l.length (λb=>b=l)
  (λk z hk e=>by
   subst e;left;refine⟨_,by rw[hs k hk,p5 (by rw[length_take];show _+1<=_;omega),oJ],?_⟩;rw[take_add_one,List.getElem?_eq_getElem hk];rfl)
  (λz e=>by
   subst e;exact⟨_,he _,by rw[take_length]⟩) (x:=(0,[])) rfl
 exact h1
theorem JB {v:rk} (h:EZ M v):dN v=some v:=by unfold dN;rw[z5 h.2];rfl
theorem Hu {l:List oK} (h:vA M l):dO l=some l:=by
 have hn:l.length<=1048576:=h.1;unfold dO;rw[CV (step:=λz=>bZ l z.1 z.2) h.1 (λk hk out=>by
  show bZ l (k:Int) out=_;unfold bZ;have hx:=h.2 _ (getElem_mem hk)
  rw[pK (by omega),cT,pb hk,oJ,z5 hx.1,oJ,JB hx.2,oJ,p9 (by omega)]) (λout=>by
  show bZ l (l.length:Int) out=_;unfold bZ;rw[pk (by omega),cF])];rfl
theorem BY {l:List oK} (h:vA M l):cQ l=some l:=by
 have hn:l.length<=1048576:=h.1;unfold cQ;rw[CV (step:=λz=>cf l z.1 z.2) h.1 (λk hk out=>by
  show cf l (k:Int) out=_;unfold cf;have hx:=h.2 _ (getElem_mem hk)
  rw[pK (by omega),cT,pb hk,oJ,sy hx.2.2,oJ,oJ,sy hx.1,oJ,p9 (by omega)]) (λout=>by
  show cf l (l.length:Int) out=_;unfold cf;rw[pk (by omega),cF])];rfl
def qG (l:List oZ) (id:Int):Int:=match l.findIdx? (λr=>r.1==id)with|some k=>(k:Int)|none=>-1
theorem zY {v:pU} (hn:v.1.length<9223372036854775807) (id:Int):aj v id=some (qG v.1 id):=by
 unfold aj qG;obtain⟨b,h1,rfl⟩:=pr (β:=Unit⊕Int) (step:=λz=>aG v id z) (λk i=>i=(k:Int)/\∀j (hj:j<k),∀(hl:j<v.1.length),¬((v.1[j].1==id)=true)) v.1.length (λb=>b=match v.1.findIdx? (λr=>r.1==id)with|some k=>.inr (k:Int)|none=>.inl ())
  (λk i hk ⟨h,hy⟩=>by
   subst h;unfold aG;rw[pK (by omega),cT,pb hk,oJ];cases hb:(v.1[k].1==id)with
   | true =>
    refine .inr ⟨_,rfl,?_⟩;rw[List.findIdx?_eq_some_iff_getElem.2 ⟨hk,hb,λj hj=>hy j hj (by omega)⟩]
   | false =>
    refine .inl ⟨_,rfl,p9 (by omega),λj hj hl=>?_⟩;by_cases hjk:j=k
    · subst hjk;rw[hb];simp
    · exact hy j (by omega) hl)
  (λi ⟨h,hy⟩=>by
   subst h;refine⟨.inl (),by unfold aG;rw[pk (by omega),cF],?_⟩;rw[List.findIdx?_eq_none_iff.2 λx hx=>by
    obtain⟨j,hj,rfl⟩:=getElem_of_mem hx;have:=hy j hj hj
    simpa using this]) (x:=0) ⟨rfl,λj hj=>by omega⟩
 rw[h1,oJ];cases v.1.findIdx? (λr=>r.1==id)<;>rfl
theorem JC {v:pU} (hn:v.1.length<9223372036854775807) (id:Int):bq v id=some (qG v.1 id):=zY hn id
theorem wm {l:List oZ} {id:Int} (h:0<=qG l id):∃k,∃hk:k<l.length,qG l id=(k:Int)/\l[k].1=id:=by
 unfold qG at h ⊢;cases hf:l.findIdx? (λr=>r.1==id)with
 | none=>rw[hf]at h;simp at h
 | some k =>
  obtain⟨hk,h1,_⟩:=List.findIdx?_eq_some_iff_getElem.1 hf;exact⟨k,hk,rfl,by simpa using h1⟩
theorem Gk {l:List oZ} {id:Int} (h:qG l id<0):∀x∈l,x.1≠id:=by
 unfold qG at h;cases hf:l.findIdx? (λr=>r.1==id)with
 | some k=>rw[hf]at h;simp at h;omega
 | none =>
  intro x hx;have:=List.findIdx?_eq_none_iff.1 hf x hx
  simpa using this
def Ae (l:List oT) (tag mac:Int):Int:=match l.findIdx? (λe=>e.1==tag&&e.2.1==mac)with|some k=>(k:Int)|none=>-1
theorem KJ {l:List oT} (hn:l.length<9223372036854775807) (tag mac:Int):dE l tag mac=some (Ae l tag mac):=by
 unfold dE Ae;obtain⟨b,h1,rfl⟩:=pr (β:=Unit⊕Int) (step:=λz=>bn l tag mac z) (λk i=>i=(k:Int)/\∀j (hj:j<k),∀(hl:j<l.length),¬((l[j].1==tag&&l[j].2.1==mac)=true)) l.length (λb=>b=match l.findIdx? (λe=>e.1==tag&&e.2.1==mac)with|some k=>.inr (k:Int)|none=>.inl ())
  (λk i hk ⟨h,hy⟩=>by
   subst h;have hs:bn l tag mac (k:Int)=cond (l[k].1==tag&&l[k].2.1==mac) (some (.inr (.inr (k:Int)))) (some (.inl ((k+1:Nat):Int))):=by
    unfold bn;simp only[pK (show (k:Int)<(l.length:Int) by omega),cT,pb hk,oJ,p9 (show k<9223372036854775807 by omega)];cases l[k].1==tag<;>rfl
   show (∃y,bn l tag mac (k:Int)=some (.inl y)/\_)\/∃b,bn l tag mac (k:Int)=some (.inr b)/\_;rw[hs];cases hb:(l[k].1==tag&&l[k].2.1==mac)with
   | true =>
    refine .inr ⟨_,rfl,?_⟩;rw[List.findIdx?_eq_some_iff_getElem.2 ⟨hk,hb,λj hj=>hy j hj (by omega)⟩]
   | false =>
    refine .inl ⟨_,rfl,rfl,λj hj hl=>?_⟩;by_cases hjk:j=k
    · subst hjk;rw[hb];simp
    · exact hy j (by omega) hl)
  (λi ⟨h,hy⟩=>by
   subst h;refine⟨.inl (),by unfold bn;rw[pk (by omega),cF],?_⟩;rw[List.findIdx?_eq_none_iff.2 λx hx=>by
    obtain⟨j,hj,rfl⟩:=getElem_of_mem hx;have:=hy j hj hj
    simpa using this]) (x:=0) ⟨rfl,λj hj=>by omega⟩
 rw[h1,oJ];cases l.findIdx? (λe=>e.1==tag&&e.2.1==mac)<;>rfl
theorem JD {l:List oT} (hn:l.length<9223372036854775807) (tag mac:Int):ed l tag mac=some (Ae l tag mac):=by
 unfold ed Ae;obtain⟨b,h1,rfl⟩:=pr (β:=Unit⊕Int) (step:=λz=>bw l tag mac z) (λk i=>i=(k:Int)/\∀j (hj:j<k),∀(hl:j<l.length),¬((l[j].1==tag&&l[j].2.1==mac)=true)) l.length (λb=>b=match l.findIdx? (λe=>e.1==tag&&e.2.1==mac)with|some k=>.inr (k:Int)|none=>.inl ())
  (λk i hk ⟨h,hy⟩=>by
   subst h;have hs:bw l tag mac (k:Int)=cond (l[k].1==tag&&l[k].2.1==mac) (some (.inr (.inr (k:Int)))) (some (.inl ((k+1:Nat):Int))):=by
    unfold bw;simp only[pK (show (k:Int)<(l.length:Int) by omega),cT,pb hk,oJ,p9 (show k<9223372036854775807 by omega)];cases l[k].1==tag<;>rfl
   show (∃y,bw l tag mac (k:Int)=some (.inl y)/\_)\/∃b,bw l tag mac (k:Int)=some (.inr b)/\_;rw[hs];cases hb:(l[k].1==tag&&l[k].2.1==mac)with
   | true =>
    refine .inr ⟨_,rfl,?_⟩;rw[List.findIdx?_eq_some_iff_getElem.2 ⟨hk,hb,λj hj=>hy j hj (by omega)⟩]
   | false =>
    refine .inl ⟨_,rfl,rfl,λj hj hl=>?_⟩;by_cases hjk:j=k
    · subst hjk;rw[hb];simp
    · exact hy j (by omega) hl)
  (λi ⟨h,hy⟩=>by
   subst h;refine⟨.inl (),by unfold bw;rw[pk (by omega),cF],?_⟩;rw[List.findIdx?_eq_none_iff.2 λx hx=>by
    obtain⟨j,hj,rfl⟩:=getElem_of_mem hx;have:=hy j hj hj
    simpa using this]) (x:=0) ⟨rfl,λj hj=>by omega⟩
 rw[h1,oJ];cases l.findIdx? (λe=>e.1==tag&&e.2.1==mac)<;>rfl

def qE (o:List Int) (lo hi:Int) (head:List Int):Bool:=(o.length==head.length+4)&&((o.take (head.length+3)==[1,3,1]++head)&&(match o[head.length+3]? with|some x=>oU x lo hi|none=>false))
theorem z6 {o:List Int} (lo hi:Int) {head:List Int} (ho:o.length<=M) (hh:head.length<=100):ay o lo hi head=some (qE o lo hi head):=by
 have ho':o.length<=1048576:=ho;have hw:oL ((head.length:Int)+4)=((head.length+4:Nat):Int):=by rw[rb (by omega) (by omega)];omega
 unfold ay qE;rw[hw];by_cases hl:o.length=head.length+4
 · have hw2:oL ((o.length:Int)-1)=((head.length+3:Nat):Int):=by rw[rb (by omega) (by omega)];omega
   have hc:cut o 0 ((head.length+3:Nat):Int)=some (o.take (head.length+3)):=by
    rw[show (0:Int)=((0:Nat):Int)from rfl,tC (Nat.zero_le _) (by omega),drop_zero]
   have hlt:head.length+3<o.length:=by omega
   rw[show ((o.length:Int)==((head.length+4:Nat):Int))=true from beq_iff_eq.2 (by omega),cT,hw2,hc,oJ,p5 (by show 3+head.length<=_;omega),oJ,xH (by rw[length_append];show 3+head.length<_;omega),oJ,pb hlt,oJ,sr,oJ,List.getElem?_eq_getElem hlt];rw[show (o.length==head.length+4)=true from beq_iff_eq.2 hl];cases (o.take (head.length+3)==[1,3,1]++head)<;>rfl
 · rw[show ((o.length:Int)==((head.length+4:Nat):Int))=false from beq_eq_false_iff_ne.2 (by omega),cF,show (o.length==head.length+4)=false from beq_eq_false_iff_ne.2 hl];rfl
abbrev re (b:oI):Int:=(b.2.2.1.length:Int)
abbrev sq (b:oI):List oZ:=b.2.2.2.2.1
def Gl (b:oI) (o:List Int):Bool:=qE o 1 1 [1]||(qE o 1 (re b) [2,2]||(qE o 1 (re b) [2,4]||(qE o 1 99 [3,1]||((qE o 1 99 [3,2]||qE o 1 99 [3,3])&&(match o[5]? with|some x=>decide (qG (sq b) x>=0)|none=>false)))))
theorem Ea {o:List Int} {lo hi:Int} {head:List Int} (h:qE o lo hi head=true):o.length=head.length+4:=by
 unfold qE at h;simp only[aT,beq_iff_eq]at h;exact h.1
theorem Mj {b:oI} (hb:u7 M b) {o:List Int} (ho:o.length<=M):dA b o=some (Gl b o):=by
 have hr:b.2.2.2.2.1.length<9223372036854775807:=by have:b.2.2.2.2.1.length<=1048576:=hb.2.2.2.1;omega
 unfold dA Gl;rw[z6 1 1 ho (by decide),z6 1 _ ho (by decide),z6 1 _ ho (by decide),z6 1 99 ho (by decide),z6 1 99 ho (by decide),z6 1 99 ho (by decide)];simp only[oJ];cases qE o 1 1 [1]with
 | true=>rfl
 | false =>
 cases qE o 1 (re b) [2,2]with
 | true=>rfl
 | false =>
 cases qE o 1 (re b) [2,4]with
 | true=>rfl
 | false =>
 cases qE o 1 99 [3,1]with
 | true=>rfl
 | false =>
 have key:o.length=6->((at? o 5).bind λx41=>(aj (b.2.2.2.2.1,b.2.2.2.2.2.1) x41).bind λt43=>some (decide (t43>=0)))=some (match o[5]? with|some x=>decide (qG (sq b) x>=0)|none=>false):=by
  intro h6;have h5:5<o.length:=by omega
  rw[show (5:Int)=((5:Nat):Int)from rfl,pb h5,oJ,zY hr,oJ,List.getElem?_eq_getElem h5]
 cases h2:qE o 1 99 [3,2]with
 | true =>
  simp only[cF,cT,oJ,Bool.false_or,Bool.true_or,Bool.true_and];rw[key (Ea h2)];rfl
 | false =>
  cases h3:qE o 1 99 [3,3]with
  | true =>
   simp only[cF,cT,oJ,Bool.false_or,Bool.or_true,Bool.true_and];rw[key (Ea h3)];rfl
  | false=>rfl
def D9 (b:oI) (o:List Int):Bool:=qE o 2 5 [1]||(qE o 1 (re b) [2,1]||(qE o 1 (re b) [2,3]||(((o.length==7)&&(o.take 5==[1,3,1,4,1]))&&(match o[5]?,o[6]? with|some x,some y=>decide (Ae b.2.2.2.1 x y>=0)|_,_=>false))))
theorem LI {b:oI} (hb:u7 M b) {o:List Int} (ho:o.length<=M):dG b o=some (D9 b o):=by
 have hr:b.2.2.2.1.length<9223372036854775807:=by have:b.2.2.2.1.length<=1048576:=hb.2.2.1;omega
 unfold dG D9;rw[z6 2 5 ho (by decide),z6 1 _ ho (by decide),z6 1 _ ho (by decide)];simp only[oJ];cases qE o 2 5 [1]with
 | true=>rfl
 | false =>
 cases qE o 1 (re b) [2,1]with
 | true=>rfl
 | false =>
 cases qE o 1 (re b) [2,3]with
 | true=>rfl
 | false =>
 by_cases h7:o.length=7
 · have h5:5<o.length:=by omega
   have h6:6<o.length:=by omega
   have hc:cut o 0 5=some (o.take 5):=by
    rw[show (0:Int)=((0:Nat):Int)from rfl,show (5:Int)=((5:Nat):Int)from rfl,tC (Nat.zero_le _) (by omega),drop_zero]
   rw[show ((o.length:Int)==7)=true from beq_iff_eq.2 (by omega),show (o.length==7)=true from beq_iff_eq.2 h7];simp only[cF,cT,oJ,hc,xH (show ([1,3,1,4,1]:List Int).length<9223372036854775807 by decide),Bool.false_or,Bool.true_and];cases (o.take 5==[1,3,1,4,1])with
   | false=>rfl
   | true =>
    rw[show (5:Int)=((5:Nat):Int)from rfl,show (6:Int)=((6:Nat):Int)from rfl];simp only[cT,pb h5,pb h6,oJ,KJ hr,List.getElem?_eq_getElem h5,List.getElem?_eq_getElem h6,Bool.true_and]
 · rw[show ((o.length:Int)==7)=false from beq_eq_false_iff_ne.2 (by omega),show (o.length==7)=false from beq_eq_false_iff_ne.2 h7];rfl

def vD (o:List Int):Bool:=decide (o.length>3)&&(o.take 3==[1,3,1])
theorem KK {o:List Int} (ho:o.length<=M):cR o=some (cond (vD o) (o.drop 3,true) ([],false)):=by
 have ho':o.length<=1048576:=ho;unfold cR fh vD;by_cases h:o.length>3
 · have hc:cut o 0 ((([1,3,1]:List Int).length:Nat):Int)=some (o.take 3):=by
    rw[show (0:Int)=((0:Nat):Int)from rfl,tC (Nat.zero_le _) (by show 3<=_;omega),drop_zero];rfl
   have hc2:cut o 3 (o.length:Int)=some (o.drop 3):=by
    rw[show (3:Int)=((3:Nat):Int)from rfl,tC (by omega) (Nat.le_refl _),take_length]
   have hs:bv (o.take 3) [1,3,1]=some (o.take 3==[1,3,1]):=xH (a:=o.take 3) (b:=[1,3,1]) (by decide);rw[dT (show (o.length:Int)>(([1,3,1]:List Int).length:Int) by show (o.length:Int)>3;omega),cT,hc,oJ,hs,dT h];simp only[oJ,Bool.true_and];cases (o.take 3==[1,3,1])with
   | false=>rfl
   | true=>simp only[Bool.not_true,cF,cT,hc2,oJ]
 · rw[dF (show ¬(o.length:Int)>(([1,3,1]:List Int).length:Int) by show ¬(o.length:Int)>3;omega),dF h];rfl
def B6 (b:oI) (o:List Int):Bool:=vD o&&(match o.drop 3 with
 | [a,c]=>a==1&&c==1
 | [a,c,p]=>(a==2&&((c==2||c==4)&&oU p 1 (re b)))||(a==3&&((c==1&&oU p 1 99)||((c==2||c==3)&&decide (qG (sq b) p>=0))))
 | _=>false)
theorem Mk {b:oI} (hb:u7 M b) {o:List Int} (ho:o.length<=M):ea b o=some (B6 b o):=by
 have hr:b.2.2.2.2.1.length<9223372036854775807:=by have:b.2.2.2.2.1.length<=1048576:=hb.2.2.2.1;omega
 unfold ea B6;rw[KK ho,oJ];cases vD o with
 | false=>rfl
 | true =>
  simp only[cT,Bool.not_true,cF,Bool.true_and]
  match o.drop 3 with
  | []=>rfl
  | [a]=>rfl
  | [a,c] =>
   rw[show (([a,c].length:Int)==2)=true from rfl,cT,show at? [a,c] 0=some a from rfl,show at? [a,c] 1=some c from rfl];simp only[oJ];cases a==1<;>rfl
  | [a,c,p] =>
   rw[show (([a,c,p].length:Int)==2)=false from rfl,cF,show (([a,c,p].length:Int) != 3)=false from rfl,cF,show at? [a,c,p] 0=some a from rfl,show at? [a,c,p] 1=some c from rfl,show at? [a,c,p] 2=some p from rfl];simp only[oJ,xF,JC (v:=(b.2.2.2.2.1,b.2.2.2.2.2.1)) hr];by_cases h2:a=2
   · subst h2;cases c==2<;>cases c==4<;>simp
   · by_cases h3:a=3
     · subst h3;cases c==1<;>cases c==2<;>cases c==3<;>cases oU p 1 99<;>simp
     · rw[show (a==2)=false from beq_eq_false_iff_ne.2 h2,show (a==3)=false from beq_eq_false_iff_ne.2 h3];rfl
  | a::c::p::q::l =>
   simp only[length_cons];rw[show ((((l.length+1+1+1+1:Nat):Int))==2)=false from beq_eq_false_iff_ne.2 (by omega),show ((((l.length+1+1+1+1:Nat):Int)) != 3)=true from bne_iff_ne.2 (by omega)];rfl
def BZ (b:oI) (o:List Int):Bool:=vD o&&(match o.drop 3 with
 | [a,c]=>a==1&&oU c 2 5
 | [a,c,p]=>a==2&&((c==1||c==3)&&oU p 1 (re b))
 | [a,c,p,q]=>(a==4&&c==1)&&decide (Ae b.2.2.2.1 p q>=0)
 | _=>false)
theorem LJ {b:oI} (hb:u7 M b) {o:List Int} (ho:o.length<=M):ee b o=some (BZ b o):=by
 have hr:b.2.2.2.1.length<9223372036854775807:=by have:b.2.2.2.1.length<=1048576:=hb.2.2.1;omega
 unfold ee BZ;rw[KK ho,oJ];cases vD o with
 | false=>rfl
 | true =>
  simp only[cT,Bool.not_true,cF,Bool.true_and]
  match o.drop 3 with
  | []=>rfl
  | [a]=>rfl
  | [a,c] =>
   rw[show (([a,c].length:Int)==2)=true from rfl,cT,show at? [a,c] 0=some a from rfl,show at? [a,c] 1=some c from rfl];simp only[oJ,xF];cases a==1<;>rfl
  | [a,c,p] =>
   rw[show (([a,c,p].length:Int)==2)=false from rfl,cF,show (([a,c,p].length:Int)==3)=true from rfl,cT,show at? [a,c,p] 0=some a from rfl,show at? [a,c,p] 1=some c from rfl,show at? [a,c,p] 2=some p from rfl];simp only[oJ,xF];cases a==2<;>cases c==1<;>cases c==3<;>simp
  | [a,c,p,q] =>
   rw[show (([a,c,p,q].length:Int)==2)=false from rfl,cF,show (([a,c,p,q].length:Int)==3)=false from rfl,cF,show (([a,c,p,q].length:Int)==4)=true from rfl,cT,show at? [a,c,p,q] 0=some a from rfl,show at? [a,c,p,q] 1=some c from rfl,show at? [a,c,p,q] 2=some p from rfl,show at? [a,c,p,q] 3=some q from rfl];simp only[oJ,JD hr];cases a==4<;>cases c==1<;>simp
  | a::c::p::q::r::l =>
   simp only[length_cons];rw[show ((((l.length+1+1+1+1+1:Nat):Int))==2)=false from beq_eq_false_iff_ne.2 (by omega),show ((((l.length+1+1+1+1+1:Nat):Int))==3)=false from beq_eq_false_iff_ne.2 (by omega),show ((((l.length+1+1+1+1+1:Nat):Int))==4)=false from beq_eq_false_iff_ne.2 (by omega)];rfl

structure tb (b:oI):Prop where
 id:oU b.1 1 99=true
 name:b.2.1.length<=10
 n1:1<=b.2.2.1.length
 n6:b.2.2.1.length<=6
 p:∀x∈b.2.2.1,zi x=true
 f:u9 b.2.2.2.1=true
 c:tI b=true
 q:b.2.2.2.2.2.1.length=b.2.2.1.length
 v:b.2.2.2.2.1.length<=6
 s:b.2.2.2.2.1.Pairwise λr s=>r.1<s.1
 i:∀r∈b.2.2.2.2.1,oU r.1 1 99=true
 h:∀r∈b.2.2.2.2.1,-9223372036854775808<=r.2.2/\r.2.2<=9223372036854775807
theorem tb.f12 {b:oI} (h:tb b):b.2.2.2.1.length<=12:=by
 have hf:=h.f;unfold u9 at hf;simp only[aT,decide_eq_true_eq]at hf;omega
theorem tb.le {b:oI} (h:tb b):u7 M b:=by
 have h1:=h.name;have h2:=h.n6;have h3:=h.f12;have h4:=h.v;have h5:=h.q
 have hM:M=1048576:=rfl;exact⟨by omega,by omega,by omega,by omega,by omega⟩
theorem qy.sok {b:oI} (h:qy b):tb b:=by
 obtain⟨v1,v2,v3,v4⟩:=h.vt.len;refine⟨h.id,h.name,h.n1,h.n6,h.p,h.f,h.c,v3,v4,CU h,λr hr=>?_,h.w.r⟩;obtain⟨k,hk,rfl⟩:=getElem_of_mem hr;have hv:=h.v
 unfold so at hv;simp only[aT,Bool.not_eq_true']at hv;have hx:=any_eq_false.1 hv.2.1 k (mem_range.2 hk)
 unfold vW at hx;simp only[List.getElem?_eq_getElem hk]at hx;cases hq:oU b.2.2.2.2.1[k].1 1 99 with
 | true=>rfl
 | false=>rw[hq]at hx;simp at hx
theorem tD {o:List Int} (h:o.length<=2):(∀lo hi head,qE o lo hi head=false)/\vD o=false:=by
 refine⟨λlo hi head=>?_,?_⟩
 · unfold qE;rw[beq_eq_false_iff_ne.2 (by omega),Bool.false_and]
 · unfold vD;rw[dF (by omega),Bool.false_and]
theorem Gm {x y z:Int} {t:List Int} (h:¬(x=1/\y=3/\z=1)):(∀lo hi head,qE (x::y::z::t) lo hi head=false)/\vD (x::y::z::t)=false:=by
 refine⟨λlo hi head=>?_,?_⟩
 · unfold qE;have:((x::y::z::t).take (head.length+3)==[1,3,1]++head)=false:=by
    rw[bF];intro e;rw[take_succ_cons,take_succ_cons,take_succ_cons]at e;simp at e;exact h ⟨e.1,e.2.1,e.2.2.1⟩
   rw[this,Bool.false_and,Bool.and_false]
 · unfold vD;have:((x::y::z::t).take 3==[1,3,1])=false:=by
    rw[bF];intro e;simp at e;exact h e
   rw[this,Bool.and_false]
theorem KL (t:List Int) (lo hi c:Int):qE (1::3::1::t) lo hi [c]=match t with | [a,x]=>a==c&&oU x lo hi|_=>false:=by
 match t with
 | []=>simp[qE]
 | [a]=>simp[qE]
 | [a,x]=>simp[qE]
 | a::x::y::t=>simp[qE]
theorem KM (t:List Int) (lo hi c d:Int):qE (1::3::1::t) lo hi [c,d]=match t with | [a,b,x]=>(a==c&&b==d)&&oU x lo hi|_=>false:=by
 match t with
 | []=>simp[qE]
 | [a]=>simp[qE]
 | [a,x]=>simp[qE]
 | [a,b,x]=>simp[qE]
 | a::b::x::y::t=>simp[qE]
theorem KN (t:List Int):vD (1::3::1::t)=decide (0<t.length):=by
 unfold vD;rw[show ((1::3::1::t).take 3==[1,3,1])=true from rfl,Bool.and_true];simp
theorem LO (c:Int):oU c 1 1=(c==1):=by
 unfold oU;by_cases h:c=1
 · subst h;rfl
 · rw[beq_eq_false_iff_ne.2 h];simp only[Bool.and_eq_false_iff,decide_eq_false_iff_not];omega
theorem JE {b:oI} (h:tb b) (o:List Int):Gl b o=B6 b o:=by
 unfold Gl B6
 match o with
 | []=>simp only[(tD (o:=[]) (by simp)).1,(tD (o:=[]) (by simp)).2];rfl
 | [x]=>simp only[(tD (o:=[x]) (by simp)).1,(tD (o:=[x]) (by simp)).2];rfl
 | [x,y]=>simp only[(tD (o:=[x,y]) (by simp)).1,(tD (o:=[x,y]) (by simp)).2];rfl
 | x::y::z::t =>
  by_cases h3:x=1/\y=3/\z=1
  · obtain⟨rfl,rfl,rfl⟩:=h3;simp only[KL,KM,KN,LO]
    match t with
    | []=>rfl
    | [a]=>simp
    | [a,c]=>simp
    | [a,c,p] =>
     have hp:decide (qG (sq b) p>=0)=true->oU p 1 99=true:=by
      intro e;obtain⟨k,hk,_,e2⟩:=wm (of_decide_eq_true e);rw[←e2];exact h.i _ (getElem_mem hk)
     have e5:(1::3::1::[a,c,p])[5]?=some p:=rfl;rw[e5];rw[show decide (0<[a,c,p].length)=true from rfl,Bool.true_and];show (((false:Bool)||((((a==2)&&(c==2))&&oU p 1 (re b))||((((a==2)&&(c==4))&&oU p 1 (re b))||((((a==3)&&(c==1))&&oU p 1 99)||(((((a==3)&&(c==2))&&oU p 1 99)||(((a==3)&&(c==3))&&oU p 1 99))&&decide (qG (sq b) p>=0)))))))=((a==2)&&(((c==2)||(c==4))&&oU p 1 (re b))||(a==3)&&((c==1)&&oU p 1 99||((c==2)||(c==3))&&decide (qG (sq b) p>=0)))
     revert hp
     generalize (a==2)=a2;generalize (a==3)=a3;generalize (c==1)=c1;generalize (c==2)=c2;generalize (c==3)=c3;generalize (c==4)=c4;generalize oU p 1 (re b)=pn;generalize oU p 1 99=pg;generalize decide (qG (sq b) p>=0)=R;clear e5
     revert a2 a3 c1 c2 c3 c4 pn pg R
     decide
    | a::c::p::q::l=>simp
  · simp only[(Gm (t:=t) h3).1,(Gm (t:=t) h3).2];rfl
theorem Hv {b:oI} (h:tb b) (o:List Int):D9 b o=BZ b o:=by
 unfold D9 BZ
 match o with
 | []=>simp only[(tD (o:=[]) (by simp)).1,(tD (o:=[]) (by simp)).2];rfl
 | [x]=>simp only[(tD (o:=[x]) (by simp)).1,(tD (o:=[x]) (by simp)).2];rfl
 | [x,y]=>simp only[(tD (o:=[x,y]) (by simp)).1,(tD (o:=[x,y]) (by simp)).2];rfl
 | x::y::z::t =>
  by_cases h3:x=1/\y=3/\z=1
  · obtain⟨rfl,rfl,rfl⟩:=h3;simp only[KL,KM,KN,LO]
    match t with
    | []=>rfl
    | [a]=>simp
    | [a,c]=>simp
    | [a,c,p] =>
     have e7:((1::3::1::[a,c,p]).length==7)=false:=rfl;rw[e7,Bool.false_and,Bool.false_and,Bool.false_or];show ((a==2&&c==1)&&oU p 1 (re b)||((a==2&&c==3)&&oU p 1 (re b)||false))=(true&&(a==2&&((c==1||c==3)&&oU p 1 (re b))))
     cases (a==2)<;>cases (c==1)<;>cases (c==3)<;>simp
    | [a,c,p,q]=>simp
    | a::c::p::q::r::l=>simp
  · simp only[(Gm (t:=t) h3).1,(Gm (t:=t) h3).2];rw[Bool.false_or,Bool.false_or,Bool.false_or,Bool.false_and];have:((x::y::z::t).take 5==[1,3,1,4,1])=false:=by
     rw[bF];intro e;simp at e;exact h3 ⟨e.1,e.2.1,e.2.2.1⟩
    rw[this,Bool.and_false,Bool.false_and]
def qg (r:oZ):Bool->List oZ->List oZ
 | false,[]=>[r]
 | true,[]=>[]
 | false,x::t=>if x.1>=r.1 then r::(if x.1 != r.1 then x::qg r true t else qg r true t)else x::qg r false t
 | true,x::t=>if x.1 != r.1 then x::qg r true t else qg r true t
theorem xJ {r:oZ}:∀{l:List oZ},(∀x∈l,x.1≠r.1)->qg r true l=l
 | [],_=>rfl
 | x::t,h=>by
  unfold qg;rw[if_pos (bne_iff_ne.2 (h x (by simp))),xJ λy hy=>h y (mem_cons_of_mem _ hy)]
theorem B7 {r:oZ}:∀{l:List oZ} {k:Nat} (hk:k<l.length),l.Pairwise (λr s=>r.1<s.1)->l[k].1=r.1->qg r false l=l.set k r
 | x::t,0,_,hp,e=>by
  have e':x.1=r.1:=e;unfold qg;rw[if_pos (by omega),if_neg (by simp[e']),xJ λy hy=>by have:=(pairwise_cons.1 hp).1 y hy;omega];rfl
 | x::t,k+1,hk,hp,e=>by
  have e':(t[k]'(by simpa using hk)).1=r.1:=e;have:=(pairwise_cons.1 hp).1 _ (getElem_mem (by simpa using hk:k<t.length))
  unfold qg;rw[if_neg (by omega),B7 (by simpa using hk) (pairwise_cons.1 hp).2 e'];rfl
theorem Ff {r:oZ}:∀{l:List oZ} {d:Nat},l.Pairwise (λr s=>r.1<s.1)->(∀x∈l,x.1≠r.1)->(∀x∈l.take d,x.1<=r.1)->(∀x,l[d]?=some x->¬x.1<=r.1)->qg r false l=l.take d++r::l.drop d
 | [],d,_,_,_,_=>by simp[qg]
 | x::t,0,hp,hn,_,h2=>by
  have:=h2 x rfl;unfold qg;rw[if_pos (by omega),if_pos (bne_iff_ne.2 (hn x (by simp))),xJ λy hy=>hn y (mem_cons_of_mem _ hy)];rfl
 | x::t,d+1,hp,hn,h1,h2=>by
  have a1:=h1 x (by simp);have a2:=hn x (by simp)
  unfold qg;rw[if_neg (by omega),Ff (d:=d) (pairwise_cons.1 hp).2 (λy hy=>hn y (mem_cons_of_mem _ hy)) (λy hy=>h1 y (by rw[take_succ_cons];exact mem_cons_of_mem _ hy)) (λy hy=>h2 y (by simpa using hy))];rfl
theorem KO {v:pU} (r:oZ) (h1:v.1.length<=1000) (h2:v.2.length<=1000):bx v r=some (qg r false v.1,v.2):=by
 unfold bx;rw[p5 (by show 0+v.2.length<=_;omega),oJ];obtain⟨b,e1,e2⟩:=pr (β:=Bool×List oZ) (step:=λz:Bool×Int×List oZ=>ef v r z.1 z.2.1 z.2.2)
  (λk z=>z.2.1=(k:Int)/\z.2.2++qg r z.1 (v.1.drop k)=qg r false v.1/\z.2.2.length<=2*k) v.1.length
  (λz=>z.2++qg r z.1 []=qg r false v.1/\z.2.length<=2000)
  (λk z hk ⟨z1,z2,z3⟩=>by
   obtain⟨dn,i,out⟩:=z;simp only at z1 z2 z3;subst z1;left;have hd:v.1.drop k=v.1[k]::v.1.drop (k+1):=List.drop_eq_getElem_cons hk
   have hw:oL ((k:Int)+1)=((k+1:Nat):Int):=p9 (by omega);have ha:∀(x:oZ),pw out [x]=some (out++[x]):=λx=>p5 (by show _+1<=_;omega)
   have hb:∀(x y:oZ),pw (out++[x]) [y]=some (out++[x]++[y]):=λx y=>p5 (by simp only[length_append,length_cons,length_nil];omega);rw[hd]at z2;generalize hG:qg r false v.1=G at z2 ⊢;unfold ef;simp only[pK (show (k:Int)<(v.1.length:Int) by omega),cT,pb hk,oJ,ha,hb,hw];cases dn with
   | true =>
    simp only[Bool.not_true,cF,oJ];unfold qg at z2;cases hq:(v.1[k].1 != r.1)with
    | true =>
     rw[hq]at z2;exact⟨_,rfl,rfl,by simpa using z2,by simp;omega⟩
    | false =>
     rw[hq]at z2;exact⟨_,rfl,rfl,by simpa using z2,by simp;omega⟩
   | false =>
    simp only[Bool.not_false,cT,oJ];unfold qg at z2;by_cases hg:v.1[k].1>=r.1
    · rw[if_pos hg]at z2;simp only[dT hg,cT];cases hq:(v.1[k].1 != r.1)with
      | true =>
       rw[hq]at z2;exact⟨_,rfl,rfl,by simpa using z2,by simp;omega⟩
      | false =>
       rw[hq]at z2;exact⟨_,rfl,rfl,by simpa using z2,by simp;omega⟩
    · rw[if_neg hg]at z2;simp only[dF hg,cF,bne_iff_ne.2 (show v.1[k].1≠r.1 by omega),cT];exact⟨_,rfl,rfl,by simpa using z2,by simp;omega⟩)
  (λz ⟨z1,z2,z3⟩=>by
   obtain⟨dn,i,out⟩:=z;simp only at z1 z2 z3;subst z1;rw[List.drop_length]at z2;refine⟨(dn,out),?_,z2,by show out.length<=2000;have:out.length<=2*v.1.length:=z3;omega⟩;unfold ef;rw[pk (by omega),cF]) (x:=(false,0,[])) ⟨rfl,rfl,by simp⟩
 rw[e1,oJ];obtain⟨dn,out⟩:=b;simp only at e2 ⊢;cases dn with
 | true =>
  rw[Bool.not_true,cF,←e2.1];simp[qg]
 | false =>
  rw[Bool.not_false,cT,p5 (by show _+1<=_;omega),oJ,←e2.1];rfl
theorem Ik {v:pU} (r:oZ) (h1:v.1.length<=1000) (h2:v.2.length<=1000) (hp:v.1.Pairwise λr s=>r.1<s.1):cC v r=some (qg r false v.1,v.2):=by
 unfold cC;have hM:M=1048576:=rfl
 rw[B4 ⟨by omega,by omega⟩,oJ,zY (by omega),oJ];by_cases hr:qG v.1 r.1>=0
 · obtain⟨k,hk,e1,e2⟩:=wm hr;have hx:ix v.1.length (k:Int)=some k:=by unfold ix;rw[if_pos (by omega),if_pos (by omega),Int.toNat_natCast]
   rw[dT hr,cT,e1,hx,oJ,List.getElem?_eq_getElem hk,oJ,B7 hk hp e2]
 · rw[dF hr,cF];have hn:=Gk (by omega:qG v.1 r.1<0)
   obtain⟨d,e1,k,hk,rfl,e3,e4⟩:=pr (β:=Int) (step:=λz=>dC v r z)
    (λk z=>z=(k:Int)/\∀x∈v.1.take k,x.1<=r.1) v.1.length
    (λz=>∃k:Nat,k<=v.1.length/\z=(k:Int)/\(∀x∈v.1.take k,x.1<=r.1)/\(∀x,v.1[k]?=some x->¬x.1<=r.1))
    (λk z hk ⟨z1,z2⟩=>by
     subst z1;unfold dC;simp only[pK (show (k:Int)<(v.1.length:Int) by omega),cT,pb hk,oJ];by_cases hq:v.1[k].1<=r.1
     · refine .inl ⟨_,by rw[dT hq,cT],p9 (by omega),λx hx=>?_⟩;rw[take_add_one,List.getElem?_eq_getElem hk,mem_append]at hx;rcases hx with hx|hx
       · exact z2 x hx
       · simp at hx;subst hx;exact hq
     · refine .inr ⟨_,by rw[dF hq,cF],k,by omega,rfl,z2,λx hx=>?_⟩;rw[List.getElem?_eq_getElem hk]at hx;cases hx;exact hq)
    (λz ⟨z1,z2⟩=>by
     subst z1;refine⟨(v.1.length:Int),?_,v.1.length,Nat.le_refl _,rfl,z2,λx hx=>?_⟩
     · unfold dC;rw[pk (by omega),cF];rfl
     · rw[List.getElem?_eq_none (Nat.le_refl _)]at hx;cases hx) (x:=0) ⟨rfl,by simp⟩
   rw[e1,oJ,show (0:Int)=((0:Nat):Int)from rfl,tC (Nat.zero_le _) hk,oJ,drop_zero];have hl:(v.1.take k).length<=1000:=by rw[length_take];omega
   rw[p5 (by simp only[length_nil];omega),oJ,List.nil_append,p5 (by simp only[length_cons,length_nil];omega),oJ,tC hk (Nat.le_refl _),oJ,take_length,p5 (by simp only[length_append,length_cons,length_nil,length_drop];omega),oJ,Ff hp hn e3 e4];simp

def KP (b:oI) (m s:Option (oI×Int)):Prop:=∃r,m=some r/\s=some r/\tb r.1/\(r.2≠0->r.1=b)
theorem x8 {n a b:Nat} (h1:a<=b) (h2:b<=n):rf n (a:Int) (b:Int)=some (a,b):=by
 unfold rf;rw[if_pos (by omega),if_pos (by omega),if_pos (by omega)];simp
theorem Il {v:pU} (id:Int) (h1:v.1.length<=1000) (h2:v.2.length<=1000) {k:Nat} (hk:k<v.1.length) (e:qG v.1 id=(k:Int)):cD v id=some (v.1.eraseIdx k,v.2):=by
 unfold cD;have hM:M=1048576:=rfl
 have hw:oL ((k:Int)+1)=((k+1:Nat):Int):=p9 (by omega);rw[B4 ⟨by omega,by omega⟩,oJ,zY (by omega),oJ,e,dT (by omega),cT,hw,show (0:Int)=((0:Nat):Int)from rfl,tC (Nat.zero_le _) (by omega),oJ,p5 (by simp only[length_nil,length_drop,length_take];omega),oJ,tC (by omega) (Nat.le_refl _),oJ,p5 (by simp only[length_append,length_nil,length_drop,length_take];omega),oJ,List.eraseIdx_eq_take_drop_succ];simp
end Go.V.W
