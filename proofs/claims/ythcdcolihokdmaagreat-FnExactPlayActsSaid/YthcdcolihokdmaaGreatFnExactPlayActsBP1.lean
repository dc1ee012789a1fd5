/- The law FnExactPlayActs: part of the proof that for every input it returns true. No condition. -/
import Derived.KernelRfl
import Derived.Test.YthcdcolihokdmaaGreatFnExactPlayActs
import Derived.Test.YthcdcolihokdmaaGreatFnExactPlayActsM
open List (any_eq_false any_eq_true append_assoc cons_lt_cons_iff drop_eq_getElem_cons drop_zero flatMap_append getElem_cons_succ getElem_cons_zero getElem_mem getElem_of_mem length_append length_cons length_drop length_map length_nil length_set length_take map_append mem_append mem_cons mem_cons_of_mem mem_flatMap mem_map mem_range not_mem_nil pairwise_append pairwise_cons range_succ take_add_one take_append_drop take_length take_nil take_succ_cons take_zero)
set_option linter.unusedVariables false
set_option linter.unusedSimpArgs false
namespace Go.V.W
theorem wX {α β:Type} (a:α) (f:α->Option β):(some a).bind f=f a:=rfl
abbrev M:Nat:=1048576
abbrev In (left:Int):Prop:=0<=left/\left<=1048576
theorem In.next {left r:Int} (h:In left) (h1:0<=r) (h2:r<=left):In r:=⟨h1,by have:=h.2;omega⟩
theorem Ag {n:Nat} (h:n<=M):n<=4294967295:=Nat.le_trans h (by decide)
theorem Ou {a:List Int} {left:Int} (hl:In left) (h:a.length<=maxLen):zT left (fj a left) (a.length<=M):=DW hl h
theorem Mb {a:List Int} {left:Int} (hl:In left) (h:a.length<=maxLen):zT left (fk a left) (a.length<=M):=DW hl h
theorem XU {a:List Pt} {left:Int} (hl:In left) (h:a.length<=maxLen):zT left (jk a left) (a.length<=M):=DW hl h
theorem V4 {a:List xa} {left:Int} (hl:In left) (h:a.length<=maxLen):zT left (jl a left) (a.length<=M):=DW hl h
theorem V5 {a:List xq} {left:Int} (hl:In left) (h:a.length<=maxLen):zT left (jm a left) (a.length<=M):=DW hl h
theorem WJ {a:yl} {left:Int} (hl:In left) (h:a.1.length<=maxLen/\a.2.length<=maxLen):zT left (jn a left) (a.1.length<=M/\a.2.length<=M/\True) :=
 zq (V5 hl h.1) λr h1 h2=>zq (Ou (hl.next h1 h2) h.2) λr h1 h2=>BJ h1
def Ar (n:Nat) (b:wY):Prop:=b.2.1.length<=n/\b.2.2.1.length<=n/\b.2.2.2.1.length<=n/\b.2.2.2.2.1.length<=n/\b.2.2.2.2.2.1.length<=n
theorem Ov {b:wY} {left:Int} (hl:In left) (h:Ar maxLen b):zT left (gU b left) (Ar M b):=by
 obtain⟨h1,h2,h3,h4,h5⟩:=h;refine Bn (Ea hl h1 λr k1 k2=>zq (XU (hl.next k1 k2) h2) λr' k3 k4=>zq (V4 ((hl.next k1 k2).next k3 k4) h3) λr'' k5 k6=>zq (WJ (a:=(b.2.2.2.2.1,b.2.2.2.2.2.1)) (((hl.next k1 k2).next k3 k4).next k5 k6) ⟨h4,h5⟩) λr3 k7 k8=>BJ k7) ?_;rintro⟨a1,a2,a3,⟨a4,a5,_⟩,_⟩;exact⟨a1,a2,a3,a4,a5⟩
def PX (n:Nat) (v:A6):Prop:=v.2.2.1.length<=n/\v.2.2.2.length<=n
theorem XV {v:A6} {left:Int} (hl:In left) (h:PX maxLen v):zT left (jo v left) (PX M v) :=
 Bn (Ea hl h.1 λr k1 k2=>zq (Ou (hl.next k1 k2) h.2) λr' k3 k4=>BJ k3) λ⟨a,b,_⟩=>⟨a,b⟩
def EC (n:Nat) (x:x7):Prop:=x.1.length<=n/\PX n x.2
theorem WK {x:x7} {left:Int} (hl:In left) (h:EC maxLen x):zT left (gV x left) (EC M x) :=
 Bn (zq (Ou hl h.1) λr k1 k2=>zq (XV (hl.next k1 k2) h.2) λr' k3 k4=>BJ k3) λ⟨a,b,_⟩=>⟨a,b⟩
def Dh (n:Nat) (l:List x7):Prop:=l.length<=n/\∀x∈l,EC n x
theorem V6 {l:List x7} {left:Int} (hl:In left) (h:Dh maxLen l):zT left (jp l left) (Dh M l):=by
 have hn:l.length<=9223372036854775807:=h.1;show zT left (let l1:=wZ (left-(l.length:Int));cond (decide (l1<0)) (some (-1)) ((loop (λz=>na l z.1 z.2) (l1,0)).bind (Sum.elim (λd=>some d) (λr=>some r)))) _
 by_cases hle:l.length<=M
 · exact Bn (Ea hl h.1 λr k1 k2=>IW (f:=gV) (Q:=EC M) (λx hx l' h1 h2=>WK ⟨h1,h2⟩ (h.2 x hx)) (Ag hle) (hl.next k1 k2)) λ⟨a,b⟩=>⟨a,b⟩
 · refine⟨-1,?_,.inl rfl⟩;show cond (decide (wZ (left-(l.length:Int))<0)) _ _=_
   have:M<l.length:=by omega
   have hM:(1048576:Int)<(l.length:Int):=by have:1048576<l.length:=this;omega
   have:=hl.2;rw[xN (by omega) (by omega),xI (by omega),cT]
def zz (n:Nat) (p:xE):Prop:=Dh n p.2.2.2.2
theorem XW {p:xE} {left:Int} (hl:In left) (h:zz maxLen p):zT left (jq p left) (zz M p) :=
 Bn (zq (V6 hl h) λr k1 k2=>BJ k1) λ⟨a,_⟩=>a
def jP (j:xH):xE:=(j.2.2.2.1,j.2.2.2.2.1,j.2.2.2.2.2.1,j.2.2.2.2.2.2.1,j.2.2.2.2.2.2.2.1)
def jB (a0:xH):wY:=(a0.2.2.2.2.2.2.2.2.1,a0.2.2.2.2.2.2.2.2.2.1,a0.2.2.2.2.2.2.2.2.2.2.1,a0.2.2.2.2.2.2.2.2.2.2.2.1,a0.2.2.2.2.2.2.2.2.2.2.2.2.1,a0.2.2.2.2.2.2.2.2.2.2.2.2.2.1,a0.2.2.2.2.2.2.2.2.2.2.2.2.2.2.1,a0.2.2.2.2.2.2.2.2.2.2.2.2.2.2.2.1,a0.2.2.2.2.2.2.2.2.2.2.2.2.2.2.2.2.1,a0.2.2.2.2.2.2.2.2.2.2.2.2.2.2.2.2.2.1,a0.2.2.2.2.2.2.2.2.2.2.2.2.2.2.2.2.2.2.1)
def JS (n:Nat) (j:xH):Prop:=j.2.1.length<=n/\zz n (jP j)/\Ar n (jB j)
theorem XX {j:xH} {left:Int} (hl:In left) (h:JS maxLen j):zT left (gW j left) (JS M j) :=
 Bn (zq (Mb hl h.1) λr k1 k2=>zq (XW (p:=jP j) (hl.next k1 k2) h.2.1) λr' k3 k4=>zq (Ov (b:=jB j) ((hl.next k1 k2).next k3 k4) h.2.2) λr'' k5 k6=>BJ k5) λ⟨a,b,c,_⟩=>⟨a,b,c⟩
def Ow (n:Nat) (l:List xH):Prop:=l.length<=n/\∀x∈l,JS n x
theorem WL {l:List xH} {left:Int} (hl:In left) (h:Ow maxLen l):zT left (jr l left) (Ow M l):=by
 have hn:l.length<=9223372036854775807:=h.1;show zT left (let l1:=wZ (left-(l.length:Int));cond (decide (l1<0)) (some (-1)) ((loop (λz=>ne l z.1 z.2) (l1,0)).bind (Sum.elim (λd=>some d) (λr=>some r)))) _
 by_cases hle:l.length<=M
 · exact Bn (Ea hl h.1 λr k1 k2=>IW (f:=gW) (Q:=JS M) (λx hx l' h1 h2=>XX ⟨h1,h2⟩ (h.2 x hx)) (Ag hle) (hl.next k1 k2)) λ⟨a,b⟩=>⟨a,b⟩
 · refine⟨-1,?_,.inl rfl⟩;show cond (decide (wZ (left-(l.length:Int))<0)) _ _=_
   have:M<l.length:=by omega
   have hM:(1048576:Int)<(l.length:Int):=by have:1048576<l.length:=this;omega
   have:=hl.2;rw[xN (by omega) (by omega),xI (by omega),cT]
def aB (a0:xk):wY:=(a0.1,a0.2.1,a0.2.2.1,a0.2.2.2.1,a0.2.2.2.2.1,a0.2.2.2.2.2.1,a0.2.2.2.2.2.2.1,a0.2.2.2.2.2.2.2.1,a0.2.2.2.2.2.2.2.2.1,a0.2.2.2.2.2.2.2.2.2.1,a0.2.2.2.2.2.2.2.2.2.2.1)
def FY (n:Nat) (a:xk):Prop:=Ar n (aB a)/\a.2.2.2.2.2.2.2.2.2.2.2.1.length<=n/\Ow n a.2.2.2.2.2.2.2.2.2.2.2.2.1
theorem V7 {a:xk} {left:Int} (hl:In left) (h:FY maxLen a):zT left (ji a left) (FY M a) :=
 Bn (zq (Ov (b:=aB a) hl h.1) λr k1 k2=>Ea (hl.next k1 k2) h.2.1 λr' k3 k4=>zq (WL ((hl.next k1 k2).next k3 k4) h.2.2) λr'' k5 k6=>BJ k5) λ⟨a,b,c,_⟩=>⟨a,b,c⟩
theorem Ox {a:List Int} (h:a.length<=M):fm a=some a:=Ez (Ag h) (O6 (Ag h) 0)
theorem Mc {a:List Int} (h:a.length<=M):eo a=some a:=Ez (Ag h) (O6 (Ag h) 0)
theorem XY {a:List Pt} (h:a.length<=M):jt a=some a:=Ez (Ag h) (E9 (f:=js) (λ_ _=>rfl) (Ag h) _)
theorem V8 {a:List xa} (h:a.length<=M):jv a=some a:=Ez (Ag h) (E9 (f:=ju) (λ_ _=>rfl) (Ag h) _)
theorem V9 {a:List xq} (h:a.length<=M):jx a=some a:=Ez (Ag h) (E9 (f:=jw) (λ_ _=>rfl) (Ag h) _)
theorem WM {a:yl} (h:a.1.length<=M/\a.2.length<=M):gX a=some a:=by
 unfold gX;rw[V9 h.1,wX,Ox h.2,wX]
theorem Oy {b:wY} (h:Ar M b):fo b=some b:=by
 obtain⟨h1,h2,h3,h4,h5⟩:=h;unfold fo;rw[XY h2,wX,V8 h3,wX,WM ⟨h4,h5⟩,wX]
theorem XZ {v:A6} (h:PX M v):gY v=some v:=by
 unfold gY;rw[Ox h.2,wX]
theorem WN {x:x7} (h:EC M x):fp x=some x:=by
 unfold fp;rw[Ox h.1,wX,XZ h.2,wX]
theorem Va {l:List x7} (h:Dh M l):jy l=some l:=Ez (Ag h.1) (E9 (f:=fp) (λx hx=>WN (h.2 x hx)) (Ag h.1) _)
theorem Y0 {p:xE} (h:zz M p):fq p=some p:=by
 unfold fq;rw[Va h,wX]
theorem Y1 {j:xH} (h:JS M j):fr j=some j:=by
 unfold fr;rw[Mc h.1,wX,show fq (j.2.2.2.1,j.2.2.2.2.1,j.2.2.2.2.2.1,j.2.2.2.2.2.2.1,j.2.2.2.2.2.2.2.1)=some (jP j)from Y0 h.2.1,wX];have:=Oy h.2.2
 unfold jB at this;rw[this,wX];rfl
theorem WO {l:List xH} (h:Ow M l):jz l=some l:=Ez (Ag h.1) (E9 (f:=fr) (λx hx=>Y1 (h.2 x hx)) (Ag h.1) _)
theorem Vb {a:xk} (h:FY M a):cG a=some a:=by
 unfold cG;have:=Oy h.1
 unfold aB at this;rw[this,wX,WO h.2.2,wX]
theorem Ug (v:BR):eY v v=some true:=by unfold eY;simp
theorem YR (v:Pt):ft v v=some true:=by unfold ft;simp[Ug]
theorem WP (v:xa):fu v v=some true:=by unfold fu;simp
theorem WQ (v:xq):fv v v=some true:=by unfold fv;simp
theorem Oz {a:List Int} (h:a.length<=M):fw a a=some true:=Ch (HU (Ag h))
theorem Md {a:List Int} (h:a.length<=M):eW a a=some true:=Ch (HU (Ag h))
theorem Y2 {a:List Pt} (h:a.length<=M):jA a a=some true:=Ch (CS (g:=ft) (λx _=>YR x) (Ag h))
theorem Vc {a:List xa} (h:a.length<=M):jC a a=some true:=Ch (CS (g:=fu) (λx _=>WP x) (Ag h))
theorem Vd {a:List xq} (h:a.length<=M):jD a a=some true:=Ch (CS (g:=fv) (λx _=>WQ x) (Ag h))
theorem WR {a:yl} (h:a.1.length<=M/\a.2.length<=M):gZ a a=some true:=by
 unfold gZ;simp[Vd h.1,Oz h.2]
theorem OA {b:wY} (h:Ar M b):fx b b=some true:=by
 obtain⟨h1,h2,h3,h4,h5⟩:=h;unfold fx;simp[Y2 h2,Vc h3,WR (a:=(b.2.2.2.2.1,b.2.2.2.2.2.1)) ⟨h4,h5⟩]
theorem Y3 {v:A6} (h:PX M v):hC v v=some true:=by
 unfold hC;simp[Oz h.2]
theorem WS {x:x7} (h:EC M x):fy x x=some true:=by
 unfold fy;simp[Oz h.1,Y3 h.2]
theorem Ve {l:List x7} (h:Dh M l):jE l l=some true:=Ch (CS (g:=fy) (λx hx=>WS (h.2 x hx)) (Ag h.1))
theorem Uh {p:xE} (h:zz M p):fA p p=some true:=by
 unfold fA;simp[Ve (l:=p.2.2.2.2) h]
theorem Y4 {j:xH} (h:JS M j):fB j j=some true:=by
 have h2:=Uh h.2.1;have h3:=OA h.2.2
 unfold jP at h2;unfold jB at h3;unfold fB;simp[Md h.1,h2,h3]
theorem WT {l:List xH} (h:Ow M l):jF l l=some true:=Ch (CS (g:=fB) (λx hx=>Y4 (h.2 x hx)) (Ag h.1))
theorem PY {a:xk} (h:FY M a):cH a a=some true:=by
 have h1:=OA h.1;unfold aB at h1;unfold cH;simp[h1,WT h.2.2]

theorem LC {α β:Type} {f g:α->Option (α⊕β)} (xR:α->Prop) (h:∀x,xR x->f x=g x) (hi:∀x y,xR x->f x=some (.inl y)->xR y) {x:α} (h0:xR x):loop f x=loop g x:=by
 have key:∀k x,xR x->zY f k x=zY g k x:=by
  intro k
  induction k with
  | zero=>intro x _;rfl
  | succ k ih =>
   intro x hx;rw[yh,yh,←h x hx];cases hf:f x with
   | none=>rfl
   | some v=>cases v with
    | inl y=>exact ih y (hi x y hx hf)
    | inr b=>rfl
 have hex:(∃k,(zY f k x).isSome)↔∃k,(zY g k x).isSome:=by
  constructor<;>rintro⟨k,hk⟩<;>exact⟨k,by first|rwa [←key k x h0]|rwa [key k x h0]⟩
 by_cases hc:∃k,(zY f k x).isSome
 · obtain⟨k,hk⟩:=hc;cases hv:zY f k x with
   | none=>rw[hv]at hk;cases hk
   | some b=>rw[AH hv,AH ((key k x h0)▸hv)]
 · have hc':¬ ∃k,(zY g k x).isSome:=λh=>hc (hex.2 h);unfold loop;rw[dif_neg hc,dif_neg hc']
theorem zP {α β:Type} {f g:α->Option (α⊕β)} (h:∀x,f x=g x) (x:α):loop f x=loop g x:=by rw[funext h]
def xe (x a b:Int):Bool:=decide (x>=a)&&decide (x<=b)
theorem Ad (x a b:Int):aa x a b=some (xe x a b):=by
 unfold aa xe;cases decide (x>=a)<;>rfl
theorem CX (x a b:Int):ac x a b=some (xe x a b):=Ad x a b
def I2 (v:BR):Bool:=xe v.1 1 99&&(xe v.2.1 0 100000&&(xe v.2.2.1 0 10&&(xe v.2.2.2.1 1 99&&xe v.2.2.2.2 0 7)))
theorem OB (v:BR):bO v=some (I2 v):=by
 unfold bO I2;simp only[Ad,wX];cases xe v.1 1 99<;>cases xe v.2.1 0 100000<;>cases xe v.2.2.1 0 10<;>cases xe v.2.2.2.1 1 99<;>rfl
theorem WU:dW=bO:=rfl
def Cr (p:Pt):Bool:=xe p.2.1 1 1000&&(!(p.2.2.1&&!p.1)&&(cond p.2.2.1 (I2 p.2.2.2) (p.2.2.2.1==0&&(p.2.2.2.2.1==0&&(p.2.2.2.2.2.1==0&&(p.2.2.2.2.2.2.1==0&&(p.2.2.2.2.2.2.2==0)))))))
theorem Zg (p:Pt):eu p=some (Cr p):=by
 obtain⟨up,cost,heard,v⟩:=p;unfold eu Cr;simp only[Ad,OB,wX];cases xe cost 1 1000<;>cases up<;>cases heard<;>rfl
theorem Zh (p:Pt):fN p=some (Cr p):=by
 obtain⟨up,cost,heard,v⟩:=p;unfold fN Cr;simp only[CX,WU,OB,wX];cases xe cost 1 1000<;>cases up<;>cases heard<;>rfl
theorem B3 {n:Nat} {c:Int->Option Bool} {b:Nat->Bool} (hn:n<9223372036854775807) (hc:∀k,k<n->c (k:Int)=some (b k)) :
 loop (λi:Int=>cond (decide (i<(n:Int))) ((c i).bind λt=>cond t (some (.inr (.inr false))) (some (.inl (wZ (i+1))))) (some (.inr (.inl ())))) 0=some (cond ((List.range n).any b) (Sum.inr false) (Sum.inl ()):Unit⊕Bool):=by
 obtain⟨v,h1,h2⟩:=xG (β:=Unit⊕Bool) (step:=λi:Int=>cond (decide (i<(n:Int))) ((c i).bind λt=>cond t (some (.inr (.inr false))) (some (.inl (wZ (i+1))))) (some (.inr (.inl ()))))
  (λk i=>i=(k:Int)/\(List.range k).any b=false) n (λv=>v=cond ((List.range n).any b) (Sum.inr false) (Sum.inl ()))
  (λk i hk ⟨e,ha⟩=>by
   subst e;have hs:(cond (decide ((k:Int)<(n:Int))) ((c (k:Int)).bind λt=>cond t (some (.inr (.inr false))) (some (.inl (wZ ((k:Int)+1))))) (some (.inr (.inl ()))):Option (Int⊕(Unit⊕Bool)))=cond (b k) (some (.inr (.inr false))) (some (.inl ((k+1:Nat):Int))):=by
    rw[xI (by omega),cT,hc k hk,wX,xj (by omega)]
   cases hb:b k with
   | true =>
    refine .inr ⟨.inr false,by rw[hs,hb];rfl,?_⟩;have:(List.range n).any b=true:=any_eq_true.2 ⟨k,mem_range.2 hk,hb⟩
    rw[this];rfl
   | false =>
    refine .inl ⟨_,by rw[hs,hb];rfl,rfl,?_⟩;rw[range_succ,List.any_append,ha];simp[hb])
  (λi ⟨e,ha⟩=>by
   subst e;exact⟨.inl (),by rw[xu (by omega),cF],by rw[ha];rfl⟩) (x:=0) ⟨rfl,rfl⟩
 rw[h1,h2]
def Ct (e:xa):Bool:=xe e.1 1 99&&(xe e.2.1 1 9999&&(xe e.2.2.1 0 7&&(xe e.2.2.2.1 0 4&&(!e.2.2.2.2||e.2.2.2.1==0))))
theorem Nb (e:xa):cm e=some (Ct e):=by
 unfold cm Ct;simp only[Ad,wX];cases xe e.1 1 99<;>cases xe e.2.1 1 9999<;>cases xe e.2.2.1 0 7<;>cases xe e.2.2.2.1 0 4<;>cases e.2.2.2.2<;>rfl
theorem Ui:fO=cm:=rfl
def zl (e:xa) (tag mac:Int):Bool:=decide (e.1>tag)||(e.1==tag&&decide (e.2.1>mac))
theorem Me (e:xa) (tag mac:Int):dq e tag mac=some (zl e tag mac):=by
 unfold dq zl;cases decide (e.1>tag)<;>cases (e.1==tag)<;>rfl
theorem WV (p e:xa):ce p e.1 e.2.1=some (zl e p.1 p.2.1):=by
 unfold ce zl;by_cases h:p.1=e.1
 · simp[h]
 · have h':¬e.1=p.1:=λk=>h k.symm;have e1:(p.1 != e.1)=true:=by simpa using h
   have e2:(e.1==p.1)=false:=by simpa using h'
   rw[e1,e2,cT,Bool.false_and,Bool.or_false]
def Cu (l:List xa) (k:Nat):Bool:=match l[k]? with
 | some e=>!(Ct e)||(decide (0<k)&&(match l[k-1]? with|some p=>!(zl e p.1 p.2.1)|none=>false))
 | none=>false
def CF (l:List xa):Bool:=!((List.range l.length).any (Cu l))&&decide ((l.length:Int)<=12)
theorem Ff {α:Type} {l:List α} {k:Nat} (h:k<l.length) (hk:0<k) (hn:l.length<9223372036854775807):at? l (wZ ((k:Int)-1))=some l[k-1]:=by
 rw[xN (by omega) (by omega),show (k:Int)-1=((k-1:Nat):Int) by omega,xo (by omega)]
theorem TA {l:List xa} (hn:l.length<9223372036854775807):ev l=some (CF l):=by
 unfold ev CF;have h:=B3 (n:=l.length) (c:=λi=>(at? l i).bind λx10=>(cm x10).bind λt13=>(cond (!t13) (some true) ((cond (decide (i>0)) ((at? l (wZ (i-1))).bind λx23=>(at? l (wZ (i-1))).bind λx29=>(dq x10 x23.1 x29.2.1).bind λt32=>some (!t32)) (some false)).bind λt34=>some t34)).bind λt=>some t) (b:=Cu l) hn (λk hk=>by
  simp only[xo hk,wX,Nb,Cu,List.getElem?_eq_getElem hk];cases Ct l[k]with
  | false=>rfl
  | true =>
   by_cases h0:0<k
   · have hd:decide ((k:Int)>0)=true:=dT (by omega);simp only[hd,Ff hk h0 hn,wX,Me,dT h0,List.getElem?_eq_getElem (show k-1<l.length by omega)];rfl
   · have hd:decide ((k:Int)>0)=false:=dF (by omega);simp only[hd,dF h0];rfl)
 have e:(loop (λz=>jb l z) 0)=some (cond ((List.range l.length).any (Cu l)) (Sum.inr false) (Sum.inl ())):=by
  rw[←h];refine zP (λi=>?_) 0;unfold jb;simp only[Option.bind_assoc,wX]
 rw[e,wX];cases (List.range l.length).any (Cu l)<;>rfl
theorem WW {l:List xa} (hn:l.length<9223372036854775807):fP l=some (CF l):=by
 unfold fP CF;have h:=B3 (n:=l.length) (c:=λi=>(at? l i).bind λx12=>(fO x12).bind λt14=>(cond (!t14) (some true) ((cond (decide (i>0)) ((at? l (wZ (i-1))).bind λx23=>(at? l i).bind λx27=>(at? l i).bind λx32=>(ce x23 x27.1 x32.2.1).bind λt35=>some (!t35)) (some false)).bind λt37=>some t37)).bind λt=>some t) (b:=Cu l) hn (λk hk=>by
  simp only[xo hk,wX,Ui,Nb,Cu,List.getElem?_eq_getElem hk];cases Ct l[k]with
  | false=>rfl
  | true =>
   by_cases h0:0<k
   · have hd:decide ((k:Int)>0)=true:=dT (by omega);simp only[hd,Ff hk h0 hn,wX,WV,dT h0,List.getElem?_eq_getElem (show k-1<l.length by omega)];rfl
   · have hd:decide ((k:Int)>0)=false:=dF (by omega);simp only[hd,dF h0];rfl)
 have e:(loop (λz=>jJ l z) 0)=some (cond ((List.range l.length).any (Cu l)) (Sum.inr false) (Sum.inl ())):=by
  rw[←h];refine zP (λi=>?_) 0;unfold jJ;simp only[Option.bind_assoc,wX]
 rw[e,wX];cases (List.range l.length).any (Cu l)<;>rfl

theorem SA {v:yl} (hn:v.1.length<9223372036854775807) (id:Int):∃r,ai v id=some r:=by
 unfold ai;obtain⟨b,h1,_⟩:=xG (β:=Unit⊕Int) (step:=λz=>bf v id z) (λk i=>i=(k:Int)) v.1.length (λ_=>True)
  (λk i hk h=>by
   subst h;unfold bf;rw[xI (by omega),cT,xo hk,wX];cases (v.1[k].1==id)with
   | true=>exact .inr ⟨_,rfl,trivial⟩
   | false=>exact .inl ⟨_,rfl,xj (by omega)⟩)
  (λi h=>by
   subst h;unfold bf;rw[xu (by omega)];exact⟨_,rfl,trivial⟩) (x:=0) rfl
 rw[h1,wX];cases b with
 | inl _=>exact⟨_,rfl⟩
 | inr r=>exact⟨r,rfl⟩
def Ed (i:Int):Int:=(2:Int)^i.toNat-1
theorem OC {i:Int} (h:xe i 1 6=true):i=1\/i=2\/i=3\/i=4\/i=5\/i=6:=by
 unfold xe at h;simp only[aT,decide_eq_true_eq]at h;omega
theorem MR {i:Int} (h:xe i 1 6=true):ew i=some (Ed i):=by
 rcases OC h with rfl|rfl|rfl|rfl|rfl|rfl<;>rfl
theorem WX {i:Int} (h:xe i 1 6=true):∃t,shl .i64 1 (IntKind.u64.wrap i)=some t/\wZ (t-1)=Ed i:=by
 rcases OC h with rfl|rfl|rfl|rfl|rfl|rfl<;>exact⟨_,rfl,rfl⟩
theorem R3 {i:Int} (h:xe i 1 6=true):1<=Ed i/\Ed i<=63:=by
 rcases OC h with rfl|rfl|rfl|rfl|rfl|rfl<;>decide
theorem LD (x:BitVec 64):IntKind.i64.wrap (x.toNat:Int)=x.toInt:=by
 have hx:=x.isLt;rw[BitVec.toInt_eq_toNat_cond];show (let m:=(x.toNat:Int)%18446744073709551616;if (true&&decide (m>=9223372036854775808))=true then m-18446744073709551616 else m)=_
 simp only[Bool.true_and,decide_eq_true_eq];have h1:(x.toNat:Int)%18446744073709551616=(x.toNat:Int):=by omega
 rw[h1];split<;>split<;>omega
theorem Ep {b:Int} (h1:-9223372036854775808<=b) (h2:b<=9223372036854775807):(BitVec.ofInt 64 b).toInt=b:=by
 rw[BitVec.toInt_ofInt];unfold Int.bmod;simp only;split<;>omega
theorem Uj (a b:Int):zA .i64 a b=(BitVec.ofInt 64 a&&&BitVec.ofInt 64 b).toInt:=LD _
theorem Y5 (a b:Int):DA .i64 a b=(BitVec.ofInt 64 a &&& ~~~ BitVec.ofInt 64 b).toInt:=LD _
theorem PZ (x y:BitVec 64):x&&&y=x↔x &&& ~~~ y=0:=by
 constructor
 · intro h;apply BitVec.eq_of_getLsbD_eq;intro i hi;have:=congrArg (λz=>z.getLsbD i) h
   simp only[BitVec.getLsbD_and]at this;simp only[BitVec.getLsbD_and,BitVec.getLsbD_not,BitVec.getLsbD_zero,hi,decide_true,Bool.true_and];cases hx:x.getLsbD i<;>cases hy:y.getLsbD i<;>simp_all
 · intro h;apply BitVec.eq_of_getLsbD_eq;intro i hi;have:=congrArg (λz=>z.getLsbD i) h
   simp only[BitVec.getLsbD_and,BitVec.getLsbD_not,BitVec.getLsbD_zero,hi,decide_true,Bool.true_and]at this;simp only[BitVec.getLsbD_and];cases hx:x.getLsbD i<;>cases hy:y.getLsbD i<;>simp_all
theorem MT {b m:Int} (h1:-9223372036854775808<=b) (h2:b<=9223372036854775807):(zA .i64 b m != b)=(DA .i64 b m != 0):=by
 rw[Uj,Y5];have e:((BitVec.ofInt 64 b&&&BitVec.ofInt 64 m).toInt=b)↔((BitVec.ofInt 64 b &&& ~~~ BitVec.ofInt 64 m).toInt=0):=by
  constructor
  · intro h;have:BitVec.ofInt 64 b&&&BitVec.ofInt 64 m=BitVec.ofInt 64 b:=BitVec.eq_of_toInt_eq (by rw[h,Ep h1 h2])
    rw[(PZ _ _).1 this];rfl
  · intro h;have:BitVec.ofInt 64 b &&& ~~~ BitVec.ofInt 64 m=0:=BitVec.eq_of_toInt_eq (by rw[h];rfl)
    rw[(PZ _ _).2 this,Ep h1 h2]
 by_cases h:(BitVec.ofInt 64 b&&&BitVec.ofInt 64 m).toInt=b
 · have h':=e.1 h;simp[h,h']
 · have h':¬(BitVec.ofInt 64 b &&& ~~~ BitVec.ofInt 64 m).toInt=0:=λk=>h (e.2 k);rw[bne_iff_ne.2 h,bne_iff_ne.2 h']
theorem Q0 {b m t:Int} (h1:-9223372036854775808<=b) (h2:b<=9223372036854775807) (hm:xe m 0 t=true) (ht:t<=63) (h:(zA .i64 b m != b)=false):xe b 0 t=true:=by
 unfold xe at hm ⊢;simp only[aT,decide_eq_true_eq]at hm ⊢;have h:zA .i64 b m=b:=by simpa using h
 rw[Uj]at h;have e:BitVec.ofInt 64 b&&&BitVec.ofInt 64 m=BitVec.ofInt 64 b:=BitVec.eq_of_toInt_eq (by rw[h,Ep h1 h2])
 have hM:(BitVec.ofInt 64 m).toNat=m.toNat:=by
  rw[BitVec.toNat_ofInt];omega
 have hle:(BitVec.ofInt 64 b).toNat<=m.toNat:=by
  rw[←e,BitVec.toNat_and,hM];exact Nat.and_le_right
 have hb:(BitVec.ofInt 64 b).toInt=((BitVec.ofInt 64 b).toNat:Int):=by
  rw[BitVec.toInt_eq_toNat_cond];split<;>omega
 rw[Ep h1 h2]at hb;omega
def EI (v:yl) (i:Int) (k:Nat):Bool:=match v.1[k]? with
 | some r=>!(xe r.1 1 99)||((decide (0<k)&&(match v.1[k-1]? with|some p=>decide (p.1>=r.1)|none=>false))||(!(xe r.2.1 0 (Ed i))||(DA .i64 r.2.2 r.2.1 != 0)))
 | none=>false
noncomputable def I4 (v:yl) (k:Nat):Bool:=match v.2[k]? with
 | some x=>(match ai v x with|some t=>decide (t<0)|none=>false)
 | none=>false
noncomputable def AJ (v:yl) (i:Int):Bool:=!(!(xe i 1 6)||((v.2.length:Int) != i||decide ((v.1.length:Int)>6)))&&(!((List.range v.1.length).any (EI v i))&&!((List.range v.2.length).any (I4 v)))
theorem SB {v:yl} {i:Int} (hi:xe i 1 6=true) (hn:v.1.length<9223372036854775807):loop (λz=>jc v i z) 0=some (cond ((List.range v.1.length).any (EI v i)) (Sum.inr false) (Sum.inl ())):=by
 rw[←B3 (n:=v.1.length) (c:=λt28=>(at? v.1 t28).bind λx31 =>
  (aa x31.1 1 99).bind λt35 =>
  (cond (!t35) (some true) ((cond (decide (t28>0)) ((at? v.1 (wZ (t28-1))).bind λx45=>some (decide (x45.1>=x31.1))) (some false)).bind λt51=>some t51)).bind λt52 =>
  (cond t52 (some true) ((ew i).bind λt57=>(aa x31.2.1 0 t57).bind λt58=>some (!t58))).bind λt60 =>
  (cond t60 (some true) (some ((DA .i64 x31.2.2 x31.2.1) != 0))).bind λt=>some t) (b:=EI v i) hn (λk hk=>by
   simp only[xo hk,wX,Ad,EI,List.getElem?_eq_getElem hk,MR hi];cases xe v.1[k].1 1 99 with
   | false=>rfl
   | true =>
    by_cases h0:0<k
    · have hd:decide ((k:Int)>0)=true:=dT (by omega);simp only[hd,Ff hk h0 hn,wX,dT h0,List.getElem?_eq_getElem (show k-1<v.1.length by omega)];cases decide (v.1[k-1].1>=v.1[k].1)<;>cases xe v.1[k].2.1 0 (Ed i)<;>rfl
    · have hd:decide ((k:Int)>0)=false:=dF (by omega);simp only[hd,dF h0];cases xe v.1[k].2.1 0 (Ed i)<;>rfl)]
 refine zP (λi=>?_) 0;unfold jc;simp only[Option.bind_assoc,wX]
theorem R4 {v:yl} {i t:Int} (hi:xe i 1 6=true) (ht:wZ (t-1)=Ed i) (hn:v.1.length<9223372036854775807) (hw:∀r∈v.1,-9223372036854775808<=r.2.2/\r.2.2<=9223372036854775807):loop (λz=>jK v t z) 0=some (cond ((List.range v.1.length).any (EI v i)) (Sum.inr false) (Sum.inl ())):=by
 rw[←B3 (n:=v.1.length) (c:=λt6=>(at? v.1 t6).bind λx39 =>
  (ac x39.1 1 99).bind λt43 =>
  (cond (!t43) (some true) ((ac x39.2.1 0 (wZ (t-1))).bind λt49=>some (!t49))).bind λt51 =>
  (cond t51 (some true) ((ac x39.2.2 0 (wZ (t-1))).bind λt56=>some (!t56))).bind λt58 =>
  (cond t58 (some true) (some ((zA .i64 x39.2.2 x39.2.1) != x39.2.2))).bind λt68 =>
  (cond t68 (some true) ((cond (decide (t6>0)) ((at? v.1 (wZ (t6-1))).bind λx77=>some (decide (x77.1>=x39.1))) (some false)).bind λt83=>some t83)).bind λt=>some t) (b:=EI v i) hn (λk hk=>by
   obtain⟨w1,w2⟩:=hw _ (getElem_mem hk);have hs:=MT (m:=v.1[k].2.1) w1 w2
   have hin:=Q0 (m:=v.1[k].2.1) (t:=Ed i) w1 w2;have ht2:=(R3 hi).2
   simp only[xo hk,wX,CX,EI,List.getElem?_eq_getElem hk,ht];rw[←hs];cases h1:xe v.1[k].1 1 99 with
   | false=>rfl
   | true =>
    cases h2:xe v.1[k].2.1 0 (Ed i)with
    | false =>
     by_cases h0:0<k
     · simp only[dT h0,List.getElem?_eq_getElem (show k-1<v.1.length by omega)];cases decide (v.1[k-1].1>=v.1[k].1)<;>rfl
     · simp only[dF h0];rfl
    | true =>
     cases h3:(zA .i64 v.1[k].2.2 v.1[k].2.1 != v.1[k].2.2)with
     | true =>
      by_cases h0:0<k
      · simp only[dT h0,List.getElem?_eq_getElem (show k-1<v.1.length by omega)];cases decide (v.1[k-1].1>=v.1[k].1)<;>cases xe v.1[k].2.2 0 (Ed i)<;>rfl
      · simp only[dF h0];cases xe v.1[k].2.2 0 (Ed i)<;>rfl
     | false =>
      have h4:=hin h2 ht2 h3;rw[h4];by_cases h0:0<k
      · have hd:decide ((k:Int)>0)=true:=dT (by omega);simp only[hd,Ff hk h0 hn,wX,dT h0,List.getElem?_eq_getElem (show k-1<v.1.length by omega)];cases decide (v.1[k-1].1>=v.1[k].1)<;>rfl
      · have hd:decide ((k:Int)>0)=false:=dF (by omega);simp only[hd,dF h0];rfl)]
 refine zP (λi=>?_) 0;unfold jK;simp only[Option.bind_assoc,wX]
theorem MU {v:yl} (hn:v.1.length<9223372036854775807) (hn2:v.2.length<9223372036854775807):loop (λz=>gq v z) 0=some (cond ((List.range v.2.length).any (I4 v)) (Sum.inr false) (Sum.inl ())):=by
 rw[←B3 (n:=v.2.length) (c:=λt73=>(at? v.2 t73).bind λx75=>(ai v x75).bind λt79=>some (decide (t79<0))) (b:=I4 v) hn2 (λk hk=>by
  obtain⟨r,hr⟩:=SA hn v.2[k];simp only[xo hk,wX,I4,List.getElem?_eq_getElem hk,hr])]
 refine zP (λi=>?_) 0;unfold gq;simp only[Option.bind_assoc,wX]
theorem Y6:oJ=gq:=rfl
theorem Uk {v:yl} (i:Int) (hn:v.1.length<9223372036854775807) (hn2:v.2.length<9223372036854775807):dt v i=some (AJ v i):=by
 unfold dt AJ;simp only[Ad,wX];cases hi:xe i 1 6 with
 | false=>rfl
 | true =>
  rw[SB hi hn,MU hn hn2];cases ((v.2.length:Int) != i)<;>cases decide ((v.1.length:Int)>6)<;>cases (List.range v.1.length).any (EI v i)<;>cases (List.range v.2.length).any (I4 v)<;>rfl
theorem Ul {v:yl} (i:Int) (hn:v.1.length<9223372036854775807) (hn2:v.2.length<9223372036854775807) (hw:∀r∈v.1,-9223372036854775808<=r.2.2/\r.2.2<=9223372036854775807):dX v i=some (AJ v i):=by
 unfold dX AJ;simp only[CX,wX,Y6];cases hi:xe i 1 6 with
 | false=>rfl
 | true =>
  obtain⟨t,h1,h2⟩:=WX hi;rw[h1,wX,R4 hi h2 hn hw,MU hn hn2];cases ((v.2.length:Int) != i)<;>cases decide ((v.1.length:Int)>6)<;>cases (List.range v.1.length).any (EI v i)<;>cases (List.range v.2.length).any (I4 v)<;>rfl
def It (l:List Pt) (k:Nat):Bool:=match l[k]? with|some p=>!(Cr p)|none=>false
def zI (b:wY):Bool:=xe b.2.2.2.2.2.2.1 0 1000000&&(xe b.2.2.2.2.2.2.2.1 0 1000000&&(xe b.2.2.2.2.2.2.2.2.1 0 1000000&&(xe b.2.2.2.2.2.2.2.2.2.1 0 1000000&&xe b.2.2.2.2.2.2.2.2.2.2 0 1000000)))
noncomputable def xQ (b:wY):Bool:=!((List.range b.2.2.1.length).any (It b.2.2.1))&&(xe b.1 1 99&&(!(decide ((b.2.1.length:Int)>10))&&(xe (b.2.2.1.length:Int) 1 6&&(CF b.2.2.2.1&&(AJ (b.2.2.2.2.1,b.2.2.2.2.2.1) (b.2.2.1.length:Int)&&zI b)))))
structure AC (b:wY):Prop where
 p:b.2.2.1.length<9223372036854775807
 f:b.2.2.2.1.length<9223372036854775807
 v:b.2.2.2.2.1.length<9223372036854775807
 q:b.2.2.2.2.2.1.length<9223372036854775807
 r:∀r∈b.2.2.2.2.1,-9223372036854775808<=r.2.2/\r.2.2<=9223372036854775807
theorem R5 {b:wY} (h:AC b):loop (λz=>jd b z) 0=some (cond ((List.range b.2.2.1.length).any (It b.2.2.1)) (Sum.inr false) (Sum.inl ())):=by
 rw[←B3 (n:=b.2.2.1.length) (c:=λt8=>(at? b.2.2.1 t8).bind λx10=>(eu x10).bind λt13=>some (!t13)) (b:=It b.2.2.1) h.p (λk hk=>by
  simp only[xo hk,wX,It,List.getElem?_eq_getElem hk,Zg])]
 refine zP (λi=>?_) 0;unfold jd;simp only[Option.bind_assoc,wX]
theorem Pj {b:wY} (h:AC b):loop (λz=>jL b z) 0=some (cond ((List.range b.2.2.1.length).any (It b.2.2.1)) (Sum.inr false) (Sum.inl ())):=by
 rw[←B3 (n:=b.2.2.1.length) (c:=λt8=>(at? b.2.2.1 t8).bind λx10=>(fN x10).bind λt13=>some (!t13)) (b:=It b.2.2.1) h.p (λk hk=>by
  simp only[xo hk,wX,It,List.getElem?_eq_getElem hk,Zh])]
 refine zP (λi=>?_) 0;unfold jL;simp only[Option.bind_assoc,wX]
theorem Vf (b:wY):iq b=some (zI b):=by
 unfold iq zI;simp only[CX,wX];cases xe b.2.2.2.2.2.2.1 0 1000000<;>cases xe b.2.2.2.2.2.2.2.1 0 1000000<;>cases xe b.2.2.2.2.2.2.2.2.1 0 1000000<;>cases xe b.2.2.2.2.2.2.2.2.2.1 0 1000000<;>rfl
theorem SC (n:Int):bc n=some (xe n 0 1000000):=by unfold bc;rw[Ad,wX]
theorem By {b:wY} (h:AC b):aS b=some (xQ b):=by
 unfold aS xQ zI;rw[R5 h,wX];cases (List.range b.2.2.1.length).any (It b.2.2.1)with
 | true=>rfl
 | false =>
  simp only[cF,Sum.elim_inl,Ad,TA h.f,Uk (v:=(b.2.2.2.2.1,b.2.2.2.2.2.1)) _ h.v h.q,SC,wX];cases xe b.1 1 99<;>cases decide ((b.2.1.length:Int)>10)<;>cases xe (b.2.2.1.length:Int) 1 6<;>cases CF b.2.2.2.1<;>cases AJ (b.2.2.2.2.1,b.2.2.2.2.2.1) (b.2.2.1.length:Int) <;>
   cases xe b.2.2.2.2.2.2.1 0 1000000<;>cases xe b.2.2.2.2.2.2.2.1 0 1000000<;>cases xe b.2.2.2.2.2.2.2.2.1 0 1000000<;>cases xe b.2.2.2.2.2.2.2.2.2.1 0 1000000<;>rfl
theorem Dw {b:wY} (h:AC b):aZ b=some (xQ b):=by
 unfold aZ xQ;rw[Pj h,wX];cases (List.range b.2.2.1.length).any (It b.2.2.1)with
 | true=>rfl
 | false =>
  have e:decide ((b.2.1.length:Int)<=10)=!(decide ((b.2.1.length:Int)>10)):=by
   by_cases hh:(b.2.1.length:Int)>10
   · rw[dT hh,dF (by omega)];rfl
   · rw[dF hh,dT (by omega)];rfl
  simp only[cF,Sum.elim_inl,CX,WW h.f,Ul (v:=(b.2.2.2.2.1,b.2.2.2.2.2.1)) _ h.v h.q h.r,Vf,wX,e];cases xe b.1 1 99<;>cases decide ((b.2.1.length:Int)>10)<;>cases xe (b.2.2.1.length:Int) 1 6<;>cases CF b.2.2.2.1<;>cases AJ (b.2.2.2.2.1,b.2.2.2.2.2.1) (b.2.2.1.length:Int)<;>cases zI b<;>rfl
theorem Um:iB=dC:=rfl
theorem Un (a b:BR):∃r,dC a b=some r:=by
 unfold dC;cases (a.1 != b.1)<;>cases (a.2.1 != b.2.1)<;>cases (a.2.2.2.1 != b.2.2.2.1)<;>exact⟨_,rfl⟩
theorem Y7:jR=eF:=rfl
theorem Y8 (v:BR) (c:Int):∃r,eF v c=some r:=by
 unfold eF;simp only[OB,Ad,wX];cases I2 v<;>cases xe c 1 1000<;>first|exact⟨_,rfl⟩|skip
 generalize I2 (v.1,wZ (v.2.1+c),wZ (v.2.2.1+1),v.2.2.2.1,v.2.2.2.2)=q;cases q<;>exact⟨_,rfl⟩
theorem Y9 (p0:Int) (l:List Pt) (t8 t9 b0 b1 b2 b3 b4 c0 c1 c2 c3 c4:Int):jS p0 l t8 t9 b0 b1 b2 b3 b4 c0 c1 c2 c3 c4=dD p0 l t8 t9 b0 b1 b2 b3 b4 c0 c1 c2 c3 c4:=by
 unfold jS dD;rw[Y7,Um];cases h:at? l t9 with
 | none=>rfl
 | some x=>simp only[wX]
theorem Uo:fV=bA:=by
 funext p0 l
 unfold fV bA;rw[zP (λz=>Y9 p0 l _ _ _ _ _ _ _ _ _ _ _ _)]
theorem Ya (p0:Int) {l:List Pt} (hn:l.length<9223372036854775807):∃r,bA p0 l=some r:=by
 unfold bA;obtain⟨b,h1,_⟩:=xG (step:=λz:Int×Int×Int×Int×Int×Int×Int×Int×Int×Int×Int×Int=>dD p0 l z.1 z.2.1 z.2.2.1 z.2.2.2.1 z.2.2.2.2.1 z.2.2.2.2.2.1 z.2.2.2.2.2.2.1 z.2.2.2.2.2.2.2.1 z.2.2.2.2.2.2.2.2.1 z.2.2.2.2.2.2.2.2.2.1 z.2.2.2.2.2.2.2.2.2.2.1 z.2.2.2.2.2.2.2.2.2.2.2)
  (λk z=>z.2.1=(k:Int)) l.length (λ_=>True)
  (λk z hk h=>by
   left;obtain⟨t7,t18,b0,b1,b2,b3,b4,c0,c1,c2,c3,c4⟩:=z;obtain rfl:t18=(k:Int):=h;unfold dD;simp only[xI (show (k:Int)<(l.length:Int) by omega),cT,xo hk,wX];rw[show wZ ((k:Int)+1)=((k+1:Nat):Int)from xj (by omega)];generalize l[k]=x;have e:(cond (!x.1) (some true) (some (!x.2.2.1)):Option Bool)=some (cond (!x.1) true (!x.2.2.1)):=by cases x.1<;>rfl
   rw[e,wX];cases (cond (!x.1) true (!x.2.2.1))with
   | true=>exact⟨_,rfl,rfl⟩
   | false =>
    obtain⟨r,hr⟩:=Y8 x.2.2.2 x.2.1;obtain⟨q,hq⟩:=Un r.1 (c0,c1,c2,c3,c4);rw[cF,hr,wX,hq];cases r.2<;>cases decide (r.1.1<p0)<;>cases decide (t7<0)<;>cases q<;>exact⟨_,rfl,rfl⟩)
  (λz h=>by
   obtain⟨t7,t18,b0,b1,b2,b3,b4,c0,c1,c2,c3,c4⟩:=z;obtain rfl:t18=(l.length:Int):=h;unfold dD;simp only[xu (show ¬(l.length:Int)<(l.length:Int) by omega),cF];exact⟨_,rfl,trivial⟩) (x:=((-1),0,p0,0,0,p0,0,0,0,0,0,0)) rfl
 rw[h1,wX];exact⟨_,rfl⟩
theorem YS:iC=eG:=by
 funext id l p
 unfold iC eG;rw[Uo]
theorem Up:fW=aL:=by
 funext id l p
 unfold fW aL;rw[Uo,YS,Um];rfl
theorem R6 (id:Int) {l:List Pt} (hn:l.length<9223372036854775807) (p:Int):∃r,aL id l p=some r:=by
 obtain⟨v,hv⟩:=Ya id hn;unfold aL eG;simp only[Ad,wX,hv];rw[show wZ ((l.length:Int)-1)=(l.length:Int)-1 from xN (by omega) (by omega)];cases hp:xe p 0 ((l.length:Int)-1)with
 | false=>exact⟨_,rfl⟩
 | true =>
  unfold xe at hp;simp only[aT,decide_eq_true_eq]at hp;obtain⟨k,rfl⟩:∃k:Nat,p=(k:Int):=⟨p.toNat,by omega⟩;simp only[xo (show k<l.length by omega),wX];generalize l[k]'(by omega)=x;obtain⟨q,hq⟩:=Un (v.1.1,v.1.2.1,v.1.2.2.1,v.1.2.2.2.1,(k:Int)) x.2.2.2;rw[hq];cases x.1<;>cases (v.2==(k:Int))<;>cases x.2.2.1<;>cases q<;>exact⟨_,rfl⟩
theorem Yb (b:wY) (c p:Int):iM b c p=bS b c p:=by
 unfold iM bS eH;rw[Up];cases at? b.2.2.1 p with
 | none=>rfl
 | some x=>simp only[wX];cases x.1<;>rfl
theorem Ko {α:Type} (out:List x7) (name:List Int) (n:Int) (f:List x7->Option α):((aU n).bind λv=>(aF v name).bind λt=>(app out [t]).bind f)=(aj out name n).bind f:=by
 unfold aU aF aj cS jX;simp only[wX,Option.bind_assoc]
theorem TB (b:wY) (c i:Int) (out:List x7):jZ b c i out=bB b c i out:=by
 unfold jZ bB;simp only[Yb,Ko]
theorem YT {r:xq} {c:Int} (h:1<=c/\c<=3):((ix [1,r.2.1,r.2.2].length (wZ (c-1))).bind λj=>([1,r.2.1,r.2.2][j]?).bind λx=>some x)=jY r c:=by
 have:c=1\/c=2\/c=3:=by omega
 rcases this with rfl|rfl|rfl<;>rfl
theorem Vg (b:wY) {c:Int} (h:1<=c/\c<=3) (i:Int) (out:List x7):ke b c i out=bC b c i out:=by
 unfold ke bC;cases hr:at? b.2.2.2.2.1 i with
 | none=>rfl
 | some r =>
  simp only[wX,←YT (r:=r) h,Option.bind_assoc,Ko]
theorem WY (b:wY) (i:Int) (out:List x7):kf b i out=bm b i out:=by
 unfold kf bm;cases hr:at? b.2.2.2.1 i with
 | none=>rfl
 | some r=>simp only[wX,Ko]
theorem Yc (b:wY) (c:Int) (out:List x7):kc b c out=bT b c out:=by
 unfold kc bT;rw[zP (λz=>TB b c _ _)]
theorem Yd (b:wY) {c:Int} (h:1<=c) (out:List x7):ge b c out=bU b c out:=by
 unfold ge bU;by_cases h3:c<=3
 · rw[zP (λz=>Vg b ⟨h,h3⟩ _ _)]
 · rw[dF h3];rfl
theorem R7 (b:wY) {c:Int} {out:List x7} {y:Int×List x7} (h:1<=c) (e:ge b c out=some (.inl y)):1<=y.1:=by
 unfold ge at e;by_cases h3:c<=3
 · rw[dT h3,cT,Option.bind_eq_some_iff]at e;obtain⟨d,_,e⟩:=e;cases e;show 1<=wZ (c+1)
   rw[xN (by omega) (by omega)];omega
 · rw[dF h3]at e;cases e
def Di (b:wY):List x7:=[([1,3,1,1,1],4,0,b.2.1,[]),([1,3,1,1,2],2,b.2.2.2.2.2.2.1,[],[]),([1,3,1,1,3],2,b.2.2.2.2.2.2.2.1,[],[]),([1,3,1,1,4],2,b.2.2.2.2.2.2.2.2.1,[],[]),([1,3,1,1,5],2,b.2.2.2.2.2.2.2.2.2.1,[],[])]
theorem YU (b:wY):aF (4,0,b.2.1,[]) ([1,1]:List Int)=some ([1,3,1,1,1],4,0,b.2.1,[]):=by kernel_rfl
theorem YV (b:wY):zY (λz=>lY b z.1 z.2) 5 (0,[([1,3,1,1,1],4,0,b.2.1,[])])=some (Di b):=by kernel_rfl
theorem YW (b:wY):((cS ([1,1]:List Int)).bind λt14=>(aj ([(t14,4,0,b.2.1,[])]) ([1,2]:List Int) b.2.2.2.2.2.2.1).bind λt24=>(aj t24 ([1,3]:List Int) b.2.2.2.2.2.2.2.1).bind λt29 =>
 (aj t29 ([1,4]:List Int) b.2.2.2.2.2.2.2.2.1).bind λt34=>(aj t34 ([1,5]:List Int) b.2.2.2.2.2.2.2.2.2.1))=some (Di b):=by kernel_rfl
noncomputable def Ju (b:wY) (l:List x7):Option (List x7) :=
 (loop (λz=>bT b z.1 z.2) (1,l)).bind λd_2 =>
  (loop (λz=>bU b z.1 z.2) (1,d_2)).bind λd_4 =>
  (loop (λz=>bm b z.1 z.2) (0,d_4)).bind λd_5 =>
  some d_5
theorem WZ {b:wY} (h:AC b):bD b=cond (!(xQ b)) (some []) (Ju b (Di b)):=by
 unfold bD;rw[By h,wX,YU,wX,AH (YV b),wX];rfl
theorem YX {b:wY} (h:AC b):ei b=cond (!(xQ b)) (some []) (Ju b (Di b)):=by
 unfold ei;rw[Dw h,wX];have hc:=YW b
 have e:∀{α:Type} (f:List x7->Option α),((cS ([1,1]:List Int)).bind λt14=>(aj ([(t14,4,0,b.2.1,[])]) ([1,2]:List Int) b.2.2.2.2.2.2.1).bind λt24=>(aj t24 ([1,3]:List Int) b.2.2.2.2.2.2.2.1).bind λt29 =>
  (aj t29 ([1,4]:List Int) b.2.2.2.2.2.2.2.2.1).bind λt34=>(aj t34 ([1,5]:List Int) b.2.2.2.2.2.2.2.2.2.1).bind f)=f (Di b):=by
  intro α f;have:((cS ([1,1]:List Int)).bind λt14=>(aj ([(t14,4,0,b.2.1,[])]) ([1,2]:List Int) b.2.2.2.2.2.2.1).bind λt24=>(aj t24 ([1,3]:List Int) b.2.2.2.2.2.2.2.1).bind λt29 =>
   (aj t29 ([1,4]:List Int) b.2.2.2.2.2.2.2.2.1).bind λt34=>(aj t34 ([1,5]:List Int) b.2.2.2.2.2.2.2.2.2.1)).bind f=f (Di b):=by rw[hc,wX]
  rw[←this];simp only[Option.bind_assoc]
 rw[e]
 congr 1
 unfold Ju;rw[zP (λz=>Yc b _ _)]
 congr 1
 funext d
 rw[LC (λz:Int×List x7=>1<=z.1) (λz hz=>Yd b hz _) (λz y hz e=>R7 b hz e) (show (1:Int)<=1 by omega)]
 congr 1
 funext d
 rw[zP (λz=>WY b _ _)]
theorem OD {b:wY} (h:AC b):ei b=bD b:=by rw[YX h,WZ h]

theorem Ye {b:wY} (h:AC b) (c:Int) {k:Nat} (hk:k<b.2.2.1.length) (hq:b.2.2.1.length=b.2.2.2.2.2.1.length):∃n,bS b c (k:Int)=some n:=by
 obtain⟨r,hr⟩:=R6 b.1 h.p (k:Int);unfold bS eH;rw[xo hk,xo (show k<b.2.2.2.2.2.1.length by omega),hr];simp only[wX];cases (c==1)<;>cases (c==2)<;>cases (c==3)<;>cases (b.2.2.1[k]).1<;>exact⟨_,rfl⟩
theorem Vh {α:Type} {xs ys:List α} (h:xs.length+ys.length<=4294967296):app xs ys=some (xs++ys):=by
 unfold app;rw[if_pos (show xs.length+ys.length<=GO from h)]
noncomputable def Cv (id:Int) (l:List Pt) (p:Int):Int:=(aL id l p).getD 0
theorem I5 (id:Int) {l:List Pt} (hn:l.length<9223372036854775807) (p:Int):aL id l p=some (Cv id l p):=by
 obtain⟨r,hr⟩:=R6 id hn p;unfold Cv;rw[hr];rfl
def R8 (l:List Int) (x:Int):Bool:=decide (x∈l)
def Er (b:Nat->Bool) (m:Nat):List Int:=((List.range m).filter b).map λ(k:Nat)=>(k:Int)
theorem TC (b:Nat->Bool) (m:Nat):(Er b m).length<=m:=by
 unfold Er;rw[length_map];exact Nat.le_trans (List.length_filter_le _ _) (by simp)
theorem R9 (b:Nat->Bool) (m:Nat):Er b (m+1)=cond (b m) (Er b m++[(m:Int)]) (Er b m):=by
 unfold Er;rw[range_succ,List.filter_append,map_append];cases h:b m<;>simp[h]
theorem CK {n:Nat} {c:Int->Option Bool} {b:Nat->Bool} (hn:n<=1048576) (hc:∀k,k<n->c (k:Int)=some (b k)) :
 loop (λz:Int×List Int=>cond (decide (z.1<(n:Int))) ((c z.1).bind λt=>cond t ((app z.2 [z.1]).bind λzs=>some (.inl (wZ (z.1+1),zs))) (some (.inl (wZ (z.1+1),z.2)))) (some (.inr z.2))) (0,([]:List Int))=some (Er b n):=by
 obtain⟨v,h1,rfl⟩:=xG (step:=λz:Int×List Int=>cond (decide (z.1<(n:Int))) ((c z.1).bind λt=>cond t ((app z.2 [z.1]).bind λzs=>some (.inl (wZ (z.1+1),zs))) (some (.inl (wZ (z.1+1),z.2)))) (some (.inr z.2))) (λk z=>z.1=(k:Int)/\z.2=Er b k) n (λl=>l=Er b n)
  (λk z hk ⟨e1,e2⟩=>by
   obtain⟨i,l⟩:=z;simp only at e1 e2;subst e1 e2;left;have hle:=TC b k
   refine⟨(wZ ((k:Int)+1),Er b (k+1)),?_,xj (by omega),rfl⟩;simp only[xI (show (k:Int)<(n:Int) by omega),cT,hc k hk,wX];rw[R9];cases b k with
   | false=>rfl
   | true=>rw[cT,Vh (by simp;omega)];rfl)
  (λz ⟨e1,e2⟩=>by
   obtain⟨i,l⟩:=z;simp only at e1 e2;subst e1 e2;exact⟨_,by simp only[xu (show ¬(n:Int)<(n:Int) by omega),cF],rfl⟩) (x:=(0,[])) ⟨rfl,rfl⟩
 exact h1
def Q1 (l:List Bool):Nat:=l.count true
theorem X0 (l:List Bool):Q1 l<=l.length:=List.count_le_length
theorem Vi {l:List Bool} {i:Nat} (h:l[i]?=some false):Q1 (l.set i true)=Q1 l+1:=by
 obtain⟨hi,he⟩:=List.getElem?_eq_some_iff.1 h;unfold Q1;rw[List.count_set hi,he];simp
theorem OE {n:Nat} {i:Int} (h:xe i 0 ((n:Int)-1)=true):∃k:Nat,k<n/\i=(k:Int):=by
 unfold xe at h;simp only[aT,decide_eq_true_eq]at h;exact⟨i.toNat,by omega,by omega⟩
theorem OF {n k:Nat} (h:k<n):xe (k:Int) 0 ((n:Int)-1)=true:=by
 unfold xe;rw[dT (by omega),dT (by omega)];rfl
structure OG (X:List Int) (l:List Bool):Prop where
 r:∀x∈X,∃k:Nat,k<l.length/\x=(k:Int)
 m:∀k,k<l.length->l[k]?=some (R8 X (k:Int))
 c:X.length=Q1 l
theorem OG.len {X:List Int} {l:List Bool} (h:OG X l):X.length<=l.length:=by rw[h.c];exact X0 l
theorem OG.add {X:List Int} {l:List Bool} (h:OG X l) {i:Nat} (hi:l[i]?=some false):OG (X++[(i:Int)]) (l.set i true):=by
 obtain⟨hi',he⟩:=List.getElem?_eq_some_iff.1 hi;refine⟨λx hx=>?_,λk hk=>?_,?_⟩
 · rw[length_set];rcases mem_append.1 hx with hx|hx
   · exact h.r x hx
   · simp at hx;exact⟨i,hi',hx⟩
 · rw[length_set]at hk;rw[List.getElem?_set];split
   · rename_i e;subst e;rw[show R8 (X++[(i:Int)]) (i:Int)=true from dT (by simp)]
   · rename_i e;rw[h.m k hk]
     congr 1
     unfold R8;apply decide_eq_decide.2;rw[mem_append,List.mem_singleton];constructor
     · exact .inl
     · rintro (h|h)
       · exact h
       · omega
 · rw[length_append,Vi hi,h.c];rfl
theorem OG.in {X:List Int} {l:List Bool} (h:OG X l) {x:Int} (hx:R8 X x=true):xe x 0 ((l.length:Int)-1)=true:=by
 obtain⟨k,hk,rfl⟩:=h.r x (of_decide_eq_true hx);exact OF hk
def start (n:Nat) (b:Nat):List Bool:=(List.replicate n false).set b true
theorem Yf (id:Int) {l:List Pt} (hn:l.length<9223372036854775807) (p:Int):1<=Cv id l p:=by
 have h:=I5 id hn p
 revert h
 generalize Cv id l p=v;unfold aL;rw[Ad,wX];intro h;have key:∀(o:Option Bool) (f:Bool->Option Int),(∀t x,f t=some x->1<=x)->o.bind f=some v->1<=v:=by
  intro o f hf h;cases o with
  | none=>cases h
  | some t=>exact hf t v h
 refine key _ _ (λt x hx=>?_) h;cases t with
 | true=>cases hx;decide
 | false =>
  rw[cF]at hx;cases hbv:bA id l with
  | none=>rw[hbv]at hx;cases hx
  | some w =>
   rw[hbv,wX]at hx;cases hw:w.2==p with
   | true=>rw[hw]at hx;cases hx;decide
   | false =>
    rw[hw,cF]at hx;cases ha:at? l p with
    | none=>rw[ha]at hx;cases hx
    | some y =>
     rw[ha,wX]at hx
     revert hx
     generalize (cond (!y.2.2.1) _ _:Option Bool)=o;intro hx;cases o with
     | none=>cases hx
     | some t=>cases t<;>(cases hx;decide)
theorem I6 {k:Nat} (h:k<64):IntKind.u64.wrap (k:Int)=(k:Int):=by
 show ((k:Int)%18446744073709551616)=_;omega
theorem Yg:∀b:Fin 64,∀p:Fin 6,∃t c,shl .i64 1 (p.1:Int)=some t/\Es .i64 (b.1:Int) t=(c:Int)/\0<=c/\c<64:=by
 intro b p;have h:∀b:Fin 64,∀p:Fin 6,(decide (0<=Es .i64 (b.1:Int) (2^p.1))&&decide (Es .i64 (b.1:Int) (2^p.1)<64))=true:=by decide
 have h1:=h b p;simp only[aT,decide_eq_true_eq]at h1;have h2:∀p:Fin 6,shl .i64 1 (p.1:Int)=some (2^p.1):=by decide
 exact⟨_,_,h2 p,rfl,h1.1,h1.2⟩
theorem X1 {r:Int} (h:1<=r):decide (r<=2)=(r==1||r==2):=by
 by_cases h2:r<=2
 · rw[dT h2];rcases (show r=1\/r=2 by omega)with rfl|rfl<;>rfl
 · rw[dF h2,beq_eq_false_iff_ne.2 (show r≠1 by omega),beq_eq_false_iff_ne.2 (show r≠2 by omega)];rfl
theorem LE (id:Int) {l:List Pt} (hn:l.length<9223372036854775807) (z:Int×Int) (hz:0<=z.2):fX id l z.1 z.2=aX id l z.1 z.2:=by
 unfold fX aX;rw[Up,I5 id hn,wX];have hr:=Yf id hn z.2
 by_cases h1:z.2<(l.length:Int)
 · rw[xI h1,cT];by_cases h2:z.2<6
   · rw[xI h2,wX,wX,cT,cT,wX,X1 hr];obtain⟨k,hk⟩:∃k:Nat,z.2=(k:Int):=⟨z.2.toNat,by omega⟩;rw[hk,I6 (by omega)];cases Cv id l (k:Int)==1<;>cases Cv id l (k:Int)==2<;>rfl
   · rw[xu h2];rfl
 · rw[xu h1];rfl
theorem LF (id:Int) {l:List Pt} (hn:l.length<9223372036854775807):∃c:Nat,c<64/\eJ id l=some (c:Int)/\fY id l=some (c:Int):=by
 obtain⟨v,h1,c,h2,rfl⟩:=xG (step:=λz:Int×Int=>aX id l z.1 z.2) (λk z=>z.2=(k:Int)/\∃c:Nat,c<64/\z.1=(c:Int)) (min l.length 6) (λv=>∃c:Nat,c<64/\v=(c:Int))
  (λk z hk ⟨e1,c,e2,e3⟩=>by
   obtain⟨b,i⟩:=z;simp only at e1 e3;subst e1 e3;left;have k6:k<6:=by omega
   obtain⟨t,d,b1,b2,b3,b4⟩:=Yg ⟨c,e2⟩ ⟨k,k6⟩;have hs:aX id l (c:Int) (k:Int)=cond (Cv id l (k:Int)==1||Cv id l (k:Int)==2) (some (.inl ((d:Int),((k+1:Nat):Int)))) (some (.inl ((c:Int),((k+1:Nat):Int)))):=by
    unfold aX;rw[xI (show (k:Int)<(l.length:Int) by omega),xI (show (k:Int)<6 by omega),cT,wX,cT,I5 id hn,wX,b1,wX,b2,xj (by omega)];cases Cv id l (k:Int)==1<;>cases Cv id l (k:Int)==2<;>rfl
   show ∃y,aX id l (c:Int) (k:Int)=_/\_;rw[hs];cases (Cv id l (k:Int)==1||Cv id l (k:Int)==2)with
   | true=>exact⟨_,rfl,rfl,d.toNat,by omega,by show d=_;omega⟩
   | false=>exact⟨_,rfl,rfl,c,e2,rfl⟩)
  (λz ⟨e1,c,e2,e3⟩=>by
   obtain⟨b,i⟩:=z;simp only at e1 e3;subst e1 e3;refine⟨(c:Int),?_,c,e2,rfl⟩;show aX id l _ _=_
   unfold aX;by_cases h:l.length<=6
   · rw[Nat.min_eq_left h,xu (by omega)];rfl
   · rw[Nat.min_eq_right (by omega),xI (by omega),xu (show ¬(((6:Nat):Int)<6) by omega)];rfl) (x:=(0,0)) ⟨rfl,0,by omega,rfl⟩
 refine⟨c,h2,by unfold eJ;rw[h1];rfl,?_⟩;unfold fY;rw[LC (f:=λz:Int×Int=>fX id l z.1 z.2) (g:=λz:Int×Int=>aX id l z.1 z.2) (λz=>0<=z.2/\z.2<=9223372036854775806) (λz hz=>LE id hn z hz.1) (λz y hz hy=>by
  have hy':fX id l z.1 z.2=some (.inl y):=hy;rw[LE id hn z hz.1]at hy';unfold aX at hy';by_cases h1:z.2<(l.length:Int)
  · by_cases h2:z.2<6
    · rw[xI h1,xI h2,cT,wX,cT,I5 id hn,wX]at hy';have hw:wZ (z.2+1)=z.2+1:=xN (by omega) (by omega)
      rw[hw]at hy'
      revert hy'
      generalize (cond (Cv id l z.2==1) (some true) (some (Cv id l z.2==2)))=o;intro hy';cases o with
      | none=>cases hy'
      | some t =>
       rw[wX]at hy';cases t with
       | false=>cases hy';exact⟨by show 0<=z.2+1;omega,by show z.2+1<=_;omega⟩
       | true =>
        rw[cT]at hy';cases hs:shl .i64 1 z.2 with
        | none=>rw[hs]at hy';cases hy'
        | some q=>rw[hs]at hy';cases hy';exact⟨by show 0<=z.2+1;omega,by show z.2+1<=_;omega⟩
    · rw[xI h1,xu h2]at hy';cases hy'
  · rw[xu h1]at hy';cases hy') (x:=(0,0)) ⟨by decide,by decide⟩,h1]
 rfl
def Bw (c:Nat) (p:Int):Bool:=cond (xe p 0 7) (match shr .i64 (c:Int) p with|some t=>(zA .i64 t 1)==1|none=>false) false
theorem YY (c:Nat) (p:Int):aQ (c:Int) p=some (Bw c p):=by
 unfold aQ Bw;rw[CX,wX];cases h:xe p 0 7 with
 | false=>rfl
 | true =>
  obtain⟨k,hk,rfl⟩:=OE (n:=8) h;rw[I6 (by omega),cT,cT];have:∃t,shr .i64 (c:Int) (k:Int)=some t:=by unfold shr;rw[if_neg (by omega)];exact⟨_,rfl⟩
  obtain⟨t,ht⟩:=this;rw[ht];rfl
theorem YZ {c:Nat} (hc:c<64) (p:Int):ap (c:Int) p=some (Bw c p):=by
 unfold ap Bw;rw[Ad,wX];cases h:xe p 0 62 with
 | false =>
  have h7:xe p 0 7=false:=by
   cases h7:xe p 0 7 with
   | false=>rfl
   | true =>
    obtain⟨k,hk,rfl⟩:=OE (n:=8) h7;have:xe (k:Int) 0 ((63:Nat)-1:Int)=true:=OF (by omega)
    exact absurd (h.symm.trans this) (by decide)
  rw[h7];rfl
 | true =>
  obtain⟨k,hk,rfl⟩:=OE (n:=63) h;have hs:shr .i64 (c:Int) (k:Int)=some ((c:Int).fdiv (2^(min k 64))):=by unfold shr;rw[if_neg (by omega)];rfl
  rw[cT,hs,wX,wX];by_cases h7:k<8
  · rw[show xe (k:Int) 0 7=true from OF (n:=8) h7];rfl
  · rw[show xe (k:Int) 0 7=false from by unfold xe;rw[dF (show ¬(k:Int)<=7 by omega),Bool.and_false],cF];have hz:(c:Int).fdiv (2^(min k 64))=0:=by
     rw[Nat.min_eq_left (by omega)];have h2:(c:Int)<2^k:=by
      have:2^6<=2^k:=Nat.pow_le_pow_right (by decide) (by omega);have h3:c<2^k:=by omega
      exact_mod_cast h3
     rw[Int.fdiv_eq_ediv_of_nonneg _ (by exact_mod_cast Nat.zero_le _)];exact Int.ediv_eq_zero_of_lt (by omega) h2
    rw[hz];rfl

abbrev Zi (x:Int):Prop:=-9223372036854775808<=x/\x<=9223372036854775807
structure VT (v:yl) (n:Nat):Prop where
 p:AJ v (n:Int)=true
 r:∀r∈v.1,Zi r.2.2
theorem VT.len {v:yl} {n:Nat} (h:VT v n):1<=n/\n<=6/\v.2.length=n/\v.1.length<=6:=by
 have hp:=h.p;unfold AJ xe at hp;simp only[aT,Bool.not_eq_true',Bool.or_eq_false_iff,Bool.not_eq_false',aT,decide_eq_true_eq,decide_eq_false_iff_not,bne_eq_false_iff_eq]at hp;obtain⟨⟨h1,h2,h3⟩,_⟩:=hp;omega
theorem As {α:Type} {l:List α} {a b:Nat} (h1:a<=b) (h2:b<=l.length):cut l (a:Int) (b:Int)=some ((l.take b).drop a):=by
 unfold cut;rw[if_pos (by omega),if_pos (by omega),if_pos (by omega)];simp
theorem xh {α:Type} {xs ys:List α} (h:xs.length+ys.length<=4294967296):app xs ys=some (xs++ys):=by
 unfold app;rw[if_pos (show xs.length+ys.length<=GO from h)]
def lt (a b:xa):Prop:=a.1<b.1\/(a.1=b.1/\a.2.1<b.2.1)
def same (a b:xa):Prop:=a.1=b.1/\a.2.1=b.2.1
theorem lt_trans {a b c:xa} (h:lt a b) (k:lt b c):lt a c:=by unfold lt at *;omega
theorem Yh {a b:xa} (h:lt a b):¬same a b:=by unfold lt same at *;omega
structure FB (l:List xa):Prop where
 e:∀x∈l,Ct x=true
 o:l.Pairwise lt
 n:l.length<=12
theorem FB.ok {l:List xa} (h:FB l):CF l=true:=by
 unfold CF;have hn:=h.n
 rw[dT (show (l.length:Int)<=12 by omega),Bool.and_true,Bool.not_eq_true'];apply Bool.eq_false_iff.2;intro ha;obtain⟨k,hk,hx⟩:=any_eq_true.1 ha;have hk:=mem_range.1 hk
 unfold Cu at hx;simp only[List.getElem?_eq_getElem hk,h.e _ (getElem_mem hk),Bool.not_true,Bool.false_or,aT,decide_eq_true_eq]at hx;obtain⟨h0,hx⟩:=hx;simp only[List.getElem?_eq_getElem (show k-1<l.length by omega),Bool.not_eq_true']at hx;have hl:=List.pairwise_iff_getElem.1 h.o (k-1) k (by omega) hk (by omega)
 unfold zl at hx;simp only[Bool.or_eq_false_iff,Bool.and_eq_false_iff,decide_eq_false_iff_not,bF]at hx;unfold lt at hl;omega
def BN (x e:xa):Bool:=cond (x.1 != e.1) (decide (x.1<e.1)) (decide (x.2.1<e.2.1))
theorem OH {x e:xa} (h:BN x e=true):lt x e:=by
 unfold BN at h;unfold lt;by_cases hx:x.1=e.1
 · rw[show (x.1 != e.1)=false by simp[hx],cF]at h;exact .inr ⟨hx,of_decide_eq_true h⟩
 · rw[show (x.1 != e.1)=true from bne_iff_ne.2 hx,cT]at h;exact .inl (of_decide_eq_true h)
theorem SD {x e:xa} (h:BN x e=false):lt e x\/same x e:=by
 unfold BN at h;unfold lt same;by_cases hx:x.1=e.1
 · rw[show (x.1 != e.1)=false by simp[hx],cF]at h;have:=of_decide_eq_false h
   omega
 · rw[show (x.1 != e.1)=true from bne_iff_ne.2 hx,cT]at h;have:=of_decide_eq_false h
   omega
def B5 (x e:xa):Bool:=x.1 != e.1||x.2.1 != e.2.1
theorem Ra {x e:xa} (h:B5 x e=true):¬same x e:=by
 unfold B5 at h;unfold same;simp only[Bool.or_eq_true,bne_iff_ne]at h;omega
theorem Pk {x e:xa} (h:B5 x e=false):same x e:=by
 unfold B5 at h;unfold same;simp only[Bool.or_eq_false_iff,bne_eq_false_iff_eq]at h;exact h
theorem OI {α β:Type} (l:List α) (i:Int) (f:α->Option β):((ix l.length i).bind λj=>(l[j]?).bind f)=(at? l i).bind f:=by
 unfold ix at?;by_cases h0:0<=i
 · rw[if_pos h0,if_pos h0];by_cases h1:i<(l.length:Int)
   · rw[if_pos h1,wX]
   · rw[if_neg h1,List.getElem?_eq_none (by omega)];rfl
 · rw[if_neg h0,if_neg h0];rfl
noncomputable def I7 (b:wY) (c p:Int):Int:=(bS b c p).getD 0
def num (name:List Int) (n:Int):x7:=([1,3,1]++name,2,n,[],[])
def J5 (r:xq) (c:Nat):Int:=match c with|0=>1|1=>r.2.1|_=>r.2.2
noncomputable def A5 (b:wY) (c:Nat):List x7:=(List.range b.2.2.1.length).map λk=>num [2,((c+1:Nat):Int),((k+1:Nat):Int)] (I7 b ((c+1:Nat):Int) (k:Int))
def Bf (b:wY) (c:Nat):List x7:=b.2.2.2.2.1.map λr=>num [3,((c+1:Nat):Int),r.1] (J5 r c)
def H3 (b:wY):List x7:=b.2.2.2.1.map λe=>num [4,1,e.1,e.2.1] (wZ (e.2.2.1+1))
noncomputable def A7 (b:wY):List x7:=Di b++(List.range 4).flatMap (A5 b)++(List.range 3).flatMap (Bf b)++H3 b
theorem Kp {out:List x7} (name:List Int) (n i:Int) (h1:out.length<=900) (h2:name.length<=900):((aU n).bind λv=>(aF v name).bind λt=>(app out [t]).bind λzs=>some (Sum.inl (wZ (i+1),zs):(Int×List x7)⊕List x7))=some (Sum.inl (wZ (i+1),out++[num name n])):=by
 unfold aU aF;rw[wX,xh (by show 3+name.length<=_;omega),wX,wX,xh (by show out.length+1<=_;omega),wX];rfl
theorem Yi {b:wY} (h:AC b) (hq:b.2.2.1.length=b.2.2.2.2.2.1.length) (h6:b.2.2.1.length<=6) (c:Nat) (out:List x7) (ho:out.length<=500):loop (λz=>bB b ((c+1:Nat):Int) z.1 z.2) (0,out)=some (out++A5 b c):=by
 obtain⟨v,h1,rfl⟩:=xG (step:=λz:Int×List x7=>bB b ((c+1:Nat):Int) z.1 z.2) (λk z=>z.1=(k:Int)/\z.2=out++(List.range k).map λk=>num [2,((c+1:Nat):Int),((k+1:Nat):Int)] (I7 b ((c+1:Nat):Int) (k:Int))) b.2.2.1.length (λv=>v=out++A5 b c)
  (λk z hk ⟨e1,e2⟩=>by
   obtain⟨i,l⟩:=z;simp only at e1 e2;subst e1;left;obtain⟨n,hn⟩:=Ye h ((c+1:Nat):Int) hk hq;have hv:I7 b ((c+1:Nat):Int) (k:Int)=n:=by unfold I7;rw[hn];rfl
   have hl:l.length<=900:=by rw[e2];simp;omega
   refine⟨(((k+1:Nat):Int),l++[num [2,((c+1:Nat):Int),((k+1:Nat):Int)] n]),?_,rfl,?_⟩
   · show bB b ((c+1:Nat):Int) (k:Int) l=_;unfold bB;rw[xI (by omega),cT,hn,wX,Kp _ _ _ hl (by simp),xj (by omega)]
   · show l++[num _ n]=_;rw[e2,range_succ,map_append,←append_assoc,List.map_singleton,hv])
  (λz ⟨e1,e2⟩=>by
   obtain⟨i,l⟩:=z;simp only at e1 e2;subst e1;refine⟨l,?_,e2⟩;show bB b ((c+1:Nat):Int) _ l=_
   unfold bB;rw[xu (by omega),cF]) (x:=(0,out)) ⟨rfl,by simp⟩
 exact h1
theorem X2 {b:wY} (h:AC b) (hq:b.2.2.1.length=b.2.2.2.2.2.1.length) (h6:b.2.2.1.length<=6) (out:List x7) (ho:out.length<=100):loop (λz=>bT b z.1 z.2) (1,out)=some (out++(List.range 4).flatMap (A5 b)):=by
 have hg:∀c,(A5 b c).length<=6:=λc=>by unfold A5;rw[length_map,List.length_range];exact h6
 obtain⟨v,h1,rfl⟩:=xG (step:=λz:Int×List x7=>bT b z.1 z.2) (λk z=>z.1=((k+1:Nat):Int)/\z.2=out++(List.range k).flatMap (A5 b)/\z.2.length<=100+6*k) 4 (λv=>v=out++(List.range 4).flatMap (A5 b))
  (λk z hk ⟨e1,e2,e3⟩=>by
   obtain⟨i,l⟩:=z;simp only at e1 e2 e3;subst e1;left;have hg':=hg k
   refine⟨(((k+1+1:Nat):Int),l++A5 b k),?_,rfl,?_,by show (l++A5 b k).length<=_;rw[length_append];omega⟩
   · show bT b ((k+1:Nat):Int) l=_;unfold bT;rw[dT (show ((k+1:Nat):Int)<=4 by omega),cT,Yi h hq h6 k l (by omega),wX,xj (by omega)]
   · show l++A5 b k=_;rw[e2,range_succ,flatMap_append,←append_assoc];simp)
  (λz ⟨e1,e2,e3⟩=>by
   obtain⟨i,l⟩:=z;simp only at e1 e2 e3;subst e1;exact⟨l,rfl,e2⟩) (x:=(1,out)) ⟨rfl,by simp,by show out.length<=_;omega⟩
 exact h1
theorem Z0 {b:wY} (h6:b.2.2.2.2.1.length<=6) {c:Nat} (hc:c<3) (out:List x7) (ho:out.length<=500):loop (λz=>bC b ((c+1:Nat):Int) z.1 z.2) (0,out)=some (out++Bf b c):=by
 obtain⟨v,h1,rfl⟩:=xG (step:=λz:Int×List x7=>bC b ((c+1:Nat):Int) z.1 z.2) (λk z=>z.1=(k:Int)/\z.2=out++(b.2.2.2.2.1.take k).map λr=>num [3,((c+1:Nat):Int),r.1] (J5 r c)) b.2.2.2.2.1.length (λv=>v=out++Bf b c)
  (λk z hk ⟨e1,e2⟩=>by
   obtain⟨i,l⟩:=z;simp only at e1 e2;subst e1;left;have hl:l.length<=900:=by rw[e2];simp;omega
   refine⟨(((k+1:Nat):Int),l++[num [3,((c+1:Nat):Int),b.2.2.2.2.1[k].1] (J5 b.2.2.2.2.1[k] c)]),?_,rfl,?_⟩
   · show bC b ((c+1:Nat):Int) (k:Int) l=_;unfold bC;rw[xI (by omega),cT,xo hk,wX];generalize b.2.2.2.2.1[k]=r;have hw:wZ (((c+1:Nat):Int)-1)=(c:Int):=by rw[xN (by omega) (by omega)];omega
     have hx:(ix [1,r.2.1,r.2.2].length (wZ (((c+1:Nat):Int)-1))).bind (λj91=>([1,r.2.1,r.2.2][j91]?).bind λx92=>(aU x92).bind λt93=>(aF t93 [3,((c+1:Nat):Int),r.1]).bind λt98=>(app l [t98]).bind λzs100=>some (Sum.inl (wZ ((k:Int)+1),zs100):(Int×List x7)⊕List x7))=(aU (J5 r c)).bind λt93=>(aF t93 [3,((c+1:Nat):Int),r.1]).bind λt98=>(app l [t98]).bind λzs100=>some (Sum.inl (wZ ((k:Int)+1),zs100)):=by
      rw[hw,yE (show c<[1,r.2.1,r.2.2].length from hc),wX];rcases (show c=0\/c=1\/c=2 by omega)with rfl|rfl|rfl<;>rfl
     rw[hx,Kp _ _ _ hl (by simp),xj (by omega)]
   · show l++[num _ _]=_;rw[e2,take_add_one,List.getElem?_eq_getElem hk,map_append,←append_assoc];rfl)
  (λz ⟨e1,e2⟩=>by
   obtain⟨i,l⟩:=z;simp only at e1 e2;subst e1;rw[take_length]at e2;refine⟨l,?_,e2⟩;show bC b ((c+1:Nat):Int) _ l=_
   unfold bC;rw[xu (by omega),cF]) (x:=(0,out)) ⟨rfl,by simp⟩
 exact h1
theorem Yj {b:wY} (h6:b.2.2.2.2.1.length<=6) (out:List x7) (ho:out.length<=200):loop (λz=>bU b z.1 z.2) (1,out)=some (out++(List.range 3).flatMap (Bf b)):=by
 have hg:∀c,(Bf b c).length<=6:=λc=>by unfold Bf;rw[length_map];exact h6
 obtain⟨v,h1,rfl⟩:=xG (step:=λz:Int×List x7=>bU b z.1 z.2) (λk z=>z.1=((k+1:Nat):Int)/\z.2=out++(List.range k).flatMap (Bf b)/\z.2.length<=200+6*k) 3 (λv=>v=out++(List.range 3).flatMap (Bf b))
  (λk z hk ⟨e1,e2,e3⟩=>by
   obtain⟨i,l⟩:=z;simp only at e1 e2 e3;subst e1;left;have hg':=hg k
   refine⟨(((k+1+1:Nat):Int),l++Bf b k),?_,rfl,?_,by show (l++Bf b k).length<=_;rw[length_append];omega⟩
   · show bU b ((k+1:Nat):Int) l=_;unfold bU;rw[dT (show ((k+1:Nat):Int)<=3 by omega),cT,Z0 h6 hk l (by omega),wX,xj (by omega)]
   · show l++Bf b k=_;rw[e2,range_succ,flatMap_append,←append_assoc];simp)
  (λz ⟨e1,e2,e3⟩=>by
   obtain⟨i,l⟩:=z;simp only at e1 e2 e3;subst e1;exact⟨l,rfl,e2⟩) (x:=(1,out)) ⟨rfl,by simp,by show out.length<=_;omega⟩
 exact h1
theorem Z1 {b:wY} (h12:b.2.2.2.1.length<=12) (out:List x7) (ho:out.length<=500):loop (λz=>bm b z.1 z.2) (0,out)=some (out++H3 b):=by
 obtain⟨v,h1,rfl⟩:=xG (step:=λz:Int×List x7=>bm b z.1 z.2) (λk z=>z.1=(k:Int)/\z.2=out++(b.2.2.2.1.take k).map λe=>num [4,1,e.1,e.2.1] (wZ (e.2.2.1+1))) b.2.2.2.1.length (λv=>v=out++H3 b)
  (λk z hk ⟨e1,e2⟩=>by
   obtain⟨i,l⟩:=z;simp only at e1 e2;subst e1;left;have hl:l.length<=900:=by rw[e2];simp;omega
   refine⟨(((k+1:Nat):Int),l++[num [4,1,b.2.2.2.1[k].1,b.2.2.2.1[k].2.1] (wZ (b.2.2.2.1[k].2.2.1+1))]),?_,rfl,?_⟩
   · show bm b (k:Int) l=_;unfold bm;rw[xI (by omega),cT,xo hk,wX,Kp _ _ _ hl (by simp),xj (by omega)]
   · show l++[num _ _]=_;rw[e2,take_add_one,List.getElem?_eq_getElem hk,map_append,←append_assoc];rfl)
  (λz ⟨e1,e2⟩=>by
   obtain⟨i,l⟩:=z;simp only at e1 e2;subst e1;rw[take_length]at e2;refine⟨l,?_,e2⟩;show bm b _ l=_
   unfold bm;rw[xu (by omega),cF]) (x:=(0,out)) ⟨rfl,by simp⟩
 exact h1
structure y9 (b:wY):Prop where
 w:AC b
 ok:xQ b=true
 p:∀x∈b.2.2.1,Cr x=true
 id:xe b.1 1 99=true
 name:b.2.1.length<=10
 n1:1<=b.2.2.1.length
 n6:b.2.2.1.length<=6
 f:CF b.2.2.2.1=true
 v:AJ (b.2.2.2.2.1,b.2.2.2.2.2.1) (b.2.2.1.length:Int)=true
 c:zI b=true
theorem Dx {b:wY} (h:AC b) (hb:xQ b=true):y9 b:=by
 have hb':=hb;unfold xQ at hb;simp only[aT,Bool.not_eq_true',decide_eq_false_iff_not]at hb;obtain⟨h1,h2,h3,h4,h5,h6,h7⟩:=hb;refine⟨h,hb',λx hx=>?_,h2,by omega,?_,?_,h5,h6,h7⟩
 · obtain⟨k,hk,rfl⟩:=getElem_of_mem hx;cases hp:Cr b.2.2.1[k]with
   | true=>rfl
   | false =>
    have:=any_eq_false.1 h1 k (mem_range.2 hk);unfold It at this;simp only[List.getElem?_eq_getElem hk,hp]at this;exact absurd rfl this
 · unfold xe at h4;simp only[aT,decide_eq_true_eq]at h4;omega
 · unfold xe at h4;simp only[aT,decide_eq_true_eq]at h4;omega
theorem y9.vt {b:wY} (h:y9 b):VT (b.2.2.2.2.1,b.2.2.2.2.2.1) b.2.2.1.length:=⟨h.v,h.w.r⟩
theorem y9.f12 {b:wY} (h:y9 b):b.2.2.2.1.length<=12:=by
 have hf:=h.f;unfold CF at hf;simp only[aT,decide_eq_true_eq]at hf;omega
theorem X3 {b:wY} (h:y9 b):bD b=some (A7 b):=by
 obtain⟨v1,v2,v3,v4⟩:=h.vt.len;have v3':b.2.2.2.2.2.1.length=b.2.2.1.length:=v3
 have v4':b.2.2.2.2.1.length<=6:=v4;have hp:((List.range 4).flatMap (A5 b)).length<=24:=by
  have hg:∀c,(A5 b c).length<=6:=λc=>by unfold A5;rw[length_map,List.length_range];exact h.n6
  have h0:=hg 0;have h1:=hg 1;have h2:=hg 2;have h3:=hg 3
  show (A5 b 0++(A5 b 1++(A5 b 2++(A5 b 3++[])))).length<=24;simp only[length_append,length_nil];omega
 have hr:((List.range 3).flatMap (Bf b)).length<=18:=by
  have hg:∀c,(Bf b c).length<=6:=λc=>by unfold Bf;rw[length_map];exact v4'
  have h0:=hg 0;have h1:=hg 1;have h2:=hg 2
  show (Bf b 0++(Bf b 1++(Bf b 2++[]))).length<=18;simp only[length_append,length_nil];omega
 have k5:(Di b).length=5:=rfl;rw[WZ h.w,h.ok,Bool.not_true,cF];unfold Ju;rw[X2 h.w v3'.symm h.n6 (Di b) (by omega),wX,Yj v4' _ (by rw[length_append];omega),wX,Z1 h.f12 _ (by rw[length_append,length_append];omega),wX];rfl

theorem I8 {α:Type} {R:α->α->Prop} (tr:∀a b c,R a b->R b c->R a c) {l:List α} (h:∀k (hk:k+1<l.length),R l[k] l[k+1]):l.Pairwise R:=by
 rw[List.pairwise_iff_getElem];intro i j hi hj hij
 induction j with
 | zero=>omega
 | succ j ih =>
  by_cases e:i=j
  · subst e;exact h i hj
  · exact tr _ _ _ (ih (by omega) (by omega)) (h j hj)
def Kq (g c:Int) (x:x7):Prop:=∃t,x.1=1::3::1::g::c::t
theorem Ee {g c g' c':Int} {x y:x7} (hx:Kq g c x) (hy:Kq g' c' y) (h:g<g'\/(g=g'/\c<c')):x.1<y.1:=by
 obtain⟨t,ht⟩:=hx;obtain⟨s,hs⟩:=hy;rw[ht,hs];simp only[cons_lt_cons_iff,Int.lt_irrefl,false_or,true_and];rcases h with h|⟨h,k⟩
 · exact .inl h
 · exact .inr ⟨h,.inl k⟩
theorem F9 {b:wY} {c:Nat} {x:x7} (h:x∈A5 b c):Kq 2 ((c+1:Nat):Int) x:=by
 unfold A5 at h;obtain⟨k,_,rfl⟩:=mem_map.1 h;exact⟨_,rfl⟩
theorem GK {b:wY} {c:Nat} {x:x7} (h:x∈Bf b c):Kq 3 ((c+1:Nat):Int) x:=by
 unfold Bf at h;obtain⟨k,_,rfl⟩:=mem_map.1 h;exact⟨_,rfl⟩
theorem J6 {b:wY} {x:x7} (h:x∈H3 b):Kq 4 1 x:=by
 unfold H3 at h;obtain⟨k,_,rfl⟩:=mem_map.1 h;exact⟨_,rfl⟩
theorem J7 {b:wY} {x:x7} (h:x∈Di b):∃c,Kq 1 c x:=by
 unfold Di at h;simp only[mem_cons,not_mem_nil,or_false]at h;rcases h with rfl|rfl|rfl|rfl|rfl<;>exact⟨_,_,rfl⟩
theorem Rb (b:wY) (c:Nat):(A5 b c).Pairwise λx y=>x.1<y.1:=by
 unfold A5;rw[List.pairwise_map];refine List.Pairwise.imp ?_ List.pairwise_lt_range;intro i j h;show (1::3::1::2::((c+1:Nat):Int)::((i+1:Nat):Int)::[])<(1::3::1::2::((c+1:Nat):Int)::((j+1:Nat):Int)::[])
 simp only[cons_lt_cons_iff,Int.lt_irrefl,false_or,true_and];exact .inl (by omega)
theorem MV {b:wY} (h:y9 b):b.2.2.2.2.1.Pairwise λr s=>r.1<s.1:=by
 refine I8 (R:=λ(r s:xq)=>r.1<s.1) (λ_ _ _ h k=>Int.lt_trans h k) λk hk=>?_;have hv:=h.v
 unfold AJ at hv;simp only[aT,Bool.not_eq_true']at hv;have hx:=any_eq_false.1 hv.2.1 (k+1) (mem_range.2 hk)
 unfold EI at hx;simp only[List.getElem?_eq_getElem hk,Nat.add_sub_cancel,List.getElem?_eq_getElem (show k<b.2.2.2.2.1.length by omega),Bool.or_eq_true,aT,decide_eq_true_eq,not_or,not_and]at hx;have:=hx.2.1 (by omega)
 omega
theorem SE {b:wY} (h:y9 b) (c:Nat):(Bf b c).Pairwise λx y=>x.1<y.1:=by
 unfold Bf;rw[List.pairwise_map];refine List.Pairwise.imp ?_ (MV h);intro r s h;show (1::3::1::3::((c+1:Nat):Int)::r.1::[])<(1::3::1::3::((c+1:Nat):Int)::s.1::[])
 simp only[cons_lt_cons_iff,Int.lt_irrefl,false_or,true_and];exact .inl h
theorem TD {b:wY} (h:y9 b):b.2.2.2.1.Pairwise lt:=by
 refine I8 (R:=lt) (λ_ _ _=>lt_trans) λk hk=>?_;have hv:=h.f
 unfold CF at hv;simp only[aT,Bool.not_eq_true']at hv;have hx:=any_eq_false.1 hv.1 (k+1) (mem_range.2 hk)
 unfold Cu at hx;simp only[List.getElem?_eq_getElem hk,Nat.add_sub_cancel,List.getElem?_eq_getElem (show k<b.2.2.2.1.length by omega),Bool.or_eq_true,aT,decide_eq_true_eq,not_or,not_and,Bool.not_eq_true',Bool.not_eq_false]at hx;have hp:=hx.2 (by omega)
 unfold zl at hp;simp only[Bool.or_eq_true,aT,decide_eq_true_eq,beq_iff_eq]at hp;unfold lt;omega
theorem TE {b:wY} (h:y9 b):(H3 b).Pairwise λx y=>x.1<y.1:=by
 unfold H3;rw[List.pairwise_map];refine List.Pairwise.imp ?_ (TD h);intro r s h;show (1::3::1::4::1::r.1::r.2.1::[])<(1::3::1::4::1::s.1::s.2.1::[])
 unfold lt at h;simp only[cons_lt_cons_iff,Int.lt_irrefl,false_or,true_and];rcases h with h|⟨h,k⟩
 · exact .inl h
 · exact .inr ⟨h,.inl k⟩
theorem SF (b:wY):(Di b).Pairwise λx y=>x.1<y.1:=by
 unfold Di;simp only[pairwise_cons,mem_cons,not_mem_nil,or_false,forall_eq_or_imp,forall_eq,List.Pairwise.nil,and_true,false_imp_iff,implies_true,cons_lt_cons_iff,Int.lt_irrefl,false_or,true_and];refine⟨⟨.inl (by decide),.inl (by decide),.inl (by decide),.inl (by decide)⟩,⟨.inl (by decide),.inl (by decide),.inl (by decide)⟩,⟨.inl (by decide),.inl (by decide)⟩,.inl (by decide)⟩
theorem Yk {α:Type} (f:Nat->List α):(List.range 4).flatMap f=f 0++(f 1++(f 2++(f 3++[]))):=rfl
theorem Yl {α:Type} (f:Nat->List α):(List.range 3).flatMap f=f 0++(f 1++(f 2++[])):=rfl
theorem LG {n:Nat} {f:Nat->List x7} {g:Int} (hp:∀c,(f c).Pairwise λx y=>x.1<y.1) (hh:∀c x,x∈f c->Kq g ((c+1:Nat):Int) x):((List.range n).flatMap f).Pairwise λx y=>x.1<y.1:=by
 induction n with
 | zero=>exact List.Pairwise.nil
 | succ n ih =>
  rw[range_succ,flatMap_append,pairwise_append];refine⟨ih,by simp;exact hp n,λx hx y hy=>?_⟩;obtain⟨c,hc,hx⟩:=mem_flatMap.1 hx;have hc:=mem_range.1 hc
  simp at hy;exact Ee (hh c x hx) (hh n y hy) (.inr ⟨rfl,by omega⟩)
theorem TF {b:wY} (h:y9 b):(A7 b).Pairwise λx y=>x.1<y.1:=by
 unfold A7;rw[pairwise_append,pairwise_append,pairwise_append];refine⟨⟨⟨SF b,LG (Rb b) (λc x=>F9),λx hx y hy=>?_⟩,LG (SE h) (λc x=>GK),λx hx y hy=>?_⟩,TE h,λx hx y hy=>?_⟩
 · obtain⟨c,hc⟩:=J7 hx;obtain⟨d,_,hy⟩:=mem_flatMap.1 hy;exact Ee hc (F9 hy) (.inl (by decide))
 · obtain⟨d,_,hy⟩:=mem_flatMap.1 hy;rcases mem_append.1 hx with hx|hx
   · obtain⟨c,hc⟩:=J7 hx;exact Ee hc (GK hy) (.inl (by decide))
   · obtain⟨e,_,hx⟩:=mem_flatMap.1 hx;exact Ee (F9 hx) (GK hy) (.inl (by decide))
 · rcases mem_append.1 hx with hx|hx
   · rcases mem_append.1 hx with hx|hx
     · obtain⟨c,hc⟩:=J7 hx;exact Ee hc (J6 hy) (.inl (by decide))
     · obtain⟨e,_,hx⟩:=mem_flatMap.1 hx;exact Ee (F9 hx) (J6 hy) (.inl (by decide))
   · obtain⟨e,_,hx⟩:=mem_flatMap.1 hx;exact Ee (GK hx) (J6 hy) (.inl (by decide))
theorem X4 (p s t:List Int) {x y:Int} (h:x≠y):(p++x::s<p++y::t)↔x<y:=by
 induction p with
 | nil =>
  simp only[List.nil_append,cons_lt_cons_iff];exact⟨λk=>k.elim id λk=>absurd k.1 h,.inl⟩
 | cons a p ih=>simp only[List.cons_append,cons_lt_cons_iff,ih,Int.lt_irrefl,false_or,true_and]
theorem Vj (p:List Int) {s:List Int} (h:s≠[]):p<p++s:=by
 induction p with
 | nil=>cases s with
  | nil=>exact absurd rfl h
  | cons a s=>exact List.nil_lt_cons a s
 | cons a p ih=>simp only[List.cons_append,cons_lt_cons_iff,Int.lt_irrefl,false_or,true_and];exact ih
theorem Vk (p s:List Int):¬p++s<p:=by
 induction p with
 | nil=>exact List.not_lt_nil s
 | cons a p ih=>simp only[List.cons_append,cons_lt_cons_iff,Int.lt_irrefl,false_or,true_and];exact ih
theorem Uq {a b:List Int} (h:b.length<9223372036854775807):eI a b=some (decide (a<b)):=by
 have hsplit:∀k,a.take k=b.take k->∀(ha:k<a.length) (hb:k<b.length),a=a.take k++a[k]::a.drop (k+1)/\b=a.take k++b[k]::b.drop (k+1):=by
  intro k e ha hb;refine⟨?_,?_⟩
  · rw[←drop_eq_getElem_cons ha,take_append_drop]
  · rw[e,←drop_eq_getElem_cons hb,take_append_drop]
 obtain⟨v,h1,h2⟩:=xG (step:=λz=>dE a b z) (λk i=>i=(k:Int)/\a.take k=b.take k) (min a.length b.length) (λv=>(v=.inr (decide (a<b)))\/(v=.inl ()/\decide ((a.length:Int)<(b.length:Int))=decide (a<b)))
  (λk i hk ⟨e,ht⟩=>by
   subst e;have ha:k<a.length:=by omega
   have hb:k<b.length:=by omega
   have hs:dE a b (k:Int)=cond (a[k] != b[k]) (some (.inr (.inr (decide (a[k]<b[k]))))) (some (.inl ((k+1:Nat):Int))):=by
    unfold dE;rw[xI (show (k:Int)<(a.length:Int) by omega),xI (show (k:Int)<(b.length:Int) by omega),cT,wX,cT,xo ha,wX,xo hb,wX,xj (by omega),wX,wX]
   obtain⟨s1,s2⟩:=hsplit k ht ha hb;by_cases hne:a[k]=b[k]
   · refine .inl ⟨_,by rw[hs,show (a[k] != b[k])=false by simp[hne]];rfl,rfl,?_⟩;rw[take_add_one,take_add_one,List.getElem?_eq_getElem ha,List.getElem?_eq_getElem hb,ht,hne]
   · refine .inr ⟨_,by rw[hs,show (a[k] != b[k])=true from bne_iff_ne.2 hne];rfl,.inl ?_⟩
     congr 1
     apply decide_eq_decide.2;have:=X4 (a.take k) (a.drop (k+1)) (b.drop (k+1)) hne
     rw[←s1,←s2]at this;exact this.symm)
  (λi ⟨e,ht⟩=>by
   subst e;refine⟨.inl (),?_,.inr ⟨rfl,?_⟩⟩
   · show dE a b _=_;unfold dE;by_cases h:a.length<=b.length
     · rw[Nat.min_eq_left h,xu (by omega)];rfl
     · rw[Nat.min_eq_right (by omega),xI (by omega),xu (show ¬(b.length:Int)<(b.length:Int) by omega)];rfl
   · apply decide_eq_decide.2;by_cases h:a.length<=b.length
     · rw[Nat.min_eq_left h,take_length]at ht;have hb:b=a++b.drop a.length:=by
        have:=take_append_drop a.length b;rw[←ht]at this;exact this.symm
       constructor
       · intro hlt;have hd:b.drop a.length≠[]:=by
          intro h0;have:=congrArg List.length h0
          rw[length_drop]at this;simp at this;omega
         have:=Vj a hd;rw[←hb]at this;exact this
       · intro hlt;by_cases he:a.length=b.length
         · have hd:b.drop a.length=[]:=List.drop_eq_nil_of_le (by omega);rw[hd,List.append_nil]at hb;rw[hb]at hlt;exact absurd hlt (List.lt_irrefl _)
         · omega
     · rw[Nat.min_eq_right (by omega),take_length]at ht;have ha:a=b++a.drop b.length:=by
        have:=take_append_drop b.length a;rw[ht]at this;exact this.symm
       constructor
       · intro hlt;omega
       · intro hlt;have:=Vk b (a.drop b.length)
         rw[←ha]at this;exact absurd hlt this) (x:=0) ⟨rfl,by simp⟩
 unfold eI;rw[h1,wX];rcases h2 with rfl|⟨rfl,h2⟩
 · rfl
 · show some (decide _)=_;rw[h2]

theorem GL {a b:List Int} (h:b.length<9223372036854775807):aE a b=some (a==b):=by
 unfold aE;by_cases hl:a.length=b.length
 · have e:((a.length:Int) != (b.length:Int))=false:=by rw[hl];simp
   rw[e,cF];obtain⟨v,h1,rfl⟩:=xG (step:=λz=>du a b z) (λk i=>i=(k:Int)/\a.take k=b.take k) a.length (λv=>v=cond (a==b) (.inl ()) (.inr false))
    (λk i hk ⟨e,ht⟩=>by
     subst e;have hb:k<b.length:=by omega
     have hs:du a b (k:Int)=cond (a[k] != b[k]) (some (.inr (.inr false))) (some (.inl ((k+1:Nat):Int))):=by
      unfold du;rw[xI (by omega),cT,xo hk,wX,xo hb,wX,xj (by omega)]
     by_cases hne:a[k]=b[k]
     · refine .inl ⟨_,by rw[hs,show (a[k] != b[k])=false by simp[hne]];rfl,rfl,?_⟩;rw[take_add_one,take_add_one,List.getElem?_eq_getElem hk,List.getElem?_eq_getElem hb,ht,hne]
     · refine .inr ⟨_,by rw[hs,show (a[k] != b[k])=true from bne_iff_ne.2 hne];rfl,?_⟩;have:(a==b)=false:=by
        apply beq_eq_false_iff_ne.2;intro hab;subst hab;exact hne rfl
       rw[this];rfl)
    (λi ⟨e,ht⟩=>by
     subst e;have hab:a=b:=by
      rw[take_length,List.take_of_length_le (by omega)]at ht;exact ht
     exact⟨.inl (),by show du a b _=_;unfold du;rw[xu (by omega),cF],by rw[show (a==b)=true from beq_iff_eq.2 hab];rfl⟩) (x:=0) ⟨rfl,by simp⟩
   rw[h1,wX];cases (a==b)<;>rfl
 · have e:((a.length:Int) != (b.length:Int))=true:=by simp;omega
   have hne:(a==b)=false:=beq_eq_false_iff_ne.2 λh=>hl (by rw[h]);rw[e,cT,hne]
structure Nm (o:List Int):Prop where
 n1:1<=o.length
 n10:o.length<=10
 e:∀x∈o,xe x 0 100000=true
theorem Nm.ok {o:List Int} (h:Nm o):ak o=some true:=by
 have h10:=h.n10;have h1:=h.n1
 unfold ak;obtain⟨v,e,rfl⟩:=xG (step:=λz=>aJ o z) (λk i=>i=(k:Int)) o.length (λv=>v=.inl ())
  (λk i hk e=>by
   subst e;refine .inl ⟨((k+1:Nat):Int),?_,rfl⟩;show aJ o (k:Int)=_
   unfold aJ;rw[xI (by omega),cT,xo hk,wX,Ad,wX,h.e _ (getElem_mem hk),xj (by omega)];rfl)
  (λi e=>by
   subst e;exact⟨.inl (),by show aJ o _=_;unfold aJ;rw[xu (by omega),cF],rfl⟩) (x:=0) rfl
 rw[e,wX];show ((aa (o.length:Int) 1 10).bind λt=>some t)=_
 rw[Ad,wX];unfold xe;rw[dT (by omega),dT (by omega)];rfl
inductive Vl:A6->Prop
 | num {n:Int} (h:xe n (-2147483648) 2147483647=true):Vl (2,n,[],[])
 | word {s:List UInt8} (h:s.length<=20):Vl (4,0,s,[])
theorem Vl.ok {v:A6} (h:Vl v):ao v=some true:=by
 cases h with
 | num h =>
  unfold ao az bg;simp only[Ad,h,wX,GL (show ([]:List Int).length<9223372036854775807 by decide)];simp
 | word h =>
  rename_i s;have hd:decide ((s.length:Int)<=20)=true:=dT (by omega)
  unfold ao bg;simp only[hd,wX,GL (show ([]:List Int).length<9223372036854775807 by decide)];simp
theorem Vl.k {v:A6} (h:Vl v):(v.1==128)=false:=by cases h<;>rfl
theorem Vl.o {v:A6} (h:Vl v):v.2.2.2=[]:=by cases h<;>rfl
theorem J8 {n:Int} (h1:0<=n) (h2:n<=2147483647):xe n (-2147483648) 2147483647=true:=by unfold xe;rw[dT (by omega),dT (by omega)];rfl
theorem Dy {n a c:Int} (h1:a<=n) (h2:n<=c):xe n a c=true:=by unfold xe;rw[dT (by omega),dT (by omega)];rfl
theorem Iu {n a c:Int} (h:xe n a c=true):a<=n/\n<=c:=by
 unfold xe at h;simp only[aT,decide_eq_true_eq]at h;exact h
theorem X5 {v:yl} (hn:v.1.length<9223372036854775807) {id r:Int} (h:ai v id=some r) (h0:¬r<0):∃x∈v.1,x.1=id:=by
 unfold ai at h;obtain⟨b,h1,h2⟩:=xG (β:=Unit⊕Int) (step:=λz=>bf v id z) (λk i=>i=(k:Int)) v.1.length (λb=>∀r,b=.inr r->∃x∈v.1,x.1=id)
  (λk i hk h=>by
   subst h;unfold bf;rw[xI (by omega),cT,xo hk,wX];cases hb:(v.1[k].1==id)with
   | true=>exact .inr ⟨_,rfl,λr hr=>⟨_,getElem_mem hk,eq_of_beq hb⟩⟩
   | false=>exact .inl ⟨_,rfl,xj (by omega)⟩)
  (λi h=>by
   subst h;unfold bf;rw[xu (by omega)];exact⟨_,rfl,λr hr=>by cases hr⟩) (x:=0) rfl
 rw[h1,wX]at h;cases b with
 | inl _=>cases h;exact absurd (by decide) h0
 | inr r'=>exact h2 r' rfl
theorem Vm {id:Int} {l:List Pt} {p v:Int} (h:aL id l p=some v):1<=v/\v<=4:=by
 unfold aL at h;rw[Ad,wX]at h;have key:∀(o:Option Bool) (f:Bool->Option Int),(∀t x,f t=some x->1<=x/\x<=4)->o.bind f=some v->1<=v/\v<=4:=by
  intro o f hf h;cases o with
  | none=>cases h
  | some t=>exact hf t v h
 refine key _ _ (λt x hx=>?_) h;cases t with
 | true=>cases hx;decide
 | false =>
  rw[cF]at hx;cases hbv:bA id l with
  | none=>rw[hbv]at hx;cases hx
  | some w =>
   rw[hbv,wX]at hx;cases hw:w.2==p with
   | true=>rw[hw]at hx;cases hx;decide
   | false =>
    rw[hw,cF]at hx;cases ha:at? l p with
    | none=>rw[ha]at hx;cases hx
    | some y =>
     rw[ha,wX]at hx
     revert hx
     generalize (cond (!y.2.2.1) _ _:Option Bool)=o;intro hx;cases o with
     | none=>cases hx
     | some t=>cases t<;>(cases hx;decide)
theorem Q2 {b:wY} (h:y9 b) {r:xq} (hr:r∈b.2.2.2.2.1):(1<=r.1/\r.1<=99)/\(0<=r.2.1/\r.2.1<=63)/\(0<=r.2.2/\r.2.2<=63):=by
 obtain⟨k,hk,rfl⟩:=getElem_of_mem hr;have hv:=h.v
 unfold AJ at hv;simp only[aT,Bool.not_eq_true',Bool.or_eq_false_iff,Bool.not_eq_false']at hv;have hx:=any_eq_false.1 hv.2.1 k (mem_range.2 hk)
 unfold EI at hx;simp only[List.getElem?_eq_getElem hk,Bool.or_eq_true,Bool.not_eq_true',not_or,Bool.not_eq_false]at hx;obtain⟨x1,_,x3,x4⟩:=hx;have ht:=R3 (i:=(b.2.2.1.length:Int)) hv.1.1
 have y1:=Iu x1;have y3:=Iu x3
 have x4:(DA .i64 b.2.2.2.2.1[k].2.2 b.2.2.2.2.1[k].2.1 != 0)=false:=by simpa using x4
 refine⟨y1,by omega,?_⟩;have hI:=h.w.r _ (getElem_mem hk)
 have hband:=Iu (Q0 hI.1 hI.2 x3 ht.2 (by rw[MT hI.1 hI.2];exact x4));omega
theorem Vn {b:wY} (h:y9 b) {x:Int} (hx:x∈b.2.2.2.2.2.1):1<=x/\x<=99:=by
 obtain⟨k,hk,rfl⟩:=getElem_of_mem hx;have hv:=h.v
 have hn:b.2.2.2.2.1.length<9223372036854775807:=h.w.v;unfold AJ at hv;simp only[aT,Bool.not_eq_true']at hv;have hq:=any_eq_false.1 hv.2.2 k (mem_range.2 hk)
 unfold I4 at hq;simp only[List.getElem?_eq_getElem hk]at hq;obtain⟨r,hr⟩:=SA (v:=(b.2.2.2.2.1,b.2.2.2.2.2.1)) hn b.2.2.2.2.2.1[k];rw[hr]at hq;simp only[decide_eq_true_eq]at hq;obtain⟨y,hy,e⟩:=X5 (v:=(b.2.2.2.2.1,b.2.2.2.2.2.1)) hn hr hq;have:=(Q2 h (r:=y) hy).1
 rw[e]at this;exact this
theorem TG {b:wY} (h:y9 b) (c:Int) {k:Nat} (hk:k<b.2.2.1.length):0<=I7 b c (k:Int)/\I7 b c (k:Int)<=1000:=by
 have v3:b.2.2.2.2.2.1.length=b.2.2.1.length:=h.vt.len.2.2.1;have hkq:k<b.2.2.2.2.2.1.length:=by omega
 obtain⟨r,hr⟩:=R6 b.1 h.w.p (k:Int);have hr2:=Vm hr
 have hp:=h.p _ (getElem_mem hk);unfold Cr at hp;simp only[aT]at hp;have hc:=Iu hp.1
 have hq:=Vn h (getElem_mem hkq);unfold I7 bS eH;rw[xo hk,xo hkq,hr];simp only[wX];cases (c==1)with
 | true =>
  cases b.2.2.1[k].1 with
  | true=>show (0:Int)<=1/\(1:Int)<=1000;decide
  | false=>show (0:Int)<=0/\(0:Int)<=1000;decide
 | false =>
  cases (c==2)with
  | true=>show 0<=b.2.2.1[k].2.1/\b.2.2.1[k].2.1<=1000;omega
  | false =>
   cases (c==3)with
   | true=>show 0<=r/\r<=1000;omega
   | false=>show 0<=b.2.2.2.2.2.1[k]/\b.2.2.2.2.2.1[k]<=1000;omega
theorem X6 {b:wY} (h:y9 b) {e:xa} (he:e∈b.2.2.2.1):(1<=e.1/\e.1<=99)/\(1<=e.2.1/\e.2.1<=9999)/\(0<=e.2.2.1/\e.2.2.1<=7):=by
 obtain⟨k,hk,rfl⟩:=getElem_of_mem he;have hv:=h.f
 unfold CF at hv;simp only[aT,Bool.not_eq_true']at hv;have hx:=any_eq_false.1 hv.1 k (mem_range.2 hk)
 unfold Cu at hx;simp only[List.getElem?_eq_getElem hk,Bool.or_eq_true,Bool.not_eq_true',not_or,Bool.not_eq_false]at hx;have hf:=hx.1
 unfold Ct at hf;simp only[aT]at hf;exact⟨Iu hf.1,Iu hf.2.1,Iu hf.2.2.1⟩
theorem SG {b:wY} (h:y9 b):(0<=b.2.2.2.2.2.2.1/\b.2.2.2.2.2.2.1<=1000000)/\(0<=b.2.2.2.2.2.2.2.1/\b.2.2.2.2.2.2.2.1<=1000000)/\(0<=b.2.2.2.2.2.2.2.2.1/\b.2.2.2.2.2.2.2.2.1<=1000000)/\(0<=b.2.2.2.2.2.2.2.2.2.1/\b.2.2.2.2.2.2.2.2.2.1<=1000000)/\(0<=b.2.2.2.2.2.2.2.2.2.2/\b.2.2.2.2.2.2.2.2.2.2<=1000000):=by
 have hc:=h.c;unfold zI at hc;simp only[aT]at hc;exact⟨Iu hc.1,Iu hc.2.1,Iu hc.2.2.1,Iu hc.2.2.2.1,Iu hc.2.2.2.2⟩
theorem SH {a b:Int} (ha:0<=a/\a<=100000) (hb:0<=b/\b<=100000):Nm [1,3,1,a,b]:=⟨by simp,by simp,λx hx=>by
 simp only[mem_cons,not_mem_nil,or_false]at hx;rcases hx with rfl|rfl|rfl|rfl|rfl
 · decide
 · decide
 · decide
 · exact Dy ha.1 ha.2
 · exact Dy hb.1 hb.2⟩
theorem Yy {a b c:Int} (ha:0<=a/\a<=100000) (hb:0<=b/\b<=100000) (hc:0<=c/\c<=100000):Nm [1,3,1,a,b,c]:=⟨by simp,by simp,λx hx=>by
 simp only[mem_cons,not_mem_nil,or_false]at hx;rcases hx with rfl|rfl|rfl|rfl|rfl|rfl
 · decide
 · decide
 · decide
 · exact Dy ha.1 ha.2
 · exact Dy hb.1 hb.2
 · exact Dy hc.1 hc.2⟩
theorem Zj {a b c d:Int} (ha:0<=a/\a<=100000) (hb:0<=b/\b<=100000) (hc:0<=c/\c<=100000) (hd:0<=d/\d<=100000):Nm [1,3,1,a,b,c,d]:=⟨by simp,by simp,λx hx=>by
 simp only[mem_cons,not_mem_nil,or_false]at hx;rcases hx with rfl|rfl|rfl|rfl|rfl|rfl|rfl
 · decide
 · decide
 · decide
 · exact Dy ha.1 ha.2
 · exact Dy hb.1 hb.2
 · exact Dy hc.1 hc.2
 · exact Dy hd.1 hd.2⟩
theorem FZ {b:wY} (h:y9 b):∀x∈A7 b,Nm x.1/\Vl x.2:=by
 intro x hx;obtain⟨t1,t2,t3,t4,_⟩:=SG h;have hn6:=h.n6
 unfold A7 at hx;simp only[mem_append]at hx;rcases hx with ((hx|hx)|hx)|hx
 · unfold Di at hx;simp only[mem_cons,not_mem_nil,or_false]at hx;have hname:=h.name
   rcases hx with rfl|rfl|rfl|rfl|rfl
   · exact⟨SH (by decide) (by decide),.word (by omega)⟩
   · exact⟨SH (by decide) (by decide),.num (J8 t1.1 (by omega))⟩
   · exact⟨SH (by decide) (by decide),.num (J8 t2.1 (by omega))⟩
   · exact⟨SH (by decide) (by decide),.num (J8 t3.1 (by omega))⟩
   · exact⟨SH (by decide) (by decide),.num (J8 t4.1 (by omega))⟩
 · obtain⟨c,hc,hx⟩:=mem_flatMap.1 hx;have hc:=mem_range.1 hc
   unfold A5 at hx;obtain⟨k,hk,rfl⟩:=mem_map.1 hx;have hk:=mem_range.1 hk
   have hp:=TG h ((c+1:Nat):Int) hk;exact⟨Yy (by decide) (by omega) (by omega),.num (J8 hp.1 (by omega))⟩
 · obtain⟨c,hc,hx⟩:=mem_flatMap.1 hx;have hc:=mem_range.1 hc
   unfold Bf at hx;obtain⟨r,hr,rfl⟩:=mem_map.1 hx;obtain⟨r1,r2,r3⟩:=Q2 h hr;refine⟨Yy (by decide) (by omega) (by omega),.num ?_⟩;unfold J5;split
   · decide
   · exact J8 r2.1 (by omega)
   · exact J8 r3.1 (by omega)
 · unfold H3 at hx;obtain⟨e,he,rfl⟩:=mem_map.1 hx;obtain⟨e1,e2,e3⟩:=X6 h he;refine⟨Zj (by decide) (by decide) (by omega) (by omega),.num ?_⟩;rw[xN (by omega) (by omega)];exact J8 (by omega) (by omega)
theorem Vo {b:wY} (h:y9 b):(A7 b).length=5+4*b.2.2.1.length+3*b.2.2.2.2.1.length+b.2.2.2.1.length:=by
 have hp:∀c,(A5 b c).length=b.2.2.1.length:=λc=>by unfold A5;rw[length_map,List.length_range]
 have hr:∀c,(Bf b c).length=b.2.2.2.2.1.length:=λc=>by unfold Bf;rw[length_map]
 have hf:(H3 b).length=b.2.2.2.1.length:=by unfold H3;rw[length_map]
 have k5:(Di b).length=5:=rfl;unfold A7;rw[Yk,Yl];simp only[length_append,length_nil,hp,hr,hf,k5];omega
theorem SI {b:wY} (h:y9 b):(A7 b).length<=59:=by
 have h1:=Vo h;have h2:=h.n6
 have h3:b.2.2.2.2.1.length<=6:=h.vt.len.2.2.2;have h4:=h.f12
 omega
theorem Z2 {b:wY} (h:y9 b) {o:List Int} (ho:o.length<9223372036854775807):∃v,bV b o=some v/\((∃x∈A7 b,x.1=o/\v=x.2)\/((∀x∈A7 b,x.1≠o)/\v=(128,0,[],[]))):=by
 have hle:=SI h;obtain⟨v,h1,h2⟩:=xG (step:=λz:Int×Int×Int×List UInt8×List Int=>bn o (A7 b) z.1 z.2.1 z.2.2.1 z.2.2.2.1 z.2.2.2.2) (λk z=>z=((k:Int),0,0,[],[])/\∀x∈(A7 b).take k,x.1≠o) (A7 b).length (λv=>(∃x∈A7 b,x.1=o/\v=.inr x.2)\/((∀x∈A7 b,x.1≠o)/\∃u,v=.inl u))
  (λk z hk ⟨e,hx⟩=>by
   subst e;have hs:bn o (A7 b) (k:Int) 0 0 [] []=cond ((A7 b)[k].1==o) (some (.inr (.inr (A7 b)[k].2))) (some (.inl (((k+1:Nat):Int),0,0,[],[]))):=by
    unfold bn;rw[xI (by omega),cT]
    try rw[OI]
    rw[xo hk,wX,GL ho,wX,xj (by omega)]
   show (∃y,bn o (A7 b) (k:Int) 0 0 [] []=_/\_)\/(∃v,bn o (A7 b) (k:Int) 0 0 [] []=_/\_);rw[hs];cases hb:((A7 b)[k].1==o)with
   | true=>exact .inr ⟨_,rfl,.inl ⟨_,getElem_mem hk,eq_of_beq hb,rfl⟩⟩
   | false =>
    refine .inl ⟨_,rfl,rfl,λx hx'=>?_⟩;rw[take_add_one,List.getElem?_eq_getElem hk,mem_append]at hx';rcases hx' with hx'|hx'
    · exact hx x hx'
    · simp at hx';subst hx';exact beq_eq_false_iff_ne.1 hb)
  (λz ⟨e,hx⟩=>by
   subst e;rw[take_length]at hx;refine⟨.inl (0,0,[],[]),?_,.inr ⟨hx,_,rfl⟩⟩;show bn o (A7 b) _ 0 0 [] []=_
   unfold bn;rw[xu (by omega),cF]) (x:=(0,0,0,[],[])) ⟨rfl,by simp⟩
 unfold bV;rw[X3 h,wX,h1,wX];rcases h2 with ⟨x,hx,e,rfl⟩|⟨hx,u,rfl⟩
 · exact⟨_,rfl,.inl ⟨x,hx,e,rfl⟩⟩
 · exact⟨_,rfl,.inr ⟨hx,rfl⟩⟩

structure At (m:List x7) (o:List Int) (j:Nat):Prop where
 le:j<=m.length
 no:∀i (hi:i<m.length),i<j->¬o<m[i].1
 yes:∀i (hi:i<m.length),j<=i->o<m[i].1
theorem Ym {m:List x7} (hp:m.Pairwise λx y=>x.1<y.1) (o:List Int):∃j,At m o j:=by
 have hp:=List.pairwise_iff_getElem.1 hp;have key:∀n,n<=m.length->(∀i (hi:i<m.length),i<n->¬o<m[i].1)\/∃j,At m o j:=by
  intro n
  induction n with
  | zero=>exact λ_=>.inl λi hi h=>by omega
  | succ n ih =>
   intro hn;rcases ih (by omega)with h|h
   · by_cases hlt:o<m[n].1
     · refine .inr ⟨n,by omega,h,λi hi hni=>?_⟩;by_cases e:i=n
       · subst e;exact hlt
       · exact List.lt_trans hlt (hp n i (by omega) hi (by omega))
     · refine .inl λi hi hin=>?_;by_cases e:i=n
       · subst e;exact hlt
       · exact h i hi (by omega)
   · exact .inr h
 rcases key m.length (Nat.le_refl _)with h|h
 · exact⟨m.length,Nat.le_refl _,λi hi _=>h i hi hi,λi hi h=>by omega⟩
 · exact h
theorem X7 {b:wY} (h:y9 b) {o:List Int} (ho:o.length<=1048576) {j:Nat} (hj:At (A7 b) o j):aV b o=some (if h:j<(A7 b).length then (A7 b)[j]else (o,130,0,[],[])):=by
 have hle:=SI h;have hjl:=hj.le
 obtain⟨v,h1,h2⟩:=xG (step:=λz:Int×Int×Int×List UInt8×List Int×List Int=>bW o (A7 b) z.1 z.2.1 z.2.2.1 z.2.2.2.1 z.2.2.2.2.1 z.2.2.2.2.2) (λk z=>z=((k:Int),0,0,[],[],[])) j (λv=>if h:j<(A7 b).length then v=.inr (A7 b)[j]else ∃u,v=.inl u)
  (λk z hk e=>by
   subst e;have hkl:k<(A7 b).length:=by omega
   have hn:=(FZ h _ (getElem_mem hkl)).1.n10;refine .inl ⟨(((k+1:Nat):Int),0,0,[],[],[]),?_,rfl⟩;show bW o (A7 b) (k:Int) 0 0 [] [] []=_
   unfold bW;rw[xI (by omega),cT]
   try rw[OI]
   rw[xo hkl,wX,Uq (by omega),dF (hj.no k hkl hk),wX,cF,xj (by omega)])
  (λz e=>by
   subst e;show ∃v,bW o (A7 b) (j:Int) 0 0 [] [] []=_/\_
   unfold bW;by_cases hjn:j<(A7 b).length
   · have hn:=(FZ h _ (getElem_mem hjn)).1.n10;rw[xI (by omega),cT]
     try rw[OI]
     rw[xo hjn,wX,Uq (by omega),dT (hj.yes j hjn (Nat.le_refl _)),wX,cT];exact⟨_,rfl,by rw[dif_pos hjn]⟩
   · rw[xu (by omega),cF];exact⟨_,rfl,by rw[dif_neg hjn];exact⟨_,rfl⟩⟩) (x:=(0,0,0,[],[],[])) rfl
 unfold aV;rw[X3 h,wX,h1,wX];by_cases hjn:j<(A7 b).length
 · rw[dif_pos hjn]at h2;rw[dif_pos hjn,h2];rfl
 · rw[dif_neg hjn]at h2;obtain⟨u,rfl⟩:=h2;rw[dif_neg hjn];show ((aR o).bind _)=_
   unfold aR;rw[xh (by show 0+o.length<=_;omega)];rfl
theorem Yn {b:wY} (h:y9 b) {o:List Int} (ho:o.length<=1000) {j:Nat} (hj:At (A7 b) o j):aV b o=some (if h:j<(A7 b).length then (A7 b)[j]else (o,130,0,[],[])):=X7 h (by omega) hj
theorem Ae {α:Type} {ys:List α} (h:ys.length<=M):app [] ys=some ys:=by
 unfold app;rw[if_pos (by show 0+ys.length<=4294967296;have h':ys.length<=1048576:=h;omega)];rfl
theorem I9 {l:List Int} (h:l.length<=M):aR l=some l:=by unfold aR;rw[Ae h];rfl
theorem CG {l:List Int} (h:l.length<=M):bb l=some l:=by unfold bb;rw[Ae h];rfl
theorem Ef {l:List xa} (h:l.length<=M):bN l=some l:=by unfold bN;rw[Ae h];rfl
theorem OJ {l:List xa} (h:l.length<=M):fK l=some l:=by unfold fK;rw[Ae h];rfl
theorem Kr {v:yl} (h:v.1.length<=M/\v.2.length<=M):dh v=some v:=by
 unfold dh;rw[Ae h.1,wX,I9 h.2];rfl
theorem SJ {v:yl} (h:v.1.length<=M/\v.2.length<=M):ip v=some v:=by
 unfold ip;rw[Ae h.1,wX,Ae h.2];rfl
theorem yn {b:wY} (h:Ar M b):ah b=some b:=by
 obtain⟨h1,h2,h3,h4,h5⟩:=h;unfold ah;rw[Ae h2,wX,Ef h3,wX,Kr ⟨h4,h5⟩];rfl
theorem yW {b:wY} (h:Ar M b):af b=some b:=by
 obtain⟨h1,h2,h3,h4,h5⟩:=h;unfold af;rw[Ae h2,wX,OJ h3,wX,SJ ⟨h4,h5⟩];rfl
theorem Vp {x:x7} (h:Cs.wf xp x):EC maxLen x:=by
 simp only[xp,Cs.wf,CT.wf]at h;exact⟨h.1.1,h.2.2.2.1,h.2.2.2.2.1⟩
theorem X8 {j:xH} (h:Cs.wf z6 j):JS maxLen j:=by
 simp only[z6,Cs.wf,CT.wf]at h;obtain⟨_,h1,_,_,_,_,_,h2,_,h3,h4,h5,h6,h7,_⟩:=h;refine⟨h1.1,⟨h2.1,λx hx=>Vp ?_⟩,⟨h3,h4.1,h5.1,h6.1,h7.1⟩⟩;have:=h2.2 x hx
 simpa only[xp,Cs.wf,CT.wf]using this
theorem TH {a:xk} (h:Cs.wf xL a):FY maxLen a:=by
 simp only[xL,Cs.wf,CT.wf]at h;obtain⟨_,h1,h2,h3,h4,h5,_,_,_,_,_,h6,h7,_⟩:=h;refine⟨⟨h1,h2.1,h3.1,h4.1,h5.1⟩,h6,h7.1,λx hx=>X8 ?_⟩;have:=h7.2 x hx
 simpa only[z6,Cs.wf,CT.wf]using this

def Mf (o:List Int) (k:Nat):Bool:=match o[k]? with|some x=>!(xe x 0 100000)|none=>false
def Au (o:List Int):Bool:=!((List.range o.length).any (Mf o))&&xe (o.length:Int) 1 10
theorem Ia {o:List Int} (h:o.length<9223372036854775807):ak o=some (Au o):=by
 unfold ak Au;have e:loop (λz=>aJ o z) 0=some (cond ((List.range o.length).any (Mf o)) (Sum.inr false) (Sum.inl ())):=by
  rw[←B3 (n:=o.length) (c:=λi=>(at? o i).bind λx=>(aa x 0 100000).bind λt=>some (!t)) (b:=Mf o) h (λk hk=>by
   simp only[xo hk,wX,Mf,List.getElem?_eq_getElem hk,Ad])]
  refine zP (λi=>?_) 0;unfold aJ;simp only[Option.bind_assoc,wX]
 rw[e,wX];cases (List.range o.length).any (Mf o)with
 | true=>rfl
 | false=>simp only[cF,Sum.elim_inl,Ad,wX,Bool.not_false,Bool.true_and]
theorem OK:bJ=ak:=rfl
theorem Ur (n:Int):∃c,bt n=some c/\(c==n)=xe n (-2147483648) 2147483647:=by
 unfold bt xe;by_cases h1:n>2147483647
 · refine⟨_,by rw[dT h1];rfl,?_⟩;rw[dF (show ¬n<=2147483647 by omega),Bool.and_false];exact beq_eq_false_iff_ne.2 (by omega)
 · by_cases h2:n < -2147483648
   · refine⟨_,by rw[dF h1,dT h2];rfl,?_⟩;rw[dF (show ¬n >= -2147483648 by omega),Bool.false_and];exact beq_eq_false_iff_ne.2 (by omega)
   · refine⟨_,by rw[dF h1,dF h2];rfl,?_⟩;rw[dT (show n >= -2147483648 by omega),dT (show n<=2147483647 by omega),beq_self_eq_true];rfl
theorem Vq (l:List Int):aE l []=some ((l.length:Int)==0):=by
 cases l with
 | nil=>exact Ch (n:=0) (HU (a:=[]) (by decide))
 | cons x l =>
  unfold aE;have e:(((x::l).length:Int) != (([]:List Int).length:Int))=true:=by simp;omega
  rw[e,cT,beq_eq_false_iff_ne.2 (by simp;omega)]
theorem TI {l:List Int} (h:l.length<=M):aE l l=some true:=Ch (HU (Ag h))
def Bg (v:A6):Bool :=
 cond (v.1==5||(v.1==128||v.1==130)) (v.2.1==0&&(v.2.2.1==[]&&((v.2.2.2.length:Int)==0)))
  (cond (v.1==2) (xe v.2.1 (-2147483648) 2147483647&&(v.2.2.1==[]&&((v.2.2.2.length:Int)==0)))
   (cond (v.1==4) (decide ((v.2.2.1.length:Int)<=20)&&(v.2.1==0&&((v.2.2.2.length:Int)==0)))
    (cond (v.1==6) (Au v.2.2.2&&(v.2.1==0&&(v.2.2.1==[]))) false)))
theorem Ks {v:A6} (h:v.2.2.2.length<=M):ao v=some (Bg v):=by
 obtain⟨k,n,s,o⟩:=v;have h':o.length<=1048576:=h
 have ho:o.length<=M:=h;have hb:o.length<9223372036854775807:=by omega
 unfold ao Bg bg az;simp only[Ad,Vq,TI ho,Ia hb,wX];by_cases h2:k=2
 · subst h2;cases xe n (-2147483648) 2147483647<;>cases s==[]<;>cases (o.length:Int)==0<;>simp
 by_cases h4:k=4
 · subst h4;cases decide ((s.length:Int)<=20)<;>cases n==0<;>cases (o.length:Int)==0<;>simp
 by_cases h6:k=6
 · subst h6;cases Au o<;>cases n==0<;>cases s==[]<;>simp
 rw[beq_eq_false_iff_ne.2 h2,beq_eq_false_iff_ne.2 h4,beq_eq_false_iff_ne.2 h6];by_cases h5:k=5
 · subst h5;cases n==0<;>cases s==[]<;>cases (o.length:Int)==0<;>simp
 by_cases h128:k=128
 · subst h128;cases n==0<;>cases s==[]<;>cases (o.length:Int)==0<;>simp
 by_cases h130:k=130
 · subst h130;cases n==0<;>cases s==[]<;>cases (o.length:Int)==0<;>simp
 rw[beq_eq_false_iff_ne.2 h5,beq_eq_false_iff_ne.2 h128,beq_eq_false_iff_ne.2 h130];rfl
theorem Mg {v:A6} (h:v.2.2.2.length<=M):bu v=some (Bg v):=by
 obtain⟨k,n,s,o⟩:=v;have h':o.length<=1048576:=h
 have hb:o.length<9223372036854775807:=by omega
 obtain⟨c,hc,hc2⟩:=Ur n;unfold bu Bg;simp only[OK,Ia hb,hc,hc2,wX];by_cases h5:k=5
 · subst h5;cases n==0<;>cases s==[]<;>cases (o.length:Int)==0<;>simp
 by_cases h128:k=128
 · subst h128;cases n==0<;>cases s==[]<;>cases (o.length:Int)==0<;>simp
 by_cases h130:k=130
 · subst h130;cases n==0<;>cases s==[]<;>cases (o.length:Int)==0<;>simp
 rw[beq_eq_false_iff_ne.2 h5,beq_eq_false_iff_ne.2 h128,beq_eq_false_iff_ne.2 h130];by_cases h2:k=2
 · subst h2;cases xe n (-2147483648) 2147483647<;>cases s==[]<;>cases (o.length:Int)==0<;>simp
 by_cases h4:k=4
 · subst h4;cases decide ((s.length:Int)<=20)<;>cases n==0<;>cases (o.length:Int)==0<;>simp
 by_cases h6:k=6
 · subst h6;cases Au o<;>cases n==0<;>cases s==[]<;>simp
 rw[beq_eq_false_iff_ne.2 h2,beq_eq_false_iff_ne.2 h4,beq_eq_false_iff_ne.2 h6];rfl
def C4 (x:x7):Bool:=Au x.1&&Bg x.2
def bX (l:List x7) (k:Nat):Bool:=match l[k]? with|some x=>!(C4 x)|none=>false
def z8 (p:xE):Bool :=
 (!((List.range p.2.2.2.2.length).any (bX p.2.2.2.2))&&decide ((p.2.2.2.2.length:Int)<=10)) &&
 (cond (p.1==162||p.1==165) (xe p.2.2.1 0 1000&&xe p.2.2.2.1 0 1000)
  (cond (p.1==160||(p.1==161||p.1==163)) (p.2.2.1==0&&p.2.2.2.1==0) false)&&xe p.2.1 (-2147483648) 2147483647)
theorem X9 {n:Nat} {f g:Nat->Bool}:(List.range n).any (λk=>f k||g k)=((List.range n).any f||(List.range n).any g):=by
 generalize List.range n=l
 induction l with
 | nil=>rfl
 | cons a l ih=>simp only[List.any_cons,ih];cases f a<;>cases g a<;>simp
theorem Vr (n:Nat):(List.range n).any (λk=>decide ((k:Int)>=10))=!(decide ((n:Int)<=10)):=by
 by_cases h:(n:Int)<=10
 · rw[dT h];refine Bool.eq_false_iff.2 λha=>?_;obtain⟨k,h1,h2⟩:=any_eq_true.1 ha;have:=mem_range.1 h1
   have:=of_decide_eq_true h2;omega
 · rw[dF h];exact any_eq_true.2 ⟨10,mem_range.2 (by omega),by decide⟩
theorem TJ {p:xE} (h:zz M p):loop (λz=>gt p z) 0=some (cond (!(decide ((p.2.2.2.2.length:Int)<=10))||(List.range p.2.2.2.2.length).any (bX p.2.2.2.2)) (Sum.inr false) (Sum.inl ())):=by
 obtain⟨k,i,e,x,l⟩:=p;have h':Dh M l:=h
 have hl:l.length<=1048576:=h'.1;show loop (λz=>gt (k,i,e,x,l) z) 0=some (cond (!(decide ((l.length:Int)<=10))||(List.range l.length).any (bX l)) (Sum.inr false) (Sum.inl ()))
 rw[←Vr,←X9,←B3 (n:=l.length) (c:=λi=>(at? l i).bind λx=>(cond (decide (i>=10)) (some true) ((ak x.1).bind λt=>some (!t))).bind λt=>(cond t (some true) ((ao x.2).bind λt=>some (!t)))) (b:=λk=>decide ((k:Int)>=10)||bX l k) (by omega) (λk hk=>by
  have hx:EC M l[k]:=h'.2 _ (getElem_mem hk);have h1:l[k].1.length<=1048576:=hx.1
  have h2:l[k].2.2.2.2.length<=M:=hx.2.2;simp only[xo hk,wX,bX,List.getElem?_eq_getElem hk,Ia (show l[k].1.length<9223372036854775807 by omega),Ks (v:=l[k].2) h2,C4];cases decide ((k:Int)>=10)<;>cases Au l[k].1<;>cases Bg l[k].2<;>rfl)]
 refine zP (λi=>?_) 0;unfold gt;simp only[Option.bind_assoc,wX]
theorem SK {p:xE} (h:zz M p):loop (λz=>ir p z) 0=some (cond ((List.range p.2.2.2.2.length).any (bX p.2.2.2.2)) (Sum.inr false) (Sum.inl ())):=by
 obtain⟨k,i,e,x,l⟩:=p;have h':Dh M l:=h
 have hl:l.length<=1048576:=h'.1;show loop (λz=>ir (k,i,e,x,l) z) 0=some (cond ((List.range l.length).any (bX l)) (Sum.inr false) (Sum.inl ()))
 rw[←B3 (n:=l.length) (c:=λi=>(at? l i).bind λx=>(bJ x.1).bind λt=>(cond (!t) (some true) ((at? l i).bind λx=>(bu x.2).bind λt=>some (!t)))) (b:=bX l) (by omega) (λk hk=>by
  have hx:EC M l[k]:=h'.2 _ (getElem_mem hk);have h1:l[k].1.length<=1048576:=hx.1
  have h2:l[k].2.2.2.2.length<=M:=hx.2.2;simp only[xo hk,wX,bX,List.getElem?_eq_getElem hk,OK,Ia (show l[k].1.length<9223372036854775807 by omega),Mg (v:=l[k].2) h2,C4];cases Au l[k].1<;>cases Bg l[k].2<;>rfl)]
 refine zP (λi=>?_) 0;unfold ir;simp only[Option.bind_assoc,wX]
theorem TK {p:xE} (h:zz M p):cn p=some (z8 p):=by
 have e0:=TJ h;have e1:loop (λz=>lb p z) 0=_:=e0
 have e2:loop (λz=>lc p z) 0=_:=e0;have e3:loop (λz=>ld p z) 0=_:=e0
 have e4:loop (λz=>lf p z) 0=_:=e0;have e5:loop (λz=>lg p z) 0=_:=e0
 have e6:loop (λz=>lh p z) 0=_:=e0;have e7:loop (λz=>lj p z) 0=_:=e0
 have e8:loop (λz=>lk p z) 0=_:=e0;unfold cn z8 az;rw[e0,e1,e2,e3,e4,e5,e6,e7,e8];simp only[Ad,wX];generalize (List.range p.2.2.2.2.length).any (bX p.2.2.2.2)=u;generalize decide ((p.2.2.2.2.length:Int)<=10)=w;generalize xe p.2.1 (-2147483648) 2147483647=x;generalize p.2.2.1=e;generalize p.2.2.2.1=i;generalize p.1=k;by_cases h0:k=160
 · subst h0;have b1:(e != 0)=!(e==0):=rfl
   have b2:(i != 0)=!(i==0):=rfl;rw[b1,b2];cases e==0<;>cases i==0<;>cases u<;>cases w<;>cases x<;>rfl
 by_cases h1:k=161
 · subst h1;have b1:(e != 0)=!(e==0):=rfl
   have b2:(i != 0)=!(i==0):=rfl;rw[b1,b2];cases e==0<;>cases i==0<;>cases u<;>cases w<;>cases x<;>rfl
 by_cases h3:k=163
 · subst h3;have b1:(e != 0)=!(e==0):=rfl
   have b2:(i != 0)=!(i==0):=rfl;rw[b1,b2];cases e==0<;>cases i==0<;>cases u<;>cases w<;>cases x<;>rfl
 by_cases h2:k=162
 · subst h2;cases xe e 0 1000<;>cases xe i 0 1000<;>cases u<;>cases w<;>cases x<;>rfl
 by_cases h5:k=165
 · subst h5;cases xe e 0 1000<;>cases xe i 0 1000<;>cases u<;>cases w<;>cases x<;>rfl
 rw[beq_eq_false_iff_ne.2 h0,beq_eq_false_iff_ne.2 h1,beq_eq_false_iff_ne.2 h2,beq_eq_false_iff_ne.2 h3,beq_eq_false_iff_ne.2 h5];cases u<;>cases w<;>rfl
theorem Rc {p:xE} (h:zz M p):bK p=some (z8 p):=by
 obtain⟨c,hc,hc2⟩:=Ur p.2.1;unfold bK z8 jM;rw[SK h];simp only[CX,hc,hc2,wX];generalize (List.range p.2.2.2.2.length).any (bX p.2.2.2.2)=u;generalize decide ((p.2.2.2.2.length:Int)<=10)=w;generalize xe p.2.1 (-2147483648) 2147483647=x;generalize p.2.2.1=e;generalize p.2.2.2.1=i;generalize p.1=k;have b1:(e != 0)=!(e==0):=rfl
 have b2:(i != 0)=!(i==0):=rfl;rw[b1,b2];have z1:(e==0)=true->xe e 0 1000=true:=λh=>by rw[eq_of_beq h];rfl
 have z2:(i==0)=true->xe i 0 1000=true:=λh=>by rw[eq_of_beq h];rfl
 by_cases h2:k=162
 · subst h2;cases xe e 0 1000<;>cases xe i 0 1000<;>cases u<;>cases w<;>cases x<;>rfl
 by_cases h5:k=165
 · subst h5;cases xe e 0 1000<;>cases xe i 0 1000<;>cases u<;>cases w<;>cases x<;>rfl
 have n2:(k != 162)=true:=bne_iff_ne.2 h2;have n5:(k != 165)=true:=bne_iff_ne.2 h5
 rw[n2,n5,beq_eq_false_iff_ne.2 h2,beq_eq_false_iff_ne.2 h5];cases he:e==0 with
 | false=>cases hi:i==0<;>cases u<;>cases w<;>cases x<;>cases k==160<;>cases k==161<;>cases k==163<;>rfl
 | true =>
  rw[z1 he];cases hi:i==0 with
  | false=>cases u<;>cases w<;>cases x<;>cases k==160<;>cases k==161<;>cases k==163<;>rfl
  | true =>
   rw[z2 hi];cases u<;>cases w<;>cases x<;>cases k==160<;>cases k==161<;>cases k==163<;>rfl
def xT (j:xH):Int:=j.2.2.2.2.2.2.2.2.2.2.2.2.2.2.2.2.2.2.2.2
def AO (j:xH):Int:=j.2.2.2.2.2.2.2.2.2.2.2.2.2.2.2.2.2.2.2.1
noncomputable def Dj (j:xH):Bool:=xe j.2.2.1 0 2&&(xe (AO j) 0 (j.2.2.2.2.2.2.2.1.length:Int)&&(xe (xT j) 0 3&&(j.2.2.1==0||(z8 (jP j)&&((j.2.2.2.1 != 162)&&xQ (jB j))))))
structure OM (j:xH):Prop where
 p:zz M (jP j)
 b:AC (jB j)
theorem Z3 {j:xH} (h:OM j):ez j=some (Dj j):=by
 have hp:cn (j.2.2.2.1,j.2.2.2.2.1,j.2.2.2.2.2.1,j.2.2.2.2.2.2.1,j.2.2.2.2.2.2.2.1)=some (z8 (jP j)):=TK h.p;have hb:=By h.b
 unfold jB at hb;unfold ez Dj;rw[hp,hb];simp only[Ad,wX,AO,xT];cases xe j.2.2.1 0 2<;>cases xe j.2.2.2.2.2.2.2.2.2.2.2.2.2.2.2.2.2.2.2.1 0 (j.2.2.2.2.2.2.2.1.length:Int)<;>cases xe j.2.2.2.2.2.2.2.2.2.2.2.2.2.2.2.2.2.2.2.2 0 3<;>cases j.2.2.1==0<;>cases z8 (jP j)<;>cases j.2.2.2.1 != 162<;>rfl
theorem Z4 {j:xH} (h:OM j) (last:Int):fQ j last=some (xe j.1 1 last&&Dj j):=by
 have hp:bK (j.2.2.2.1,j.2.2.2.2.1,j.2.2.2.2.2.1,j.2.2.2.2.2.2.1,j.2.2.2.2.2.2.2.1)=some (z8 (jP j)):=Rc h.p;have hb:=Dw h.b
 unfold jB at hb;unfold fQ jN Dj;rw[hp,hb];simp only[CX,wX,AO,xT];cases xe j.1 1 last<;>cases xe j.2.2.1 0 2<;>cases xe j.2.2.2.2.2.2.2.2.2.2.2.2.2.2.2.2.2.2.2.1 0 (j.2.2.2.2.2.2.2.1.length:Int)<;>cases xe j.2.2.2.2.2.2.2.2.2.2.2.2.2.2.2.2.2.2.2.2 0 3<;>cases j.2.2.1==0<;>cases z8 (jP j)<;>cases j.2.2.2.1 != 162<;>rfl
def x8 (a:xk):List xH:=a.2.2.2.2.2.2.2.2.2.2.2.2.1
def xK (a:xk):Int:=a.2.2.2.2.2.2.2.2.2.2.2.2.2.2
def zH (a:xk):Int:=a.2.2.2.2.2.2.2.2.2.2.2.2.2.1
noncomputable def H4 (l:List xH) (last:Int) (k:Nat):Bool:=match l[k]? with
 | some j=>!(xe j.1 1 last&&Dj j)||(decide (0<k)&&(match l[k-1]? with|some p=>decide (p.1>=j.1)|none=>false))
 | none=>false
noncomputable def AP (a:xk):Bool:=!((List.range (x8 a).length).any (H4 (x8 a) (xK a)))&&(xQ (aB a)&&(decide ((a.2.2.2.2.2.2.2.2.2.2.2.1.length:Int)<=20)&&(decide (((x8 a).length:Int)<=6)&&(xe (zH a) 0 1000000&&xe (xK a) 0 1000000))))
structure LH (a:xk):Prop where
 b:AC (aB a)
 n:(x8 a).length<=1048576
 j:∀x∈x8 a,OM x
theorem Re {a:xk} (h:LH a):loop (λz=>je a z) 0=some (cond ((List.range (x8 a).length).any (H4 (x8 a) (xK a))) (Sum.inr false) (Sum.inl ())):=by
 have hn:=h.n;rw[←B3 (n:=(x8 a).length) (c:=λi=>(at? (x8 a) i).bind λx=>(aa x.1 1 (xK a)).bind λt=>(cond (!t) (some true) ((cond (decide (i>0)) ((at? (x8 a) (wZ (i-1))).bind λy=>some (decide (y.1>=x.1))) (some false)).bind λt=>some t)).bind λt=>(cond t (some true) ((ez x).bind λt=>some (!t))).bind λt=>some t) (b:=H4 (x8 a) (xK a)) (by omega) (λk hk=>by
  simp only[xo hk,wX,Ad,Z3 (h.j _ (getElem_mem hk)),H4,List.getElem?_eq_getElem hk];by_cases h0:0<k
  · have hd:decide ((k:Int)>0)=true:=dT (by omega);simp only[hd,Ff hk h0 (by omega),wX,dT h0,List.getElem?_eq_getElem (show k-1<(x8 a).length by omega),cT];cases xe (x8 a)[k].1 1 (xK a)<;>cases decide ((x8 a)[k-1].1>=(x8 a)[k].1)<;>cases Dj (x8 a)[k]<;>rfl
  · have hd:decide ((k:Int)>0)=false:=dF (by omega);simp only[hd,dF h0];cases xe (x8 a)[k].1 1 (xK a)<;>cases Dj (x8 a)[k]<;>rfl)]
 refine zP (λi=>?_) 0;unfold je x8 xK;simp only[Option.bind_assoc,wX]
theorem Pl {a:xk} (h:LH a):loop (λz=>jO a z) 0=some (cond ((List.range (x8 a).length).any (H4 (x8 a) (xK a))) (Sum.inr false) (Sum.inl ())):=by
 have hn:=h.n;rw[←B3 (n:=(x8 a).length) (c:=λi=>(at? (x8 a) i).bind λx=>(fQ x (xK a)).bind λt=>(cond (!t) (some true) ((cond (decide (i>0)) ((at? (x8 a) (wZ (i-1))).bind λy=>(at? (x8 a) i).bind λx=>some (decide (y.1>=x.1))) (some false)).bind λt=>some t))) (b:=H4 (x8 a) (xK a)) (by omega) (λk hk=>by
  simp only[xo hk,wX,Z4 (h.j _ (getElem_mem hk)),H4,List.getElem?_eq_getElem hk];by_cases h0:0<k
  · have hd:decide ((k:Int)>0)=true:=dT (by omega);simp only[hd,Ff hk h0 (by omega),wX,dT h0,List.getElem?_eq_getElem (show k-1<(x8 a).length by omega),cT];cases xe (x8 a)[k].1 1 (xK a)<;>cases decide ((x8 a)[k-1].1>=(x8 a)[k].1)<;>cases Dj (x8 a)[k]<;>rfl
  · have hd:decide ((k:Int)>0)=false:=dF (by omega);simp only[hd,dF h0];cases xe (x8 a)[k].1 1 (xK a)<;>cases Dj (x8 a)[k]<;>rfl)]
 refine zP (λi=>?_) 0;unfold jO x8 xK;simp only[Option.bind_assoc,wX]
theorem Yo (n m:Int):decide (n>m)=!(decide (n<=m)):=by
 by_cases h:n<=m
 · rw[dT h,dF (by omega)];rfl
 · rw[dF h,dT (by omega)];rfl
theorem J9 {a:xk} (h:LH a):eA a=some (AP a):=by
 have hb:aS (a.1,a.2.1,a.2.2.1,a.2.2.2.1,a.2.2.2.2.1,a.2.2.2.2.2.1,a.2.2.2.2.2.2.1,a.2.2.2.2.2.2.2.1,a.2.2.2.2.2.2.2.2.1,a.2.2.2.2.2.2.2.2.2.1,a.2.2.2.2.2.2.2.2.2.2.1)=some (xQ (aB a)):=By h.b;unfold eA AP;rw[Re h,hb];simp only[SC,wX,Yo,zH,xK];generalize (List.range (x8 a).length).any _=u;show _=some (!u&&(xQ (aB a)&&(_&&(decide ((a.2.2.2.2.2.2.2.2.2.2.2.2.1.length:Int)<=6)&&(_)))))
 cases u<;>cases xQ (aB a)<;>cases decide ((a.2.2.2.2.2.2.2.2.2.2.2.1.length:Int)<=20)<;>cases decide ((a.2.2.2.2.2.2.2.2.2.2.2.2.1.length:Int)<=6)<;>cases xe a.2.2.2.2.2.2.2.2.2.2.2.2.2.1 0 1000000<;>cases xe a.2.2.2.2.2.2.2.2.2.2.2.2.2.2 0 1000000<;>rfl
theorem LI {a:xk} (h:LH a):ck a=some (AP a):=by
 have hb:aZ (a.1,a.2.1,a.2.2.1,a.2.2.2.1,a.2.2.2.2.1,a.2.2.2.2.2.1,a.2.2.2.2.2.2.1,a.2.2.2.2.2.2.2.1,a.2.2.2.2.2.2.2.2.1,a.2.2.2.2.2.2.2.2.2.1,a.2.2.2.2.2.2.2.2.2.2.1)=some (xQ (aB a)):=Dw h.b;unfold ck AP;rw[Pl h,hb];simp only[CX,wX,zH,xK];generalize (List.range (x8 a).length).any _=u;show _=some (!u&&(xQ (aB a)&&(_&&(decide ((a.2.2.2.2.2.2.2.2.2.2.2.2.1.length:Int)<=6)&&(_)))))
 cases u<;>cases xQ (aB a)<;>cases decide ((a.2.2.2.2.2.2.2.2.2.2.2.1.length:Int)<=20)<;>cases decide ((a.2.2.2.2.2.2.2.2.2.2.2.2.1.length:Int)<=6)<;>cases xe a.2.2.2.2.2.2.2.2.2.2.2.2.2.1 0 1000000<;>cases xe a.2.2.2.2.2.2.2.2.2.2.2.2.2.2 0 1000000<;>rfl
theorem Vs {j:xH} (h:Cs.wf z6 j) (hl:JS M j):OM j:=by
 obtain⟨_,l1,l2⟩:=hl;refine⟨l1,?_⟩;obtain⟨_,l2,l3,l4,l5⟩:=l2;have hM:M<9223372036854775807:=by decide
 refine⟨by omega,by omega,by omega,by omega,λr hr=>?_⟩;simp only[z6,Cs.wf,CT.wf]at h;obtain⟨_,_,_,_,_,_,_,_,_,_,_,_,h4,_⟩:=h;exact (h4.2 r hr).2.2
theorem SL {a:xk} (h:Cs.wf xL a) (hl:FY M a):LH a:=by
 obtain⟨⟨_,l2,l3,l4,l5⟩,l6,l7⟩:=hl;have hM:M<9223372036854775807:=by decide
 simp only[xL,Cs.wf,CT.wf]at h;obtain⟨_,_,_,_,h4,_,_,_,_,_,_,_,h7,_⟩:=h;refine⟨⟨by omega,by omega,by omega,by omega,λr hr=>(h4.2 r hr).2.2⟩,l7.1,λx hx=>Vs ?_ (l7.2 x hx)⟩;have:=h7.2 x hx
 simpa only[z6,Cs.wf,CT.wf]using this
theorem Ja {α:Type} {l:List α} {step:Int×List α->Option ((Int×List α)⊕List α)} (hn:l.length<=M)
 (hs:∀k (hk:k<l.length) out,step ((k:Int),out)=(app out [l[k]]).bind λzs=>some (.inl (((k+1:Nat):Int),zs)))
 (he:∀out,step ((l.length:Int),out)=some (.inr out)):loop step (0,[])=some l:=by
 have hn':l.length<=1048576:=hn;obtain⟨b,h1,rfl⟩:=xG (step:=step) (λk z=>z=((k:Int),l.take k)) l.length (λb=>b=l)
  (λk z hk e=>by
   subst e;left;refine⟨_,by rw[hs k hk,xh (by rw[length_take];show _+1<=_;omega),wX],?_⟩;rw[take_add_one,List.getElem?_eq_getElem hk];rfl)
  (λz e=>by
   subst e;exact⟨_,he _,by rw[take_length]⟩) (x:=(0,[])) rfl
 exact h1
theorem Vt {v:A6} (h:PX M v):gp v=some v:=by unfold gp;rw[I9 h.2];rfl
theorem Jb {l:List x7} (h:Dh M l):dk l=some l:=by
 have hn:l.length<=1048576:=h.1;unfold dk;rw[Ja (step:=λz=>dj l z.1 z.2) h.1 (λk hk out=>by
  show dj l (k:Int) out=_;unfold dj;have hx:=h.2 _ (getElem_mem hk)
  rw[xI (by omega),cT,xo hk,wX,I9 hx.1,wX,Vt hx.2,wX,xj (by omega)]) (λout=>by
  show dj l (l.length:Int) out=_;unfold dj;rw[xu (by omega),cF])];rfl
theorem Fa {l:List x7} (h:Dh M l):cJ l=some l:=by
 have hn:l.length<=1048576:=h.1;unfold cJ;rw[Ja (step:=λz=>dV l z.1 z.2) h.1 (λk hk out=>by
  show dV l (k:Int) out=_;unfold dV;have hx:=h.2 _ (getElem_mem hk)
  rw[xI (by omega),cT,xo hk,wX,Ae hx.2.2,wX,wX,Ae hx.1,wX,xj (by omega)]) (λout=>by
  show dV l (l.length:Int) out=_;unfold dV;rw[xu (by omega),cF])];rfl
theorem Vu {p:xE} (h:zz M p):eq p=some p:=by unfold eq;rw[Jb h];rfl
theorem TL {p:xE} (h:zz M p):fL p=some p:=by unfold fL;rw[Fa h];rfl
theorem Dz {a:xk} (h:FY M a):dp a=some a:=by
 obtain⟨h1,h2,h3,h4⟩:=h;have hn:(x8 a).length<=1048576:=h3
 unfold dp;have hb:ah (a.1,a.2.1,a.2.2.1,a.2.2.2.1,a.2.2.2.2.1,a.2.2.2.2.2.1,a.2.2.2.2.2.2.1,a.2.2.2.2.2.2.2.1,a.2.2.2.2.2.2.2.2.1,a.2.2.2.2.2.2.2.2.2.1,a.2.2.2.2.2.2.2.2.2.2.1)=some (aB a):=yn h1
 rw[hb,wX,Ja (l:=x8 a) (step:=λz=>dl a z.1 z.2) h3 (λk hk out=>by
  show dl a (k:Int) out=_;unfold dl;obtain⟨hx1,hx2,hx3⟩:=h4 _ (getElem_mem hk);have e0:at? a.2.2.2.2.2.2.2.2.2.2.2.2.1 (k:Int)=some (x8 a)[k]:=xo hk
  rw[xI (show (k:Int)<(a.2.2.2.2.2.2.2.2.2.2.2.2.1.length:Int) by show (k:Int)<((x8 a).length:Int);omega),cT,e0,wX];generalize (x8 a)[k]=x at hx1 hx2 hx3;have e1:eq (x.2.2.2.1,x.2.2.2.2.1,x.2.2.2.2.2.1,x.2.2.2.2.2.2.1,x.2.2.2.2.2.2.2.1)=some (jP x):=Vu hx2
  have e2:ah (x.2.2.2.2.2.2.2.2.1,x.2.2.2.2.2.2.2.2.2.1,x.2.2.2.2.2.2.2.2.2.2.1,x.2.2.2.2.2.2.2.2.2.2.2.1,x.2.2.2.2.2.2.2.2.2.2.2.2.1,x.2.2.2.2.2.2.2.2.2.2.2.2.2.1,x.2.2.2.2.2.2.2.2.2.2.2.2.2.2.1,x.2.2.2.2.2.2.2.2.2.2.2.2.2.2.2.1,x.2.2.2.2.2.2.2.2.2.2.2.2.2.2.2.2.1,x.2.2.2.2.2.2.2.2.2.2.2.2.2.2.2.2.2.1,x.2.2.2.2.2.2.2.2.2.2.2.2.2.2.2.2.2.2.1)=some (jB x):=yn hx3;rw[CG hx1,wX,e1,wX,e2,wX,xj (by omega)];rfl) (λout=>by
  show dl a ((x8 a).length:Int) out=_;unfold dl;rw[xu (show ¬((x8 a).length:Int)<(a.2.2.2.2.2.2.2.2.2.2.2.2.1.length:Int) by show ¬((x8 a).length:Int)<((x8 a).length:Int);omega),cF])]
 rfl
theorem DZ {a:xk} (h:FY M a):cj a=some a:=by
 obtain⟨h1,h2,h3,h4⟩:=h;have hn:(x8 a).length<=1048576:=h3
 unfold cj;have hb:af (a.1,a.2.1,a.2.2.1,a.2.2.2.1,a.2.2.2.2.1,a.2.2.2.2.2.1,a.2.2.2.2.2.2.1,a.2.2.2.2.2.2.2.1,a.2.2.2.2.2.2.2.2.1,a.2.2.2.2.2.2.2.2.2.1,a.2.2.2.2.2.2.2.2.2.2.1)=some (aB a):=yW h1
 rw[hb,wX];obtain⟨d,d1,rfl⟩:=xG (step:=λz:Int×Int×List UInt8×Int×Int×Int×Int×Int×List UInt8×Int×Int×List xH=>fM a z.1 z.2.1 z.2.2.1 z.2.2.2.1 z.2.2.2.2.1 z.2.2.2.2.2.1 z.2.2.2.2.2.2.1 z.2.2.2.2.2.2.2.1 z.2.2.2.2.2.2.2.2.1 z.2.2.2.2.2.2.2.2.2.1 z.2.2.2.2.2.2.2.2.2.2.1 z.2.2.2.2.2.2.2.2.2.2.2)
  (λk z=>z=((k:Int),a.1,a.2.1,a.2.2.2.2.2.2.1,a.2.2.2.2.2.2.2.1,a.2.2.2.2.2.2.2.2.1,a.2.2.2.2.2.2.2.2.2.1,a.2.2.2.2.2.2.2.2.2.2.1,a.2.2.2.2.2.2.2.2.2.2.2.1,a.2.2.2.2.2.2.2.2.2.2.2.2.2.1,a.2.2.2.2.2.2.2.2.2.2.2.2.2.2,(x8 a).take k)) (x8 a).length
  (λd=>d=(a.1,a.2.1,a.2.2.2.2.2.2.1,a.2.2.2.2.2.2.2.1,a.2.2.2.2.2.2.2.2.1,a.2.2.2.2.2.2.2.2.2.1,a.2.2.2.2.2.2.2.2.2.2.1,a.2.2.2.2.2.2.2.2.2.2.2.1,a.2.2.2.2.2.2.2.2.2.2.2.2.2.1,a.2.2.2.2.2.2.2.2.2.2.2.2.2.2,x8 a))
  (λk z hk e=>by
   subst e;left;simp only;unfold fM;obtain⟨hx1,hx2,hx3⟩:=h4 _ (getElem_mem hk);have e0:at? a.2.2.2.2.2.2.2.2.2.2.2.2.1 (k:Int)=some (x8 a)[k]:=xo hk
   have et:(x8 a).take (k+1)=(x8 a).take k++[(x8 a)[k]]:=by rw[take_add_one,List.getElem?_eq_getElem hk];rfl
   rw[xI (show (k:Int)<(a.2.2.2.2.2.2.2.2.2.2.2.2.1.length:Int) by show (k:Int)<((x8 a).length:Int);omega),cT,e0,wX,et];generalize (x8 a)[k]=x at hx1 hx2 hx3;have e1:fL (x.2.2.2.1,x.2.2.2.2.1,x.2.2.2.2.2.1,x.2.2.2.2.2.2.1,x.2.2.2.2.2.2.2.1)=some (jP x):=TL hx2
   have e2:af (x.2.2.2.2.2.2.2.2.1,x.2.2.2.2.2.2.2.2.2.1,x.2.2.2.2.2.2.2.2.2.2.1,x.2.2.2.2.2.2.2.2.2.2.2.1,x.2.2.2.2.2.2.2.2.2.2.2.2.1,x.2.2.2.2.2.2.2.2.2.2.2.2.2.1,x.2.2.2.2.2.2.2.2.2.2.2.2.2.2.1,x.2.2.2.2.2.2.2.2.2.2.2.2.2.2.2.1,x.2.2.2.2.2.2.2.2.2.2.2.2.2.2.2.2.1,x.2.2.2.2.2.2.2.2.2.2.2.2.2.2.2.2.2.1,x.2.2.2.2.2.2.2.2.2.2.2.2.2.2.2.2.2.2.1)=some (jB x):=yW hx3;rw[Ae hx1,wX,e1,wX,e2,wX,xh (by rw[length_take];show _+1<=_;omega),wX,xj (by omega)];exact⟨_,rfl,rfl⟩)
  (λz e=>by
   subst e;simp only;unfold fM;rw[xu (show ¬((x8 a).length:Int)<(a.2.2.2.2.2.2.2.2.2.2.2.2.1.length:Int) by show ¬((x8 a).length:Int)<((x8 a).length:Int);omega),cF,take_length];exact⟨_,rfl,rfl⟩) (x:=(0,a.1,a.2.1,a.2.2.2.2.2.2.1,a.2.2.2.2.2.2.2.1,a.2.2.2.2.2.2.2.2.1,a.2.2.2.2.2.2.2.2.2.1,a.2.2.2.2.2.2.2.2.2.2.1,a.2.2.2.2.2.2.2.2.2.2.2.1,a.2.2.2.2.2.2.2.2.2.2.2.2.2.1,a.2.2.2.2.2.2.2.2.2.2.2.2.2.2,[])) rfl
 have d1':loop (λz:Int×Int×List UInt8×Int×Int×Int×Int×Int×List UInt8×Int×Int×List xH=>fM a z.1 z.2.1 z.2.2.1 z.2.2.2.1 z.2.2.2.2.1 z.2.2.2.2.2.1 z.2.2.2.2.2.2.1 z.2.2.2.2.2.2.2.1 z.2.2.2.2.2.2.2.2.1 z.2.2.2.2.2.2.2.2.2.1 z.2.2.2.2.2.2.2.2.2.2.1 z.2.2.2.2.2.2.2.2.2.2.2) (0,(aB a).1,(aB a).2.1,(aB a).2.2.2.2.2.2.1,(aB a).2.2.2.2.2.2.2.1,(aB a).2.2.2.2.2.2.2.2.1,(aB a).2.2.2.2.2.2.2.2.2.1,(aB a).2.2.2.2.2.2.2.2.2.2,a.2.2.2.2.2.2.2.2.2.2.2.1,a.2.2.2.2.2.2.2.2.2.2.2.2.2.1,a.2.2.2.2.2.2.2.2.2.2.2.2.2.2,[])=_:=d1;rw[d1'];rfl

def zn (l:List xq) (id:Int):Int:=match l.findIdx? (λr=>r.1==id)with|some k=>(k:Int)|none=>-1
theorem ED {v:yl} (hn:v.1.length<9223372036854775807) (id:Int):ai v id=some (zn v.1 id):=by
 unfold ai zn;obtain⟨b,h1,rfl⟩:=xG (β:=Unit⊕Int) (step:=λz=>bf v id z) (λk i=>i=(k:Int)/\∀j (hj:j<k),∀(hl:j<v.1.length),¬((v.1[j].1==id)=true)) v.1.length (λb=>b=match v.1.findIdx? (λr=>r.1==id)with|some k=>.inr (k:Int)|none=>.inl ())
  (λk i hk ⟨h,hy⟩=>by
   subst h;unfold bf;rw[xI (by omega),cT,xo hk,wX];cases hb:(v.1[k].1==id)with
   | true =>
    refine .inr ⟨_,rfl,?_⟩;rw[List.findIdx?_eq_some_iff_getElem.2 ⟨hk,hb,λj hj=>hy j hj (by omega)⟩]
   | false =>
    refine .inl ⟨_,rfl,xj (by omega),λj hj hl=>?_⟩;by_cases hjk:j=k
    · subst hjk;rw[hb];simp
    · exact hy j (by omega) hl)
  (λi ⟨h,hy⟩=>by
   subst h;refine⟨.inl (),by unfold bf;rw[xu (by omega),cF],?_⟩;rw[List.findIdx?_eq_none_iff.2 λx hx=>by
    obtain⟨j,hj,rfl⟩:=getElem_of_mem hx;have:=hy j hj hj
    simpa using this]) (x:=0) ⟨rfl,λj hj=>by omega⟩
 rw[h1,wX];cases v.1.findIdx? (λr=>r.1==id)<;>rfl
theorem Vv {v:yl} (hn:v.1.length<9223372036854775807) (id:Int):aP v id=some (zn v.1 id):=ED hn id
theorem E0 {l:List xq} {id:Int} (h:0<=zn l id):∃k,∃hk:k<l.length,zn l id=(k:Int)/\l[k].1=id:=by
 unfold zn at h ⊢;cases hf:l.findIdx? (λr=>r.1==id)with
 | none=>rw[hf]at h;simp at h
 | some k =>
  obtain⟨hk,h1,_⟩:=List.findIdx?_eq_some_iff_getElem.1 hf;exact⟨k,hk,rfl,by simpa using h1⟩
theorem Rf {l:List xq} {id:Int} (h:zn l id<0):∀x∈l,x.1≠id:=by
 unfold zn at h;cases hf:l.findIdx? (λr=>r.1==id)with
 | some k=>rw[hf]at h;simp at h;omega
 | none =>
  intro x hx;have:=List.findIdx?_eq_none_iff.1 hf x hx
  simpa using this
def Fb (l:List xa) (tag mac:Int):Int:=match l.findIdx? (λe=>e.1==tag&&e.2.1==mac)with|some k=>(k:Int)|none=>-1
theorem G0 {l:List xa} (hn:l.length<9223372036854775807) (tag mac:Int):cz l tag mac=some (Fb l tag mac):=by
 unfold cz Fb;obtain⟨b,h1,rfl⟩:=xG (β:=Unit⊕Int) (step:=λz=>cw l tag mac z) (λk i=>i=(k:Int)/\∀j (hj:j<k),∀(hl:j<l.length),¬((l[j].1==tag&&l[j].2.1==mac)=true)) l.length (λb=>b=match l.findIdx? (λe=>e.1==tag&&e.2.1==mac)with|some k=>.inr (k:Int)|none=>.inl ())
  (λk i hk ⟨h,hy⟩=>by
   subst h;have hs:cw l tag mac (k:Int)=cond (l[k].1==tag&&l[k].2.1==mac) (some (.inr (.inr (k:Int)))) (some (.inl ((k+1:Nat):Int))):=by
    unfold cw;simp only[xI (show (k:Int)<(l.length:Int) by omega),cT,xo hk,wX,xj (show k<9223372036854775807 by omega)];cases l[k].1==tag<;>rfl
   show (∃y,cw l tag mac (k:Int)=some (.inl y)/\_)\/∃b,cw l tag mac (k:Int)=some (.inr b)/\_;rw[hs];cases hb:(l[k].1==tag&&l[k].2.1==mac)with
   | true =>
    refine .inr ⟨_,rfl,?_⟩;rw[List.findIdx?_eq_some_iff_getElem.2 ⟨hk,hb,λj hj=>hy j hj (by omega)⟩]
   | false =>
    refine .inl ⟨_,rfl,rfl,λj hj hl=>?_⟩;by_cases hjk:j=k
    · subst hjk;rw[hb];simp
    · exact hy j (by omega) hl)
  (λi ⟨h,hy⟩=>by
   subst h;refine⟨.inl (),by unfold cw;rw[xu (by omega),cF],?_⟩;rw[List.findIdx?_eq_none_iff.2 λx hx=>by
    obtain⟨j,hj,rfl⟩:=getElem_of_mem hx;have:=hy j hj hj
    simpa using this]) (x:=0) ⟨rfl,λj hj=>by omega⟩
 rw[h1,wX];cases l.findIdx? (λe=>e.1==tag&&e.2.1==mac)<;>rfl
theorem Mh {l:List xa} (hn:l.length<9223372036854775807) (tag mac:Int):eh l tag mac=some (Fb l tag mac):=by
 unfold eh Fb;obtain⟨b,h1,rfl⟩:=xG (β:=Unit⊕Int) (step:=λz=>cQ l tag mac z) (λk i=>i=(k:Int)/\∀j (hj:j<k),∀(hl:j<l.length),¬((l[j].1==tag&&l[j].2.1==mac)=true)) l.length (λb=>b=match l.findIdx? (λe=>e.1==tag&&e.2.1==mac)with|some k=>.inr (k:Int)|none=>.inl ())
  (λk i hk ⟨h,hy⟩=>by
   subst h;have hs:cQ l tag mac (k:Int)=cond (l[k].1==tag&&l[k].2.1==mac) (some (.inr (.inr (k:Int)))) (some (.inl ((k+1:Nat):Int))):=by
    unfold cQ;simp only[xI (show (k:Int)<(l.length:Int) by omega),cT,xo hk,wX,xj (show k<9223372036854775807 by omega)];cases l[k].1==tag<;>rfl
   show (∃y,cQ l tag mac (k:Int)=some (.inl y)/\_)\/∃b,cQ l tag mac (k:Int)=some (.inr b)/\_;rw[hs];cases hb:(l[k].1==tag&&l[k].2.1==mac)with
   | true =>
    refine .inr ⟨_,rfl,?_⟩;rw[List.findIdx?_eq_some_iff_getElem.2 ⟨hk,hb,λj hj=>hy j hj (by omega)⟩]
   | false =>
    refine .inl ⟨_,rfl,rfl,λj hj hl=>?_⟩;by_cases hjk:j=k
    · subst hjk;rw[hb];simp
    · exact hy j (by omega) hl)
  (λi ⟨h,hy⟩=>by
   subst h;refine⟨.inl (),by unfold cQ;rw[xu (by omega),cF],?_⟩;rw[List.findIdx?_eq_none_iff.2 λx hx=>by
    obtain⟨j,hj,rfl⟩:=getElem_of_mem hx;have:=hy j hj hj
    simpa using this]) (x:=0) ⟨rfl,λj hj=>by omega⟩
 rw[h1,wX];cases l.findIdx? (λe=>e.1==tag&&e.2.1==mac)<;>rfl

def zE (o:List Int) (lo hi:Int) (head:List Int):Bool:=(o.length==head.length+4)&&((o.take (head.length+3)==[1,3,1]++head)&&(match o[head.length+3]? with|some x=>xe x lo hi|none=>false))
theorem Ib {o:List Int} (lo hi:Int) {head:List Int} (ho:o.length<=M) (hh:head.length<=100):aM o lo hi head=some (zE o lo hi head):=by
 have ho':o.length<=1048576:=ho;have hw:wZ ((head.length:Int)+4)=((head.length+4:Nat):Int):=by rw[xN (by omega) (by omega)];omega
 unfold aM zE;rw[hw];by_cases hl:o.length=head.length+4
 · have hw2:wZ ((o.length:Int)-1)=((head.length+3:Nat):Int):=by rw[xN (by omega) (by omega)];omega
   have hc:cut o 0 ((head.length+3:Nat):Int)=some (o.take (head.length+3)):=by
    rw[show (0:Int)=((0:Nat):Int)from rfl,As (Nat.zero_le _) (by omega),drop_zero]
   have hlt:head.length+3<o.length:=by omega
   rw[show ((o.length:Int)==((head.length+4:Nat):Int))=true from beq_iff_eq.2 (by omega),cT,hw2,hc,wX,xh (by show 3+head.length<=_;omega),wX,GL (by rw[length_append];show 3+head.length<_;omega),wX,xo hlt,wX,Ad,wX,List.getElem?_eq_getElem hlt];rw[show (o.length==head.length+4)=true from beq_iff_eq.2 hl];cases (o.take (head.length+3)==[1,3,1]++head)<;>rfl
 · rw[show ((o.length:Int)==((head.length+4:Nat):Int))=false from beq_eq_false_iff_ne.2 (by omega),cF,show (o.length==head.length+4)=false from beq_eq_false_iff_ne.2 hl];rfl
abbrev Af (b:wY):Int:=(b.2.2.1.length:Int)
abbrev Bu (b:wY):List xq:=b.2.2.2.2.1
def Rg (b:wY) (o:List Int):Bool:=zE o 1 1 [1]||(zE o 1 (Af b) [2,2]||(zE o 1 (Af b) [2,4]||(zE o 1 99 [3,1]||((zE o 1 99 [3,2]||zE o 1 99 [3,3])&&(match o[5]? with|some x=>decide (zn (Bu b) x>=0)|none=>false)))))
theorem ON {o:List Int} {lo hi:Int} {head:List Int} (h:zE o lo hi head=true):o.length=head.length+4:=by
 unfold zE at h;simp only[aT,beq_iff_eq]at h;exact h.1
theorem Z5 {b:wY} (hb:Ar M b) {o:List Int} (ho:o.length<=M):gB b o=some (Rg b o):=by
 have hr:b.2.2.2.2.1.length<9223372036854775807:=by have:b.2.2.2.2.1.length<=1048576:=hb.2.2.2.1;omega
 unfold gB Rg;rw[Ib 1 1 ho (by decide),Ib 1 _ ho (by decide),Ib 1 _ ho (by decide),Ib 1 99 ho (by decide),Ib 1 99 ho (by decide),Ib 1 99 ho (by decide)];simp only[wX];cases zE o 1 1 [1]with
 | true=>rfl
 | false =>
 cases zE o 1 (Af b) [2,2]with
 | true=>rfl
 | false =>
 cases zE o 1 (Af b) [2,4]with
 | true=>rfl
 | false =>
 cases zE o 1 99 [3,1]with
 | true=>rfl
 | false =>
 have key:o.length=6->((at? o 5).bind λx41=>(ai (b.2.2.2.2.1,b.2.2.2.2.2.1) x41).bind λt43=>some (decide (t43>=0)))=some (match o[5]? with|some x=>decide (zn (Bu b) x>=0)|none=>false):=by
  intro h6;have h5:5<o.length:=by omega
  rw[show (5:Int)=((5:Nat):Int)from rfl,xo h5,wX,ED hr,wX,List.getElem?_eq_getElem h5]
 cases h2:zE o 1 99 [3,2]with
 | true =>
  simp only[cF,cT,wX,Bool.false_or,Bool.true_or,Bool.true_and];rw[key (ON h2)];rfl
 | false =>
  cases h3:zE o 1 99 [3,3]with
  | true =>
   simp only[cF,cT,wX,Bool.false_or,Bool.or_true,Bool.true_and];rw[key (ON h3)];rfl
  | false=>rfl
def Nd (b:wY) (o:List Int):Bool:=zE o 2 5 [1]||(zE o 1 (Af b) [2,1]||(zE o 1 (Af b) [2,3]||(((o.length==7)&&(o.take 5==[1,3,1,4,1]))&&(match o[5]?,o[6]? with|some x,some y=>decide (Fb b.2.2.2.1 x y>=0)|_,_=>false))))
theorem Yp {b:wY} (hb:Ar M b) {o:List Int} (ho:o.length<=M):gE b o=some (Nd b o):=by
 have hr:b.2.2.2.1.length<9223372036854775807:=by have:b.2.2.2.1.length<=1048576:=hb.2.2.1;omega
 unfold gE Nd;rw[Ib 2 5 ho (by decide),Ib 1 _ ho (by decide),Ib 1 _ ho (by decide)];simp only[wX];cases zE o 2 5 [1]with
 | true=>rfl
 | false =>
 cases zE o 1 (Af b) [2,1]with
 | true=>rfl
 | false =>
 cases zE o 1 (Af b) [2,3]with
 | true=>rfl
 | false =>
 by_cases h7:o.length=7
 · have h5:5<o.length:=by omega
   have h6:6<o.length:=by omega
   have hc:cut o 0 5=some (o.take 5):=by
    rw[show (0:Int)=((0:Nat):Int)from rfl,show (5:Int)=((5:Nat):Int)from rfl,As (Nat.zero_le _) (by omega),drop_zero]
   rw[show ((o.length:Int)==7)=true from beq_iff_eq.2 (by omega),show (o.length==7)=true from beq_iff_eq.2 h7];simp only[cF,cT,wX,hc,GL (show ([1,3,1,4,1]:List Int).length<9223372036854775807 by decide),Bool.false_or,Bool.true_and];cases (o.take 5==[1,3,1,4,1])with
   | false=>rfl
   | true =>
    rw[show (5:Int)=((5:Nat):Int)from rfl,show (6:Int)=((6:Nat):Int)from rfl];simp only[cT,xo h5,xo h6,wX,G0 hr,List.getElem?_eq_getElem h5,List.getElem?_eq_getElem h6,Bool.true_and]
 · rw[show ((o.length:Int)==7)=false from beq_eq_false_iff_ne.2 (by omega),show (o.length==7)=false from beq_eq_false_iff_ne.2 h7];rfl

def Eg (o:List Int):Bool:=decide (o.length>3)&&(o.take 3==[1,3,1])
theorem Xa {o:List Int} (ho:o.length<=M):fZ o=some (cond (Eg o) (o.drop 3,true) ([],false)):=by
 have ho':o.length<=1048576:=ho;unfold fZ jT Eg;by_cases h:o.length>3
 · have hc:cut o 0 ((([1,3,1]:List Int).length:Nat):Int)=some (o.take 3):=by
    rw[show (0:Int)=((0:Nat):Int)from rfl,As (Nat.zero_le _) (by show 3<=_;omega),drop_zero];rfl
   have hc2:cut o 3 (o.length:Int)=some (o.drop 3):=by
    rw[show (3:Int)=((3:Nat):Int)from rfl,As (by omega) (Nat.le_refl _),take_length]
   have hs:cP (o.take 3) [1,3,1]=some (o.take 3==[1,3,1]):=GL (a:=o.take 3) (b:=[1,3,1]) (by decide);rw[dT (show (o.length:Int)>(([1,3,1]:List Int).length:Int) by show (o.length:Int)>3;omega),cT,hc,wX,hs,dT h];simp only[wX,Bool.true_and];cases (o.take 3==[1,3,1])with
   | false=>rfl
   | true=>simp only[Bool.not_true,cF,cT,hc2,wX]
 · rw[dF (show ¬(o.length:Int)>(([1,3,1]:List Int).length:Int) by show ¬(o.length:Int)>3;omega),dF h];rfl
def Kt (b:wY) (o:List Int):Bool:=Eg o&&(match o.drop 3 with
 | [a,c]=>a==1&&c==1
 | [a,c,p]=>(a==2&&((c==2||c==4)&&xe p 1 (Af b)))||(a==3&&((c==1&&xe p 1 99)||((c==2||c==3)&&decide (zn (Bu b) p>=0))))
 | _=>false)
theorem Z6 {b:wY} (hb:Ar M b) {o:List Int} (ho:o.length<=M):iF b o=some (Kt b o):=by
 have hr:b.2.2.2.2.1.length<9223372036854775807:=by have:b.2.2.2.2.1.length<=1048576:=hb.2.2.2.1;omega
 unfold iF Kt;rw[Xa ho,wX];cases Eg o with
 | false=>rfl
 | true =>
  simp only[cT,Bool.not_true,cF,Bool.true_and]
  match o.drop 3 with
  | []=>rfl
  | [a]=>rfl
  | [a,c] =>
   rw[show (([a,c].length:Int)==2)=true from rfl,cT,show at? [a,c] 0=some a from rfl,show at? [a,c] 1=some c from rfl];simp only[wX];cases a==1<;>rfl
  | [a,c,p] =>
   rw[show (([a,c,p].length:Int)==2)=false from rfl,cF,show (([a,c,p].length:Int) != 3)=false from rfl,cF,show at? [a,c,p] 0=some a from rfl,show at? [a,c,p] 1=some c from rfl,show at? [a,c,p] 2=some p from rfl];simp only[wX,CX,Vv (v:=(b.2.2.2.2.1,b.2.2.2.2.2.1)) hr];by_cases h2:a=2
   · subst h2;cases c==2<;>cases c==4<;>simp
   · by_cases h3:a=3
     · subst h3;cases c==1<;>cases c==2<;>cases c==3<;>cases xe p 1 99<;>simp
     · rw[show (a==2)=false from beq_eq_false_iff_ne.2 h2,show (a==3)=false from beq_eq_false_iff_ne.2 h3];rfl
  | a::c::p::q::l =>
   simp only[length_cons];rw[show ((((l.length+1+1+1+1:Nat):Int))==2)=false from beq_eq_false_iff_ne.2 (by omega),show ((((l.length+1+1+1+1:Nat):Int)) != 3)=true from bne_iff_ne.2 (by omega)];rfl
def LJ (b:wY) (o:List Int):Bool:=Eg o&&(match o.drop 3 with
 | [a,c]=>a==1&&xe c 2 5
 | [a,c,p]=>a==2&&((c==1||c==3)&&xe p 1 (Af b))
 | [a,c,p,q]=>(a==4&&c==1)&&decide (Fb b.2.2.2.1 p q>=0)
 | _=>false)
theorem Yq {b:wY} (hb:Ar M b) {o:List Int} (ho:o.length<=M):iG b o=some (LJ b o):=by
 have hr:b.2.2.2.1.length<9223372036854775807:=by have:b.2.2.2.1.length<=1048576:=hb.2.2.1;omega
 unfold iG LJ;rw[Xa ho,wX];cases Eg o with
 | false=>rfl
 | true =>
  simp only[cT,Bool.not_true,cF,Bool.true_and]
  match o.drop 3 with
  | []=>rfl
  | [a]=>rfl
  | [a,c] =>
   rw[show (([a,c].length:Int)==2)=true from rfl,cT,show at? [a,c] 0=some a from rfl,show at? [a,c] 1=some c from rfl];simp only[wX,CX];cases a==1<;>rfl
  | [a,c,p] =>
   rw[show (([a,c,p].length:Int)==2)=false from rfl,cF,show (([a,c,p].length:Int)==3)=true from rfl,cT,show at? [a,c,p] 0=some a from rfl,show at? [a,c,p] 1=some c from rfl,show at? [a,c,p] 2=some p from rfl];simp only[wX,CX];cases a==2<;>cases c==1<;>cases c==3<;>simp
  | [a,c,p,q] =>
   rw[show (([a,c,p,q].length:Int)==2)=false from rfl,cF,show (([a,c,p,q].length:Int)==3)=false from rfl,cF,show (([a,c,p,q].length:Int)==4)=true from rfl,cT,show at? [a,c,p,q] 0=some a from rfl,show at? [a,c,p,q] 1=some c from rfl,show at? [a,c,p,q] 2=some p from rfl,show at? [a,c,p,q] 3=some q from rfl];simp only[wX,Mh hr];cases a==4<;>cases c==1<;>simp
  | a::c::p::q::r::l =>
   simp only[length_cons];rw[show ((((l.length+1+1+1+1+1:Nat):Int))==2)=false from beq_eq_false_iff_ne.2 (by omega),show ((((l.length+1+1+1+1+1:Nat):Int))==3)=false from beq_eq_false_iff_ne.2 (by omega),show ((((l.length+1+1+1+1+1:Nat):Int))==4)=false from beq_eq_false_iff_ne.2 (by omega)];rfl

structure B6 (b:wY):Prop where
 id:xe b.1 1 99=true
 name:b.2.1.length<=10
 n1:1<=b.2.2.1.length
 n6:b.2.2.1.length<=6
 p:∀x∈b.2.2.1,Cr x=true
 f:CF b.2.2.2.1=true
 c:zI b=true
 q:b.2.2.2.2.2.1.length=b.2.2.1.length
 v:b.2.2.2.2.1.length<=6
 s:b.2.2.2.2.1.Pairwise λr s=>r.1<s.1
 i:∀r∈b.2.2.2.2.1,xe r.1 1 99=true
 h:∀r∈b.2.2.2.2.1,-9223372036854775808<=r.2.2/\r.2.2<=9223372036854775807
theorem B6.f12 {b:wY} (h:B6 b):b.2.2.2.1.length<=12:=by
 have hf:=h.f;unfold CF at hf;simp only[aT,decide_eq_true_eq]at hf;omega
theorem B6.le {b:wY} (h:B6 b):Ar M b:=by
 have h1:=h.name;have h2:=h.n6;have h3:=h.f12;have h4:=h.v;have h5:=h.q
 have hM:M=1048576:=rfl;exact⟨by omega,by omega,by omega,by omega,by omega⟩
theorem y9.sok {b:wY} (h:y9 b):B6 b:=by
 obtain⟨v1,v2,v3,v4⟩:=h.vt.len;refine⟨h.id,h.name,h.n1,h.n6,h.p,h.f,h.c,v3,v4,MV h,λr hr=>?_,h.w.r⟩;obtain⟨k,hk,rfl⟩:=getElem_of_mem hr;have hv:=h.v
 unfold AJ at hv;simp only[aT,Bool.not_eq_true']at hv;have hx:=any_eq_false.1 hv.2.1 k (mem_range.2 hk)
 unfold EI at hx;simp only[List.getElem?_eq_getElem hk]at hx;cases hq:xe b.2.2.2.2.1[k].1 1 99 with
 | true=>rfl
 | false=>rw[hq]at hx;simp at hx
theorem Ci {o:List Int} (h:o.length<=2):(∀lo hi head,zE o lo hi head=false)/\Eg o=false:=by
 refine⟨λlo hi head=>?_,?_⟩
 · unfold zE;rw[beq_eq_false_iff_ne.2 (by omega),Bool.false_and]
 · unfold Eg;rw[dF (by omega),Bool.false_and]
theorem Rh {x y z:Int} {t:List Int} (h:¬(x=1/\y=3/\z=1)):(∀lo hi head,zE (x::y::z::t) lo hi head=false)/\Eg (x::y::z::t)=false:=by
 refine⟨λlo hi head=>?_,?_⟩
 · unfold zE;have:((x::y::z::t).take (head.length+3)==[1,3,1]++head)=false:=by
    rw[bF];intro e;rw[take_succ_cons,take_succ_cons,take_succ_cons]at e;simp at e;exact h ⟨e.1,e.2.1,e.2.2.1⟩
   rw[this,Bool.false_and,Bool.and_false]
 · unfold Eg;have:((x::y::z::t).take 3==[1,3,1])=false:=by
    rw[bF];intro e;simp at e;exact h e
   rw[this,Bool.and_false]
theorem Xb (t:List Int) (lo hi c:Int):zE (1::3::1::t) lo hi [c]=match t with | [a,x]=>a==c&&xe x lo hi|_=>false:=by
 match t with
 | []=>simp[zE]
 | [a]=>simp[zE]
 | [a,x]=>simp[zE]
 | a::x::y::t=>simp[zE]
theorem Xc (t:List Int) (lo hi c d:Int):zE (1::3::1::t) lo hi [c,d]=match t with | [a,b,x]=>(a==c&&b==d)&&xe x lo hi|_=>false:=by
 match t with
 | []=>simp[zE]
 | [a]=>simp[zE]
 | [a,x]=>simp[zE]
 | [a,b,x]=>simp[zE]
 | a::b::x::y::t=>simp[zE]
theorem Xd (t:List Int):Eg (1::3::1::t)=decide (0<t.length):=by
 unfold Eg;rw[show ((1::3::1::t).take 3==[1,3,1])=true from rfl,Bool.and_true];simp
theorem Yz (c:Int):xe c 1 1=(c==1):=by
 unfold xe;by_cases h:c=1
 · subst h;rfl
 · rw[beq_eq_false_iff_ne.2 h];simp only[Bool.and_eq_false_iff,decide_eq_false_iff_not];omega
theorem Vw {b:wY} (h:B6 b) (o:List Int):Rg b o=Kt b o:=by
 unfold Rg Kt
 match o with
 | []=>simp only[(Ci (o:=[]) (by simp)).1,(Ci (o:=[]) (by simp)).2];rfl
 | [x]=>simp only[(Ci (o:=[x]) (by simp)).1,(Ci (o:=[x]) (by simp)).2];rfl
 | [x,y]=>simp only[(Ci (o:=[x,y]) (by simp)).1,(Ci (o:=[x,y]) (by simp)).2];rfl
 | x::y::z::t =>
  by_cases h3:x=1/\y=3/\z=1
  · obtain⟨rfl,rfl,rfl⟩:=h3;simp only[Xb,Xc,Xd,Yz]
    match t with
    | []=>rfl
    | [a]=>simp
    | [a,c]=>simp
    | [a,c,p] =>
     have hp:decide (zn (Bu b) p>=0)=true->xe p 1 99=true:=by
      intro e;obtain⟨k,hk,_,e2⟩:=E0 (of_decide_eq_true e);rw[←e2];exact h.i _ (getElem_mem hk)
     have e5:(1::3::1::[a,c,p])[5]?=some p:=rfl;rw[e5];rw[show decide (0<[a,c,p].length)=true from rfl,Bool.true_and];show (((false:Bool)||((((a==2)&&(c==2))&&xe p 1 (Af b))||((((a==2)&&(c==4))&&xe p 1 (Af b))||((((a==3)&&(c==1))&&xe p 1 99)||(((((a==3)&&(c==2))&&xe p 1 99)||(((a==3)&&(c==3))&&xe p 1 99))&&decide (zn (Bu b) p>=0)))))))=((a==2)&&(((c==2)||(c==4))&&xe p 1 (Af b))||(a==3)&&((c==1)&&xe p 1 99||((c==2)||(c==3))&&decide (zn (Bu b) p>=0)))
     revert hp
     generalize (a==2)=a2;generalize (a==3)=a3;generalize (c==1)=c1;generalize (c==2)=c2;generalize (c==3)=c3;generalize (c==4)=c4;generalize xe p 1 (Af b)=pn;generalize xe p 1 99=pg;generalize decide (zn (Bu b) p>=0)=R;clear e5
     revert a2 a3 c1 c2 c3 c4 pn pg R
     decide
    | a::c::p::q::l=>simp
  · simp only[(Rh (t:=t) h3).1,(Rh (t:=t) h3).2];rfl
theorem SM {b:wY} (h:B6 b) (o:List Int):Nd b o=LJ b o:=by
 unfold Nd LJ
 match o with
 | []=>simp only[(Ci (o:=[]) (by simp)).1,(Ci (o:=[]) (by simp)).2];rfl
 | [x]=>simp only[(Ci (o:=[x]) (by simp)).1,(Ci (o:=[x]) (by simp)).2];rfl
 | [x,y]=>simp only[(Ci (o:=[x,y]) (by simp)).1,(Ci (o:=[x,y]) (by simp)).2];rfl
 | x::y::z::t =>
  by_cases h3:x=1/\y=3/\z=1
  · obtain⟨rfl,rfl,rfl⟩:=h3;simp only[Xb,Xc,Xd,Yz]
    match t with
    | []=>rfl
    | [a]=>simp
    | [a,c]=>simp
    | [a,c,p] =>
     have e7:((1::3::1::[a,c,p]).length==7)=false:=rfl;rw[e7,Bool.false_and,Bool.false_and,Bool.false_or];show ((a==2&&c==1)&&xe p 1 (Af b)||((a==2&&c==3)&&xe p 1 (Af b)||false))=(true&&(a==2&&((c==1||c==3)&&xe p 1 (Af b))))
     cases (a==2)<;>cases (c==1)<;>cases (c==3)<;>simp
    | [a,c,p,q]=>simp
    | a::c::p::q::r::l=>simp
  · simp only[(Rh (t:=t) h3).1,(Rh (t:=t) h3).2];rw[Bool.false_or,Bool.false_or,Bool.false_or,Bool.false_and];have:((x::y::z::t).take 5==[1,3,1,4,1])=false:=by
     rw[bF];intro e;simp at e;exact h3 ⟨e.1,e.2.1,e.2.2.1⟩
    rw[this,Bool.and_false,Bool.false_and]
def yZ (r:xq):Bool->List xq->List xq
 | false,[]=>[r]
 | true,[]=>[]
 | false,x::t=>if x.1>=r.1 then r::(if x.1 != r.1 then x::yZ r true t else yZ r true t)else x::yZ r false t
 | true,x::t=>if x.1 != r.1 then x::yZ r true t else yZ r true t
theorem GM {r:xq}:∀{l:List xq},(∀x∈l,x.1≠r.1)->yZ r true l=l
 | [],_=>rfl
 | x::t,h=>by
  unfold yZ;rw[if_pos (bne_iff_ne.2 (h x (by simp))),GM λy hy=>h y (mem_cons_of_mem _ hy)]
theorem Ku {r:xq}:∀{l:List xq} {k:Nat} (hk:k<l.length),l.Pairwise (λr s=>r.1<s.1)->l[k].1=r.1->yZ r false l=l.set k r
 | x::t,0,_,hp,e=>by
  have e':x.1=r.1:=e;unfold yZ;rw[if_pos (by omega),if_neg (by simp[e']),GM λy hy=>by have:=(pairwise_cons.1 hp).1 y hy;omega];rfl
 | x::t,k+1,hk,hp,e=>by
  have e':(t[k]'(by simpa using hk)).1=r.1:=e;have:=(pairwise_cons.1 hp).1 _ (getElem_mem (by simpa using hk:k<t.length))
  unfold yZ;rw[if_neg (by omega),Ku (by simpa using hk) (pairwise_cons.1 hp).2 e'];rfl
theorem Q3 {r:xq}:∀{l:List xq} {d:Nat},l.Pairwise (λr s=>r.1<s.1)->(∀x∈l,x.1≠r.1)->(∀x∈l.take d,x.1<=r.1)->(∀x,l[d]?=some x->¬x.1<=r.1)->yZ r false l=l.take d++r::l.drop d
 | [],d,_,_,_,_=>by simp[yZ]
 | x::t,0,hp,hn,_,h2=>by
  have:=h2 x rfl;unfold yZ;rw[if_pos (by omega),if_pos (bne_iff_ne.2 (hn x (by simp))),GM λy hy=>hn y (mem_cons_of_mem _ hy)];rfl
 | x::t,d+1,hp,hn,h1,h2=>by
  have a1:=h1 x (by simp);have a2:=hn x (by simp)
  unfold yZ;rw[if_neg (by omega),Q3 (d:=d) (pairwise_cons.1 hp).2 (λy hy=>hn y (mem_cons_of_mem _ hy)) (λy hy=>h1 y (by rw[take_succ_cons];exact mem_cons_of_mem _ hy)) (λy hy=>h2 y (by simpa using hy))];rfl
theorem Xe {v:yl} (r:xq) (h1:v.1.length<=1000) (h2:v.2.length<=1000):cR v r=some (yZ r false v.1,v.2):=by
 unfold cR;rw[xh (by show 0+v.2.length<=_;omega),wX];obtain⟨b,e1,e2⟩:=xG (β:=Bool×List xq) (step:=λz:Bool×Int×List xq=>iH v r z.1 z.2.1 z.2.2)
  (λk z=>z.2.1=(k:Int)/\z.2.2++yZ r z.1 (v.1.drop k)=yZ r false v.1/\z.2.2.length<=2*k) v.1.length
  (λz=>z.2++yZ r z.1 []=yZ r false v.1/\z.2.length<=2000)
  (λk z hk ⟨z1,z2,z3⟩=>by
   obtain⟨dn,i,out⟩:=z;simp only at z1 z2 z3;subst z1;left;have hd:v.1.drop k=v.1[k]::v.1.drop (k+1):=drop_eq_getElem_cons hk
   have hw:wZ ((k:Int)+1)=((k+1:Nat):Int):=xj (by omega);have ha:∀(x:xq),app out [x]=some (out++[x]):=λx=>xh (by show _+1<=_;omega)
   have hb:∀(x y:xq),app (out++[x]) [y]=some (out++[x]++[y]):=λx y=>xh (by simp only[length_append,length_cons,length_nil];omega);rw[hd]at z2;generalize hG:yZ r false v.1=G at z2 ⊢;unfold iH;simp only[xI (show (k:Int)<(v.1.length:Int) by omega),cT,xo hk,wX,ha,hb,hw];cases dn with
   | true =>
    simp only[Bool.not_true,cF,wX];unfold yZ at z2;cases hq:(v.1[k].1 != r.1)with
    | true =>
     rw[hq]at z2;exact⟨_,rfl,rfl,by simpa using z2,by simp;omega⟩
    | false =>
     rw[hq]at z2;exact⟨_,rfl,rfl,by simpa using z2,by simp;omega⟩
   | false =>
    simp only[Bool.not_false,cT,wX];unfold yZ at z2;by_cases hg:v.1[k].1>=r.1
    · rw[if_pos hg]at z2;simp only[dT hg,cT];cases hq:(v.1[k].1 != r.1)with
      | true =>
       rw[hq]at z2;exact⟨_,rfl,rfl,by simpa using z2,by simp;omega⟩
      | false =>
       rw[hq]at z2;exact⟨_,rfl,rfl,by simpa using z2,by simp;omega⟩
    · rw[if_neg hg]at z2;simp only[dF hg,cF,bne_iff_ne.2 (show v.1[k].1≠r.1 by omega),cT];exact⟨_,rfl,rfl,by simpa using z2,by simp;omega⟩)
  (λz ⟨z1,z2,z3⟩=>by
   obtain⟨dn,i,out⟩:=z;simp only at z1 z2 z3;subst z1;rw[List.drop_length]at z2;refine⟨(dn,out),?_,z2,by show out.length<=2000;have:out.length<=2*v.1.length:=z3;omega⟩;unfold iH;rw[xu (by omega),cF]) (x:=(false,0,[])) ⟨rfl,rfl,by simp⟩
 rw[e1,wX];obtain⟨dn,out⟩:=b;simp only at e2 ⊢;cases dn with
 | true =>
  rw[Bool.not_true,cF,←e2.1];simp[yZ]
 | false =>
  rw[Bool.not_false,cT,xh (by show _+1<=_;omega),wX,←e2.1];rfl
theorem TM {v:yl} (r:xq) (h1:v.1.length<=1000) (h2:v.2.length<=1000) (hp:v.1.Pairwise λr s=>r.1<s.1):eK v r=some (yZ r false v.1,v.2):=by
 unfold eK;have hM:M=1048576:=rfl
 rw[Kr ⟨by omega,by omega⟩,wX,ED (by omega),wX];by_cases hr:zn v.1 r.1>=0
 · obtain⟨k,hk,e1,e2⟩:=E0 hr;have hx:ix v.1.length (k:Int)=some k:=by unfold ix;rw[if_pos (by omega),if_pos (by omega),Int.toNat_natCast]
   rw[dT hr,cT,e1,hx,wX,List.getElem?_eq_getElem hk,wX,Ku hk hp e2]
 · rw[dF hr,cF];have hn:=Rf (by omega:zn v.1 r.1<0)
   obtain⟨d,e1,k,hk,rfl,e3,e4⟩:=xG (β:=Int) (step:=λz=>gC v r z)
    (λk z=>z=(k:Int)/\∀x∈v.1.take k,x.1<=r.1) v.1.length
    (λz=>∃k:Nat,k<=v.1.length/\z=(k:Int)/\(∀x∈v.1.take k,x.1<=r.1)/\(∀x,v.1[k]?=some x->¬x.1<=r.1))
    (λk z hk ⟨z1,z2⟩=>by
     subst z1;unfold gC;simp only[xI (show (k:Int)<(v.1.length:Int) by omega),cT,xo hk,wX];by_cases hq:v.1[k].1<=r.1
     · refine .inl ⟨_,by rw[dT hq,cT],xj (by omega),λx hx=>?_⟩;rw[take_add_one,List.getElem?_eq_getElem hk,mem_append]at hx;rcases hx with hx|hx
       · exact z2 x hx
       · simp at hx;subst hx;exact hq
     · refine .inr ⟨_,by rw[dF hq,cF],k,by omega,rfl,z2,λx hx=>?_⟩;rw[List.getElem?_eq_getElem hk]at hx;cases hx;exact hq)
    (λz ⟨z1,z2⟩=>by
     subst z1;refine⟨(v.1.length:Int),?_,v.1.length,Nat.le_refl _,rfl,z2,λx hx=>?_⟩
     · unfold gC;rw[xu (by omega),cF];rfl
     · rw[List.getElem?_eq_none (Nat.le_refl _)]at hx;cases hx) (x:=0) ⟨rfl,by simp⟩
   rw[e1,wX,show (0:Int)=((0:Nat):Int)from rfl,As (Nat.zero_le _) hk,wX,drop_zero];have hl:(v.1.take k).length<=1000:=by rw[length_take];omega
   rw[xh (by simp only[length_nil];omega),wX,List.nil_append,xh (by simp only[length_cons,length_nil];omega),wX,As hk (Nat.le_refl _),wX,take_length,xh (by simp only[length_append,length_cons,length_nil,length_drop];omega),wX,Q3 hp hn e3 e4];simp

def Xf (b:wY) (m s:Option (wY×Int)):Prop:=∃r,m=some r/\s=some r/\B6 r.1/\(r.2≠0->r.1=b)
theorem G3 {n a b:Nat} (h1:a<=b) (h2:b<=n):yX n (a:Int) (b:Int)=some (a,b):=by
 unfold yX;rw[if_pos (by omega),if_pos (by omega),if_pos (by omega)];simp
theorem TN {v:yl} (id:Int) (h1:v.1.length<=1000) (h2:v.2.length<=1000) {k:Nat} (hk:k<v.1.length) (e:zn v.1 id=(k:Int)):eL v id=some (v.1.eraseIdx k,v.2):=by
 unfold eL;have hM:M=1048576:=rfl
 have hw:wZ ((k:Int)+1)=((k+1:Nat):Int):=xj (by omega);rw[Kr ⟨by omega,by omega⟩,wX,ED (by omega),wX,e,dT (by omega),cT,hw,show (0:Int)=((0:Nat):Int)from rfl,As (Nat.zero_le _) (by omega),wX,xh (by simp only[length_nil,length_drop,length_take];omega),wX,As (by omega) (Nat.le_refl _),wX,xh (by simp only[length_append,length_nil,length_drop,length_take];omega),wX,List.eraseIdx_eq_take_drop_succ];simp
theorem Mi {r:xq} {l:List xq} (hs:l.Pairwise λr s=>r.1<s.1) (hi:∀x∈l,xe x.1 1 99=true) (hh:∀x∈l,-9223372036854775808<=x.2.2/\x.2.2<=9223372036854775807)
 (ri:xe r.1 1 99=true) (rh:-9223372036854775808<=r.2.2/\r.2.2<=9223372036854775807) :
 (yZ r false l).Pairwise (λr s=>r.1<s.1)/\(∀x∈yZ r false l,xe x.1 1 99=true)/\(∀x∈yZ r false l,-9223372036854775808<=x.2.2/\x.2.2<=9223372036854775807):=by
 have hm:∀{dn:Bool} {l:List xq},∀x∈yZ r dn l,x=r\/x∈l:=by
  intro dn l
  induction l generalizing dn with
  | nil=>intro x hx;cases dn<;>simp[yZ]at hx;exact .inl hx
  | cons y t ih =>
   intro x hx;cases dn with
   | true =>
    unfold yZ at hx;split at hx
    · rcases mem_cons.1 hx with rfl|hx
      · exact .inr (by simp)
      · rcases ih x hx with e|e
        · exact .inl e
        · exact .inr (mem_cons_of_mem _ e)
    · rcases ih x hx with e|e
      · exact .inl e
      · exact .inr (mem_cons_of_mem _ e)
   | false =>
    unfold yZ at hx;split at hx
    · rcases mem_cons.1 hx with rfl|hx
      · exact .inl rfl
      · split at hx
        · rcases mem_cons.1 hx with rfl|hx
          · exact .inr (by simp)
          · rcases ih x hx with e|e
            · exact .inl e
            · exact .inr (mem_cons_of_mem _ e)
        · rcases ih x hx with e|e
          · exact .inl e
          · exact .inr (mem_cons_of_mem _ e)
    · rcases mem_cons.1 hx with rfl|hx
      · exact .inr (by simp)
      · rcases ih x hx with e|e
        · exact .inl e
        · exact .inr (mem_cons_of_mem _ e)
 have hp:∀{l:List xq},l.Pairwise (λr s=>r.1<s.1)->(yZ r false l).Pairwise (λr s=>r.1<s.1):=by
  intro l
  induction l with
  | nil=>intro _;simp[yZ]
  | cons y t ih =>
   intro h;have h1:=(pairwise_cons.1 h).1
   have h2:=(pairwise_cons.1 h).2;unfold yZ;split
   · next hy =>
     have ht:yZ r true t=t:=GM λz hz=>by have:=h1 z hz;omega
     rw[ht];split
     · next hq =>
       have hq:=bne_iff_ne.1 hq;refine pairwise_cons.2 ⟨λz hz=>?_,h⟩;rcases mem_cons.1 hz with rfl|hz
       · omega
       · have:=h1 z hz;omega
     · next hq =>
       have hq:y.1=r.1:=by simpa using hq
       refine pairwise_cons.2 ⟨λz hz=>?_,h2⟩;have:=h1 z hz;omega
   · next hy =>
     refine pairwise_cons.2 ⟨λz hz=>?_,ih h2⟩;rcases hm z hz with rfl|hz
     · omega
     · exact h1 z hz
 refine⟨hp hs,λx hx=>?_,λx hx=>?_⟩
 · rcases hm x hx with rfl|hx
   · exact ri
   · exact hi x hx
 · rcases hm x hx with rfl|hx
   · exact rh
   · exact hh x hx
theorem TO {r:xq} {dn:Bool} {l:List xq}:(yZ r dn l).length<=l.length+1:=by
 induction l generalizing dn with
 | nil=>cases dn<;>simp[yZ]
 | cons x t ih =>
  have h1:=ih (dn:=true);have h2:=ih (dn:=false)
  have h3:(yZ r true t).length<=t.length:=by
   clear ih h1 h2
   induction t with
   | nil=>simp[yZ]
   | cons y t ih=>unfold yZ;split<;>simp<;>omega
  cases dn<;>unfold yZ<;>split<;>(try split)<;>simp<;>omega
theorem B6.rows {b:wY} (h:B6 b) {R:List xq} (h1:R.length<=6) (h2:R.Pairwise λr s=>r.1<s.1) (h3:∀x∈R,xe x.1 1 99=true) (h4:∀x∈R,-9223372036854775808<=x.2.2/\x.2.2<=9223372036854775807) :
 B6 (b.1,b.2.1,b.2.2.1,b.2.2.2.1,R,b.2.2.2.2.2.1,b.2.2.2.2.2.2.1,b.2.2.2.2.2.2.2.1,b.2.2.2.2.2.2.2.2.1,b.2.2.2.2.2.2.2.2.2.1,b.2.2.2.2.2.2.2.2.2.2) :=
 ⟨h.id,h.name,h.n1,h.n6,h.p,h.f,h.c,h.q,h1,h2,h3,h4⟩
theorem LK {b:wY} (h:B6 b):xe (b.2.2.1.length:Int) 1 6=true:=by
 have h1:=h.n1;have h2:=h.n6
 unfold xe;rw[dT (by omega),dT (by omega)];rfl
theorem Vx {b:wY} (h:B6 b) (c id n:Int) (hc:(c=1/\xe id 1 99=true)\/((c=2\/c=3)/\zn (Bu b) id>=0)):Xf b (gD b c id n) (iI b c id n):=by
 have hv:=h.v;have hq:b.2.2.2.2.2.1.length<=6:=by have:=h.q;have:=h.n6;omega
 have hr:∀(id:Int),ai (b.2.2.2.2.1,b.2.2.2.2.2.1) id=some (zn (Bu b) id):=λid=>ED (v:=(b.2.2.2.2.1,b.2.2.2.2.2.1)) (by show b.2.2.2.2.1.length<_;omega) id;have hrs:∀(id:Int),aP (b.2.2.2.2.1,b.2.2.2.2.2.1) id=some (zn (Bu b) id):=hr
 have hw:∀(r:xq),eK (b.2.2.2.2.1,b.2.2.2.2.2.1) r=some (yZ r false b.2.2.2.2.1,b.2.2.2.2.2.1):=λr=>TM (v:=(b.2.2.2.2.1,b.2.2.2.2.2.1)) r (by show b.2.2.2.2.1.length<=_;omega) (by show b.2.2.2.2.2.1.length<=_;omega) h.s;have hws:∀(r:xq),cR (b.2.2.2.2.1,b.2.2.2.2.2.1) r=some (yZ r false b.2.2.2.2.1,b.2.2.2.2.2.1):=λr=>Xe (v:=(b.2.2.2.2.1,b.2.2.2.2.2.1)) r (by show b.2.2.2.2.1.length<=_;omega) (by show b.2.2.2.2.2.1.length<=_;omega)
 unfold gD iI;rw[hr,wX];by_cases h1:c=1
 · subst h1;have hid:xe id 1 99=true:=by rcases hc with hc|hc;exact hc.2;rcases hc.1 with e|e<;>cases e
   unfold jV;rw[hrs];simp only[show ((1:Int)==1)=true from rfl,cT,wX,hw,hws];by_cases hp:zn (Bu b) id>=0
   · have hp':¬zn (Bu b) id<0:=by omega
     simp only[dT hp,dF hp'];have e4:cond (n==4) (some false) (some false)=some false:=by cases (n==4)<;>rfl
     rw[e4];simp only[wX,cF];cases hn:(n==6)with
     | false =>
      simp only[cF,wX];exact⟨_,rfl,rfl,h,λ_=>rfl⟩
     | true =>
      obtain⟨k,hk,e1,e2⟩:=E0 hp;simp only[cT,wX];have hk':k<b.2.2.2.2.1.length:=hk
      have hw64:wZ (zn (Bu b) id+1)=((k+1:Nat):Int):=by rw[e1];exact xj (by omega)
      have hwo:eL (b.2.2.2.2.1,b.2.2.2.2.2.1) id=some (b.2.2.2.2.1.eraseIdx k,b.2.2.2.2.2.1):=TN (v:=(b.2.2.2.2.1,b.2.2.2.2.2.1)) id (by show b.2.2.2.2.1.length<=_;omega) (by show b.2.2.2.2.2.1.length<=_;omega) hk e1;have hso:(yX b.2.2.2.2.1.length 0 (zn (Bu b) id)).bind (λp=>(app ([]:List xq) ((b.2.2.2.2.1.take p.2).drop p.1)).bind λzs47=>(yX b.2.2.2.2.1.length (wZ (zn (Bu b) id+1)) (b.2.2.2.2.1.length:Int)).bind λp_1=>(app zs47 ((b.2.2.2.2.1.take p_1.2).drop p_1.1)).bind λzs54=>some ((b.1,b.2.1,b.2.2.1,b.2.2.2.1,zs54,b.2.2.2.2.2.1,b.2.2.2.2.2.2.1,b.2.2.2.2.2.2.2.1,b.2.2.2.2.2.2.2.2.1,b.2.2.2.2.2.2.2.2.2.1,b.2.2.2.2.2.2.2.2.2.2),(0:Int)))
       = some ((b.1,b.2.1,b.2.2.1,b.2.2.2.1,b.2.2.2.2.1.eraseIdx k,b.2.2.2.2.2.1,b.2.2.2.2.2.2.1,b.2.2.2.2.2.2.2.1,b.2.2.2.2.2.2.2.2.1,b.2.2.2.2.2.2.2.2.2.1,b.2.2.2.2.2.2.2.2.2.2),0):=by
       rw[hw64,e1,show (0:Int)=((0:Nat):Int)from rfl,G3 (Nat.zero_le _) (by omega),wX,xh (by simp only[length_nil,length_drop,length_take];omega),wX,G3 (by omega) (Nat.le_refl _),wX,xh (by simp only[length_append,length_nil,length_drop,length_take];omega),wX,List.eraseIdx_eq_take_drop_succ];simp
      rw[hwo];refine⟨_,rfl,by rw[hso];rfl,h.rows ?_ ?_ ?_ ?_,λe=>absurd rfl e⟩
      · rw[List.length_eraseIdx];split<;>omega
      · exact h.s.sublist (List.eraseIdx_sublist _ _)
      · exact λx hx=>h.i x (List.mem_of_mem_eraseIdx hx)
      · exact λx hx=>h.h x (List.mem_of_mem_eraseIdx hx)
   · have hp':zn (Bu b) id<0:=by omega
     simp only[dF hp,dT hp'];have e6:cond (n==6) (some false) (some false)=some false:=by cases (n==6)<;>rfl
     rw[e6];cases hn:(n==4)with
     | false =>
      simp only[cF,wX];exact⟨_,rfl,rfl,h,λ_=>rfl⟩
     | true =>
      simp only[cT,wX];by_cases h6:(b.2.2.2.2.1.length:Int)<6
      · simp only[dT h6,cT];obtain⟨g1,g2,g3⟩:=Mi (r:=(id,0,0)) h.s h.i h.h hid ⟨by show (-9223372036854775808:Int)<=0;decide,by show (0:Int)<=9223372036854775807;decide⟩;have:=TO (r:=(id,0,0)) (dn:=false) (l:=b.2.2.2.2.1)
        exact⟨_,rfl,rfl,h.rows (by omega) g1 g2 g3,λe=>absurd rfl e⟩
      · simp only[dF h6,cF,wX];exact⟨_,rfl,rfl,h,λ_=>rfl⟩
 · have h23:c=2\/c=3:=by rcases hc with hc|hc;exact absurd hc.1 h1;exact hc.1
   have hp:zn (Bu b) id>=0:=by rcases hc with hc|hc;exact absurd hc.1 h1;exact hc.2
   obtain⟨k,hk,e1,e2⟩:=E0 hp;have hk':k<b.2.2.2.2.1.length:=hk
   obtain⟨t,q1,q2⟩:=WX (LK h);rw[show (c==1)=false from beq_eq_false_iff_ne.2 h1];simp only[cF,MR (LK h),q1,wX,Ad,CX,q2];cases hn:xe n 0 (Ed (b.2.2.1.length:Int))with
   | false=>exact⟨_,rfl,rfl,h,λ_=>rfl⟩
   | true =>
    have ht:=(R3 (LK h)).2;have hnr:-9223372036854775808<=n/\n<=9223372036854775807:=by
     unfold xe at hn;simp only[aT,decide_eq_true_eq]at hn;omega
    have hx:ix b.2.2.2.2.1.length (k:Int)=some k:=yE hk';rw[hrs];simp only[Bool.not_true,cF,wX,e1,hx,List.getElem?_eq_getElem hk',hws];have hin:∀(r:xq),r.1=b.2.2.2.2.1[k].1->yZ r false b.2.2.2.2.1=b.2.2.2.2.1.set k r:=λr e=>Ku hk' h.s e.symm
    have hki:=h.i _ (getElem_mem hk');have hkh:=h.h _ (getElem_mem hk')
    have hlen:∀(r:xq),r.1=b.2.2.2.2.1[k].1->(yZ r false b.2.2.2.2.1).length<=6:=λr e=>by rw[hin r e,length_set];exact hv
    rcases h23 with rfl|rfl
    · simp only[show ((2:Int)==2)=true from rfl,cT];obtain⟨g1,g2,g3⟩:=Mi (r:=(b.2.2.2.2.1[k].1,n,b.2.2.2.2.1[k].2.2)) h.s h.i h.h hki hkh;refine⟨_,rfl,?_,?_,λe=>absurd rfl e⟩
      · rw[hin (b.2.2.2.2.1[k].1,n,b.2.2.2.2.1[k].2.2) rfl]
      · rw[←hin (b.2.2.2.2.1[k].1,n,b.2.2.2.2.1[k].2.2) rfl];exact h.rows (hlen _ rfl) g1 g2 g3
    · simp only[show ((3:Int)==2)=false from rfl,cF];obtain⟨g1,g2,g3⟩:=Mi (r:=(b.2.2.2.2.1[k].1,b.2.2.2.2.1[k].2.1,n)) h.s h.i h.h hki hnr;refine⟨_,rfl,?_,?_,λe=>absurd rfl e⟩
      · rw[hin (b.2.2.2.2.1[k].1,b.2.2.2.2.1[k].2.1,n) rfl]
      · rw[←hin (b.2.2.2.2.1[k].1,b.2.2.2.2.1[k].2.1,n) rfl];exact h.rows (hlen _ rfl) g1 g2 g3
theorem SN {b:wY} {o:List Int} (h:Kt b o=true):o=[1,3,1,1,1]\/(∃c p,o=[1,3,1,2,c,p]/\(c=2\/c=4)/\xe p 1 (Af b)=true)\/(∃c p,o=[1,3,1,3,c,p]/\((c=1/\xe p 1 99=true)\/((c=2\/c=3)/\zn (Bu b) p>=0))):=by
 unfold Kt at h;rw[aT]at h;obtain⟨h1,h2⟩:=h;unfold Eg at h1;simp only[aT,decide_eq_true_eq,beq_iff_eq]at h1;have ho:o=[1,3,1]++o.drop 3:=by rw[←h1.2,take_append_drop]
 match hd:o.drop 3,h2 with
 | [a,c],h2 =>
  simp only[aT,beq_iff_eq]at h2;rw[hd]at ho;exact .inl (by rw[ho,h2.1,h2.2];rfl)
 | [a,c,p],h2 =>
  rw[hd]at ho;simp only[Bool.or_eq_true,aT,beq_iff_eq,decide_eq_true_eq]at h2;rcases h2 with ⟨rfl,h3,h4⟩|⟨rfl,h3⟩
  · exact .inr (.inl ⟨c,p,ho,h3,h4⟩)
  · exact .inr (.inr ⟨c,p,ho,h3⟩)
theorem Xg {b:wY} {p:Int} (h:xe p 1 (Af b)=true) (hn:b.2.2.1.length<=6):∃k,k<b.2.2.1.length/\wZ (p-1)=(k:Int):=by
 unfold xe Af at h;simp only[aT,decide_eq_true_eq]at h;exact⟨(p-1).toNat,by omega,by rw[xN (by omega) (by omega)];omega⟩
theorem Vy {p:Pt} {n:Int} (hn:xe n 1 1000=true) (h:Cr p=true):Cr (p.1,n,p.2.2.1,p.2.2.2.1,p.2.2.2.2.1,p.2.2.2.2.2.1,p.2.2.2.2.2.2.1,p.2.2.2.2.2.2.2)=true:=by
 unfold Cr at h ⊢;rw[aT]at h ⊢;exact⟨hn,h.2⟩
theorem Xh {b:wY} (h:B6 b) {x:x7} (hx:x.1.length<=M):Xf b (cA b x) (ga b x):=by
 unfold cA ga;rw[Z5 h.le hx,wX,yW h.le,wX,Z6 h.le hx,wX,Vw h];cases hm:Kt b x.1 with
 | false =>
  rw[cF,Bool.not_false,cT,Yp h.le hx,Yq h.le hx,wX,wX,SM h];cases LJ b x.1 with
  | true=>exact⟨_,rfl,rfl,h,λ_=>rfl⟩
  | false=>exact⟨_,rfl,rfl,h,λ_=>rfl⟩
 | true =>
  obtain⟨o,kd,n,w,vo⟩:=x;rw[cT,Bool.not_true,cF];simp only;unfold jg;rcases SN hm with ho|⟨c,p,ho,hc,hp⟩|⟨c,p,ho,hc⟩
  · simp only at ho;subst ho;rw[show at? [1,3,1,1,1] 3=some (1:Int)from rfl,show cut [1,3,1,1,1] 3 (([1,3,1,1,1]:List Int).length:Int)=some ([1,1]:List Int)from rfl];simp only[wX,show at? [1,1] 0=some (1:Int)from rfl,show ((1:Int)==1)=true from rfl,cT,Bool.not_true,cF];cases (kd != 4)with
    | true=>exact⟨_,rfl,rfl,h,λ_=>rfl⟩
    | false =>
     simp only[cF,wX];by_cases hw:(w.length:Int)>10
     · simp only[dT hw,cT];exact⟨_,rfl,rfl,h,λ_=>rfl⟩
     · simp only[dF hw,cF];exact⟨_,rfl,rfl,⟨h.id,by show w.length<=10;omega,h.n1,h.n6,h.p,h.f,h.c,h.q,h.v,h.s,h.i,h.h⟩,λe=>absurd rfl e⟩
  · simp only at ho;subst ho;rw[show at? [1,3,1,2,c,p] 3=some (2:Int)from rfl,show at? [1,3,1,2,c,p] 4=some c from rfl,show at? [1,3,1,2,c,p] 5=some p from rfl,show cut [1,3,1,2,c,p] 3 (([1,3,1,2,c,p]:List Int).length:Int)=some ([2,c,p]:List Int)from rfl];simp only[wX,show at? [2,c,p] 0=some (2:Int)from rfl,show at? [2,c,p] 1=some c from rfl,show at? [2,c,p] 2=some p from rfl,show ((2:Int)==1)=false from rfl,show ((2:Int)==2)=true from rfl,show ((2:Int)==3)=false from rfl,cT,Bool.not_false,cF];cases (kd != 2)with
    | true=>exact⟨_,rfl,rfl,h,λ_=>rfl⟩
    | false =>
     obtain⟨k,hk,ek⟩:=Xg hp h.n6;simp only[cF,wX,ek];unfold jU;have hx1:ix b.2.2.1.length (k:Int)=some k:=yE hk
     have hx2:ix b.2.2.2.2.2.1.length (k:Int)=some k:=yE (by rw[h.q];exact hk);have hk2:k<b.2.2.2.2.2.1.length:=by rw[h.q];exact hk
     simp only[Ad,CX,wX,hx1,hx2,List.getElem?_eq_getElem hk,List.getElem?_eq_getElem hk2];rcases hc with rfl|rfl
     · simp only[show ((2:Int)==2)=true from rfl,cT];cases hn:xe n 1 1000 with
       | false=>exact⟨_,rfl,rfl,h,λ_=>rfl⟩
       | true =>
        exact⟨_,rfl,rfl,⟨h.id,h.name,by simp only[length_set];exact h.n1,by simp only[length_set];exact h.n6,λy hy=>by
         rcases List.mem_or_eq_of_mem_set hy with e|rfl
         · exact h.p y e
         · exact Vy hn (h.p _ (getElem_mem hk)),h.f,h.c,by simp only[length_set];exact h.q,h.v,h.s,h.i,h.h⟩,λe=>absurd rfl e⟩
     · simp only[show ((4:Int)==2)=false from rfl,cF];exact⟨_,rfl,rfl,⟨h.id,h.name,h.n1,h.n6,h.p,h.f,h.c,by simp only[length_set];exact h.q,h.v,h.s,h.i,h.h⟩,λe=>absurd rfl e⟩
  · simp only at ho;subst ho;rw[show at? [1,3,1,3,c,p] 3=some (3:Int)from rfl,show at? [1,3,1,3,c,p] 4=some c from rfl,show at? [1,3,1,3,c,p] 5=some p from rfl,show cut [1,3,1,3,c,p] 3 (([1,3,1,3,c,p]:List Int).length:Int)=some ([3,c,p]:List Int)from rfl];simp only[wX,show at? [3,c,p] 0=some (3:Int)from rfl,show at? [3,c,p] 1=some c from rfl,show at? [3,c,p] 2=some p from rfl,show ((3:Int)==1)=false from rfl,show ((3:Int)==2)=false from rfl,show ((3:Int)==3)=true from rfl,cT,Bool.not_false,cF];cases (kd != 2)with
    | true=>exact⟨_,rfl,rfl,h,λ_=>rfl⟩
    | false =>
     simp only[cF,wX];obtain⟨r,r1,r2,r3,r4⟩:=Vx h c p n hc;exact⟨r,by rw[r1];rfl,by rw[r2];rfl,r3,r4⟩

theorem Kv {α β:Type} {step t:α->Option (α⊕β)} (xR:Nat->α->Prop) (m:Nat) (R:β->Prop)
 (h:∀k x,k<m->xR k x->(∃y,step x=some (.inl y)/\t x=some (.inl y)/\xR (k+1) y)\/∃b,step x=some (.inr b)/\t x=some (.inr b)/\R b)
 (he:∀x,xR m x->∃b,step x=some (.inr b)/\t x=some (.inr b)/\R b) {x:α} (h0:xR 0 x):∃b,loop step x=some b/\loop t x=some b/\R b:=by
 have key:∀n k x,k+n=m->xR k x->∃b,zY step (n+1) x=some b/\zY t (n+1) x=some b/\R b:=by
  intro n
  induction n with
  | zero =>
   intro k x hk hx;obtain rfl:k=m:=by omega
   obtain⟨b,h1,h3,h2⟩:=he x hx;exact⟨b,by rw[yh,h1];rfl,by rw[yh,h3];rfl,h2⟩
  | succ n ih =>
   intro k x hk hx;rcases h k x (by omega) hx with ⟨y,h1,h5,h2⟩|⟨b,h1,h5,h2⟩
   · obtain⟨b,h3,h6,h4⟩:=ih (k+1) y (by omega) h2;exact⟨b,by rw[yh,h1];exact h3,by rw[yh,h5];exact h6,h4⟩
   · exact⟨b,by rw[yh,h1];rfl,by rw[yh,h5];rfl,h2⟩
 obtain⟨b,h1,h3,h2⟩:=key m 0 x (by omega) h0;exact⟨b,AH h1,AH h3,h2⟩
theorem Id {l:List xa} (h:CF l=true):FB l:=by
 unfold CF at h;simp only[aT,Bool.not_eq_true',decide_eq_true_eq]at h;refine⟨λx hx=>?_,I8 (R:=lt) (λ_ _ _=>lt_trans) λk hk=>?_,by omega⟩
 · obtain⟨k,hk,rfl⟩:=getElem_of_mem hx;have hx:=any_eq_false.1 h.1 k (mem_range.2 hk)
   unfold Cu at hx;simp only[List.getElem?_eq_getElem hk,Bool.or_eq_true,not_or,Bool.not_eq_true',Bool.not_eq_false]at hx;exact hx.1
 · have hx:=any_eq_false.1 h.1 (k+1) (mem_range.2 hk);unfold Cu at hx;simp only[List.getElem?_eq_getElem hk,Nat.add_sub_cancel,List.getElem?_eq_getElem (show k<l.length by omega),Bool.or_eq_true,aT,decide_eq_true_eq,not_or,not_and,Bool.not_eq_true',Bool.not_eq_false]at hx;have hp:=hx.2 (by omega)
   unfold zl at hp;simp only[Bool.or_eq_true,aT,decide_eq_true_eq,beq_iff_eq]at hp;unfold lt;omega
theorem FB.sub {l m:List xa} (h:FB l) (hs:m.Sublist l):FB m :=
 ⟨λx hx=>h.e x (hs.subset hx),h.o.sublist hs,Nat.le_trans hs.length_le h.n⟩
def D7 (l:List xa) (p:Int):List xa:=l.filter λe=>e.2.2.2.2||e.2.2.1 != p
theorem LL {l:List xa} (p:Int) (hn:l.length<=1000) (step:Int×List xa->Option ((Int×List xa)⊕List xa))
 (hs:∀k (hk:k<l.length) out,step ((k:Int),out)=cond (l[k].2.2.2.2||l[k].2.2.1 != p) ((app out [l[k]]).bind λzs=>some (.inl (((k+1:Nat):Int),zs))) (some (.inl (((k+1:Nat):Int),out))))
 (he:∀out,step ((l.length:Int),out)=some (.inr out)):loop step (0,[])=some (D7 l p):=by
 obtain⟨b,h1,rfl⟩:=xG (step:=step) (λk z=>z.1=(k:Int)/\z.2=D7 (l.take k) p) l.length (λb=>b=D7 l p)
  (λk z hk ⟨z1,z2⟩=>by
   obtain⟨i,out⟩:=z;simp only at z1 z2;subst z1 z2;left;have hl:(D7 (l.take k) p).length<=k:=by
    have:=(List.filter_sublist (p:=λe:xa=>e.2.2.2.2||e.2.2.1 != p) (l:=l.take k)).length_le;rw[length_take]at this;show (List.filter _ _).length<=k
    omega
   have ht:D7 (l.take (k+1)) p=D7 (l.take k) p++cond (l[k].2.2.2.2||l[k].2.2.1 != p) [l[k]] []:=by
    unfold D7;rw[take_add_one,List.getElem?_eq_getElem hk,List.filter_append];rw[Option.toList_some,List.filter_cons,List.filter_nil];cases (l[k].2.2.2.2||l[k].2.2.1 != p)<;>rfl
   rw[hs k hk];cases hc:(l[k].2.2.2.2||l[k].2.2.1 != p)with
   | true =>
    rw[hc]at ht;exact⟨_,by rw[cT,xh (by show _+1<=_;omega)];rfl,rfl,by rw[ht];rfl⟩
   | false =>
    rw[hc]at ht;exact⟨_,rfl,rfl,by rw[ht];simp⟩)
  (λz ⟨z1,z2⟩=>by
   obtain⟨i,out⟩:=z;simp only at z1 z2;subst z1 z2;exact⟨_,he _,by rw[take_length]⟩) (x:=(0,[])) ⟨rfl,rfl⟩
 exact h1
theorem Xi {l:List xa} (p:Int) (hn:l.length<=1000):gz l p=some (D7 l p):=by
 unfold gz;rw[LL p hn (λz=>dJ l p z.1 z.2) (λk hk out=>by
  show dJ l p (k:Int) out=_;unfold dJ;rw[xI (by omega),cT,xo hk,wX,xj (by omega)];cases l[k].2.2.2.2<;>rfl) (λout=>by
  show dJ l p (l.length:Int) out=_;unfold dJ;rw[xu (by omega),cF])];rfl
theorem Vz {l:List xa} (p:Int) (hn:l.length<=1000):iD l p=some (D7 l p):=by
 unfold iD;rw[LL p hn (λz=>eg l p z.1 z.2) (λk hk out=>by
  show eg l p (k:Int) out=_;unfold eg;rw[xI (by omega),cT,xo hk,wX,wX,wX,xj (by omega)];cases l[k].2.2.2.2<;>rfl) (λout=>by
  show eg l p (l.length:Int) out=_;unfold eg;rw[xu (by omega),cF])];rfl
theorem SO:∀k:Nat,k<6->xe (k:Int) 0 62=true/\xe (k:Int) 0 7=true:=by
 intro k hk;unfold xe;constructor<;>(rw[dT (by omega),dT (by omega)];rfl)
theorem Z7 (c:Int) {k:Nat} (hk:k<6):∃t,shr .i64 c (k:Int)=some t:=by
 unfold shr;rw[if_neg (by omega)];exact⟨_,rfl⟩
theorem Ie (c:Int) {k:Nat} (hk:k<6):∃t,ap c (k:Int)=some t/\aQ c (k:Int)=some t:=by
 obtain⟨t,h⟩:=Z7 c hk;unfold ap aQ;rw[Ad,CX,wX,wX,(SO k hk).1,(SO k hk).2,cT,cT,I6 (by omega),h];exact⟨_,rfl,rfl⟩
theorem Nf {n:Int} (h:xe n 0 1000000=true):∃r,au n=some r/\aH n=some r/\xe r 0 1000000=true:=by
 unfold xe at h;simp only[aT,decide_eq_true_eq]at h;unfold au aH xe min2;rw[xN (by omega) (by omega)];by_cases hn:n>=1000000
 · rw[dT hn,cT];refine⟨n,?_,rfl,?_⟩
   · simp only;split<;>first|rfl | (congr 1;omega)
   · simp only[aT,decide_eq_true_eq];omega
 · rw[dF hn,cF];refine⟨n+1,?_,rfl,?_⟩
   · simp only;split<;>first|rfl | (congr 1;omega)
   · simp only[aT,decide_eq_true_eq];omega
theorem B6.ok {b:wY} (h:B6 b) (hv:AJ (b.2.2.2.2.1,b.2.2.2.2.2.1) (b.2.2.1.length:Int)=true):xQ b=true:=by
 unfold xQ;have h1:(List.range b.2.2.1.length).any (It b.2.2.1)=false:=by
  rw[any_eq_false];intro k hk;have hk:=mem_range.1 hk
  unfold It;simp[List.getElem?_eq_getElem hk,h.p _ (getElem_mem hk)]
 have h2:=h.name;rw[h1,h.id,h.f,hv,h.c,LK h,dF (show ¬(b.2.1.length:Int)>10 by omega)];rfl
theorem Us {b:wY} (h:B6 b):∃r,aG b=some r/\ba b=some r/\B6 r/\r.2.2.1=b.2.2.1/\r.2.2.2.2.1=b.2.2.2.2.1/\r.2.2.2.2.2.1=b.2.2.2.2.2.1/\r.1=b.1/\r.2.1=b.2.1/\r.2.2.2.2.2.2.1=b.2.2.2.2.2.2.1/\r.2.2.2.2.2.2.2.1=b.2.2.2.2.2.2.2.1/\r.2.2.2.2.2.2.2.2.1=b.2.2.2.2.2.2.2.2.1/\r.2.2.2.2.2.2.2.2.2.1=b.2.2.2.2.2.2.2.2.2.1/\au b.2.2.2.2.2.2.2.2.2.2=some r.2.2.2.2.2.2.2.2.2.2:=by
 have n6:=h.n6;have hc:=h.c
 unfold zI at hc;simp only[aT]at hc;obtain⟨v,v1,v2,v3⟩:=Nf hc.2.2.2.2;obtain⟨c,_,c1,c2⟩:=LF b.1 (l:=b.2.2.1) (by omega);unfold aG ba;rw[v1,v2,c1,c2];simp only[wX];have hF:=Id h.f
 obtain⟨d,d1,d2,F,hf,rfl⟩:=Kv (step:=λz:Int×Int×List UInt8×Int×Int×Int×Int×Int×List xa=>gA b (c:Int) z.1 z.2.1 z.2.2.1 z.2.2.2.1 z.2.2.2.2.1 z.2.2.2.2.2.1 z.2.2.2.2.2.2.1 z.2.2.2.2.2.2.2.1 z.2.2.2.2.2.2.2.2)
  (t:=λz:Int×Int×List UInt8×Int×Int×Int×Int×Int×List xa=>iE b (c:Int) z.1 z.2.1 z.2.2.1 z.2.2.2.1 z.2.2.2.2.1 z.2.2.2.2.2.1 z.2.2.2.2.2.2.1 z.2.2.2.2.2.2.2.1 z.2.2.2.2.2.2.2.2)
  (λk z=>∃F:List xa,F.Sublist b.2.2.2.1/\z=((k:Int),b.1,b.2.1,b.2.2.2.2.2.2.1,b.2.2.2.2.2.2.2.1,b.2.2.2.2.2.2.2.2.1,b.2.2.2.2.2.2.2.2.2.1,v,F)) b.2.2.1.length
  (λd=>∃F:List xa,F.Sublist b.2.2.2.1/\d=(b.1,b.2.1,b.2.2.2.2.2.2.1,b.2.2.2.2.2.2.2.1,b.2.2.2.2.2.2.2.2.1,b.2.2.2.2.2.2.2.2.2.1,v,F))
  (λk z hk ⟨F,hf,e⟩=>by
   subst e;left;obtain⟨t,t1,t2⟩:=Ie (c:Int) (show k<6 by omega);have hl:F.length<=1000:=by have:=hf.length_le;have:=hF.n;omega
   simp only;unfold gA iE;rw[xI (show (k:Int)<(b.2.2.1.length:Int) by omega),cT,cT,t1,t2,wX,wX,Xi _ hl,Vz _ hl,xj (show k<9223372036854775807 by omega)];cases t with
   | true=>exact⟨_,rfl,rfl,F,hf,rfl⟩
   | false=>exact⟨_,rfl,rfl,D7 F (k:Int),List.Sublist.trans List.filter_sublist hf,rfl⟩)
  (λz ⟨F,hf,e⟩=>by
   subst e;simp only;unfold gA iE;rw[xu (show ¬(b.2.2.1.length:Int)<(b.2.2.1.length:Int) by omega),cF,cF];exact⟨_,rfl,rfl,F,hf,rfl⟩) (x:=(0,b.1,b.2.1,b.2.2.2.2.2.2.1,b.2.2.2.2.2.2.2.1,b.2.2.2.2.2.2.2.2.1,b.2.2.2.2.2.2.2.2.2.1,v,b.2.2.2.1)) ⟨_,List.Sublist.refl _,rfl⟩
 rw[d1,d2];refine⟨_,rfl,rfl,⟨h.id,h.name,h.n1,h.n6,h.p,(hF.sub hf).ok,?_,h.q,h.v,h.s,h.i,h.h⟩,rfl,rfl,rfl,rfl,rfl,rfl,rfl,rfl,rfl,rfl⟩;unfold zI;simp only[aT];exact⟨hc.1,hc.2.1,hc.2.2.1,hc.2.2.2.1,v3⟩
theorem Ng {b:wY} (h:B6 b):∃r,aG b=some r/\ba b=some r/\B6 r/\r.2.2.1=b.2.2.1/\r.2.2.2.2.1=b.2.2.2.2.1/\r.2.2.2.2.2.1=b.2.2.2.2.2.1:=by
 obtain⟨r,h1,h2,h3,h4,h5,h6,_⟩:=Us h;exact⟨r,h1,h2,h3,h4,h5,h6⟩
theorem TP {α:Type} [BEq α] [LawfulBEq α] (a b:α):(a==b)=(b==a):=by
 by_cases h:a=b
 · subst h;rfl
 · rw[beq_eq_false_iff_ne.2 h,beq_eq_false_iff_ne.2 (Ne.symm h)]

abbrev Xj:=Int×Int×Int×List UInt8×Int×Int×Int×Int×Int×List Pt×List xa×List xq×List Int
abbrev YA:=Int×List UInt8×Int×Int×Int×Int×Int
def Xk (c k:Int) (b:wY):Xj:=(c,k,b.1,b.2.1,b.2.2.2.2.2.2.1,b.2.2.2.2.2.2.2.1,b.2.2.2.2.2.2.2.2.1,b.2.2.2.2.2.2.2.2.2.1,b.2.2.2.2.2.2.2.2.2.2,b.2.2.1,b.2.2.2.1,b.2.2.2.2.1,b.2.2.2.2.2.1)
theorem Xl {b:wY} (hb:Ar M b) {l:List x7} (hl:Dh M l) {k:Nat} (hk:k<l.length) (s:YA) :
 ∃r:YA⊕Xj,loop (λz=>eM b (k:Int) l[k] (l.take k) z.1 z.2.1 z.2.2.1 z.2.2.2.1 z.2.2.2.2.1 z.2.2.2.2.2.1 z.2.2.2.2.2.2.1 z.2.2.2.2.2.2.2) (0,s)=some r
  /\ loop (λz=>gb b l (k:Int) z.1 z.2.1 z.2.2.1 z.2.2.2.1 z.2.2.2.2.1 z.2.2.2.2.2.1 z.2.2.2.2.2.2.1 z.2.2.2.2.2.2.2) (0,s)=some r/\((r=.inl s/\∀j (hj:j<k),l[j].1≠l[k].1)\/(r=.inr (Xk 5 ((k+1:Nat):Int) b)/\∃j,∃hj:j<k,l[j].1=l[k].1)):=by
 obtain⟨a0,a1,a6,a7,a8,a9,a10⟩:=s;have hn:l.length<=1048576:=hl.1
 refine Kv (λj z=>z=((j:Int),a0,a1,a6,a7,a8,a9,a10)/\∀i (hi:i<k),i<j->l[i].1≠l[k].1) k _ (λj z hj ⟨e,hne⟩=>?_) (λz ⟨e,hne⟩=>?_) ⟨rfl,λi _ hi=>absurd hi (Nat.not_lt_zero _)⟩
 · subst e;have ht:j<(l.take k).length:=by rw[length_take];omega
   have hg:(l.take k)[j]=l[j]:=List.getElem_take;have hw:∀i,i<l.length->∀(hi:i<l.length),l[i].1.length<9223372036854775807:=λi h1 h2=>by have:l[i].1.length<=1048576:=(hl.2 _ (getElem_mem h2)).1;omega
   have s1:aE l[k].1 l[j].1=some (l[k].1==l[j].1):=GL (hw j (by omega) (by omega));have s2:cP l[j].1 l[k].1=some (l[k].1==l[j].1):=by rw[TP];exact GL (hw k hk hk)
   simp only;unfold eM gb;rw[xI (show (j:Int)<((l.take k).length:Int) by omega),xI (show (j:Int)<(k:Int) by omega),cT,cT,xo ht,hg,xo (show j<l.length by omega),xo hk];simp only[wX,s1,s2];cases hb2:(l[k].1==l[j].1)with
   | true =>
    right;rw[yn hb,yW hb];exact⟨_,rfl,by rw[xj (show k<9223372036854775807 by omega)];rfl,.inr ⟨by rw[xj (show k<9223372036854775807 by omega)];rfl,j,hj,(beq_iff_eq.1 hb2).symm⟩⟩
   | false =>
    left;refine⟨_,rfl,rfl,by rw[xj (show j<9223372036854775807 by omega)],λi hi hij=>?_⟩;by_cases e:i=j
    · subst e;exact λe=>(beq_eq_false_iff_ne.1 hb2) e.symm
    · exact hne i hi (by omega)
 · subst e;have ht:(l.take k).length=k:=by rw[length_take];omega
   refine⟨.inl (a0,a1,a6,a7,a8,a9,a10),?_,?_,.inl ⟨rfl,λj hj=>hne j hj hj⟩⟩
   · show eM b _ _ _ _ _ _ _ _ _ _ _=_;unfold eM;rw[ht,xu (by omega),cF]
   · show gb b _ _ _ _ _ _ _ _ _ _=_;unfold gb;rw[xu (by omega),cF]
theorem xF {α β:Type} {step:α->Option (α⊕β)} {x:α} {b:β} (h:step x=some (.inr b)):loop step x=some b:=AH (k:=1) (by rw[yh,h];rfl)
inductive GN (b:wY):List x7->wY->Prop
 | nil:GN b [] b
 | snoc {l:List x7} {y y':wY} {x:x7}:GN b l y->B6 y->cA y x=some (y',0)->GN b (l++[x]) y'
def Ut (b:wY) (l:List x7) (c:Int):Prop:=(xQ b=false/\c=3)\/(∃k y,∃hk:k<l.length,GN b (l.take k) y/\B6 y/\(((∃j,∃hj:j<k,l[j].1=l[k].1)/\c=5)\/∃y',cA y l[k]=some (y',c)))\/∃y,GN b l y/\c=5
theorem Mj {b:wY} (h:AC b) (hb:Ar M b) {l:List x7} (hl:Dh M l):∃r,dK b l=some r/\iK b l=some r/\Ar M r.1/\(xQ b=true->B6 r.1/\xQ r.1=true)/\((r.2.1=0/\r.2.2=0/\((l=[]/\r.1=b)\/∃y,GN b l y/\B6 y/\(∀i (hi:i<l.length),∀j (hj:j<i),l[j].1≠l[i].1)/\aG y=some r.1))\/(r.1=b/\r.2.1≠0/\1<=r.2.2/\r.2.2<=(l.length:Int)/\Ut b l r.2.1)):=by
 have hn:l.length<=1048576:=hl.1;unfold dK iK;rw[yn hb,yW hb,By h,Dw h];simp only[wX];by_cases h0:l=[]
 · subst h0;have e1:decide ((([]:List x7).length:Int)>0)=false:=rfl
   have e2:((([]:List x7).length:Int)==0)=true:=rfl;have e3:cond (!xQ b) (some false) (some false)=some false:=by cases xQ b<;>rfl
   rw[e1,e2,e3,cT];simp only[wX,cF];refine⟨_,rfl,(congrArg (λo=>Option.bind o _) (xF (b:=.inl (0,[],0,0,0,0,0,b.1,b.2.1,b.2.2.2.2.2.2.1,b.2.2.2.2.2.2.2.1,b.2.2.2.2.2.2.2.2.1,b.2.2.2.2.2.2.2.2.2.1,b.2.2.2.2.2.2.2.2.2.2,[],[],[],[],b.2.2.1,b.2.2.2.1,b.2.2.2.2.1,b.2.2.2.2.2.1)) rfl)).trans rfl,hb,λhp=>⟨(Dx h hp).sok,hp⟩,.inl ⟨rfl,rfl,.inl ⟨by first|trivial|rfl,rfl⟩⟩⟩
 · have hpos:0<l.length:=List.length_pos_iff.2 h0;rw[show ((l.length:Int)==0)=false from beq_eq_false_iff_ne.2 (by omega),dT (show (l.length:Int)>0 by omega)];cases hp:xQ b with
   | false=>exact⟨_,rfl,rfl,hb,λhp=>(by cases hp),.inr ⟨rfl,(by show (3:Int)≠0;decide),by show (1:Int)<=1;decide,by show (1:Int)<=_;omega,.inl ⟨hp,rfl⟩⟩⟩
   | true =>
    have hs0:=(Dx h hp).sok;simp only[Bool.not_true,cF,wX];obtain⟨d,d1,d2,d3⟩:=Kv (step:=λz:Int×Int×List UInt8×Int×Int×Int×Int×Int×Int×List UInt8×Int×Int×Int×Int×Int×List Pt×List xa×List xq×List Int×List Pt×List xa×List xq×List Int=>gF b l z.1 z.2.1 z.2.2.1 z.2.2.2.1 z.2.2.2.2.1 z.2.2.2.2.2.1 z.2.2.2.2.2.2.1 z.2.2.2.2.2.2.2.1 z.2.2.2.2.2.2.2.2.1 z.2.2.2.2.2.2.2.2.2.1 z.2.2.2.2.2.2.2.2.2.2.1 z.2.2.2.2.2.2.2.2.2.2.2.1 z.2.2.2.2.2.2.2.2.2.2.2.2.1 z.2.2.2.2.2.2.2.2.2.2.2.2.2.1 z.2.2.2.2.2.2.2.2.2.2.2.2.2.2.1 z.2.2.2.2.2.2.2.2.2.2.2.2.2.2.2.1 z.2.2.2.2.2.2.2.2.2.2.2.2.2.2.2.2.1 z.2.2.2.2.2.2.2.2.2.2.2.2.2.2.2.2.2.1 z.2.2.2.2.2.2.2.2.2.2.2.2.2.2.2.2.2.2.1 z.2.2.2.2.2.2.2.2.2.2.2.2.2.2.2.2.2.2.2.1 z.2.2.2.2.2.2.2.2.2.2.2.2.2.2.2.2.2.2.2.2.1 z.2.2.2.2.2.2.2.2.2.2.2.2.2.2.2.2.2.2.2.2.2.1 z.2.2.2.2.2.2.2.2.2.2.2.2.2.2.2.2.2.2.2.2.2.2)
     (t:=λz=>iJ b l z.1 z.2.1 z.2.2.1 z.2.2.2.1 z.2.2.2.2.1 z.2.2.2.2.2.1 z.2.2.2.2.2.2.1 z.2.2.2.2.2.2.2.1 z.2.2.2.2.2.2.2.2.1 z.2.2.2.2.2.2.2.2.2.1 z.2.2.2.2.2.2.2.2.2.2.1 z.2.2.2.2.2.2.2.2.2.2.2.1 z.2.2.2.2.2.2.2.2.2.2.2.2.1 z.2.2.2.2.2.2.2.2.2.2.2.2.2.1 z.2.2.2.2.2.2.2.2.2.2.2.2.2.2.1 z.2.2.2.2.2.2.2.2.2.2.2.2.2.2.2.1 z.2.2.2.2.2.2.2.2.2.2.2.2.2.2.2.2.1 z.2.2.2.2.2.2.2.2.2.2.2.2.2.2.2.2.2.1 z.2.2.2.2.2.2.2.2.2.2.2.2.2.2.2.2.2.2.1 z.2.2.2.2.2.2.2.2.2.2.2.2.2.2.2.2.2.2.2.1 z.2.2.2.2.2.2.2.2.2.2.2.2.2.2.2.2.2.2.2.2.1 z.2.2.2.2.2.2.2.2.2.2.2.2.2.2.2.2.2.2.2.2.2.1 z.2.2.2.2.2.2.2.2.2.2.2.2.2.2.2.2.2.2.2.2.2.2)
     (λk z=>∃y:wY,(B6 y/\GN b (l.take k) y/\∀i (hi:i<l.length),i<k->∀j (hj:j<i),l[j].1≠l[i].1)/\z=((k:Int),0,[],0,0,0,0,0,y.1,y.2.1,y.2.2.2.2.2.2.1,y.2.2.2.2.2.2.2.1,y.2.2.2.2.2.2.2.2.1,y.2.2.2.2.2.2.2.2.2.1,y.2.2.2.2.2.2.2.2.2.2,[],[],[],[],y.2.2.1,y.2.2.2.1,y.2.2.2.2.1,y.2.2.2.2.2.1)) l.length
     (λd=>(∃y:wY,(B6 y/\GN b l y/\∀i (hi:i<l.length),∀j (hj:j<i),l[j].1≠l[i].1)/\d=.inl (0,[],0,0,0,0,0,y.1,y.2.1,y.2.2.2.2.2.2.1,y.2.2.2.2.2.2.2.1,y.2.2.2.2.2.2.2.2.1,y.2.2.2.2.2.2.2.2.2.1,y.2.2.2.2.2.2.2.2.2.2,[],[],[],[],y.2.2.1,y.2.2.2.1,y.2.2.2.2.1,y.2.2.2.2.2.1))\/∃c k:Int,c≠0/\1<=k/\k<=(l.length:Int)/\Ut b l c/\d=.inr (Xk c k b))
     (λk z hk ⟨y,⟨hy,hst,hdi⟩,e⟩=>by
      subst e;obtain⟨r,r1,r2,r3⟩:=Xl hb hl hk (0,[],0,0,0,0,0);have hc:cut l 0 (k:Int)=some (l.take k):=by rw[show (0:Int)=((0:Nat):Int)from rfl,As (Nat.zero_le _) (by omega),drop_zero]
      simp only;unfold gF iJ;rw[xI (show (k:Int)<(l.length:Int) by omega),cT,cT,xo hk,wX,hc,wX,r1,r2,wX,wX];rcases r3 with ⟨rfl,hnd⟩|⟨rfl,hdup⟩
      · obtain⟨q,q1,q2,q3,q4⟩:=Xh hy (hl.2 _ (getElem_mem hk)).1;have q1':cA (y.1,y.2.1,y.2.2.1,y.2.2.2.1,y.2.2.2.2.1,y.2.2.2.2.2.1,y.2.2.2.2.2.2.1,y.2.2.2.2.2.2.2.1,y.2.2.2.2.2.2.2.2.1,y.2.2.2.2.2.2.2.2.2.1,y.2.2.2.2.2.2.2.2.2.2) l[k]=some q:=q1
        have q2':ga (y.1,y.2.1,y.2.2.1,y.2.2.2.1,y.2.2.2.2.1,y.2.2.2.2.2.1,y.2.2.2.2.2.2.1,y.2.2.2.2.2.2.2.1,y.2.2.2.2.2.2.2.2.1,y.2.2.2.2.2.2.2.2.2.1,y.2.2.2.2.2.2.2.2.2.2) l[k]=some q:=q2;simp only[Sum.elim_inl,wX,q1',q2',yn hb,yW hb,xj (show k<9223372036854775807 by omega)];cases hq:(q.2 != 0)with
        | true =>
         right;exact⟨_,rfl,rfl,.inr ⟨q.2,((k+1:Nat):Int),bne_iff_ne.1 hq,by omega,by omega,.inr (.inl ⟨k,y,hk,hst,hy,.inr ⟨q.1,q1⟩⟩),rfl⟩⟩
        | false =>
         left;have hq0:q.2=0:=by simpa using hq
         refine⟨_,rfl,rfl,q.1,⟨q3,?_,λi hi hik j hj=>?_⟩,rfl⟩
         · rw[take_add_one,List.getElem?_eq_getElem hk];exact .snoc hst hy (by rw[q1,←hq0])
         · by_cases e:i=k
           · subst e;exact hnd j hj
           · exact hdi i hi (by omega) j hj
      · right;exact⟨_,rfl,rfl,.inr ⟨5,((k+1:Nat):Int),by decide,by omega,by omega,.inr (.inl ⟨k,y,hk,hst,hy,.inl ⟨hdup,rfl⟩⟩),rfl⟩⟩)
     (λz ⟨y,⟨hy,hst,hdi⟩,e⟩=>by
      subst e;simp only;unfold gF iJ;rw[xu (show ¬(l.length:Int)<(l.length:Int) by omega),cF,cF];rw[take_length]at hst;exact⟨_,rfl,rfl,.inl ⟨y,⟨hy,hst,λi hi=>hdi i hi hi⟩,rfl⟩⟩) (x:=(0,0,[],0,0,0,0,0,b.1,b.2.1,b.2.2.2.2.2.2.1,b.2.2.2.2.2.2.2.1,b.2.2.2.2.2.2.2.2.1,b.2.2.2.2.2.2.2.2.2.1,b.2.2.2.2.2.2.2.2.2.2,[],[],[],[],b.2.2.1,b.2.2.2.1,b.2.2.2.2.1,b.2.2.2.2.2.1)) ⟨b,⟨hs0,.nil,λi _ hi=>absurd hi (Nat.not_lt_zero _)⟩,rfl⟩
    rw[d1,d2,wX,wX];rcases d3 with ⟨y,⟨hy,hst,hdi⟩,rfl⟩|⟨c,k,c0,k1,k2,hfl,rfl⟩
    · have n6:=hy.n6;have v6:=hy.v;have hq:=hy.q
      have t1:dt (y.2.2.2.2.1,y.2.2.2.2.2.1) (y.2.2.1.length:Int)=some (AJ (y.2.2.2.2.1,y.2.2.2.2.2.1) (y.2.2.1.length:Int)):=Uk (v:=(y.2.2.2.2.1,y.2.2.2.2.2.1)) _ (by show y.2.2.2.2.1.length<_;omega) (by show y.2.2.2.2.2.1.length<_;omega);have t2:dX (y.2.2.2.2.1,y.2.2.2.2.2.1) (y.2.2.1.length:Int)=some (AJ (y.2.2.2.2.1,y.2.2.2.2.2.1) (y.2.2.1.length:Int)):=Ul (v:=(y.2.2.2.2.1,y.2.2.2.2.2.1)) _ (by show y.2.2.2.2.1.length<_;omega) (by show y.2.2.2.2.2.1.length<_;omega) hy.h
      simp only[Sum.elim_inl,t1,t2,wX];cases hv:AJ (y.2.2.2.2.1,y.2.2.2.2.2.1) (y.2.2.1.length:Int)with
      | false=>exact⟨_,rfl,rfl,hb,λ_=>⟨hs0,hp⟩,.inr ⟨rfl,by show (5:Int)≠0;decide,by show (1:Int)<=(l.length:Int);omega,Int.le_refl _,.inr (.inr ⟨y,hst,rfl⟩)⟩⟩
      | true =>
       obtain⟨r,r1,r2,r3,r4,r5,r6⟩:=Ng hy;have r1':aG (y.1,y.2.1,y.2.2.1,y.2.2.2.1,y.2.2.2.2.1,y.2.2.2.2.2.1,y.2.2.2.2.2.2.1,y.2.2.2.2.2.2.2.1,y.2.2.2.2.2.2.2.2.1,y.2.2.2.2.2.2.2.2.2.1,y.2.2.2.2.2.2.2.2.2.2)=some r:=r1
       have r2':ba (y.1,y.2.1,y.2.2.1,y.2.2.2.1,y.2.2.2.2.1,y.2.2.2.2.2.1,y.2.2.2.2.2.2.1,y.2.2.2.2.2.2.2.1,y.2.2.2.2.2.2.2.2.1,y.2.2.2.2.2.2.2.2.2.1,y.2.2.2.2.2.2.2.2.2.2)=some r:=r2;simp only[Bool.not_true,cF,r1',r2',wX];exact⟨_,rfl,rfl,r3.le,λ_=>⟨r3,r3.ok (by rw[r4,r5,r6];exact hv)⟩,.inl ⟨rfl,rfl,.inr ⟨y,hst,hy,hdi,r1⟩⟩⟩
    · simp only[Sum.elim_inr];exact⟨_,rfl,rfl,hb,λ_=>⟨hs0,hp⟩,.inr ⟨rfl,c0,k1,k2,hfl⟩⟩

theorem y9.le {b:wY} (h:y9 b):Ar M b:=by
 obtain⟨v1,v2,v3,v4⟩:=h.vt.len;have h1:=h.name;have h2:=h.n6;have h3:=h.f12
 have v3':b.2.2.2.2.2.1.length=b.2.2.1.length:=v3;have v4':b.2.2.2.2.1.length<=6:=v4
 have hM:M=1048576:=rfl;exact⟨by omega,by omega,by omega,by omega,by omega⟩
def Zk (v:A6):Prop:=(v.1=2->v.2.2.1=[]/\v.2.2.2=[])/\(v.1=4->v.2.1=0/\v.2.2.2=[])
def Zl (v:A6):Prop:=v.2.2.1.length<=100/\v.2.2.2.length<=1000/\Zk v
def Xm (x:x7):Prop:=x.1.length<=1000/\Zl x.2
theorem Xm.le {x:x7} (h:Xm x):EC M x:=by
 have hM:M=1048576:=rfl;obtain⟨h1,h2,h3,_⟩:=h;exact⟨by omega,by omega,by omega⟩
def Eh (n:Int):Int:=if n>2147483647 then 2147483647 else if n < -2147483648 then -2147483648 else n
theorem Q4 (n:Int):-2147483648<=Eh n/\Eh n<=2147483647:=by unfold Eh;split<;>(try split)<;>omega
def yS (m:Int):List Int:=if xe m (-128) 127 then [m%256]else if xe m (-32768) 32767 then [m/256%256,m%256]else if xe m (-8388608) 8388607 then [m/65536%256,m/256%256,m%256]else [m/16777216%256,m/65536%256,m/256%256,m%256]
theorem w8 (x:Int):IntKind.u8.wrap x=x%256:=rfl
theorem fd (m:Int) {k:Int} (hk:0<=k):m.fdiv k=m/k:=Int.fdiv_eq_ediv_of_nonneg m hk
theorem xx {α β:Type} {step:α->Option (α⊕β)} {x y:α} {b:β} (h:step x=some (.inl y)) (k:loop step y=some b):loop step x=some b:=by
 obtain⟨n,hn⟩:=IO k;exact AH (k:=n+1) (by rw[yh,h];exact hn)
theorem OO {n:Int} (hn:-9223372036854775808<=n/\n<=9223372036854775807):dv n=some (yS (Eh n)):=by
 unfold dv;have hc:max2 (-2147483648) (min2 n 2147483647)=Eh n:=by
  unfold max2 min2 Eh;split<;>split<;>(try split)<;>(try split)<;>omega
 rw[hc];obtain⟨h1,h2⟩:=Q4 n;generalize Eh n=m at h1 h2;simp only;have a1:aK m 1=cond (!(xe m (-128) 127)) (some (.inl 2)) (some (.inr 1)):=by
  unfold aK;rw[show shl .i64 (-1) (wZ ((wZ (8*1))-1))=some (-128)from rfl,show shl .i64 1 (wZ ((wZ (8*1))-1))=some 128 from rfl];simp only[wX,Ad];rw[show wZ (128-1)=127 from rfl];cases xe m (-128) 127<;>rfl
 have a2:aK m 2=cond (!(xe m (-32768) 32767)) (some (.inl 3)) (some (.inr 2)):=by
  unfold aK;rw[show shl .i64 (-1) (wZ ((wZ (8*2))-1))=some (-32768)from rfl,show shl .i64 1 (wZ ((wZ (8*2))-1))=some 32768 from rfl];simp only[wX,Ad];rw[show wZ (32768-1)=32767 from rfl];cases xe m (-32768) 32767<;>rfl
 have a3:aK m 3=cond (!(xe m (-8388608) 8388607)) (some (.inl 4)) (some (.inr 3)):=by
  unfold aK;rw[show shl .i64 (-1) (wZ ((wZ (8*3))-1))=some (-8388608)from rfl,show shl .i64 1 (wZ ((wZ (8*3))-1))=some 8388608 from rfl];simp only[wX,Ad];rw[show wZ (8388608-1)=8388607 from rfl];cases xe m (-8388608) 8388607<;>rfl
 have a4:aK m 4=some (.inr 4):=rfl;have b3:∀out:List Int,out.length<=10->aA m 3 out=some (.inl (2,out++[m/16777216%256])):=λout ho=>by
  unfold aA;rw[show shr .i64 m (wZ (8*3))=some (m.fdiv (2^24))from rfl,wX,xh (by simp;omega),wX,w8,fd m (by decide)];rfl
 have b2:∀out:List Int,out.length<=10->aA m 2 out=some (.inl (1,out++[m/65536%256])):=λout ho=>by
  unfold aA;rw[show shr .i64 m (wZ (8*2))=some (m.fdiv (2^16))from rfl,wX,xh (by simp;omega),wX,w8,fd m (by decide)];rfl
 have b1:∀out:List Int,out.length<=10->aA m 1 out=some (.inl (0,out++[m/256%256])):=λout ho=>by
  unfold aA;rw[show shr .i64 m (wZ (8*1))=some (m.fdiv (2^8))from rfl,wX,xh (by simp;omega),wX,w8,fd m (by decide)];rfl
 have b0:∀out:List Int,out.length<=10->aA m 0 out=some (.inl (-1,out++[m%256])):=λout ho=>by
  unfold aA;rw[show shr .i64 m (wZ (8*0))=some (m.fdiv (2^0))from rfl,wX,xh (by simp;omega),wX,w8,fd m (by decide)];simp;rfl
 have be:∀out:List Int,aA m (-1) out=some (.inr out):=λout=>rfl;have c0:∀out:List Int,out.length<=9->loop (λz:Int×List Int=>aA m z.1 z.2) (0,out)=some (out++[m%256]):=λout ho=>xx (b0 out (by omega)) (xF (be _))
 have c1:∀out:List Int,out.length<=8->loop (λz:Int×List Int=>aA m z.1 z.2) (1,out)=some (out++[m/256%256]++[m%256]):=λout ho=>xx (b1 out (by omega)) (c0 _ (by simp;omega));have c2:∀out:List Int,out.length<=7->loop (λz:Int×List Int=>aA m z.1 z.2) (2,out)=some (out++[m/65536%256]++[m/256%256]++[m%256]):=λout ho=>xx (b2 out (by omega)) (c1 _ (by simp;omega))
 have c3:∀out:List Int,out.length<=6->loop (λz:Int×List Int=>aA m z.1 z.2) (3,out)=some (out++[m/16777216%256]++[m/65536%256]++[m/256%256]++[m%256]):=λout ho=>xx (b3 out (by omega)) (c2 _ (by simp;omega));unfold yS;cases h8:xe m (-128) 127 with
 | true =>
  rw[h8]at a1;rw[xF (step:=λz=>aK m z) a1,wX,show wZ (1-1)=0 from rfl,c0 [] (by simp)];rfl
 | false =>
  rw[h8]at a1;cases h16:xe m (-32768) 32767 with
  | true =>
   rw[h16]at a2;rw[xx (step:=λz=>aK m z) a1 (xF a2),wX,show wZ (2-1)=1 from rfl,c1 [] (by simp)];rfl
  | false =>
   rw[h16]at a2;cases h24:xe m (-8388608) 8388607 with
   | true =>
    rw[h24]at a3;rw[xx (step:=λz=>aK m z) a1 (xx a2 (xF a3)),wX,show wZ (3-1)=2 from rfl,c2 [] (by simp)];rfl
   | false =>
    rw[h24]at a3;rw[xx (step:=λz=>aK m z) a1 (xx a2 (xx a3 (xF a4))),wX,show wZ (4-1)=3 from rfl,c3 [] (by simp)];rfl
theorem Jc {n a b:Int} (h:xe n a b=false):n<a\/n>b:=by
 unfold xe at h;simp only[Bool.and_eq_false_iff,decide_eq_false_iff_not]at h;omega
theorem ye {n a b:Int} (h:xe n a b=true):a<=n/\n<=b:=by
 unfold xe at h;simp only[aT,decide_eq_true_eq]at h;omega
theorem Hx {n:Int}:bv n=some (yS (Eh n)):=by
 unfold bv;have hc:bt n=some (Eh n):=by
  unfold bt Eh;by_cases h1:n>2147483647
  · rw[dT h1,cT,if_pos h1]
  · rw[dF h1,cF,if_neg h1];by_cases h2:n < -2147483648
    · rw[dT h2,cT,if_pos h2]
    · rw[dF h2,cF,if_neg h2]
 rw[hc,wX];obtain⟨h1,h2⟩:=Q4 n;generalize Eh n=m at h1 h2;have st:∀(x:Int) (out:List Int),out.length<=10->cf x out=cond (xe x (-128) 127) (some (.inr out)) (some (.inl (x/256,x/256%256::out))):=λx out ho=>by
  unfold cf;have e:(cond (decide (x<(-128))) (some true) (some (decide (x>127))))=some (!(xe x (-128) 127)):=by
   unfold xe;by_cases h1:x < -128
   · rw[dT h1,cT,dF (show ¬x >= -128 by omega)];rfl
   · rw[dF h1,cF,dT (show x >= -128 by omega)];by_cases h2:x>127
     · rw[dT h2,dF (show ¬x<=127 by omega)];rfl
     · rw[dF h2,dT (show x<=127 by omega)];rfl
  rw[e,wX,xh (by simp;omega),wX,w8,fd x (by decide)];cases xe x (-128) 127<;>rfl
 rw[w8];have goes:∀(x:Int) (out:List Int),out.length<=9->xe x (-128) 127=true->loop (λz:Int×List Int=>cf z.1 z.2) (x,out)=some out:=λx out ho h=>xF (by show cf x out=_;rw[st x out (by omega),h];rfl)
 have more:∀(x:Int) (out r:List Int),out.length<=9->xe x (-128) 127=false->loop (λz:Int×List Int=>cf z.1 z.2) (x/256,x/256%256::out)=some r->loop (λz:Int×List Int=>cf z.1 z.2) (x,out)=some r:=λx out r ho h k=>xx (by show cf x out=_;rw[st x out (by omega),h];rfl) k;have EK:∀(x a b:Int),a<=x->x<=b->xe x a b=true:=λx a b h1 h2=>by unfold xe;rw[dT h1,dT h2];rfl
 have outn:∀(x a b:Int),(x<a\/x>b)->xe x a b=false:=λx a b h=>by
  unfold xe;simp only[Bool.and_eq_false_iff,decide_eq_false_iff_not];omega
 unfold yS;cases h8:xe m (-128) 127 with
 | true=>rw[goes m _ (by simp) h8];rfl
 | false =>
  have k8:=Jc h8;cases h16:xe m (-32768) 32767 with
  | true =>
   have k16:=ye h16;rw[more m _ _ (by simp) h8 (goes (m/256) _ (by simp) (EK _ _ _ (by omega) (by omega)))];rfl
  | false =>
   have k16:=Jc h16;cases h24:xe m (-8388608) 8388607 with
   | true =>
    have k24:=ye h24;rw[more m _ _ (by simp) h8 (more (m/256) _ _ (by simp) (outn _ _ _ (by omega)) (goes (m/256/256) _ (by simp) (EK _ _ _ (by omega) (by omega))))];rw[show m/256/256=m/65536 by omega];rfl
   | false =>
    have k24:=Jc h24;rw[more m _ _ (by simp) h8 (more (m/256) _ _ (by simp) (outn _ _ _ (by omega)) (more (m/256/256) _ _ (by simp) (outn _ _ _ (by omega)) (goes (m/256/256/256) _ (by simp) (EK _ _ _ (by omega) (by omega)))))];rw[show m/256/256=m/65536 by omega,show m/65536/256=m/16777216 by omega];rfl

def A3 (b:List Int):Prop:=∀x∈b,0<=x/\x<=255
def yo (t:Int) (body:List Int):List Int:=t::((if body.length>=128 then [129,(body.length:Int)]else [(body.length:Int)])++body)
theorem Ri (t:Int) {body:List Int} (hn:body.length<=M):ct t body=some (if xe t 0 255=true/\body.length<=250 then (yo t body,true)else ([],false)):=by
 have hn':body.length<=1048576:=hn;unfold ct;rw[Ad,wX];cases ht:xe t 0 255 with
 | false=>rw[if_neg (by simp)];rfl
 | true =>
  obtain⟨t1,t2⟩:=ye ht;rw[Bool.not_true,cF,wX];by_cases h:(body.length:Int)>250
  · rw[dT h,cT,if_neg (by omega)]
  · rw[dF h,cF,if_pos ⟨rfl,by omega⟩];unfold yo;have e1:IntKind.u8.wrap t=t:=by rw[w8];omega
    have e2:IntKind.u8.wrap (body.length:Int)=(body.length:Int):=by rw[w8];omega
    by_cases h8:(body.length:Int)>=128
    · rw[dT h8,cT,xh (by simp),wX,xh (by simp),wX,xh (by simp;omega),wX,if_pos (by omega),e1,e2];rfl
    · rw[dF h8,cF,xh (by simp),wX,xh (by simp;omega),wX,if_neg (by omega),e1,e2];rfl
theorem OP {b:List Int} (t:Int) {body:List Int} (hb:b.length<=1000) (hn:body.length<=M):bj b t body=some (b++if xe t 0 255=true/\body.length<=250 then yo t body else []):=by
 unfold bj;have hM:M=1048576:=rfl
 rw[Ri t hn,wX,CG (by omega),wX];split
 · next h =>
   have:(yo t body).length<=300:=by unfold yo;split<;>simp<;>omega
   rw[xh (by show b.length+(yo t body).length<=_;omega)];rfl
 · rw[xh (by show b.length+0<=_;omega)];rfl
theorem Hy {α:Type} (pre l:List α) (j:Nat):at? (pre++l) ((pre.length+j:Nat):Int)=at? l (j:Int):=by
 unfold at?;rw[if_pos (by omega),if_pos (by omega),Int.toNat_natCast,Int.toNat_natCast,List.getElem?_append_right (by omega),Nat.add_sub_cancel_left]
theorem Q5 {α:Type} (pre l:List α) (i j:Nat) (h:i<=j) (hj:j<=l.length):cut (pre++l) ((pre.length+i:Nat):Int) ((pre.length+j:Nat):Int)=some ((l.take j).drop i):=by
 rw[As (by omega) (by rw[length_append];omega),List.take_append,List.take_of_length_le (by omega),List.drop_append,List.drop_of_length_le (by omega),Nat.add_sub_cancel_left,Nat.add_sub_cancel_left,List.nil_append]
structure CH (b:List Int) (at':Int) (t:Int) (body:List Int) (next:Int):Prop where
 ex:∃pre rest,b=pre++(yo t body++rest)/\at'=(pre.length:Int)/\next=((pre.length+(yo t body).length:Nat):Int)
 n:body.length<=250
 t:xe t 0 255=true
 b:A3 body
theorem LM {b:List Int} (hb:A3 b) (hn:b.length<=M) {i:Int} (hi:-9223372036854775808<=i/\i<=9223372036854775807):∃r,co b i=some r/\cK b i=some r/\(r=(0,[],0,false)\/∃t body next,r=(t,body,next,true)/\CH b i t body next):=by
 have hn':b.length<=1048576:=hn;unfold co cK;rw[xN (show -9223372036854775808<=(b.length:Int)-2 by omega) (by omega)];by_cases h0:i<0
 · rw[dT h0];exact⟨_,rfl,rfl,.inl rfl⟩
 rw[dF h0];by_cases h1:i>(b.length:Int)-2
 · rw[dT h1];by_cases h2:i>=(b.length:Int)
   · rw[dT h2];exact⟨_,rfl,rfl,.inl rfl⟩
   · rw[dF h2,xN (by omega) (by omega),dT (show i+1>=(b.length:Int) by omega)];exact⟨_,rfl,rfl,.inl rfl⟩
 rw[dF h1,dF (show ¬i>=(b.length:Int) by omega),xN (show -9223372036854775808<=i+1 by omega) (by omega),dF (show ¬i+1>=(b.length:Int) by omega),xN (show -9223372036854775808<=i+2 by omega) (by omega)];simp only[cF,wX];obtain⟨k,rfl⟩:∃k:Nat,i=(k:Int):=⟨i.toNat,by omega⟩;have hk:k+1<b.length:=by omega
 obtain⟨pre,t,n0,rest,rfl,hp⟩:∃pre t n0 rest,b=pre++(t::n0::rest)/\pre.length=k:=by
  refine⟨b.take k,b[k],b[k+1],b.drop (k+2),?_,by rw[length_take];omega⟩;have h1:=take_append_drop k b
  rw[drop_eq_getElem_cons (by omega),drop_eq_getElem_cons (by omega)]at h1;exact h1.symm
 subst hp;have ht:0<=t/\t<=255:=hb t (by simp)
 have hn0:0<=n0/\n0<=255:=hb n0 (by simp);have hr:A3 rest:=λx hx=>hb x (by simp[hx])
 have hlen:(pre++(t::n0::rest)).length=pre.length+(rest.length+2):=by simp
 have e0:at? (pre++(t::n0::rest)) (pre.length:Int)=some t:=by have:=Hy pre (t::n0::rest) 0;rw[Nat.add_zero]at this;rw[this];rfl
 have e1:at? (pre++(t::n0::rest)) ((pre.length:Int)+1)=some n0:=by have:=Hy pre (t::n0::rest) 1;rw[show ((pre.length:Int)+1)=((pre.length+1:Nat):Int) by omega,this];rfl
 have e2:at? (pre++(t::n0::rest)) ((pre.length:Int)+2)=at? rest 0:=by
  have:=Hy pre (t::n0::rest) 2;rw[show ((pre.length:Int)+2)=((pre.length+2:Nat):Int) by omega,this];unfold at?;simp
 have wt:wZ t=t:=xN (by omega) (by omega);have wn:wZ n0=n0:=xN (by omega) (by omega)
 have pt:xe t 0 255=true:=by unfold xe;rw[dT ht.1,dT ht.2];rfl
 rw[hlen]at hn';rw[hlen,e0,e1,e2];simp only[wX,wt,wn];by_cases h8:n0>=128
 · rw[dT h8,dT (show n0>127 by omega)];simp only[cT];by_cases h9:n0=129
   · subst h9;simp only[show ((129:Int) != 129)=false from rfl,cF,wX];cases rest with
     | nil =>
      rw[dT (show (pre.length:Int)+2>=((pre.length+(([]:List Int).length+2):Nat):Int) by simp)];exact⟨_,rfl,rfl,.inl rfl⟩
     | cons n1 r =>
      have hn1:0<=n1/\n1<=255:=hr n1 (by simp);have wn1:wZ n1=n1:=xN (by omega) (by omega)
      rw[length_cons]at hn' ⊢;rw[dF (show ¬(pre.length:Int)+2>=((pre.length+(r.length+1+2):Nat):Int) by omega)];simp only[cF,wX,show at? (n1::r) 0=some n1 from rfl,wn1];by_cases h10:n1<128
      · rw[dT h10];exact⟨_,rfl,rfl,.inl rfl⟩
      rw[dF h10,xN (show -9223372036854775808<=(pre.length:Int)+2+1 by omega) (by omega),xN (show -9223372036854775808<=((pre.length+(r.length+1+2):Nat):Int)-((pre.length:Int)+2+1) by omega) (by omega)];simp only[cF];by_cases h11:n1>250
      · rw[dT h11];exact⟨_,rfl,rfl,.inl rfl⟩
      rw[dF h11];simp only[cF,wX];by_cases h12:n1>((pre.length+(r.length+1+2):Nat):Int)-((pre.length:Int)+2+1)
      · rw[dT h12];exact⟨_,rfl,rfl,.inl rfl⟩
      rw[dF h12];simp only[cF];obtain⟨m,rfl⟩:∃m:Nat,n1=(m:Int):=⟨n1.toNat,by omega⟩;have hcut:cut (pre++(t::129::(m:Int)::r)) ((pre.length:Int)+2+1) (wZ ((pre.length:Int)+2+1+(m:Int)))=some (r.take m):=by
       rw[xN (by omega) (by omega),show (pre.length:Int)+2+1+(m:Int)=((pre.length+(3+m):Nat):Int) by omega,show (pre.length:Int)+2+1=((pre.length+3:Nat):Int) by omega,Q5 _ _ _ _ (by omega) (by simp;omega)];simp[Nat.add_comm 3 m]
      have hl:(r.take m).length=m:=by rw[length_take];omega
      rw[hcut,wX,wX,CG (by show _<=1048576;omega),Ae (by show _<=1048576;omega),wX];refine⟨_,rfl,rfl,.inr ⟨t,r.take m,wZ ((pre.length:Int)+2+1+(m:Int)),rfl,⟨pre,r.drop m,?_,rfl,?_⟩,by omega,pt,λx hx=>hr x (mem_cons_of_mem _ (List.mem_of_mem_take hx))⟩⟩
      · unfold yo;rw[hl,if_pos (by omega)];simp
      · unfold yo;rw[hl,if_pos (by omega),xN (by omega) (by omega)];simp only[length_cons,length_append,length_nil,hl];omega
   · rw[bne_iff_ne.2 h9];exact⟨_,rfl,rfl,.inl rfl⟩
 · rw[dF h8,dF (show ¬n0>127 by omega)];simp only[cF];rw[dF (show ¬n0>250 by omega),xN (show -9223372036854775808<=((pre.length+(rest.length+2):Nat):Int)-((pre.length:Int)+2) by omega) (by omega)];simp only[cF,wX];by_cases h12:n0>((pre.length+(rest.length+2):Nat):Int)-((pre.length:Int)+2)
   · rw[dT h12];exact⟨_,rfl,rfl,.inl rfl⟩
   rw[dF h12];simp only[cF];obtain⟨m,rfl⟩:∃m:Nat,n0=(m:Int):=⟨n0.toNat,by omega⟩;have hcut:cut (pre++(t::(m:Int)::rest)) ((pre.length:Int)+2) (wZ ((pre.length:Int)+2+(m:Int)))=some (rest.take m):=by
    rw[xN (by omega) (by omega),show (pre.length:Int)+2+(m:Int)=((pre.length+(2+m):Nat):Int) by omega,show (pre.length:Int)+2=((pre.length+2:Nat):Int) by omega,Q5 _ _ _ _ (by omega) (by simp;omega)];simp[Nat.add_comm 2 m]
   have hl:(rest.take m).length=m:=by rw[length_take];omega
   rw[hcut,wX,wX,CG (by show _<=1048576;omega),Ae (by show _<=1048576;omega),wX];refine⟨_,rfl,rfl,.inr ⟨t,rest.take m,wZ ((pre.length:Int)+2+(m:Int)),rfl,⟨pre,rest.drop m,?_,rfl,?_⟩,by omega,pt,λx hx=>hr x (List.mem_of_mem_take hx)⟩⟩
   · unfold yo;rw[hl,if_neg (by omega)];simp
   · unfold yo;rw[hl,if_neg (by omega),xN (by omega) (by omega)];simp only[length_cons,length_append,length_nil,hl];omega

theorem Z8 {m x:Int} (hm:-1099511627776<=m/\m<=1099511627776) (hx:0<=x/\x<=255):Es .i64 (wZ (m*2^8)) (wZ x)=m*256+x:=by
 rw[show m*2^8=m*256 from rfl,xN (show -9223372036854775808<=m*256 by omega) (by omega),xN (show -9223372036854775808<=x by omega) (by omega)];show IntKind.i64.wrap (((BitVec.ofInt 64 (m*256)|||BitVec.ofInt 64 x).toNat:Nat):Int)=_
 rw[BitVec.toNat_or,BitVec.toNat_ofInt,BitVec.toNat_ofInt];have h1:((m*256)%((2^64:Nat):Int)).toNat=2^8*(m%72057594037927936).toNat:=by
  have:((2^64:Nat):Int)=18446744073709551616:=by decide
  rw[this];omega
 have h2:(x%((2^64:Nat):Int)).toNat=x.toNat:=by
  have:((2^64:Nat):Int)=18446744073709551616:=by decide
  rw[this];omega
 rw[h1,h2,←Nat.two_pow_add_eq_or_of_lt (by show x.toNat<2^8;omega)];show (let z:=((2^8*(m%72057594037927936).toNat+x.toNat:Nat):Int)%18446744073709551616;if (true&&decide (z>=9223372036854775808))=true then z-18446744073709551616 else z)=_
 simp only[Bool.true_and,decide_eq_true_eq];split<;>omega
def B7 (x:Int):Int:=if x>127 then x-256 else x
def z9 (n:Int) (l:List Int):Int:=l.foldl (λn x=>n*256+x) n
theorem TQ {n:Int} {l:List Int} (hn:-256<=n/\n<=256) (hl:A3 l) (h3:l.length<=3):∀k,k<=l.length -> -1099511627776<=z9 n (l.take k)/\z9 n (l.take k)<=1099511627776:=by
 match l,h3 with
 | [],_=>intro k hk;simp only[take_nil,z9,List.foldl];omega
 | [a],_ =>
  have ha:=hl a (by simp);intro k hk
  match k with
  | 0=>simp only[take_zero,z9,List.foldl];omega
  | k+1=>simp only[take_succ_cons,take_nil,z9,List.foldl];omega
 | [a,b],_ =>
  have ha:=hl a (by simp);have hb:=hl b (by simp)
  intro k hk
  match k with
  | 0=>simp only[take_zero,z9,List.foldl];omega
  | 1=>simp only[take_succ_cons,take_zero,z9,List.foldl];omega
  | k+2=>simp only[take_succ_cons,take_nil,z9,List.foldl];omega
 | [a,b,c],_ =>
  have ha:=hl a (by simp);have hb:=hl b (by simp)
  have hc:=hl c (by simp);intro k hk
  match k with
  | 0=>simp only[take_zero,z9,List.foldl];omega
  | 1=>simp only[take_succ_cons,take_zero,z9,List.foldl];omega
  | 2=>simp only[take_succ_cons,take_zero,z9,List.foldl];omega
  | k+3=>simp only[take_succ_cons,take_nil,z9,List.foldl];omega
theorem Kw {n:Int} {l:List Int} (hn:-256<=n/\n<=256) (hl:A3 l) (h3:l.length<=3) {off:Nat} (step:Int×Int->Option ((Int×Int)⊕Int)) (ho:off<=1000)
 (hs:∀k (hk:k<l.length) m,step (m,((off+k:Nat):Int))=some (.inl (Es .i64 (wZ (m*2^8)) (wZ l[k]),((off+(k+1):Nat):Int))))
 (he:∀m,step (m,((off+l.length:Nat):Int))=some (.inr m)):loop step (n,(off:Int))=some (z9 n l):=by
 obtain⟨b,h1,rfl⟩:=xG (step:=step) (λk z=>z=(z9 n (l.take k),((off+k:Nat):Int))) l.length (λb=>b=z9 n l)
  (λk z hk e=>by
   subst e;left;refine⟨_,hs k hk _,?_⟩;have ht:l.take (k+1)=l.take k++[l[k]]:=by rw[take_add_one,List.getElem?_eq_getElem hk];rfl
   rw[Z8 (TQ hn hl h3 k (by omega)) (hl _ (getElem_mem hk)),ht];unfold z9;rw[List.foldl_append];rfl)
  (λz e=>by
   subst e;exact⟨_,he _,by rw[take_length]⟩) (x:=(n,(off:Int))) rfl
 exact h1
theorem SP {x0:Int} {l:List Int} (hb:A3 (x0::l)) (h3:l.length<=3):-2147483648<=z9 (B7 x0) l/\z9 (B7 x0) l<=2147483647/\((yS (z9 (B7 x0) l)).length=(x0::l).length->x0::l=yS (z9 (B7 x0) l)):=by
 have h0:=hb x0 (by simp);have hs:(B7 x0=x0/\x0<=127)\/(B7 x0=x0-256/\128<=x0):=by unfold B7;split<;>omega
 generalize B7 x0=s at hs
 match l,h3 with
 | [],_ =>
  simp only[z9,List.foldl];refine⟨by omega,by omega,λ_=>?_⟩;have:xe s (-128) 127=true:=by unfold xe;rw[dT (by omega),dT (by omega)];rfl
  unfold yS;rw[if_pos this,show s%256=x0 by omega]
 | [a],_ =>
  have ha:=hb a (by simp);simp only[z9,List.foldl];refine⟨by omega,by omega,λh=>?_⟩;unfold yS at h ⊢;split at h
  · simp at h
  · split at h
    · next h1 h2=>rw[if_neg h1,if_pos h2,show (s*256+a)/256%256=x0 by omega,show (s*256+a)%256=a by omega]
    · split at h<;>simp at h
 | [a,b],_ =>
  have ha:=hb a (by simp);have hb':=hb b (by simp)
  simp only[z9,List.foldl];refine⟨by omega,by omega,λh=>?_⟩;unfold yS at h ⊢;split at h
  · simp at h
  · split at h
    · simp at h
    · split at h
      · next h1 h2 h3=>rw[if_neg h1,if_neg h2,if_pos h3,show ((s*256+a)*256+b)/65536%256=x0 by omega,show ((s*256+a)*256+b)/256%256=a by omega,show ((s*256+a)*256+b)%256=b by omega]
      · simp at h
 | [a,b,c],_ =>
  have ha:=hb a (by simp);have hb':=hb b (by simp)
  have hc:=hb c (by simp);simp only[z9,List.foldl];refine⟨by omega,by omega,λh=>?_⟩;unfold yS at h ⊢;split at h
  · simp at h
  · split at h
    · simp at h
    · split at h
      · simp at h
      · next h1 h2 h3=>rw[if_neg h1,if_neg h2,if_neg h3,show (((s*256+a)*256+b)*256+c)/16777216%256=x0 by omega,show (((s*256+a)*256+b)*256+c)/65536%256=a by omega,show (((s*256+a)*256+b)*256+c)/256%256=b by omega,show (((s*256+a)*256+b)*256+c)%256=c by omega]
theorem Ei {n:Int} (h:-2147483648<=n/\n<=2147483647):Eh n=n:=by unfold Eh;split<;>(try split)<;>omega
theorem i8 {x:Int} (hx:0<=x/\x<=255):wZ (IntKind.i8.wrap x)=B7 x:=by
 have:IntKind.i8.wrap x=B7 x:=by
  show (let m:=x%256;if (true&&decide (m>=128))=true then m-256 else m)=_;unfold B7;simp only[Bool.true_and,decide_eq_true_eq];split<;>split<;>omega
 rw[this];unfold B7;split<;>exact xN (by omega) (by omega)
theorem SQ {b:List Int} (hb:A3 b) (hn:b.length<=M):∃r,eB b=some r/\fR b=some r/\(r=(0,false)\/∃n,r=(n,true)/\b=yS n /\ -2147483648<=n/\n<=2147483647):=by
 have hn':b.length<=1048576:=hn;unfold eB fR;rw[Ad,CX,wX,wX];cases h14:xe (b.length:Int) 1 4 with
 | false=>exact⟨_,rfl,rfl,.inl rfl⟩
 | true =>
  obtain⟨k1,k4⟩:=ye h14
  match b,k1,k4,hb,hn' with
  | x0::l,k1,k4,hb,hn' =>
   have h3:l.length<=3:=by rw[length_cons]at k4;omega
   have h0:=hb x0 (by simp);have hl:A3 l:=λx hx=>hb x (mem_cons_of_mem _ hx)
   obtain⟨d1,d2,d3⟩:=SP hb h3;have hsg:-256<=B7 x0/\B7 x0<=256:=by unfold B7;split<;>omega
   have w0:wZ x0=x0:=xN (by omega) (by omega);have hcut:cut (x0::l) 1 ((x0::l).length:Int)=some l:=by
    rw[show (1:Int)=((1:Nat):Int)from rfl,As (by simp) (Nat.le_refl _),take_length];rfl
   have hfin:∀d:Int×Bool,True:=λ_=>trivial;have li:loop (λz:Int×Int=>dw l z.1 z.2) (B7 x0,0)=some (z9 (B7 x0) l):=Kw hsg hl h3 (off:=0) _ (by omega) (λk hk m=>by
    show dw l m ((0+k:Nat):Int)=_;rw[Nat.zero_add];unfold dw;rw[xI (by omega),cT,xo hk,wX,xj (by omega),Nat.zero_add]) (λm=>by
    show dw l m ((0+l.length:Nat):Int)=_;rw[Nat.zero_add];unfold dw;rw[xu (by omega),cF])
   have hat:∀k (hk:k<l.length),at? (x0::l) ((1+k:Nat):Int)=some l[k]:=λk hk=>by
    rw[xo (by simp;omega)]
    congr 1
    rw[List.getElem_cons,dif_neg (by omega)]
    congr 1;omega
   have ls:loop (λz:Int×Int=>dY (x0::l) z.1 z.2) (B7 x0,1)=some (z9 (B7 x0) l):=Kw hsg hl h3 (off:=1) _ (by omega) (λk hk m=>by
    show dY (x0::l) m ((1+k:Nat):Int)=_;unfold dY;rw[xI (show ((1+k:Nat):Int)<((x0::l).length:Int) by rw[length_cons];omega),cT,hat k hk,wX,xj (by omega)];rfl) (λm=>by
    show dY (x0::l) m ((1+l.length:Nat):Int)=_;unfold dY;rw[xu (show ¬((1+l.length:Nat):Int)<((x0::l).length:Int) by rw[length_cons];omega),cF])
   have ls1:loop (λz:Int×Int=>dZ (x0::l) z.1 z.2) (B7 x0,1)=some (z9 (B7 x0) l):=Kw hsg hl h3 (off:=1) _ (by omega) (λk hk m=>by
    show dZ (x0::l) m ((1+k:Nat):Int)=_;unfold dZ;rw[xI (show ((1+k:Nat):Int)<((x0::l).length:Int) by rw[length_cons];omega),cT,hat k hk,wX,xj (by omega)];rfl) (λm=>by
    show dZ (x0::l) m ((1+l.length:Nat):Int)=_;unfold dZ;rw[xu (show ¬((1+l.length:Nat):Int)<((x0::l).length:Int) by rw[length_cons];omega),cF])
   have fin1:∀(g:Option (List Int)),g=some (yS (z9 (B7 x0) l))->∃r,(g.bind λt30=>cond ((t30.length:Int) != ((x0::l).length:Int)) (some ((0:Int),false)) (some (z9 (B7 x0) l,true)))=some r/\(r=(0,false)\/∃n,r=(n,true)/\x0::l=yS n /\ -2147483648<=n/\n<=2147483647):=λg hg=>by
    rw[hg,wX];cases he:(((yS (z9 (B7 x0) l)).length:Int) != ((x0::l).length:Int))with
    | true=>exact⟨_,rfl,.inl rfl⟩
    | false =>
     have he':((yS (z9 (B7 x0) l)).length:Int)=((x0::l).length:Int):=by simpa using he
     exact⟨_,rfl,.inr ⟨_,rfl,d3 (by omega),d1,d2⟩⟩
   have p1:=OO (n:=z9 (B7 x0) l) ⟨by omega,by omega⟩;have p2:=Hx (n:=z9 (B7 x0) l)
   rw[Ei ⟨d1,d2⟩]at p1 p2;obtain⟨r,f1,f2⟩:=fin1 _ p1;have f3:((bv (z9 (B7 x0) l)).bind λt30=>cond ((t30.length:Int) != ((x0::l).length:Int)) (some ((0:Int),false)) (some (z9 (B7 x0) l,true)))=some r:=by rw[p2,←p1];exact f1
   refine⟨r,?_,?_,f2⟩
   · rw[Bool.not_true,cF,show at? (x0::l) 0=some x0 from rfl,wX];simp only;rw[hcut,wX,i8 h0,li,wX];exact f1
   · rw[Bool.not_true,cF,show at? (x0::l) 0=some x0 from rfl,wX,w0];by_cases h7:x0>127
     · have hsx:wZ (x0-256)=B7 x0:=by unfold B7;rw[if_pos h7];exact xN (by omega) (by omega)
       rw[dT h7,cT,hsx,ls,wX];exact f3
     · have hsx:B7 x0=x0:=by unfold B7;rw[if_neg h7]
       rw[hsx]at ls1 f3;rw[dF h7,cF,ls1,wX];exact f3

theorem Rj:((2^64:Nat):Int)=18446744073709551616:=by decide
theorem Hz {x:Int} (hx:0<=x/\x<9223372036854775808):zA .i64 x 127=x%128:=by
 show IntKind.i64.wrap (((BitVec.ofInt 64 x&&&BitVec.ofInt 64 127).toNat:Nat):Int)=_;rw[BitVec.toNat_and,BitVec.toNat_ofInt,BitVec.toNat_ofInt,Rj];have h2:((127:Int)%18446744073709551616).toNat=2^7-1:=by decide
 have h1:(x%18446744073709551616).toNat=x.toNat:=by omega
 rw[h1,h2,Nat.and_two_pow_sub_one_eq_mod];show (let z:=((x.toNat%2^7:Nat):Int)%18446744073709551616;if (true&&decide (z>=9223372036854775808))=true then z-18446744073709551616 else z)=_
 simp only[Bool.true_and,decide_eq_true_eq];split<;>omega
theorem If {x:Int} (hx:0<=x/\x<=255):zA .u8 x 127=x%128:=by
 show IntKind.u8.wrap (((BitVec.ofInt 8 x&&&BitVec.ofInt 8 127).toNat:Nat):Int)=_;rw[BitVec.toNat_and,BitVec.toNat_ofInt,BitVec.toNat_ofInt,show ((2^8:Nat):Int)=256 by decide];have h2:((127:Int)%256).toNat=2^7-1:=by decide
 have h1:(x%256).toNat=x.toNat:=by omega
 rw[h1,h2,Nat.and_two_pow_sub_one_eq_mod];show (((x.toNat%2^7:Nat):Int)%256)=_
 omega
theorem Xn {x:Int} (hx:0<=x/\x<128):Es .i64 x 128=x+128:=by
 show IntKind.i64.wrap (((BitVec.ofInt 64 x|||BitVec.ofInt 64 128).toNat:Nat):Int)=_;rw[BitVec.toNat_or,BitVec.toNat_ofInt,BitVec.toNat_ofInt,Rj];have h2:((128:Int)%18446744073709551616).toNat=2^7*1:=by decide
 have h1:(x%18446744073709551616).toNat=x.toNat:=by omega
 rw[h1,h2,Nat.or_comm,←Nat.two_pow_add_eq_or_of_lt (by show x.toNat<2^7;omega)];show (let z:=((2^7*1+x.toNat:Nat):Int)%18446744073709551616;if (true&&decide (z>=9223372036854775808))=true then z-18446744073709551616 else z)=_
 simp only[Bool.true_and,decide_eq_true_eq];split<;>omega
theorem Rk {m x:Int} (hm:0<=m/\m<=1099511627776) (hx:0<=x/\x<128):Es .i64 (wZ (m*2^7)) (wZ x)=m*128+x:=by
 rw[show m*2^7=m*128 from rfl,xN (show -9223372036854775808<=m*128 by omega) (by omega),xN (show -9223372036854775808<=x by omega) (by omega)];show IntKind.i64.wrap (((BitVec.ofInt 64 (m*128)|||BitVec.ofInt 64 x).toNat:Nat):Int)=_
 rw[BitVec.toNat_or,BitVec.toNat_ofInt,BitVec.toNat_ofInt,Rj];have h1:((m*128)%18446744073709551616).toNat=2^7*m.toNat:=by omega
 have h2:(x%18446744073709551616).toNat=x.toNat:=by omega
 rw[h1,h2,←Nat.two_pow_add_eq_or_of_lt (by show x.toNat<2^7;omega)];show (let z:=((2^7*m.toNat+x.toNat:Nat):Int)%18446744073709551616;if (true&&decide (z>=9223372036854775808))=true then z-18446744073709551616 else z)=_
 simp only[Bool.true_and,decide_eq_true_eq];split<;>omega
def grp (n:Int):List Int:=if n<=127 then [n]else if n<=16383 then [n/128+128,n%128]else if n<=2097151 then [n/16384+128,n/128%128+128,n%128]else [n/2097152+128,n/16384%128+128,n/128%128+128,n%128]
def xU (o:List Int):List Int:=o.flatMap grp
theorem TR {n:Int} (hn:0<=n/\n<268435456):e9 n=some (grp n):=by
 unfold e9;have st:∀(x:Int) (out:List Int),0<=x/\x<268435456->out.length<=10->cg x out=cond (decide (x>127)) (some (.inl (x/128,(x/128%128+128)::out))) (some (.inr out)):=λx out hx ho=>by
  unfold cg;rw[fd x (by decide),show (2:Int)^7=128 from rfl,Hz (by omega),Xn (by omega),w8,xh (by simp;omega),wX,show (x/128%128+128)%256=x/128%128+128 by omega];rfl
 have goes:∀(x:Int) (out:List Int),0<=x/\x<268435456->out.length<=9->x<=127->loop (λz:Int×List Int=>cg z.1 z.2) (x,out)=some out:=λx out hx ho h=>xF (by show cg x out=_;rw[st x out hx (by omega),dF (by omega)];rfl);have more:∀(x:Int) (out r:List Int),0<=x/\x<268435456->out.length<=9->127<x->loop (λz:Int×List Int=>cg z.1 z.2) (x/128,(x/128%128+128)::out)=some r->loop (λz:Int×List Int=>cg z.1 z.2) (x,out)=some r:=λx out r hx ho h k=>xx (by show cg x out=_;rw[st x out hx (by omega),dT (by omega)];rfl) k
 rw[Hz (by omega),w8,show n%128%256=n%128 by omega];unfold grp;by_cases h1:n<=127
 · rw[if_pos h1,goes n _ hn (by simp) h1,show n%128=n by omega];rfl
 rw[if_neg h1];by_cases h2:n<=16383
 · rw[if_pos h2,more n _ _ hn (by simp) (by omega) (goes (n/128) _ (by omega) (by simp) (by omega)),show n/128%128=n/128 by omega];rfl
 rw[if_neg h2];by_cases h3:n<=2097151
 · rw[if_pos h3,more n _ _ hn (by simp) (by omega) (more (n/128) _ _ (by omega) (by simp) (by omega) (goes (n/128/128) _ (by omega) (by simp) (by omega))),show n/128/128=n/16384 by omega,show n/16384%128=n/16384 by omega];rfl
 rw[if_neg h3,more n _ _ hn (by simp) (by omega) (more (n/128) _ _ (by omega) (by simp) (by omega) (more (n/128/128) _ _ (by omega) (by simp) (by omega) (goes (n/128/128/128) _ (by omega) (by simp) (by omega)))),show n/128/128=n/16384 by omega,show n/16384/128=n/2097152 by omega,show n/2097152%128=n/2097152 by omega];rfl
theorem Mk (n:Int):(grp n).length<=4:=by unfold grp;split<;>(try split)<;>(try split)<;>simp
theorem Q6 (n:Int):1<=(grp n).length:=by unfold grp;split<;>(try split)<;>(try split)<;>simp
theorem TS {n:Int} (h:n<=100000):(grp n).length<=3:=by unfold grp;split<;>(try split)<;>(try split)<;>simp<;>omega
theorem Dk {o:List Int} (h:∀x∈o,x<=100000):(xU o).length<=3*o.length:=by
 induction o with
 | nil=>simp[xU]
 | cons x t ih =>
  have h1:=ih λy hy=>h y (mem_cons_of_mem _ hy);have h2:=TS (h x (by simp))
  unfold xU at h1 ⊢;rw[List.flatMap_cons,length_append,length_cons];omega
theorem Z9 {n:Int} (hn:0<=n/\n<=100000) {out:List Int} (ho:out.length<=100):∃d,loop (λz=>bP n z) 0=some d/\∃e,loop (λz:Int×List Int=>cq n z.1 z.2) (d,out)=some e/\e.length<=104/\e++[IntKind.u8.wrap (zA .i64 n 127)]=out++grp n:=by
 have s0:bP n 0=cond (decide (n>127)) (some (.inl 1)) (some (.inr 0)):=by
  unfold bP;rw[show shr .i64 n (wZ (7*0))=some (n.fdiv (2^0))from rfl,wX,fd n (by decide),show n/2^0=n by simp];rfl
 have s1:bP n 1=cond (decide (n/128>127)) (some (.inl 2)) (some (.inr 1)):=by
  unfold bP;rw[show shr .i64 n (wZ (7*1))=some (n.fdiv (2^7))from rfl,wX,fd n (by decide),show (2:Int)^7=128 from rfl];rfl
 have s2:bP n 2=some (.inr 2):=by
  unfold bP;rw[show shr .i64 n (wZ (7*2))=some (n.fdiv (2^14))from rfl,wX,fd n (by decide),show (2:Int)^14=16384 from rfl,dF (by omega)];rfl
 have t0:∀o:List Int,cq n 0 o=some (.inr o):=λo=>rfl;have t1:∀o:List Int,o.length<=110->cq n 1 o=some (.inl (0,o++[n/128%128+128])):=λo ho=>by
  unfold cq;rw[show shr .i64 n (wZ (7*1))=some (n.fdiv (2^7))from rfl,wX,fd n (by decide),show (2:Int)^7=128 from rfl,Hz (by omega),xN (by omega) (by omega),w8,xh (by simp;omega),wX,show (n/128%128+128)%256=n/128%128+128 by omega];rfl
 have t2:∀o:List Int,o.length<=110->cq n 2 o=some (.inl (1,o++[n/16384%128+128])):=λo ho=>by
  unfold cq;rw[show shr .i64 n (wZ (7*2))=some (n.fdiv (2^14))from rfl,wX,fd n (by decide),show (2:Int)^14=16384 from rfl,Hz (by omega),xN (by omega) (by omega),w8,xh (by simp;omega),wX,show (n/16384%128+128)%256=n/16384%128+128 by omega];rfl
 rw[Hz (by omega),w8,show n%128%256=n%128 by omega];unfold grp;by_cases h1:n<=127
 · rw[dF (by omega)]at s0;refine⟨0,xF s0,out,xF (t0 out),by omega,?_⟩;rw[if_pos h1,show n%128=n by omega]
 rw[dT (by omega)]at s0;by_cases h2:n<=16383
 · rw[dF (by omega)]at s1;refine⟨1,xx s0 (xF s1),_,xx (t1 out (by omega)) (xF (t0 _)),by simp;omega,?_⟩;rw[if_neg h1,if_pos h2,show n/128%128=n/128 by omega];simp
 rw[dT (by omega)]at s1;refine⟨2,xx s0 (xx s1 (xF s2)),_,xx (t2 out (by omega)) (xx (t1 _ (by simp;omega)) (xF (t0 _))),by simp;omega,?_⟩;rw[if_neg h1,if_neg h2,if_pos (by omega),show n/16384%128=n/16384 by omega];simp
theorem Xo {o:List Int} (hn:o.length<=M):∃v,ak o=some v/\(v=true->1<=o.length/\o.length<=10/\∀x∈o,0<=x/\x<=100000)/\cr o=some (cond v (xU o) []):=by
 have hn':o.length<=1048576:=hn;obtain⟨v,hv,hv2⟩:∃v,ak o=some v/\(v=true->1<=o.length/\o.length<=10/\∀x∈o,0<=x/\x<=100000):=by
  unfold ak;obtain⟨b,h1,h2⟩:=xG (β:=Unit⊕Bool) (step:=λz=>aJ o z) (λk i=>i=(k:Int)/\∀x∈o.take k,0<=x/\x<=100000) o.length (λb=>(b=.inl ()/\∀x∈o,0<=x/\x<=100000)\/b=.inr false)
   (λk i hk ⟨e,hx⟩=>by
    subst e;have hs:aJ o (k:Int)=cond (!(xe o[k] 0 100000)) (some (.inr (.inr false))) (some (.inl ((k+1:Nat):Int))):=by
     unfold aJ;rw[xI (by omega),cT,xo hk,wX,Ad,wX,xj (by omega)]
    cases hp:xe o[k] 0 100000 with
    | false=>exact .inr ⟨_,by rw[hs,hp];rfl,.inr rfl⟩
    | true =>
     refine .inl ⟨_,by rw[hs,hp];rfl,rfl,λx hx'=>?_⟩;rw[take_add_one,List.getElem?_eq_getElem hk,mem_append]at hx';rcases hx' with hx'|hx'
     · exact hx x hx'
     · simp at hx';subst hx';exact ye hp)
   (λi ⟨e,hx⟩=>by
    subst e;rw[take_length]at hx;refine⟨.inl (),?_,.inl ⟨rfl,hx⟩⟩;unfold aJ;rw[xu (by omega),cF]) (x:=0) ⟨rfl,by simp⟩
  rw[h1,wX];rcases h2 with ⟨rfl,hx⟩|rfl
  · simp only[Sum.elim_inl,Ad,wX];refine⟨_,rfl,λh=>?_⟩;have:=ye h
    exact⟨by omega,by omega,hx⟩
  · exact⟨false,rfl,λh=>by cases h⟩
 refine⟨v,hv,hv2,?_⟩;unfold cr;rw[hv,wX];cases v with
 | false=>rfl
 | true =>
  obtain⟨h1,h10,hx⟩:=hv2 rfl;obtain⟨b,e1,rfl⟩:=xG (step:=λz:Int×List Int=>dx o z.1 z.2) (λk z=>z=((k:Int),xU (o.take k))) o.length (λb=>b=xU o)
   (λk z hk e=>by
    subst e;left;have hl:(xU (o.take k)).length<=30:=by
     have:=Dk (o:=o.take k) λx hx'=>(hx x (List.mem_of_mem_take hx')).2;rw[length_take]at this;omega
    obtain⟨d,d1,e,e1,e2,e3⟩:=Z9 (hx _ (getElem_mem hk)) (out:=xU (o.take k)) (by omega);have ht:xU (o.take (k+1))=xU (o.take k)++grp o[k]:=by
     unfold xU;rw[take_add_one,List.getElem?_eq_getElem hk,flatMap_append];simp
    refine⟨_,?_,rfl⟩;show dx o (k:Int) (xU (o.take k))=_
    unfold dx;rw[xI (by omega),cT,xo hk,wX,d1,wX,e1,wX,xh (by simp;omega),wX,xj (by omega),ht,←e3])
   (λz e=>by
    subst e;refine⟨xU o,?_,rfl⟩;show dx o (o.length:Int) (xU (o.take o.length))=_
    unfold dx;rw[xu (by omega),cF,take_length]) (x:=(0,[])) rfl
  rw[e1];rfl

theorem Ml {n:Int} (h:0<=n/\n<268435456):A3 (grp n):=by
 unfold grp;intro x hx;split at hx
 · simp at hx;omega
 · split at hx
   · simp at hx;omega
   · split at hx
     · simp at hx;omega
     · simp at hx;omega
theorem Yr {pre rest out:List Int} {n:Int} (hn:0<=n/\n<=100000) (hp:pre.length<=30) (ho:out.length<=100) {r:List Int⊕(Bool×List Int)}
 (k:loop (λz:Int×Int×List Int=>av (pre++(grp n++rest)) z.1 z.2.1 z.2.2) (0,((pre.length+(grp n).length:Nat):Int),out++[n])=some r) :
 loop (λz:Int×Int×List Int=>av (pre++(grp n++rest)) z.1 z.2.1 z.2.2) (0,(pre.length:Int),out)=some r:=by
 have hg:=Ml (n:=n) (by omega);have st:∀(m:Int) (j:Nat) (o:List Int) (hj:j<(grp n).length),0<=m/\m<=1048576->o.length<=100->av (pre++(grp n++rest)) m ((pre.length+j:Nat):Int) o=cond (decide ((grp n)[j]<128)) (some (.inl (0,((pre.length+(j+1):Nat):Int),o++[m*128+(grp n)[j]%128]))) (some (.inl (m*128+(grp n)[j]%128,((pre.length+(j+1):Nat):Int),o))):=λm j o hj hm ho=>by
  have h4:=Mk n;have hx:=hg _ (getElem_mem hj)
  have hat:at? (pre++(grp n++rest)) ((pre.length+j:Nat):Int)=some (grp n)[j]:=by
   rw[Hy,xo (by rw[length_append];omega),List.getElem_append_left hj]
  unfold av;rw[xI (show ((pre.length+j:Nat):Int)<((pre++(grp n++rest)).length:Int) by rw[length_append,length_append];omega),cT,hat,wX,dF (show ¬((pre.length+j:Nat):Int)>=40 by omega),cF,If hx,xj (by omega)];have hmin:min2 m 1048576=m:=by unfold min2;split<;>omega
  rw[hmin,Rk (by omega) (by omega)];simp only;rw[xh (by simp;omega),wX];rfl
 have h4:=Mk n;have hz:(0:Int)*128=0:=rfl
 unfold grp at k st ⊢;by_cases h1:n<=127
 · rw[if_pos h1]at k st ⊢;have s0:=st 0 0 out (by simp) (by omega) ho
   simp only[getElem_cons_zero,Nat.add_zero]at s0;rw[dT (by omega),cT,show (0:Int)*128+n%128=n by omega]at s0;exact xx s0 k
 rw[if_neg h1]at k st ⊢;by_cases h2:n<=16383
 · rw[if_pos h2]at k st ⊢;have s0:=st 0 0 out (by simp) (by omega) ho
   have s1:=st (n/128) 1 out (by simp) (by omega) ho;simp only[getElem_cons_zero,getElem_cons_succ,Nat.add_zero,Nat.zero_add,Nat.reduceAdd]at s0 s1;rw[dF (by omega),cF,show (0:Int)*128+(n/128+128)%128=n/128 by omega]at s0;rw[dT (by omega),cT,show n/128*128+n%128%128=n by omega]at s1;exact xx s0 (xx s1 k)
 rw[if_neg h2]at k st ⊢;rw[if_pos (show n<=2097151 by omega)]at k st ⊢;have s0:=st 0 0 out (by simp) (by omega) ho
 have s1:=st (n/16384) 1 out (by simp) (by omega) ho;have s2:=st (n/128) 2 out (by simp) (by omega) ho
 simp only[getElem_cons_zero,getElem_cons_succ,Nat.add_zero,Nat.zero_add,Nat.reduceAdd]at s0 s1 s2;rw[dF (by omega),cF,show (0:Int)*128+(n/16384+128)%128=n/16384 by omega]at s0;rw[dF (by omega),cF,show n/16384*128+(n/128%128+128)%128=n/128 by omega]at s1;rw[dT (by omega),cT,show n/128*128+n%128%128=n by omega]at s2;exact xx s0 (xx s1 (xx s2 k))
theorem OQ {b:List Int}:∀(o pre out:List Int),b=pre++xU o->(∀x∈o,0<=x/\x<=100000)->b.length<=30->out.length+o.length<=20->loop (λz:Int×Int×List Int=>av b z.1 z.2.1 z.2.2) (0,(pre.length:Int),out)=some (.inl (out++o))
 | [],pre,out,e,_,hb,_=>by
  have:b.length=pre.length:=by rw[e];simp[xU]
  refine xF ?_;show av b 0 (pre.length:Int) out=_
  unfold av;rw[xu (by omega),cF,List.append_nil]
 | n::o,pre,out,e,hx,hb,hl=>by
  have e1:b=pre++(grp n++xU o):=by rw[e];rfl
  have e2:b=(pre++grp n)++xU o:=by rw[e1,append_assoc]
  have ih:=OQ o (pre++grp n) (out++[n]) e2 (λx h=>hx x (mem_cons_of_mem _ h)) hb (by simp at hl ⊢;omega);rw[length_append,append_assoc]at ih;have hpl:pre.length<=30:=by rw[e1,length_append]at hb;omega
  rw[length_cons]at hl;rw[e1]at ih ⊢;exact Yr (hx n (by simp)) hpl (by omega) ih
theorem Ys {b pre s:List Int} (e:b=pre++s) (hb:A3 b) (hn:b.length<=M):∃d:Int×Int×Int×Bool,loop (λz:Int×Int×Int×Bool=>aI b z.1 z.2.1 z.2.2.1 z.2.2.2) ((pre.length:Int),0,0,true)=some d /\
 (d.2.2.2=true\/∃l rest:List Int,s=l++rest/\1<=l.length/\d=(((pre.length+l.length:Nat):Int),d.2.1,(l.length:Int),false)/\0<=d.2.1/\d.2.1<268435456/\((grp d.2.1).length=l.length->l=grp d.2.1))/\0<=d.2.1/\d.2.1<268435456/\0<=d.1/\d.1<=(b.length:Int):=by
 have hn':b.length<=1048576:=hn;have hlen:b.length=pre.length+s.length:=by rw[e,length_append]
 have st:∀(m:Int) (j:Nat) (hj:j<s.length),j<4->0<=m/\m<=2097152->aI b ((pre.length+j:Nat):Int) m (j:Int) true=some (.inl (((pre.length+(j+1):Nat):Int),m*128+s[j]%128,((j+1:Nat):Int),decide (s[j]>127))):=λm j hj h4 hm=>by
  have hx:0<=s[j]/\s[j]<=255:=hb _ (by rw[e];exact List.mem_append_right _ (getElem_mem hj));have hat:at? b ((pre.length+j:Nat):Int)=some s[j]:=by rw[e,Hy,xo hj]
  unfold aI;rw[xI (show ((pre.length+j:Nat):Int)<(b.length:Int) by omega),cT,wX,cT,xI (show (j:Int)<4 by omega),wX,cT,hat,wX,wX,If hx,Rk (by omega) (by omega),xj (by omega),xj (by omega)];rfl
 have stop:∀(m:Int) (j:Nat),aI b ((pre.length+j:Nat):Int) m (j:Int) false=some (.inr (((pre.length+j:Nat):Int),m,(j:Int),false)):=λm j=>by
  unfold aI;rfl
 have endd:∀(m:Int) (j:Nat),(s.length<=j\/4<=j)->aI b ((pre.length+j:Nat):Int) m (j:Int) true=some (.inr (((pre.length+j:Nat):Int),m,(j:Int),true)):=λm j h=>by
  unfold aI;rw[cT,wX];by_cases h1:((pre.length+j:Nat):Int)<(b.length:Int)
  · rw[xI h1,cT,xu (show ¬(j:Int)<4 by omega)];rfl
  · rw[xu h1,cF];rfl
 have hsx:∀j (hj:j<s.length),0<=s[j]/\s[j]<=255:=λj hj=>hb _ (by rw[e];exact List.mem_append_right _ (getElem_mem hj));by_cases l0:s.length<=0
 · exact⟨_,xF (endd 0 0 (.inl l0)),.inl rfl,by show (0:Int)<=0/\(0:Int)<_/\_;omega⟩
 have a0:=st 0 0 (by omega) (by omega) (by omega);have x0:=hsx 0 (by omega)
 generalize g0:s[0]=y0 at a0 x0;by_cases m0:y0>127
 · rw[dT m0]at a0;by_cases l1:s.length<=1
   · exact⟨_,xx a0 (xF (endd _ 1 (.inl l1))),.inl rfl,by show 0<=(0:Int)*128+y0%128/\(0:Int)*128+y0%128<_/\(0:Int)<=((pre.length+1:Nat):Int)/\((pre.length+1:Nat):Int)<=_;omega⟩
   have a1:=st (0*128+y0%128) 1 (by omega) (by omega) (by omega);have x1:=hsx 1 (by omega)
   generalize g1:s[1]=y1 at a1 x1;by_cases m1:y1>127
   · rw[dT m1]at a1;by_cases l2:s.length<=2
     · exact⟨_,xx a0 (xx a1 (xF (endd _ 2 (.inl l2)))),.inl rfl,by show 0<=((0:Int)*128+y0%128)*128+y1%128/\((0:Int)*128+y0%128)*128+y1%128<_/\(0:Int)<=((pre.length+2:Nat):Int)/\((pre.length+2:Nat):Int)<=_;omega⟩
     have a2:=st ((0*128+y0%128)*128+y1%128) 2 (by omega) (by omega) (by omega);have x2:=hsx 2 (by omega)
     generalize g2:s[2]=y2 at a2 x2;by_cases m2:y2>127
     · rw[dT m2]at a2;by_cases l3:s.length<=3
       · exact⟨_,xx a0 (xx a1 (xx a2 (xF (endd _ 3 (.inl l3))))),.inl rfl,by show 0<=(((0:Int)*128+y0%128)*128+y1%128)*128+y2%128/\(((0:Int)*128+y0%128)*128+y1%128)*128+y2%128<_/\(0:Int)<=((pre.length+3:Nat):Int)/\((pre.length+3:Nat):Int)<=_;omega⟩
       have a3:=st (((0*128+y0%128)*128+y1%128)*128+y2%128) 3 (by omega) (by omega) (by omega);have x3:=hsx 3 (by omega)
       generalize g3:s[3]=y3 at a3 x3;by_cases m3:y3>127
       · rw[dT m3]at a3;exact⟨_,xx a0 (xx a1 (xx a2 (xx a3 (xF (endd _ 4 (.inr (by omega))))))),.inl rfl,by show 0<=((((0:Int)*128+y0%128)*128+y1%128)*128+y2%128)*128+y3%128/\((((0:Int)*128+y0%128)*128+y1%128)*128+y2%128)*128+y3%128<_/\(0:Int)<=((pre.length+4:Nat):Int)/\((pre.length+4:Nat):Int)<=_;omega⟩
       · rw[dF m3]at a3;have d0:s.drop 0=s[0]::s.drop 1:=drop_eq_getElem_cons (by omega)
         have d1:s.drop 1=s[1]::s.drop 2:=drop_eq_getElem_cons (by omega);have d2:s.drop 2=s[2]::s.drop 3:=drop_eq_getElem_cons (by omega)
         have d3:s.drop 3=s[3]::s.drop 4:=drop_eq_getElem_cons (by omega);have hs:s=y0::y1::y2::y3::s.drop 4:=by
          rw[drop_zero]at d0;exact d0.trans (by rw[g0,d1,g1,d2,g2,d3,g3])
         refine⟨_,xx a0 (xx a1 (xx a2 (xx a3 (xF (stop _ 4))))),.inr ⟨[y0,y1,y2,y3],s.drop 4,hs,by simp,rfl,?_,?_,?_⟩,?_⟩
         · show 0<=((((0:Int)*128+y0%128)*128+y1%128)*128+y2%128)*128+y3%128;omega
         · show ((((0:Int)*128+y0%128)*128+y1%128)*128+y2%128)*128+y3%128<_;omega
         · show (grp (((((0:Int)*128+y0%128)*128+y1%128)*128+y2%128)*128+y3%128)).length=_->_=grp (((((0:Int)*128+y0%128)*128+y1%128)*128+y2%128)*128+y3%128);intro h;generalize hv:((((0:Int)*128+y0%128)*128+y1%128)*128+y2%128)*128+y3%128=v at h ⊢;unfold grp at h ⊢;split at h
           · simp at h
           · split at h
             · simp at h
             · split at h
               · simp at h
               · next q1 q2 q3=>rw[if_neg q1,if_neg q2,if_neg q3,show v/2097152+128=y0 by omega,show v/16384%128+128=y1 by omega,show v/128%128+128=y2 by omega,show v%128=y3 by omega]
         · show 0<=((((0:Int)*128+y0%128)*128+y1%128)*128+y2%128)*128+y3%128/\((((0:Int)*128+y0%128)*128+y1%128)*128+y2%128)*128+y3%128<_/\(0:Int)<=((pre.length+4:Nat):Int)/\((pre.length+4:Nat):Int)<=_;omega
     · rw[dF m2]at a2;have d0:s.drop 0=s[0]::s.drop 1:=drop_eq_getElem_cons (by omega)
       have d1:s.drop 1=s[1]::s.drop 2:=drop_eq_getElem_cons (by omega);have d2:s.drop 2=s[2]::s.drop 3:=drop_eq_getElem_cons (by omega)
       have hs:s=y0::y1::y2::s.drop 3:=by
        rw[drop_zero]at d0;exact d0.trans (by rw[g0,d1,g1,d2,g2])
       refine⟨_,xx a0 (xx a1 (xx a2 (xF (stop _ 3)))),.inr ⟨[y0,y1,y2],s.drop 3,hs,by simp,rfl,?_,?_,?_⟩,?_⟩
       · show 0<=(((0:Int)*128+y0%128)*128+y1%128)*128+y2%128;omega
       · show (((0:Int)*128+y0%128)*128+y1%128)*128+y2%128<_;omega
       · show (grp ((((0:Int)*128+y0%128)*128+y1%128)*128+y2%128)).length=_->_=grp ((((0:Int)*128+y0%128)*128+y1%128)*128+y2%128);intro h;generalize hv:(((0:Int)*128+y0%128)*128+y1%128)*128+y2%128=v at h ⊢;unfold grp at h ⊢;split at h
         · simp at h
         · split at h
           · simp at h
           · split at h
             · next q1 q2 q3=>rw[if_neg q1,if_neg q2,if_pos q3,show v/16384+128=y0 by omega,show v/128%128+128=y1 by omega,show v%128=y2 by omega]
             · simp at h
       · show 0<=(((0:Int)*128+y0%128)*128+y1%128)*128+y2%128/\(((0:Int)*128+y0%128)*128+y1%128)*128+y2%128<_/\(0:Int)<=((pre.length+3:Nat):Int)/\((pre.length+3:Nat):Int)<=_;omega
   · rw[dF m1]at a1;have d0:s.drop 0=s[0]::s.drop 1:=drop_eq_getElem_cons (by omega)
     have d1:s.drop 1=s[1]::s.drop 2:=drop_eq_getElem_cons (by omega);have hs:s=y0::y1::s.drop 2:=by
      rw[drop_zero]at d0;exact d0.trans (by rw[g0,d1,g1])
     refine⟨_,xx a0 (xx a1 (xF (stop _ 2))),.inr ⟨[y0,y1],s.drop 2,hs,by simp,rfl,?_,?_,?_⟩,?_⟩
     · show 0<=((0:Int)*128+y0%128)*128+y1%128;omega
     · show ((0:Int)*128+y0%128)*128+y1%128<_;omega
     · show (grp (((0:Int)*128+y0%128)*128+y1%128)).length=_->_=grp (((0:Int)*128+y0%128)*128+y1%128);intro h;generalize hv:((0:Int)*128+y0%128)*128+y1%128=v at h ⊢;unfold grp at h ⊢;split at h
       · simp at h
       · split at h
         · next q1 q2=>rw[if_neg q1,if_pos q2,show v/128+128=y0 by omega,show v%128=y1 by omega]
         · split at h<;>simp at h
     · show 0<=((0:Int)*128+y0%128)*128+y1%128/\((0:Int)*128+y0%128)*128+y1%128<_/\(0:Int)<=((pre.length+2:Nat):Int)/\((pre.length+2:Nat):Int)<=_;omega
 · rw[dF m0]at a0;have d0:s.drop 0=s[0]::s.drop 1:=drop_eq_getElem_cons (by omega)
   have hs:s=y0::s.drop 1:=by
    rw[drop_zero]at d0;exact d0.trans (by rw[g0])
   refine⟨_,xx a0 (xF (stop _ 1)),.inr ⟨[y0],s.drop 1,hs,by simp,rfl,?_,?_,?_⟩,?_⟩
   · show 0<=(0:Int)*128+y0%128;omega
   · show (0:Int)*128+y0%128<_;omega
   · show (grp ((0:Int)*128+y0%128)).length=_->_=grp ((0:Int)*128+y0%128);intro h;generalize hv:(0:Int)*128+y0%128=v at h ⊢;unfold grp at h ⊢;split at h
     · next q1=>rw[if_pos q1,show v=y0 by omega]
     · split at h
       · simp at h
       · split at h<;>simp at h
   · show 0<=(0:Int)*128+y0%128/\(0:Int)*128+y0%128<_/\(0:Int)<=((pre.length+1:Nat):Int)/\((pre.length+1:Nat):Int)<=_;omega

def Za (o:List Int):Prop:=1<=o.length/\o.length<=10/\∀x∈o,0<=x/\x<=100000
theorem Yt {pre rest:List Int} {n:Int} (hn:0<=n/\n<=100000) (hp:pre.length<=1000):loop (λz:Int×Int×Int×Bool=>aI (pre++(grp n++rest)) z.1 z.2.1 z.2.2.1 z.2.2.2) ((pre.length:Int),0,0,true)=some (((pre.length+(grp n).length:Nat):Int),n,((grp n).length:Int),false):=by
 have hg:=Ml (n:=n) (by omega);have st:∀(m:Int) (j:Nat) (hj:j<(grp n).length),j<4->0<=m/\m<=2097152->aI (pre++(grp n++rest)) ((pre.length+j:Nat):Int) m (j:Int) true=some (.inl (((pre.length+(j+1):Nat):Int),m*128+(grp n)[j]%128,((j+1:Nat):Int),decide ((grp n)[j]>127))):=λm j hj h4 hm=>by
  have hx:=hg _ (getElem_mem hj);have hat:at? (pre++(grp n++rest)) ((pre.length+j:Nat):Int)=some (grp n)[j]:=by rw[Hy,xo (by rw[length_append];omega),List.getElem_append_left hj]
  unfold aI;rw[xI (show ((pre.length+j:Nat):Int)<((pre++(grp n++rest)).length:Int) by rw[length_append,length_append];omega),cT,wX,cT,xI (show (j:Int)<4 by omega),wX,cT,hat,wX,wX,If hx,Rk (by omega) (by omega),xj (by omega),xj (by omega)];rfl
 have stop:∀(m:Int) (j:Nat),aI (pre++(grp n++rest)) ((pre.length+j:Nat):Int) m (j:Int) false=some (.inr (((pre.length+j:Nat):Int),m,(j:Int),false)):=λm j=>by
  unfold aI;rfl
 unfold grp at st stop ⊢;by_cases h1:n<=127
 · rw[if_pos h1]at st stop ⊢;have s0:=st 0 0 (by simp) (by omega) (by omega)
   simp only[getElem_cons_zero]at s0;rw[dF (by omega),show (0:Int)*128+n%128=n by omega]at s0;exact xx s0 (xF (stop n 1))
 rw[if_neg h1]at st stop ⊢;by_cases h2:n<=16383
 · rw[if_pos h2]at st stop ⊢;have s0:=st 0 0 (by simp) (by omega) (by omega)
   have s1:=st (n/128) 1 (by simp) (by omega) (by omega);simp only[getElem_cons_zero,getElem_cons_succ]at s0 s1;rw[dT (by omega),show (0:Int)*128+(n/128+128)%128=n/128 by omega]at s0;rw[dF (by omega),show n/128*128+n%128%128=n by omega]at s1;exact xx s0 (xx s1 (xF (stop n 2)))
 rw[if_neg h2]at st stop ⊢;rw[if_pos (show n<=2097151 by omega)]at st stop ⊢;have s0:=st 0 0 (by simp) (by omega) (by omega)
 have s1:=st (n/16384) 1 (by simp) (by omega) (by omega);have s2:=st (n/128) 2 (by simp) (by omega) (by omega)
 simp only[getElem_cons_zero,getElem_cons_succ]at s0 s1 s2;rw[dT (by omega),show (0:Int)*128+(n/16384+128)%128=n/16384 by omega]at s0;rw[dT (by omega),show n/16384*128+(n/128%128+128)%128=n/128 by omega]at s1;rw[dF (by omega),show n/128*128+n%128%128=n by omega]at s2;exact xx s0 (xx s1 (xx s2 (xF (stop n 3))))
end Go.V.W
