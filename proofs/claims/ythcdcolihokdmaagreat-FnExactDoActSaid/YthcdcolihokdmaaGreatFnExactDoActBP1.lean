/- The law FnExactDoAct: part of the proof that for every input it returns true. No condition. -/
import Derived.KernelRfl
import Derived.Test.YthcdcolihokdmaaGreatFnExactDoAct
import Derived.Test.YthcdcolihokdmaaGreatFnExactDoActM
open List (any_eq_false any_eq_true append_assoc cons_lt_cons_iff drop_eq_getElem_cons drop_zero flatMap_append getElem_mem getElem_of_mem length_append length_cons length_drop length_map length_nil length_set length_take map_append mem_append mem_cons mem_cons_of_mem mem_flatMap mem_map mem_range not_mem_nil pairwise_append pairwise_cons range_succ take_add_one take_append_drop take_length take_nil take_succ_cons take_zero)
set_option linter.unusedVariables false
set_option linter.unusedSimpArgs false
namespace Go.V.W
theorem wC {α β:Type} (a:α) (f:α->Option β):(some a).bind f=f a:=rfl
abbrev M:Nat:=1048576
abbrev In (left:Int):Prop:=0<=left/\left<=1048576
theorem In.next {left r:Int} (h:In left) (h1:0<=r) (h2:r<=left):In r:=⟨h1,by have:=h.2;omega⟩
theorem Ap {n:Nat} (h:n<=M):n<=4294967295:=Nat.le_trans h (by decide)
theorem O2 {a:List Int} {left:Int} (hl:In left) (h:a.length<=maxLen):zM left (fj a left) (a.length<=M):=Dz hl h
theorem LF {a:List Int} {left:Int} (hl:In left) (h:a.length<=maxLen):zM left (fk a left) (a.length<=M):=Dz hl h
theorem Xo {a:List Pt} {left:Int} (hl:In left) (h:a.length<=maxLen):zM left (jc a left) (a.length<=M):=Dz hl h
theorem UC {a:List wJ} {left:Int} (hl:In left) (h:a.length<=maxLen):zM left (jd a left) (a.length<=M):=Dz hl h
theorem UD {a:List wY} {left:Int} (hl:In left) (h:a.length<=maxLen):zM left (je a left) (a.length<=M):=Dz hl h
theorem W8 {a:xO} {left:Int} (hl:In left) (h:a.1.length<=maxLen/\a.2.length<=maxLen):zM left (jf a left) (a.1.length<=M/\a.2.length<=M/\True) :=
 yZ (UD hl h.1) λr h1 h2=>yZ (O2 (hl.next h1 h2) h.2) λr h1 h2=>Bm h1
def A4 (n:Nat) (b:wD):Prop:=b.2.1.length<=n/\b.2.2.1.length<=n/\b.2.2.2.1.length<=n/\b.2.2.2.2.1.length<=n/\b.2.2.2.2.2.1.length<=n
theorem O3 {b:wD} {left:Int} (hl:In left) (h:A4 maxLen b):zM left (gQ b left) (A4 M b):=by
 obtain⟨h1,h2,h3,h4,h5⟩:=h;refine Bt (Fb hl h1 λr k1 k2=>yZ (Xo (hl.next k1 k2) h2) λr' k3 k4=>yZ (UC ((hl.next k1 k2).next k3 k4) h3) λr'' k5 k6=>yZ (W8 (a:=(b.2.2.2.2.1,b.2.2.2.2.2.1)) (((hl.next k1 k2).next k3 k4).next k5 k6) ⟨h4,h5⟩) λr3 k7 k8=>Bm k7) ?_;rintro⟨a1,a2,a3,⟨a4,a5,_⟩,_⟩;exact⟨a1,a2,a3,a4,a5⟩
def Pw (n:Nat) (v:zH):Prop:=v.2.2.1.length<=n/\v.2.2.2.length<=n
theorem Xp {v:zH} {left:Int} (hl:In left) (h:Pw maxLen v):zM left (jg v left) (Pw M v) :=
 Bt (Fb hl h.1 λr k1 k2=>yZ (O2 (hl.next k1 k2) h.2) λr' k3 k4=>Bm k3) λ⟨a,b,_⟩=>⟨a,b⟩
def E8 (n:Nat) (x:wF):Prop:=x.1.length<=n/\Pw n x.2
theorem W9 {x:wF} {left:Int} (hl:In left) (h:E8 maxLen x):zM left (gR x left) (E8 M x) :=
 Bt (yZ (O2 hl h.1) λr k1 k2=>yZ (Xp (hl.next k1 k2) h.2) λr' k3 k4=>Bm k3) λ⟨a,b,_⟩=>⟨a,b⟩
def CS (n:Nat) (l:List wF):Prop:=l.length<=n/\∀x∈l,E8 n x
theorem UE {l:List wF} {left:Int} (hl:In left) (h:CS maxLen l):zM left (jh l left) (CS M l):=by
 have hn:l.length<=9223372036854775807:=h.1;show zM left (let l1:=wE (left-(l.length:Int));cond (decide (l1<0)) (some (-1)) ((loop (λz=>mY l z.1 z.2) (l1,0)).bind (Sum.elim (λd=>some d) (λr=>some r)))) _
 by_cases hle:l.length<=M
 · exact Bt (Fb hl h.1 λr k1 k2=>Mm (f:=gR) (Q:=E8 M) (λx hx l' h1 h2=>W9 ⟨h1,h2⟩ (h.2 x hx)) (Ap hle) (hl.next k1 k2)) λ⟨a,b⟩=>⟨a,b⟩
 · refine⟨-1,?_,.inl rfl⟩;show cond (decide (wE (left-(l.length:Int))<0)) _ _=_
   have:M<l.length:=by omega
   have hM:(1048576:Int)<(l.length:Int):=by have:1048576<l.length:=this;omega
   have:=hl.2;rw[xq (by omega) (by omega),xk (by omega),cT]
def zk (n:Nat) (p:xg):Prop:=CS n p.2.2.2.2
theorem Xq {p:xg} {left:Int} (hl:In left) (h:zk maxLen p):zM left (ji p left) (zk M p) :=
 Bt (yZ (UE hl h) λr k1 k2=>Bm k1) λ⟨a,_⟩=>a
def jP (j:xl):xg:=(j.2.2.2.1,j.2.2.2.2.1,j.2.2.2.2.2.1,j.2.2.2.2.2.2.1,j.2.2.2.2.2.2.2.1)
def jB (a0:xl):wD:=(a0.2.2.2.2.2.2.2.2.1,a0.2.2.2.2.2.2.2.2.2.1,a0.2.2.2.2.2.2.2.2.2.2.1,a0.2.2.2.2.2.2.2.2.2.2.2.1,a0.2.2.2.2.2.2.2.2.2.2.2.2.1,a0.2.2.2.2.2.2.2.2.2.2.2.2.2.1,a0.2.2.2.2.2.2.2.2.2.2.2.2.2.2.1,a0.2.2.2.2.2.2.2.2.2.2.2.2.2.2.2.1,a0.2.2.2.2.2.2.2.2.2.2.2.2.2.2.2.2.1,a0.2.2.2.2.2.2.2.2.2.2.2.2.2.2.2.2.2.1,a0.2.2.2.2.2.2.2.2.2.2.2.2.2.2.2.2.2.2.1)
def Jr (n:Nat) (j:xl):Prop:=j.2.1.length<=n/\zk n (jP j)/\A4 n (jB j)
theorem Xr {j:xl} {left:Int} (hl:In left) (h:Jr maxLen j):zM left (gS j left) (Jr M j) :=
 Bt (yZ (LF hl h.1) λr k1 k2=>yZ (Xq (p:=jP j) (hl.next k1 k2) h.2.1) λr' k3 k4=>yZ (O3 (b:=jB j) ((hl.next k1 k2).next k3 k4) h.2.2) λr'' k5 k6=>Bm k5) λ⟨a,b,c,_⟩=>⟨a,b,c⟩
def O4 (n:Nat) (l:List xl):Prop:=l.length<=n/\∀x∈l,Jr n x
theorem Wa {l:List xl} {left:Int} (hl:In left) (h:O4 maxLen l):zM left (jj l left) (O4 M l):=by
 have hn:l.length<=9223372036854775807:=h.1;show zM left (let l1:=wE (left-(l.length:Int));cond (decide (l1<0)) (some (-1)) ((loop (λz=>n9 l z.1 z.2) (l1,0)).bind (Sum.elim (λd=>some d) (λr=>some r)))) _
 by_cases hle:l.length<=M
 · exact Bt (Fb hl h.1 λr k1 k2=>Mm (f:=gS) (Q:=Jr M) (λx hx l' h1 h2=>Xr ⟨h1,h2⟩ (h.2 x hx)) (Ap hle) (hl.next k1 k2)) λ⟨a,b⟩=>⟨a,b⟩
 · refine⟨-1,?_,.inl rfl⟩;show cond (decide (wE (left-(l.length:Int))<0)) _ _=_
   have:M<l.length:=by omega
   have hM:(1048576:Int)<(l.length:Int):=by have:1048576<l.length:=this;omega
   have:=hl.2;rw[xq (by omega) (by omega),xk (by omega),cT]
def aB (a0:wW):wD:=(a0.1,a0.2.1,a0.2.2.1,a0.2.2.2.1,a0.2.2.2.2.1,a0.2.2.2.2.2.1,a0.2.2.2.2.2.2.1,a0.2.2.2.2.2.2.2.1,a0.2.2.2.2.2.2.2.2.1,a0.2.2.2.2.2.2.2.2.2.1,a0.2.2.2.2.2.2.2.2.2.2.1)
def Fy (n:Nat) (a:wW):Prop:=A4 n (aB a)/\a.2.2.2.2.2.2.2.2.2.2.2.1.length<=n/\O4 n a.2.2.2.2.2.2.2.2.2.2.2.2.1
theorem UF {a:wW} {left:Int} (hl:In left) (h:Fy maxLen a):zM left (ja a left) (Fy M a) :=
 Bt (yZ (O3 (b:=aB a) hl h.1) λr k1 k2=>Fb (hl.next k1 k2) h.2.1 λr' k3 k4=>yZ (Wa ((hl.next k1 k2).next k3 k4) h.2.2) λr'' k5 k6=>Bm k5) λ⟨a,b,c,_⟩=>⟨a,b,c⟩
theorem O5 {a:List Int} (h:a.length<=M):fm a=some a:=Fc (Ap h) (NE (Ap h) 0)
theorem LG {a:List Int} (h:a.length<=M):em a=some a:=Fc (Ap h) (NE (Ap h) 0)
theorem Xs {a:List Pt} (h:a.length<=M):jl a=some a:=Fc (Ap h) (EE (f:=jk) (λ_ _=>rfl) (Ap h) _)
theorem UG {a:List wJ} (h:a.length<=M):jn a=some a:=Fc (Ap h) (EE (f:=jm) (λ_ _=>rfl) (Ap h) _)
theorem UH {a:List wY} (h:a.length<=M):jp a=some a:=Fc (Ap h) (EE (f:=jo) (λ_ _=>rfl) (Ap h) _)
theorem Wb {a:xO} (h:a.1.length<=M/\a.2.length<=M):gT a=some a:=by
 unfold gT;rw[UH h.1,wC,O5 h.2,wC]
theorem O6 {b:wD} (h:A4 M b):fo b=some b:=by
 obtain⟨h1,h2,h3,h4,h5⟩:=h;unfold fo;rw[Xs h2,wC,UG h3,wC,Wb ⟨h4,h5⟩,wC]
theorem Xt {v:zH} (h:Pw M v):gU v=some v:=by
 unfold gU;rw[O5 h.2,wC]
theorem Wc {x:wF} (h:E8 M x):fp x=some x:=by
 unfold fp;rw[O5 h.1,wC,Xt h.2,wC]
theorem UI {l:List wF} (h:CS M l):jq l=some l:=Fc (Ap h.1) (EE (f:=fp) (λx hx=>Wc (h.2 x hx)) (Ap h.1) _)
theorem Xu {p:xg} (h:zk M p):fq p=some p:=by
 unfold fq;rw[UI h,wC]
theorem Xv {j:xl} (h:Jr M j):fr j=some j:=by
 unfold fr;rw[LG h.1,wC,show fq (j.2.2.2.1,j.2.2.2.2.1,j.2.2.2.2.2.1,j.2.2.2.2.2.2.1,j.2.2.2.2.2.2.2.1)=some (jP j)from Xu h.2.1,wC];have:=O6 h.2.2
 unfold jB at this;rw[this,wC];rfl
theorem Wd {l:List xl} (h:O4 M l):jr l=some l:=Fc (Ap h.1) (EE (f:=fr) (λx hx=>Xv (h.2 x hx)) (Ap h.1) _)
theorem UJ {a:wW} (h:Fy M a):cI a=some a:=by
 unfold cI;have:=O6 h.1
 unfold aB at this;rw[this,wC,Wd h.2.2,wC]
theorem TP (v:Bv):eX v v=some true:=by unfold eX;simp
theorem Yl (v:Pt):ft v v=some true:=by unfold ft;simp[TP]
theorem We (v:wJ):fu v v=some true:=by unfold fu;simp
theorem Wf (v:wY):fv v v=some true:=by unfold fv;simp
theorem O7 {a:List Int} (h:a.length<=M):fw a a=some true:=Cg (Hu (Ap h))
theorem LH {a:List Int} (h:a.length<=M):eU a a=some true:=Cg (Hu (Ap h))
theorem Xw {a:List Pt} (h:a.length<=M):js a a=some true:=Cg (D7 (g:=ft) (λx _=>Yl x) (Ap h))
theorem UK {a:List wJ} (h:a.length<=M):jt a a=some true:=Cg (D7 (g:=fu) (λx _=>We x) (Ap h))
theorem UL {a:List wY} (h:a.length<=M):ju a a=some true:=Cg (D7 (g:=fv) (λx _=>Wf x) (Ap h))
theorem Wg {a:xO} (h:a.1.length<=M/\a.2.length<=M):gV a a=some true:=by
 unfold gV;simp[UL h.1,O7 h.2]
theorem O8 {b:wD} (h:A4 M b):fx b b=some true:=by
 obtain⟨h1,h2,h3,h4,h5⟩:=h;unfold fx;simp[Xw h2,UK h3,Wg (a:=(b.2.2.2.2.1,b.2.2.2.2.2.1)) ⟨h4,h5⟩]
theorem Xx {v:zH} (h:Pw M v):gW v v=some true:=by
 unfold gW;simp[O7 h.2]
theorem Wh {x:wF} (h:E8 M x):fy x x=some true:=by
 unfold fy;simp[O7 h.1,Xx h.2]
theorem UM {l:List wF} (h:CS M l):jv l l=some true:=Cg (D7 (g:=fy) (λx hx=>Wh (h.2 x hx)) (Ap h.1))
theorem TQ {p:xg} (h:zk M p):fA p p=some true:=by
 unfold fA;simp[UM (l:=p.2.2.2.2) h]
theorem Xy {j:xl} (h:Jr M j):fB j j=some true:=by
 have h2:=TQ h.2.1;have h3:=O8 h.2.2
 unfold jP at h2;unfold jB at h3;unfold fB;simp[LH h.1,h2,h3]
theorem Wi {l:List xl} (h:O4 M l):jw l l=some true:=Cg (D7 (g:=fB) (λx hx=>Xy (h.2 x hx)) (Ap h.1))
theorem Px {a:wW} (h:Fy M a):cJ a a=some true:=by
 have h1:=O8 h.1;unfold aB at h1;unfold cJ;simp[h1,Wi h.2.2]

theorem KZ {α β:Type} {f g:α->Option (α⊕β)} (xt:α->Prop) (h:∀x,xt x->f x=g x) (hi:∀x y,xt x->f x=some (.inl y)->xt y) {x:α} (h0:xt x):loop f x=loop g x:=by
 have key:∀k x,xt x->zJ f k x=zJ g k x:=by
  intro k
  induction k with
  | zero=>intro x _;rfl
  | succ k ih =>
   intro x hx;rw[xR,xR,←h x hx];cases hf:f x with
   | none=>rfl
   | some v=>cases v with
    | inl y=>exact ih y (hi x y hx hf)
    | inr b=>rfl
 have hex:(∃k,(zJ f k x).isSome)↔∃k,(zJ g k x).isSome:=by
  constructor<;>rintro⟨k,hk⟩<;>exact⟨k,by first|rwa [←key k x h0]|rwa [key k x h0]⟩
 by_cases hc:∃k,(zJ f k x).isSome
 · obtain⟨k,hk⟩:=hc;cases hv:zJ f k x with
   | none=>rw[hv]at hk;cases hk
   | some b=>rw[AA hv,AA ((key k x h0)▸hv)]
 · have hc':¬ ∃k,(zJ g k x).isSome:=λh=>hc (hex.2 h);unfold loop;rw[dif_neg hc,dif_neg hc']
theorem zt {α β:Type} {f g:α->Option (α⊕β)} (h:∀x,f x=g x) (x:α):loop f x=loop g x:=by rw[funext h]
def wL (x a b:Int):Bool:=decide (x>=a)&&decide (x<=b)
theorem zQ (x a b:Int):aa x a b=some (wL x a b):=by
 unfold aa wL;cases decide (x>=a)<;>rfl
theorem Cz (x a b:Int):ac x a b=some (wL x a b):=zQ x a b
def HE (v:Bv):Bool:=wL v.1 1 99&&(wL v.2.1 0 100000&&(wL v.2.2.1 0 10&&(wL v.2.2.2.1 1 99&&wL v.2.2.2.2 0 7)))
theorem O9 (v:Bv):bO v=some (HE v):=by
 unfold bO HE;simp only[zQ,wC];cases wL v.1 1 99<;>cases wL v.2.1 0 100000<;>cases wL v.2.2.1 0 10<;>cases wL v.2.2.2.1 1 99<;>rfl
theorem Wj:de=bO:=rfl
def C3 (p:Pt):Bool:=wL p.2.1 1 1000&&(!(p.2.2.1&&!p.1)&&(cond p.2.2.1 (HE p.2.2.2) (p.2.2.2.1==0&&(p.2.2.2.2.1==0&&(p.2.2.2.2.2.1==0&&(p.2.2.2.2.2.2.1==0&&(p.2.2.2.2.2.2.2==0)))))))
theorem YJ (p:Pt):eq p=some (C3 p):=by
 obtain⟨up,cost,heard,v⟩:=p;unfold eq C3;simp only[zQ,O9,wC];cases wL cost 1 1000<;>cases up<;>cases heard<;>rfl
theorem YK (p:Pt):fL p=some (C3 p):=by
 obtain⟨up,cost,heard,v⟩:=p;unfold fL C3;simp only[Cz,Wj,O9,wC];cases wL cost 1 1000<;>cases up<;>cases heard<;>rfl
theorem AG {n:Nat} {c:Int->Option Bool} {b:Nat->Bool} (hn:n<9223372036854775807) (hc:∀k,k<n->c (k:Int)=some (b k)) :
 loop (λi:Int=>cond (decide (i<(n:Int))) ((c i).bind λt=>cond t (some (.inr (.inr false))) (some (.inl (wE (i+1))))) (some (.inr (.inl ())))) 0=some (cond ((List.range n).any b) (Sum.inr false) (Sum.inl ()):Unit⊕Bool):=by
 obtain⟨v,h1,h2⟩:=xi (β:=Unit⊕Bool) (step:=λi:Int=>cond (decide (i<(n:Int))) ((c i).bind λt=>cond t (some (.inr (.inr false))) (some (.inl (wE (i+1))))) (some (.inr (.inl ()))))
  (λk i=>i=(k:Int)/\(List.range k).any b=false) n (λv=>v=cond ((List.range n).any b) (Sum.inr false) (Sum.inl ()))
  (λk i hk ⟨e,ha⟩=>by
   subst e;have hs:(cond (decide ((k:Int)<(n:Int))) ((c (k:Int)).bind λt=>cond t (some (.inr (.inr false))) (some (.inl (wE ((k:Int)+1))))) (some (.inr (.inl ()))):Option (Int⊕(Unit⊕Bool)))=cond (b k) (some (.inr (.inr false))) (some (.inl ((k+1:Nat):Int))):=by
    rw[xk (by omega),cT,hc k hk,wC,wQ (by omega)]
   cases hb:b k with
   | true =>
    refine .inr ⟨.inr false,by rw[hs,hb];rfl,?_⟩;have:(List.range n).any b=true:=any_eq_true.2 ⟨k,mem_range.2 hk,hb⟩
    rw[this];rfl
   | false =>
    refine .inl ⟨_,by rw[hs,hb];rfl,rfl,?_⟩;rw[range_succ,List.any_append,ha];simp[hb])
  (λi ⟨e,ha⟩=>by
   subst e;exact⟨.inl (),by rw[x7 (by omega),cF],by rw[ha];rfl⟩) (x:=0) ⟨rfl,rfl⟩
 rw[h1,h2]
def C4 (e:wJ):Bool:=wL e.1 1 99&&(wL e.2.1 1 9999&&(wL e.2.2.1 0 7&&(wL e.2.2.2.1 0 4&&(!e.2.2.2.2||e.2.2.2.1==0))))
theorem MJ (e:wJ):cn e=some (C4 e):=by
 unfold cn C4;simp only[zQ,wC];cases wL e.1 1 99<;>cases wL e.2.1 1 9999<;>cases wL e.2.2.1 0 7<;>cases wL e.2.2.2.1 0 4<;>cases e.2.2.2.2<;>rfl
theorem TR:fM=cn:=rfl
def yT (e:wJ) (tag mac:Int):Bool:=decide (e.1>tag)||(e.1==tag&&decide (e.2.1>mac))
theorem LI (e:wJ) (tag mac:Int):dt e tag mac=some (yT e tag mac):=by
 unfold dt yT;cases decide (e.1>tag)<;>cases (e.1==tag)<;>rfl
theorem Wk (p e:wJ):ce p e.1 e.2.1=some (yT e p.1 p.2.1):=by
 unfold ce yT;by_cases h:p.1=e.1
 · simp[h]
 · have h':¬e.1=p.1:=λk=>h k.symm;have e1:(p.1 != e.1)=true:=by simpa using h
   have e2:(e.1==p.1)=false:=by simpa using h'
   rw[e1,e2,cT,Bool.false_and,Bool.or_false]
def C5 (l:List wJ) (k:Nat):Bool:=match l[k]? with
 | some e=>!(C4 e)||(decide (0<k)&&(match l[k-1]? with|some p=>!(yT e p.1 p.2.1)|none=>false))
 | none=>false
def Ch (l:List wJ):Bool:=!((List.range l.length).any (C5 l))&&decide ((l.length:Int)<=12)
theorem EF {α:Type} {l:List α} {k:Nat} (h:k<l.length) (hk:0<k) (hn:l.length<9223372036854775807):at? l (wE ((k:Int)-1))=some l[k-1]:=by
 rw[xq (by omega) (by omega),show (k:Int)-1=((k-1:Nat):Int) by omega,wU (by omega)]
theorem T6 {l:List wJ} (hn:l.length<9223372036854775807):eu l=some (Ch l):=by
 unfold eu Ch;have h:=AG (n:=l.length) (c:=λi=>(at? l i).bind λx10=>(cn x10).bind λt13=>(cond (!t13) (some true) ((cond (decide (i>0)) ((at? l (wE (i-1))).bind λx23=>(at? l (wE (i-1))).bind λx29=>(dt x10 x23.1 x29.2.1).bind λt32=>some (!t32)) (some false)).bind λt34=>some t34)).bind λt=>some t) (b:=C5 l) hn (λk hk=>by
  simp only[wU hk,wC,MJ,C5,List.getElem?_eq_getElem hk];cases C4 l[k]with
  | false=>rfl
  | true =>
   by_cases h0:0<k
   · have hd:decide ((k:Int)>0)=true:=dT (by omega);simp only[hd,EF hk h0 hn,wC,LI,dT h0,List.getElem?_eq_getElem (show k-1<l.length by omega)];rfl
   · have hd:decide ((k:Int)>0)=false:=dF (by omega);simp only[hd,dF h0];rfl)
 have e:(loop (λz=>iU l z) 0)=some (cond ((List.range l.length).any (C5 l)) (Sum.inr false) (Sum.inl ())):=by
  rw[←h];refine zt (λi=>?_) 0;unfold iU;simp only[Option.bind_assoc,wC]
 rw[e,wC];cases (List.range l.length).any (C5 l)<;>rfl
theorem Wl {l:List wJ} (hn:l.length<9223372036854775807):fN l=some (Ch l):=by
 unfold fN Ch;have h:=AG (n:=l.length) (c:=λi=>(at? l i).bind λx12=>(fM x12).bind λt14=>(cond (!t14) (some true) ((cond (decide (i>0)) ((at? l (wE (i-1))).bind λx23=>(at? l i).bind λx27=>(at? l i).bind λx32=>(ce x23 x27.1 x32.2.1).bind λt35=>some (!t35)) (some false)).bind λt37=>some t37)).bind λt=>some t) (b:=C5 l) hn (λk hk=>by
  simp only[wU hk,wC,TR,MJ,C5,List.getElem?_eq_getElem hk];cases C4 l[k]with
  | false=>rfl
  | true =>
   by_cases h0:0<k
   · have hd:decide ((k:Int)>0)=true:=dT (by omega);simp only[hd,EF hk h0 hn,wC,Wk,dT h0,List.getElem?_eq_getElem (show k-1<l.length by omega)];rfl
   · have hd:decide ((k:Int)>0)=false:=dF (by omega);simp only[hd,dF h0];rfl)
 have e:(loop (λz=>jA l z) 0)=some (cond ((List.range l.length).any (C5 l)) (Sum.inr false) (Sum.inl ())):=by
  rw[←h];refine zt (λi=>?_) 0;unfold jA;simp only[Option.bind_assoc,wC]
 rw[e,wC];cases (List.range l.length).any (C5 l)<;>rfl

theorem S5 {v:xO} (hn:v.1.length<9223372036854775807) (id:Int):∃r,ai v id=some r:=by
 unfold ai;obtain⟨b,h1,_⟩:=xi (β:=Unit⊕Int) (step:=λz=>bf v id z) (λk i=>i=(k:Int)) v.1.length (λ_=>True)
  (λk i hk h=>by
   subst h;unfold bf;rw[xk (by omega),cT,wU hk,wC];cases (v.1[k].1==id)with
   | true=>exact .inr ⟨_,rfl,trivial⟩
   | false=>exact .inl ⟨_,rfl,wQ (by omega)⟩)
  (λi h=>by
   subst h;unfold bf;rw[x7 (by omega)];exact⟨_,rfl,trivial⟩) (x:=0) rfl
 rw[h1,wC];cases b with
 | inl _=>exact⟨_,rfl⟩
 | inr r=>exact⟨r,rfl⟩
def DM (i:Int):Int:=(2:Int)^i.toNat-1
theorem Oa {i:Int} (h:wL i 1 6=true):i=1\/i=2\/i=3\/i=4\/i=5\/i=6:=by
 unfold wL at h;simp only[aT,decide_eq_true_eq]at h;omega
theorem Mq {i:Int} (h:wL i 1 6=true):ev i=some (DM i):=by
 rcases Oa h with rfl|rfl|rfl|rfl|rfl|rfl<;>rfl
theorem Wm {i:Int} (h:wL i 1 6=true):∃t,shl .i64 1 (IntKind.u64.wrap i)=some t/\wE (t-1)=DM i:=by
 rcases Oa h with rfl|rfl|rfl|rfl|rfl|rfl<;>exact⟨_,rfl,rfl⟩
theorem QC {i:Int} (h:wL i 1 6=true):1<=DM i/\DM i<=63:=by
 rcases Oa h with rfl|rfl|rfl|rfl|rfl|rfl<;>decide
theorem L7 (x:BitVec 64):IntKind.i64.wrap (x.toNat:Int)=x.toInt:=by
 have hx:=x.isLt;rw[BitVec.toInt_eq_toNat_cond];show (let m:=(x.toNat:Int)%18446744073709551616;if (true&&decide (m>=9223372036854775808))=true then m-18446744073709551616 else m)=_
 simp only[Bool.true_and,decide_eq_true_eq];have h1:(x.toNat:Int)%18446744073709551616=(x.toNat:Int):=by omega
 rw[h1];split<;>split<;>omega
theorem DY {b:Int} (h1:-9223372036854775808<=b) (h2:b<=9223372036854775807):(BitVec.ofInt 64 b).toInt=b:=by
 rw[BitVec.toInt_ofInt];unfold Int.bmod;simp only;split<;>omega
theorem TS (a b:Int):zc .i64 a b=(BitVec.ofInt 64 a&&&BitVec.ofInt 64 b).toInt:=L7 _
theorem Xz (a b:Int):Dd .i64 a b=(BitVec.ofInt 64 a &&& ~~~ BitVec.ofInt 64 b).toInt:=L7 _
theorem Py (x y:BitVec 64):x&&&y=x↔x &&& ~~~ y=0:=by
 constructor
 · intro h;apply BitVec.eq_of_getLsbD_eq;intro i hi;have:=congrArg (λz=>z.getLsbD i) h
   simp only[BitVec.getLsbD_and]at this;simp only[BitVec.getLsbD_and,BitVec.getLsbD_not,BitVec.getLsbD_zero,hi,decide_true,Bool.true_and];cases hx:x.getLsbD i<;>cases hy:y.getLsbD i<;>simp_all
 · intro h;apply BitVec.eq_of_getLsbD_eq;intro i hi;have:=congrArg (λz=>z.getLsbD i) h
   simp only[BitVec.getLsbD_and,BitVec.getLsbD_not,BitVec.getLsbD_zero,hi,decide_true,Bool.true_and]at this;simp only[BitVec.getLsbD_and];cases hx:x.getLsbD i<;>cases hy:y.getLsbD i<;>simp_all
theorem Mr {b m:Int} (h1:-9223372036854775808<=b) (h2:b<=9223372036854775807):(zc .i64 b m != b)=(Dd .i64 b m != 0):=by
 rw[TS,Xz];have e:((BitVec.ofInt 64 b&&&BitVec.ofInt 64 m).toInt=b)↔((BitVec.ofInt 64 b &&& ~~~ BitVec.ofInt 64 m).toInt=0):=by
  constructor
  · intro h;have:BitVec.ofInt 64 b&&&BitVec.ofInt 64 m=BitVec.ofInt 64 b:=BitVec.eq_of_toInt_eq (by rw[h,DY h1 h2])
    rw[(Py _ _).1 this];rfl
  · intro h;have:BitVec.ofInt 64 b &&& ~~~ BitVec.ofInt 64 m=0:=BitVec.eq_of_toInt_eq (by rw[h];rfl)
    rw[(Py _ _).2 this,DY h1 h2]
 by_cases h:(BitVec.ofInt 64 b&&&BitVec.ofInt 64 m).toInt=b
 · have h':=e.1 h;simp[h,h']
 · have h':¬(BitVec.ofInt 64 b &&& ~~~ BitVec.ofInt 64 m).toInt=0:=λk=>h (e.2 k);rw[bne_iff_ne.2 h,bne_iff_ne.2 h']
theorem Pz {b m t:Int} (h1:-9223372036854775808<=b) (h2:b<=9223372036854775807) (hm:wL m 0 t=true) (ht:t<=63) (h:(zc .i64 b m != b)=false):wL b 0 t=true:=by
 unfold wL at hm ⊢;simp only[aT,decide_eq_true_eq]at hm ⊢;have h:zc .i64 b m=b:=by simpa using h
 rw[TS]at h;have e:BitVec.ofInt 64 b&&&BitVec.ofInt 64 m=BitVec.ofInt 64 b:=BitVec.eq_of_toInt_eq (by rw[h,DY h1 h2])
 have hM:(BitVec.ofInt 64 m).toNat=m.toNat:=by
  rw[BitVec.toNat_ofInt];omega
 have hle:(BitVec.ofInt 64 b).toNat<=m.toNat:=by
  rw[←e,BitVec.toNat_and,hM];exact Nat.and_le_right
 have hb:(BitVec.ofInt 64 b).toInt=((BitVec.ofInt 64 b).toNat:Int):=by
  rw[BitVec.toInt_eq_toNat_cond];split<;>omega
 rw[DY h1 h2]at hb;omega
def Ef (v:xO) (i:Int) (k:Nat):Bool:=match v.1[k]? with
 | some r=>!(wL r.1 1 99)||((decide (0<k)&&(match v.1[k-1]? with|some p=>decide (p.1>=r.1)|none=>false))||(!(wL r.2.1 0 (DM i))||(Dd .i64 r.2.2 r.2.1 != 0)))
 | none=>false
noncomputable def HF (v:xO) (k:Nat):Bool:=match v.2[k]? with
 | some x=>(match ai v x with|some t=>decide (t<0)|none=>false)
 | none=>false
noncomputable def Ak (v:xO) (i:Int):Bool:=!(!(wL i 1 6)||((v.2.length:Int) != i||decide ((v.1.length:Int)>6)))&&(!((List.range v.1.length).any (Ef v i))&&!((List.range v.2.length).any (HF v)))
theorem S6 {v:xO} {i:Int} (hi:wL i 1 6=true) (hn:v.1.length<9223372036854775807):loop (λz=>iV v i z) 0=some (cond ((List.range v.1.length).any (Ef v i)) (Sum.inr false) (Sum.inl ())):=by
 rw[←AG (n:=v.1.length) (c:=λt28=>(at? v.1 t28).bind λx31 =>
  (aa x31.1 1 99).bind λt35 =>
  (cond (!t35) (some true) ((cond (decide (t28>0)) ((at? v.1 (wE (t28-1))).bind λx45=>some (decide (x45.1>=x31.1))) (some false)).bind λt51=>some t51)).bind λt52 =>
  (cond t52 (some true) ((ev i).bind λt57=>(aa x31.2.1 0 t57).bind λt58=>some (!t58))).bind λt60 =>
  (cond t60 (some true) (some ((Dd .i64 x31.2.2 x31.2.1) != 0))).bind λt=>some t) (b:=Ef v i) hn (λk hk=>by
   simp only[wU hk,wC,zQ,Ef,List.getElem?_eq_getElem hk,Mq hi];cases wL v.1[k].1 1 99 with
   | false=>rfl
   | true =>
    by_cases h0:0<k
    · have hd:decide ((k:Int)>0)=true:=dT (by omega);simp only[hd,EF hk h0 hn,wC,dT h0,List.getElem?_eq_getElem (show k-1<v.1.length by omega)];cases decide (v.1[k-1].1>=v.1[k].1)<;>cases wL v.1[k].2.1 0 (DM i)<;>rfl
    · have hd:decide ((k:Int)>0)=false:=dF (by omega);simp only[hd,dF h0];cases wL v.1[k].2.1 0 (DM i)<;>rfl)]
 refine zt (λi=>?_) 0;unfold iV;simp only[Option.bind_assoc,wC]
theorem QD {v:xO} {i t:Int} (hi:wL i 1 6=true) (ht:wE (t-1)=DM i) (hn:v.1.length<9223372036854775807) (hw:∀r∈v.1,-9223372036854775808<=r.2.2/\r.2.2<=9223372036854775807):loop (λz=>jC v t z) 0=some (cond ((List.range v.1.length).any (Ef v i)) (Sum.inr false) (Sum.inl ())):=by
 rw[←AG (n:=v.1.length) (c:=λt6=>(at? v.1 t6).bind λx39 =>
  (ac x39.1 1 99).bind λt43 =>
  (cond (!t43) (some true) ((ac x39.2.1 0 (wE (t-1))).bind λt49=>some (!t49))).bind λt51 =>
  (cond t51 (some true) ((ac x39.2.2 0 (wE (t-1))).bind λt56=>some (!t56))).bind λt58 =>
  (cond t58 (some true) (some ((zc .i64 x39.2.2 x39.2.1) != x39.2.2))).bind λt68 =>
  (cond t68 (some true) ((cond (decide (t6>0)) ((at? v.1 (wE (t6-1))).bind λx77=>some (decide (x77.1>=x39.1))) (some false)).bind λt83=>some t83)).bind λt=>some t) (b:=Ef v i) hn (λk hk=>by
   obtain⟨w1,w2⟩:=hw _ (getElem_mem hk);have hs:=Mr (m:=v.1[k].2.1) w1 w2
   have hin:=Pz (m:=v.1[k].2.1) (t:=DM i) w1 w2;have ht2:=(QC hi).2
   simp only[wU hk,wC,Cz,Ef,List.getElem?_eq_getElem hk,ht];rw[←hs];cases h1:wL v.1[k].1 1 99 with
   | false=>rfl
   | true =>
    cases h2:wL v.1[k].2.1 0 (DM i)with
    | false =>
     by_cases h0:0<k
     · simp only[dT h0,List.getElem?_eq_getElem (show k-1<v.1.length by omega)];cases decide (v.1[k-1].1>=v.1[k].1)<;>rfl
     · simp only[dF h0];rfl
    | true =>
     cases h3:(zc .i64 v.1[k].2.2 v.1[k].2.1 != v.1[k].2.2)with
     | true =>
      by_cases h0:0<k
      · simp only[dT h0,List.getElem?_eq_getElem (show k-1<v.1.length by omega)];cases decide (v.1[k-1].1>=v.1[k].1)<;>cases wL v.1[k].2.2 0 (DM i)<;>rfl
      · simp only[dF h0];cases wL v.1[k].2.2 0 (DM i)<;>rfl
     | false =>
      have h4:=hin h2 ht2 h3;rw[h4];by_cases h0:0<k
      · have hd:decide ((k:Int)>0)=true:=dT (by omega);simp only[hd,EF hk h0 hn,wC,dT h0,List.getElem?_eq_getElem (show k-1<v.1.length by omega)];cases decide (v.1[k-1].1>=v.1[k].1)<;>rfl
      · have hd:decide ((k:Int)>0)=false:=dF (by omega);simp only[hd,dF h0];rfl)]
 refine zt (λi=>?_) 0;unfold jC;simp only[Option.bind_assoc,wC]
theorem Ms {v:xO} (hn:v.1.length<9223372036854775807) (hn2:v.2.length<9223372036854775807):loop (λz=>gm v z) 0=some (cond ((List.range v.2.length).any (HF v)) (Sum.inr false) (Sum.inl ())):=by
 rw[←AG (n:=v.2.length) (c:=λt73=>(at? v.2 t73).bind λx75=>(ai v x75).bind λt79=>some (decide (t79<0))) (b:=HF v) hn2 (λk hk=>by
  obtain⟨r,hr⟩:=S5 hn v.2[k];simp only[wU hk,wC,HF,List.getElem?_eq_getElem hk,hr])]
 refine zt (λi=>?_) 0;unfold gm;simp only[Option.bind_assoc,wC]
theorem XA:ox=gm:=rfl
theorem TT {v:xO} (i:Int) (hn:v.1.length<9223372036854775807) (hn2:v.2.length<9223372036854775807):du v i=some (Ak v i):=by
 unfold du Ak;simp only[zQ,wC];cases hi:wL i 1 6 with
 | false=>rfl
 | true =>
  rw[S6 hi hn,Ms hn hn2];cases ((v.2.length:Int) != i)<;>cases decide ((v.1.length:Int)>6)<;>cases (List.range v.1.length).any (Ef v i)<;>cases (List.range v.2.length).any (HF v)<;>rfl
theorem TU {v:xO} (i:Int) (hn:v.1.length<9223372036854775807) (hn2:v.2.length<9223372036854775807) (hw:∀r∈v.1,-9223372036854775808<=r.2.2/\r.2.2<=9223372036854775807):dW v i=some (Ak v i):=by
 unfold dW Ak;simp only[Cz,wC,XA];cases hi:wL i 1 6 with
 | false=>rfl
 | true =>
  obtain⟨t,h1,h2⟩:=Wm hi;rw[h1,wC,QD hi h2 hn hw,Ms hn hn2];cases ((v.2.length:Int) != i)<;>cases decide ((v.1.length:Int)>6)<;>cases (List.range v.1.length).any (Ef v i)<;>cases (List.range v.2.length).any (HF v)<;>rfl
def I1 (l:List Pt) (k:Nat):Bool:=match l[k]? with|some p=>!(C3 p)|none=>false
def zm (b:wD):Bool:=wL b.2.2.2.2.2.2.1 0 1000000&&(wL b.2.2.2.2.2.2.2.1 0 1000000&&(wL b.2.2.2.2.2.2.2.2.1 0 1000000&&(wL b.2.2.2.2.2.2.2.2.2.1 0 1000000&&wL b.2.2.2.2.2.2.2.2.2.2 0 1000000)))
noncomputable def xr (b:wD):Bool:=!((List.range b.2.2.1.length).any (I1 b.2.2.1))&&(wL b.1 1 99&&(!(decide ((b.2.1.length:Int)>10))&&(wL (b.2.2.1.length:Int) 1 6&&(Ch b.2.2.2.1&&(Ak (b.2.2.2.2.1,b.2.2.2.2.2.1) (b.2.2.1.length:Int)&&zm b)))))
structure Af (b:wD):Prop where
 p:b.2.2.1.length<9223372036854775807
 f:b.2.2.2.1.length<9223372036854775807
 v:b.2.2.2.2.1.length<9223372036854775807
 q:b.2.2.2.2.2.1.length<9223372036854775807
 r:∀r∈b.2.2.2.2.1,-9223372036854775808<=r.2.2/\r.2.2<=9223372036854775807
theorem QE {b:wD} (h:Af b):loop (λz=>iW b z) 0=some (cond ((List.range b.2.2.1.length).any (I1 b.2.2.1)) (Sum.inr false) (Sum.inl ())):=by
 rw[←AG (n:=b.2.2.1.length) (c:=λt8=>(at? b.2.2.1 t8).bind λx10=>(eq x10).bind λt13=>some (!t13)) (b:=I1 b.2.2.1) h.p (λk hk=>by
  simp only[wU hk,wC,I1,List.getElem?_eq_getElem hk,YJ])]
 refine zt (λi=>?_) 0;unfold iW;simp only[Option.bind_assoc,wC]
theorem OR {b:wD} (h:Af b):loop (λz=>jD b z) 0=some (cond ((List.range b.2.2.1.length).any (I1 b.2.2.1)) (Sum.inr false) (Sum.inl ())):=by
 rw[←AG (n:=b.2.2.1.length) (c:=λt8=>(at? b.2.2.1 t8).bind λx10=>(fL x10).bind λt13=>some (!t13)) (b:=I1 b.2.2.1) h.p (λk hk=>by
  simp only[wU hk,wC,I1,List.getElem?_eq_getElem hk,YK])]
 refine zt (λi=>?_) 0;unfold jD;simp only[Option.bind_assoc,wC]
theorem UN (b:wD):ie b=some (zm b):=by
 unfold ie zm;simp only[Cz,wC];cases wL b.2.2.2.2.2.2.1 0 1000000<;>cases wL b.2.2.2.2.2.2.2.1 0 1000000<;>cases wL b.2.2.2.2.2.2.2.2.1 0 1000000<;>cases wL b.2.2.2.2.2.2.2.2.2.1 0 1000000<;>rfl
theorem S7 (n:Int):bc n=some (wL n 0 1000000):=by unfold bc;rw[zQ,wC]
theorem Bb {b:wD} (h:Af b):aU b=some (xr b):=by
 unfold aU xr zm;rw[QE h,wC];cases (List.range b.2.2.1.length).any (I1 b.2.2.1)with
 | true=>rfl
 | false =>
  simp only[cF,Sum.elim_inl,zQ,T6 h.f,TT (v:=(b.2.2.2.2.1,b.2.2.2.2.2.1)) _ h.v h.q,S7,wC];cases wL b.1 1 99<;>cases decide ((b.2.1.length:Int)>10)<;>cases wL (b.2.2.1.length:Int) 1 6<;>cases Ch b.2.2.2.1<;>cases Ak (b.2.2.2.2.1,b.2.2.2.2.2.1) (b.2.2.1.length:Int) <;>
   cases wL b.2.2.2.2.2.2.1 0 1000000<;>cases wL b.2.2.2.2.2.2.2.1 0 1000000<;>cases wL b.2.2.2.2.2.2.2.2.1 0 1000000<;>cases wL b.2.2.2.2.2.2.2.2.2.1 0 1000000<;>rfl
theorem Da {b:wD} (h:Af b):aR b=some (xr b):=by
 unfold aR xr;rw[OR h,wC];cases (List.range b.2.2.1.length).any (I1 b.2.2.1)with
 | true=>rfl
 | false =>
  have e:decide ((b.2.1.length:Int)<=10)=!(decide ((b.2.1.length:Int)>10)):=by
   by_cases hh:(b.2.1.length:Int)>10
   · rw[dT hh,dF (by omega)];rfl
   · rw[dF hh,dT (by omega)];rfl
  simp only[cF,Sum.elim_inl,Cz,Wl h.f,TU (v:=(b.2.2.2.2.1,b.2.2.2.2.2.1)) _ h.v h.q h.r,UN,wC,e];cases wL b.1 1 99<;>cases decide ((b.2.1.length:Int)>10)<;>cases wL (b.2.2.1.length:Int) 1 6<;>cases Ch b.2.2.2.1<;>cases Ak (b.2.2.2.2.1,b.2.2.2.2.2.1) (b.2.2.1.length:Int)<;>cases zm b<;>rfl
theorem TV:iu=dD:=rfl
theorem TW (a b:Bv):∃r,dD a b=some r:=by
 unfold dD;cases (a.1 != b.1)<;>cases (a.2.1 != b.2.1)<;>cases (a.2.2.2.1 != b.2.2.2.1)<;>exact⟨_,rfl⟩
theorem XB:jI=eE:=rfl
theorem XC (v:Bv) (c:Int):∃r,eE v c=some r:=by
 unfold eE;simp only[O9,zQ,wC];cases HE v<;>cases wL c 1 1000<;>first|exact⟨_,rfl⟩|skip
 generalize HE (v.1,wE (v.2.1+c),wE (v.2.2.1+1),v.2.2.2.1,v.2.2.2.2)=q;cases q<;>exact⟨_,rfl⟩
theorem XD (p0:Int) (l:List Pt) (t8 t9 b0 b1 b2 b3 b4 c0 c1 c2 c3 c4:Int):jJ p0 l t8 t9 b0 b1 b2 b3 b4 c0 c1 c2 c3 c4=dE p0 l t8 t9 b0 b1 b2 b3 b4 c0 c1 c2 c3 c4:=by
 unfold jJ dE;rw[XB,TV];cases h:at? l t9 with
 | none=>rfl
 | some x=>simp only[wC]
theorem TX:fT=bA:=by
 funext p0 l
 unfold fT bA;rw[zt (λz=>XD p0 l _ _ _ _ _ _ _ _ _ _ _ _)]
theorem XE (p0:Int) {l:List Pt} (hn:l.length<9223372036854775807):∃r,bA p0 l=some r:=by
 unfold bA;obtain⟨b,h1,_⟩:=xi (step:=λz:Int×Int×Int×Int×Int×Int×Int×Int×Int×Int×Int×Int=>dE p0 l z.1 z.2.1 z.2.2.1 z.2.2.2.1 z.2.2.2.2.1 z.2.2.2.2.2.1 z.2.2.2.2.2.2.1 z.2.2.2.2.2.2.2.1 z.2.2.2.2.2.2.2.2.1 z.2.2.2.2.2.2.2.2.2.1 z.2.2.2.2.2.2.2.2.2.2.1 z.2.2.2.2.2.2.2.2.2.2.2)
  (λk z=>z.2.1=(k:Int)) l.length (λ_=>True)
  (λk z hk h=>by
   left;obtain⟨t7,t18,b0,b1,b2,b3,b4,c0,c1,c2,c3,c4⟩:=z;obtain rfl:t18=(k:Int):=h;unfold dE;simp only[xk (show (k:Int)<(l.length:Int) by omega),cT,wU hk,wC];rw[show wE ((k:Int)+1)=((k+1:Nat):Int)from wQ (by omega)];generalize l[k]=x;have e:(cond (!x.1) (some true) (some (!x.2.2.1)):Option Bool)=some (cond (!x.1) true (!x.2.2.1)):=by cases x.1<;>rfl
   rw[e,wC];cases (cond (!x.1) true (!x.2.2.1))with
   | true=>exact⟨_,rfl,rfl⟩
   | false =>
    obtain⟨r,hr⟩:=XC x.2.2.2 x.2.1;obtain⟨q,hq⟩:=TW r.1 (c0,c1,c2,c3,c4);rw[cF,hr,wC,hq];cases r.2<;>cases decide (r.1.1<p0)<;>cases decide (t7<0)<;>cases q<;>exact⟨_,rfl,rfl⟩)
  (λz h=>by
   obtain⟨t7,t18,b0,b1,b2,b3,b4,c0,c1,c2,c3,c4⟩:=z;obtain rfl:t18=(l.length:Int):=h;unfold dE;simp only[x7 (show ¬(l.length:Int)<(l.length:Int) by omega),cF];exact⟨_,rfl,trivial⟩) (x:=((-1),0,p0,0,0,p0,0,0,0,0,0,0)) rfl
 rw[h1,wC];exact⟨_,rfl⟩
theorem Ym:iv=eF:=by
 funext id l p
 unfold iv eF;rw[TX]
theorem TY:fU=aL:=by
 funext id l p
 unfold fU aL;rw[TX,Ym,TV];rfl
theorem QF (id:Int) {l:List Pt} (hn:l.length<9223372036854775807) (p:Int):∃r,aL id l p=some r:=by
 obtain⟨v,hv⟩:=XE id hn;unfold aL eF;simp only[zQ,wC,hv];rw[show wE ((l.length:Int)-1)=(l.length:Int)-1 from xq (by omega) (by omega)];cases hp:wL p 0 ((l.length:Int)-1)with
 | false=>exact⟨_,rfl⟩
 | true =>
  unfold wL at hp;simp only[aT,decide_eq_true_eq]at hp;obtain⟨k,rfl⟩:∃k:Nat,p=(k:Int):=⟨p.toNat,by omega⟩;simp only[wU (show k<l.length by omega),wC];generalize l[k]'(by omega)=x;obtain⟨q,hq⟩:=TW (v.1.1,v.1.2.1,v.1.2.2.1,v.1.2.2.2.1,(k:Int)) x.2.2.2;rw[hq];cases x.1<;>cases (v.2==(k:Int))<;>cases x.2.2.1<;>cases q<;>exact⟨_,rfl⟩
theorem XF (b:wD) (c p:Int):iG b c p=bS b c p:=by
 unfold iG bS eG;rw[TY];cases at? b.2.2.1 p with
 | none=>rfl
 | some x=>simp only[wC];cases x.1<;>rfl
theorem JW {α:Type} (out:List wF) (name:List Int) (n:Int) (f:List wF->Option α):((aV n).bind λv=>(aG v name).bind λt=>(app out [t]).bind f)=(aj out name n).bind f:=by
 unfold aV aG aj cV jO;simp only[wC,Option.bind_assoc]
theorem T7 (b:wD) (c i:Int) (out:List wF):jR b c i out=bB b c i out:=by
 unfold jR bB;simp only[XF,JW]
theorem Yn {r:wY} {c:Int} (h:1<=c/\c<=3):((ix [1,r.2.1,r.2.2].length (wE (c-1))).bind λj=>([1,r.2.1,r.2.2][j]?).bind λx=>some x)=jQ r c:=by
 have:c=1\/c=2\/c=3:=by omega
 rcases this with rfl|rfl|rfl<;>rfl
theorem UO (b:wD) {c:Int} (h:1<=c/\c<=3) (i:Int) (out:List wF):jT b c i out=bC b c i out:=by
 unfold jT bC;cases hr:at? b.2.2.2.2.1 i with
 | none=>rfl
 | some r =>
  simp only[wC,←Yn (r:=r) h,Option.bind_assoc,JW]
theorem Wn (b:wD) (i:Int) (out:List wF):jU b i out=bm b i out:=by
 unfold jU bm;cases hr:at? b.2.2.2.1 i with
 | none=>rfl
 | some r=>simp only[wC,JW]
theorem XG (b:wD) (c:Int) (out:List wF):jS b c out=bT b c out:=by
 unfold jS bT;rw[zt (λz=>T7 b c _ _)]
theorem XH (b:wD) {c:Int} (h:1<=c) (out:List wF):gb b c out=bU b c out:=by
 unfold gb bU;by_cases h3:c<=3
 · rw[zt (λz=>UO b ⟨h,h3⟩ _ _)]
 · rw[dF h3];rfl
theorem QG (b:wD) {c:Int} {out:List wF} {y:Int×List wF} (h:1<=c) (e:gb b c out=some (.inl y)):1<=y.1:=by
 unfold gb at e;by_cases h3:c<=3
 · rw[dT h3,cT,Option.bind_eq_some_iff]at e;obtain⟨d,_,e⟩:=e;cases e;show 1<=wE (c+1)
   rw[xq (by omega) (by omega)];omega
 · rw[dF h3]at e;cases e
def CU (b:wD):List wF:=[([1,3,1,1,1],4,0,b.2.1,[]),([1,3,1,1,2],2,b.2.2.2.2.2.2.1,[],[]),([1,3,1,1,3],2,b.2.2.2.2.2.2.2.1,[],[]),([1,3,1,1,4],2,b.2.2.2.2.2.2.2.2.1,[],[]),([1,3,1,1,5],2,b.2.2.2.2.2.2.2.2.2.1,[],[])]
theorem Yo (b:wD):aG (4,0,b.2.1,[]) ([1,1]:List Int)=some ([1,3,1,1,1],4,0,b.2.1,[]):=by kernel_rfl
theorem Yp (b:wD):zJ (λz=>lR b z.1 z.2) 5 (0,[([1,3,1,1,1],4,0,b.2.1,[])])=some (CU b):=by kernel_rfl
theorem Yq (b:wD):((cV ([1,1]:List Int)).bind λt14=>(aj ([(t14,4,0,b.2.1,[])]) ([1,2]:List Int) b.2.2.2.2.2.2.1).bind λt24=>(aj t24 ([1,3]:List Int) b.2.2.2.2.2.2.2.1).bind λt29 =>
 (aj t29 ([1,4]:List Int) b.2.2.2.2.2.2.2.2.1).bind λt34=>(aj t34 ([1,5]:List Int) b.2.2.2.2.2.2.2.2.2.1))=some (CU b):=by kernel_rfl
noncomputable def J3 (b:wD) (l:List wF):Option (List wF) :=
 (loop (λz=>bT b z.1 z.2) (1,l)).bind λd_2 =>
  (loop (λz=>bU b z.1 z.2) (1,d_2)).bind λd_4 =>
  (loop (λz=>bm b z.1 z.2) (0,d_4)).bind λd_5 =>
  some d_5
theorem Wo {b:wD} (h:Af b):bD b=cond (!(xr b)) (some []) (J3 b (CU b)):=by
 unfold bD;rw[Bb h,wC,Yo,wC,AA (Yp b),wC];rfl
theorem Yr {b:wD} (h:Af b):eh b=cond (!(xr b)) (some []) (J3 b (CU b)):=by
 unfold eh;rw[Da h,wC];have hc:=Yq b
 have e:∀{α:Type} (f:List wF->Option α),((cV ([1,1]:List Int)).bind λt14=>(aj ([(t14,4,0,b.2.1,[])]) ([1,2]:List Int) b.2.2.2.2.2.2.1).bind λt24=>(aj t24 ([1,3]:List Int) b.2.2.2.2.2.2.2.1).bind λt29 =>
  (aj t29 ([1,4]:List Int) b.2.2.2.2.2.2.2.2.1).bind λt34=>(aj t34 ([1,5]:List Int) b.2.2.2.2.2.2.2.2.2.1).bind f)=f (CU b):=by
  intro α f;have:((cV ([1,1]:List Int)).bind λt14=>(aj ([(t14,4,0,b.2.1,[])]) ([1,2]:List Int) b.2.2.2.2.2.2.1).bind λt24=>(aj t24 ([1,3]:List Int) b.2.2.2.2.2.2.2.1).bind λt29 =>
   (aj t29 ([1,4]:List Int) b.2.2.2.2.2.2.2.2.1).bind λt34=>(aj t34 ([1,5]:List Int) b.2.2.2.2.2.2.2.2.2.1)).bind f=f (CU b):=by rw[hc,wC]
  rw[←this];simp only[Option.bind_assoc]
 rw[e]
 congr 1
 unfold J3;rw[zt (λz=>XG b _ _)]
 congr 1
 funext d
 rw[KZ (λz:Int×List wF=>1<=z.1) (λz hz=>XH b hz _) (λz y hz e=>QG b hz e) (show (1:Int)<=1 by omega)]
 congr 1
 funext d
 rw[zt (λz=>Wn b _ _)]
theorem Ob {b:wD} (h:Af b):eh b=bD b:=by rw[Yr h,Wo h]

theorem XI {b:wD} (h:Af b) (c:Int) {k:Nat} (hk:k<b.2.2.1.length) (hq:b.2.2.1.length=b.2.2.2.2.2.1.length):∃n,bS b c (k:Int)=some n:=by
 obtain⟨r,hr⟩:=QF b.1 h.p (k:Int);unfold bS eG;rw[wU hk,wU (show k<b.2.2.2.2.2.1.length by omega),hr];simp only[wC];cases (c==1)<;>cases (c==2)<;>cases (c==3)<;>cases (b.2.2.1[k]).1<;>exact⟨_,rfl⟩
theorem UP {α:Type} {xs ys:List α} (h:xs.length+ys.length<=4294967296):app xs ys=some (xs++ys):=by
 unfold app;rw[if_pos (show xs.length+ys.length<=Gn from h)]
noncomputable def C6 (id:Int) (l:List Pt) (p:Int):Int:=(aL id l p).getD 0
theorem HG (id:Int) {l:List Pt} (hn:l.length<9223372036854775807) (p:Int):aL id l p=some (C6 id l p):=by
 obtain⟨r,hr⟩:=QF id hn p;unfold C6;rw[hr];rfl
def QH (l:List Int) (x:Int):Bool:=decide (x∈l)
def DZ (b:Nat->Bool) (m:Nat):List Int:=((List.range m).filter b).map λ(k:Nat)=>(k:Int)
theorem T8 (b:Nat->Bool) (m:Nat):(DZ b m).length<=m:=by
 unfold DZ;rw[length_map];exact Nat.le_trans (List.length_filter_le _ _) (by simp)
theorem QI (b:Nat->Bool) (m:Nat):DZ b (m+1)=cond (b m) (DZ b m++[(m:Int)]) (DZ b m):=by
 unfold DZ;rw[range_succ,List.filter_append,map_append];cases h:b m<;>simp[h]
theorem Cn {n:Nat} {c:Int->Option Bool} {b:Nat->Bool} (hn:n<=1048576) (hc:∀k,k<n->c (k:Int)=some (b k)) :
 loop (λz:Int×List Int=>cond (decide (z.1<(n:Int))) ((c z.1).bind λt=>cond t ((app z.2 [z.1]).bind λzs=>some (.inl (wE (z.1+1),zs))) (some (.inl (wE (z.1+1),z.2)))) (some (.inr z.2))) (0,([]:List Int))=some (DZ b n):=by
 obtain⟨v,h1,rfl⟩:=xi (step:=λz:Int×List Int=>cond (decide (z.1<(n:Int))) ((c z.1).bind λt=>cond t ((app z.2 [z.1]).bind λzs=>some (.inl (wE (z.1+1),zs))) (some (.inl (wE (z.1+1),z.2)))) (some (.inr z.2))) (λk z=>z.1=(k:Int)/\z.2=DZ b k) n (λl=>l=DZ b n)
  (λk z hk ⟨e1,e2⟩=>by
   obtain⟨i,l⟩:=z;simp only at e1 e2;subst e1 e2;left;have hle:=T8 b k
   refine⟨(wE ((k:Int)+1),DZ b (k+1)),?_,wQ (by omega),rfl⟩;simp only[xk (show (k:Int)<(n:Int) by omega),cT,hc k hk,wC];rw[QI];cases b k with
   | false=>rfl
   | true=>rw[cT,UP (by simp;omega)];rfl)
  (λz ⟨e1,e2⟩=>by
   obtain⟨i,l⟩:=z;simp only at e1 e2;subst e1 e2;exact⟨_,by simp only[x7 (show ¬(n:Int)<(n:Int) by omega),cF],rfl⟩) (x:=(0,[])) ⟨rfl,rfl⟩
 exact h1
def PA (l:List Bool):Nat:=l.count true
theorem Wp (l:List Bool):PA l<=l.length:=List.count_le_length
theorem UQ {l:List Bool} {i:Nat} (h:l[i]?=some false):PA (l.set i true)=PA l+1:=by
 obtain⟨hi,he⟩:=List.getElem?_eq_some_iff.1 h;unfold PA;rw[List.count_set hi,he];simp
theorem Oc {n:Nat} {i:Int} (h:wL i 0 ((n:Int)-1)=true):∃k:Nat,k<n/\i=(k:Int):=by
 unfold wL at h;simp only[aT,decide_eq_true_eq]at h;exact⟨i.toNat,by omega,by omega⟩
theorem Od {n k:Nat} (h:k<n):wL (k:Int) 0 ((n:Int)-1)=true:=by
 unfold wL;rw[dT (by omega),dT (by omega)];rfl
structure Oe (X:List Int) (l:List Bool):Prop where
 r:∀x∈X,∃k:Nat,k<l.length/\x=(k:Int)
 m:∀k,k<l.length->l[k]?=some (QH X (k:Int))
 c:X.length=PA l
theorem Oe.len {X:List Int} {l:List Bool} (h:Oe X l):X.length<=l.length:=by rw[h.c];exact Wp l
theorem Oe.add {X:List Int} {l:List Bool} (h:Oe X l) {i:Nat} (hi:l[i]?=some false):Oe (X++[(i:Int)]) (l.set i true):=by
 obtain⟨hi',he⟩:=List.getElem?_eq_some_iff.1 hi;refine⟨λx hx=>?_,λk hk=>?_,?_⟩
 · rw[length_set];rcases mem_append.1 hx with hx|hx
   · exact h.r x hx
   · simp at hx;exact⟨i,hi',hx⟩
 · rw[length_set]at hk;rw[List.getElem?_set];split
   · rename_i e;subst e;rw[show QH (X++[(i:Int)]) (i:Int)=true from dT (by simp)]
   · rename_i e;rw[h.m k hk]
     congr 1
     unfold QH;apply decide_eq_decide.2;rw[mem_append,List.mem_singleton];constructor
     · exact .inl
     · rintro (h|h)
       · exact h
       · omega
 · rw[length_append,UQ hi,h.c];rfl
theorem Oe.in {X:List Int} {l:List Bool} (h:Oe X l) {x:Int} (hx:QH X x=true):wL x 0 ((l.length:Int)-1)=true:=by
 obtain⟨k,hk,rfl⟩:=h.r x (of_decide_eq_true hx);exact Od hk
def start (n:Nat) (b:Nat):List Bool:=(List.replicate n false).set b true
theorem XJ (id:Int) {l:List Pt} (hn:l.length<9223372036854775807) (p:Int):1<=C6 id l p:=by
 have h:=HG id hn p
 revert h
 generalize C6 id l p=v;unfold aL;rw[zQ,wC];intro h;have key:∀(o:Option Bool) (f:Bool->Option Int),(∀t x,f t=some x->1<=x)->o.bind f=some v->1<=v:=by
  intro o f hf h;cases o with
  | none=>cases h
  | some t=>exact hf t v h
 refine key _ _ (λt x hx=>?_) h;cases t with
 | true=>cases hx;decide
 | false =>
  rw[cF]at hx;cases hbv:bA id l with
  | none=>rw[hbv]at hx;cases hx
  | some w =>
   rw[hbv,wC]at hx;cases hw:w.2==p with
   | true=>rw[hw]at hx;cases hx;decide
   | false =>
    rw[hw,cF]at hx;cases ha:at? l p with
    | none=>rw[ha]at hx;cases hx
    | some y =>
     rw[ha,wC]at hx
     revert hx
     generalize (cond (!y.2.2.1) _ _:Option Bool)=o;intro hx;cases o with
     | none=>cases hx
     | some t=>cases t<;>(cases hx;decide)
theorem HH {k:Nat} (h:k<64):IntKind.u64.wrap (k:Int)=(k:Int):=by
 show ((k:Int)%18446744073709551616)=_;omega
theorem XK:∀b:Fin 64,∀p:Fin 6,∃t c,shl .i64 1 (p.1:Int)=some t/\E0 .i64 (b.1:Int) t=(c:Int)/\0<=c/\c<64:=by
 intro b p;have h:∀b:Fin 64,∀p:Fin 6,(decide (0<=E0 .i64 (b.1:Int) (2^p.1))&&decide (E0 .i64 (b.1:Int) (2^p.1)<64))=true:=by decide
 have h1:=h b p;simp only[aT,decide_eq_true_eq]at h1;have h2:∀p:Fin 6,shl .i64 1 (p.1:Int)=some (2^p.1):=by decide
 exact⟨_,_,h2 p,rfl,h1.1,h1.2⟩
theorem Wr {r:Int} (h:1<=r):decide (r<=2)=(r==1||r==2):=by
 by_cases h2:r<=2
 · rw[dT h2];rcases (show r=1\/r=2 by omega)with rfl|rfl<;>rfl
 · rw[dF h2,beq_eq_false_iff_ne.2 (show r≠1 by omega),beq_eq_false_iff_ne.2 (show r≠2 by omega)];rfl
theorem L8 (id:Int) {l:List Pt} (hn:l.length<9223372036854775807) (z:Int×Int) (hz:0<=z.2):fV id l z.1 z.2=aY id l z.1 z.2:=by
 unfold fV aY;rw[TY,HG id hn,wC];have hr:=XJ id hn z.2
 by_cases h1:z.2<(l.length:Int)
 · rw[xk h1,cT];by_cases h2:z.2<6
   · rw[xk h2,wC,wC,cT,cT,wC,Wr hr];obtain⟨k,hk⟩:∃k:Nat,z.2=(k:Int):=⟨z.2.toNat,by omega⟩;rw[hk,HH (by omega)];cases C6 id l (k:Int)==1<;>cases C6 id l (k:Int)==2<;>rfl
   · rw[x7 h2];rfl
 · rw[x7 h1];rfl
theorem L9 (id:Int) {l:List Pt} (hn:l.length<9223372036854775807):∃c:Nat,c<64/\eI id l=some (c:Int)/\fW id l=some (c:Int):=by
 obtain⟨v,h1,c,h2,rfl⟩:=xi (step:=λz:Int×Int=>aY id l z.1 z.2) (λk z=>z.2=(k:Int)/\∃c:Nat,c<64/\z.1=(c:Int)) (min l.length 6) (λv=>∃c:Nat,c<64/\v=(c:Int))
  (λk z hk ⟨e1,c,e2,e3⟩=>by
   obtain⟨b,i⟩:=z;simp only at e1 e3;subst e1 e3;left;have k6:k<6:=by omega
   obtain⟨t,d,b1,b2,b3,b4⟩:=XK ⟨c,e2⟩ ⟨k,k6⟩;have hs:aY id l (c:Int) (k:Int)=cond (C6 id l (k:Int)==1||C6 id l (k:Int)==2) (some (.inl ((d:Int),((k+1:Nat):Int)))) (some (.inl ((c:Int),((k+1:Nat):Int)))):=by
    unfold aY;rw[xk (show (k:Int)<(l.length:Int) by omega),xk (show (k:Int)<6 by omega),cT,wC,cT,HG id hn,wC,b1,wC,b2,wQ (by omega)];cases C6 id l (k:Int)==1<;>cases C6 id l (k:Int)==2<;>rfl
   show ∃y,aY id l (c:Int) (k:Int)=_/\_;rw[hs];cases (C6 id l (k:Int)==1||C6 id l (k:Int)==2)with
   | true=>exact⟨_,rfl,rfl,d.toNat,by omega,by show d=_;omega⟩
   | false=>exact⟨_,rfl,rfl,c,e2,rfl⟩)
  (λz ⟨e1,c,e2,e3⟩=>by
   obtain⟨b,i⟩:=z;simp only at e1 e3;subst e1 e3;refine⟨(c:Int),?_,c,e2,rfl⟩;show aY id l _ _=_
   unfold aY;by_cases h:l.length<=6
   · rw[Nat.min_eq_left h,x7 (by omega)];rfl
   · rw[Nat.min_eq_right (by omega),xk (by omega),x7 (show ¬(((6:Nat):Int)<6) by omega)];rfl) (x:=(0,0)) ⟨rfl,0,by omega,rfl⟩
 refine⟨c,h2,by unfold eI;rw[h1];rfl,?_⟩;unfold fW;rw[KZ (f:=λz:Int×Int=>fV id l z.1 z.2) (g:=λz:Int×Int=>aY id l z.1 z.2) (λz=>0<=z.2/\z.2<=9223372036854775806) (λz hz=>L8 id hn z hz.1) (λz y hz hy=>by
  have hy':fV id l z.1 z.2=some (.inl y):=hy;rw[L8 id hn z hz.1]at hy';unfold aY at hy';by_cases h1:z.2<(l.length:Int)
  · by_cases h2:z.2<6
    · rw[xk h1,xk h2,cT,wC,cT,HG id hn,wC]at hy';have hw:wE (z.2+1)=z.2+1:=xq (by omega) (by omega)
      rw[hw]at hy'
      revert hy'
      generalize (cond (C6 id l z.2==1) (some true) (some (C6 id l z.2==2)))=o;intro hy';cases o with
      | none=>cases hy'
      | some t =>
       rw[wC]at hy';cases t with
       | false=>cases hy';exact⟨by show 0<=z.2+1;omega,by show z.2+1<=_;omega⟩
       | true =>
        rw[cT]at hy';cases hs:shl .i64 1 z.2 with
        | none=>rw[hs]at hy';cases hy'
        | some q=>rw[hs]at hy';cases hy';exact⟨by show 0<=z.2+1;omega,by show z.2+1<=_;omega⟩
    · rw[xk h1,x7 h2]at hy';cases hy'
  · rw[x7 h1]at hy';cases hy') (x:=(0,0)) ⟨by decide,by decide⟩,h1]
 rfl
def B9 (c:Nat) (p:Int):Bool:=cond (wL p 0 7) (match shr .i64 (c:Int) p with|some t=>(zc .i64 t 1)==1|none=>false) false
theorem Ys (c:Nat) (p:Int):aQ (c:Int) p=some (B9 c p):=by
 unfold aQ B9;rw[Cz,wC];cases h:wL p 0 7 with
 | false=>rfl
 | true =>
  obtain⟨k,hk,rfl⟩:=Oc (n:=8) h;rw[HH (by omega),cT,cT];have:∃t,shr .i64 (c:Int) (k:Int)=some t:=by unfold shr;rw[if_neg (by omega)];exact⟨_,rfl⟩
  obtain⟨t,ht⟩:=this;rw[ht];rfl
theorem Yt {c:Nat} (hc:c<64) (p:Int):ap (c:Int) p=some (B9 c p):=by
 unfold ap B9;rw[zQ,wC];cases h:wL p 0 62 with
 | false =>
  have h7:wL p 0 7=false:=by
   cases h7:wL p 0 7 with
   | false=>rfl
   | true =>
    obtain⟨k,hk,rfl⟩:=Oc (n:=8) h7;have:wL (k:Int) 0 ((63:Nat)-1:Int)=true:=Od (by omega)
    exact absurd (h.symm.trans this) (by decide)
  rw[h7];rfl
 | true =>
  obtain⟨k,hk,rfl⟩:=Oc (n:=63) h;have hs:shr .i64 (c:Int) (k:Int)=some ((c:Int).fdiv (2^(min k 64))):=by unfold shr;rw[if_neg (by omega)];rfl
  rw[cT,hs,wC,wC];by_cases h7:k<8
  · rw[show wL (k:Int) 0 7=true from Od (n:=8) h7];rfl
  · rw[show wL (k:Int) 0 7=false from by unfold wL;rw[dF (show ¬(k:Int)<=7 by omega),Bool.and_false],cF];have hz:(c:Int).fdiv (2^(min k 64))=0:=by
     rw[Nat.min_eq_left (by omega)];have h2:(c:Int)<2^k:=by
      have:2^6<=2^k:=Nat.pow_le_pow_right (by decide) (by omega);have h3:c<2^k:=by omega
      exact_mod_cast h3
     rw[Int.fdiv_eq_ediv_of_nonneg _ (by exact_mod_cast Nat.zero_le _)];exact Int.ediv_eq_zero_of_lt (by omega) h2
    rw[hz];rfl

abbrev YL (x:Int):Prop:=-9223372036854775808<=x/\x<=9223372036854775807
structure VT (v:xO) (n:Nat):Prop where
 p:Ak v (n:Int)=true
 r:∀r∈v.1,YL r.2.2
theorem VT.len {v:xO} {n:Nat} (h:VT v n):1<=n/\n<=6/\v.2.length=n/\v.1.length<=6:=by
 have hp:=h.p;unfold Ak wL at hp;simp only[aT,Bool.not_eq_true',Bool.or_eq_false_iff,Bool.not_eq_false',aT,decide_eq_true_eq,decide_eq_false_iff_not,bne_eq_false_iff_eq]at hp;obtain⟨⟨h1,h2,h3⟩,_⟩:=hp;omega
theorem A5 {α:Type} {l:List α} {a b:Nat} (h1:a<=b) (h2:b<=l.length):cut l (a:Int) (b:Int)=some ((l.take b).drop a):=by
 unfold cut;rw[if_pos (by omega),if_pos (by omega),if_pos (by omega)];simp
theorem wO {α:Type} {xs ys:List α} (h:xs.length+ys.length<=4294967296):app xs ys=some (xs++ys):=by
 unfold app;rw[if_pos (show xs.length+ys.length<=Gn from h)]
def lt (a b:wJ):Prop:=a.1<b.1\/(a.1=b.1/\a.2.1<b.2.1)
def same (a b:wJ):Prop:=a.1=b.1/\a.2.1=b.2.1
theorem lt_trans {a b c:wJ} (h:lt a b) (k:lt b c):lt a c:=by unfold lt at *;omega
theorem XL {a b:wJ} (h:lt a b):¬same a b:=by unfold lt same at *;omega
structure FB (l:List wJ):Prop where
 e:∀x∈l,C4 x=true
 o:l.Pairwise lt
 n:l.length<=12
theorem FB.ok {l:List wJ} (h:FB l):Ch l=true:=by
 unfold Ch;have hn:=h.n
 rw[dT (show (l.length:Int)<=12 by omega),Bool.and_true,Bool.not_eq_true'];apply Bool.eq_false_iff.2;intro ha;obtain⟨k,hk,hx⟩:=any_eq_true.1 ha;have hk:=mem_range.1 hk
 unfold C5 at hx;simp only[List.getElem?_eq_getElem hk,h.e _ (getElem_mem hk),Bool.not_true,Bool.false_or,aT,decide_eq_true_eq]at hx;obtain⟨h0,hx⟩:=hx;simp only[List.getElem?_eq_getElem (show k-1<l.length by omega),Bool.not_eq_true']at hx;have hl:=List.pairwise_iff_getElem.1 h.o (k-1) k (by omega) hk (by omega)
 unfold yT at hx;simp only[Bool.or_eq_false_iff,Bool.and_eq_false_iff,decide_eq_false_iff_not,bF]at hx;unfold lt at hl;omega
def Bq (x e:wJ):Bool:=cond (x.1 != e.1) (decide (x.1<e.1)) (decide (x.2.1<e.2.1))
theorem Of {x e:wJ} (h:Bq x e=true):lt x e:=by
 unfold Bq at h;unfold lt;by_cases hx:x.1=e.1
 · rw[show (x.1 != e.1)=false by simp[hx],cF]at h;exact .inr ⟨hx,of_decide_eq_true h⟩
 · rw[show (x.1 != e.1)=true from bne_iff_ne.2 hx,cT]at h;exact .inl (of_decide_eq_true h)
theorem S8 {x e:wJ} (h:Bq x e=false):lt e x\/same x e:=by
 unfold Bq at h;unfold lt same;by_cases hx:x.1=e.1
 · rw[show (x.1 != e.1)=false by simp[hx],cF]at h;have:=of_decide_eq_false h
   omega
 · rw[show (x.1 != e.1)=true from bne_iff_ne.2 hx,cT]at h;have:=of_decide_eq_false h
   omega
def AI (x e:wJ):Bool:=x.1 != e.1||x.2.1 != e.2.1
theorem QJ {x e:wJ} (h:AI x e=true):¬same x e:=by
 unfold AI at h;unfold same;simp only[Bool.or_eq_true,bne_iff_ne]at h;omega
theorem OS {x e:wJ} (h:AI x e=false):same x e:=by
 unfold AI at h;unfold same;simp only[Bool.or_eq_false_iff,bne_eq_false_iff_eq]at h;exact h
theorem Og {α β:Type} (l:List α) (i:Int) (f:α->Option β):((ix l.length i).bind λj=>(l[j]?).bind f)=(at? l i).bind f:=by
 unfold ix at?;by_cases h0:0<=i
 · rw[if_pos h0,if_pos h0];by_cases h1:i<(l.length:Int)
   · rw[if_pos h1,wC]
   · rw[if_neg h1,List.getElem?_eq_none (by omega)];rfl
 · rw[if_neg h0,if_neg h0];rfl
noncomputable def HI (b:wD) (c p:Int):Int:=(bS b c p).getD 0
def num (name:List Int) (n:Int):wF:=([1,3,1]++name,2,n,[],[])
def IE (r:wY) (c:Nat):Int:=match c with|0=>1|1=>r.2.1|_=>r.2.2
noncomputable def zG (b:wD) (c:Nat):List wF:=(List.range b.2.2.1.length).map λk=>num [2,((c+1:Nat):Int),((k+1:Nat):Int)] (HI b ((c+1:Nat):Int) (k:Int))
def AR (b:wD) (c:Nat):List wF:=b.2.2.2.2.1.map λr=>num [3,((c+1:Nat):Int),r.1] (IE r c)
def GA (b:wD):List wF:=b.2.2.2.1.map λe=>num [4,1,e.1,e.2.1] (wE (e.2.2.1+1))
noncomputable def zI (b:wD):List wF:=CU b++(List.range 4).flatMap (zG b)++(List.range 3).flatMap (AR b)++GA b
theorem JX {out:List wF} (name:List Int) (n i:Int) (h1:out.length<=900) (h2:name.length<=900):((aV n).bind λv=>(aG v name).bind λt=>(app out [t]).bind λzs=>some (Sum.inl (wE (i+1),zs):(Int×List wF)⊕List wF))=some (Sum.inl (wE (i+1),out++[num name n])):=by
 unfold aV aG;rw[wC,wO (by show 3+name.length<=_;omega),wC,wC,wO (by show out.length+1<=_;omega),wC];rfl
theorem XM {b:wD} (h:Af b) (hq:b.2.2.1.length=b.2.2.2.2.2.1.length) (h6:b.2.2.1.length<=6) (c:Nat) (out:List wF) (ho:out.length<=500):loop (λz=>bB b ((c+1:Nat):Int) z.1 z.2) (0,out)=some (out++zG b c):=by
 obtain⟨v,h1,rfl⟩:=xi (step:=λz:Int×List wF=>bB b ((c+1:Nat):Int) z.1 z.2) (λk z=>z.1=(k:Int)/\z.2=out++(List.range k).map λk=>num [2,((c+1:Nat):Int),((k+1:Nat):Int)] (HI b ((c+1:Nat):Int) (k:Int))) b.2.2.1.length (λv=>v=out++zG b c)
  (λk z hk ⟨e1,e2⟩=>by
   obtain⟨i,l⟩:=z;simp only at e1 e2;subst e1;left;obtain⟨n,hn⟩:=XI h ((c+1:Nat):Int) hk hq;have hv:HI b ((c+1:Nat):Int) (k:Int)=n:=by unfold HI;rw[hn];rfl
   have hl:l.length<=900:=by rw[e2];simp;omega
   refine⟨(((k+1:Nat):Int),l++[num [2,((c+1:Nat):Int),((k+1:Nat):Int)] n]),?_,rfl,?_⟩
   · show bB b ((c+1:Nat):Int) (k:Int) l=_;unfold bB;rw[xk (by omega),cT,hn,wC,JX _ _ _ hl (by simp),wQ (by omega)]
   · show l++[num _ n]=_;rw[e2,range_succ,map_append,←append_assoc,List.map_singleton,hv])
  (λz ⟨e1,e2⟩=>by
   obtain⟨i,l⟩:=z;simp only at e1 e2;subst e1;refine⟨l,?_,e2⟩;show bB b ((c+1:Nat):Int) _ l=_
   unfold bB;rw[x7 (by omega),cF]) (x:=(0,out)) ⟨rfl,by simp⟩
 exact h1
theorem Ws {b:wD} (h:Af b) (hq:b.2.2.1.length=b.2.2.2.2.2.1.length) (h6:b.2.2.1.length<=6) (out:List wF) (ho:out.length<=100):loop (λz=>bT b z.1 z.2) (1,out)=some (out++(List.range 4).flatMap (zG b)):=by
 have hg:∀c,(zG b c).length<=6:=λc=>by unfold zG;rw[length_map,List.length_range];exact h6
 obtain⟨v,h1,rfl⟩:=xi (step:=λz:Int×List wF=>bT b z.1 z.2) (λk z=>z.1=((k+1:Nat):Int)/\z.2=out++(List.range k).flatMap (zG b)/\z.2.length<=100+6*k) 4 (λv=>v=out++(List.range 4).flatMap (zG b))
  (λk z hk ⟨e1,e2,e3⟩=>by
   obtain⟨i,l⟩:=z;simp only at e1 e2 e3;subst e1;left;have hg':=hg k
   refine⟨(((k+1+1:Nat):Int),l++zG b k),?_,rfl,?_,by show (l++zG b k).length<=_;rw[length_append];omega⟩
   · show bT b ((k+1:Nat):Int) l=_;unfold bT;rw[dT (show ((k+1:Nat):Int)<=4 by omega),cT,XM h hq h6 k l (by omega),wC,wQ (by omega)]
   · show l++zG b k=_;rw[e2,range_succ,flatMap_append,←append_assoc];simp)
  (λz ⟨e1,e2,e3⟩=>by
   obtain⟨i,l⟩:=z;simp only at e1 e2 e3;subst e1;exact⟨l,rfl,e2⟩) (x:=(1,out)) ⟨rfl,by simp,by show out.length<=_;omega⟩
 exact h1
theorem Yu {b:wD} (h6:b.2.2.2.2.1.length<=6) {c:Nat} (hc:c<3) (out:List wF) (ho:out.length<=500):loop (λz=>bC b ((c+1:Nat):Int) z.1 z.2) (0,out)=some (out++AR b c):=by
 obtain⟨v,h1,rfl⟩:=xi (step:=λz:Int×List wF=>bC b ((c+1:Nat):Int) z.1 z.2) (λk z=>z.1=(k:Int)/\z.2=out++(b.2.2.2.2.1.take k).map λr=>num [3,((c+1:Nat):Int),r.1] (IE r c)) b.2.2.2.2.1.length (λv=>v=out++AR b c)
  (λk z hk ⟨e1,e2⟩=>by
   obtain⟨i,l⟩:=z;simp only at e1 e2;subst e1;left;have hl:l.length<=900:=by rw[e2];simp;omega
   refine⟨(((k+1:Nat):Int),l++[num [3,((c+1:Nat):Int),b.2.2.2.2.1[k].1] (IE b.2.2.2.2.1[k] c)]),?_,rfl,?_⟩
   · show bC b ((c+1:Nat):Int) (k:Int) l=_;unfold bC;rw[xk (by omega),cT,wU hk,wC];generalize b.2.2.2.2.1[k]=r;have hw:wE (((c+1:Nat):Int)-1)=(c:Int):=by rw[xq (by omega) (by omega)];omega
     have hx:(ix [1,r.2.1,r.2.2].length (wE (((c+1:Nat):Int)-1))).bind (λj91=>([1,r.2.1,r.2.2][j91]?).bind λx92=>(aV x92).bind λt93=>(aG t93 [3,((c+1:Nat):Int),r.1]).bind λt98=>(app l [t98]).bind λzs100=>some (Sum.inl (wE ((k:Int)+1),zs100):(Int×List wF)⊕List wF))=(aV (IE r c)).bind λt93=>(aG t93 [3,((c+1:Nat):Int),r.1]).bind λt98=>(app l [t98]).bind λzs100=>some (Sum.inl (wE ((k:Int)+1),zs100)):=by
      rw[hw,ym (show c<[1,r.2.1,r.2.2].length from hc),wC];rcases (show c=0\/c=1\/c=2 by omega)with rfl|rfl|rfl<;>rfl
     rw[hx,JX _ _ _ hl (by simp),wQ (by omega)]
   · show l++[num _ _]=_;rw[e2,take_add_one,List.getElem?_eq_getElem hk,map_append,←append_assoc];rfl)
  (λz ⟨e1,e2⟩=>by
   obtain⟨i,l⟩:=z;simp only at e1 e2;subst e1;rw[take_length]at e2;refine⟨l,?_,e2⟩;show bC b ((c+1:Nat):Int) _ l=_
   unfold bC;rw[x7 (by omega),cF]) (x:=(0,out)) ⟨rfl,by simp⟩
 exact h1
theorem XN {b:wD} (h6:b.2.2.2.2.1.length<=6) (out:List wF) (ho:out.length<=200):loop (λz=>bU b z.1 z.2) (1,out)=some (out++(List.range 3).flatMap (AR b)):=by
 have hg:∀c,(AR b c).length<=6:=λc=>by unfold AR;rw[length_map];exact h6
 obtain⟨v,h1,rfl⟩:=xi (step:=λz:Int×List wF=>bU b z.1 z.2) (λk z=>z.1=((k+1:Nat):Int)/\z.2=out++(List.range k).flatMap (AR b)/\z.2.length<=200+6*k) 3 (λv=>v=out++(List.range 3).flatMap (AR b))
  (λk z hk ⟨e1,e2,e3⟩=>by
   obtain⟨i,l⟩:=z;simp only at e1 e2 e3;subst e1;left;have hg':=hg k
   refine⟨(((k+1+1:Nat):Int),l++AR b k),?_,rfl,?_,by show (l++AR b k).length<=_;rw[length_append];omega⟩
   · show bU b ((k+1:Nat):Int) l=_;unfold bU;rw[dT (show ((k+1:Nat):Int)<=3 by omega),cT,Yu h6 hk l (by omega),wC,wQ (by omega)]
   · show l++AR b k=_;rw[e2,range_succ,flatMap_append,←append_assoc];simp)
  (λz ⟨e1,e2,e3⟩=>by
   obtain⟨i,l⟩:=z;simp only at e1 e2 e3;subst e1;exact⟨l,rfl,e2⟩) (x:=(1,out)) ⟨rfl,by simp,by show out.length<=_;omega⟩
 exact h1
theorem Yv {b:wD} (h12:b.2.2.2.1.length<=12) (out:List wF) (ho:out.length<=500):loop (λz=>bm b z.1 z.2) (0,out)=some (out++GA b):=by
 obtain⟨v,h1,rfl⟩:=xi (step:=λz:Int×List wF=>bm b z.1 z.2) (λk z=>z.1=(k:Int)/\z.2=out++(b.2.2.2.1.take k).map λe=>num [4,1,e.1,e.2.1] (wE (e.2.2.1+1))) b.2.2.2.1.length (λv=>v=out++GA b)
  (λk z hk ⟨e1,e2⟩=>by
   obtain⟨i,l⟩:=z;simp only at e1 e2;subst e1;left;have hl:l.length<=900:=by rw[e2];simp;omega
   refine⟨(((k+1:Nat):Int),l++[num [4,1,b.2.2.2.1[k].1,b.2.2.2.1[k].2.1] (wE (b.2.2.2.1[k].2.2.1+1))]),?_,rfl,?_⟩
   · show bm b (k:Int) l=_;unfold bm;rw[xk (by omega),cT,wU hk,wC,JX _ _ _ hl (by simp),wQ (by omega)]
   · show l++[num _ _]=_;rw[e2,take_add_one,List.getElem?_eq_getElem hk,map_append,←append_assoc];rfl)
  (λz ⟨e1,e2⟩=>by
   obtain⟨i,l⟩:=z;simp only at e1 e2;subst e1;rw[take_length]at e2;refine⟨l,?_,e2⟩;show bm b _ l=_
   unfold bm;rw[x7 (by omega),cF]) (x:=(0,out)) ⟨rfl,by simp⟩
 exact h1
structure xE (b:wD):Prop where
 w:Af b
 ok:xr b=true
 p:∀x∈b.2.2.1,C3 x=true
 id:wL b.1 1 99=true
 name:b.2.1.length<=10
 n1:1<=b.2.2.1.length
 n6:b.2.2.1.length<=6
 f:Ch b.2.2.2.1=true
 v:Ak (b.2.2.2.2.1,b.2.2.2.2.2.1) (b.2.2.1.length:Int)=true
 c:zm b=true
theorem Db {b:wD} (h:Af b) (hb:xr b=true):xE b:=by
 have hb':=hb;unfold xr at hb;simp only[aT,Bool.not_eq_true',decide_eq_false_iff_not]at hb;obtain⟨h1,h2,h3,h4,h5,h6,h7⟩:=hb;refine⟨h,hb',λx hx=>?_,h2,by omega,?_,?_,h5,h6,h7⟩
 · obtain⟨k,hk,rfl⟩:=getElem_of_mem hx;cases hp:C3 b.2.2.1[k]with
   | true=>rfl
   | false =>
    have:=any_eq_false.1 h1 k (mem_range.2 hk);unfold I1 at this;simp only[List.getElem?_eq_getElem hk,hp]at this;exact absurd rfl this
 · unfold wL at h4;simp only[aT,decide_eq_true_eq]at h4;omega
 · unfold wL at h4;simp only[aT,decide_eq_true_eq]at h4;omega
theorem xE.vt {b:wD} (h:xE b):VT (b.2.2.2.2.1,b.2.2.2.2.2.1) b.2.2.1.length:=⟨h.v,h.w.r⟩
theorem xE.f12 {b:wD} (h:xE b):b.2.2.2.1.length<=12:=by
 have hf:=h.f;unfold Ch at hf;simp only[aT,decide_eq_true_eq]at hf;omega
theorem Wt {b:wD} (h:xE b):bD b=some (zI b):=by
 obtain⟨v1,v2,v3,v4⟩:=h.vt.len;have v3':b.2.2.2.2.2.1.length=b.2.2.1.length:=v3
 have v4':b.2.2.2.2.1.length<=6:=v4;have hp:((List.range 4).flatMap (zG b)).length<=24:=by
  have hg:∀c,(zG b c).length<=6:=λc=>by unfold zG;rw[length_map,List.length_range];exact h.n6
  have h0:=hg 0;have h1:=hg 1;have h2:=hg 2;have h3:=hg 3
  show (zG b 0++(zG b 1++(zG b 2++(zG b 3++[])))).length<=24;simp only[length_append,length_nil];omega
 have hr:((List.range 3).flatMap (AR b)).length<=18:=by
  have hg:∀c,(AR b c).length<=6:=λc=>by unfold AR;rw[length_map];exact v4'
  have h0:=hg 0;have h1:=hg 1;have h2:=hg 2
  show (AR b 0++(AR b 1++(AR b 2++[]))).length<=18;simp only[length_append,length_nil];omega
 have k5:(CU b).length=5:=rfl;rw[Wo h.w,h.ok,Bool.not_true,cF];unfold J3;rw[Ws h.w v3'.symm h.n6 (CU b) (by omega),wC,XN v4' _ (by rw[length_append];omega),wC,Yv h.f12 _ (by rw[length_append,length_append];omega),wC];rfl

theorem HJ {α:Type} {R:α->α->Prop} (tr:∀a b c,R a b->R b c->R a c) {l:List α} (h:∀k (hk:k+1<l.length),R l[k] l[k+1]):l.Pairwise R:=by
 rw[List.pairwise_iff_getElem];intro i j hi hj hij
 induction j with
 | zero=>omega
 | succ j ih =>
  by_cases e:i=j
  · subst e;exact h i hj
  · exact tr _ _ _ (ih (by omega) (by omega)) (h j hj)
def JY (g c:Int) (x:wF):Prop:=∃t,x.1=1::3::1::g::c::t
theorem DN {g c g' c':Int} {x y:wF} (hx:JY g c x) (hy:JY g' c' y) (h:g<g'\/(g=g'/\c<c')):x.1<y.1:=by
 obtain⟨t,ht⟩:=hx;obtain⟨s,hs⟩:=hy;rw[ht,hs];simp only[cons_lt_cons_iff,Int.lt_irrefl,false_or,true_and];rcases h with h|⟨h,k⟩
 · exact .inl h
 · exact .inr ⟨h,.inl k⟩
theorem Ey {b:wD} {c:Nat} {x:wF} (h:x∈zG b c):JY 2 ((c+1:Nat):Int) x:=by
 unfold zG at h;obtain⟨k,_,rfl⟩:=mem_map.1 h;exact⟨_,rfl⟩
theorem Gg {b:wD} {c:Nat} {x:wF} (h:x∈AR b c):JY 3 ((c+1:Nat):Int) x:=by
 unfold AR at h;obtain⟨k,_,rfl⟩:=mem_map.1 h;exact⟨_,rfl⟩
theorem IF {b:wD} {x:wF} (h:x∈GA b):JY 4 1 x:=by
 unfold GA at h;obtain⟨k,_,rfl⟩:=mem_map.1 h;exact⟨_,rfl⟩
theorem IG {b:wD} {x:wF} (h:x∈CU b):∃c,JY 1 c x:=by
 unfold CU at h;simp only[mem_cons,not_mem_nil,or_false]at h;rcases h with rfl|rfl|rfl|rfl|rfl<;>exact⟨_,_,rfl⟩
theorem QK (b:wD) (c:Nat):(zG b c).Pairwise λx y=>x.1<y.1:=by
 unfold zG;rw[List.pairwise_map];refine List.Pairwise.imp ?_ List.pairwise_lt_range;intro i j h;show (1::3::1::2::((c+1:Nat):Int)::((i+1:Nat):Int)::[])<(1::3::1::2::((c+1:Nat):Int)::((j+1:Nat):Int)::[])
 simp only[cons_lt_cons_iff,Int.lt_irrefl,false_or,true_and];exact .inl (by omega)
theorem Mt {b:wD} (h:xE b):b.2.2.2.2.1.Pairwise λr s=>r.1<s.1:=by
 refine HJ (R:=λ(r s:wY)=>r.1<s.1) (λ_ _ _ h k=>Int.lt_trans h k) λk hk=>?_;have hv:=h.v
 unfold Ak at hv;simp only[aT,Bool.not_eq_true']at hv;have hx:=any_eq_false.1 hv.2.1 (k+1) (mem_range.2 hk)
 unfold Ef at hx;simp only[List.getElem?_eq_getElem hk,Nat.add_sub_cancel,List.getElem?_eq_getElem (show k<b.2.2.2.2.1.length by omega),Bool.or_eq_true,aT,decide_eq_true_eq,not_or,not_and]at hx;have:=hx.2.1 (by omega)
 omega
theorem S9 {b:wD} (h:xE b) (c:Nat):(AR b c).Pairwise λx y=>x.1<y.1:=by
 unfold AR;rw[List.pairwise_map];refine List.Pairwise.imp ?_ (Mt h);intro r s h;show (1::3::1::3::((c+1:Nat):Int)::r.1::[])<(1::3::1::3::((c+1:Nat):Int)::s.1::[])
 simp only[cons_lt_cons_iff,Int.lt_irrefl,false_or,true_and];exact .inl h
theorem T9 {b:wD} (h:xE b):b.2.2.2.1.Pairwise lt:=by
 refine HJ (R:=lt) (λ_ _ _=>lt_trans) λk hk=>?_;have hv:=h.f
 unfold Ch at hv;simp only[aT,Bool.not_eq_true']at hv;have hx:=any_eq_false.1 hv.1 (k+1) (mem_range.2 hk)
 unfold C5 at hx;simp only[List.getElem?_eq_getElem hk,Nat.add_sub_cancel,List.getElem?_eq_getElem (show k<b.2.2.2.1.length by omega),Bool.or_eq_true,aT,decide_eq_true_eq,not_or,not_and,Bool.not_eq_true',Bool.not_eq_false]at hx;have hp:=hx.2 (by omega)
 unfold yT at hp;simp only[Bool.or_eq_true,aT,decide_eq_true_eq,beq_iff_eq]at hp;unfold lt;omega
theorem Ta {b:wD} (h:xE b):(GA b).Pairwise λx y=>x.1<y.1:=by
 unfold GA;rw[List.pairwise_map];refine List.Pairwise.imp ?_ (T9 h);intro r s h;show (1::3::1::4::1::r.1::r.2.1::[])<(1::3::1::4::1::s.1::s.2.1::[])
 unfold lt at h;simp only[cons_lt_cons_iff,Int.lt_irrefl,false_or,true_and];rcases h with h|⟨h,k⟩
 · exact .inl h
 · exact .inr ⟨h,.inl k⟩
theorem Sa (b:wD):(CU b).Pairwise λx y=>x.1<y.1:=by
 unfold CU;simp only[pairwise_cons,mem_cons,not_mem_nil,or_false,forall_eq_or_imp,forall_eq,List.Pairwise.nil,and_true,false_imp_iff,implies_true,cons_lt_cons_iff,Int.lt_irrefl,false_or,true_and];refine⟨⟨.inl (by decide),.inl (by decide),.inl (by decide),.inl (by decide)⟩,⟨.inl (by decide),.inl (by decide),.inl (by decide)⟩,⟨.inl (by decide),.inl (by decide)⟩,.inl (by decide)⟩
theorem XO {α:Type} (f:Nat->List α):(List.range 4).flatMap f=f 0++(f 1++(f 2++(f 3++[]))):=rfl
theorem XP {α:Type} (f:Nat->List α):(List.range 3).flatMap f=f 0++(f 1++(f 2++[])):=rfl
theorem La {n:Nat} {f:Nat->List wF} {g:Int} (hp:∀c,(f c).Pairwise λx y=>x.1<y.1) (hh:∀c x,x∈f c->JY g ((c+1:Nat):Int) x):((List.range n).flatMap f).Pairwise λx y=>x.1<y.1:=by
 induction n with
 | zero=>exact List.Pairwise.nil
 | succ n ih =>
  rw[range_succ,flatMap_append,pairwise_append];refine⟨ih,by simp;exact hp n,λx hx y hy=>?_⟩;obtain⟨c,hc,hx⟩:=mem_flatMap.1 hx;have hc:=mem_range.1 hc
  simp at hy;exact DN (hh c x hx) (hh n y hy) (.inr ⟨rfl,by omega⟩)
theorem Tb {b:wD} (h:xE b):(zI b).Pairwise λx y=>x.1<y.1:=by
 unfold zI;rw[pairwise_append,pairwise_append,pairwise_append];refine⟨⟨⟨Sa b,La (QK b) (λc x=>Ey),λx hx y hy=>?_⟩,La (S9 h) (λc x=>Gg),λx hx y hy=>?_⟩,Ta h,λx hx y hy=>?_⟩
 · obtain⟨c,hc⟩:=IG hx;obtain⟨d,_,hy⟩:=mem_flatMap.1 hy;exact DN hc (Ey hy) (.inl (by decide))
 · obtain⟨d,_,hy⟩:=mem_flatMap.1 hy;rcases mem_append.1 hx with hx|hx
   · obtain⟨c,hc⟩:=IG hx;exact DN hc (Gg hy) (.inl (by decide))
   · obtain⟨e,_,hx⟩:=mem_flatMap.1 hx;exact DN (Ey hx) (Gg hy) (.inl (by decide))
 · rcases mem_append.1 hx with hx|hx
   · rcases mem_append.1 hx with hx|hx
     · obtain⟨c,hc⟩:=IG hx;exact DN hc (IF hy) (.inl (by decide))
     · obtain⟨e,_,hx⟩:=mem_flatMap.1 hx;exact DN (Ey hx) (IF hy) (.inl (by decide))
   · obtain⟨e,_,hx⟩:=mem_flatMap.1 hx;exact DN (Gg hx) (IF hy) (.inl (by decide))
theorem Wu (p s t:List Int) {x y:Int} (h:x≠y):(p++x::s<p++y::t)↔x<y:=by
 induction p with
 | nil =>
  simp only[List.nil_append,cons_lt_cons_iff];exact⟨λk=>k.elim id λk=>absurd k.1 h,.inl⟩
 | cons a p ih=>simp only[List.cons_append,cons_lt_cons_iff,ih,Int.lt_irrefl,false_or,true_and]
theorem UR (p:List Int) {s:List Int} (h:s≠[]):p<p++s:=by
 induction p with
 | nil=>cases s with
  | nil=>exact absurd rfl h
  | cons a s=>exact List.nil_lt_cons a s
 | cons a p ih=>simp only[List.cons_append,cons_lt_cons_iff,Int.lt_irrefl,false_or,true_and];exact ih
theorem US (p s:List Int):¬p++s<p:=by
 induction p with
 | nil=>exact List.not_lt_nil s
 | cons a p ih=>simp only[List.cons_append,cons_lt_cons_iff,Int.lt_irrefl,false_or,true_and];exact ih
theorem TZ {a b:List Int} (h:b.length<9223372036854775807):eH a b=some (decide (a<b)):=by
 have hsplit:∀k,a.take k=b.take k->∀(ha:k<a.length) (hb:k<b.length),a=a.take k++a[k]::a.drop (k+1)/\b=a.take k++b[k]::b.drop (k+1):=by
  intro k e ha hb;refine⟨?_,?_⟩
  · rw[←drop_eq_getElem_cons ha,take_append_drop]
  · rw[e,←drop_eq_getElem_cons hb,take_append_drop]
 obtain⟨v,h1,h2⟩:=xi (step:=λz=>dG a b z) (λk i=>i=(k:Int)/\a.take k=b.take k) (min a.length b.length) (λv=>(v=.inr (decide (a<b)))\/(v=.inl ()/\decide ((a.length:Int)<(b.length:Int))=decide (a<b)))
  (λk i hk ⟨e,ht⟩=>by
   subst e;have ha:k<a.length:=by omega
   have hb:k<b.length:=by omega
   have hs:dG a b (k:Int)=cond (a[k] != b[k]) (some (.inr (.inr (decide (a[k]<b[k]))))) (some (.inl ((k+1:Nat):Int))):=by
    unfold dG;rw[xk (show (k:Int)<(a.length:Int) by omega),xk (show (k:Int)<(b.length:Int) by omega),cT,wC,cT,wU ha,wC,wU hb,wC,wQ (by omega),wC,wC]
   obtain⟨s1,s2⟩:=hsplit k ht ha hb;by_cases hne:a[k]=b[k]
   · refine .inl ⟨_,by rw[hs,show (a[k] != b[k])=false by simp[hne]];rfl,rfl,?_⟩;rw[take_add_one,take_add_one,List.getElem?_eq_getElem ha,List.getElem?_eq_getElem hb,ht,hne]
   · refine .inr ⟨_,by rw[hs,show (a[k] != b[k])=true from bne_iff_ne.2 hne];rfl,.inl ?_⟩
     congr 1
     apply decide_eq_decide.2;have:=Wu (a.take k) (a.drop (k+1)) (b.drop (k+1)) hne
     rw[←s1,←s2]at this;exact this.symm)
  (λi ⟨e,ht⟩=>by
   subst e;refine⟨.inl (),?_,.inr ⟨rfl,?_⟩⟩
   · show dG a b _=_;unfold dG;by_cases h:a.length<=b.length
     · rw[Nat.min_eq_left h,x7 (by omega)];rfl
     · rw[Nat.min_eq_right (by omega),xk (by omega),x7 (show ¬(b.length:Int)<(b.length:Int) by omega)];rfl
   · apply decide_eq_decide.2;by_cases h:a.length<=b.length
     · rw[Nat.min_eq_left h,take_length]at ht;have hb:b=a++b.drop a.length:=by
        have:=take_append_drop a.length b;rw[←ht]at this;exact this.symm
       constructor
       · intro hlt;have hd:b.drop a.length≠[]:=by
          intro h0;have:=congrArg List.length h0
          rw[length_drop]at this;simp at this;omega
         have:=UR a hd;rw[←hb]at this;exact this
       · intro hlt;by_cases he:a.length=b.length
         · have hd:b.drop a.length=[]:=List.drop_eq_nil_of_le (by omega);rw[hd,List.append_nil]at hb;rw[hb]at hlt;exact absurd hlt (List.lt_irrefl _)
         · omega
     · rw[Nat.min_eq_right (by omega),take_length]at ht;have ha:a=b++a.drop b.length:=by
        have:=take_append_drop b.length a;rw[ht]at this;exact this.symm
       constructor
       · intro hlt;omega
       · intro hlt;have:=US b (a.drop b.length)
         rw[←ha]at this;exact absurd hlt this) (x:=0) ⟨rfl,by simp⟩
 unfold eH;rw[h1,wC];rcases h2 with rfl|⟨rfl,h2⟩
 · rfl
 · show some (decide _)=_;rw[h2]

theorem Gk {a b:List Int} (h:b.length<9223372036854775807):aF a b=some (a==b):=by
 unfold aF;by_cases hl:a.length=b.length
 · have e:((a.length:Int) != (b.length:Int))=false:=by rw[hl];simp
   rw[e,cF];obtain⟨v,h1,rfl⟩:=xi (step:=λz=>dv a b z) (λk i=>i=(k:Int)/\a.take k=b.take k) a.length (λv=>v=cond (a==b) (.inl ()) (.inr false))
    (λk i hk ⟨e,ht⟩=>by
     subst e;have hb:k<b.length:=by omega
     have hs:dv a b (k:Int)=cond (a[k] != b[k]) (some (.inr (.inr false))) (some (.inl ((k+1:Nat):Int))):=by
      unfold dv;rw[xk (by omega),cT,wU hk,wC,wU hb,wC,wQ (by omega)]
     by_cases hne:a[k]=b[k]
     · refine .inl ⟨_,by rw[hs,show (a[k] != b[k])=false by simp[hne]];rfl,rfl,?_⟩;rw[take_add_one,take_add_one,List.getElem?_eq_getElem hk,List.getElem?_eq_getElem hb,ht,hne]
     · refine .inr ⟨_,by rw[hs,show (a[k] != b[k])=true from bne_iff_ne.2 hne];rfl,?_⟩;have:(a==b)=false:=by
        apply beq_eq_false_iff_ne.2;intro hab;subst hab;exact hne rfl
       rw[this];rfl)
    (λi ⟨e,ht⟩=>by
     subst e;have hab:a=b:=by
      rw[take_length,List.take_of_length_le (by omega)]at ht;exact ht
     exact⟨.inl (),by show dv a b _=_;unfold dv;rw[x7 (by omega),cF],by rw[show (a==b)=true from beq_iff_eq.2 hab];rfl⟩) (x:=0) ⟨rfl,by simp⟩
   rw[h1,wC];cases (a==b)<;>rfl
 · have e:((a.length:Int) != (b.length:Int))=true:=by simp;omega
   have hne:(a==b)=false:=beq_eq_false_iff_ne.2 λh=>hl (by rw[h]);rw[e,cT,hne]
structure Nm (o:List Int):Prop where
 n1:1<=o.length
 n10:o.length<=10
 e:∀x∈o,wL x 0 100000=true
theorem Nm.ok {o:List Int} (h:Nm o):ak o=some true:=by
 have h10:=h.n10;have h1:=h.n1
 unfold ak;obtain⟨v,e,rfl⟩:=xi (step:=λz=>aJ o z) (λk i=>i=(k:Int)) o.length (λv=>v=.inl ())
  (λk i hk e=>by
   subst e;refine .inl ⟨((k+1:Nat):Int),?_,rfl⟩;show aJ o (k:Int)=_
   unfold aJ;rw[xk (by omega),cT,wU hk,wC,zQ,wC,h.e _ (getElem_mem hk),wQ (by omega)];rfl)
  (λi e=>by
   subst e;exact⟨.inl (),by show aJ o _=_;unfold aJ;rw[x7 (by omega),cF],rfl⟩) (x:=0) rfl
 rw[e,wC];show ((aa (o.length:Int) 1 10).bind λt=>some t)=_
 rw[zQ,wC];unfold wL;rw[dT (by omega),dT (by omega)];rfl
inductive Vl:zH->Prop
 | num {n:Int} (h:wL n (-2147483648) 2147483647=true):Vl (2,n,[],[])
 | word {s:List UInt8} (h:s.length<=20):Vl (4,0,s,[])
theorem Vl.ok {v:zH} (h:Vl v):ao v=some true:=by
 cases h with
 | num h =>
  unfold ao aA bg;simp only[zQ,h,wC,Gk (show ([]:List Int).length<9223372036854775807 by decide)];simp
 | word h =>
  rename_i s;have hd:decide ((s.length:Int)<=20)=true:=dT (by omega)
  unfold ao bg;simp only[hd,wC,Gk (show ([]:List Int).length<9223372036854775807 by decide)];simp
theorem Vl.k {v:zH} (h:Vl v):(v.1==128)=false:=by cases h<;>rfl
theorem Vl.o {v:zH} (h:Vl v):v.2.2.2=[]:=by cases h<;>rfl
theorem II {n:Int} (h1:0<=n) (h2:n<=2147483647):wL n (-2147483648) 2147483647=true:=by unfold wL;rw[dT (by omega),dT (by omega)];rfl
theorem Dc {n a c:Int} (h1:a<=n) (h2:n<=c):wL n a c=true:=by unfold wL;rw[dT (by omega),dT (by omega)];rfl
theorem I2 {n a c:Int} (h:wL n a c=true):a<=n/\n<=c:=by
 unfold wL at h;simp only[aT,decide_eq_true_eq]at h;exact h
theorem Wv {v:xO} (hn:v.1.length<9223372036854775807) {id r:Int} (h:ai v id=some r) (h0:¬r<0):∃x∈v.1,x.1=id:=by
 unfold ai at h;obtain⟨b,h1,h2⟩:=xi (β:=Unit⊕Int) (step:=λz=>bf v id z) (λk i=>i=(k:Int)) v.1.length (λb=>∀r,b=.inr r->∃x∈v.1,x.1=id)
  (λk i hk h=>by
   subst h;unfold bf;rw[xk (by omega),cT,wU hk,wC];cases hb:(v.1[k].1==id)with
   | true=>exact .inr ⟨_,rfl,λr hr=>⟨_,getElem_mem hk,eq_of_beq hb⟩⟩
   | false=>exact .inl ⟨_,rfl,wQ (by omega)⟩)
  (λi h=>by
   subst h;unfold bf;rw[x7 (by omega)];exact⟨_,rfl,λr hr=>by cases hr⟩) (x:=0) rfl
 rw[h1,wC]at h;cases b with
 | inl _=>cases h;exact absurd (by decide) h0
 | inr r'=>exact h2 r' rfl
theorem UT {id:Int} {l:List Pt} {p v:Int} (h:aL id l p=some v):1<=v/\v<=4:=by
 unfold aL at h;rw[zQ,wC]at h;have key:∀(o:Option Bool) (f:Bool->Option Int),(∀t x,f t=some x->1<=x/\x<=4)->o.bind f=some v->1<=v/\v<=4:=by
  intro o f hf h;cases o with
  | none=>cases h
  | some t=>exact hf t v h
 refine key _ _ (λt x hx=>?_) h;cases t with
 | true=>cases hx;decide
 | false =>
  rw[cF]at hx;cases hbv:bA id l with
  | none=>rw[hbv]at hx;cases hx
  | some w =>
   rw[hbv,wC]at hx;cases hw:w.2==p with
   | true=>rw[hw]at hx;cases hx;decide
   | false =>
    rw[hw,cF]at hx;cases ha:at? l p with
    | none=>rw[ha]at hx;cases hx
    | some y =>
     rw[ha,wC]at hx
     revert hx
     generalize (cond (!y.2.2.1) _ _:Option Bool)=o;intro hx;cases o with
     | none=>cases hx
     | some t=>cases t<;>(cases hx;decide)
theorem PB {b:wD} (h:xE b) {r:wY} (hr:r∈b.2.2.2.2.1):(1<=r.1/\r.1<=99)/\(0<=r.2.1/\r.2.1<=63)/\(0<=r.2.2/\r.2.2<=63):=by
 obtain⟨k,hk,rfl⟩:=getElem_of_mem hr;have hv:=h.v
 unfold Ak at hv;simp only[aT,Bool.not_eq_true',Bool.or_eq_false_iff,Bool.not_eq_false']at hv;have hx:=any_eq_false.1 hv.2.1 k (mem_range.2 hk)
 unfold Ef at hx;simp only[List.getElem?_eq_getElem hk,Bool.or_eq_true,Bool.not_eq_true',not_or,Bool.not_eq_false]at hx;obtain⟨x1,_,x3,x4⟩:=hx;have ht:=QC (i:=(b.2.2.1.length:Int)) hv.1.1
 have y1:=I2 x1;have y3:=I2 x3
 have x4:(Dd .i64 b.2.2.2.2.1[k].2.2 b.2.2.2.2.1[k].2.1 != 0)=false:=by simpa using x4
 refine⟨y1,by omega,?_⟩;have hI:=h.w.r _ (getElem_mem hk)
 have hband:=I2 (Pz hI.1 hI.2 x3 ht.2 (by rw[Mr hI.1 hI.2];exact x4));omega
theorem UU {b:wD} (h:xE b) {x:Int} (hx:x∈b.2.2.2.2.2.1):1<=x/\x<=99:=by
 obtain⟨k,hk,rfl⟩:=getElem_of_mem hx;have hv:=h.v
 have hn:b.2.2.2.2.1.length<9223372036854775807:=h.w.v;unfold Ak at hv;simp only[aT,Bool.not_eq_true']at hv;have hq:=any_eq_false.1 hv.2.2 k (mem_range.2 hk)
 unfold HF at hq;simp only[List.getElem?_eq_getElem hk]at hq;obtain⟨r,hr⟩:=S5 (v:=(b.2.2.2.2.1,b.2.2.2.2.2.1)) hn b.2.2.2.2.2.1[k];rw[hr]at hq;simp only[decide_eq_true_eq]at hq;obtain⟨y,hy,e⟩:=Wv (v:=(b.2.2.2.2.1,b.2.2.2.2.2.1)) hn hr hq;have:=(PB h (r:=y) hy).1
 rw[e]at this;exact this
theorem Td {b:wD} (h:xE b) (c:Int) {k:Nat} (hk:k<b.2.2.1.length):0<=HI b c (k:Int)/\HI b c (k:Int)<=1000:=by
 have v3:b.2.2.2.2.2.1.length=b.2.2.1.length:=h.vt.len.2.2.1;have hkq:k<b.2.2.2.2.2.1.length:=by omega
 obtain⟨r,hr⟩:=QF b.1 h.w.p (k:Int);have hr2:=UT hr
 have hp:=h.p _ (getElem_mem hk);unfold C3 at hp;simp only[aT]at hp;have hc:=I2 hp.1
 have hq:=UU h (getElem_mem hkq);unfold HI bS eG;rw[wU hk,wU hkq,hr];simp only[wC];cases (c==1)with
 | true =>
  cases b.2.2.1[k].1 with
  | true=>show (0:Int)<=1/\(1:Int)<=1000;decide
  | false=>show (0:Int)<=0/\(0:Int)<=1000;decide
 | false =>
  cases (c==2)with
  | true=>show 0<=b.2.2.1[k].2.1/\b.2.2.1[k].2.1<=1000;omega
  | false =>
   cases (c==3)with
   | true=>show 0<=r/\r<=1000;omega
   | false=>show 0<=b.2.2.2.2.2.1[k]/\b.2.2.2.2.2.1[k]<=1000;omega
theorem Ww {b:wD} (h:xE b) {e:wJ} (he:e∈b.2.2.2.1):(1<=e.1/\e.1<=99)/\(1<=e.2.1/\e.2.1<=9999)/\(0<=e.2.2.1/\e.2.2.1<=7):=by
 obtain⟨k,hk,rfl⟩:=getElem_of_mem he;have hv:=h.f
 unfold Ch at hv;simp only[aT,Bool.not_eq_true']at hv;have hx:=any_eq_false.1 hv.1 k (mem_range.2 hk)
 unfold C5 at hx;simp only[List.getElem?_eq_getElem hk,Bool.or_eq_true,Bool.not_eq_true',not_or,Bool.not_eq_false]at hx;have hf:=hx.1
 unfold C4 at hf;simp only[aT]at hf;exact⟨I2 hf.1,I2 hf.2.1,I2 hf.2.2.1⟩
theorem Sb {b:wD} (h:xE b):(0<=b.2.2.2.2.2.2.1/\b.2.2.2.2.2.2.1<=1000000)/\(0<=b.2.2.2.2.2.2.2.1/\b.2.2.2.2.2.2.2.1<=1000000)/\(0<=b.2.2.2.2.2.2.2.2.1/\b.2.2.2.2.2.2.2.2.1<=1000000)/\(0<=b.2.2.2.2.2.2.2.2.2.1/\b.2.2.2.2.2.2.2.2.2.1<=1000000)/\(0<=b.2.2.2.2.2.2.2.2.2.2/\b.2.2.2.2.2.2.2.2.2.2<=1000000):=by
 have hc:=h.c;unfold zm at hc;simp only[aT]at hc;exact⟨I2 hc.1,I2 hc.2.1,I2 hc.2.2.1,I2 hc.2.2.2.1,I2 hc.2.2.2.2⟩
theorem Sc {a b:Int} (ha:0<=a/\a<=100000) (hb:0<=b/\b<=100000):Nm [1,3,1,a,b]:=⟨by simp,by simp,λx hx=>by
 simp only[mem_cons,not_mem_nil,or_false]at hx;rcases hx with rfl|rfl|rfl|rfl|rfl
 · decide
 · decide
 · decide
 · exact Dc ha.1 ha.2
 · exact Dc hb.1 hb.2⟩
theorem Y1 {a b c:Int} (ha:0<=a/\a<=100000) (hb:0<=b/\b<=100000) (hc:0<=c/\c<=100000):Nm [1,3,1,a,b,c]:=⟨by simp,by simp,λx hx=>by
 simp only[mem_cons,not_mem_nil,or_false]at hx;rcases hx with rfl|rfl|rfl|rfl|rfl|rfl
 · decide
 · decide
 · decide
 · exact Dc ha.1 ha.2
 · exact Dc hb.1 hb.2
 · exact Dc hc.1 hc.2⟩
theorem YM {a b c d:Int} (ha:0<=a/\a<=100000) (hb:0<=b/\b<=100000) (hc:0<=c/\c<=100000) (hd:0<=d/\d<=100000):Nm [1,3,1,a,b,c,d]:=⟨by simp,by simp,λx hx=>by
 simp only[mem_cons,not_mem_nil,or_false]at hx;rcases hx with rfl|rfl|rfl|rfl|rfl|rfl|rfl
 · decide
 · decide
 · decide
 · exact Dc ha.1 ha.2
 · exact Dc hb.1 hb.2
 · exact Dc hc.1 hc.2
 · exact Dc hd.1 hd.2⟩
theorem Fz {b:wD} (h:xE b):∀x∈zI b,Nm x.1/\Vl x.2:=by
 intro x hx;obtain⟨t1,t2,t3,t4,_⟩:=Sb h;have hn6:=h.n6
 unfold zI at hx;simp only[mem_append]at hx;rcases hx with ((hx|hx)|hx)|hx
 · unfold CU at hx;simp only[mem_cons,not_mem_nil,or_false]at hx;have hname:=h.name
   rcases hx with rfl|rfl|rfl|rfl|rfl
   · exact⟨Sc (by decide) (by decide),.word (by omega)⟩
   · exact⟨Sc (by decide) (by decide),.num (II t1.1 (by omega))⟩
   · exact⟨Sc (by decide) (by decide),.num (II t2.1 (by omega))⟩
   · exact⟨Sc (by decide) (by decide),.num (II t3.1 (by omega))⟩
   · exact⟨Sc (by decide) (by decide),.num (II t4.1 (by omega))⟩
 · obtain⟨c,hc,hx⟩:=mem_flatMap.1 hx;have hc:=mem_range.1 hc
   unfold zG at hx;obtain⟨k,hk,rfl⟩:=mem_map.1 hx;have hk:=mem_range.1 hk
   have hp:=Td h ((c+1:Nat):Int) hk;exact⟨Y1 (by decide) (by omega) (by omega),.num (II hp.1 (by omega))⟩
 · obtain⟨c,hc,hx⟩:=mem_flatMap.1 hx;have hc:=mem_range.1 hc
   unfold AR at hx;obtain⟨r,hr,rfl⟩:=mem_map.1 hx;obtain⟨r1,r2,r3⟩:=PB h hr;refine⟨Y1 (by decide) (by omega) (by omega),.num ?_⟩;unfold IE;split
   · decide
   · exact II r2.1 (by omega)
   · exact II r3.1 (by omega)
 · unfold GA at hx;obtain⟨e,he,rfl⟩:=mem_map.1 hx;obtain⟨e1,e2,e3⟩:=Ww h he;refine⟨YM (by decide) (by decide) (by omega) (by omega),.num ?_⟩;rw[xq (by omega) (by omega)];exact II (by omega) (by omega)
theorem UV {b:wD} (h:xE b):(zI b).length=5+4*b.2.2.1.length+3*b.2.2.2.2.1.length+b.2.2.2.1.length:=by
 have hp:∀c,(zG b c).length=b.2.2.1.length:=λc=>by unfold zG;rw[length_map,List.length_range]
 have hr:∀c,(AR b c).length=b.2.2.2.2.1.length:=λc=>by unfold AR;rw[length_map]
 have hf:(GA b).length=b.2.2.2.1.length:=by unfold GA;rw[length_map]
 have k5:(CU b).length=5:=rfl;unfold zI;rw[XO,XP];simp only[length_append,length_nil,hp,hr,hf,k5];omega
theorem Sd {b:wD} (h:xE b):(zI b).length<=59:=by
 have h1:=UV h;have h2:=h.n6
 have h3:b.2.2.2.2.1.length<=6:=h.vt.len.2.2.2;have h4:=h.f12
 omega
theorem Yw {b:wD} (h:xE b) {o:List Int} (ho:o.length<9223372036854775807):∃v,bV b o=some v/\((∃x∈zI b,x.1=o/\v=x.2)\/((∀x∈zI b,x.1≠o)/\v=(128,0,[],[]))):=by
 have hle:=Sd h;obtain⟨v,h1,h2⟩:=xi (step:=λz:Int×Int×Int×List UInt8×List Int=>bn o (zI b) z.1 z.2.1 z.2.2.1 z.2.2.2.1 z.2.2.2.2) (λk z=>z=((k:Int),0,0,[],[])/\∀x∈(zI b).take k,x.1≠o) (zI b).length (λv=>(∃x∈zI b,x.1=o/\v=.inr x.2)\/((∀x∈zI b,x.1≠o)/\∃u,v=.inl u))
  (λk z hk ⟨e,hx⟩=>by
   subst e;have hs:bn o (zI b) (k:Int) 0 0 [] []=cond ((zI b)[k].1==o) (some (.inr (.inr (zI b)[k].2))) (some (.inl (((k+1:Nat):Int),0,0,[],[]))):=by
    unfold bn;rw[xk (by omega),cT]
    try rw[Og]
    rw[wU hk,wC,Gk ho,wC,wQ (by omega)]
   show (∃y,bn o (zI b) (k:Int) 0 0 [] []=_/\_)\/(∃v,bn o (zI b) (k:Int) 0 0 [] []=_/\_);rw[hs];cases hb:((zI b)[k].1==o)with
   | true=>exact .inr ⟨_,rfl,.inl ⟨_,getElem_mem hk,eq_of_beq hb,rfl⟩⟩
   | false =>
    refine .inl ⟨_,rfl,rfl,λx hx'=>?_⟩;rw[take_add_one,List.getElem?_eq_getElem hk,mem_append]at hx';rcases hx' with hx'|hx'
    · exact hx x hx'
    · simp at hx';subst hx';exact beq_eq_false_iff_ne.1 hb)
  (λz ⟨e,hx⟩=>by
   subst e;rw[take_length]at hx;refine⟨.inl (0,0,[],[]),?_,.inr ⟨hx,_,rfl⟩⟩;show bn o (zI b) _ 0 0 [] []=_
   unfold bn;rw[x7 (by omega),cF]) (x:=(0,0,0,[],[])) ⟨rfl,by simp⟩
 unfold bV;rw[Wt h,wC,h1,wC];rcases h2 with ⟨x,hx,e,rfl⟩|⟨hx,u,rfl⟩
 · exact⟨_,rfl,.inl ⟨x,hx,e,rfl⟩⟩
 · exact⟨_,rfl,.inr ⟨hx,rfl⟩⟩

structure At (m:List wF) (o:List Int) (j:Nat):Prop where
 le:j<=m.length
 no:∀i (hi:i<m.length),i<j->¬o<m[i].1
 yes:∀i (hi:i<m.length),j<=i->o<m[i].1
theorem XQ {m:List wF} (hp:m.Pairwise λx y=>x.1<y.1) (o:List Int):∃j,At m o j:=by
 have hp:=List.pairwise_iff_getElem.1 hp;have key:∀n,n<=m.length->(∀i (hi:i<m.length),i<n->¬o<m[i].1)\/∃j,At m o j:=by
  intro n
  induction n with
  | zero=>exact λ_=>.inl λi hi h=>by omega
  | succ n ih =>
   intro hn;rcases ih (by omega)with h|h
   · by_cases hlt:o<m[n].1
     · refine .inr ⟨n,by omega,h,λi hi hni=>?_⟩;by_cases e:i=n
       · subst e;exact hlt
       · exact List.lt_trans hlt (hp n i (by omega) hi (by omega))
     · refine .inl λi hi hin=>?_;by_cases e:i=n
       · subst e;exact hlt
       · exact h i hi (by omega)
   · exact .inr h
 rcases key m.length (Nat.le_refl _)with h|h
 · exact⟨m.length,Nat.le_refl _,λi hi _=>h i hi hi,λi hi h=>by omega⟩
 · exact h
theorem Wx {b:wD} (h:xE b) {o:List Int} (ho:o.length<=1048576) {j:Nat} (hj:At (zI b) o j):aX b o=some (if h:j<(zI b).length then (zI b)[j]else (o,130,0,[],[])):=by
 have hle:=Sd h;have hjl:=hj.le
 obtain⟨v,h1,h2⟩:=xi (step:=λz:Int×Int×Int×List UInt8×List Int×List Int=>bW o (zI b) z.1 z.2.1 z.2.2.1 z.2.2.2.1 z.2.2.2.2.1 z.2.2.2.2.2) (λk z=>z=((k:Int),0,0,[],[],[])) j (λv=>if h:j<(zI b).length then v=.inr (zI b)[j]else ∃u,v=.inl u)
  (λk z hk e=>by
   subst e;have hkl:k<(zI b).length:=by omega
   have hn:=(Fz h _ (getElem_mem hkl)).1.n10;refine .inl ⟨(((k+1:Nat):Int),0,0,[],[],[]),?_,rfl⟩;show bW o (zI b) (k:Int) 0 0 [] [] []=_
   unfold bW;rw[xk (by omega),cT]
   try rw[Og]
   rw[wU hkl,wC,TZ (by omega),dF (hj.no k hkl hk),wC,cF,wQ (by omega)])
  (λz e=>by
   subst e;show ∃v,bW o (zI b) (j:Int) 0 0 [] [] []=_/\_
   unfold bW;by_cases hjn:j<(zI b).length
   · have hn:=(Fz h _ (getElem_mem hjn)).1.n10;rw[xk (by omega),cT]
     try rw[Og]
     rw[wU hjn,wC,TZ (by omega),dT (hj.yes j hjn (Nat.le_refl _)),wC,cT];exact⟨_,rfl,by rw[dif_pos hjn]⟩
   · rw[x7 (by omega),cF];exact⟨_,rfl,by rw[dif_neg hjn];exact⟨_,rfl⟩⟩) (x:=(0,0,0,[],[],[])) rfl
 unfold aX;rw[Wt h,wC,h1,wC];by_cases hjn:j<(zI b).length
 · rw[dif_pos hjn]at h2;rw[dif_pos hjn,h2];rfl
 · rw[dif_neg hjn]at h2;obtain⟨u,rfl⟩:=h2;rw[dif_neg hjn];show ((aS o).bind _)=_
   unfold aS;rw[wO (by show 0+o.length<=_;omega)];rfl
theorem XR {b:wD} (h:xE b) {o:List Int} (ho:o.length<=1000) {j:Nat} (hj:At (zI b) o j):aX b o=some (if h:j<(zI b).length then (zI b)[j]else (o,130,0,[],[])):=Wx h (by omega) hj
theorem zR {α:Type} {ys:List α} (h:ys.length<=M):app [] ys=some ys:=by
 unfold app;rw[if_pos (by show 0+ys.length<=4294967296;have h':ys.length<=1048576:=h;omega)];rfl
theorem HK {l:List Int} (h:l.length<=M):aS l=some l:=by unfold aS;rw[zR h];rfl
theorem Ci {l:List Int} (h:l.length<=M):bb l=some l:=by unfold bb;rw[zR h];rfl
theorem DO {l:List wJ} (h:l.length<=M):bN l=some l:=by unfold bN;rw[zR h];rfl
theorem Oh {l:List wJ} (h:l.length<=M):fH l=some l:=by unfold fH;rw[zR h];rfl
theorem JZ {v:xO} (h:v.1.length<=M/\v.2.length<=M):dk v=some v:=by
 unfold dk;rw[zR h.1,wC,HK h.2];rfl
theorem Se {v:xO} (h:v.1.length<=M/\v.2.length<=M):ic v=some v:=by
 unfold ic;rw[zR h.1,wC,zR h.2];rfl
theorem xQ {b:wD} (h:A4 M b):ah b=some b:=by
 obtain⟨h1,h2,h3,h4,h5⟩:=h;unfold ah;rw[zR h2,wC,DO h3,wC,JZ ⟨h4,h5⟩];rfl
theorem yB {b:wD} (h:A4 M b):af b=some b:=by
 obtain⟨h1,h2,h3,h4,h5⟩:=h;unfold af;rw[zR h2,wC,Oh h3,wC,Se ⟨h4,h5⟩];rfl
theorem UW {x:wF} (h:Cs.wf wV x):E8 maxLen x:=by
 simp only[wV,Cs.wf,CT.wf]at h;exact⟨h.1.1,h.2.2.2.1,h.2.2.2.2.1⟩
theorem Wy {j:xl} (h:Cs.wf yX j):Jr maxLen j:=by
 simp only[yX,Cs.wf,CT.wf]at h;obtain⟨_,h1,_,_,_,_,_,h2,_,h3,h4,h5,h6,h7,_⟩:=h;refine⟨h1.1,⟨h2.1,λx hx=>UW ?_⟩,⟨h3,h4.1,h5.1,h6.1,h7.1⟩⟩;have:=h2.2 x hx
 simpa only[wV,Cs.wf,CT.wf]using this
theorem Te {a:wW} (h:Cs.wf xv a):Fy maxLen a:=by
 simp only[xv,Cs.wf,CT.wf]at h;obtain⟨_,h1,h2,h3,h4,h5,_,_,_,_,_,h6,h7,_⟩:=h;refine⟨⟨h1,h2.1,h3.1,h4.1,h5.1⟩,h6,h7.1,λx hx=>Wy ?_⟩;have:=h7.2 x hx
 simpa only[yX,Cs.wf,CT.wf]using this

def LJ (o:List Int) (k:Nat):Bool:=match o[k]? with|some x=>!(wL x 0 100000)|none=>false
def A6 (o:List Int):Bool:=!((List.range o.length).any (LJ o))&&wL (o.length:Int) 1 10
theorem HL {o:List Int} (h:o.length<9223372036854775807):ak o=some (A6 o):=by
 unfold ak A6;have e:loop (λz=>aJ o z) 0=some (cond ((List.range o.length).any (LJ o)) (Sum.inr false) (Sum.inl ())):=by
  rw[←AG (n:=o.length) (c:=λi=>(at? o i).bind λx=>(aa x 0 100000).bind λt=>some (!t)) (b:=LJ o) h (λk hk=>by
   simp only[wU hk,wC,LJ,List.getElem?_eq_getElem hk,zQ])]
  refine zt (λi=>?_) 0;unfold aJ;simp only[Option.bind_assoc,wC]
 rw[e,wC];cases (List.range o.length).any (LJ o)with
 | true=>rfl
 | false=>simp only[cF,Sum.elim_inl,zQ,wC,Bool.not_false,Bool.true_and]
theorem Oi:bJ=ak:=rfl
theorem U0 (n:Int):∃c,bt n=some c/\(c==n)=wL n (-2147483648) 2147483647:=by
 unfold bt wL;by_cases h1:n>2147483647
 · refine⟨_,by rw[dT h1];rfl,?_⟩;rw[dF (show ¬n<=2147483647 by omega),Bool.and_false];exact beq_eq_false_iff_ne.2 (by omega)
 · by_cases h2:n < -2147483648
   · refine⟨_,by rw[dF h1,dT h2];rfl,?_⟩;rw[dF (show ¬n >= -2147483648 by omega),Bool.false_and];exact beq_eq_false_iff_ne.2 (by omega)
   · refine⟨_,by rw[dF h1,dF h2];rfl,?_⟩;rw[dT (show n >= -2147483648 by omega),dT (show n<=2147483647 by omega),beq_self_eq_true];rfl
theorem UX (l:List Int):aF l []=some ((l.length:Int)==0):=by
 cases l with
 | nil=>exact Cg (n:=0) (Hu (a:=[]) (by decide))
 | cons x l =>
  unfold aF;have e:(((x::l).length:Int) != (([]:List Int).length:Int))=true:=by simp;omega
  rw[e,cT,beq_eq_false_iff_ne.2 (by simp;omega)]
theorem Tf {l:List Int} (h:l.length<=M):aF l l=some true:=Cg (Hu (Ap h))
def AS (v:zH):Bool :=
 cond (v.1==5||(v.1==128||v.1==130)) (v.2.1==0&&(v.2.2.1==[]&&((v.2.2.2.length:Int)==0)))
  (cond (v.1==2) (wL v.2.1 (-2147483648) 2147483647&&(v.2.2.1==[]&&((v.2.2.2.length:Int)==0)))
   (cond (v.1==4) (decide ((v.2.2.1.length:Int)<=20)&&(v.2.1==0&&((v.2.2.2.length:Int)==0)))
    (cond (v.1==6) (A6 v.2.2.2&&(v.2.1==0&&(v.2.2.1==[]))) false)))
theorem K0 {v:zH} (h:v.2.2.2.length<=M):ao v=some (AS v):=by
 obtain⟨k,n,s,o⟩:=v;have h':o.length<=1048576:=h
 have ho:o.length<=M:=h;have hb:o.length<9223372036854775807:=by omega
 unfold ao AS bg aA;simp only[zQ,UX,Tf ho,HL hb,wC];by_cases h2:k=2
 · subst h2;cases wL n (-2147483648) 2147483647<;>cases s==[]<;>cases (o.length:Int)==0<;>simp
 by_cases h4:k=4
 · subst h4;cases decide ((s.length:Int)<=20)<;>cases n==0<;>cases (o.length:Int)==0<;>simp
 by_cases h6:k=6
 · subst h6;cases A6 o<;>cases n==0<;>cases s==[]<;>simp
 rw[beq_eq_false_iff_ne.2 h2,beq_eq_false_iff_ne.2 h4,beq_eq_false_iff_ne.2 h6];by_cases h5:k=5
 · subst h5;cases n==0<;>cases s==[]<;>cases (o.length:Int)==0<;>simp
 by_cases h128:k=128
 · subst h128;cases n==0<;>cases s==[]<;>cases (o.length:Int)==0<;>simp
 by_cases h130:k=130
 · subst h130;cases n==0<;>cases s==[]<;>cases (o.length:Int)==0<;>simp
 rw[beq_eq_false_iff_ne.2 h5,beq_eq_false_iff_ne.2 h128,beq_eq_false_iff_ne.2 h130];rfl
theorem LK {v:zH} (h:v.2.2.2.length<=M):bu v=some (AS v):=by
 obtain⟨k,n,s,o⟩:=v;have h':o.length<=1048576:=h
 have hb:o.length<9223372036854775807:=by omega
 obtain⟨c,hc,hc2⟩:=U0 n;unfold bu AS;simp only[Oi,HL hb,hc,hc2,wC];by_cases h5:k=5
 · subst h5;cases n==0<;>cases s==[]<;>cases (o.length:Int)==0<;>simp
 by_cases h128:k=128
 · subst h128;cases n==0<;>cases s==[]<;>cases (o.length:Int)==0<;>simp
 by_cases h130:k=130
 · subst h130;cases n==0<;>cases s==[]<;>cases (o.length:Int)==0<;>simp
 rw[beq_eq_false_iff_ne.2 h5,beq_eq_false_iff_ne.2 h128,beq_eq_false_iff_ne.2 h130];by_cases h2:k=2
 · subst h2;cases wL n (-2147483648) 2147483647<;>cases s==[]<;>cases (o.length:Int)==0<;>simp
 by_cases h4:k=4
 · subst h4;cases decide ((s.length:Int)<=20)<;>cases n==0<;>cases (o.length:Int)==0<;>simp
 by_cases h6:k=6
 · subst h6;cases A6 o<;>cases n==0<;>cases s==[]<;>simp
 rw[beq_eq_false_iff_ne.2 h2,beq_eq_false_iff_ne.2 h4,beq_eq_false_iff_ne.2 h6];rfl
def BJ (x:wF):Bool:=A6 x.1&&AS x.2
def bX (l:List wF) (k:Nat):Bool:=match l[k]? with|some x=>!(BJ x)|none=>false
def yK (p:xg):Bool :=
 (!((List.range p.2.2.2.2.length).any (bX p.2.2.2.2))&&decide ((p.2.2.2.2.length:Int)<=10)) &&
 (cond (p.1==162||p.1==165) (wL p.2.2.1 0 1000&&wL p.2.2.2.1 0 1000)
  (cond (p.1==160||(p.1==161||p.1==163)) (p.2.2.1==0&&p.2.2.2.1==0) false)&&wL p.2.1 (-2147483648) 2147483647)
theorem Wz {n:Nat} {f g:Nat->Bool}:(List.range n).any (λk=>f k||g k)=((List.range n).any f||(List.range n).any g):=by
 generalize List.range n=l
 induction l with
 | nil=>rfl
 | cons a l ih=>simp only[List.any_cons,ih];cases f a<;>cases g a<;>simp
theorem UY (n:Nat):(List.range n).any (λk=>decide ((k:Int)>=10))=!(decide ((n:Int)<=10)):=by
 by_cases h:(n:Int)<=10
 · rw[dT h];refine Bool.eq_false_iff.2 λha=>?_;obtain⟨k,h1,h2⟩:=any_eq_true.1 ha;have:=mem_range.1 h1
   have:=of_decide_eq_true h2;omega
 · rw[dF h];exact any_eq_true.2 ⟨10,mem_range.2 (by omega),by decide⟩
theorem Tg {p:xg} (h:zk M p):loop (λz=>gn p z) 0=some (cond (!(decide ((p.2.2.2.2.length:Int)<=10))||(List.range p.2.2.2.2.length).any (bX p.2.2.2.2)) (Sum.inr false) (Sum.inl ())):=by
 obtain⟨k,i,e,x,l⟩:=p;have h':CS M l:=h
 have hl:l.length<=1048576:=h'.1;show loop (λz=>gn (k,i,e,x,l) z) 0=some (cond (!(decide ((l.length:Int)<=10))||(List.range l.length).any (bX l)) (Sum.inr false) (Sum.inl ()))
 rw[←UY,←Wz,←AG (n:=l.length) (c:=λi=>(at? l i).bind λx=>(cond (decide (i>=10)) (some true) ((ak x.1).bind λt=>some (!t))).bind λt=>(cond t (some true) ((ao x.2).bind λt=>some (!t)))) (b:=λk=>decide ((k:Int)>=10)||bX l k) (by omega) (λk hk=>by
  have hx:E8 M l[k]:=h'.2 _ (getElem_mem hk);have h1:l[k].1.length<=1048576:=hx.1
  have h2:l[k].2.2.2.2.length<=M:=hx.2.2;simp only[wU hk,wC,bX,List.getElem?_eq_getElem hk,HL (show l[k].1.length<9223372036854775807 by omega),K0 (v:=l[k].2) h2,BJ];cases decide ((k:Int)>=10)<;>cases A6 l[k].1<;>cases AS l[k].2<;>rfl)]
 refine zt (λi=>?_) 0;unfold gn;simp only[Option.bind_assoc,wC]
theorem Sg {p:xg} (h:zk M p):loop (λz=>ig p z) 0=some (cond ((List.range p.2.2.2.2.length).any (bX p.2.2.2.2)) (Sum.inr false) (Sum.inl ())):=by
 obtain⟨k,i,e,x,l⟩:=p;have h':CS M l:=h
 have hl:l.length<=1048576:=h'.1;show loop (λz=>ig (k,i,e,x,l) z) 0=some (cond ((List.range l.length).any (bX l)) (Sum.inr false) (Sum.inl ()))
 rw[←AG (n:=l.length) (c:=λi=>(at? l i).bind λx=>(bJ x.1).bind λt=>(cond (!t) (some true) ((at? l i).bind λx=>(bu x.2).bind λt=>some (!t)))) (b:=bX l) (by omega) (λk hk=>by
  have hx:E8 M l[k]:=h'.2 _ (getElem_mem hk);have h1:l[k].1.length<=1048576:=hx.1
  have h2:l[k].2.2.2.2.length<=M:=hx.2.2;simp only[wU hk,wC,bX,List.getElem?_eq_getElem hk,Oi,HL (show l[k].1.length<9223372036854775807 by omega),LK (v:=l[k].2) h2,BJ];cases A6 l[k].1<;>cases AS l[k].2<;>rfl)]
 refine zt (λi=>?_) 0;unfold ig;simp only[Option.bind_assoc,wC]
theorem Th {p:xg} (h:zk M p):co p=some (yK p):=by
 have e0:=Tg h;have e1:loop (λz=>kV p z) 0=_:=e0
 have e2:loop (λz=>kW p z) 0=_:=e0;have e3:loop (λz=>kX p z) 0=_:=e0
 have e4:loop (λz=>kY p z) 0=_:=e0;have e5:loop (λz=>kZ p z) 0=_:=e0
 have e6:loop (λz=>l8 p z) 0=_:=e0;have e7:loop (λz=>l9 p z) 0=_:=e0
 have e8:loop (λz=>lb p z) 0=_:=e0;unfold co yK aA;rw[e0,e1,e2,e3,e4,e5,e6,e7,e8];simp only[zQ,wC];generalize (List.range p.2.2.2.2.length).any (bX p.2.2.2.2)=u;generalize decide ((p.2.2.2.2.length:Int)<=10)=w;generalize wL p.2.1 (-2147483648) 2147483647=x;generalize p.2.2.1=e;generalize p.2.2.2.1=i;generalize p.1=k;by_cases h0:k=160
 · subst h0;have b1:(e != 0)=!(e==0):=rfl
   have b2:(i != 0)=!(i==0):=rfl;rw[b1,b2];cases e==0<;>cases i==0<;>cases u<;>cases w<;>cases x<;>rfl
 by_cases h1:k=161
 · subst h1;have b1:(e != 0)=!(e==0):=rfl
   have b2:(i != 0)=!(i==0):=rfl;rw[b1,b2];cases e==0<;>cases i==0<;>cases u<;>cases w<;>cases x<;>rfl
 by_cases h3:k=163
 · subst h3;have b1:(e != 0)=!(e==0):=rfl
   have b2:(i != 0)=!(i==0):=rfl;rw[b1,b2];cases e==0<;>cases i==0<;>cases u<;>cases w<;>cases x<;>rfl
 by_cases h2:k=162
 · subst h2;cases wL e 0 1000<;>cases wL i 0 1000<;>cases u<;>cases w<;>cases x<;>rfl
 by_cases h5:k=165
 · subst h5;cases wL e 0 1000<;>cases wL i 0 1000<;>cases u<;>cases w<;>cases x<;>rfl
 rw[beq_eq_false_iff_ne.2 h0,beq_eq_false_iff_ne.2 h1,beq_eq_false_iff_ne.2 h2,beq_eq_false_iff_ne.2 h3,beq_eq_false_iff_ne.2 h5];cases u<;>cases w<;>rfl
theorem QL {p:xg} (h:zk M p):bK p=some (yK p):=by
 obtain⟨c,hc,hc2⟩:=U0 p.2.1;unfold bK yK jE;rw[Sg h];simp only[Cz,hc,hc2,wC];generalize (List.range p.2.2.2.2.length).any (bX p.2.2.2.2)=u;generalize decide ((p.2.2.2.2.length:Int)<=10)=w;generalize wL p.2.1 (-2147483648) 2147483647=x;generalize p.2.2.1=e;generalize p.2.2.2.1=i;generalize p.1=k;have b1:(e != 0)=!(e==0):=rfl
 have b2:(i != 0)=!(i==0):=rfl;rw[b1,b2];have z1:(e==0)=true->wL e 0 1000=true:=λh=>by rw[eq_of_beq h];rfl
 have z2:(i==0)=true->wL i 0 1000=true:=λh=>by rw[eq_of_beq h];rfl
 by_cases h2:k=162
 · subst h2;cases wL e 0 1000<;>cases wL i 0 1000<;>cases u<;>cases w<;>cases x<;>rfl
 by_cases h5:k=165
 · subst h5;cases wL e 0 1000<;>cases wL i 0 1000<;>cases u<;>cases w<;>cases x<;>rfl
 have n2:(k != 162)=true:=bne_iff_ne.2 h2;have n5:(k != 165)=true:=bne_iff_ne.2 h5
 rw[n2,n5,beq_eq_false_iff_ne.2 h2,beq_eq_false_iff_ne.2 h5];cases he:e==0 with
 | false=>cases hi:i==0<;>cases u<;>cases w<;>cases x<;>cases k==160<;>cases k==161<;>cases k==163<;>rfl
 | true =>
  rw[z1 he];cases hi:i==0 with
  | false=>cases u<;>cases w<;>cases x<;>cases k==160<;>cases k==161<;>cases k==163<;>rfl
  | true =>
   rw[z2 hi];cases u<;>cases w<;>cases x<;>cases k==160<;>cases k==161<;>cases k==163<;>rfl
def xw (j:xl):Int:=j.2.2.2.2.2.2.2.2.2.2.2.2.2.2.2.2.2.2.2.2
def Aq (j:xl):Int:=j.2.2.2.2.2.2.2.2.2.2.2.2.2.2.2.2.2.2.2.1
noncomputable def CV (j:xl):Bool:=wL j.2.2.1 0 2&&(wL (Aq j) 0 (j.2.2.2.2.2.2.2.1.length:Int)&&(wL (xw j) 0 3&&(j.2.2.1==0||(yK (jP j)&&((j.2.2.2.1 != 162)&&xr (jB j))))))
structure Oj (j:xl):Prop where
 p:zk M (jP j)
 b:Af (jB j)
theorem Yx {j:xl} (h:Oj j):ew j=some (CV j):=by
 have hp:co (j.2.2.2.1,j.2.2.2.2.1,j.2.2.2.2.2.1,j.2.2.2.2.2.2.1,j.2.2.2.2.2.2.2.1)=some (yK (jP j)):=Th h.p;have hb:=Bb h.b
 unfold jB at hb;unfold ew CV;rw[hp,hb];simp only[zQ,wC,Aq,xw];cases wL j.2.2.1 0 2<;>cases wL j.2.2.2.2.2.2.2.2.2.2.2.2.2.2.2.2.2.2.2.1 0 (j.2.2.2.2.2.2.2.1.length:Int)<;>cases wL j.2.2.2.2.2.2.2.2.2.2.2.2.2.2.2.2.2.2.2.2 0 3<;>cases j.2.2.1==0<;>cases yK (jP j)<;>cases j.2.2.2.1 != 162<;>rfl
theorem Yy {j:xl} (h:Oj j) (last:Int):fO j last=some (wL j.1 1 last&&CV j):=by
 have hp:bK (j.2.2.2.1,j.2.2.2.2.1,j.2.2.2.2.2.1,j.2.2.2.2.2.2.1,j.2.2.2.2.2.2.2.1)=some (yK (jP j)):=QL h.p;have hb:=Da h.b
 unfold jB at hb;unfold fO jF CV;rw[hp,hb];simp only[Cz,wC,Aq,xw];cases wL j.1 1 last<;>cases wL j.2.2.1 0 2<;>cases wL j.2.2.2.2.2.2.2.2.2.2.2.2.2.2.2.2.2.2.2.1 0 (j.2.2.2.2.2.2.2.1.length:Int)<;>cases wL j.2.2.2.2.2.2.2.2.2.2.2.2.2.2.2.2.2.2.2.2 0 3<;>cases j.2.2.1==0<;>cases yK (jP j)<;>cases j.2.2.2.1 != 162<;>rfl
def wG (a:wW):List xl:=a.2.2.2.2.2.2.2.2.2.2.2.2.1
def xn (a:wW):Int:=a.2.2.2.2.2.2.2.2.2.2.2.2.2.2
def zl (a:wW):Int:=a.2.2.2.2.2.2.2.2.2.2.2.2.2.1
noncomputable def GB (l:List xl) (last:Int) (k:Nat):Bool:=match l[k]? with
 | some j=>!(wL j.1 1 last&&CV j)||(decide (0<k)&&(match l[k-1]? with|some p=>decide (p.1>=j.1)|none=>false))
 | none=>false
noncomputable def Ar (a:wW):Bool:=!((List.range (wG a).length).any (GB (wG a) (xn a)))&&(xr (aB a)&&(decide ((a.2.2.2.2.2.2.2.2.2.2.2.1.length:Int)<=20)&&(decide (((wG a).length:Int)<=6)&&(wL (zl a) 0 1000000&&wL (xn a) 0 1000000))))
structure Lb (a:wW):Prop where
 b:Af (aB a)
 n:(wG a).length<=1048576
 j:∀x∈wG a,Oj x
theorem QM {a:wW} (h:Lb a):loop (λz=>iX a z) 0=some (cond ((List.range (wG a).length).any (GB (wG a) (xn a))) (Sum.inr false) (Sum.inl ())):=by
 have hn:=h.n;rw[←AG (n:=(wG a).length) (c:=λi=>(at? (wG a) i).bind λx=>(aa x.1 1 (xn a)).bind λt=>(cond (!t) (some true) ((cond (decide (i>0)) ((at? (wG a) (wE (i-1))).bind λy=>some (decide (y.1>=x.1))) (some false)).bind λt=>some t)).bind λt=>(cond t (some true) ((ew x).bind λt=>some (!t))).bind λt=>some t) (b:=GB (wG a) (xn a)) (by omega) (λk hk=>by
  simp only[wU hk,wC,zQ,Yx (h.j _ (getElem_mem hk)),GB,List.getElem?_eq_getElem hk];by_cases h0:0<k
  · have hd:decide ((k:Int)>0)=true:=dT (by omega);simp only[hd,EF hk h0 (by omega),wC,dT h0,List.getElem?_eq_getElem (show k-1<(wG a).length by omega),cT];cases wL (wG a)[k].1 1 (xn a)<;>cases decide ((wG a)[k-1].1>=(wG a)[k].1)<;>cases CV (wG a)[k]<;>rfl
  · have hd:decide ((k:Int)>0)=false:=dF (by omega);simp only[hd,dF h0];cases wL (wG a)[k].1 1 (xn a)<;>cases CV (wG a)[k]<;>rfl)]
 refine zt (λi=>?_) 0;unfold iX wG xn;simp only[Option.bind_assoc,wC]
theorem OT {a:wW} (h:Lb a):loop (λz=>jG a z) 0=some (cond ((List.range (wG a).length).any (GB (wG a) (xn a))) (Sum.inr false) (Sum.inl ())):=by
 have hn:=h.n;rw[←AG (n:=(wG a).length) (c:=λi=>(at? (wG a) i).bind λx=>(fO x (xn a)).bind λt=>(cond (!t) (some true) ((cond (decide (i>0)) ((at? (wG a) (wE (i-1))).bind λy=>(at? (wG a) i).bind λx=>some (decide (y.1>=x.1))) (some false)).bind λt=>some t))) (b:=GB (wG a) (xn a)) (by omega) (λk hk=>by
  simp only[wU hk,wC,Yy (h.j _ (getElem_mem hk)),GB,List.getElem?_eq_getElem hk];by_cases h0:0<k
  · have hd:decide ((k:Int)>0)=true:=dT (by omega);simp only[hd,EF hk h0 (by omega),wC,dT h0,List.getElem?_eq_getElem (show k-1<(wG a).length by omega),cT];cases wL (wG a)[k].1 1 (xn a)<;>cases decide ((wG a)[k-1].1>=(wG a)[k].1)<;>cases CV (wG a)[k]<;>rfl
  · have hd:decide ((k:Int)>0)=false:=dF (by omega);simp only[hd,dF h0];cases wL (wG a)[k].1 1 (xn a)<;>cases CV (wG a)[k]<;>rfl)]
 refine zt (λi=>?_) 0;unfold jG wG xn;simp only[Option.bind_assoc,wC]
theorem XS (n m:Int):decide (n>m)=!(decide (n<=m)):=by
 by_cases h:n<=m
 · rw[dT h,dF (by omega)];rfl
 · rw[dF h,dT (by omega)];rfl
theorem IJ {a:wW} (h:Lb a):ez a=some (Ar a):=by
 have hb:aU (a.1,a.2.1,a.2.2.1,a.2.2.2.1,a.2.2.2.2.1,a.2.2.2.2.2.1,a.2.2.2.2.2.2.1,a.2.2.2.2.2.2.2.1,a.2.2.2.2.2.2.2.2.1,a.2.2.2.2.2.2.2.2.2.1,a.2.2.2.2.2.2.2.2.2.2.1)=some (xr (aB a)):=Bb h.b;unfold ez Ar;rw[QM h,hb];simp only[S7,wC,XS,zl,xn];generalize (List.range (wG a).length).any _=u;show _=some (!u&&(xr (aB a)&&(_&&(decide ((a.2.2.2.2.2.2.2.2.2.2.2.2.1.length:Int)<=6)&&(_)))))
 cases u<;>cases xr (aB a)<;>cases decide ((a.2.2.2.2.2.2.2.2.2.2.2.1.length:Int)<=20)<;>cases decide ((a.2.2.2.2.2.2.2.2.2.2.2.2.1.length:Int)<=6)<;>cases wL a.2.2.2.2.2.2.2.2.2.2.2.2.2.1 0 1000000<;>cases wL a.2.2.2.2.2.2.2.2.2.2.2.2.2.2 0 1000000<;>rfl
theorem Lc {a:wW} (h:Lb a):ck a=some (Ar a):=by
 have hb:aR (a.1,a.2.1,a.2.2.1,a.2.2.2.1,a.2.2.2.2.1,a.2.2.2.2.2.1,a.2.2.2.2.2.2.1,a.2.2.2.2.2.2.2.1,a.2.2.2.2.2.2.2.2.1,a.2.2.2.2.2.2.2.2.2.1,a.2.2.2.2.2.2.2.2.2.2.1)=some (xr (aB a)):=Da h.b;unfold ck Ar;rw[OT h,hb];simp only[Cz,wC,zl,xn];generalize (List.range (wG a).length).any _=u;show _=some (!u&&(xr (aB a)&&(_&&(decide ((a.2.2.2.2.2.2.2.2.2.2.2.2.1.length:Int)<=6)&&(_)))))
 cases u<;>cases xr (aB a)<;>cases decide ((a.2.2.2.2.2.2.2.2.2.2.2.1.length:Int)<=20)<;>cases decide ((a.2.2.2.2.2.2.2.2.2.2.2.2.1.length:Int)<=6)<;>cases wL a.2.2.2.2.2.2.2.2.2.2.2.2.2.1 0 1000000<;>cases wL a.2.2.2.2.2.2.2.2.2.2.2.2.2.2 0 1000000<;>rfl
theorem UZ {j:xl} (h:Cs.wf yX j) (hl:Jr M j):Oj j:=by
 obtain⟨_,l1,l2⟩:=hl;refine⟨l1,?_⟩;obtain⟨_,l2,l3,l4,l5⟩:=l2;have hM:M<9223372036854775807:=by decide
 refine⟨by omega,by omega,by omega,by omega,λr hr=>?_⟩;simp only[yX,Cs.wf,CT.wf]at h;obtain⟨_,_,_,_,_,_,_,_,_,_,_,_,h4,_⟩:=h;exact (h4.2 r hr).2.2
theorem Sh {a:wW} (h:Cs.wf xv a) (hl:Fy M a):Lb a:=by
 obtain⟨⟨_,l2,l3,l4,l5⟩,l6,l7⟩:=hl;have hM:M<9223372036854775807:=by decide
 simp only[xv,Cs.wf,CT.wf]at h;obtain⟨_,_,_,_,h4,_,_,_,_,_,_,_,h7,_⟩:=h;refine⟨⟨by omega,by omega,by omega,by omega,λr hr=>(h4.2 r hr).2.2⟩,l7.1,λx hx=>UZ ?_ (l7.2 x hx)⟩;have:=h7.2 x hx
 simpa only[yX,Cs.wf,CT.wf]using this
theorem IK {α:Type} {l:List α} {step:Int×List α->Option ((Int×List α)⊕List α)} (hn:l.length<=M)
 (hs:∀k (hk:k<l.length) out,step ((k:Int),out)=(app out [l[k]]).bind λzs=>some (.inl (((k+1:Nat):Int),zs)))
 (he:∀out,step ((l.length:Int),out)=some (.inr out)):loop step (0,[])=some l:=by
 have hn':l.length<=1048576:=hn;obtain⟨b,h1,rfl⟩:=xi (step:=step) (λk z=>z=((k:Int),l.take k)) l.length (λb=>b=l)
  (λk z hk e=>by
   subst e;left;refine⟨_,by rw[hs k hk,wO (by rw[length_take];show _+1<=_;omega),wC],?_⟩;rw[take_add_one,List.getElem?_eq_getElem hk];rfl)
  (λz e=>by
   subst e;exact⟨_,he _,by rw[take_length]⟩) (x:=(0,[])) rfl
 exact h1
theorem V0 {v:zH} (h:Pw M v):gl v=some v:=by unfold gl;rw[HK h.2];rfl
theorem IL {l:List wF} (h:CS M l):dp l=some l:=by
 have hn:l.length<=1048576:=h.1;unfold dp;rw[IK (step:=λz=>dl l z.1 z.2) h.1 (λk hk out=>by
  show dl l (k:Int) out=_;unfold dl;have hx:=h.2 _ (getElem_mem hk)
  rw[xk (by omega),cT,wU hk,wC,HK hx.1,wC,V0 hx.2,wC,wQ (by omega)]) (λout=>by
  show dl l (l.length:Int) out=_;unfold dl;rw[x7 (by omega),cF])];rfl
theorem Ez {l:List wF} (h:CS M l):cL l=some l:=by
 have hn:l.length<=1048576:=h.1;unfold cL;rw[IK (step:=λz=>dV l z.1 z.2) h.1 (λk hk out=>by
  show dV l (k:Int) out=_;unfold dV;have hx:=h.2 _ (getElem_mem hk)
  rw[xk (by omega),cT,wU hk,wC,zR hx.2.2,wC,wC,zR hx.1,wC,wQ (by omega)]) (λout=>by
  show dV l (l.length:Int) out=_;unfold dV;rw[x7 (by omega),cF])];rfl
theorem V1 {p:xg} (h:zk M p):eo p=some p:=by unfold eo;rw[IL h];rfl
theorem Ti {p:xg} (h:zk M p):fJ p=some p:=by unfold fJ;rw[Ez h];rfl
theorem E9 {a:wW} (h:Fy M a):ep a=some a:=by
 obtain⟨h1,h2,h3,h4⟩:=h;have hn:(wG a).length<=1048576:=h3
 unfold ep;have hb:ah (a.1,a.2.1,a.2.2.1,a.2.2.2.1,a.2.2.2.2.1,a.2.2.2.2.2.1,a.2.2.2.2.2.2.1,a.2.2.2.2.2.2.2.1,a.2.2.2.2.2.2.2.2.1,a.2.2.2.2.2.2.2.2.2.1,a.2.2.2.2.2.2.2.2.2.2.1)=some (aB a):=xQ h1
 rw[hb,wC,IK (l:=wG a) (step:=λz=>dq a z.1 z.2) h3 (λk hk out=>by
  show dq a (k:Int) out=_;unfold dq;obtain⟨hx1,hx2,hx3⟩:=h4 _ (getElem_mem hk);have e0:at? a.2.2.2.2.2.2.2.2.2.2.2.2.1 (k:Int)=some (wG a)[k]:=wU hk
  rw[xk (show (k:Int)<(a.2.2.2.2.2.2.2.2.2.2.2.2.1.length:Int) by show (k:Int)<((wG a).length:Int);omega),cT,e0,wC];generalize (wG a)[k]=x at hx1 hx2 hx3;have e1:eo (x.2.2.2.1,x.2.2.2.2.1,x.2.2.2.2.2.1,x.2.2.2.2.2.2.1,x.2.2.2.2.2.2.2.1)=some (jP x):=V1 hx2
  have e2:ah (x.2.2.2.2.2.2.2.2.1,x.2.2.2.2.2.2.2.2.2.1,x.2.2.2.2.2.2.2.2.2.2.1,x.2.2.2.2.2.2.2.2.2.2.2.1,x.2.2.2.2.2.2.2.2.2.2.2.2.1,x.2.2.2.2.2.2.2.2.2.2.2.2.2.1,x.2.2.2.2.2.2.2.2.2.2.2.2.2.2.1,x.2.2.2.2.2.2.2.2.2.2.2.2.2.2.2.1,x.2.2.2.2.2.2.2.2.2.2.2.2.2.2.2.2.1,x.2.2.2.2.2.2.2.2.2.2.2.2.2.2.2.2.2.1,x.2.2.2.2.2.2.2.2.2.2.2.2.2.2.2.2.2.2.1)=some (jB x):=xQ hx3;rw[Ci hx1,wC,e1,wC,e2,wC,wQ (by omega)];rfl) (λout=>by
  show dq a ((wG a).length:Int) out=_;unfold dq;rw[x7 (show ¬((wG a).length:Int)<(a.2.2.2.2.2.2.2.2.2.2.2.2.1.length:Int) by show ¬((wG a).length:Int)<((wG a).length:Int);omega),cF])]
 rfl
theorem EA {a:wW} (h:Fy M a):dg a=some a:=by
 obtain⟨h1,h2,h3,h4⟩:=h;have hn:(wG a).length<=1048576:=h3
 unfold dg;have hb:af (a.1,a.2.1,a.2.2.1,a.2.2.2.1,a.2.2.2.2.1,a.2.2.2.2.2.1,a.2.2.2.2.2.2.1,a.2.2.2.2.2.2.2.1,a.2.2.2.2.2.2.2.2.1,a.2.2.2.2.2.2.2.2.2.1,a.2.2.2.2.2.2.2.2.2.2.1)=some (aB a):=yB h1
 rw[hb,wC];obtain⟨d,d1,rfl⟩:=xi (step:=λz:Int×Int×List UInt8×Int×Int×Int×Int×Int×List UInt8×Int×Int×List xl=>fK a z.1 z.2.1 z.2.2.1 z.2.2.2.1 z.2.2.2.2.1 z.2.2.2.2.2.1 z.2.2.2.2.2.2.1 z.2.2.2.2.2.2.2.1 z.2.2.2.2.2.2.2.2.1 z.2.2.2.2.2.2.2.2.2.1 z.2.2.2.2.2.2.2.2.2.2.1 z.2.2.2.2.2.2.2.2.2.2.2)
  (λk z=>z=((k:Int),a.1,a.2.1,a.2.2.2.2.2.2.1,a.2.2.2.2.2.2.2.1,a.2.2.2.2.2.2.2.2.1,a.2.2.2.2.2.2.2.2.2.1,a.2.2.2.2.2.2.2.2.2.2.1,a.2.2.2.2.2.2.2.2.2.2.2.1,a.2.2.2.2.2.2.2.2.2.2.2.2.2.1,a.2.2.2.2.2.2.2.2.2.2.2.2.2.2,(wG a).take k)) (wG a).length
  (λd=>d=(a.1,a.2.1,a.2.2.2.2.2.2.1,a.2.2.2.2.2.2.2.1,a.2.2.2.2.2.2.2.2.1,a.2.2.2.2.2.2.2.2.2.1,a.2.2.2.2.2.2.2.2.2.2.1,a.2.2.2.2.2.2.2.2.2.2.2.1,a.2.2.2.2.2.2.2.2.2.2.2.2.2.1,a.2.2.2.2.2.2.2.2.2.2.2.2.2.2,wG a))
  (λk z hk e=>by
   subst e;left;simp only;unfold fK;obtain⟨hx1,hx2,hx3⟩:=h4 _ (getElem_mem hk);have e0:at? a.2.2.2.2.2.2.2.2.2.2.2.2.1 (k:Int)=some (wG a)[k]:=wU hk
   have et:(wG a).take (k+1)=(wG a).take k++[(wG a)[k]]:=by rw[take_add_one,List.getElem?_eq_getElem hk];rfl
   rw[xk (show (k:Int)<(a.2.2.2.2.2.2.2.2.2.2.2.2.1.length:Int) by show (k:Int)<((wG a).length:Int);omega),cT,e0,wC,et];generalize (wG a)[k]=x at hx1 hx2 hx3;have e1:fJ (x.2.2.2.1,x.2.2.2.2.1,x.2.2.2.2.2.1,x.2.2.2.2.2.2.1,x.2.2.2.2.2.2.2.1)=some (jP x):=Ti hx2
   have e2:af (x.2.2.2.2.2.2.2.2.1,x.2.2.2.2.2.2.2.2.2.1,x.2.2.2.2.2.2.2.2.2.2.1,x.2.2.2.2.2.2.2.2.2.2.2.1,x.2.2.2.2.2.2.2.2.2.2.2.2.1,x.2.2.2.2.2.2.2.2.2.2.2.2.2.1,x.2.2.2.2.2.2.2.2.2.2.2.2.2.2.1,x.2.2.2.2.2.2.2.2.2.2.2.2.2.2.2.1,x.2.2.2.2.2.2.2.2.2.2.2.2.2.2.2.2.1,x.2.2.2.2.2.2.2.2.2.2.2.2.2.2.2.2.2.1,x.2.2.2.2.2.2.2.2.2.2.2.2.2.2.2.2.2.2.1)=some (jB x):=yB hx3;rw[zR hx1,wC,e1,wC,e2,wC,wO (by rw[length_take];show _+1<=_;omega),wC,wQ (by omega)];exact⟨_,rfl,rfl⟩)
  (λz e=>by
   subst e;simp only;unfold fK;rw[x7 (show ¬((wG a).length:Int)<(a.2.2.2.2.2.2.2.2.2.2.2.2.1.length:Int) by show ¬((wG a).length:Int)<((wG a).length:Int);omega),cF,take_length];exact⟨_,rfl,rfl⟩) (x:=(0,a.1,a.2.1,a.2.2.2.2.2.2.1,a.2.2.2.2.2.2.2.1,a.2.2.2.2.2.2.2.2.1,a.2.2.2.2.2.2.2.2.2.1,a.2.2.2.2.2.2.2.2.2.2.1,a.2.2.2.2.2.2.2.2.2.2.2.1,a.2.2.2.2.2.2.2.2.2.2.2.2.2.1,a.2.2.2.2.2.2.2.2.2.2.2.2.2.2,[])) rfl
 have d1':loop (λz:Int×Int×List UInt8×Int×Int×Int×Int×Int×List UInt8×Int×Int×List xl=>fK a z.1 z.2.1 z.2.2.1 z.2.2.2.1 z.2.2.2.2.1 z.2.2.2.2.2.1 z.2.2.2.2.2.2.1 z.2.2.2.2.2.2.2.1 z.2.2.2.2.2.2.2.2.1 z.2.2.2.2.2.2.2.2.2.1 z.2.2.2.2.2.2.2.2.2.2.1 z.2.2.2.2.2.2.2.2.2.2.2) (0,(aB a).1,(aB a).2.1,(aB a).2.2.2.2.2.2.1,(aB a).2.2.2.2.2.2.2.1,(aB a).2.2.2.2.2.2.2.2.1,(aB a).2.2.2.2.2.2.2.2.2.1,(aB a).2.2.2.2.2.2.2.2.2.2,a.2.2.2.2.2.2.2.2.2.2.2.1,a.2.2.2.2.2.2.2.2.2.2.2.2.2.1,a.2.2.2.2.2.2.2.2.2.2.2.2.2.2,[])=_:=d1;rw[d1'];rfl

def yV (l:List wY) (id:Int):Int:=match l.findIdx? (λr=>r.1==id)with|some k=>(k:Int)|none=>-1
theorem Ea {v:xO} (hn:v.1.length<9223372036854775807) (id:Int):ai v id=some (yV v.1 id):=by
 unfold ai yV;obtain⟨b,h1,rfl⟩:=xi (β:=Unit⊕Int) (step:=λz=>bf v id z) (λk i=>i=(k:Int)/\∀j (hj:j<k),∀(hl:j<v.1.length),¬((v.1[j].1==id)=true)) v.1.length (λb=>b=match v.1.findIdx? (λr=>r.1==id)with|some k=>.inr (k:Int)|none=>.inl ())
  (λk i hk ⟨h,hy⟩=>by
   subst h;unfold bf;rw[xk (by omega),cT,wU hk,wC];cases hb:(v.1[k].1==id)with
   | true =>
    refine .inr ⟨_,rfl,?_⟩;rw[List.findIdx?_eq_some_iff_getElem.2 ⟨hk,hb,λj hj=>hy j hj (by omega)⟩]
   | false =>
    refine .inl ⟨_,rfl,wQ (by omega),λj hj hl=>?_⟩;by_cases hjk:j=k
    · subst hjk;rw[hb];simp
    · exact hy j (by omega) hl)
  (λi ⟨h,hy⟩=>by
   subst h;refine⟨.inl (),by unfold bf;rw[x7 (by omega),cF],?_⟩;rw[List.findIdx?_eq_none_iff.2 λx hx=>by
    obtain⟨j,hj,rfl⟩:=getElem_of_mem hx;have:=hy j hj hj
    simpa using this]) (x:=0) ⟨rfl,λj hj=>by omega⟩
 rw[h1,wC];cases v.1.findIdx? (λr=>r.1==id)<;>rfl
theorem V2 {v:xO} (hn:v.1.length<9223372036854775807) (id:Int):aP v id=some (yV v.1 id):=Ea hn id
theorem DB {l:List wY} {id:Int} (h:0<=yV l id):∃k,∃hk:k<l.length,yV l id=(k:Int)/\l[k].1=id:=by
 unfold yV at h ⊢;cases hf:l.findIdx? (λr=>r.1==id)with
 | none=>rw[hf]at h;simp at h
 | some k =>
  obtain⟨hk,h1,_⟩:=List.findIdx?_eq_some_iff_getElem.1 hf;exact⟨k,hk,rfl,by simpa using h1⟩
theorem QN {l:List wY} {id:Int} (h:yV l id<0):∀x∈l,x.1≠id:=by
 unfold yV at h;cases hf:l.findIdx? (λr=>r.1==id)with
 | some k=>rw[hf]at h;simp at h;omega
 | none =>
  intro x hx;have:=List.findIdx?_eq_none_iff.1 hf x hx
  simpa using this
def EB (l:List wJ) (tag mac:Int):Int:=match l.findIdx? (λe=>e.1==tag&&e.2.1==mac)with|some k=>(k:Int)|none=>-1
theorem FA {l:List wJ} (hn:l.length<9223372036854775807) (tag mac:Int):cA l tag mac=some (EB l tag mac):=by
 unfold cA EB;obtain⟨b,h1,rfl⟩:=xi (β:=Unit⊕Int) (step:=λz=>cz l tag mac z) (λk i=>i=(k:Int)/\∀j (hj:j<k),∀(hl:j<l.length),¬((l[j].1==tag&&l[j].2.1==mac)=true)) l.length (λb=>b=match l.findIdx? (λe=>e.1==tag&&e.2.1==mac)with|some k=>.inr (k:Int)|none=>.inl ())
  (λk i hk ⟨h,hy⟩=>by
   subst h;have hs:cz l tag mac (k:Int)=cond (l[k].1==tag&&l[k].2.1==mac) (some (.inr (.inr (k:Int)))) (some (.inl ((k+1:Nat):Int))):=by
    unfold cz;simp only[xk (show (k:Int)<(l.length:Int) by omega),cT,wU hk,wC,wQ (show k<9223372036854775807 by omega)];cases l[k].1==tag<;>rfl
   show (∃y,cz l tag mac (k:Int)=some (.inl y)/\_)\/∃b,cz l tag mac (k:Int)=some (.inr b)/\_;rw[hs];cases hb:(l[k].1==tag&&l[k].2.1==mac)with
   | true =>
    refine .inr ⟨_,rfl,?_⟩;rw[List.findIdx?_eq_some_iff_getElem.2 ⟨hk,hb,λj hj=>hy j hj (by omega)⟩]
   | false =>
    refine .inl ⟨_,rfl,rfl,λj hj hl=>?_⟩;by_cases hjk:j=k
    · subst hjk;rw[hb];simp
    · exact hy j (by omega) hl)
  (λi ⟨h,hy⟩=>by
   subst h;refine⟨.inl (),by unfold cz;rw[x7 (by omega),cF],?_⟩;rw[List.findIdx?_eq_none_iff.2 λx hx=>by
    obtain⟨j,hj,rfl⟩:=getElem_of_mem hx;have:=hy j hj hj
    simpa using this]) (x:=0) ⟨rfl,λj hj=>by omega⟩
 rw[h1,wC];cases l.findIdx? (λe=>e.1==tag&&e.2.1==mac)<;>rfl
theorem LL {l:List wJ} (hn:l.length<9223372036854775807) (tag mac:Int):eg l tag mac=some (EB l tag mac):=by
 unfold eg EB;obtain⟨b,h1,rfl⟩:=xi (β:=Unit⊕Int) (step:=λz=>cS l tag mac z) (λk i=>i=(k:Int)/\∀j (hj:j<k),∀(hl:j<l.length),¬((l[j].1==tag&&l[j].2.1==mac)=true)) l.length (λb=>b=match l.findIdx? (λe=>e.1==tag&&e.2.1==mac)with|some k=>.inr (k:Int)|none=>.inl ())
  (λk i hk ⟨h,hy⟩=>by
   subst h;have hs:cS l tag mac (k:Int)=cond (l[k].1==tag&&l[k].2.1==mac) (some (.inr (.inr (k:Int)))) (some (.inl ((k+1:Nat):Int))):=by
    unfold cS;simp only[xk (show (k:Int)<(l.length:Int) by omega),cT,wU hk,wC,wQ (show k<9223372036854775807 by omega)];cases l[k].1==tag<;>rfl
   show (∃y,cS l tag mac (k:Int)=some (.inl y)/\_)\/∃b,cS l tag mac (k:Int)=some (.inr b)/\_;rw[hs];cases hb:(l[k].1==tag&&l[k].2.1==mac)with
   | true =>
    refine .inr ⟨_,rfl,?_⟩;rw[List.findIdx?_eq_some_iff_getElem.2 ⟨hk,hb,λj hj=>hy j hj (by omega)⟩]
   | false =>
    refine .inl ⟨_,rfl,rfl,λj hj hl=>?_⟩;by_cases hjk:j=k
    · subst hjk;rw[hb];simp
    · exact hy j (by omega) hl)
  (λi ⟨h,hy⟩=>by
   subst h;refine⟨.inl (),by unfold cS;rw[x7 (by omega),cF],?_⟩;rw[List.findIdx?_eq_none_iff.2 λx hx=>by
    obtain⟨j,hj,rfl⟩:=getElem_of_mem hx;have:=hy j hj hj
    simpa using this]) (x:=0) ⟨rfl,λj hj=>by omega⟩
 rw[h1,wC];cases l.findIdx? (λe=>e.1==tag&&e.2.1==mac)<;>rfl

def zg (o:List Int) (lo hi:Int) (head:List Int):Bool:=(o.length==head.length+4)&&((o.take (head.length+3)==[1,3,1]++head)&&(match o[head.length+3]? with|some x=>wL x lo hi|none=>false))
theorem HM {o:List Int} (lo hi:Int) {head:List Int} (ho:o.length<=M) (hh:head.length<=100):aM o lo hi head=some (zg o lo hi head):=by
 have ho':o.length<=1048576:=ho;have hw:wE ((head.length:Int)+4)=((head.length+4:Nat):Int):=by rw[xq (by omega) (by omega)];omega
 unfold aM zg;rw[hw];by_cases hl:o.length=head.length+4
 · have hw2:wE ((o.length:Int)-1)=((head.length+3:Nat):Int):=by rw[xq (by omega) (by omega)];omega
   have hc:cut o 0 ((head.length+3:Nat):Int)=some (o.take (head.length+3)):=by
    rw[show (0:Int)=((0:Nat):Int)from rfl,A5 (Nat.zero_le _) (by omega),drop_zero]
   have hlt:head.length+3<o.length:=by omega
   rw[show ((o.length:Int)==((head.length+4:Nat):Int))=true from beq_iff_eq.2 (by omega),cT,hw2,hc,wC,wO (by show 3+head.length<=_;omega),wC,Gk (by rw[length_append];show 3+head.length<_;omega),wC,wU hlt,wC,zQ,wC,List.getElem?_eq_getElem hlt];rw[show (o.length==head.length+4)=true from beq_iff_eq.2 hl];cases (o.take (head.length+3)==[1,3,1]++head)<;>rfl
 · rw[show ((o.length:Int)==((head.length+4:Nat):Int))=false from beq_eq_false_iff_ne.2 (by omega),cF,show (o.length==head.length+4)=false from beq_eq_false_iff_ne.2 hl];rfl
abbrev zS (b:wD):Int:=(b.2.2.1.length:Int)
abbrev B7 (b:wD):List wY:=b.2.2.2.2.1
def QO (b:wD) (o:List Int):Bool:=zg o 1 1 [1]||(zg o 1 (zS b) [2,2]||(zg o 1 (zS b) [2,4]||(zg o 1 99 [3,1]||((zg o 1 99 [3,2]||zg o 1 99 [3,3])&&(match o[5]? with|some x=>decide (yV (B7 b) x>=0)|none=>false)))))
theorem Ok {o:List Int} {lo hi:Int} {head:List Int} (h:zg o lo hi head=true):o.length=head.length+4:=by
 unfold zg at h;simp only[aT,beq_iff_eq]at h;exact h.1
theorem Yz {b:wD} (hb:A4 M b) {o:List Int} (ho:o.length<=M):gy b o=some (QO b o):=by
 have hr:b.2.2.2.2.1.length<9223372036854775807:=by have:b.2.2.2.2.1.length<=1048576:=hb.2.2.2.1;omega
 unfold gy QO;rw[HM 1 1 ho (by decide),HM 1 _ ho (by decide),HM 1 _ ho (by decide),HM 1 99 ho (by decide),HM 1 99 ho (by decide),HM 1 99 ho (by decide)];simp only[wC];cases zg o 1 1 [1]with
 | true=>rfl
 | false =>
 cases zg o 1 (zS b) [2,2]with
 | true=>rfl
 | false =>
 cases zg o 1 (zS b) [2,4]with
 | true=>rfl
 | false =>
 cases zg o 1 99 [3,1]with
 | true=>rfl
 | false =>
 have key:o.length=6->((at? o 5).bind λx41=>(ai (b.2.2.2.2.1,b.2.2.2.2.2.1) x41).bind λt43=>some (decide (t43>=0)))=some (match o[5]? with|some x=>decide (yV (B7 b) x>=0)|none=>false):=by
  intro h6;have h5:5<o.length:=by omega
  rw[show (5:Int)=((5:Nat):Int)from rfl,wU h5,wC,Ea hr,wC,List.getElem?_eq_getElem h5]
 cases h2:zg o 1 99 [3,2]with
 | true =>
  simp only[cF,cT,wC,Bool.false_or,Bool.true_or,Bool.true_and];rw[key (Ok h2)];rfl
 | false =>
  cases h3:zg o 1 99 [3,3]with
  | true =>
   simp only[cF,cT,wC,Bool.false_or,Bool.or_true,Bool.true_and];rw[key (Ok h3)];rfl
  | false=>rfl
def MK (b:wD) (o:List Int):Bool:=zg o 2 5 [1]||(zg o 1 (zS b) [2,1]||(zg o 1 (zS b) [2,3]||(((o.length==7)&&(o.take 5==[1,3,1,4,1]))&&(match o[5]?,o[6]? with|some x,some y=>decide (EB b.2.2.2.1 x y>=0)|_,_=>false))))
theorem XT {b:wD} (hb:A4 M b) {o:List Int} (ho:o.length<=M):gB b o=some (MK b o):=by
 have hr:b.2.2.2.1.length<9223372036854775807:=by have:b.2.2.2.1.length<=1048576:=hb.2.2.1;omega
 unfold gB MK;rw[HM 2 5 ho (by decide),HM 1 _ ho (by decide),HM 1 _ ho (by decide)];simp only[wC];cases zg o 2 5 [1]with
 | true=>rfl
 | false =>
 cases zg o 1 (zS b) [2,1]with
 | true=>rfl
 | false =>
 cases zg o 1 (zS b) [2,3]with
 | true=>rfl
 | false =>
 by_cases h7:o.length=7
 · have h5:5<o.length:=by omega
   have h6:6<o.length:=by omega
   have hc:cut o 0 5=some (o.take 5):=by
    rw[show (0:Int)=((0:Nat):Int)from rfl,show (5:Int)=((5:Nat):Int)from rfl,A5 (Nat.zero_le _) (by omega),drop_zero]
   rw[show ((o.length:Int)==7)=true from beq_iff_eq.2 (by omega),show (o.length==7)=true from beq_iff_eq.2 h7];simp only[cF,cT,wC,hc,Gk (show ([1,3,1,4,1]:List Int).length<9223372036854775807 by decide),Bool.false_or,Bool.true_and];cases (o.take 5==[1,3,1,4,1])with
   | false=>rfl
   | true =>
    rw[show (5:Int)=((5:Nat):Int)from rfl,show (6:Int)=((6:Nat):Int)from rfl];simp only[cT,wU h5,wU h6,wC,FA hr,List.getElem?_eq_getElem h5,List.getElem?_eq_getElem h6,Bool.true_and]
 · rw[show ((o.length:Int)==7)=false from beq_eq_false_iff_ne.2 (by omega),show (o.length==7)=false from beq_eq_false_iff_ne.2 h7];rfl

def DP (o:List Int):Bool:=decide (o.length>3)&&(o.take 3==[1,3,1])
theorem WA {o:List Int} (ho:o.length<=M):fX o=some (cond (DP o) (o.drop 3,true) ([],false)):=by
 have ho':o.length<=1048576:=ho;unfold fX jK DP;by_cases h:o.length>3
 · have hc:cut o 0 ((([1,3,1]:List Int).length:Nat):Int)=some (o.take 3):=by
    rw[show (0:Int)=((0:Nat):Int)from rfl,A5 (Nat.zero_le _) (by show 3<=_;omega),drop_zero];rfl
   have hc2:cut o 3 (o.length:Int)=some (o.drop 3):=by
    rw[show (3:Int)=((3:Nat):Int)from rfl,A5 (by omega) (Nat.le_refl _),take_length]
   have hs:cR (o.take 3) [1,3,1]=some (o.take 3==[1,3,1]):=Gk (a:=o.take 3) (b:=[1,3,1]) (by decide);rw[dT (show (o.length:Int)>(([1,3,1]:List Int).length:Int) by show (o.length:Int)>3;omega),cT,hc,wC,hs,dT h];simp only[wC,Bool.true_and];cases (o.take 3==[1,3,1])with
   | false=>rfl
   | true=>simp only[Bool.not_true,cF,cT,hc2,wC]
 · rw[dF (show ¬(o.length:Int)>(([1,3,1]:List Int).length:Int) by show ¬(o.length:Int)>3;omega),dF h];rfl
def K1 (b:wD) (o:List Int):Bool:=DP o&&(match o.drop 3 with
 | [a,c]=>a==1&&c==1
 | [a,c,p]=>(a==2&&((c==2||c==4)&&wL p 1 (zS b)))||(a==3&&((c==1&&wL p 1 99)||((c==2||c==3)&&decide (yV (B7 b) p>=0))))
 | _=>false)
theorem YA {b:wD} (hb:A4 M b) {o:List Int} (ho:o.length<=M):iz b o=some (K1 b o):=by
 have hr:b.2.2.2.2.1.length<9223372036854775807:=by have:b.2.2.2.2.1.length<=1048576:=hb.2.2.2.1;omega
 unfold iz K1;rw[WA ho,wC];cases DP o with
 | false=>rfl
 | true =>
  simp only[cT,Bool.not_true,cF,Bool.true_and]
  match o.drop 3 with
  | []=>rfl
  | [a]=>rfl
  | [a,c] =>
   rw[show (([a,c].length:Int)==2)=true from rfl,cT,show at? [a,c] 0=some a from rfl,show at? [a,c] 1=some c from rfl];simp only[wC];cases a==1<;>rfl
  | [a,c,p] =>
   rw[show (([a,c,p].length:Int)==2)=false from rfl,cF,show (([a,c,p].length:Int) != 3)=false from rfl,cF,show at? [a,c,p] 0=some a from rfl,show at? [a,c,p] 1=some c from rfl,show at? [a,c,p] 2=some p from rfl];simp only[wC,Cz,V2 (v:=(b.2.2.2.2.1,b.2.2.2.2.2.1)) hr];by_cases h2:a=2
   · subst h2;cases c==2<;>cases c==4<;>simp
   · by_cases h3:a=3
     · subst h3;cases c==1<;>cases c==2<;>cases c==3<;>cases wL p 1 99<;>simp
     · rw[show (a==2)=false from beq_eq_false_iff_ne.2 h2,show (a==3)=false from beq_eq_false_iff_ne.2 h3];rfl
  | a::c::p::q::l =>
   simp only[length_cons];rw[show ((((l.length+1+1+1+1:Nat):Int))==2)=false from beq_eq_false_iff_ne.2 (by omega),show ((((l.length+1+1+1+1:Nat):Int)) != 3)=true from bne_iff_ne.2 (by omega)];rfl
def Ld (b:wD) (o:List Int):Bool:=DP o&&(match o.drop 3 with
 | [a,c]=>a==1&&wL c 2 5
 | [a,c,p]=>a==2&&((c==1||c==3)&&wL p 1 (zS b))
 | [a,c,p,q]=>(a==4&&c==1)&&decide (EB b.2.2.2.1 p q>=0)
 | _=>false)
theorem XU {b:wD} (hb:A4 M b) {o:List Int} (ho:o.length<=M):iA b o=some (Ld b o):=by
 have hr:b.2.2.2.1.length<9223372036854775807:=by have:b.2.2.2.1.length<=1048576:=hb.2.2.1;omega
 unfold iA Ld;rw[WA ho,wC];cases DP o with
 | false=>rfl
 | true =>
  simp only[cT,Bool.not_true,cF,Bool.true_and]
  match o.drop 3 with
  | []=>rfl
  | [a]=>rfl
  | [a,c] =>
   rw[show (([a,c].length:Int)==2)=true from rfl,cT,show at? [a,c] 0=some a from rfl,show at? [a,c] 1=some c from rfl];simp only[wC,Cz];cases a==1<;>rfl
  | [a,c,p] =>
   rw[show (([a,c,p].length:Int)==2)=false from rfl,cF,show (([a,c,p].length:Int)==3)=true from rfl,cT,show at? [a,c,p] 0=some a from rfl,show at? [a,c,p] 1=some c from rfl,show at? [a,c,p] 2=some p from rfl];simp only[wC,Cz];cases a==2<;>cases c==1<;>cases c==3<;>simp
  | [a,c,p,q] =>
   rw[show (([a,c,p,q].length:Int)==2)=false from rfl,cF,show (([a,c,p,q].length:Int)==3)=false from rfl,cF,show (([a,c,p,q].length:Int)==4)=true from rfl,cT,show at? [a,c,p,q] 0=some a from rfl,show at? [a,c,p,q] 1=some c from rfl,show at? [a,c,p,q] 2=some p from rfl,show at? [a,c,p,q] 3=some q from rfl];simp only[wC,LL hr];cases a==4<;>cases c==1<;>simp
  | a::c::p::q::r::l =>
   simp only[length_cons];rw[show ((((l.length+1+1+1+1+1:Nat):Int))==2)=false from beq_eq_false_iff_ne.2 (by omega),show ((((l.length+1+1+1+1+1:Nat):Int))==3)=false from beq_eq_false_iff_ne.2 (by omega),show ((((l.length+1+1+1+1+1:Nat):Int))==4)=false from beq_eq_false_iff_ne.2 (by omega)];rfl

structure AJ (b:wD):Prop where
 id:wL b.1 1 99=true
 name:b.2.1.length<=10
 n1:1<=b.2.2.1.length
 n6:b.2.2.1.length<=6
 p:∀x∈b.2.2.1,C3 x=true
 f:Ch b.2.2.2.1=true
 c:zm b=true
 q:b.2.2.2.2.2.1.length=b.2.2.1.length
 v:b.2.2.2.2.1.length<=6
 s:b.2.2.2.2.1.Pairwise λr s=>r.1<s.1
 i:∀r∈b.2.2.2.2.1,wL r.1 1 99=true
 h:∀r∈b.2.2.2.2.1,-9223372036854775808<=r.2.2/\r.2.2<=9223372036854775807
theorem AJ.f12 {b:wD} (h:AJ b):b.2.2.2.1.length<=12:=by
 have hf:=h.f;unfold Ch at hf;simp only[aT,decide_eq_true_eq]at hf;omega
theorem AJ.le {b:wD} (h:AJ b):A4 M b:=by
 have h1:=h.name;have h2:=h.n6;have h3:=h.f12;have h4:=h.v;have h5:=h.q
 have hM:M=1048576:=rfl;exact⟨by omega,by omega,by omega,by omega,by omega⟩
theorem xE.sok {b:wD} (h:xE b):AJ b:=by
 obtain⟨v1,v2,v3,v4⟩:=h.vt.len;refine⟨h.id,h.name,h.n1,h.n6,h.p,h.f,h.c,v3,v4,Mt h,λr hr=>?_,h.w.r⟩;obtain⟨k,hk,rfl⟩:=getElem_of_mem hr;have hv:=h.v
 unfold Ak at hv;simp only[aT,Bool.not_eq_true']at hv;have hx:=any_eq_false.1 hv.2.1 k (mem_range.2 hk)
 unfold Ef at hx;simp only[List.getElem?_eq_getElem hk]at hx;cases hq:wL b.2.2.2.2.1[k].1 1 99 with
 | true=>rfl
 | false=>rw[hq]at hx;simp at hx
theorem BV {o:List Int} (h:o.length<=2):(∀lo hi head,zg o lo hi head=false)/\DP o=false:=by
 refine⟨λlo hi head=>?_,?_⟩
 · unfold zg;rw[beq_eq_false_iff_ne.2 (by omega),Bool.false_and]
 · unfold DP;rw[dF (by omega),Bool.false_and]
theorem QP {x y z:Int} {t:List Int} (h:¬(x=1/\y=3/\z=1)):(∀lo hi head,zg (x::y::z::t) lo hi head=false)/\DP (x::y::z::t)=false:=by
 refine⟨λlo hi head=>?_,?_⟩
 · unfold zg;have:((x::y::z::t).take (head.length+3)==[1,3,1]++head)=false:=by
    rw[bF];intro e;rw[take_succ_cons,take_succ_cons,take_succ_cons]at e;simp at e;exact h ⟨e.1,e.2.1,e.2.2.1⟩
   rw[this,Bool.false_and,Bool.and_false]
 · unfold DP;have:((x::y::z::t).take 3==[1,3,1])=false:=by
    rw[bF];intro e;simp at e;exact h e
   rw[this,Bool.and_false]
theorem WB (t:List Int) (lo hi c:Int):zg (1::3::1::t) lo hi [c]=match t with | [a,x]=>a==c&&wL x lo hi|_=>false:=by
 match t with
 | []=>simp[zg]
 | [a]=>simp[zg]
 | [a,x]=>simp[zg]
 | a::x::y::t=>simp[zg]
theorem WC (t:List Int) (lo hi c d:Int):zg (1::3::1::t) lo hi [c,d]=match t with | [a,b,x]=>(a==c&&b==d)&&wL x lo hi|_=>false:=by
 match t with
 | []=>simp[zg]
 | [a]=>simp[zg]
 | [a,x]=>simp[zg]
 | [a,b,x]=>simp[zg]
 | a::b::x::y::t=>simp[zg]
theorem WD (t:List Int):DP (1::3::1::t)=decide (0<t.length):=by
 unfold DP;rw[show ((1::3::1::t).take 3==[1,3,1])=true from rfl,Bool.and_true];simp
theorem Y2 (c:Int):wL c 1 1=(c==1):=by
 unfold wL;by_cases h:c=1
 · subst h;rfl
 · rw[beq_eq_false_iff_ne.2 h];simp only[Bool.and_eq_false_iff,decide_eq_false_iff_not];omega
theorem V3 {b:wD} (h:AJ b) (o:List Int):QO b o=K1 b o:=by
 unfold QO K1
 match o with
 | []=>simp only[(BV (o:=[]) (by simp)).1,(BV (o:=[]) (by simp)).2];rfl
 | [x]=>simp only[(BV (o:=[x]) (by simp)).1,(BV (o:=[x]) (by simp)).2];rfl
 | [x,y]=>simp only[(BV (o:=[x,y]) (by simp)).1,(BV (o:=[x,y]) (by simp)).2];rfl
 | x::y::z::t =>
  by_cases h3:x=1/\y=3/\z=1
  · obtain⟨rfl,rfl,rfl⟩:=h3;simp only[WB,WC,WD,Y2]
    match t with
    | []=>rfl
    | [a]=>simp
    | [a,c]=>simp
    | [a,c,p] =>
     have hp:decide (yV (B7 b) p>=0)=true->wL p 1 99=true:=by
      intro e;obtain⟨k,hk,_,e2⟩:=DB (of_decide_eq_true e);rw[←e2];exact h.i _ (getElem_mem hk)
     have e5:(1::3::1::[a,c,p])[5]?=some p:=rfl;rw[e5];rw[show decide (0<[a,c,p].length)=true from rfl,Bool.true_and];show (((false:Bool)||((((a==2)&&(c==2))&&wL p 1 (zS b))||((((a==2)&&(c==4))&&wL p 1 (zS b))||((((a==3)&&(c==1))&&wL p 1 99)||(((((a==3)&&(c==2))&&wL p 1 99)||(((a==3)&&(c==3))&&wL p 1 99))&&decide (yV (B7 b) p>=0)))))))=((a==2)&&(((c==2)||(c==4))&&wL p 1 (zS b))||(a==3)&&((c==1)&&wL p 1 99||((c==2)||(c==3))&&decide (yV (B7 b) p>=0)))
     revert hp
     generalize (a==2)=a2;generalize (a==3)=a3;generalize (c==1)=c1;generalize (c==2)=c2;generalize (c==3)=c3;generalize (c==4)=c4;generalize wL p 1 (zS b)=pn;generalize wL p 1 99=pg;generalize decide (yV (B7 b) p>=0)=R;clear e5
     revert a2 a3 c1 c2 c3 c4 pn pg R
     decide
    | a::c::p::q::l=>simp
  · simp only[(QP (t:=t) h3).1,(QP (t:=t) h3).2];rfl
theorem Si {b:wD} (h:AJ b) (o:List Int):MK b o=Ld b o:=by
 unfold MK Ld
 match o with
 | []=>simp only[(BV (o:=[]) (by simp)).1,(BV (o:=[]) (by simp)).2];rfl
 | [x]=>simp only[(BV (o:=[x]) (by simp)).1,(BV (o:=[x]) (by simp)).2];rfl
 | [x,y]=>simp only[(BV (o:=[x,y]) (by simp)).1,(BV (o:=[x,y]) (by simp)).2];rfl
 | x::y::z::t =>
  by_cases h3:x=1/\y=3/\z=1
  · obtain⟨rfl,rfl,rfl⟩:=h3;simp only[WB,WC,WD,Y2]
    match t with
    | []=>rfl
    | [a]=>simp
    | [a,c]=>simp
    | [a,c,p] =>
     have e7:((1::3::1::[a,c,p]).length==7)=false:=rfl;rw[e7,Bool.false_and,Bool.false_and,Bool.false_or];show ((a==2&&c==1)&&wL p 1 (zS b)||((a==2&&c==3)&&wL p 1 (zS b)||false))=(true&&(a==2&&((c==1||c==3)&&wL p 1 (zS b))))
     cases (a==2)<;>cases (c==1)<;>cases (c==3)<;>simp
    | [a,c,p,q]=>simp
    | a::c::p::q::r::l=>simp
  · simp only[(QP (t:=t) h3).1,(QP (t:=t) h3).2];rw[Bool.false_or,Bool.false_or,Bool.false_or,Bool.false_and];have:((x::y::z::t).take 5==[1,3,1,4,1])=false:=by
     rw[bF];intro e;simp at e;exact h3 ⟨e.1,e.2.1,e.2.2.1⟩
    rw[this,Bool.and_false,Bool.false_and]
def yG (r:wY):Bool->List wY->List wY
 | false,[]=>[r]
 | true,[]=>[]
 | false,x::t=>if x.1>=r.1 then r::(if x.1 != r.1 then x::yG r true t else yG r true t)else x::yG r false t
 | true,x::t=>if x.1 != r.1 then x::yG r true t else yG r true t
theorem Gl {r:wY}:∀{l:List wY},(∀x∈l,x.1≠r.1)->yG r true l=l
 | [],_=>rfl
 | x::t,h=>by
  unfold yG;rw[if_pos (bne_iff_ne.2 (h x (by simp))),Gl λy hy=>h y (mem_cons_of_mem _ hy)]
theorem K2 {r:wY}:∀{l:List wY} {k:Nat} (hk:k<l.length),l.Pairwise (λr s=>r.1<s.1)->l[k].1=r.1->yG r false l=l.set k r
 | x::t,0,_,hp,e=>by
  have e':x.1=r.1:=e;unfold yG;rw[if_pos (by omega),if_neg (by simp[e']),Gl λy hy=>by have:=(pairwise_cons.1 hp).1 y hy;omega];rfl
 | x::t,k+1,hk,hp,e=>by
  have e':(t[k]'(by simpa using hk)).1=r.1:=e;have:=(pairwise_cons.1 hp).1 _ (getElem_mem (by simpa using hk:k<t.length))
  unfold yG;rw[if_neg (by omega),K2 (by simpa using hk) (pairwise_cons.1 hp).2 e'];rfl
theorem PC {r:wY}:∀{l:List wY} {d:Nat},l.Pairwise (λr s=>r.1<s.1)->(∀x∈l,x.1≠r.1)->(∀x∈l.take d,x.1<=r.1)->(∀x,l[d]?=some x->¬x.1<=r.1)->yG r false l=l.take d++r::l.drop d
 | [],d,_,_,_,_=>by simp[yG]
 | x::t,0,hp,hn,_,h2=>by
  have:=h2 x rfl;unfold yG;rw[if_pos (by omega),if_pos (bne_iff_ne.2 (hn x (by simp))),Gl λy hy=>hn y (mem_cons_of_mem _ hy)];rfl
 | x::t,d+1,hp,hn,h1,h2=>by
  have a1:=h1 x (by simp);have a2:=hn x (by simp)
  unfold yG;rw[if_neg (by omega),PC (d:=d) (pairwise_cons.1 hp).2 (λy hy=>hn y (mem_cons_of_mem _ hy)) (λy hy=>h1 y (by rw[take_succ_cons];exact mem_cons_of_mem _ hy)) (λy hy=>h2 y (by simpa using hy))];rfl
theorem WE {v:xO} (r:wY) (h1:v.1.length<=1000) (h2:v.2.length<=1000):cU v r=some (yG r false v.1,v.2):=by
 unfold cU;rw[wO (by show 0+v.2.length<=_;omega),wC];obtain⟨b,e1,e2⟩:=xi (β:=Bool×List wY) (step:=λz:Bool×Int×List wY=>iB v r z.1 z.2.1 z.2.2)
  (λk z=>z.2.1=(k:Int)/\z.2.2++yG r z.1 (v.1.drop k)=yG r false v.1/\z.2.2.length<=2*k) v.1.length
  (λz=>z.2++yG r z.1 []=yG r false v.1/\z.2.length<=2000)
  (λk z hk ⟨z1,z2,z3⟩=>by
   obtain⟨dn,i,out⟩:=z;simp only at z1 z2 z3;subst z1;left;have hd:v.1.drop k=v.1[k]::v.1.drop (k+1):=drop_eq_getElem_cons hk
   have hw:wE ((k:Int)+1)=((k+1:Nat):Int):=wQ (by omega);have ha:∀(x:wY),app out [x]=some (out++[x]):=λx=>wO (by show _+1<=_;omega)
   have hb:∀(x y:wY),app (out++[x]) [y]=some (out++[x]++[y]):=λx y=>wO (by simp only[length_append,length_cons,length_nil];omega);rw[hd]at z2;generalize hG:yG r false v.1=G at z2 ⊢;unfold iB;simp only[xk (show (k:Int)<(v.1.length:Int) by omega),cT,wU hk,wC,ha,hb,hw];cases dn with
   | true =>
    simp only[Bool.not_true,cF,wC];unfold yG at z2;cases hq:(v.1[k].1 != r.1)with
    | true =>
     rw[hq]at z2;exact⟨_,rfl,rfl,by simpa using z2,by simp;omega⟩
    | false =>
     rw[hq]at z2;exact⟨_,rfl,rfl,by simpa using z2,by simp;omega⟩
   | false =>
    simp only[Bool.not_false,cT,wC];unfold yG at z2;by_cases hg:v.1[k].1>=r.1
    · rw[if_pos hg]at z2;simp only[dT hg,cT];cases hq:(v.1[k].1 != r.1)with
      | true =>
       rw[hq]at z2;exact⟨_,rfl,rfl,by simpa using z2,by simp;omega⟩
      | false =>
       rw[hq]at z2;exact⟨_,rfl,rfl,by simpa using z2,by simp;omega⟩
    · rw[if_neg hg]at z2;simp only[dF hg,cF,bne_iff_ne.2 (show v.1[k].1≠r.1 by omega),cT];exact⟨_,rfl,rfl,by simpa using z2,by simp;omega⟩)
  (λz ⟨z1,z2,z3⟩=>by
   obtain⟨dn,i,out⟩:=z;simp only at z1 z2 z3;subst z1;rw[List.drop_length]at z2;refine⟨(dn,out),?_,z2,by show out.length<=2000;have:out.length<=2*v.1.length:=z3;omega⟩;unfold iB;rw[x7 (by omega),cF]) (x:=(false,0,[])) ⟨rfl,rfl,by simp⟩
 rw[e1,wC];obtain⟨dn,out⟩:=b;simp only at e2 ⊢;cases dn with
 | true =>
  rw[Bool.not_true,cF,←e2.1];simp[yG]
 | false =>
  rw[Bool.not_false,cT,wO (by show _+1<=_;omega),wC,←e2.1];rfl
theorem Tj {v:xO} (r:wY) (h1:v.1.length<=1000) (h2:v.2.length<=1000) (hp:v.1.Pairwise λr s=>r.1<s.1):eJ v r=some (yG r false v.1,v.2):=by
 unfold eJ;have hM:M=1048576:=rfl
 rw[JZ ⟨by omega,by omega⟩,wC,Ea (by omega),wC];by_cases hr:yV v.1 r.1>=0
 · obtain⟨k,hk,e1,e2⟩:=DB hr;have hx:ix v.1.length (k:Int)=some k:=by unfold ix;rw[if_pos (by omega),if_pos (by omega),Int.toNat_natCast]
   rw[dT hr,cT,e1,hx,wC,List.getElem?_eq_getElem hk,wC,K2 hk hp e2]
 · rw[dF hr,cF];have hn:=QN (by omega:yV v.1 r.1<0)
   obtain⟨d,e1,k,hk,rfl,e3,e4⟩:=xi (β:=Int) (step:=λz=>gz v r z)
    (λk z=>z=(k:Int)/\∀x∈v.1.take k,x.1<=r.1) v.1.length
    (λz=>∃k:Nat,k<=v.1.length/\z=(k:Int)/\(∀x∈v.1.take k,x.1<=r.1)/\(∀x,v.1[k]?=some x->¬x.1<=r.1))
    (λk z hk ⟨z1,z2⟩=>by
     subst z1;unfold gz;simp only[xk (show (k:Int)<(v.1.length:Int) by omega),cT,wU hk,wC];by_cases hq:v.1[k].1<=r.1
     · refine .inl ⟨_,by rw[dT hq,cT],wQ (by omega),λx hx=>?_⟩;rw[take_add_one,List.getElem?_eq_getElem hk,mem_append]at hx;rcases hx with hx|hx
       · exact z2 x hx
       · simp at hx;subst hx;exact hq
     · refine .inr ⟨_,by rw[dF hq,cF],k,by omega,rfl,z2,λx hx=>?_⟩;rw[List.getElem?_eq_getElem hk]at hx;cases hx;exact hq)
    (λz ⟨z1,z2⟩=>by
     subst z1;refine⟨(v.1.length:Int),?_,v.1.length,Nat.le_refl _,rfl,z2,λx hx=>?_⟩
     · unfold gz;rw[x7 (by omega),cF];rfl
     · rw[List.getElem?_eq_none (Nat.le_refl _)]at hx;cases hx) (x:=0) ⟨rfl,by simp⟩
   rw[e1,wC,show (0:Int)=((0:Nat):Int)from rfl,A5 (Nat.zero_le _) hk,wC,drop_zero];have hl:(v.1.take k).length<=1000:=by rw[length_take];omega
   rw[wO (by simp only[length_nil];omega),wC,List.nil_append,wO (by simp only[length_cons,length_nil];omega),wC,A5 hk (Nat.le_refl _),wC,take_length,wO (by simp only[length_append,length_cons,length_nil,length_drop];omega),wC,PC hp hn e3 e4];simp

def WF (b:wD) (m s:Option (wD×Int)):Prop:=∃r,m=some r/\s=some r/\AJ r.1/\(r.2≠0->r.1=b)
theorem FC {n a b:Nat} (h1:a<=b) (h2:b<=n):yC n (a:Int) (b:Int)=some (a,b):=by
 unfold yC;rw[if_pos (by omega),if_pos (by omega),if_pos (by omega)];simp
theorem Tk {v:xO} (id:Int) (h1:v.1.length<=1000) (h2:v.2.length<=1000) {k:Nat} (hk:k<v.1.length) (e:yV v.1 id=(k:Int)):eK v id=some (v.1.eraseIdx k,v.2):=by
 unfold eK;have hM:M=1048576:=rfl
 have hw:wE ((k:Int)+1)=((k+1:Nat):Int):=wQ (by omega);rw[JZ ⟨by omega,by omega⟩,wC,Ea (by omega),wC,e,dT (by omega),cT,hw,show (0:Int)=((0:Nat):Int)from rfl,A5 (Nat.zero_le _) (by omega),wC,wO (by simp only[length_nil,length_drop,length_take];omega),wC,A5 (by omega) (Nat.le_refl _),wC,wO (by simp only[length_append,length_nil,length_drop,length_take];omega),wC,List.eraseIdx_eq_take_drop_succ];simp
theorem LM {r:wY} {l:List wY} (hs:l.Pairwise λr s=>r.1<s.1) (hi:∀x∈l,wL x.1 1 99=true) (hh:∀x∈l,-9223372036854775808<=x.2.2/\x.2.2<=9223372036854775807)
 (ri:wL r.1 1 99=true) (rh:-9223372036854775808<=r.2.2/\r.2.2<=9223372036854775807) :
 (yG r false l).Pairwise (λr s=>r.1<s.1)/\(∀x∈yG r false l,wL x.1 1 99=true)/\(∀x∈yG r false l,-9223372036854775808<=x.2.2/\x.2.2<=9223372036854775807):=by
 have hm:∀{dn:Bool} {l:List wY},∀x∈yG r dn l,x=r\/x∈l:=by
  intro dn l
  induction l generalizing dn with
  | nil=>intro x hx;cases dn<;>simp[yG]at hx;exact .inl hx
  | cons y t ih =>
   intro x hx;cases dn with
   | true =>
    unfold yG at hx;split at hx
    · rcases mem_cons.1 hx with rfl|hx
      · exact .inr (by simp)
      · rcases ih x hx with e|e
        · exact .inl e
        · exact .inr (mem_cons_of_mem _ e)
    · rcases ih x hx with e|e
      · exact .inl e
      · exact .inr (mem_cons_of_mem _ e)
   | false =>
    unfold yG at hx;split at hx
    · rcases mem_cons.1 hx with rfl|hx
      · exact .inl rfl
      · split at hx
        · rcases mem_cons.1 hx with rfl|hx
          · exact .inr (by simp)
          · rcases ih x hx with e|e
            · exact .inl e
            · exact .inr (mem_cons_of_mem _ e)
        · rcases ih x hx with e|e
          · exact .inl e
          · exact .inr (mem_cons_of_mem _ e)
    · rcases mem_cons.1 hx with rfl|hx
      · exact .inr (by simp)
      · rcases ih x hx with e|e
        · exact .inl e
        · exact .inr (mem_cons_of_mem _ e)
 have hp:∀{l:List wY},l.Pairwise (λr s=>r.1<s.1)->(yG r false l).Pairwise (λr s=>r.1<s.1):=by
  intro l
  induction l with
  | nil=>intro _;simp[yG]
  | cons y t ih =>
   intro h;have h1:=(pairwise_cons.1 h).1
   have h2:=(pairwise_cons.1 h).2;unfold yG;split
   · next hy =>
     have ht:yG r true t=t:=Gl λz hz=>by have:=h1 z hz;omega
     rw[ht];split
     · next hq =>
       have hq:=bne_iff_ne.1 hq;refine pairwise_cons.2 ⟨λz hz=>?_,h⟩;rcases mem_cons.1 hz with rfl|hz
       · omega
       · have:=h1 z hz;omega
     · next hq =>
       have hq:y.1=r.1:=by simpa using hq
       refine pairwise_cons.2 ⟨λz hz=>?_,h2⟩;have:=h1 z hz;omega
   · next hy =>
     refine pairwise_cons.2 ⟨λz hz=>?_,ih h2⟩;rcases hm z hz with rfl|hz
     · omega
     · exact h1 z hz
 refine⟨hp hs,λx hx=>?_,λx hx=>?_⟩
 · rcases hm x hx with rfl|hx
   · exact ri
   · exact hi x hx
 · rcases hm x hx with rfl|hx
   · exact rh
   · exact hh x hx
theorem Tl {r:wY} {dn:Bool} {l:List wY}:(yG r dn l).length<=l.length+1:=by
 induction l generalizing dn with
 | nil=>cases dn<;>simp[yG]
 | cons x t ih =>
  have h1:=ih (dn:=true);have h2:=ih (dn:=false)
  have h3:(yG r true t).length<=t.length:=by
   clear ih h1 h2
   induction t with
   | nil=>simp[yG]
   | cons y t ih=>unfold yG;split<;>simp<;>omega
  cases dn<;>unfold yG<;>split<;>(try split)<;>simp<;>omega
theorem AJ.rows {b:wD} (h:AJ b) {R:List wY} (h1:R.length<=6) (h2:R.Pairwise λr s=>r.1<s.1) (h3:∀x∈R,wL x.1 1 99=true) (h4:∀x∈R,-9223372036854775808<=x.2.2/\x.2.2<=9223372036854775807) :
 AJ (b.1,b.2.1,b.2.2.1,b.2.2.2.1,R,b.2.2.2.2.2.1,b.2.2.2.2.2.2.1,b.2.2.2.2.2.2.2.1,b.2.2.2.2.2.2.2.2.1,b.2.2.2.2.2.2.2.2.2.1,b.2.2.2.2.2.2.2.2.2.2) :=
 ⟨h.id,h.name,h.n1,h.n6,h.p,h.f,h.c,h.q,h1,h2,h3,h4⟩
theorem Lf {b:wD} (h:AJ b):wL (b.2.2.1.length:Int) 1 6=true:=by
 have h1:=h.n1;have h2:=h.n6
 unfold wL;rw[dT (by omega),dT (by omega)];rfl
theorem V4 {b:wD} (h:AJ b) (c id n:Int) (hc:(c=1/\wL id 1 99=true)\/((c=2\/c=3)/\yV (B7 b) id>=0)):WF b (gA b c id n) (iC b c id n):=by
 have hv:=h.v;have hq:b.2.2.2.2.2.1.length<=6:=by have:=h.q;have:=h.n6;omega
 have hr:∀(id:Int),ai (b.2.2.2.2.1,b.2.2.2.2.2.1) id=some (yV (B7 b) id):=λid=>Ea (v:=(b.2.2.2.2.1,b.2.2.2.2.2.1)) (by show b.2.2.2.2.1.length<_;omega) id;have hrs:∀(id:Int),aP (b.2.2.2.2.1,b.2.2.2.2.2.1) id=some (yV (B7 b) id):=hr
 have hw:∀(r:wY),eJ (b.2.2.2.2.1,b.2.2.2.2.2.1) r=some (yG r false b.2.2.2.2.1,b.2.2.2.2.2.1):=λr=>Tj (v:=(b.2.2.2.2.1,b.2.2.2.2.2.1)) r (by show b.2.2.2.2.1.length<=_;omega) (by show b.2.2.2.2.2.1.length<=_;omega) h.s;have hws:∀(r:wY),cU (b.2.2.2.2.1,b.2.2.2.2.2.1) r=some (yG r false b.2.2.2.2.1,b.2.2.2.2.2.1):=λr=>WE (v:=(b.2.2.2.2.1,b.2.2.2.2.2.1)) r (by show b.2.2.2.2.1.length<=_;omega) (by show b.2.2.2.2.2.1.length<=_;omega)
 unfold gA iC;rw[hr,wC];by_cases h1:c=1
 · subst h1;have hid:wL id 1 99=true:=by rcases hc with hc|hc;exact hc.2;rcases hc.1 with e|e<;>cases e
   unfold jM;rw[hrs];simp only[show ((1:Int)==1)=true from rfl,cT,wC,hw,hws];by_cases hp:yV (B7 b) id>=0
   · have hp':¬yV (B7 b) id<0:=by omega
     simp only[dT hp,dF hp'];have e4:cond (n==4) (some false) (some false)=some false:=by cases (n==4)<;>rfl
     rw[e4];simp only[wC,cF];cases hn:(n==6)with
     | false =>
      simp only[cF,wC];exact⟨_,rfl,rfl,h,λ_=>rfl⟩
     | true =>
      obtain⟨k,hk,e1,e2⟩:=DB hp;simp only[cT,wC];have hk':k<b.2.2.2.2.1.length:=hk
      have hw64:wE (yV (B7 b) id+1)=((k+1:Nat):Int):=by rw[e1];exact wQ (by omega)
      have hwo:eK (b.2.2.2.2.1,b.2.2.2.2.2.1) id=some (b.2.2.2.2.1.eraseIdx k,b.2.2.2.2.2.1):=Tk (v:=(b.2.2.2.2.1,b.2.2.2.2.2.1)) id (by show b.2.2.2.2.1.length<=_;omega) (by show b.2.2.2.2.2.1.length<=_;omega) hk e1;have hso:(yC b.2.2.2.2.1.length 0 (yV (B7 b) id)).bind (λp=>(app ([]:List wY) ((b.2.2.2.2.1.take p.2).drop p.1)).bind λzs47=>(yC b.2.2.2.2.1.length (wE (yV (B7 b) id+1)) (b.2.2.2.2.1.length:Int)).bind λp_1=>(app zs47 ((b.2.2.2.2.1.take p_1.2).drop p_1.1)).bind λzs54=>some ((b.1,b.2.1,b.2.2.1,b.2.2.2.1,zs54,b.2.2.2.2.2.1,b.2.2.2.2.2.2.1,b.2.2.2.2.2.2.2.1,b.2.2.2.2.2.2.2.2.1,b.2.2.2.2.2.2.2.2.2.1,b.2.2.2.2.2.2.2.2.2.2),(0:Int)))
       = some ((b.1,b.2.1,b.2.2.1,b.2.2.2.1,b.2.2.2.2.1.eraseIdx k,b.2.2.2.2.2.1,b.2.2.2.2.2.2.1,b.2.2.2.2.2.2.2.1,b.2.2.2.2.2.2.2.2.1,b.2.2.2.2.2.2.2.2.2.1,b.2.2.2.2.2.2.2.2.2.2),0):=by
       rw[hw64,e1,show (0:Int)=((0:Nat):Int)from rfl,FC (Nat.zero_le _) (by omega),wC,wO (by simp only[length_nil,length_drop,length_take];omega),wC,FC (by omega) (Nat.le_refl _),wC,wO (by simp only[length_append,length_nil,length_drop,length_take];omega),wC,List.eraseIdx_eq_take_drop_succ];simp
      rw[hwo];refine⟨_,rfl,by rw[hso];rfl,h.rows ?_ ?_ ?_ ?_,λe=>absurd rfl e⟩
      · rw[List.length_eraseIdx];split<;>omega
      · exact h.s.sublist (List.eraseIdx_sublist _ _)
      · exact λx hx=>h.i x (List.mem_of_mem_eraseIdx hx)
      · exact λx hx=>h.h x (List.mem_of_mem_eraseIdx hx)
   · have hp':yV (B7 b) id<0:=by omega
     simp only[dF hp,dT hp'];have e6:cond (n==6) (some false) (some false)=some false:=by cases (n==6)<;>rfl
     rw[e6];cases hn:(n==4)with
     | false =>
      simp only[cF,wC];exact⟨_,rfl,rfl,h,λ_=>rfl⟩
     | true =>
      simp only[cT,wC];by_cases h6:(b.2.2.2.2.1.length:Int)<6
      · simp only[dT h6,cT];obtain⟨g1,g2,g3⟩:=LM (r:=(id,0,0)) h.s h.i h.h hid ⟨by show (-9223372036854775808:Int)<=0;decide,by show (0:Int)<=9223372036854775807;decide⟩;have:=Tl (r:=(id,0,0)) (dn:=false) (l:=b.2.2.2.2.1)
        exact⟨_,rfl,rfl,h.rows (by omega) g1 g2 g3,λe=>absurd rfl e⟩
      · simp only[dF h6,cF,wC];exact⟨_,rfl,rfl,h,λ_=>rfl⟩
 · have h23:c=2\/c=3:=by rcases hc with hc|hc;exact absurd hc.1 h1;exact hc.1
   have hp:yV (B7 b) id>=0:=by rcases hc with hc|hc;exact absurd hc.1 h1;exact hc.2
   obtain⟨k,hk,e1,e2⟩:=DB hp;have hk':k<b.2.2.2.2.1.length:=hk
   obtain⟨t,q1,q2⟩:=Wm (Lf h);rw[show (c==1)=false from beq_eq_false_iff_ne.2 h1];simp only[cF,Mq (Lf h),q1,wC,zQ,Cz,q2];cases hn:wL n 0 (DM (b.2.2.1.length:Int))with
   | false=>exact⟨_,rfl,rfl,h,λ_=>rfl⟩
   | true =>
    have ht:=(QC (Lf h)).2;have hnr:-9223372036854775808<=n/\n<=9223372036854775807:=by
     unfold wL at hn;simp only[aT,decide_eq_true_eq]at hn;omega
    have hx:ix b.2.2.2.2.1.length (k:Int)=some k:=ym hk';rw[hrs];simp only[Bool.not_true,cF,wC,e1,hx,List.getElem?_eq_getElem hk',hws];have hin:∀(r:wY),r.1=b.2.2.2.2.1[k].1->yG r false b.2.2.2.2.1=b.2.2.2.2.1.set k r:=λr e=>K2 hk' h.s e.symm
    have hki:=h.i _ (getElem_mem hk');have hkh:=h.h _ (getElem_mem hk')
    have hlen:∀(r:wY),r.1=b.2.2.2.2.1[k].1->(yG r false b.2.2.2.2.1).length<=6:=λr e=>by rw[hin r e,length_set];exact hv
    rcases h23 with rfl|rfl
    · simp only[show ((2:Int)==2)=true from rfl,cT];obtain⟨g1,g2,g3⟩:=LM (r:=(b.2.2.2.2.1[k].1,n,b.2.2.2.2.1[k].2.2)) h.s h.i h.h hki hkh;refine⟨_,rfl,?_,?_,λe=>absurd rfl e⟩
      · rw[hin (b.2.2.2.2.1[k].1,n,b.2.2.2.2.1[k].2.2) rfl]
      · rw[←hin (b.2.2.2.2.1[k].1,n,b.2.2.2.2.1[k].2.2) rfl];exact h.rows (hlen _ rfl) g1 g2 g3
    · simp only[show ((3:Int)==2)=false from rfl,cF];obtain⟨g1,g2,g3⟩:=LM (r:=(b.2.2.2.2.1[k].1,b.2.2.2.2.1[k].2.1,n)) h.s h.i h.h hki hnr;refine⟨_,rfl,?_,?_,λe=>absurd rfl e⟩
      · rw[hin (b.2.2.2.2.1[k].1,b.2.2.2.2.1[k].2.1,n) rfl]
      · rw[←hin (b.2.2.2.2.1[k].1,b.2.2.2.2.1[k].2.1,n) rfl];exact h.rows (hlen _ rfl) g1 g2 g3
theorem Sj {b:wD} {o:List Int} (h:K1 b o=true):o=[1,3,1,1,1]\/(∃c p,o=[1,3,1,2,c,p]/\(c=2\/c=4)/\wL p 1 (zS b)=true)\/(∃c p,o=[1,3,1,3,c,p]/\((c=1/\wL p 1 99=true)\/((c=2\/c=3)/\yV (B7 b) p>=0))):=by
 unfold K1 at h;rw[aT]at h;obtain⟨h1,h2⟩:=h;unfold DP at h1;simp only[aT,decide_eq_true_eq,beq_iff_eq]at h1;have ho:o=[1,3,1]++o.drop 3:=by rw[←h1.2,take_append_drop]
 match hd:o.drop 3,h2 with
 | [a,c],h2 =>
  simp only[aT,beq_iff_eq]at h2;rw[hd]at ho;exact .inl (by rw[ho,h2.1,h2.2];rfl)
 | [a,c,p],h2 =>
  rw[hd]at ho;simp only[Bool.or_eq_true,aT,beq_iff_eq,decide_eq_true_eq]at h2;rcases h2 with ⟨rfl,h3,h4⟩|⟨rfl,h3⟩
  · exact .inr (.inl ⟨c,p,ho,h3,h4⟩)
  · exact .inr (.inr ⟨c,p,ho,h3⟩)
theorem WG {b:wD} {p:Int} (h:wL p 1 (zS b)=true) (hn:b.2.2.1.length<=6):∃k,k<b.2.2.1.length/\wE (p-1)=(k:Int):=by
 unfold wL zS at h;simp only[aT,decide_eq_true_eq]at h;exact⟨(p-1).toNat,by omega,by rw[xq (by omega) (by omega)];omega⟩
theorem V5 {p:Pt} {n:Int} (hn:wL n 1 1000=true) (h:C3 p=true):C3 (p.1,n,p.2.2.1,p.2.2.2.1,p.2.2.2.2.1,p.2.2.2.2.2.1,p.2.2.2.2.2.2.1,p.2.2.2.2.2.2.2)=true:=by
 unfold C3 at h ⊢;rw[aT]at h ⊢;exact⟨hn,h.2⟩
theorem WH {b:wD} (h:AJ b) {x:wF} (hx:x.1.length<=M):WF b (cB b x) (fY b x):=by
 unfold cB fY;rw[Yz h.le hx,wC,yB h.le,wC,YA h.le hx,wC,V3 h];cases hm:K1 b x.1 with
 | false =>
  rw[cF,Bool.not_false,cT,XT h.le hx,XU h.le hx,wC,wC,Si h];cases Ld b x.1 with
  | true=>exact⟨_,rfl,rfl,h,λ_=>rfl⟩
  | false=>exact⟨_,rfl,rfl,h,λ_=>rfl⟩
 | true =>
  obtain⟨o,kd,n,w,vo⟩:=x;rw[cT,Bool.not_true,cF];simp only;unfold iZ;rcases Sj hm with ho|⟨c,p,ho,hc,hp⟩|⟨c,p,ho,hc⟩
  · simp only at ho;subst ho;rw[show at? [1,3,1,1,1] 3=some (1:Int)from rfl,show cut [1,3,1,1,1] 3 (([1,3,1,1,1]:List Int).length:Int)=some ([1,1]:List Int)from rfl];simp only[wC,show at? [1,1] 0=some (1:Int)from rfl,show ((1:Int)==1)=true from rfl,cT,Bool.not_true,cF];cases (kd != 4)with
    | true=>exact⟨_,rfl,rfl,h,λ_=>rfl⟩
    | false =>
     simp only[cF,wC];by_cases hw:(w.length:Int)>10
     · simp only[dT hw,cT];exact⟨_,rfl,rfl,h,λ_=>rfl⟩
     · simp only[dF hw,cF];exact⟨_,rfl,rfl,⟨h.id,by show w.length<=10;omega,h.n1,h.n6,h.p,h.f,h.c,h.q,h.v,h.s,h.i,h.h⟩,λe=>absurd rfl e⟩
  · simp only at ho;subst ho;rw[show at? [1,3,1,2,c,p] 3=some (2:Int)from rfl,show at? [1,3,1,2,c,p] 4=some c from rfl,show at? [1,3,1,2,c,p] 5=some p from rfl,show cut [1,3,1,2,c,p] 3 (([1,3,1,2,c,p]:List Int).length:Int)=some ([2,c,p]:List Int)from rfl];simp only[wC,show at? [2,c,p] 0=some (2:Int)from rfl,show at? [2,c,p] 1=some c from rfl,show at? [2,c,p] 2=some p from rfl,show ((2:Int)==1)=false from rfl,show ((2:Int)==2)=true from rfl,show ((2:Int)==3)=false from rfl,cT,Bool.not_false,cF];cases (kd != 2)with
    | true=>exact⟨_,rfl,rfl,h,λ_=>rfl⟩
    | false =>
     obtain⟨k,hk,ek⟩:=WG hp h.n6;simp only[cF,wC,ek];unfold jL;have hx1:ix b.2.2.1.length (k:Int)=some k:=ym hk
     have hx2:ix b.2.2.2.2.2.1.length (k:Int)=some k:=ym (by rw[h.q];exact hk);have hk2:k<b.2.2.2.2.2.1.length:=by rw[h.q];exact hk
     simp only[zQ,Cz,wC,hx1,hx2,List.getElem?_eq_getElem hk,List.getElem?_eq_getElem hk2];rcases hc with rfl|rfl
     · simp only[show ((2:Int)==2)=true from rfl,cT];cases hn:wL n 1 1000 with
       | false=>exact⟨_,rfl,rfl,h,λ_=>rfl⟩
       | true =>
        exact⟨_,rfl,rfl,⟨h.id,h.name,by simp only[length_set];exact h.n1,by simp only[length_set];exact h.n6,λy hy=>by
         rcases List.mem_or_eq_of_mem_set hy with e|rfl
         · exact h.p y e
         · exact V5 hn (h.p _ (getElem_mem hk)),h.f,h.c,by simp only[length_set];exact h.q,h.v,h.s,h.i,h.h⟩,λe=>absurd rfl e⟩
     · simp only[show ((4:Int)==2)=false from rfl,cF];exact⟨_,rfl,rfl,⟨h.id,h.name,h.n1,h.n6,h.p,h.f,h.c,by simp only[length_set];exact h.q,h.v,h.s,h.i,h.h⟩,λe=>absurd rfl e⟩
  · simp only at ho;subst ho;rw[show at? [1,3,1,3,c,p] 3=some (3:Int)from rfl,show at? [1,3,1,3,c,p] 4=some c from rfl,show at? [1,3,1,3,c,p] 5=some p from rfl,show cut [1,3,1,3,c,p] 3 (([1,3,1,3,c,p]:List Int).length:Int)=some ([3,c,p]:List Int)from rfl];simp only[wC,show at? [3,c,p] 0=some (3:Int)from rfl,show at? [3,c,p] 1=some c from rfl,show at? [3,c,p] 2=some p from rfl,show ((3:Int)==1)=false from rfl,show ((3:Int)==2)=false from rfl,show ((3:Int)==3)=true from rfl,cT,Bool.not_false,cF];cases (kd != 2)with
    | true=>exact⟨_,rfl,rfl,h,λ_=>rfl⟩
    | false =>
     simp only[cF,wC];obtain⟨r,r1,r2,r3,r4⟩:=V4 h c p n hc;exact⟨r,by rw[r1];rfl,by rw[r2];rfl,r3,r4⟩

theorem K3 {α β:Type} {step t:α->Option (α⊕β)} (xt:Nat->α->Prop) (m:Nat) (R:β->Prop)
 (h:∀k x,k<m->xt k x->(∃y,step x=some (.inl y)/\t x=some (.inl y)/\xt (k+1) y)\/∃b,step x=some (.inr b)/\t x=some (.inr b)/\R b)
 (he:∀x,xt m x->∃b,step x=some (.inr b)/\t x=some (.inr b)/\R b) {x:α} (h0:xt 0 x):∃b,loop step x=some b/\loop t x=some b/\R b:=by
 have key:∀n k x,k+n=m->xt k x->∃b,zJ step (n+1) x=some b/\zJ t (n+1) x=some b/\R b:=by
  intro n
  induction n with
  | zero =>
   intro k x hk hx;obtain rfl:k=m:=by omega
   obtain⟨b,h1,h3,h2⟩:=he x hx;exact⟨b,by rw[xR,h1];rfl,by rw[xR,h3];rfl,h2⟩
  | succ n ih =>
   intro k x hk hx;rcases h k x (by omega) hx with ⟨y,h1,h5,h2⟩|⟨b,h1,h5,h2⟩
   · obtain⟨b,h3,h6,h4⟩:=ih (k+1) y (by omega) h2;exact⟨b,by rw[xR,h1];exact h3,by rw[xR,h5];exact h6,h4⟩
   · exact⟨b,by rw[xR,h1];rfl,by rw[xR,h5];rfl,h2⟩
 obtain⟨b,h1,h3,h2⟩:=key m 0 x (by omega) h0;exact⟨b,AA h1,AA h3,h2⟩
theorem HN {l:List wJ} (h:Ch l=true):FB l:=by
 unfold Ch at h;simp only[aT,Bool.not_eq_true',decide_eq_true_eq]at h;refine⟨λx hx=>?_,HJ (R:=lt) (λ_ _ _=>lt_trans) λk hk=>?_,by omega⟩
 · obtain⟨k,hk,rfl⟩:=getElem_of_mem hx;have hx:=any_eq_false.1 h.1 k (mem_range.2 hk)
   unfold C5 at hx;simp only[List.getElem?_eq_getElem hk,Bool.or_eq_true,not_or,Bool.not_eq_true',Bool.not_eq_false]at hx;exact hx.1
 · have hx:=any_eq_false.1 h.1 (k+1) (mem_range.2 hk);unfold C5 at hx;simp only[List.getElem?_eq_getElem hk,Nat.add_sub_cancel,List.getElem?_eq_getElem (show k<l.length by omega),Bool.or_eq_true,aT,decide_eq_true_eq,not_or,not_and,Bool.not_eq_true',Bool.not_eq_false]at hx;have hp:=hx.2 (by omega)
   unfold yT at hp;simp only[Bool.or_eq_true,aT,decide_eq_true_eq,beq_iff_eq]at hp;unfold lt;omega
theorem FB.sub {l m:List wJ} (h:FB l) (hs:m.Sublist l):FB m :=
 ⟨λx hx=>h.e x (hs.subset hx),h.o.sublist hs,Nat.le_trans hs.length_le h.n⟩
def CH (l:List wJ) (p:Int):List wJ:=l.filter λe=>e.2.2.2.2||e.2.2.1 != p
theorem Lg {l:List wJ} (p:Int) (hn:l.length<=1000) (step:Int×List wJ->Option ((Int×List wJ)⊕List wJ))
 (hs:∀k (hk:k<l.length) out,step ((k:Int),out)=cond (l[k].2.2.2.2||l[k].2.2.1 != p) ((app out [l[k]]).bind λzs=>some (.inl (((k+1:Nat):Int),zs))) (some (.inl (((k+1:Nat):Int),out))))
 (he:∀out,step ((l.length:Int),out)=some (.inr out)):loop step (0,[])=some (CH l p):=by
 obtain⟨b,h1,rfl⟩:=xi (step:=step) (λk z=>z.1=(k:Int)/\z.2=CH (l.take k) p) l.length (λb=>b=CH l p)
  (λk z hk ⟨z1,z2⟩=>by
   obtain⟨i,out⟩:=z;simp only at z1 z2;subst z1 z2;left;have hl:(CH (l.take k) p).length<=k:=by
    have:=(List.filter_sublist (p:=λe:wJ=>e.2.2.2.2||e.2.2.1 != p) (l:=l.take k)).length_le;rw[length_take]at this;show (List.filter _ _).length<=k
    omega
   have ht:CH (l.take (k+1)) p=CH (l.take k) p++cond (l[k].2.2.2.2||l[k].2.2.1 != p) [l[k]] []:=by
    unfold CH;rw[take_add_one,List.getElem?_eq_getElem hk,List.filter_append];rw[Option.toList_some,List.filter_cons,List.filter_nil];cases (l[k].2.2.2.2||l[k].2.2.1 != p)<;>rfl
   rw[hs k hk];cases hc:(l[k].2.2.2.2||l[k].2.2.1 != p)with
   | true =>
    rw[hc]at ht;exact⟨_,by rw[cT,wO (by show _+1<=_;omega)];rfl,rfl,by rw[ht];rfl⟩
   | false =>
    rw[hc]at ht;exact⟨_,rfl,rfl,by rw[ht];simp⟩)
  (λz ⟨z1,z2⟩=>by
   obtain⟨i,out⟩:=z;simp only at z1 z2;subst z1 z2;exact⟨_,he _,by rw[take_length]⟩) (x:=(0,[])) ⟨rfl,rfl⟩
 exact h1
theorem WI {l:List wJ} (p:Int) (hn:l.length<=1000):gw l p=some (CH l p):=by
 unfold gw;rw[Lg p hn (λz=>dK l p z.1 z.2) (λk hk out=>by
  show dK l p (k:Int) out=_;unfold dK;rw[xk (by omega),cT,wU hk,wC,wQ (by omega)];cases l[k].2.2.2.2<;>rfl) (λout=>by
  show dK l p (l.length:Int) out=_;unfold dK;rw[x7 (by omega),cF])];rfl
theorem V6 {l:List wJ} (p:Int) (hn:l.length<=1000):iw l p=some (CH l p):=by
 unfold iw;rw[Lg p hn (λz=>ef l p z.1 z.2) (λk hk out=>by
  show ef l p (k:Int) out=_;unfold ef;rw[xk (by omega),cT,wU hk,wC,wC,wC,wQ (by omega)];cases l[k].2.2.2.2<;>rfl) (λout=>by
  show ef l p (l.length:Int) out=_;unfold ef;rw[x7 (by omega),cF])];rfl
theorem Sk:∀k:Nat,k<6->wL (k:Int) 0 62=true/\wL (k:Int) 0 7=true:=by
 intro k hk;unfold wL;constructor<;>(rw[dT (by omega),dT (by omega)];rfl)
theorem YB (c:Int) {k:Nat} (hk:k<6):∃t,shr .i64 c (k:Int)=some t:=by
 unfold shr;rw[if_neg (by omega)];exact⟨_,rfl⟩
theorem HO (c:Int) {k:Nat} (hk:k<6):∃t,ap c (k:Int)=some t/\aQ c (k:Int)=some t:=by
 obtain⟨t,h⟩:=YB c hk;unfold ap aQ;rw[zQ,Cz,wC,wC,(Sk k hk).1,(Sk k hk).2,cT,cT,HH (by omega),h];exact⟨_,rfl,rfl⟩
theorem ML {n:Int} (h:wL n 0 1000000=true):∃r,au n=some r/\aE n=some r/\wL r 0 1000000=true:=by
 unfold wL at h;simp only[aT,decide_eq_true_eq]at h;unfold au aE wL min2;rw[xq (by omega) (by omega)];by_cases hn:n>=1000000
 · rw[dT hn,cT];refine⟨n,?_,rfl,?_⟩
   · simp only;split<;>first|rfl | (congr 1;omega)
   · simp only[aT,decide_eq_true_eq];omega
 · rw[dF hn,cF];refine⟨n+1,?_,rfl,?_⟩
   · simp only;split<;>first|rfl | (congr 1;omega)
   · simp only[aT,decide_eq_true_eq];omega
theorem AJ.ok {b:wD} (h:AJ b) (hv:Ak (b.2.2.2.2.1,b.2.2.2.2.2.1) (b.2.2.1.length:Int)=true):xr b=true:=by
 unfold xr;have h1:(List.range b.2.2.1.length).any (I1 b.2.2.1)=false:=by
  rw[any_eq_false];intro k hk;have hk:=mem_range.1 hk
  unfold I1;simp[List.getElem?_eq_getElem hk,h.p _ (getElem_mem hk)]
 have h2:=h.name;rw[h1,h.id,h.f,hv,h.c,Lf h,dF (show ¬(b.2.1.length:Int)>10 by omega)];rfl
theorem U1 {b:wD} (h:AJ b):∃r,aH b=some r/\ba b=some r/\AJ r/\r.2.2.1=b.2.2.1/\r.2.2.2.2.1=b.2.2.2.2.1/\r.2.2.2.2.2.1=b.2.2.2.2.2.1/\r.1=b.1/\r.2.1=b.2.1/\r.2.2.2.2.2.2.1=b.2.2.2.2.2.2.1/\r.2.2.2.2.2.2.2.1=b.2.2.2.2.2.2.2.1/\r.2.2.2.2.2.2.2.2.1=b.2.2.2.2.2.2.2.2.1/\r.2.2.2.2.2.2.2.2.2.1=b.2.2.2.2.2.2.2.2.2.1/\au b.2.2.2.2.2.2.2.2.2.2=some r.2.2.2.2.2.2.2.2.2.2:=by
 have n6:=h.n6;have hc:=h.c
 unfold zm at hc;simp only[aT]at hc;obtain⟨v,v1,v2,v3⟩:=ML hc.2.2.2.2;obtain⟨c,_,c1,c2⟩:=L9 b.1 (l:=b.2.2.1) (by omega);unfold aH ba;rw[v1,v2,c1,c2];simp only[wC];have hF:=HN h.f
 obtain⟨d,d1,d2,F,hf,rfl⟩:=K3 (step:=λz:Int×Int×List UInt8×Int×Int×Int×Int×Int×List wJ=>gx b (c:Int) z.1 z.2.1 z.2.2.1 z.2.2.2.1 z.2.2.2.2.1 z.2.2.2.2.2.1 z.2.2.2.2.2.2.1 z.2.2.2.2.2.2.2.1 z.2.2.2.2.2.2.2.2)
  (t:=λz:Int×Int×List UInt8×Int×Int×Int×Int×Int×List wJ=>iy b (c:Int) z.1 z.2.1 z.2.2.1 z.2.2.2.1 z.2.2.2.2.1 z.2.2.2.2.2.1 z.2.2.2.2.2.2.1 z.2.2.2.2.2.2.2.1 z.2.2.2.2.2.2.2.2)
  (λk z=>∃F:List wJ,F.Sublist b.2.2.2.1/\z=((k:Int),b.1,b.2.1,b.2.2.2.2.2.2.1,b.2.2.2.2.2.2.2.1,b.2.2.2.2.2.2.2.2.1,b.2.2.2.2.2.2.2.2.2.1,v,F)) b.2.2.1.length
  (λd=>∃F:List wJ,F.Sublist b.2.2.2.1/\d=(b.1,b.2.1,b.2.2.2.2.2.2.1,b.2.2.2.2.2.2.2.1,b.2.2.2.2.2.2.2.2.1,b.2.2.2.2.2.2.2.2.2.1,v,F))
  (λk z hk ⟨F,hf,e⟩=>by
   subst e;left;obtain⟨t,t1,t2⟩:=HO (c:Int) (show k<6 by omega);have hl:F.length<=1000:=by have:=hf.length_le;have:=hF.n;omega
   simp only;unfold gx iy;rw[xk (show (k:Int)<(b.2.2.1.length:Int) by omega),cT,cT,t1,t2,wC,wC,WI _ hl,V6 _ hl,wQ (show k<9223372036854775807 by omega)];cases t with
   | true=>exact⟨_,rfl,rfl,F,hf,rfl⟩
   | false=>exact⟨_,rfl,rfl,CH F (k:Int),List.Sublist.trans List.filter_sublist hf,rfl⟩)
  (λz ⟨F,hf,e⟩=>by
   subst e;simp only;unfold gx iy;rw[x7 (show ¬(b.2.2.1.length:Int)<(b.2.2.1.length:Int) by omega),cF,cF];exact⟨_,rfl,rfl,F,hf,rfl⟩) (x:=(0,b.1,b.2.1,b.2.2.2.2.2.2.1,b.2.2.2.2.2.2.2.1,b.2.2.2.2.2.2.2.2.1,b.2.2.2.2.2.2.2.2.2.1,v,b.2.2.2.1)) ⟨_,List.Sublist.refl _,rfl⟩
 rw[d1,d2];refine⟨_,rfl,rfl,⟨h.id,h.name,h.n1,h.n6,h.p,(hF.sub hf).ok,?_,h.q,h.v,h.s,h.i,h.h⟩,rfl,rfl,rfl,rfl,rfl,rfl,rfl,rfl,rfl,rfl⟩;unfold zm;simp only[aT];exact⟨hc.1,hc.2.1,hc.2.2.1,hc.2.2.2.1,v3⟩
theorem MM {b:wD} (h:AJ b):∃r,aH b=some r/\ba b=some r/\AJ r/\r.2.2.1=b.2.2.1/\r.2.2.2.2.1=b.2.2.2.2.1/\r.2.2.2.2.2.1=b.2.2.2.2.2.1:=by
 obtain⟨r,h1,h2,h3,h4,h5,h6,_⟩:=U1 h;exact⟨r,h1,h2,h3,h4,h5,h6⟩
theorem Tm {α:Type} [BEq α] [LawfulBEq α] (a b:α):(a==b)=(b==a):=by
 by_cases h:a=b
 · subst h;rfl
 · rw[beq_eq_false_iff_ne.2 h,beq_eq_false_iff_ne.2 (Ne.symm h)]

abbrev WJ:=Int×Int×Int×List UInt8×Int×Int×Int×Int×Int×List Pt×List wJ×List wY×List Int
abbrev Y3:=Int×List UInt8×Int×Int×Int×Int×Int
def WK (c k:Int) (b:wD):WJ:=(c,k,b.1,b.2.1,b.2.2.2.2.2.2.1,b.2.2.2.2.2.2.2.1,b.2.2.2.2.2.2.2.2.1,b.2.2.2.2.2.2.2.2.2.1,b.2.2.2.2.2.2.2.2.2.2,b.2.2.1,b.2.2.2.1,b.2.2.2.2.1,b.2.2.2.2.2.1)
theorem WL {b:wD} (hb:A4 M b) {l:List wF} (hl:CS M l) {k:Nat} (hk:k<l.length) (s:Y3) :
 ∃r:Y3⊕WJ,loop (λz=>eL b (k:Int) l[k] (l.take k) z.1 z.2.1 z.2.2.1 z.2.2.2.1 z.2.2.2.2.1 z.2.2.2.2.2.1 z.2.2.2.2.2.2.1 z.2.2.2.2.2.2.2) (0,s)=some r
  /\ loop (λz=>fZ b l (k:Int) z.1 z.2.1 z.2.2.1 z.2.2.2.1 z.2.2.2.2.1 z.2.2.2.2.2.1 z.2.2.2.2.2.2.1 z.2.2.2.2.2.2.2) (0,s)=some r/\((r=.inl s/\∀j (hj:j<k),l[j].1≠l[k].1)\/(r=.inr (WK 5 ((k+1:Nat):Int) b)/\∃j,∃hj:j<k,l[j].1=l[k].1)):=by
 obtain⟨a0,a1,a6,a7,a8,a9,a10⟩:=s;have hn:l.length<=1048576:=hl.1
 refine K3 (λj z=>z=((j:Int),a0,a1,a6,a7,a8,a9,a10)/\∀i (hi:i<k),i<j->l[i].1≠l[k].1) k _ (λj z hj ⟨e,hne⟩=>?_) (λz ⟨e,hne⟩=>?_) ⟨rfl,λi _ hi=>absurd hi (Nat.not_lt_zero _)⟩
 · subst e;have ht:j<(l.take k).length:=by rw[length_take];omega
   have hg:(l.take k)[j]=l[j]:=List.getElem_take;have hw:∀i,i<l.length->∀(hi:i<l.length),l[i].1.length<9223372036854775807:=λi h1 h2=>by have:l[i].1.length<=1048576:=(hl.2 _ (getElem_mem h2)).1;omega
   have s1:aF l[k].1 l[j].1=some (l[k].1==l[j].1):=Gk (hw j (by omega) (by omega));have s2:cR l[j].1 l[k].1=some (l[k].1==l[j].1):=by rw[Tm];exact Gk (hw k hk hk)
   simp only;unfold eL fZ;rw[xk (show (j:Int)<((l.take k).length:Int) by omega),xk (show (j:Int)<(k:Int) by omega),cT,cT,wU ht,hg,wU (show j<l.length by omega),wU hk];simp only[wC,s1,s2];cases hb2:(l[k].1==l[j].1)with
   | true =>
    right;rw[xQ hb,yB hb];exact⟨_,rfl,by rw[wQ (show k<9223372036854775807 by omega)];rfl,.inr ⟨by rw[wQ (show k<9223372036854775807 by omega)];rfl,j,hj,(beq_iff_eq.1 hb2).symm⟩⟩
   | false =>
    left;refine⟨_,rfl,rfl,by rw[wQ (show j<9223372036854775807 by omega)],λi hi hij=>?_⟩;by_cases e:i=j
    · subst e;exact λe=>(beq_eq_false_iff_ne.1 hb2) e.symm
    · exact hne i hi (by omega)
 · subst e;have ht:(l.take k).length=k:=by rw[length_take];omega
   refine⟨.inl (a0,a1,a6,a7,a8,a9,a10),?_,?_,.inl ⟨rfl,λj hj=>hne j hj hj⟩⟩
   · show eL b _ _ _ _ _ _ _ _ _ _ _=_;unfold eL;rw[ht,x7 (by omega),cF]
   · show fZ b _ _ _ _ _ _ _ _ _ _=_;unfold fZ;rw[x7 (by omega),cF]
theorem xh {α β:Type} {step:α->Option (α⊕β)} {x:α} {b:β} (h:step x=some (.inr b)):loop step x=some b:=AA (k:=1) (by rw[xR,h];rfl)
inductive Gm (b:wD):List wF->wD->Prop
 | nil:Gm b [] b
 | snoc {l:List wF} {y y':wD} {x:wF}:Gm b l y->AJ y->cB y x=some (y',0)->Gm b (l++[x]) y'
def U2 (b:wD) (l:List wF) (c:Int):Prop:=(xr b=false/\c=3)\/(∃k y,∃hk:k<l.length,Gm b (l.take k) y/\AJ y/\(((∃j,∃hj:j<k,l[j].1=l[k].1)/\c=5)\/∃y',cB y l[k]=some (y',c)))\/∃y,Gm b l y/\c=5
theorem LN {b:wD} (h:Af b) (hb:A4 M b) {l:List wF} (hl:CS M l):∃r,dL b l=some r/\iE b l=some r/\A4 M r.1/\(xr b=true->AJ r.1/\xr r.1=true)/\((r.2.1=0/\r.2.2=0/\((l=[]/\r.1=b)\/∃y,Gm b l y/\AJ y/\(∀i (hi:i<l.length),∀j (hj:j<i),l[j].1≠l[i].1)/\aH y=some r.1))\/(r.1=b/\r.2.1≠0/\1<=r.2.2/\r.2.2<=(l.length:Int)/\U2 b l r.2.1)):=by
 have hn:l.length<=1048576:=hl.1;unfold dL iE;rw[xQ hb,yB hb,Bb h,Da h];simp only[wC];by_cases h0:l=[]
 · subst h0;have e1:decide ((([]:List wF).length:Int)>0)=false:=rfl
   have e2:((([]:List wF).length:Int)==0)=true:=rfl;have e3:cond (!xr b) (some false) (some false)=some false:=by cases xr b<;>rfl
   rw[e1,e2,e3,cT];simp only[wC,cF];refine⟨_,rfl,(congrArg (λo=>Option.bind o _) (xh (b:=.inl (0,[],0,0,0,0,0,b.1,b.2.1,b.2.2.2.2.2.2.1,b.2.2.2.2.2.2.2.1,b.2.2.2.2.2.2.2.2.1,b.2.2.2.2.2.2.2.2.2.1,b.2.2.2.2.2.2.2.2.2.2,[],[],[],[],b.2.2.1,b.2.2.2.1,b.2.2.2.2.1,b.2.2.2.2.2.1)) rfl)).trans rfl,hb,λhp=>⟨(Db h hp).sok,hp⟩,.inl ⟨rfl,rfl,.inl ⟨by first|trivial|rfl,rfl⟩⟩⟩
 · have hpos:0<l.length:=List.length_pos_iff.2 h0;rw[show ((l.length:Int)==0)=false from beq_eq_false_iff_ne.2 (by omega),dT (show (l.length:Int)>0 by omega)];cases hp:xr b with
   | false=>exact⟨_,rfl,rfl,hb,λhp=>(by cases hp),.inr ⟨rfl,(by show (3:Int)≠0;decide),by show (1:Int)<=1;decide,by show (1:Int)<=_;omega,.inl ⟨hp,rfl⟩⟩⟩
   | true =>
    have hs0:=(Db h hp).sok;simp only[Bool.not_true,cF,wC];obtain⟨d,d1,d2,d3⟩:=K3 (step:=λz:Int×Int×List UInt8×Int×Int×Int×Int×Int×Int×List UInt8×Int×Int×Int×Int×Int×List Pt×List wJ×List wY×List Int×List Pt×List wJ×List wY×List Int=>gC b l z.1 z.2.1 z.2.2.1 z.2.2.2.1 z.2.2.2.2.1 z.2.2.2.2.2.1 z.2.2.2.2.2.2.1 z.2.2.2.2.2.2.2.1 z.2.2.2.2.2.2.2.2.1 z.2.2.2.2.2.2.2.2.2.1 z.2.2.2.2.2.2.2.2.2.2.1 z.2.2.2.2.2.2.2.2.2.2.2.1 z.2.2.2.2.2.2.2.2.2.2.2.2.1 z.2.2.2.2.2.2.2.2.2.2.2.2.2.1 z.2.2.2.2.2.2.2.2.2.2.2.2.2.2.1 z.2.2.2.2.2.2.2.2.2.2.2.2.2.2.2.1 z.2.2.2.2.2.2.2.2.2.2.2.2.2.2.2.2.1 z.2.2.2.2.2.2.2.2.2.2.2.2.2.2.2.2.2.1 z.2.2.2.2.2.2.2.2.2.2.2.2.2.2.2.2.2.2.1 z.2.2.2.2.2.2.2.2.2.2.2.2.2.2.2.2.2.2.2.1 z.2.2.2.2.2.2.2.2.2.2.2.2.2.2.2.2.2.2.2.2.1 z.2.2.2.2.2.2.2.2.2.2.2.2.2.2.2.2.2.2.2.2.2.1 z.2.2.2.2.2.2.2.2.2.2.2.2.2.2.2.2.2.2.2.2.2.2)
     (t:=λz=>iD b l z.1 z.2.1 z.2.2.1 z.2.2.2.1 z.2.2.2.2.1 z.2.2.2.2.2.1 z.2.2.2.2.2.2.1 z.2.2.2.2.2.2.2.1 z.2.2.2.2.2.2.2.2.1 z.2.2.2.2.2.2.2.2.2.1 z.2.2.2.2.2.2.2.2.2.2.1 z.2.2.2.2.2.2.2.2.2.2.2.1 z.2.2.2.2.2.2.2.2.2.2.2.2.1 z.2.2.2.2.2.2.2.2.2.2.2.2.2.1 z.2.2.2.2.2.2.2.2.2.2.2.2.2.2.1 z.2.2.2.2.2.2.2.2.2.2.2.2.2.2.2.1 z.2.2.2.2.2.2.2.2.2.2.2.2.2.2.2.2.1 z.2.2.2.2.2.2.2.2.2.2.2.2.2.2.2.2.2.1 z.2.2.2.2.2.2.2.2.2.2.2.2.2.2.2.2.2.2.1 z.2.2.2.2.2.2.2.2.2.2.2.2.2.2.2.2.2.2.2.1 z.2.2.2.2.2.2.2.2.2.2.2.2.2.2.2.2.2.2.2.2.1 z.2.2.2.2.2.2.2.2.2.2.2.2.2.2.2.2.2.2.2.2.2.1 z.2.2.2.2.2.2.2.2.2.2.2.2.2.2.2.2.2.2.2.2.2.2)
     (λk z=>∃y:wD,(AJ y/\Gm b (l.take k) y/\∀i (hi:i<l.length),i<k->∀j (hj:j<i),l[j].1≠l[i].1)/\z=((k:Int),0,[],0,0,0,0,0,y.1,y.2.1,y.2.2.2.2.2.2.1,y.2.2.2.2.2.2.2.1,y.2.2.2.2.2.2.2.2.1,y.2.2.2.2.2.2.2.2.2.1,y.2.2.2.2.2.2.2.2.2.2,[],[],[],[],y.2.2.1,y.2.2.2.1,y.2.2.2.2.1,y.2.2.2.2.2.1)) l.length
     (λd=>(∃y:wD,(AJ y/\Gm b l y/\∀i (hi:i<l.length),∀j (hj:j<i),l[j].1≠l[i].1)/\d=.inl (0,[],0,0,0,0,0,y.1,y.2.1,y.2.2.2.2.2.2.1,y.2.2.2.2.2.2.2.1,y.2.2.2.2.2.2.2.2.1,y.2.2.2.2.2.2.2.2.2.1,y.2.2.2.2.2.2.2.2.2.2,[],[],[],[],y.2.2.1,y.2.2.2.1,y.2.2.2.2.1,y.2.2.2.2.2.1))\/∃c k:Int,c≠0/\1<=k/\k<=(l.length:Int)/\U2 b l c/\d=.inr (WK c k b))
     (λk z hk ⟨y,⟨hy,hst,hdi⟩,e⟩=>by
      subst e;obtain⟨r,r1,r2,r3⟩:=WL hb hl hk (0,[],0,0,0,0,0);have hc:cut l 0 (k:Int)=some (l.take k):=by rw[show (0:Int)=((0:Nat):Int)from rfl,A5 (Nat.zero_le _) (by omega),drop_zero]
      simp only;unfold gC iD;rw[xk (show (k:Int)<(l.length:Int) by omega),cT,cT,wU hk,wC,hc,wC,r1,r2,wC,wC];rcases r3 with ⟨rfl,hnd⟩|⟨rfl,hdup⟩
      · obtain⟨q,q1,q2,q3,q4⟩:=WH hy (hl.2 _ (getElem_mem hk)).1;have q1':cB (y.1,y.2.1,y.2.2.1,y.2.2.2.1,y.2.2.2.2.1,y.2.2.2.2.2.1,y.2.2.2.2.2.2.1,y.2.2.2.2.2.2.2.1,y.2.2.2.2.2.2.2.2.1,y.2.2.2.2.2.2.2.2.2.1,y.2.2.2.2.2.2.2.2.2.2) l[k]=some q:=q1
        have q2':fY (y.1,y.2.1,y.2.2.1,y.2.2.2.1,y.2.2.2.2.1,y.2.2.2.2.2.1,y.2.2.2.2.2.2.1,y.2.2.2.2.2.2.2.1,y.2.2.2.2.2.2.2.2.1,y.2.2.2.2.2.2.2.2.2.1,y.2.2.2.2.2.2.2.2.2.2) l[k]=some q:=q2;simp only[Sum.elim_inl,wC,q1',q2',xQ hb,yB hb,wQ (show k<9223372036854775807 by omega)];cases hq:(q.2 != 0)with
        | true =>
         right;exact⟨_,rfl,rfl,.inr ⟨q.2,((k+1:Nat):Int),bne_iff_ne.1 hq,by omega,by omega,.inr (.inl ⟨k,y,hk,hst,hy,.inr ⟨q.1,q1⟩⟩),rfl⟩⟩
        | false =>
         left;have hq0:q.2=0:=by simpa using hq
         refine⟨_,rfl,rfl,q.1,⟨q3,?_,λi hi hik j hj=>?_⟩,rfl⟩
         · rw[take_add_one,List.getElem?_eq_getElem hk];exact .snoc hst hy (by rw[q1,←hq0])
         · by_cases e:i=k
           · subst e;exact hnd j hj
           · exact hdi i hi (by omega) j hj
      · right;exact⟨_,rfl,rfl,.inr ⟨5,((k+1:Nat):Int),by decide,by omega,by omega,.inr (.inl ⟨k,y,hk,hst,hy,.inl ⟨hdup,rfl⟩⟩),rfl⟩⟩)
     (λz ⟨y,⟨hy,hst,hdi⟩,e⟩=>by
      subst e;simp only;unfold gC iD;rw[x7 (show ¬(l.length:Int)<(l.length:Int) by omega),cF,cF];rw[take_length]at hst;exact⟨_,rfl,rfl,.inl ⟨y,⟨hy,hst,λi hi=>hdi i hi hi⟩,rfl⟩⟩) (x:=(0,0,[],0,0,0,0,0,b.1,b.2.1,b.2.2.2.2.2.2.1,b.2.2.2.2.2.2.2.1,b.2.2.2.2.2.2.2.2.1,b.2.2.2.2.2.2.2.2.2.1,b.2.2.2.2.2.2.2.2.2.2,[],[],[],[],b.2.2.1,b.2.2.2.1,b.2.2.2.2.1,b.2.2.2.2.2.1)) ⟨b,⟨hs0,.nil,λi _ hi=>absurd hi (Nat.not_lt_zero _)⟩,rfl⟩
    rw[d1,d2,wC,wC];rcases d3 with ⟨y,⟨hy,hst,hdi⟩,rfl⟩|⟨c,k,c0,k1,k2,hfl,rfl⟩
    · have n6:=hy.n6;have v6:=hy.v;have hq:=hy.q
      have t1:du (y.2.2.2.2.1,y.2.2.2.2.2.1) (y.2.2.1.length:Int)=some (Ak (y.2.2.2.2.1,y.2.2.2.2.2.1) (y.2.2.1.length:Int)):=TT (v:=(y.2.2.2.2.1,y.2.2.2.2.2.1)) _ (by show y.2.2.2.2.1.length<_;omega) (by show y.2.2.2.2.2.1.length<_;omega);have t2:dW (y.2.2.2.2.1,y.2.2.2.2.2.1) (y.2.2.1.length:Int)=some (Ak (y.2.2.2.2.1,y.2.2.2.2.2.1) (y.2.2.1.length:Int)):=TU (v:=(y.2.2.2.2.1,y.2.2.2.2.2.1)) _ (by show y.2.2.2.2.1.length<_;omega) (by show y.2.2.2.2.2.1.length<_;omega) hy.h
      simp only[Sum.elim_inl,t1,t2,wC];cases hv:Ak (y.2.2.2.2.1,y.2.2.2.2.2.1) (y.2.2.1.length:Int)with
      | false=>exact⟨_,rfl,rfl,hb,λ_=>⟨hs0,hp⟩,.inr ⟨rfl,by show (5:Int)≠0;decide,by show (1:Int)<=(l.length:Int);omega,Int.le_refl _,.inr (.inr ⟨y,hst,rfl⟩)⟩⟩
      | true =>
       obtain⟨r,r1,r2,r3,r4,r5,r6⟩:=MM hy;have r1':aH (y.1,y.2.1,y.2.2.1,y.2.2.2.1,y.2.2.2.2.1,y.2.2.2.2.2.1,y.2.2.2.2.2.2.1,y.2.2.2.2.2.2.2.1,y.2.2.2.2.2.2.2.2.1,y.2.2.2.2.2.2.2.2.2.1,y.2.2.2.2.2.2.2.2.2.2)=some r:=r1
       have r2':ba (y.1,y.2.1,y.2.2.1,y.2.2.2.1,y.2.2.2.2.1,y.2.2.2.2.2.1,y.2.2.2.2.2.2.1,y.2.2.2.2.2.2.2.1,y.2.2.2.2.2.2.2.2.1,y.2.2.2.2.2.2.2.2.2.1,y.2.2.2.2.2.2.2.2.2.2)=some r:=r2;simp only[Bool.not_true,cF,r1',r2',wC];exact⟨_,rfl,rfl,r3.le,λ_=>⟨r3,r3.ok (by rw[r4,r5,r6];exact hv)⟩,.inl ⟨rfl,rfl,.inr ⟨y,hst,hy,hdi,r1⟩⟩⟩
    · simp only[Sum.elim_inr];exact⟨_,rfl,rfl,hb,λ_=>⟨hs0,hp⟩,.inr ⟨rfl,c0,k1,k2,hfl⟩⟩

theorem xE.le {b:wD} (h:xE b):A4 M b:=by
 obtain⟨v1,v2,v3,v4⟩:=h.vt.len;have h1:=h.name;have h2:=h.n6;have h3:=h.f12
 have v3':b.2.2.2.2.2.1.length=b.2.2.1.length:=v3;have v4':b.2.2.2.2.1.length<=6:=v4
 have hM:M=1048576:=rfl;exact⟨by omega,by omega,by omega,by omega,by omega⟩
def YN (v:zH):Prop:=(v.1=2->v.2.2.1=[]/\v.2.2.2=[])/\(v.1=4->v.2.1=0/\v.2.2.2=[])
def YO (v:zH):Prop:=v.2.2.1.length<=100/\v.2.2.2.length<=1000/\YN v
def WM (x:wF):Prop:=x.1.length<=1000/\YO x.2
theorem WM.le {x:wF} (h:WM x):E8 M x:=by
 have hM:M=1048576:=rfl;obtain⟨h1,h2,h3,_⟩:=h;exact⟨by omega,by omega,by omega⟩
def DQ (n:Int):Int:=if n>2147483647 then 2147483647 else if n < -2147483648 then -2147483648 else n
theorem PD (n:Int):-2147483648<=DQ n/\DQ n<=2147483647:=by unfold DQ;split<;>(try split)<;>omega
def yw (m:Int):List Int:=if wL m (-128) 127 then [m%256]else if wL m (-32768) 32767 then [m/256%256,m%256]else if wL m (-8388608) 8388607 then [m/65536%256,m/256%256,m%256]else [m/16777216%256,m/65536%256,m/256%256,m%256]
theorem w8 (x:Int):IntKind.u8.wrap x=x%256:=rfl
theorem fd (m:Int) {k:Int} (hk:0<=k):m.fdiv k=m/k:=Int.fdiv_eq_ediv_of_nonneg m hk
theorem xb {α β:Type} {step:α->Option (α⊕β)} {x y:α} {b:β} (h:step x=some (.inl y)) (k:loop step y=some b):loop step x=some b:=by
 obtain⟨n,hn⟩:=Iq k;exact AA (k:=n+1) (by rw[xR,h];exact hn)
theorem Ol {n:Int} (hn:-9223372036854775808<=n/\n<=9223372036854775807):dw n=some (yw (DQ n)):=by
 unfold dw;have hc:max2 (-2147483648) (min2 n 2147483647)=DQ n:=by
  unfold max2 min2 DQ;split<;>split<;>(try split)<;>(try split)<;>omega
 rw[hc];obtain⟨h1,h2⟩:=PD n;generalize DQ n=m at h1 h2;simp only;have a1:aK m 1=cond (!(wL m (-128) 127)) (some (.inl 2)) (some (.inr 1)):=by
  unfold aK;rw[show shl .i64 (-1) (wE ((wE (8*1))-1))=some (-128)from rfl,show shl .i64 1 (wE ((wE (8*1))-1))=some 128 from rfl];simp only[wC,zQ];rw[show wE (128-1)=127 from rfl];cases wL m (-128) 127<;>rfl
 have a2:aK m 2=cond (!(wL m (-32768) 32767)) (some (.inl 3)) (some (.inr 2)):=by
  unfold aK;rw[show shl .i64 (-1) (wE ((wE (8*2))-1))=some (-32768)from rfl,show shl .i64 1 (wE ((wE (8*2))-1))=some 32768 from rfl];simp only[wC,zQ];rw[show wE (32768-1)=32767 from rfl];cases wL m (-32768) 32767<;>rfl
 have a3:aK m 3=cond (!(wL m (-8388608) 8388607)) (some (.inl 4)) (some (.inr 3)):=by
  unfold aK;rw[show shl .i64 (-1) (wE ((wE (8*3))-1))=some (-8388608)from rfl,show shl .i64 1 (wE ((wE (8*3))-1))=some 8388608 from rfl];simp only[wC,zQ];rw[show wE (8388608-1)=8388607 from rfl];cases wL m (-8388608) 8388607<;>rfl
 have a4:aK m 4=some (.inr 4):=rfl;have b3:∀out:List Int,out.length<=10->aC m 3 out=some (.inl (2,out++[m/16777216%256])):=λout ho=>by
  unfold aC;rw[show shr .i64 m (wE (8*3))=some (m.fdiv (2^24))from rfl,wC,wO (by simp;omega),wC,w8,fd m (by decide)];rfl
 have b2:∀out:List Int,out.length<=10->aC m 2 out=some (.inl (1,out++[m/65536%256])):=λout ho=>by
  unfold aC;rw[show shr .i64 m (wE (8*2))=some (m.fdiv (2^16))from rfl,wC,wO (by simp;omega),wC,w8,fd m (by decide)];rfl
 have b1:∀out:List Int,out.length<=10->aC m 1 out=some (.inl (0,out++[m/256%256])):=λout ho=>by
  unfold aC;rw[show shr .i64 m (wE (8*1))=some (m.fdiv (2^8))from rfl,wC,wO (by simp;omega),wC,w8,fd m (by decide)];rfl
 have b0:∀out:List Int,out.length<=10->aC m 0 out=some (.inl (-1,out++[m%256])):=λout ho=>by
  unfold aC;rw[show shr .i64 m (wE (8*0))=some (m.fdiv (2^0))from rfl,wC,wO (by simp;omega),wC,w8,fd m (by decide)];simp;rfl
 have be:∀out:List Int,aC m (-1) out=some (.inr out):=λout=>rfl;have c0:∀out:List Int,out.length<=9->loop (λz:Int×List Int=>aC m z.1 z.2) (0,out)=some (out++[m%256]):=λout ho=>xb (b0 out (by omega)) (xh (be _))
 have c1:∀out:List Int,out.length<=8->loop (λz:Int×List Int=>aC m z.1 z.2) (1,out)=some (out++[m/256%256]++[m%256]):=λout ho=>xb (b1 out (by omega)) (c0 _ (by simp;omega));have c2:∀out:List Int,out.length<=7->loop (λz:Int×List Int=>aC m z.1 z.2) (2,out)=some (out++[m/65536%256]++[m/256%256]++[m%256]):=λout ho=>xb (b2 out (by omega)) (c1 _ (by simp;omega))
 have c3:∀out:List Int,out.length<=6->loop (λz:Int×List Int=>aC m z.1 z.2) (3,out)=some (out++[m/16777216%256]++[m/65536%256]++[m/256%256]++[m%256]):=λout ho=>xb (b3 out (by omega)) (c2 _ (by simp;omega));unfold yw;cases h8:wL m (-128) 127 with
 | true =>
  rw[h8]at a1;rw[xh (step:=λz=>aK m z) a1,wC,show wE (1-1)=0 from rfl,c0 [] (by simp)];rfl
 | false =>
  rw[h8]at a1;cases h16:wL m (-32768) 32767 with
  | true =>
   rw[h16]at a2;rw[xb (step:=λz=>aK m z) a1 (xh a2),wC,show wE (2-1)=1 from rfl,c1 [] (by simp)];rfl
  | false =>
   rw[h16]at a2;cases h24:wL m (-8388608) 8388607 with
   | true =>
    rw[h24]at a3;rw[xb (step:=λz=>aK m z) a1 (xb a2 (xh a3)),wC,show wE (3-1)=2 from rfl,c2 [] (by simp)];rfl
   | false =>
    rw[h24]at a3;rw[xb (step:=λz=>aK m z) a1 (xb a2 (xb a3 (xh a4))),wC,show wE (4-1)=3 from rfl,c3 [] (by simp)];rfl
theorem IM {n a b:Int} (h:wL n a b=false):n<a\/n>b:=by
 unfold wL at h;simp only[Bool.and_eq_false_iff,decide_eq_false_iff_not]at h;omega
theorem xI {n a b:Int} (h:wL n a b=true):a<=n/\n<=b:=by
 unfold wL at h;simp only[aT,decide_eq_true_eq]at h;omega
theorem H7 {n:Int}:bv n=some (yw (DQ n)):=by
 unfold bv;have hc:bt n=some (DQ n):=by
  unfold bt DQ;by_cases h1:n>2147483647
  · rw[dT h1,cT,if_pos h1]
  · rw[dF h1,cF,if_neg h1];by_cases h2:n < -2147483648
    · rw[dT h2,cT,if_pos h2]
    · rw[dF h2,cF,if_neg h2]
 rw[hc,wC];obtain⟨h1,h2⟩:=PD n;generalize DQ n=m at h1 h2;have st:∀(x:Int) (out:List Int),out.length<=10->cf x out=cond (wL x (-128) 127) (some (.inr out)) (some (.inl (x/256,x/256%256::out))):=λx out ho=>by
  unfold cf;have e:(cond (decide (x<(-128))) (some true) (some (decide (x>127))))=some (!(wL x (-128) 127)):=by
   unfold wL;by_cases h1:x < -128
   · rw[dT h1,cT,dF (show ¬x >= -128 by omega)];rfl
   · rw[dF h1,cF,dT (show x >= -128 by omega)];by_cases h2:x>127
     · rw[dT h2,dF (show ¬x<=127 by omega)];rfl
     · rw[dF h2,dT (show x<=127 by omega)];rfl
  rw[e,wC,wO (by simp;omega),wC,w8,fd x (by decide)];cases wL x (-128) 127<;>rfl
 rw[w8];have goes:∀(x:Int) (out:List Int),out.length<=9->wL x (-128) 127=true->loop (λz:Int×List Int=>cf z.1 z.2) (x,out)=some out:=λx out ho h=>xh (by show cf x out=_;rw[st x out (by omega),h];rfl)
 have more:∀(x:Int) (out r:List Int),out.length<=9->wL x (-128) 127=false->loop (λz:Int×List Int=>cf z.1 z.2) (x/256,x/256%256::out)=some r->loop (λz:Int×List Int=>cf z.1 z.2) (x,out)=some r:=λx out r ho h k=>xb (by show cf x out=_;rw[st x out (by omega),h];rfl) k;have Eh:∀(x a b:Int),a<=x->x<=b->wL x a b=true:=λx a b h1 h2=>by unfold wL;rw[dT h1,dT h2];rfl
 have outn:∀(x a b:Int),(x<a\/x>b)->wL x a b=false:=λx a b h=>by
  unfold wL;simp only[Bool.and_eq_false_iff,decide_eq_false_iff_not];omega
 unfold yw;cases h8:wL m (-128) 127 with
 | true=>rw[goes m _ (by simp) h8];rfl
 | false =>
  have k8:=IM h8;cases h16:wL m (-32768) 32767 with
  | true =>
   have k16:=xI h16;rw[more m _ _ (by simp) h8 (goes (m/256) _ (by simp) (Eh _ _ _ (by omega) (by omega)))];rfl
  | false =>
   have k16:=IM h16;cases h24:wL m (-8388608) 8388607 with
   | true =>
    have k24:=xI h24;rw[more m _ _ (by simp) h8 (more (m/256) _ _ (by simp) (outn _ _ _ (by omega)) (goes (m/256/256) _ (by simp) (Eh _ _ _ (by omega) (by omega))))];rw[show m/256/256=m/65536 by omega];rfl
   | false =>
    have k24:=IM h24;rw[more m _ _ (by simp) h8 (more (m/256) _ _ (by simp) (outn _ _ _ (by omega)) (more (m/256/256) _ _ (by simp) (outn _ _ _ (by omega)) (goes (m/256/256/256) _ (by simp) (Eh _ _ _ (by omega) (by omega)))))];rw[show m/256/256=m/65536 by omega,show m/65536/256=m/16777216 by omega];rfl

def zE (b:List Int):Prop:=∀x∈b,0<=x/\x<=255
def xS (t:Int) (body:List Int):List Int:=t::((if body.length>=128 then [129,(body.length:Int)]else [(body.length:Int)])++body)
theorem QQ (t:Int) {body:List Int} (hn:body.length<=M):cu t body=some (if wL t 0 255=true/\body.length<=250 then (xS t body,true)else ([],false)):=by
 have hn':body.length<=1048576:=hn;unfold cu;rw[zQ,wC];cases ht:wL t 0 255 with
 | false=>rw[if_neg (by simp)];rfl
 | true =>
  obtain⟨t1,t2⟩:=xI ht;rw[Bool.not_true,cF,wC];by_cases h:(body.length:Int)>250
  · rw[dT h,cT,if_neg (by omega)]
  · rw[dF h,cF,if_pos ⟨rfl,by omega⟩];unfold xS;have e1:IntKind.u8.wrap t=t:=by rw[w8];omega
    have e2:IntKind.u8.wrap (body.length:Int)=(body.length:Int):=by rw[w8];omega
    by_cases h8:(body.length:Int)>=128
    · rw[dT h8,cT,wO (by simp),wC,wO (by simp),wC,wO (by simp;omega),wC,if_pos (by omega),e1,e2];rfl
    · rw[dF h8,cF,wO (by simp),wC,wO (by simp;omega),wC,if_neg (by omega),e1,e2];rfl
theorem Om {b:List Int} (t:Int) {body:List Int} (hb:b.length<=1000) (hn:body.length<=M):bj b t body=some (b++if wL t 0 255=true/\body.length<=250 then xS t body else []):=by
 unfold bj;have hM:M=1048576:=rfl
 rw[QQ t hn,wC,Ci (by omega),wC];split
 · next h =>
   have:(xS t body).length<=300:=by unfold xS;split<;>simp<;>omega
   rw[wO (by show b.length+(xS t body).length<=_;omega)];rfl
 · rw[wO (by show b.length+0<=_;omega)];rfl
theorem H8 {α:Type} (pre l:List α) (j:Nat):at? (pre++l) ((pre.length+j:Nat):Int)=at? l (j:Int):=by
 unfold at?;rw[if_pos (by omega),if_pos (by omega),Int.toNat_natCast,Int.toNat_natCast,List.getElem?_append_right (by omega),Nat.add_sub_cancel_left]
theorem PE {α:Type} (pre l:List α) (i j:Nat) (h:i<=j) (hj:j<=l.length):cut (pre++l) ((pre.length+i:Nat):Int) ((pre.length+j:Nat):Int)=some ((l.take j).drop i):=by
 rw[A5 (by omega) (by rw[length_append];omega),List.take_append,List.take_of_length_le (by omega),List.drop_append,List.drop_of_length_le (by omega),Nat.add_sub_cancel_left,Nat.add_sub_cancel_left,List.nil_append]
structure Cj (b:List Int) (at':Int) (t:Int) (body:List Int) (next:Int):Prop where
 ex:∃pre rest,b=pre++(xS t body++rest)/\at'=(pre.length:Int)/\next=((pre.length+(xS t body).length:Nat):Int)
 n:body.length<=250
 t:wL t 0 255=true
 b:zE body
theorem Lh {b:List Int} (hb:zE b) (hn:b.length<=M) {i:Int} (hi:-9223372036854775808<=i/\i<=9223372036854775807):∃r,cp b i=some r/\cM b i=some r/\(r=(0,[],0,false)\/∃t body next,r=(t,body,next,true)/\Cj b i t body next):=by
 have hn':b.length<=1048576:=hn;unfold cp cM;rw[xq (show -9223372036854775808<=(b.length:Int)-2 by omega) (by omega)];by_cases h0:i<0
 · rw[dT h0];exact⟨_,rfl,rfl,.inl rfl⟩
 rw[dF h0];by_cases h1:i>(b.length:Int)-2
 · rw[dT h1];by_cases h2:i>=(b.length:Int)
   · rw[dT h2];exact⟨_,rfl,rfl,.inl rfl⟩
   · rw[dF h2,xq (by omega) (by omega),dT (show i+1>=(b.length:Int) by omega)];exact⟨_,rfl,rfl,.inl rfl⟩
 rw[dF h1,dF (show ¬i>=(b.length:Int) by omega),xq (show -9223372036854775808<=i+1 by omega) (by omega),dF (show ¬i+1>=(b.length:Int) by omega),xq (show -9223372036854775808<=i+2 by omega) (by omega)];simp only[cF,wC];obtain⟨k,rfl⟩:∃k:Nat,i=(k:Int):=⟨i.toNat,by omega⟩;have hk:k+1<b.length:=by omega
 obtain⟨pre,t,n0,rest,rfl,hp⟩:∃pre t n0 rest,b=pre++(t::n0::rest)/\pre.length=k:=by
  refine⟨b.take k,b[k],b[k+1],b.drop (k+2),?_,by rw[length_take];omega⟩;have h1:=take_append_drop k b
  rw[drop_eq_getElem_cons (by omega),drop_eq_getElem_cons (by omega)]at h1;exact h1.symm
 subst hp;have ht:0<=t/\t<=255:=hb t (by simp)
 have hn0:0<=n0/\n0<=255:=hb n0 (by simp);have hr:zE rest:=λx hx=>hb x (by simp[hx])
 have hlen:(pre++(t::n0::rest)).length=pre.length+(rest.length+2):=by simp
 have e0:at? (pre++(t::n0::rest)) (pre.length:Int)=some t:=by have:=H8 pre (t::n0::rest) 0;rw[Nat.add_zero]at this;rw[this];rfl
 have e1:at? (pre++(t::n0::rest)) ((pre.length:Int)+1)=some n0:=by have:=H8 pre (t::n0::rest) 1;rw[show ((pre.length:Int)+1)=((pre.length+1:Nat):Int) by omega,this];rfl
 have e2:at? (pre++(t::n0::rest)) ((pre.length:Int)+2)=at? rest 0:=by
  have:=H8 pre (t::n0::rest) 2;rw[show ((pre.length:Int)+2)=((pre.length+2:Nat):Int) by omega,this];unfold at?;simp
 have wt:wE t=t:=xq (by omega) (by omega);have wn:wE n0=n0:=xq (by omega) (by omega)
 have pt:wL t 0 255=true:=by unfold wL;rw[dT ht.1,dT ht.2];rfl
 rw[hlen]at hn';rw[hlen,e0,e1,e2];simp only[wC,wt,wn];by_cases h8:n0>=128
 · rw[dT h8,dT (show n0>127 by omega)];simp only[cT];by_cases h9:n0=129
   · subst h9;simp only[show ((129:Int) != 129)=false from rfl,cF,wC];cases rest with
     | nil =>
      rw[dT (show (pre.length:Int)+2>=((pre.length+(([]:List Int).length+2):Nat):Int) by simp)];exact⟨_,rfl,rfl,.inl rfl⟩
     | cons n1 r =>
      have hn1:0<=n1/\n1<=255:=hr n1 (by simp);have wn1:wE n1=n1:=xq (by omega) (by omega)
      rw[length_cons]at hn' ⊢;rw[dF (show ¬(pre.length:Int)+2>=((pre.length+(r.length+1+2):Nat):Int) by omega)];simp only[cF,wC,show at? (n1::r) 0=some n1 from rfl,wn1];by_cases h10:n1<128
      · rw[dT h10];exact⟨_,rfl,rfl,.inl rfl⟩
      rw[dF h10,xq (show -9223372036854775808<=(pre.length:Int)+2+1 by omega) (by omega),xq (show -9223372036854775808<=((pre.length+(r.length+1+2):Nat):Int)-((pre.length:Int)+2+1) by omega) (by omega)];simp only[cF];by_cases h11:n1>250
      · rw[dT h11];exact⟨_,rfl,rfl,.inl rfl⟩
      rw[dF h11];simp only[cF,wC];by_cases h12:n1>((pre.length+(r.length+1+2):Nat):Int)-((pre.length:Int)+2+1)
      · rw[dT h12];exact⟨_,rfl,rfl,.inl rfl⟩
      rw[dF h12];simp only[cF];obtain⟨m,rfl⟩:∃m:Nat,n1=(m:Int):=⟨n1.toNat,by omega⟩;have hcut:cut (pre++(t::129::(m:Int)::r)) ((pre.length:Int)+2+1) (wE ((pre.length:Int)+2+1+(m:Int)))=some (r.take m):=by
       rw[xq (by omega) (by omega),show (pre.length:Int)+2+1+(m:Int)=((pre.length+(3+m):Nat):Int) by omega,show (pre.length:Int)+2+1=((pre.length+3:Nat):Int) by omega,PE _ _ _ _ (by omega) (by simp;omega)];simp[Nat.add_comm 3 m]
      have hl:(r.take m).length=m:=by rw[length_take];omega
      rw[hcut,wC,wC,Ci (by show _<=1048576;omega),zR (by show _<=1048576;omega),wC];refine⟨_,rfl,rfl,.inr ⟨t,r.take m,wE ((pre.length:Int)+2+1+(m:Int)),rfl,⟨pre,r.drop m,?_,rfl,?_⟩,by omega,pt,λx hx=>hr x (mem_cons_of_mem _ (List.mem_of_mem_take hx))⟩⟩
      · unfold xS;rw[hl,if_pos (by omega)];simp
      · unfold xS;rw[hl,if_pos (by omega),xq (by omega) (by omega)];simp only[length_cons,length_append,length_nil,hl];omega
   · rw[bne_iff_ne.2 h9];exact⟨_,rfl,rfl,.inl rfl⟩
 · rw[dF h8,dF (show ¬n0>127 by omega)];simp only[cF];rw[dF (show ¬n0>250 by omega),xq (show -9223372036854775808<=((pre.length+(rest.length+2):Nat):Int)-((pre.length:Int)+2) by omega) (by omega)];simp only[cF,wC];by_cases h12:n0>((pre.length+(rest.length+2):Nat):Int)-((pre.length:Int)+2)
   · rw[dT h12];exact⟨_,rfl,rfl,.inl rfl⟩
   rw[dF h12];simp only[cF];obtain⟨m,rfl⟩:∃m:Nat,n0=(m:Int):=⟨n0.toNat,by omega⟩;have hcut:cut (pre++(t::(m:Int)::rest)) ((pre.length:Int)+2) (wE ((pre.length:Int)+2+(m:Int)))=some (rest.take m):=by
    rw[xq (by omega) (by omega),show (pre.length:Int)+2+(m:Int)=((pre.length+(2+m):Nat):Int) by omega,show (pre.length:Int)+2=((pre.length+2:Nat):Int) by omega,PE _ _ _ _ (by omega) (by simp;omega)];simp[Nat.add_comm 2 m]
   have hl:(rest.take m).length=m:=by rw[length_take];omega
   rw[hcut,wC,wC,Ci (by show _<=1048576;omega),zR (by show _<=1048576;omega),wC];refine⟨_,rfl,rfl,.inr ⟨t,rest.take m,wE ((pre.length:Int)+2+(m:Int)),rfl,⟨pre,rest.drop m,?_,rfl,?_⟩,by omega,pt,λx hx=>hr x (List.mem_of_mem_take hx)⟩⟩
   · unfold xS;rw[hl,if_neg (by omega)];simp
   · unfold xS;rw[hl,if_neg (by omega),xq (by omega) (by omega)];simp only[length_cons,length_append,length_nil,hl];omega

theorem YC {m x:Int} (hm:-1099511627776<=m/\m<=1099511627776) (hx:0<=x/\x<=255):E0 .i64 (wE (m*2^8)) (wE x)=m*256+x:=by
 rw[show m*2^8=m*256 from rfl,xq (show -9223372036854775808<=m*256 by omega) (by omega),xq (show -9223372036854775808<=x by omega) (by omega)];show IntKind.i64.wrap (((BitVec.ofInt 64 (m*256)|||BitVec.ofInt 64 x).toNat:Nat):Int)=_
 rw[BitVec.toNat_or,BitVec.toNat_ofInt,BitVec.toNat_ofInt];have h1:((m*256)%((2^64:Nat):Int)).toNat=2^8*(m%72057594037927936).toNat:=by
  have:((2^64:Nat):Int)=18446744073709551616:=by decide
  rw[this];omega
 have h2:(x%((2^64:Nat):Int)).toNat=x.toNat:=by
  have:((2^64:Nat):Int)=18446744073709551616:=by decide
  rw[this];omega
 rw[h1,h2,←Nat.two_pow_add_eq_or_of_lt (by show x.toNat<2^8;omega)];show (let z:=((2^8*(m%72057594037927936).toNat+x.toNat:Nat):Int)%18446744073709551616;if (true&&decide (z>=9223372036854775808))=true then z-18446744073709551616 else z)=_
 simp only[Bool.true_and,decide_eq_true_eq];split<;>omega
def AK (x:Int):Int:=if x>127 then x-256 else x
def yL (n:Int) (l:List Int):Int:=l.foldl (λn x=>n*256+x) n
theorem Tn {n:Int} {l:List Int} (hn:-256<=n/\n<=256) (hl:zE l) (h3:l.length<=3):∀k,k<=l.length -> -1099511627776<=yL n (l.take k)/\yL n (l.take k)<=1099511627776:=by
 match l,h3 with
 | [],_=>intro k hk;simp only[take_nil,yL,List.foldl];omega
 | [a],_ =>
  have ha:=hl a (by simp);intro k hk
  match k with
  | 0=>simp only[take_zero,yL,List.foldl];omega
  | k+1=>simp only[take_succ_cons,take_nil,yL,List.foldl];omega
 | [a,b],_ =>
  have ha:=hl a (by simp);have hb:=hl b (by simp)
  intro k hk
  match k with
  | 0=>simp only[take_zero,yL,List.foldl];omega
  | 1=>simp only[take_succ_cons,take_zero,yL,List.foldl];omega
  | k+2=>simp only[take_succ_cons,take_nil,yL,List.foldl];omega
 | [a,b,c],_ =>
  have ha:=hl a (by simp);have hb:=hl b (by simp)
  have hc:=hl c (by simp);intro k hk
  match k with
  | 0=>simp only[take_zero,yL,List.foldl];omega
  | 1=>simp only[take_succ_cons,take_zero,yL,List.foldl];omega
  | 2=>simp only[take_succ_cons,take_zero,yL,List.foldl];omega
  | k+3=>simp only[take_succ_cons,take_nil,yL,List.foldl];omega
theorem K4 {n:Int} {l:List Int} (hn:-256<=n/\n<=256) (hl:zE l) (h3:l.length<=3) {off:Nat} (step:Int×Int->Option ((Int×Int)⊕Int)) (ho:off<=1000)
 (hs:∀k (hk:k<l.length) m,step (m,((off+k:Nat):Int))=some (.inl (E0 .i64 (wE (m*2^8)) (wE l[k]),((off+(k+1):Nat):Int))))
 (he:∀m,step (m,((off+l.length:Nat):Int))=some (.inr m)):loop step (n,(off:Int))=some (yL n l):=by
 obtain⟨b,h1,rfl⟩:=xi (step:=step) (λk z=>z=(yL n (l.take k),((off+k:Nat):Int))) l.length (λb=>b=yL n l)
  (λk z hk e=>by
   subst e;left;refine⟨_,hs k hk _,?_⟩;have ht:l.take (k+1)=l.take k++[l[k]]:=by rw[take_add_one,List.getElem?_eq_getElem hk];rfl
   rw[YC (Tn hn hl h3 k (by omega)) (hl _ (getElem_mem hk)),ht];unfold yL;rw[List.foldl_append];rfl)
  (λz e=>by
   subst e;exact⟨_,he _,by rw[take_length]⟩) (x:=(n,(off:Int))) rfl
 exact h1
theorem Sl {x0:Int} {l:List Int} (hb:zE (x0::l)) (h3:l.length<=3):-2147483648<=yL (AK x0) l/\yL (AK x0) l<=2147483647/\((yw (yL (AK x0) l)).length=(x0::l).length->x0::l=yw (yL (AK x0) l)):=by
 have h0:=hb x0 (by simp);have hs:(AK x0=x0/\x0<=127)\/(AK x0=x0-256/\128<=x0):=by unfold AK;split<;>omega
 generalize AK x0=s at hs
 match l,h3 with
 | [],_ =>
  simp only[yL,List.foldl];refine⟨by omega,by omega,λ_=>?_⟩;have:wL s (-128) 127=true:=by unfold wL;rw[dT (by omega),dT (by omega)];rfl
  unfold yw;rw[if_pos this,show s%256=x0 by omega]
 | [a],_ =>
  have ha:=hb a (by simp);simp only[yL,List.foldl];refine⟨by omega,by omega,λh=>?_⟩;unfold yw at h ⊢;split at h
  · simp at h
  · split at h
    · next h1 h2=>rw[if_neg h1,if_pos h2,show (s*256+a)/256%256=x0 by omega,show (s*256+a)%256=a by omega]
    · split at h<;>simp at h
 | [a,b],_ =>
  have ha:=hb a (by simp);have hb':=hb b (by simp)
  simp only[yL,List.foldl];refine⟨by omega,by omega,λh=>?_⟩;unfold yw at h ⊢;split at h
  · simp at h
  · split at h
    · simp at h
    · split at h
      · next h1 h2 h3=>rw[if_neg h1,if_neg h2,if_pos h3,show ((s*256+a)*256+b)/65536%256=x0 by omega,show ((s*256+a)*256+b)/256%256=a by omega,show ((s*256+a)*256+b)%256=b by omega]
      · simp at h
 | [a,b,c],_ =>
  have ha:=hb a (by simp);have hb':=hb b (by simp)
  have hc:=hb c (by simp);simp only[yL,List.foldl];refine⟨by omega,by omega,λh=>?_⟩;unfold yw at h ⊢;split at h
  · simp at h
  · split at h
    · simp at h
    · split at h
      · simp at h
      · next h1 h2 h3=>rw[if_neg h1,if_neg h2,if_neg h3,show (((s*256+a)*256+b)*256+c)/16777216%256=x0 by omega,show (((s*256+a)*256+b)*256+c)/65536%256=a by omega,show (((s*256+a)*256+b)*256+c)/256%256=b by omega,show (((s*256+a)*256+b)*256+c)%256=c by omega]
theorem DR {n:Int} (h:-2147483648<=n/\n<=2147483647):DQ n=n:=by unfold DQ;split<;>(try split)<;>omega
theorem i8 {x:Int} (hx:0<=x/\x<=255):wE (IntKind.i8.wrap x)=AK x:=by
 have:IntKind.i8.wrap x=AK x:=by
  show (let m:=x%256;if (true&&decide (m>=128))=true then m-256 else m)=_;unfold AK;simp only[Bool.true_and,decide_eq_true_eq];split<;>split<;>omega
 rw[this];unfold AK;split<;>exact xq (by omega) (by omega)
theorem Sm {b:List Int} (hb:zE b) (hn:b.length<=M):∃r,eA b=some r/\fP b=some r/\(r=(0,false)\/∃n,r=(n,true)/\b=yw n /\ -2147483648<=n/\n<=2147483647):=by
 have hn':b.length<=1048576:=hn;unfold eA fP;rw[zQ,Cz,wC,wC];cases h14:wL (b.length:Int) 1 4 with
 | false=>exact⟨_,rfl,rfl,.inl rfl⟩
 | true =>
  obtain⟨k1,k4⟩:=xI h14
  match b,k1,k4,hb,hn' with
  | x0::l,k1,k4,hb,hn' =>
   have h3:l.length<=3:=by rw[length_cons]at k4;omega
   have h0:=hb x0 (by simp);have hl:zE l:=λx hx=>hb x (mem_cons_of_mem _ hx)
   obtain⟨d1,d2,d3⟩:=Sl hb h3;have hsg:-256<=AK x0/\AK x0<=256:=by unfold AK;split<;>omega
   have w0:wE x0=x0:=xq (by omega) (by omega);have hcut:cut (x0::l) 1 ((x0::l).length:Int)=some l:=by
    rw[show (1:Int)=((1:Nat):Int)from rfl,A5 (by simp) (Nat.le_refl _),take_length];rfl
   have hfin:∀d:Int×Bool,True:=λ_=>trivial;have li:loop (λz:Int×Int=>dx l z.1 z.2) (AK x0,0)=some (yL (AK x0) l):=K4 hsg hl h3 (off:=0) _ (by omega) (λk hk m=>by
    show dx l m ((0+k:Nat):Int)=_;rw[Nat.zero_add];unfold dx;rw[xk (by omega),cT,wU hk,wC,wQ (by omega),Nat.zero_add]) (λm=>by
    show dx l m ((0+l.length:Nat):Int)=_;rw[Nat.zero_add];unfold dx;rw[x7 (by omega),cF])
   have hat:∀k (hk:k<l.length),at? (x0::l) ((1+k:Nat):Int)=some l[k]:=λk hk=>by
    rw[wU (by simp;omega)]
    congr 1
    rw[List.getElem_cons,dif_neg (by omega)]
    congr 1;omega
   have ls:loop (λz:Int×Int=>dX (x0::l) z.1 z.2) (AK x0,1)=some (yL (AK x0) l):=K4 hsg hl h3 (off:=1) _ (by omega) (λk hk m=>by
    show dX (x0::l) m ((1+k:Nat):Int)=_;unfold dX;rw[xk (show ((1+k:Nat):Int)<((x0::l).length:Int) by rw[length_cons];omega),cT,hat k hk,wC,wQ (by omega)];rfl) (λm=>by
    show dX (x0::l) m ((1+l.length:Nat):Int)=_;unfold dX;rw[x7 (show ¬((1+l.length:Nat):Int)<((x0::l).length:Int) by rw[length_cons];omega),cF])
   have ls1:loop (λz:Int×Int=>dY (x0::l) z.1 z.2) (AK x0,1)=some (yL (AK x0) l):=K4 hsg hl h3 (off:=1) _ (by omega) (λk hk m=>by
    show dY (x0::l) m ((1+k:Nat):Int)=_;unfold dY;rw[xk (show ((1+k:Nat):Int)<((x0::l).length:Int) by rw[length_cons];omega),cT,hat k hk,wC,wQ (by omega)];rfl) (λm=>by
    show dY (x0::l) m ((1+l.length:Nat):Int)=_;unfold dY;rw[x7 (show ¬((1+l.length:Nat):Int)<((x0::l).length:Int) by rw[length_cons];omega),cF])
   have fin1:∀(g:Option (List Int)),g=some (yw (yL (AK x0) l))->∃r,(g.bind λt30=>cond ((t30.length:Int) != ((x0::l).length:Int)) (some ((0:Int),false)) (some (yL (AK x0) l,true)))=some r/\(r=(0,false)\/∃n,r=(n,true)/\x0::l=yw n /\ -2147483648<=n/\n<=2147483647):=λg hg=>by
    rw[hg,wC];cases he:(((yw (yL (AK x0) l)).length:Int) != ((x0::l).length:Int))with
    | true=>exact⟨_,rfl,.inl rfl⟩
    | false =>
     have he':((yw (yL (AK x0) l)).length:Int)=((x0::l).length:Int):=by simpa using he
     exact⟨_,rfl,.inr ⟨_,rfl,d3 (by omega),d1,d2⟩⟩
   have p1:=Ol (n:=yL (AK x0) l) ⟨by omega,by omega⟩;have p2:=H7 (n:=yL (AK x0) l)
   rw[DR ⟨d1,d2⟩]at p1 p2;obtain⟨r,f1,f2⟩:=fin1 _ p1;have f3:((bv (yL (AK x0) l)).bind λt30=>cond ((t30.length:Int) != ((x0::l).length:Int)) (some ((0:Int),false)) (some (yL (AK x0) l,true)))=some r:=by rw[p2,←p1];exact f1
   refine⟨r,?_,?_,f2⟩
   · rw[Bool.not_true,cF,show at? (x0::l) 0=some x0 from rfl,wC];simp only;rw[hcut,wC,i8 h0,li,wC];exact f1
   · rw[Bool.not_true,cF,show at? (x0::l) 0=some x0 from rfl,wC,w0];by_cases h7:x0>127
     · have hsx:wE (x0-256)=AK x0:=by unfold AK;rw[if_pos h7];exact xq (by omega) (by omega)
       rw[dT h7,cT,hsx,ls,wC];exact f3
     · have hsx:AK x0=x0:=by unfold AK;rw[if_neg h7]
       rw[hsx]at ls1 f3;rw[dF h7,cF,ls1,wC];exact f3

theorem QR:((2^64:Nat):Int)=18446744073709551616:=by decide
theorem H9 {x:Int} (hx:0<=x/\x<9223372036854775808):zc .i64 x 127=x%128:=by
 show IntKind.i64.wrap (((BitVec.ofInt 64 x&&&BitVec.ofInt 64 127).toNat:Nat):Int)=_;rw[BitVec.toNat_and,BitVec.toNat_ofInt,BitVec.toNat_ofInt,QR];have h2:((127:Int)%18446744073709551616).toNat=2^7-1:=by decide
 have h1:(x%18446744073709551616).toNat=x.toNat:=by omega
 rw[h1,h2,Nat.and_two_pow_sub_one_eq_mod];show (let z:=((x.toNat%2^7:Nat):Int)%18446744073709551616;if (true&&decide (z>=9223372036854775808))=true then z-18446744073709551616 else z)=_
 simp only[Bool.true_and,decide_eq_true_eq];split<;>omega
theorem HP {x:Int} (hx:0<=x/\x<=255):zc .u8 x 127=x%128:=by
 show IntKind.u8.wrap (((BitVec.ofInt 8 x&&&BitVec.ofInt 8 127).toNat:Nat):Int)=_;rw[BitVec.toNat_and,BitVec.toNat_ofInt,BitVec.toNat_ofInt,show ((2^8:Nat):Int)=256 by decide];have h2:((127:Int)%256).toNat=2^7-1:=by decide
 have h1:(x%256).toNat=x.toNat:=by omega
 rw[h1,h2,Nat.and_two_pow_sub_one_eq_mod];show (((x.toNat%2^7:Nat):Int)%256)=_
 omega
theorem WN {x:Int} (hx:0<=x/\x<128):E0 .i64 x 128=x+128:=by
 show IntKind.i64.wrap (((BitVec.ofInt 64 x|||BitVec.ofInt 64 128).toNat:Nat):Int)=_;rw[BitVec.toNat_or,BitVec.toNat_ofInt,BitVec.toNat_ofInt,QR];have h2:((128:Int)%18446744073709551616).toNat=2^7*1:=by decide
 have h1:(x%18446744073709551616).toNat=x.toNat:=by omega
 rw[h1,h2,Nat.or_comm,←Nat.two_pow_add_eq_or_of_lt (by show x.toNat<2^7;omega)];show (let z:=((2^7*1+x.toNat:Nat):Int)%18446744073709551616;if (true&&decide (z>=9223372036854775808))=true then z-18446744073709551616 else z)=_
 simp only[Bool.true_and,decide_eq_true_eq];split<;>omega
theorem QS {m x:Int} (hm:0<=m/\m<=1099511627776) (hx:0<=x/\x<128):E0 .i64 (wE (m*2^7)) (wE x)=m*128+x:=by
 rw[show m*2^7=m*128 from rfl,xq (show -9223372036854775808<=m*128 by omega) (by omega),xq (show -9223372036854775808<=x by omega) (by omega)];show IntKind.i64.wrap (((BitVec.ofInt 64 (m*128)|||BitVec.ofInt 64 x).toNat:Nat):Int)=_
 rw[BitVec.toNat_or,BitVec.toNat_ofInt,BitVec.toNat_ofInt,QR];have h1:((m*128)%18446744073709551616).toNat=2^7*m.toNat:=by omega
 have h2:(x%18446744073709551616).toNat=x.toNat:=by omega
 rw[h1,h2,←Nat.two_pow_add_eq_or_of_lt (by show x.toNat<2^7;omega)];show (let z:=((2^7*m.toNat+x.toNat:Nat):Int)%18446744073709551616;if (true&&decide (z>=9223372036854775808))=true then z-18446744073709551616 else z)=_
 simp only[Bool.true_and,decide_eq_true_eq];split<;>omega
def grp (n:Int):List Int:=if n<=127 then [n]else if n<=16383 then [n/128+128,n%128]else if n<=2097151 then [n/16384+128,n/128%128+128,n%128]else [n/2097152+128,n/16384%128+128,n/128%128+128,n%128]
def xx (o:List Int):List Int:=o.flatMap grp
theorem To {n:Int} (hn:0<=n/\n<268435456):dZ n=some (grp n):=by
 unfold dZ;have st:∀(x:Int) (out:List Int),0<=x/\x<268435456->out.length<=10->cg x out=cond (decide (x>127)) (some (.inl (x/128,(x/128%128+128)::out))) (some (.inr out)):=λx out hx ho=>by
  unfold cg;rw[fd x (by decide),show (2:Int)^7=128 from rfl,H9 (by omega),WN (by omega),w8,wO (by simp;omega),wC,show (x/128%128+128)%256=x/128%128+128 by omega];rfl
 have goes:∀(x:Int) (out:List Int),0<=x/\x<268435456->out.length<=9->x<=127->loop (λz:Int×List Int=>cg z.1 z.2) (x,out)=some out:=λx out hx ho h=>xh (by show cg x out=_;rw[st x out hx (by omega),dF (by omega)];rfl);have more:∀(x:Int) (out r:List Int),0<=x/\x<268435456->out.length<=9->127<x->loop (λz:Int×List Int=>cg z.1 z.2) (x/128,(x/128%128+128)::out)=some r->loop (λz:Int×List Int=>cg z.1 z.2) (x,out)=some r:=λx out r hx ho h k=>xb (by show cg x out=_;rw[st x out hx (by omega),dT (by omega)];rfl) k
 rw[H9 (by omega),w8,show n%128%256=n%128 by omega];unfold grp;by_cases h1:n<=127
 · rw[if_pos h1,goes n _ hn (by simp) h1,show n%128=n by omega];rfl
 rw[if_neg h1];by_cases h2:n<=16383
 · rw[if_pos h2,more n _ _ hn (by simp) (by omega) (goes (n/128) _ (by omega) (by simp) (by omega)),show n/128%128=n/128 by omega];rfl
 rw[if_neg h2];by_cases h3:n<=2097151
 · rw[if_pos h3,more n _ _ hn (by simp) (by omega) (more (n/128) _ _ (by omega) (by simp) (by omega) (goes (n/128/128) _ (by omega) (by simp) (by omega))),show n/128/128=n/16384 by omega,show n/16384%128=n/16384 by omega];rfl
 rw[if_neg h3,more n _ _ hn (by simp) (by omega) (more (n/128) _ _ (by omega) (by simp) (by omega) (more (n/128/128) _ _ (by omega) (by simp) (by omega) (goes (n/128/128/128) _ (by omega) (by simp) (by omega)))),show n/128/128=n/16384 by omega,show n/16384/128=n/2097152 by omega,show n/2097152%128=n/2097152 by omega];rfl
theorem LO (n:Int):(grp n).length<=4:=by unfold grp;split<;>(try split)<;>(try split)<;>simp
theorem PF (n:Int):1<=(grp n).length:=by unfold grp;split<;>(try split)<;>(try split)<;>simp
theorem Tp {n:Int} (h:n<=100000):(grp n).length<=3:=by unfold grp;split<;>(try split)<;>(try split)<;>simp<;>omega
theorem CW {o:List Int} (h:∀x∈o,x<=100000):(xx o).length<=3*o.length:=by
 induction o with
 | nil=>simp[xx]
 | cons x t ih =>
  have h1:=ih λy hy=>h y (mem_cons_of_mem _ hy);have h2:=Tp (h x (by simp))
  unfold xx at h1 ⊢;rw[List.flatMap_cons,length_append,length_cons];omega
theorem YD {n:Int} (hn:0<=n/\n<=100000) {out:List Int} (ho:out.length<=100):∃d,loop (λz=>bP n z) 0=some d/\∃e,loop (λz:Int×List Int=>cr n z.1 z.2) (d,out)=some e/\e.length<=104/\e++[IntKind.u8.wrap (zc .i64 n 127)]=out++grp n:=by
 have s0:bP n 0=cond (decide (n>127)) (some (.inl 1)) (some (.inr 0)):=by
  unfold bP;rw[show shr .i64 n (wE (7*0))=some (n.fdiv (2^0))from rfl,wC,fd n (by decide),show n/2^0=n by simp];rfl
 have s1:bP n 1=cond (decide (n/128>127)) (some (.inl 2)) (some (.inr 1)):=by
  unfold bP;rw[show shr .i64 n (wE (7*1))=some (n.fdiv (2^7))from rfl,wC,fd n (by decide),show (2:Int)^7=128 from rfl];rfl
 have s2:bP n 2=some (.inr 2):=by
  unfold bP;rw[show shr .i64 n (wE (7*2))=some (n.fdiv (2^14))from rfl,wC,fd n (by decide),show (2:Int)^14=16384 from rfl,dF (by omega)];rfl
 have t0:∀o:List Int,cr n 0 o=some (.inr o):=λo=>rfl;have t1:∀o:List Int,o.length<=110->cr n 1 o=some (.inl (0,o++[n/128%128+128])):=λo ho=>by
  unfold cr;rw[show shr .i64 n (wE (7*1))=some (n.fdiv (2^7))from rfl,wC,fd n (by decide),show (2:Int)^7=128 from rfl,H9 (by omega),xq (by omega) (by omega),w8,wO (by simp;omega),wC,show (n/128%128+128)%256=n/128%128+128 by omega];rfl
 have t2:∀o:List Int,o.length<=110->cr n 2 o=some (.inl (1,o++[n/16384%128+128])):=λo ho=>by
  unfold cr;rw[show shr .i64 n (wE (7*2))=some (n.fdiv (2^14))from rfl,wC,fd n (by decide),show (2:Int)^14=16384 from rfl,H9 (by omega),xq (by omega) (by omega),w8,wO (by simp;omega),wC,show (n/16384%128+128)%256=n/16384%128+128 by omega];rfl
 rw[H9 (by omega),w8,show n%128%256=n%128 by omega];unfold grp;by_cases h1:n<=127
 · rw[dF (by omega)]at s0;refine⟨0,xh s0,out,xh (t0 out),by omega,?_⟩;rw[if_pos h1,show n%128=n by omega]
 rw[dT (by omega)]at s0;by_cases h2:n<=16383
 · rw[dF (by omega)]at s1;refine⟨1,xb s0 (xh s1),_,xb (t1 out (by omega)) (xh (t0 _)),by simp;omega,?_⟩;rw[if_neg h1,if_pos h2,show n/128%128=n/128 by omega];simp
 rw[dT (by omega)]at s1;refine⟨2,xb s0 (xb s1 (xh s2)),_,xb (t2 out (by omega)) (xb (t1 _ (by simp;omega)) (xh (t0 _))),by simp;omega,?_⟩;rw[if_neg h1,if_neg h2,if_pos (by omega),show n/16384%128=n/16384 by omega];simp
theorem WO {o:List Int} (hn:o.length<=M):∃v,ak o=some v/\(v=true->1<=o.length/\o.length<=10/\∀x∈o,0<=x/\x<=100000)/\ct o=some (cond v (xx o) []):=by
 have hn':o.length<=1048576:=hn;obtain⟨v,hv,hv2⟩:∃v,ak o=some v/\(v=true->1<=o.length/\o.length<=10/\∀x∈o,0<=x/\x<=100000):=by
  unfold ak;obtain⟨b,h1,h2⟩:=xi (β:=Unit⊕Bool) (step:=λz=>aJ o z) (λk i=>i=(k:Int)/\∀x∈o.take k,0<=x/\x<=100000) o.length (λb=>(b=.inl ()/\∀x∈o,0<=x/\x<=100000)\/b=.inr false)
   (λk i hk ⟨e,hx⟩=>by
    subst e;have hs:aJ o (k:Int)=cond (!(wL o[k] 0 100000)) (some (.inr (.inr false))) (some (.inl ((k+1:Nat):Int))):=by
     unfold aJ;rw[xk (by omega),cT,wU hk,wC,zQ,wC,wQ (by omega)]
    cases hp:wL o[k] 0 100000 with
    | false=>exact .inr ⟨_,by rw[hs,hp];rfl,.inr rfl⟩
    | true =>
     refine .inl ⟨_,by rw[hs,hp];rfl,rfl,λx hx'=>?_⟩;rw[take_add_one,List.getElem?_eq_getElem hk,mem_append]at hx';rcases hx' with hx'|hx'
     · exact hx x hx'
     · simp at hx';subst hx';exact xI hp)
   (λi ⟨e,hx⟩=>by
    subst e;rw[take_length]at hx;refine⟨.inl (),?_,.inl ⟨rfl,hx⟩⟩;unfold aJ;rw[x7 (by omega),cF]) (x:=0) ⟨rfl,by simp⟩
  rw[h1,wC];rcases h2 with ⟨rfl,hx⟩|rfl
  · simp only[Sum.elim_inl,zQ,wC];refine⟨_,rfl,λh=>?_⟩;have:=xI h
    exact⟨by omega,by omega,hx⟩
  · exact⟨false,rfl,λh=>by cases h⟩
 refine⟨v,hv,hv2,?_⟩;unfold ct;rw[hv,wC];cases v with
 | false=>rfl
 | true =>
  obtain⟨h1,h10,hx⟩:=hv2 rfl;obtain⟨b,e1,rfl⟩:=xi (step:=λz:Int×List Int=>dy o z.1 z.2) (λk z=>z=((k:Int),xx (o.take k))) o.length (λb=>b=xx o)
   (λk z hk e=>by
    subst e;left;have hl:(xx (o.take k)).length<=30:=by
     have:=CW (o:=o.take k) λx hx'=>(hx x (List.mem_of_mem_take hx')).2;rw[length_take]at this;omega
    obtain⟨d,d1,e,e1,e2,e3⟩:=YD (hx _ (getElem_mem hk)) (out:=xx (o.take k)) (by omega);have ht:xx (o.take (k+1))=xx (o.take k)++grp o[k]:=by
     unfold xx;rw[take_add_one,List.getElem?_eq_getElem hk,flatMap_append];simp
    refine⟨_,?_,rfl⟩;show dy o (k:Int) (xx (o.take k))=_
    unfold dy;rw[xk (by omega),cT,wU hk,wC,d1,wC,e1,wC,wO (by simp;omega),wC,wQ (by omega),ht,←e3])
   (λz e=>by
    subst e;refine⟨xx o,?_,rfl⟩;show dy o (o.length:Int) (xx (o.take o.length))=_
    unfold dy;rw[x7 (by omega),cF,take_length]) (x:=(0,[])) rfl
  rw[e1];rfl

theorem LP {n:Int} (h:0<=n/\n<268435456):zE (grp n):=by
 unfold grp;intro x hx;split at hx
 · simp at hx;omega
 · split at hx
   · simp at hx;omega
   · split at hx
     · simp at hx;omega
     · simp at hx;omega
theorem XV {pre rest out:List Int} {n:Int} (hn:0<=n/\n<=100000) (hp:pre.length<=30) (ho:out.length<=100) {r:List Int⊕(Bool×List Int)}
 (k:loop (λz:Int×Int×List Int=>av (pre++(grp n++rest)) z.1 z.2.1 z.2.2) (0,((pre.length+(grp n).length:Nat):Int),out++[n])=some r) :
 loop (λz:Int×Int×List Int=>av (pre++(grp n++rest)) z.1 z.2.1 z.2.2) (0,(pre.length:Int),out)=some r:=by
 have hg:=LP (n:=n) (by omega);have st:∀(m:Int) (j:Nat) (o:List Int) (hj:j<(grp n).length),0<=m/\m<=1048576->o.length<=100->av (pre++(grp n++rest)) m ((pre.length+j:Nat):Int) o=cond (decide ((grp n)[j]<128)) (some (.inl (0,((pre.length+(j+1):Nat):Int),o++[m*128+(grp n)[j]%128]))) (some (.inl (m*128+(grp n)[j]%128,((pre.length+(j+1):Nat):Int),o))):=λm j o hj hm ho=>by
  have h4:=LO n;have hx:=hg _ (getElem_mem hj)
  have hat:at? (pre++(grp n++rest)) ((pre.length+j:Nat):Int)=some (grp n)[j]:=by
   rw[H8,wU (by rw[length_append];omega),List.getElem_append_left hj]
  unfold av;rw[xk (show ((pre.length+j:Nat):Int)<((pre++(grp n++rest)).length:Int) by rw[length_append,length_append];omega),cT,hat,wC,dF (show ¬((pre.length+j:Nat):Int)>=40 by omega),cF,HP hx,wQ (by omega)];have hmin:min2 m 1048576=m:=by unfold min2;split<;>omega
  rw[hmin,QS (by omega) (by omega)];simp only;rw[wO (by simp;omega),wC];rfl
 have h4:=LO n;have hz:(0:Int)*128=0:=rfl
 unfold grp at k st ⊢;by_cases h1:n<=127
 · rw[if_pos h1]at k st ⊢;have s0:=st 0 0 out (by simp) (by omega) ho
   simp only[List.getElem_cons_zero,Nat.add_zero]at s0;rw[dT (by omega),cT,show (0:Int)*128+n%128=n by omega]at s0;exact xb s0 k
 rw[if_neg h1]at k st ⊢;by_cases h2:n<=16383
 · rw[if_pos h2]at k st ⊢;have s0:=st 0 0 out (by simp) (by omega) ho
   have s1:=st (n/128) 1 out (by simp) (by omega) ho;simp only[List.getElem_cons_zero,List.getElem_cons_succ,Nat.add_zero,Nat.zero_add,Nat.reduceAdd]at s0 s1;rw[dF (by omega),cF,show (0:Int)*128+(n/128+128)%128=n/128 by omega]at s0;rw[dT (by omega),cT,show n/128*128+n%128%128=n by omega]at s1;exact xb s0 (xb s1 k)
 rw[if_neg h2]at k st ⊢;rw[if_pos (show n<=2097151 by omega)]at k st ⊢;have s0:=st 0 0 out (by simp) (by omega) ho
 have s1:=st (n/16384) 1 out (by simp) (by omega) ho;have s2:=st (n/128) 2 out (by simp) (by omega) ho
 simp only[List.getElem_cons_zero,List.getElem_cons_succ,Nat.add_zero,Nat.zero_add,Nat.reduceAdd]at s0 s1 s2;rw[dF (by omega),cF,show (0:Int)*128+(n/16384+128)%128=n/16384 by omega]at s0;rw[dF (by omega),cF,show n/16384*128+(n/128%128+128)%128=n/128 by omega]at s1;rw[dT (by omega),cT,show n/128*128+n%128%128=n by omega]at s2;exact xb s0 (xb s1 (xb s2 k))
theorem On {b:List Int}:∀(o pre out:List Int),b=pre++xx o->(∀x∈o,0<=x/\x<=100000)->b.length<=30->out.length+o.length<=20->loop (λz:Int×Int×List Int=>av b z.1 z.2.1 z.2.2) (0,(pre.length:Int),out)=some (.inl (out++o))
 | [],pre,out,e,_,hb,_=>by
  have:b.length=pre.length:=by rw[e];simp[xx]
  refine xh ?_;show av b 0 (pre.length:Int) out=_
  unfold av;rw[x7 (by omega),cF,List.append_nil]
 | n::o,pre,out,e,hx,hb,hl=>by
  have e1:b=pre++(grp n++xx o):=by rw[e];rfl
  have e2:b=(pre++grp n)++xx o:=by rw[e1,append_assoc]
  have ih:=On o (pre++grp n) (out++[n]) e2 (λx h=>hx x (mem_cons_of_mem _ h)) hb (by simp at hl ⊢;omega);rw[length_append,append_assoc]at ih;have hpl:pre.length<=30:=by rw[e1,length_append]at hb;omega
  rw[length_cons]at hl;rw[e1]at ih ⊢;exact XV (hx n (by simp)) hpl (by omega) ih
theorem XW {b pre s:List Int} (e:b=pre++s) (hb:zE b) (hn:b.length<=M):∃d:Int×Int×Int×Bool,loop (λz:Int×Int×Int×Bool=>aI b z.1 z.2.1 z.2.2.1 z.2.2.2) ((pre.length:Int),0,0,true)=some d /\
 (d.2.2.2=true\/∃l rest:List Int,s=l++rest/\1<=l.length/\d=(((pre.length+l.length:Nat):Int),d.2.1,(l.length:Int),false)/\0<=d.2.1/\d.2.1<268435456/\((grp d.2.1).length=l.length->l=grp d.2.1))/\0<=d.2.1/\d.2.1<268435456/\0<=d.1/\d.1<=(b.length:Int):=by
 have hn':b.length<=1048576:=hn;have hlen:b.length=pre.length+s.length:=by rw[e,length_append]
 have st:∀(m:Int) (j:Nat) (hj:j<s.length),j<4->0<=m/\m<=2097152->aI b ((pre.length+j:Nat):Int) m (j:Int) true=some (.inl (((pre.length+(j+1):Nat):Int),m*128+s[j]%128,((j+1:Nat):Int),decide (s[j]>127))):=λm j hj h4 hm=>by
  have hx:0<=s[j]/\s[j]<=255:=hb _ (by rw[e];exact List.mem_append_right _ (getElem_mem hj));have hat:at? b ((pre.length+j:Nat):Int)=some s[j]:=by rw[e,H8,wU hj]
  unfold aI;rw[xk (show ((pre.length+j:Nat):Int)<(b.length:Int) by omega),cT,wC,cT,xk (show (j:Int)<4 by omega),wC,cT,hat,wC,wC,HP hx,QS (by omega) (by omega),wQ (by omega),wQ (by omega)];rfl
 have stop:∀(m:Int) (j:Nat),aI b ((pre.length+j:Nat):Int) m (j:Int) false=some (.inr (((pre.length+j:Nat):Int),m,(j:Int),false)):=λm j=>by
  unfold aI;rfl
 have endd:∀(m:Int) (j:Nat),(s.length<=j\/4<=j)->aI b ((pre.length+j:Nat):Int) m (j:Int) true=some (.inr (((pre.length+j:Nat):Int),m,(j:Int),true)):=λm j h=>by
  unfold aI;rw[cT,wC];by_cases h1:((pre.length+j:Nat):Int)<(b.length:Int)
  · rw[xk h1,cT,x7 (show ¬(j:Int)<4 by omega)];rfl
  · rw[x7 h1,cF];rfl
 have hsx:∀j (hj:j<s.length),0<=s[j]/\s[j]<=255:=λj hj=>hb _ (by rw[e];exact List.mem_append_right _ (getElem_mem hj));by_cases l0:s.length<=0
 · exact⟨_,xh (endd 0 0 (.inl l0)),.inl rfl,by show (0:Int)<=0/\(0:Int)<_/\_;omega⟩
 have a0:=st 0 0 (by omega) (by omega) (by omega);have x0:=hsx 0 (by omega)
 generalize g0:s[0]=y0 at a0 x0;by_cases m0:y0>127
 · rw[dT m0]at a0;by_cases l1:s.length<=1
   · exact⟨_,xb a0 (xh (endd _ 1 (.inl l1))),.inl rfl,by show 0<=(0:Int)*128+y0%128/\(0:Int)*128+y0%128<_/\(0:Int)<=((pre.length+1:Nat):Int)/\((pre.length+1:Nat):Int)<=_;omega⟩
   have a1:=st (0*128+y0%128) 1 (by omega) (by omega) (by omega);have x1:=hsx 1 (by omega)
   generalize g1:s[1]=y1 at a1 x1;by_cases m1:y1>127
   · rw[dT m1]at a1;by_cases l2:s.length<=2
     · exact⟨_,xb a0 (xb a1 (xh (endd _ 2 (.inl l2)))),.inl rfl,by show 0<=((0:Int)*128+y0%128)*128+y1%128/\((0:Int)*128+y0%128)*128+y1%128<_/\(0:Int)<=((pre.length+2:Nat):Int)/\((pre.length+2:Nat):Int)<=_;omega⟩
     have a2:=st ((0*128+y0%128)*128+y1%128) 2 (by omega) (by omega) (by omega);have x2:=hsx 2 (by omega)
     generalize g2:s[2]=y2 at a2 x2;by_cases m2:y2>127
     · rw[dT m2]at a2;by_cases l3:s.length<=3
       · exact⟨_,xb a0 (xb a1 (xb a2 (xh (endd _ 3 (.inl l3))))),.inl rfl,by show 0<=(((0:Int)*128+y0%128)*128+y1%128)*128+y2%128/\(((0:Int)*128+y0%128)*128+y1%128)*128+y2%128<_/\(0:Int)<=((pre.length+3:Nat):Int)/\((pre.length+3:Nat):Int)<=_;omega⟩
       have a3:=st (((0*128+y0%128)*128+y1%128)*128+y2%128) 3 (by omega) (by omega) (by omega);have x3:=hsx 3 (by omega)
       generalize g3:s[3]=y3 at a3 x3;by_cases m3:y3>127
       · rw[dT m3]at a3;exact⟨_,xb a0 (xb a1 (xb a2 (xb a3 (xh (endd _ 4 (.inr (by omega))))))),.inl rfl,by show 0<=((((0:Int)*128+y0%128)*128+y1%128)*128+y2%128)*128+y3%128/\((((0:Int)*128+y0%128)*128+y1%128)*128+y2%128)*128+y3%128<_/\(0:Int)<=((pre.length+4:Nat):Int)/\((pre.length+4:Nat):Int)<=_;omega⟩
       · rw[dF m3]at a3;have d0:s.drop 0=s[0]::s.drop 1:=drop_eq_getElem_cons (by omega)
         have d1:s.drop 1=s[1]::s.drop 2:=drop_eq_getElem_cons (by omega);have d2:s.drop 2=s[2]::s.drop 3:=drop_eq_getElem_cons (by omega)
         have d3:s.drop 3=s[3]::s.drop 4:=drop_eq_getElem_cons (by omega);have hs:s=y0::y1::y2::y3::s.drop 4:=by
          rw[drop_zero]at d0;exact d0.trans (by rw[g0,d1,g1,d2,g2,d3,g3])
         refine⟨_,xb a0 (xb a1 (xb a2 (xb a3 (xh (stop _ 4))))),.inr ⟨[y0,y1,y2,y3],s.drop 4,hs,by simp,rfl,?_,?_,?_⟩,?_⟩
         · show 0<=((((0:Int)*128+y0%128)*128+y1%128)*128+y2%128)*128+y3%128;omega
         · show ((((0:Int)*128+y0%128)*128+y1%128)*128+y2%128)*128+y3%128<_;omega
         · show (grp (((((0:Int)*128+y0%128)*128+y1%128)*128+y2%128)*128+y3%128)).length=_->_=grp (((((0:Int)*128+y0%128)*128+y1%128)*128+y2%128)*128+y3%128);intro h;generalize hv:((((0:Int)*128+y0%128)*128+y1%128)*128+y2%128)*128+y3%128=v at h ⊢;unfold grp at h ⊢;split at h
           · simp at h
           · split at h
             · simp at h
             · split at h
               · simp at h
               · next q1 q2 q3=>rw[if_neg q1,if_neg q2,if_neg q3,show v/2097152+128=y0 by omega,show v/16384%128+128=y1 by omega,show v/128%128+128=y2 by omega,show v%128=y3 by omega]
         · show 0<=((((0:Int)*128+y0%128)*128+y1%128)*128+y2%128)*128+y3%128/\((((0:Int)*128+y0%128)*128+y1%128)*128+y2%128)*128+y3%128<_/\(0:Int)<=((pre.length+4:Nat):Int)/\((pre.length+4:Nat):Int)<=_;omega
     · rw[dF m2]at a2;have d0:s.drop 0=s[0]::s.drop 1:=drop_eq_getElem_cons (by omega)
       have d1:s.drop 1=s[1]::s.drop 2:=drop_eq_getElem_cons (by omega);have d2:s.drop 2=s[2]::s.drop 3:=drop_eq_getElem_cons (by omega)
       have hs:s=y0::y1::y2::s.drop 3:=by
        rw[drop_zero]at d0;exact d0.trans (by rw[g0,d1,g1,d2,g2])
       refine⟨_,xb a0 (xb a1 (xb a2 (xh (stop _ 3)))),.inr ⟨[y0,y1,y2],s.drop 3,hs,by simp,rfl,?_,?_,?_⟩,?_⟩
       · show 0<=(((0:Int)*128+y0%128)*128+y1%128)*128+y2%128;omega
       · show (((0:Int)*128+y0%128)*128+y1%128)*128+y2%128<_;omega
       · show (grp ((((0:Int)*128+y0%128)*128+y1%128)*128+y2%128)).length=_->_=grp ((((0:Int)*128+y0%128)*128+y1%128)*128+y2%128);intro h;generalize hv:(((0:Int)*128+y0%128)*128+y1%128)*128+y2%128=v at h ⊢;unfold grp at h ⊢;split at h
         · simp at h
         · split at h
           · simp at h
           · split at h
             · next q1 q2 q3=>rw[if_neg q1,if_neg q2,if_pos q3,show v/16384+128=y0 by omega,show v/128%128+128=y1 by omega,show v%128=y2 by omega]
             · simp at h
       · show 0<=(((0:Int)*128+y0%128)*128+y1%128)*128+y2%128/\(((0:Int)*128+y0%128)*128+y1%128)*128+y2%128<_/\(0:Int)<=((pre.length+3:Nat):Int)/\((pre.length+3:Nat):Int)<=_;omega
   · rw[dF m1]at a1;have d0:s.drop 0=s[0]::s.drop 1:=drop_eq_getElem_cons (by omega)
     have d1:s.drop 1=s[1]::s.drop 2:=drop_eq_getElem_cons (by omega);have hs:s=y0::y1::s.drop 2:=by
      rw[drop_zero]at d0;exact d0.trans (by rw[g0,d1,g1])
     refine⟨_,xb a0 (xb a1 (xh (stop _ 2))),.inr ⟨[y0,y1],s.drop 2,hs,by simp,rfl,?_,?_,?_⟩,?_⟩
     · show 0<=((0:Int)*128+y0%128)*128+y1%128;omega
     · show ((0:Int)*128+y0%128)*128+y1%128<_;omega
     · show (grp (((0:Int)*128+y0%128)*128+y1%128)).length=_->_=grp (((0:Int)*128+y0%128)*128+y1%128);intro h;generalize hv:((0:Int)*128+y0%128)*128+y1%128=v at h ⊢;unfold grp at h ⊢;split at h
       · simp at h
       · split at h
         · next q1 q2=>rw[if_neg q1,if_pos q2,show v/128+128=y0 by omega,show v%128=y1 by omega]
         · split at h<;>simp at h
     · show 0<=((0:Int)*128+y0%128)*128+y1%128/\((0:Int)*128+y0%128)*128+y1%128<_/\(0:Int)<=((pre.length+2:Nat):Int)/\((pre.length+2:Nat):Int)<=_;omega
 · rw[dF m0]at a0;have d0:s.drop 0=s[0]::s.drop 1:=drop_eq_getElem_cons (by omega)
   have hs:s=y0::s.drop 1:=by
    rw[drop_zero]at d0;exact d0.trans (by rw[g0])
   refine⟨_,xb a0 (xh (stop _ 1)),.inr ⟨[y0],s.drop 1,hs,by simp,rfl,?_,?_,?_⟩,?_⟩
   · show 0<=(0:Int)*128+y0%128;omega
   · show (0:Int)*128+y0%128<_;omega
   · show (grp ((0:Int)*128+y0%128)).length=_->_=grp ((0:Int)*128+y0%128);intro h;generalize hv:(0:Int)*128+y0%128=v at h ⊢;unfold grp at h ⊢;split at h
     · next q1=>rw[if_pos q1,show v=y0 by omega]
     · split at h
       · simp at h
       · split at h<;>simp at h
   · show 0<=(0:Int)*128+y0%128/\(0:Int)*128+y0%128<_/\(0:Int)<=((pre.length+1:Nat):Int)/\((pre.length+1:Nat):Int)<=_;omega

end Go.V.W
