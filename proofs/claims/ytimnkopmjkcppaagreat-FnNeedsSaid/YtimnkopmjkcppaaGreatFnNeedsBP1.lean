/- The law FnNeeds: part of the proof that for every input it returns true. No condition. -/
import Derived.KernelRfl
import Derived.Test.YtimnkopmjkcppaaGreatFnNeeds
import Derived.Test.YtimnkopmjkcppaaGreatV4
open List (any_eq_false any_eq_true append_assoc cons_lt_cons_iff drop_eq_getElem_cons drop_zero getElem_mem getElem_of_mem length_append length_cons length_drop length_map length_nil length_set length_take map_append mem_append mem_cons mem_cons_of_mem mem_flatMap mem_map mem_of_mem_take mem_range nil_append not_mem_nil pairwise_append pairwise_cons pairwise_iff_getElem range_succ take_add_one take_append_drop take_length take_succ_cons)
set_option linter.unusedVariables false
set_option linter.unusedSimpArgs false
namespace Go.V.W
theorem obs {α β:Type} (a:α) (f:α → Option β):(some a).bind f = f a:=rfl
abbrev M:Nat:=1048576
abbrev In (left:Int):Prop:=0 ≤ left ∧ left ≤ 1048576
theorem In.next {left r:Int} (h:In left) (h1:0 ≤ r) (h2:r ≤ left):In r:=⟨h1,by have:=h.2; omega⟩
theorem le32 {n:Nat} (h:n ≤ M):n ≤ 4294967295:=Nat.le_trans h (by decide)
def BLe (n:Nat) (b:Bridge):Prop:=b.2.1.length ≤ n ∧ b.2.2.1.length ≤ n ∧ b.2.2.2.1.length ≤ n ∧ b.2.2.2.2.1.length ≤ n ∧ b.2.2.2.2.2.1.length ≤ n
def VLe (n:Nat) (v:Val):Prop:=v.2.2.1.length ≤ n ∧ v.2.2.2.length ≤ n
def XLe (n:Nat) (x:Bind):Prop:=x.1.length ≤ n ∧ VLe n x.2
def XsLe (n:Nat) (l:List Bind):Prop:=l.length ≤ n ∧ ∀ x ∈ l,XLe n x
def PLe (n:Nat) (p:Pdu):Prop:=XsLe n p.2.2.2.2
def jP (j:Job):Pdu:=(j.2.2.2.1,j.2.2.2.2.1,j.2.2.2.2.2.1,j.2.2.2.2.2.2.1,j.2.2.2.2.2.2.2.1)
def jB (a0:Job):Bridge:=(a0.2.2.2.2.2.2.2.2.1,a0.2.2.2.2.2.2.2.2.2.1,a0.2.2.2.2.2.2.2.2.2.2.1,a0.2.2.2.2.2.2.2.2.2.2.2.1,a0.2.2.2.2.2.2.2.2.2.2.2.2.1,a0.2.2.2.2.2.2.2.2.2.2.2.2.2.1,a0.2.2.2.2.2.2.2.2.2.2.2.2.2.2.1,a0.2.2.2.2.2.2.2.2.2.2.2.2.2.2.2.1,a0.2.2.2.2.2.2.2.2.2.2.2.2.2.2.2.2.1,a0.2.2.2.2.2.2.2.2.2.2.2.2.2.2.2.2.2.1,a0.2.2.2.2.2.2.2.2.2.2.2.2.2.2.2.2.2.2.1)
def JLe (n:Nat) (j:Job):Prop:=j.2.1.length ≤ n ∧ PLe n (jP j) ∧ BLe n (jB j)
def JsLe (n:Nat) (l:List Job):Prop:=l.length ≤ n ∧ ∀ x ∈ l,JLe n x
def aB (a0:Agent):Bridge:=(a0.1,a0.2.1,a0.2.2.1,a0.2.2.2.1,a0.2.2.2.2.1,a0.2.2.2.2.2.1,a0.2.2.2.2.2.2.1,a0.2.2.2.2.2.2.2.1,a0.2.2.2.2.2.2.2.2.1,a0.2.2.2.2.2.2.2.2.2.1,a0.2.2.2.2.2.2.2.2.2.2.1)
def ALe (n:Nat) (a:Agent):Prop:=BLe n (aB a) ∧ a.2.2.2.2.2.2.2.2.2.2.2.1.length ≤ n ∧ JsLe n a.2.2.2.2.2.2.2.2.2.2.2.2.1
theorem loop_congr {α β:Type} {f g:α → Option (α ⊕ β)} (Inv:α → Prop) (h:∀ x,Inv x → f x = g x) (hi:∀ x y,Inv x → f x = some (.inl y) → Inv y) {x:α} (h0:Inv x):loop f x = loop g x:=by
 have key:∀ k x,Inv x → iter f k x = iter g k x:=by
  intro k
  induction k with
  | zero=>intro x _; rfl
  | succ k ih =>
   intro x hx
   rw [iter_succ,iter_succ,← h x hx]
   cases hf:f x with
   | none=>rfl
   | some v=>cases v with
    | inl y=>exact ih y (hi x y hx hf)
    | inr b=>rfl
 have hex:(∃ k,(iter f k x).isSome) ↔ ∃ k,(iter g k x).isSome:=by
  constructor <;> rintro ⟨k,hk⟩ <;> exact ⟨k,by first | rwa [← key k x h0] | rwa [key k x h0]⟩
 by_cases hc:∃ k,(iter f k x).isSome
 · obtain ⟨k,hk⟩:=hc
   cases hv:iter f k x with
   | none=>rw [hv] at hk; cases hk
   | some b=>rw [loop_of hv,loop_of ((key k x h0) ▸ hv)]
 · have hc':¬ ∃ k,(iter g k x).isSome:=fun h=>hc (hex.2 h)
   unfold loop
   rw [dif_neg hc,dif_neg hc']
theorem loop_ext {α β:Type} {f g:α → Option (α ⊕ β)} (h:∀ x,f x = g x) (x:α):loop f x = loop g x:=by rw [funext h]
def pIn (x a b:Int):Bool:=decide (x ≥ a) && decide (x ≤ b)
theorem inT (x a b:Int):ac x a b = some (pIn x a b):=by
 unfold ac pIn
 cases decide (x ≥ a) <;> rfl
theorem inS (x a b:Int):ae x a b = some (pIn x a b):=inT x a b
def pVec (v:Vec):Bool:=pIn v.1 1 99 && (pIn v.2.1 0 100000 && (pIn v.2.2.1 0 10 && (pIn v.2.2.2.1 1 99 && pIn v.2.2.2.2 0 7)))
theorem vecT (v:Vec):cu v = some (pVec v):=by
 unfold cu pVec
 simp only [inT,obs]
 cases pIn v.1 1 99 <;> cases pIn v.2.1 0 100000 <;> cases pIn v.2.2.1 0 10 <;> cases pIn v.2.2.2.1 1 99 <;> rfl
theorem vecS:eS = cu:=rfl
def pPt (p:Pt):Bool:=pIn p.2.1 1 1000 && (!(p.2.2.1 && !p.1) && (cond p.2.2.1 (pVec p.2.2.2) (p.2.2.2.1 == 0 && (p.2.2.2.2.1 == 0 && (p.2.2.2.2.2.1 == 0 && (p.2.2.2.2.2.2.1 == 0 && (p.2.2.2.2.2.2.2 == 0)))))))
theorem ptT (p:Pt):eo p = some (pPt p):=by
 obtain ⟨up,cost,heard,v⟩:=p
 unfold eo pPt
 simp only [inT,vecT,obs]
 cases pIn cost 1 1000 <;> cases up <;> cases heard <;> rfl
theorem ptS (p:Pt):eT p = some (pPt p):=by
 obtain ⟨up,cost,heard,v⟩:=p
 unfold eT pPt
 simp only [inS,vecS,vecT,obs]
 cases pIn cost 1 1000 <;> cases up <;> cases heard <;> rfl
theorem all_loop {n:Nat} {c:Int → Option Bool} {b:Nat → Bool} (hn:n < 9223372036854775807) (hc:∀ k,k < n → c (k:Int) = some (b k)) :
 loop (fun i:Int=>cond (decide (i < (n:Int))) ((c i).bind fun t=>cond t (some (.inr (.inr false))) (some (.inl (w64 (i + 1))))) (some (.inr (.inl ())))) 0 = some (cond ((List.range n).any b) (Sum.inr false) (Sum.inl ()):Unit ⊕ Bool):=by
 obtain ⟨v,h1,h2⟩:=loop_inv (β:=Unit ⊕ Bool) (step:=fun i:Int=>cond (decide (i < (n:Int))) ((c i).bind fun t=>cond t (some (.inr (.inr false))) (some (.inl (w64 (i + 1))))) (some (.inr (.inl ()))))
  (fun k i=>i = (k:Int) ∧ (List.range k).any b = false) n (fun v=>v = cond ((List.range n).any b) (Sum.inr false) (Sum.inl ()))
  (fun k i hk ⟨e,ha⟩=>by
   subst e
   have hs:(cond (decide ((k:Int) < (n:Int))) ((c (k:Int)).bind fun t=>cond t (some (.inr (.inr false))) (some (.inl (w64 ((k:Int) + 1))))) (some (.inr (.inl ()))):Option (Int ⊕ (Unit ⊕ Bool))) = cond (b k) (some (.inr (.inr false))) (some (.inl ((k + 1:Nat):Int))):=by
    rw [dlt (by omega),cT,hc k hk,obs,w64_nat (by omega)]
   cases hb:b k with
   | true =>
    refine .inr ⟨.inr false,by rw [hs,hb]; rfl,?_⟩
    have:(List.range n).any b = true:=any_eq_true.2 ⟨k,mem_range.2 hk,hb⟩
    rw [this]; rfl
   | false =>
    refine .inl ⟨_,by rw [hs,hb]; rfl,rfl,?_⟩
    rw [range_succ,List.any_append,ha]; simp [hb])
  (fun i ⟨e,ha⟩=>by
   subst e
   exact ⟨.inl (),by rw [dnlt (by omega),cF],by rw [ha]; rfl⟩) (x:=0) ⟨rfl,rfl⟩
 rw [h1,h2]
def pFent (e:Fent):Bool:=pIn e.1 1 99 && (pIn e.2.1 1 9999 && (pIn e.2.2.1 0 7 && (pIn e.2.2.2.1 0 4 && (!e.2.2.2.2 || e.2.2.2.1 == 0))))
theorem fentT (e:Fent):dg e = some (pFent e):=by
 unfold dg pFent
 simp only [inT,obs]
 cases pIn e.1 1 99 <;> cases pIn e.2.1 1 9999 <;> cases pIn e.2.2.1 0 7 <;> cases pIn e.2.2.2.1 0 4 <;> cases e.2.2.2.2 <;> rfl
theorem fentS:cN = dg:=rfl
def pBehind (e:Fent) (tag mac:Int):Bool:=decide (e.1 > tag) || (e.1 == tag && decide (e.2.1 > mac))
theorem behindT (e:Fent) (tag mac:Int):ep e tag mac = some (pBehind e tag mac):=by
 unfold ep pBehind
 cases decide (e.1 > tag) <;> cases (e.1 == tag) <;> rfl
theorem aheadS (p e:Fent):bZ p e.1 e.2.1 = some (pBehind e p.1 p.2.1):=by
 unfold bZ pBehind
 by_cases h:p.1 = e.1
 · simp [h]
 · have h':¬ e.1 = p.1:=fun k=>h k.symm
   have e1:(p.1 != e.1) = true:=by simpa using h
   have e2:(e.1 == p.1) = false:=by simpa using h'
   rw [e1,e2,cT,Bool.false_and,Bool.or_false]
def bFent (l:List Fent) (k:Nat):Bool:=match l[k]? with
 | some e=>!(pFent e) || (decide (0 < k) && (match l[k - 1]? with | some p=>!(pBehind e p.1 p.2.1) | none=>false))
 | none=>false
def pFdb (l:List Fent):Bool:=!((List.range l.length).any (bFent l)) && decide ((l.length:Int) ≤ 12)
theorem prev_at {α:Type} {l:List α} {k:Nat} (h:k < l.length) (hk:0 < k) (hn:l.length < 9223372036854775807):at? l (w64 ((k:Int) - 1)) = some l[k - 1]:=by
 rw [w64_id (by omega) (by omega),show (k:Int) - 1 = ((k - 1:Nat):Int) by omega,at_nat (by omega)]
theorem fdbT {l:List Fent} (hn:l.length < 9223372036854775807):fF l = some (pFdb l):=by
 unfold fF pFdb
 have h:=all_loop (n:=l.length) (c:=fun i=>(at? l i).bind fun x10=>(dg x10).bind fun t13=>(cond (!t13) (some true) ((cond (decide (i > 0)) ((at? l (w64 (i - 1))).bind fun x23=>(at? l (w64 (i - 1))).bind fun x29=>(ep x10 x23.1 x29.2.1).bind fun t32=>some (!t32)) (some false)).bind fun t34=>some t34)).bind fun t=>some t) (b:=bFent l) hn (fun k hk=>by
  simp only [at_nat hk,obs,fentT,bFent,List.getElem?_eq_getElem hk]
  cases pFent l[k] with
  | false=>rfl
  | true =>
   by_cases h0:0 < k
   · have hd:decide ((k:Int) > 0) = true:=dT (by omega)
     simp only [hd,prev_at hk h0 hn,obs,behindT,dT h0,List.getElem?_eq_getElem (show k - 1 < l.length by omega)]
     rfl
   · have hd:decide ((k:Int) > 0) = false:=dF (by omega)
     simp only [hd,dF h0]
     rfl)
 have e:(loop (fun z=>gL l z) 0) = some (cond ((List.range l.length).any (bFent l)) (Sum.inr false) (Sum.inl ())):=by
  rw [← h]
  refine loop_ext (fun i=>?_) 0
  unfold gL
  simp only [Option.bind_assoc,obs]
 rw [e,obs]
 cases (List.range l.length).any (bFent l) <;> rfl
theorem fdbS {l:List Fent} (hn:l.length < 9223372036854775807):cO l = some (pFdb l):=by
 unfold cO pFdb
 have h:=all_loop (n:=l.length) (c:=fun i=>(at? l i).bind fun x12=>(cN x12).bind fun t14=>(cond (!t14) (some true) ((cond (decide (i > 0)) ((at? l (w64 (i - 1))).bind fun x23=>(at? l i).bind fun x27=>(at? l i).bind fun x32=>(bZ x23 x27.1 x32.2.1).bind fun t35=>some (!t35)) (some false)).bind fun t37=>some t37)).bind fun t=>some t) (b:=bFent l) hn (fun k hk=>by
  simp only [at_nat hk,obs,fentS,fentT,bFent,List.getElem?_eq_getElem hk]
  cases pFent l[k] with
  | false=>rfl
  | true =>
   by_cases h0:0 < k
   · have hd:decide ((k:Int) > 0) = true:=dT (by omega)
     simp only [hd,prev_at hk h0 hn,obs,aheadS,dT h0,List.getElem?_eq_getElem (show k - 1 < l.length by omega)]
     rfl
   · have hd:decide ((k:Int) > 0) = false:=dF (by omega)
     simp only [hd,dF h0]
     rfl)
 have e:(loop (fun z=>gT l z) 0) = some (cond ((List.range l.length).any (bFent l)) (Sum.inr false) (Sum.inl ())):=by
  rw [← h]
  refine loop_ext (fun i=>?_) 0
  unfold gT
  simp only [Option.bind_assoc,obs]
 rw [e,obs]
 cases (List.range l.length).any (bFent l) <;> rfl

theorem rowAtS:bo = ao:=rfl
theorem rowAtT {v:Vtab} (hn:v.1.length < 9223372036854775807) (id:Int):∃ r,ao v id = some r:=by
 unfold ao
 obtain ⟨b,h1,_⟩:=loop_inv (β:=Unit ⊕ Int) (step:=fun z=>aD v id z) (fun k i=>i = (k:Int)) v.1.length (fun _=>True)
  (fun k i hk h=>by
   subst h
   unfold aD
   rw [dlt (by omega),cT,at_nat hk,obs]
   cases (v.1[k].1 == id) with
   | true=>exact .inr ⟨_,rfl,trivial⟩
   | false=>exact .inl ⟨_,rfl,w64_nat (by omega)⟩)
  (fun i h=>by
   subst h
   unfold aD
   rw [dnlt (by omega)]
   exact ⟨_,rfl,trivial⟩) (x:=0) rfl
 rw [h1,obs]
 cases b with
 | inl _=>exact ⟨_,rfl⟩
 | inr r=>exact ⟨r,rfl⟩
def pTop (i:Int):Int:=(2:Int) ^ i.toNat - 1
theorem range6 {i:Int} (h:pIn i 1 6 = true):i = 1 ∨ i = 2 ∨ i = 3 ∨ i = 4 ∨ i = 5 ∨ i = 6:=by
 unfold pIn at h
 simp only [aT,decide_eq_true_eq] at h
 omega
theorem allPortsT {i:Int} (h:pIn i 1 6 = true):es i = some (pTop i):=by
 rcases range6 h with rfl | rfl | rfl | rfl | rfl | rfl <;> rfl
theorem shlS {i:Int} (h:pIn i 1 6 = true):∃ t,shl .i64 1 (IntKind.u64.wrap i) = some t ∧ w64 (t - 1) = pTop i:=by
 rcases range6 h with rfl | rfl | rfl | rfl | rfl | rfl <;> exact ⟨_,rfl,rfl⟩
theorem topLe {i:Int} (h:pIn i 1 6 = true):1 ≤ pTop i ∧ pTop i ≤ 63:=by
 rcases range6 h with rfl | rfl | rfl | rfl | rfl | rfl <;> decide
theorem wrap_toNat (x:BitVec 64):IntKind.i64.wrap (x.toNat:Int) = x.toInt:=by
 have hx:=x.isLt
 rw [BitVec.toInt_eq_toNat_cond]
 show (let m:=(x.toNat:Int) % 18446744073709551616; if (true && decide (m ≥ 9223372036854775808)) = true then m - 18446744073709551616 else m) = _
 simp only [Bool.true_and,decide_eq_true_eq]
 have h1:(x.toNat:Int) % 18446744073709551616 = (x.toNat:Int):=by omega
 rw [h1]
 split <;> split <;> omega
theorem ofInt_toInt {b:Int} (h1:-9223372036854775808 ≤ b) (h2:b ≤ 9223372036854775807):(BitVec.ofInt 64 b).toInt = b:=by
 rw [BitVec.toInt_ofInt]
 unfold Int.bmod
 simp only
 split <;> omega
theorem bandT (a b:Int):band .i64 a b = (BitVec.ofInt 64 a &&& BitVec.ofInt 64 b).toInt:=wrap_toNat _
theorem bclrT (a b:Int):bclr .i64 a b = (BitVec.ofInt 64 a &&& ~~~ BitVec.ofInt 64 b).toInt:=wrap_toNat _
theorem and_iff (x y:BitVec 64):x &&& y = x ↔ x &&& ~~~ y = 0:=by
 constructor
 · intro h
   apply BitVec.eq_of_getLsbD_eq
   intro i hi
   have:=congrArg (fun z=>z.getLsbD i) h
   simp only [BitVec.getLsbD_and] at this
   simp only [BitVec.getLsbD_and,BitVec.getLsbD_not,BitVec.getLsbD_zero,hi,decide_true,Bool.true_and]
   cases hx:x.getLsbD i <;> cases hy:y.getLsbD i <;> simp_all
 · intro h
   apply BitVec.eq_of_getLsbD_eq
   intro i hi
   have:=congrArg (fun z=>z.getLsbD i) h
   simp only [BitVec.getLsbD_and,BitVec.getLsbD_not,BitVec.getLsbD_zero,hi,decide_true,Bool.true_and] at this
   simp only [BitVec.getLsbD_and]
   cases hx:x.getLsbD i <;> cases hy:y.getLsbD i <;> simp_all
theorem bits_same {b m:Int} (h1:-9223372036854775808 ≤ b) (h2:b ≤ 9223372036854775807):(band .i64 b m != b) = (bclr .i64 b m != 0):=by
 rw [bandT,bclrT]
 have e:((BitVec.ofInt 64 b &&& BitVec.ofInt 64 m).toInt = b) ↔ ((BitVec.ofInt 64 b &&& ~~~ BitVec.ofInt 64 m).toInt = 0):=by
  constructor
  · intro h
    have:BitVec.ofInt 64 b &&& BitVec.ofInt 64 m = BitVec.ofInt 64 b:=BitVec.eq_of_toInt_eq (by rw [h,ofInt_toInt h1 h2])
    rw [(and_iff _ _).1 this]; rfl
  · intro h
    have:BitVec.ofInt 64 b &&& ~~~ BitVec.ofInt 64 m = 0:=BitVec.eq_of_toInt_eq (by rw [h]; rfl)
    rw [(and_iff _ _).2 this,ofInt_toInt h1 h2]
 by_cases h:(BitVec.ofInt 64 b &&& BitVec.ofInt 64 m).toInt = b
 · have h':=e.1 h
   simp [h,h']
 · have h':¬ (BitVec.ofInt 64 b &&& ~~~ BitVec.ofInt 64 m).toInt = 0:=fun k=>h (e.2 k)
   rw [bne_iff_ne.2 h,bne_iff_ne.2 h']
theorem bits_in {b m t:Int} (h1:-9223372036854775808 ≤ b) (h2:b ≤ 9223372036854775807) (hm:pIn m 0 t = true) (ht:t ≤ 63) (h:(band .i64 b m != b) = false):pIn b 0 t = true:=by
 unfold pIn at hm ⊢
 simp only [aT,decide_eq_true_eq] at hm ⊢
 have h:band .i64 b m = b:=by simpa using h
 rw [bandT] at h
 have e:BitVec.ofInt 64 b &&& BitVec.ofInt 64 m = BitVec.ofInt 64 b:=BitVec.eq_of_toInt_eq (by rw [h,ofInt_toInt h1 h2])
 have hM:(BitVec.ofInt 64 m).toNat = m.toNat:=by
  rw [BitVec.toNat_ofInt]
  omega
 have hle:(BitVec.ofInt 64 b).toNat ≤ m.toNat:=by
  rw [← e,BitVec.toNat_and,hM]; exact Nat.and_le_right
 have hb:(BitVec.ofInt 64 b).toInt = ((BitVec.ofInt 64 b).toNat:Int):=by
  rw [BitVec.toInt_eq_toNat_cond]; split <;> omega
 rw [ofInt_toInt h1 h2] at hb
 omega
def bRow (v:Vtab) (i:Int) (k:Nat):Bool:=match v.1[k]? with
 | some r=>!(pIn r.1 1 99) || ((decide (0 < k) && (match v.1[k - 1]? with | some p=>decide (p.1 ≥ r.1) | none=>false)) || (!(pIn r.2.1 0 (pTop i)) || (bclr .i64 r.2.2 r.2.1 != 0)))
 | none=>false
noncomputable def bPvid (v:Vtab) (k:Nat):Bool:=match v.2[k]? with
 | some x=>(match ao v x with | some t=>decide (t < 0) | none=>false)
 | none=>false
noncomputable def pVtab (v:Vtab) (i:Int):Bool:=!(!(pIn i 1 6) || ((v.2.length:Int) != i || decide ((v.1.length:Int) > 6))) && (!((List.range v.1.length).any (bRow v i)) && !((List.range v.2.length).any (bPvid v)))
theorem rows_loop {v:Vtab} {i:Int} (hi:pIn i 1 6 = true) (hn:v.1.length < 9223372036854775807):loop (fun z=>gM v i z) 0 = some (cond ((List.range v.1.length).any (bRow v i)) (Sum.inr false) (Sum.inl ())):=by
 rw [← all_loop (n:=v.1.length) (c:=fun t28=>(at? v.1 t28).bind fun x31 =>
  (ac x31.1 1 99).bind fun t35 =>
  (cond (!t35) (some true) ((cond (decide (t28 > 0)) ((at? v.1 (w64 (t28 - 1))).bind fun x45=>some (decide (x45.1 ≥ x31.1))) (some false)).bind fun t51=>some t51)).bind fun t52 =>
  (cond t52 (some true) ((es i).bind fun t57=>(ac x31.2.1 0 t57).bind fun t58=>some (!t58))).bind fun t60 =>
  (cond t60 (some true) (some ((bclr .i64 x31.2.2 x31.2.1) != 0))).bind fun t=>some t) (b:=bRow v i) hn (fun k hk=>by
   simp only [at_nat hk,obs,inT,bRow,List.getElem?_eq_getElem hk,allPortsT hi]
   cases pIn v.1[k].1 1 99 with
   | false=>rfl
   | true =>
    by_cases h0:0 < k
    · have hd:decide ((k:Int) > 0) = true:=dT (by omega)
      simp only [hd,prev_at hk h0 hn,obs,dT h0,List.getElem?_eq_getElem (show k - 1 < v.1.length by omega)]
      cases decide (v.1[k - 1].1 ≥ v.1[k].1) <;> cases pIn v.1[k].2.1 0 (pTop i) <;> rfl
    · have hd:decide ((k:Int) > 0) = false:=dF (by omega)
      simp only [hd,dF h0]
      cases pIn v.1[k].2.1 0 (pTop i) <;> rfl)]
 refine loop_ext (fun i=>?_) 0
 unfold gM
 simp only [Option.bind_assoc,obs]
theorem rows_loopS {v:Vtab} {i t:Int} (hi:pIn i 1 6 = true) (ht:w64 (t - 1) = pTop i) (hn:v.1.length < 9223372036854775807) (hw:∀ r ∈ v.1,-9223372036854775808 ≤ r.2.2 ∧ r.2.2 ≤ 9223372036854775807):loop (fun z=>gU v t z) 0 = some (cond ((List.range v.1.length).any (bRow v i)) (Sum.inr false) (Sum.inl ())):=by
 rw [← all_loop (n:=v.1.length) (c:=fun t6=>(at? v.1 t6).bind fun x39 =>
  (ae x39.1 1 99).bind fun t43 =>
  (cond (!t43) (some true) ((ae x39.2.1 0 (w64 (t - 1))).bind fun t49=>some (!t49))).bind fun t51 =>
  (cond t51 (some true) ((ae x39.2.2 0 (w64 (t - 1))).bind fun t56=>some (!t56))).bind fun t58 =>
  (cond t58 (some true) (some ((band .i64 x39.2.2 x39.2.1) != x39.2.2))).bind fun t68 =>
  (cond t68 (some true) ((cond (decide (t6 > 0)) ((at? v.1 (w64 (t6 - 1))).bind fun x77=>some (decide (x77.1 ≥ x39.1))) (some false)).bind fun t83=>some t83)).bind fun t=>some t) (b:=bRow v i) hn (fun k hk=>by
   obtain ⟨w1,w2⟩:=hw _ (getElem_mem hk)
   have hs:=bits_same (m:=v.1[k].2.1) w1 w2
   have hin:=bits_in (m:=v.1[k].2.1) (t:=pTop i) w1 w2
   have ht2:=(topLe hi).2
   simp only [at_nat hk,obs,inS,bRow,List.getElem?_eq_getElem hk,ht]
   rw [← hs]
   cases h1:pIn v.1[k].1 1 99 with
   | false=>rfl
   | true =>
    cases h2:pIn v.1[k].2.1 0 (pTop i) with
    | false =>
     by_cases h0:0 < k
     · simp only [dT h0,List.getElem?_eq_getElem (show k - 1 < v.1.length by omega)]
       cases decide (v.1[k - 1].1 ≥ v.1[k].1) <;> rfl
     · simp only [dF h0]; rfl
    | true =>
     cases h3:(band .i64 v.1[k].2.2 v.1[k].2.1 != v.1[k].2.2) with
     | true =>
      by_cases h0:0 < k
      · simp only [dT h0,List.getElem?_eq_getElem (show k - 1 < v.1.length by omega)]
        cases decide (v.1[k - 1].1 ≥ v.1[k].1) <;> cases pIn v.1[k].2.2 0 (pTop i) <;> rfl
      · simp only [dF h0]; cases pIn v.1[k].2.2 0 (pTop i) <;> rfl
     | false =>
      have h4:=hin h2 ht2 h3
      rw [h4]
      by_cases h0:0 < k
      · have hd:decide ((k:Int) > 0) = true:=dT (by omega)
        simp only [hd,prev_at hk h0 hn,obs,dT h0,List.getElem?_eq_getElem (show k - 1 < v.1.length by omega)]
        cases decide (v.1[k - 1].1 ≥ v.1[k].1) <;> rfl
      · have hd:decide ((k:Int) > 0) = false:=dF (by omega)
        simp only [hd,dF h0]
        rfl)]
 refine loop_ext (fun i=>?_) 0
 unfold gU
 simp only [Option.bind_assoc,obs]
theorem pvid_loop {v:Vtab} (hn:v.1.length < 9223372036854775807) (hn2:v.2.length < 9223372036854775807):loop (fun z=>fG v z) 0 = some (cond ((List.range v.2.length).any (bPvid v)) (Sum.inr false) (Sum.inl ())):=by
 rw [← all_loop (n:=v.2.length) (c:=fun t73=>(at? v.2 t73).bind fun x75=>(ao v x75).bind fun t79=>some (decide (t79 < 0))) (b:=bPvid v) hn2 (fun k hk=>by
  obtain ⟨r,hr⟩:=rowAtT hn v.2[k]
  simp only [at_nat hk,obs,bPvid,List.getElem?_eq_getElem hk,hr])]
 refine loop_ext (fun i=>?_) 0
 unfold fG
 simp only [Option.bind_assoc,obs]
theorem pvidS:kW = fG:=rfl
theorem vtabT {v:Vtab} (i:Int) (hn:v.1.length < 9223372036854775807) (hn2:v.2.length < 9223372036854775807):dh v i = some (pVtab v i):=by
 unfold dh pVtab
 simp only [inT,obs]
 cases hi:pIn i 1 6 with
 | false=>rfl
 | true =>
  rw [rows_loop hi hn,pvid_loop hn hn2]
  cases ((v.2.length:Int) != i) <;> cases decide ((v.1.length:Int) > 6) <;> cases (List.range v.1.length).any (bRow v i) <;> cases (List.range v.2.length).any (bPvid v) <;> rfl
theorem vtabS {v:Vtab} (i:Int) (hn:v.1.length < 9223372036854775807) (hn2:v.2.length < 9223372036854775807) (hw:∀ r ∈ v.1,-9223372036854775808 ≤ r.2.2 ∧ r.2.2 ≤ 9223372036854775807):aN v i = some (pVtab v i):=by
 unfold aN pVtab
 simp only [inS,obs,pvidS]
 cases hi:pIn i 1 6 with
 | false=>rfl
 | true =>
  obtain ⟨t,h1,h2⟩:=shlS hi
  rw [h1,obs,rows_loopS hi h2 hn hw,pvid_loop hn hn2]
  cases ((v.2.length:Int) != i) <;> cases decide ((v.1.length:Int) > 6) <;> cases (List.range v.1.length).any (bRow v i) <;> cases (List.range v.2.length).any (bPvid v) <;> rfl
def bPt (l:List Pt) (k:Nat):Bool:=match l[k]? with | some p=>!(pPt p) | none=>false
def pCounts (b:Bridge):Bool:=pIn b.2.2.2.2.2.2.1 0 1000000 && (pIn b.2.2.2.2.2.2.2.1 0 1000000 && (pIn b.2.2.2.2.2.2.2.2.1 0 1000000 && (pIn b.2.2.2.2.2.2.2.2.2.1 0 1000000 && pIn b.2.2.2.2.2.2.2.2.2.2 0 1000000)))
noncomputable def pBridge (b:Bridge):Bool:=!((List.range b.2.2.1.length).any (bPt b.2.2.1)) && (pIn b.1 1 99 && (!(decide ((b.2.1.length:Int) > 10)) && (pIn (b.2.2.1.length:Int) 1 6 && (pFdb b.2.2.2.1 && (pVtab (b.2.2.2.2.1,b.2.2.2.2.2.1) (b.2.2.1.length:Int) && pCounts b)))))
structure BWf (b:Bridge):Prop where
 p:b.2.2.1.length < 9223372036854775807
 f:b.2.2.2.1.length < 9223372036854775807
 v:b.2.2.2.2.1.length < 9223372036854775807
 q:b.2.2.2.2.2.1.length < 9223372036854775807
 r:∀ r ∈ b.2.2.2.2.1,-9223372036854775808 ≤ r.2.2 ∧ r.2.2 ≤ 9223372036854775807
theorem ports_loop {b:Bridge} (h:BWf b):loop (fun z=>gN b z) 0 = some (cond ((List.range b.2.2.1.length).any (bPt b.2.2.1)) (Sum.inr false) (Sum.inl ())):=by
 rw [← all_loop (n:=b.2.2.1.length) (c:=fun t8=>(at? b.2.2.1 t8).bind fun x10=>(eo x10).bind fun t13=>some (!t13)) (b:=bPt b.2.2.1) h.p (fun k hk=>by
  simp only [at_nat hk,obs,bPt,List.getElem?_eq_getElem hk,ptT])]
 refine loop_ext (fun i=>?_) 0
 unfold gN
 simp only [Option.bind_assoc,obs]
theorem ports_loopS {b:Bridge} (h:BWf b):loop (fun z=>gV b z) 0 = some (cond ((List.range b.2.2.1.length).any (bPt b.2.2.1)) (Sum.inr false) (Sum.inl ())):=by
 rw [← all_loop (n:=b.2.2.1.length) (c:=fun t8=>(at? b.2.2.1 t8).bind fun x10=>(eT x10).bind fun t13=>some (!t13)) (b:=bPt b.2.2.1) h.p (fun k hk=>by
  simp only [at_nat hk,obs,bPt,List.getElem?_eq_getElem hk,ptS])]
 refine loop_ext (fun i=>?_) 0
 unfold gV
 simp only [Option.bind_assoc,obs]
theorem countsS (b:Bridge):ge b = some (pCounts b):=by
 unfold ge pCounts
 simp only [inS,obs]
 cases pIn b.2.2.2.2.2.2.1 0 1000000 <;> cases pIn b.2.2.2.2.2.2.2.1 0 1000000 <;> cases pIn b.2.2.2.2.2.2.2.2.1 0 1000000 <;> cases pIn b.2.2.2.2.2.2.2.2.2.1 0 1000000 <;> rfl
theorem countT (n:Int):bb n = some (pIn n 0 1000000):=by unfold bb; rw [inT,obs]
theorem bridgeT {b:Bridge} (h:BWf b):bc b = some (pBridge b):=by
 unfold bc pBridge pCounts
 rw [ports_loop h,obs]
 cases (List.range b.2.2.1.length).any (bPt b.2.2.1) with
 | true=>rfl
 | false =>
  simp only [cF,Sum.elim_inl,inT,fdbT h.f,vtabT (v:=(b.2.2.2.2.1,b.2.2.2.2.2.1)) _ h.v h.q,countT,obs]
  cases pIn b.1 1 99 <;> cases decide ((b.2.1.length:Int) > 10) <;> cases pIn (b.2.2.1.length:Int) 1 6 <;> cases pFdb b.2.2.2.1 <;> cases pVtab (b.2.2.2.2.1,b.2.2.2.2.2.1) (b.2.2.1.length:Int) <;>
   cases pIn b.2.2.2.2.2.2.1 0 1000000 <;> cases pIn b.2.2.2.2.2.2.2.1 0 1000000 <;> cases pIn b.2.2.2.2.2.2.2.2.1 0 1000000 <;> cases pIn b.2.2.2.2.2.2.2.2.2.1 0 1000000 <;> rfl
theorem bridgeS {b:Bridge} (h:BWf b):aR b = some (pBridge b):=by
 unfold aR pBridge
 rw [ports_loopS h,obs]
 cases (List.range b.2.2.1.length).any (bPt b.2.2.1) with
 | true=>rfl
 | false =>
  have e:decide ((b.2.1.length:Int) ≤ 10) = !(decide ((b.2.1.length:Int) > 10)):=by
   by_cases hh:(b.2.1.length:Int) > 10
   · rw [dT hh,dF (by omega)]; rfl
   · rw [dF hh,dT (by omega)]; rfl
  simp only [cF,Sum.elim_inl,inS,fdbS h.f,vtabS (v:=(b.2.2.2.2.1,b.2.2.2.2.2.1)) _ h.v h.q h.r,countsS,obs,e]
  cases pIn b.1 1 99 <;> cases decide ((b.2.1.length:Int) > 10) <;> cases pIn (b.2.2.1.length:Int) 1 6 <;> cases pFdb b.2.2.2.1 <;> cases pVtab (b.2.2.2.2.1,b.2.2.2.2.2.1) (b.2.2.1.length:Int) <;> cases pCounts b <;> rfl
theorem lessS:gm = dC:=rfl
theorem lessT (a b:Vec):∃ r,dC a b = some r:=by
 unfold dC
 cases (a.1 != b.1) <;> cases (a.2.1 != b.2.1) <;> cases (a.2.2.2.1 != b.2.2.2.1) <;> exact ⟨_,rfl⟩
theorem stepS:hZ = eG:=rfl
theorem stepT (v:Vec) (c:Int):∃ r,eG v c = some r:=by
 unfold eG
 simp only [vecT,inT,obs]
 cases pVec v <;> cases pIn c 1 1000 <;> first | exact ⟨_,rfl⟩ | skip
 generalize pVec (v.1,w64 (v.2.1 + c),w64 (v.2.2.1 + 1),v.2.2.2.1,v.2.2.2.2) = q
 cases q <;> exact ⟨_,rfl⟩
theorem bestL (p0:Int) (l:List Pt) (t8 t9 b0 b1 b2 b3 b4 c0 c1 c2 c3 c4:Int):i0 p0 l t8 t9 b0 b1 b2 b3 b4 c0 c1 c2 c3 c4 = dD p0 l t8 t9 b0 b1 b2 b3 b4 c0 c1 c2 c3 c4:=by
 unfold i0 dD
 rw [stepS,lessS]
 cases h:at? l t9 with
 | none=>rfl
 | some x=>simp only [obs]
theorem bestS:f6 = bz:=by
 funext p0 l
 unfold f6 bz
 rw [loop_ext (fun z=>bestL p0 l _ _ _ _ _ _ _ _ _ _ _ _)]
theorem bestT (p0:Int) {l:List Pt} (hn:l.length < 9223372036854775807):∃ r,bz p0 l = some r:=by
 unfold bz
 obtain ⟨b,h1,_⟩:=loop_inv (step:=fun z:Int × Int × Int × Int × Int × Int × Int × Int × Int × Int × Int × Int=>dD p0 l z.1 z.2.1 z.2.2.1 z.2.2.2.1 z.2.2.2.2.1 z.2.2.2.2.2.1 z.2.2.2.2.2.2.1 z.2.2.2.2.2.2.2.1 z.2.2.2.2.2.2.2.2.1 z.2.2.2.2.2.2.2.2.2.1 z.2.2.2.2.2.2.2.2.2.2.1 z.2.2.2.2.2.2.2.2.2.2.2)
  (fun k z=>z.2.1 = (k:Int)) l.length (fun _=>True)
  (fun k z hk h=>by
   left
   obtain ⟨t7,t18,b0,b1,b2,b3,b4,c0,c1,c2,c3,c4⟩:=z
   obtain rfl:t18 = (k:Int):=h
   unfold dD
   simp only [dlt (show (k:Int) < (l.length:Int) by omega),cT,at_nat hk,obs]
   rw [show w64 ((k:Int) + 1) = ((k + 1:Nat):Int) from w64_nat (by omega)]
   generalize l[k] = x
   have e:(cond (!x.1) (some true) (some (!x.2.2.1)):Option Bool) = some (cond (!x.1) true (!x.2.2.1)):=by cases x.1 <;> rfl
   rw [e,obs]
   cases (cond (!x.1) true (!x.2.2.1)) with
   | true=>exact ⟨_,rfl,rfl⟩
   | false =>
    obtain ⟨r,hr⟩:=stepT x.2.2.2 x.2.1
    obtain ⟨q,hq⟩:=lessT r.1 (c0,c1,c2,c3,c4)
    rw [cF,hr,obs,hq]
    cases r.2 <;> cases decide (r.1.1 < p0) <;> cases decide (t7 < 0) <;> cases q <;> exact ⟨_,rfl,rfl⟩)
  (fun z h=>by
   obtain ⟨t7,t18,b0,b1,b2,b3,b4,c0,c1,c2,c3,c4⟩:=z
   obtain rfl:t18 = (l.length:Int):=h
   unfold dD
   simp only [dnlt (show ¬ (l.length:Int) < (l.length:Int) by omega),cF]
   exact ⟨_,rfl,trivial⟩) (x:=((-1),0,p0,0,0,p0,0,0,0,0,0,0)) rfl
 rw [h1,obs]
 exact ⟨_,rfl⟩
theorem sayS:gn = eH:=by
 funext id l p
 unfold gn eH
 rw [bestS]
theorem roleS:f7 = aL:=by
 funext id l p
 unfold f7 aL
 rw [bestS,sayS,lessS]
 rfl
theorem roleT (id:Int) {l:List Pt} (hn:l.length < 9223372036854775807) (p:Int):∃ r,aL id l p = some r:=by
 obtain ⟨v,hv⟩:=bestT id hn
 unfold aL eH
 simp only [inT,obs,hv]
 rw [show w64 ((l.length:Int) - 1) = (l.length:Int) - 1 from w64_id (by omega) (by omega)]
 cases hp:pIn p 0 ((l.length:Int) - 1) with
 | false=>exact ⟨_,rfl⟩
 | true =>
  unfold pIn at hp
  simp only [aT,decide_eq_true_eq] at hp
  obtain ⟨k,rfl⟩:∃ k:Nat,p = (k:Int):=⟨p.toNat,by omega⟩
  simp only [at_nat (show k < l.length by omega),obs]
  generalize l[k]'(by omega) = x
  obtain ⟨q,hq⟩:=lessT (v.1.1,v.1.2.1,v.1.2.2.1,v.1.2.2.2.1,(k:Int)) x.2.2.2
  rw [hq]
  cases x.1 <;> cases (v.2 == (k:Int)) <;> cases x.2.2.1 <;> cases q <;> exact ⟨_,rfl⟩
theorem portS (b:Bridge) (c p:Int):gx b c p = bS b c p:=by
 unfold gx bS eF
 rw [roleS]
 cases at? b.2.2.1 p with
 | none=>rfl
 | some x=>simp only [obs]; cases x.1 <;> rfl
theorem add_same {α:Type} (out:List Bind) (name:List Int) (n:Int) (f:List Bind → Option α):((aV n).bind fun v=>(aF v name).bind fun t=>(app out [t]).bind f) = (aj out name n).bind f:=by
 unfold aV aF aj af ah
 simp only [obs,Option.bind_assoc]
theorem mibPorts (b:Bridge) (c i:Int) (out:List Bind):ib b c i out = bA b c i out:=by
 unfold ib bA
 simp only [portS,add_same]
theorem rowS {r:Vrow} {c:Int} (h:1 ≤ c ∧ c ≤ 3):((ix [1,r.2.1,r.2.2].length (w64 (c - 1))).bind fun j=>([1,r.2.1,r.2.2][j]?).bind fun x=>some x) = ia r c:=by
 have:c = 1 ∨ c = 2 ∨ c = 3:=by omega
 rcases this with rfl | rfl | rfl <;> rfl
theorem mibRows (b:Bridge) {c:Int} (h:1 ≤ c ∧ c ≤ 3) (i:Int) (out:List Bind):ie b c i out = bB b c i out:=by
 unfold ie bB
 cases hr:at? b.2.2.2.2.1 i with
 | none=>rfl
 | some r =>
  simp only [obs,← rowS (r:=r) h,Option.bind_assoc,add_same]
theorem mibFdb (b:Bridge) (i:Int) (out:List Bind):ig b i out = bh b i out:=by
 unfold ig bh
 cases hr:at? b.2.2.2.1 i with
 | none=>rfl
 | some r=>simp only [obs,add_same]
theorem mibL2 (b:Bridge) (c:Int) (out:List Bind):ic b c out = bT b c out:=by
 unfold ic bT
 rw [loop_ext (fun z=>mibPorts b c _ _)]
theorem mibL6 (b:Bridge) {c:Int} (h:1 ≤ c) (out:List Bind):fc b c out = bU b c out:=by
 unfold fc bU
 by_cases h3:c ≤ 3
 · rw [loop_ext (fun z=>mibRows b ⟨h,h3⟩ _ _)]
 · rw [dF h3]; rfl
theorem mibL6_next (b:Bridge) {c:Int} {out:List Bind} {y:Int × List Bind} (h:1 ≤ c) (e:fc b c out = some (.inl y)):1 ≤ y.1:=by
 unfold fc at e
 by_cases h3:c ≤ 3
 · rw [dT h3,cT,Option.bind_eq_some_iff] at e
   obtain ⟨d,_,e⟩:=e
   cases e
   show 1 ≤ w64 (c + 1)
   rw [w64_id (by omega) (by omega)]; omega
 · rw [dF h3] at e; cases e
def mib5 (b:Bridge):List Bind:=[([1,3,1,1,1],4,0,b.2.1,[]),([1,3,1,1,2],2,b.2.2.2.2.2.2.1,[],[]),([1,3,1,1,3],2,b.2.2.2.2.2.2.2.1,[],[]),([1,3,1,1,4],2,b.2.2.2.2.2.2.2.2.1,[],[]),([1,3,1,1,5],2,b.2.2.2.2.2.2.2.2.2.1,[],[])]
theorem mibA (b:Bridge):aF (4,0,b.2.1,[]) ([1,1]:List Int) = some ([1,3,1,1,1],4,0,b.2.1,[]):=by kernel_rfl
theorem mibB (b:Bridge):iter (fun z=>kf b z.1 z.2) 5 (0,[([1,3,1,1,1],4,0,b.2.1,[])]) = some (mib5 b):=by kernel_rfl
theorem mibC (b:Bridge):((af ([1,1]:List Int)).bind fun t14=>(aj ([(t14,4,0,b.2.1,[])]) ([1,2]:List Int) b.2.2.2.2.2.2.1).bind fun t24=>(aj t24 ([1,3]:List Int) b.2.2.2.2.2.2.2.1).bind fun t29 =>
 (aj t29 ([1,4]:List Int) b.2.2.2.2.2.2.2.2.1).bind fun t34=>(aj t34 ([1,5]:List Int) b.2.2.2.2.2.2.2.2.2.1)) = some (mib5 b):=by kernel_rfl
noncomputable def mibRest (b:Bridge) (l:List Bind):Option (List Bind) :=
 (loop (fun z=>bT b z.1 z.2) (1,l)).bind fun d_2 =>
  (loop (fun z=>bU b z.1 z.2) (1,d_2)).bind fun d_4 =>
  (loop (fun z=>bh b z.1 z.2) (0,d_4)).bind fun d_5 =>
  some d_5
theorem mibT {b:Bridge} (h:BWf b):bC b = cond (!(pBridge b)) (some []) (mibRest b (mib5 b)):=by
 unfold bC
 rw [bridgeT h,obs,mibA,obs,loop_of (mibB b),obs]
 rfl
theorem mibS {b:Bridge} (h:BWf b):cV b = cond (!(pBridge b)) (some []) (mibRest b (mib5 b)):=by
 unfold cV
 rw [bridgeS h,obs]
 have hc:=mibC b
 have e:∀ {α:Type} (f:List Bind → Option α),((af ([1,1]:List Int)).bind fun t14=>(aj ([(t14,4,0,b.2.1,[])]) ([1,2]:List Int) b.2.2.2.2.2.2.1).bind fun t24=>(aj t24 ([1,3]:List Int) b.2.2.2.2.2.2.2.1).bind fun t29 =>
  (aj t29 ([1,4]:List Int) b.2.2.2.2.2.2.2.2.1).bind fun t34=>(aj t34 ([1,5]:List Int) b.2.2.2.2.2.2.2.2.2.1).bind f) = f (mib5 b):=by
  intro α f
  have:((af ([1,1]:List Int)).bind fun t14=>(aj ([(t14,4,0,b.2.1,[])]) ([1,2]:List Int) b.2.2.2.2.2.2.1).bind fun t24=>(aj t24 ([1,3]:List Int) b.2.2.2.2.2.2.2.1).bind fun t29 =>
   (aj t29 ([1,4]:List Int) b.2.2.2.2.2.2.2.2.1).bind fun t34=>(aj t34 ([1,5]:List Int) b.2.2.2.2.2.2.2.2.2.1)).bind f = f (mib5 b):=by rw [hc,obs]
  rw [← this]
  simp only [Option.bind_assoc]
 rw [e]
 congr 1
 unfold mibRest
 rw [loop_ext (fun z=>mibL2 b _ _)]
 congr 1
 funext d
 rw [loop_congr (fun z:Int × List Bind=>1 ≤ z.1) (fun z hz=>mibL6 b hz _) (fun z y hz e=>mibL6_next b hz e) (show (1:Int) ≤ 1 by omega)]
 congr 1
 funext d
 rw [loop_ext (fun z=>mibFdb b _ _)]
theorem mib_same {b:Bridge} (h:BWf b):cV b = bC b:=by rw [mibS h,mibT h]

theorem portT {b:Bridge} (h:BWf b) (c:Int) {k:Nat} (hk:k < b.2.2.1.length) (hq:b.2.2.1.length = b.2.2.2.2.2.1.length):∃ n,bS b c (k:Int) = some n:=by
 obtain ⟨r,hr⟩:=roleT b.1 h.p (k:Int)
 unfold bS eF
 rw [at_nat hk,at_nat (show k < b.2.2.2.2.2.1.length by omega),hr]
 simp only [obs]
 cases (c == 1) <;> cases (c == 2) <;> cases (c == 3) <;> cases (b.2.2.1[k]).1 <;> exact ⟨_,rfl⟩
theorem app_big {α:Type} {xs ys:List α} (h:xs.length + ys.length ≤ 4294967296):app xs ys = some (xs ++ ys):=by
 unfold app
 rw [if_pos (show xs.length + ys.length ≤ maxN from h)]
noncomputable def roleV (id:Int) (l:List Pt) (p:Int):Int:=(aL id l p).getD 0
theorem roleV_eq (id:Int) {l:List Pt} (hn:l.length < 9223372036854775807) (p:Int):aL id l p = some (roleV id l p):=by
 obtain ⟨r,hr⟩:=roleT id hn p
 unfold roleV; rw [hr]; rfl
def hasB (l:List Int) (x:Int):Bool:=decide (x ∈ l)
def those (b:Nat → Bool) (m:Nat):List Int:=((List.range m).filter b).map fun (k:Nat)=>(k:Int)
theorem those_le (b:Nat → Bool) (m:Nat):(those b m).length ≤ m:=by
 unfold those
 rw [length_map]
 exact Nat.le_trans (List.length_filter_le _ _) (by simp)
theorem those_succ (b:Nat → Bool) (m:Nat):those b (m + 1) = cond (b m) (those b m ++ [(m:Int)]) (those b m):=by
 unfold those
 rw [range_succ,List.filter_append,map_append]
 cases h:b m <;> simp [h]
theorem collect {n:Nat} {c:Int → Option Bool} {b:Nat → Bool} (hn:n ≤ 1048576) (hc:∀ k,k < n → c (k:Int) = some (b k)) :
 loop (fun z:Int × List Int=>cond (decide (z.1 < (n:Int))) ((c z.1).bind fun t=>cond t ((app z.2 [z.1]).bind fun zs=>some (.inl (w64 (z.1 + 1),zs))) (some (.inl (w64 (z.1 + 1),z.2)))) (some (.inr z.2))) (0,([]:List Int)) = some (those b n):=by
 obtain ⟨v,h1,rfl⟩:=loop_inv (step:=fun z:Int × List Int=>cond (decide (z.1 < (n:Int))) ((c z.1).bind fun t=>cond t ((app z.2 [z.1]).bind fun zs=>some (.inl (w64 (z.1 + 1),zs))) (some (.inl (w64 (z.1 + 1),z.2)))) (some (.inr z.2))) (fun k z=>z.1 = (k:Int) ∧ z.2 = those b k) n (fun l=>l = those b n)
  (fun k z hk ⟨e1,e2⟩=>by
   obtain ⟨i,l⟩:=z
   simp only at e1 e2
   subst e1 e2
   left
   have hle:=those_le b k
   refine ⟨(w64 ((k:Int) + 1),those b (k + 1)),?_,w64_nat (by omega),rfl⟩
   simp only [dlt (show (k:Int) < (n:Int) by omega),cT,hc k hk,obs]
   rw [those_succ]
   cases b k with
   | false=>rfl
   | true=>rw [cT,app_big (by simp; omega)]; rfl)
  (fun z ⟨e1,e2⟩=>by
   obtain ⟨i,l⟩:=z
   simp only at e1 e2
   subst e1 e2
   exact ⟨_,by simp only [dnlt (show ¬ (n:Int) < (n:Int) by omega),cF],rfl⟩) (x:=(0,[])) ⟨rfl,rfl⟩
 exact h1
def cnt (l:List Bool):Nat:=l.count true
theorem cnt_le (l:List Bool):cnt l ≤ l.length:=List.count_le_length
theorem cnt_set {l:List Bool} {i:Nat} (h:l[i]? = some false):cnt (l.set i true) = cnt l + 1:=by
 obtain ⟨hi,he⟩:=List.getElem?_eq_some_iff.1 h
 unfold cnt
 rw [List.count_set hi,he]
 simp
theorem in_nat {n:Nat} {i:Int} (h:pIn i 0 ((n:Int) - 1) = true):∃ k:Nat,k < n ∧ i = (k:Int):=by
 unfold pIn at h
 simp only [aT,decide_eq_true_eq] at h
 exact ⟨i.toNat,by omega,by omega⟩
theorem nat_in {n k:Nat} (h:k < n):pIn (k:Int) 0 ((n:Int) - 1) = true:=by
 unfold pIn
 rw [dT (by omega),dT (by omega)]; rfl
structure Rel (X:List Int) (l:List Bool):Prop where
 r:∀ x ∈ X,∃ k:Nat,k < l.length ∧ x = (k:Int)
 m:∀ k,k < l.length → l[k]? = some (hasB X (k:Int))
 c:X.length = cnt l
theorem Rel.len {X:List Int} {l:List Bool} (h:Rel X l):X.length ≤ l.length:=by rw [h.c]; exact cnt_le l
theorem Rel.add {X:List Int} {l:List Bool} (h:Rel X l) {i:Nat} (hi:l[i]? = some false):Rel (X ++ [(i:Int)]) (l.set i true):=by
 obtain ⟨hi',he⟩:=List.getElem?_eq_some_iff.1 hi
 refine ⟨fun x hx=>?_,fun k hk=>?_,?_⟩
 · rw [length_set]
   rcases mem_append.1 hx with hx | hx
   · exact h.r x hx
   · simp at hx; exact ⟨i,hi',hx⟩
 · rw [length_set] at hk
   rw [List.getElem?_set]
   split
   · rename_i e
     subst e
     rw [show hasB (X ++ [(i:Int)]) (i:Int) = true from dT (by simp)]
   · rename_i e
     rw [h.m k hk]
     congr 1
     unfold hasB
     apply decide_eq_decide.2
     rw [mem_append,List.mem_singleton]
     constructor
     · exact .inl
     · rintro (h | h)
       · exact h
       · omega
 · rw [length_append,cnt_set hi,h.c]; rfl
theorem Rel.in {X:List Int} {l:List Bool} (h:Rel X l) {x:Int} (hx:hasB X x = true):pIn x 0 ((l.length:Int) - 1) = true:=by
 obtain ⟨k,hk,rfl⟩:=h.r x (of_decide_eq_true hx)
 exact nat_in hk
def start (n:Nat) (b:Nat):List Bool:=(List.replicate n false).set b true
theorem role4 (id:Int) {l:List Pt} (hn:l.length < 9223372036854775807) (p:Int):1 ≤ roleV id l p:=by
 have h:=roleV_eq id hn p
 revert h
 generalize roleV id l p = v
 unfold aL
 rw [inT,obs]
 intro h
 have key:∀ (o:Option Bool) (f:Bool → Option Int),(∀ t x,f t = some x → 1 ≤ x) → o.bind f = some v → 1 ≤ v:=by
  intro o f hf h
  cases o with
  | none=>cases h
  | some t=>exact hf t v h
 refine key _ _ (fun t x hx=>?_) h
 cases t with
 | true=>cases hx; decide
 | false =>
  rw [cF] at hx
  cases hbv:bz id l with
  | none=>rw [hbv] at hx; cases hx
  | some w =>
   rw [hbv,obs] at hx
   cases hw:w.2 == p with
   | true=>rw [hw] at hx; cases hx; decide
   | false =>
    rw [hw,cF] at hx
    cases ha:at? l p with
    | none=>rw [ha] at hx; cases hx
    | some y =>
     rw [ha,obs] at hx
     revert hx
     generalize (cond (!y.2.2.1) _ _:Option Bool) = o
     intro hx
     cases o with
     | none=>cases hx
     | some t=>cases t <;> (cases hx; decide)
theorem wrap_small {k:Nat} (h:k < 64):IntKind.u64.wrap (k:Int) = (k:Int):=by
 show ((k:Int) % 18446744073709551616) = _
 omega
theorem bits6:∀ b:Fin 64,∀ p:Fin 6,∃ t c,shl .i64 1 (p.1:Int) = some t ∧ bor .i64 (b.1:Int) t = (c:Int) ∧ 0 ≤ c ∧ c < 64:=by
 intro b p
 have h:∀ b:Fin 64,∀ p:Fin 6,(decide (0 ≤ bor .i64 (b.1:Int) (2 ^ p.1)) && decide (bor .i64 (b.1:Int) (2 ^ p.1) < 64)) = true:=by decide
 have h1:=h b p
 simp only [aT,decide_eq_true_eq] at h1
 have h2:∀ p:Fin 6,shl .i64 1 (p.1:Int) = some (2 ^ p.1):=by decide
 exact ⟨_,_,h2 p,rfl,h1.1,h1.2⟩
theorem le_two {r:Int} (h:1 ≤ r):decide (r ≤ 2) = (r == 1 || r == 2):=by
 by_cases h2:r ≤ 2
 · rw [dT h2]
   rcases (show r = 1 ∨ r = 2 by omega) with rfl | rfl <;> rfl
 · rw [dF h2,beq_eq_false_iff_ne.2 (show r ≠ 1 by omega),beq_eq_false_iff_ne.2 (show r ≠ 2 by omega)]; rfl
theorem sends_step (id:Int) {l:List Pt} (hn:l.length < 9223372036854775807) (z:Int × Int) (hz:0 ≤ z.2):f8 id l z.1 z.2 = aX id l z.1 z.2:=by
 unfold f8 aX
 rw [roleS,roleV_eq id hn,obs]
 have hr:=role4 id hn z.2
 by_cases h1:z.2 < (l.length:Int)
 · rw [dlt h1,cT]
   by_cases h2:z.2 < 6
   · rw [dlt h2,obs,obs,cT,cT,obs,le_two hr]
     obtain ⟨k,hk⟩:∃ k:Nat,z.2 = (k:Int):=⟨z.2.toNat,by omega⟩
     rw [hk,wrap_small (by omega)]
     cases roleV id l (k:Int) == 1 <;> cases roleV id l (k:Int) == 2 <;> rfl
   · rw [dnlt h2]; rfl
 · rw [dnlt h1]; rfl
theorem sendsT (id:Int) {l:List Pt} (hn:l.length < 9223372036854775807):∃ c:Nat,c < 64 ∧ fY id l = some (c:Int) ∧ gp id l = some (c:Int):=by
 obtain ⟨v,h1,c,h2,rfl⟩:=loop_inv (step:=fun z:Int × Int=>aX id l z.1 z.2) (fun k z=>z.2 = (k:Int) ∧ ∃ c:Nat,c < 64 ∧ z.1 = (c:Int)) (min l.length 6) (fun v=>∃ c:Nat,c < 64 ∧ v = (c:Int))
  (fun k z hk ⟨e1,c,e2,e3⟩=>by
   obtain ⟨b,i⟩:=z
   simp only at e1 e3
   subst e1 e3
   left
   have k6:k < 6:=by omega
   obtain ⟨t,d,b1,b2,b3,b4⟩:=bits6 ⟨c,e2⟩ ⟨k,k6⟩
   have hs:aX id l (c:Int) (k:Int) = cond (roleV id l (k:Int) == 1 || roleV id l (k:Int) == 2) (some (.inl ((d:Int),((k + 1:Nat):Int)))) (some (.inl ((c:Int),((k + 1:Nat):Int)))):=by
    unfold aX
    rw [dlt (show (k:Int) < (l.length:Int) by omega),dlt (show (k:Int) < 6 by omega),cT,obs,cT,roleV_eq id hn,obs,b1,obs,b2,w64_nat (by omega)]
    cases roleV id l (k:Int) == 1 <;> cases roleV id l (k:Int) == 2 <;> rfl
   show ∃ y,aX id l (c:Int) (k:Int) = _ ∧ _
   rw [hs]
   cases (roleV id l (k:Int) == 1 || roleV id l (k:Int) == 2) with
   | true=>exact ⟨_,rfl,rfl,d.toNat,by omega,by show d = _; omega⟩
   | false=>exact ⟨_,rfl,rfl,c,e2,rfl⟩)
  (fun z ⟨e1,c,e2,e3⟩=>by
   obtain ⟨b,i⟩:=z
   simp only at e1 e3
   subst e1 e3
   refine ⟨(c:Int),?_,c,e2,rfl⟩
   show aX id l _ _ = _
   unfold aX
   by_cases h:l.length ≤ 6
   · rw [Nat.min_eq_left h,dnlt (by omega)]; rfl
   · rw [Nat.min_eq_right (by omega),dlt (by omega),dnlt (show ¬ (((6:Nat):Int) < 6) by omega)]; rfl) (x:=(0,0)) ⟨rfl,0,by omega,rfl⟩
 refine ⟨c,h2,by unfold fY; rw [h1]; rfl,?_⟩
 unfold gp
 rw [loop_congr (f:=fun z:Int × Int=>f8 id l z.1 z.2) (g:=fun z:Int × Int=>aX id l z.1 z.2) (fun z=>0 ≤ z.2 ∧ z.2 ≤ 9223372036854775806) (fun z hz=>sends_step id hn z hz.1) (fun z y hz hy=>by
  have hy':f8 id l z.1 z.2 = some (.inl y):=hy
  rw [sends_step id hn z hz.1] at hy'
  unfold aX at hy'
  by_cases h1:z.2 < (l.length:Int)
  · by_cases h2:z.2 < 6
    · rw [dlt h1,dlt h2,cT,obs,cT,roleV_eq id hn,obs] at hy'
      have hw:w64 (z.2 + 1) = z.2 + 1:=w64_id (by omega) (by omega)
      rw [hw] at hy'
      revert hy'
      generalize (cond (roleV id l z.2 == 1) (some true) (some (roleV id l z.2 == 2))) = o
      intro hy'
      cases o with
      | none=>cases hy'
      | some t =>
       rw [obs] at hy'
       cases t with
       | false=>cases hy'; exact ⟨by show 0 ≤ z.2 + 1; omega,by show z.2 + 1 ≤ _; omega⟩
       | true =>
        rw [cT] at hy'
        cases hs:shl .i64 1 z.2 with
        | none=>rw [hs] at hy'; cases hy'
        | some q=>rw [hs] at hy'; cases hy'; exact ⟨by show 0 ≤ z.2 + 1; omega,by show z.2 + 1 ≤ _; omega⟩
    · rw [dlt h1,dnlt h2] at hy'; cases hy'
  · rw [dnlt h1] at hy'; cases hy') (x:=(0,0)) ⟨by decide,by decide⟩,h1]
 rfl
structure CW (c:L1Cur):Prop where
 p:0 ≤ c.2.1
 n:c.1.length < 9223372036854775807
theorem band255 (x:Int):0 ≤ band .i64 x 255 ∧ band .i64 x 255 ≤ 255:=by
 rw [bandT]
 have h1:(BitVec.ofInt 64 x &&& BitVec.ofInt 64 255).toNat ≤ 255:=by
  rw [BitVec.toNat_and]
  exact Nat.le_trans Nat.and_le_right (by decide)
 rw [BitVec.toInt_eq_toNat_cond]
 split <;> omega
theorem byteD {c:L1Cur} (h:CW c):∃ c' r,cZ c = some (c',r) ∧ CW c' ∧ 0 ≤ r ∧ r ≤ 255:=by
 unfold cZ
 have hn:=h.n
 have hp:=h.p
 by_cases hlt:c.2.1 < (c.1.length:Int)
 · obtain ⟨k,hk⟩:∃ k:Nat,c.2.1 = (k:Int):=⟨c.2.1.toNat,by omega⟩
   simp only [dlt hlt,cT]
   rw [hk,at_nat (by omega),obs,w64_nat (by omega)]
   exact ⟨_,_,rfl,⟨by show (0:Int) ≤ ((k + 1:Nat):Int); omega,hn⟩,band255 _⟩
 · simp only [dnlt hlt,cF]
   exact ⟨_,_,rfl,⟨hp,hn⟩,band255 _⟩
theorem rem_pos {a n:Int} (ha:0 ≤ a) (hn:1 ≤ n):∃ r,rem a n = some r ∧ 0 ≤ r ∧ r < n:=by
 unfold rem
 rw [if_neg (by omega)]
 refine ⟨_,rfl,Int.tmod_nonneg _ ha,?_⟩
 have:=Int.tmod_lt_of_pos a (show 0 < n by omega)
 exact this
theorem belowD {c:L1Cur} (h:CW c) (n:Int):∃ c' r,aa c n = some (c',r) ∧ CW c' ∧ 0 ≤ r ∧ (1 ≤ n → r < n):=by
 unfold aa
 by_cases h0:n ≤ 0
 · rw [dT h0]
   exact ⟨_,_,rfl,h,Int.le_refl 0,fun h=>by omega⟩
 · rw [dF h0,cF]
   by_cases h1:n ≤ 256
   · rw [dT h1,cT]
     obtain ⟨c1,r1,e1,w1,a1,b1⟩:=byteD h
     obtain ⟨r,e,a,b⟩:=rem_pos (n:=n) a1 (by omega)
     rw [e1,obs,e,obs]
     exact ⟨_,_,rfl,w1,a,fun _=>b⟩
   · rw [dF h1,cF]
     obtain ⟨c1,r1,e1,w1,a1,b1⟩:=byteD h
     obtain ⟨c2,r2,e2,w2,a2,b2⟩:=byteD w1
     obtain ⟨c3,r3,e3,w3,a3,b3⟩:=byteD w2
     rw [e1,obs,e2,obs,e3,obs]
     show ∃ c' r,((rem (w64 (w64 (w64 (r1 * 65536) + w64 (r2 * 256)) + r3)) n).bind _) = _ ∧ _
     rw [w64_id (n:=r1 * 65536) (by omega) (by omega),w64_id (n:=r2 * 256) (by omega) (by omega),w64_id (n:=r1 * 65536 + r2 * 256) (by omega) (by omega),w64_id (n:=r1 * 65536 + r2 * 256 + r3) (by omega) (by omega)]
     obtain ⟨r,e,a,b⟩:=rem_pos (a:=r1 * 65536 + r2 * 256 + r3) (n:=n) (by omega) (by omega)
     rw [e,obs]
     exact ⟨_,_,rfl,w3,a,fun _=>b⟩
theorem belowN {c:L1Cur} (h:CW c) {n:Nat} (hn:1 ≤ n):∃ c' k,aa c (n:Int) = some (c',((k:Nat):Int)) ∧ CW c' ∧ k < n:=by
 obtain ⟨c',r,e,w,a,b⟩:=belowD h (n:Int)
 have b:=b (by omega)
 exact ⟨c',r.toNat,by rw [e]; congr 2; omega,w,by omega⟩
theorem onceD {c:L1Cur} (h:CW c) (n:Int):∃ c' r,bK c n = some (c',r) ∧ CW c':=by
 obtain ⟨c',r,e,w,_⟩:=belowD h n
 unfold bK
 rw [e,obs]
 exact ⟨_,_,rfl,w⟩
theorem intD {c:L1Cur} (h:CW c) {l:List Int} (hl:1 ≤ l.length):∃ c' x,ai c l = some (c',x) ∧ CW c' ∧ x ∈ l:=by
 obtain ⟨c',k,e,w,b⟩:=belowN h hl
 unfold ai
 rw [e,obs]
 show ∃ c'' x,(at? l (k:Int)).bind _ = _ ∧ _
 rw [at_nat b,obs]
 exact ⟨_,_,rfl,w,getElem_mem b⟩
theorem strD {c:L1Cur} (h:CW c) {l:List (List UInt8)} (hl:1 ≤ l.length):∃ c' x,bt c l = some (c',x) ∧ CW c' ∧ x ∈ l:=by
 obtain ⟨c',k,e,w,b⟩:=belowN h hl
 unfold bt
 rw [e,obs]
 show ∃ c'' x,(at? l (k:Int)).bind _ = _ ∧ _
 rw [at_nat b,obs]
 exact ⟨_,_,rfl,w,getElem_mem b⟩
theorem newD {code:List Int} (h:code.length ≤ 1048576):∃ c,fE code = some c ∧ CW c:=by
 obtain ⟨v,h1,-⟩:=loop_inv (step:=fun z:Int × Int=>cM code z.1 z.2) (fun k z=>z.2 = (k:Int)) (min code.length 4000) (fun _=>True)
  (fun k z hk e=>by
   obtain ⟨x,i⟩:=z
   simp only at e
   subst e
   left
   have k4:k < 4000:=by omega
   have hs:∃ y,cM code x (k:Int) = some (.inl (y,((k + 1:Nat):Int))):=by
    unfold cM
    rw [dlt (show (k:Int) < (code.length:Int) by omega),dlt (show (k:Int) < 4000 by omega),cT,obs,cT,at_nat (by omega),obs,w64_nat (by omega)]
    exact ⟨_,rfl⟩
   obtain ⟨y,hs⟩:=hs
   exact ⟨_,hs,rfl⟩)
  (fun z e=>by
   obtain ⟨x,i⟩:=z
   simp only at e
   subst e
   refine ⟨x,?_,trivial⟩
   show cM code x _ = _
   unfold cM
   by_cases h:code.length ≤ 4000
   · rw [Nat.min_eq_left h,dnlt (by omega)]; rfl
   · rw [Nat.min_eq_right (by omega),dlt (by omega),dnlt (show ¬ (((4000:Nat):Int) < 4000) by omega)]; rfl) (x:=(w64 (762762 + (code.length:Int)),0)) rfl
 unfold fE
 show ∃ c,(loop (fun z=>cM code z.1 z.2) (w64 (762762 + (code.length:Int)),0)).bind (fun d=>some (code,0,d)) = some c ∧ CW c
 rw [h1,obs]
 exact ⟨_,rfl,by show (0:Int) ≤ 0; omega,by show code.length < _; omega⟩

abbrev I64 (x:Int):Prop:=-9223372036854775808 ≤ x ∧ x ≤ 9223372036854775807
structure VT (v:Vtab) (n:Nat):Prop where
 p:pVtab v (n:Int) = true
 r:∀ r ∈ v.1,I64 r.2.2
theorem VT.len {v:Vtab} {n:Nat} (h:VT v n):1 ≤ n ∧ n ≤ 6 ∧ v.2.length = n ∧ v.1.length ≤ 6:=by
 have hp:=h.p
 unfold pVtab pIn at hp
 simp only [aT,Bool.not_eq_true',Bool.or_eq_false_iff,Bool.not_eq_false',aT,decide_eq_true_eq,decide_eq_false_iff_not,bne_eq_false_iff_eq] at hp
 obtain ⟨⟨h1,h2,h3⟩,_⟩:=hp
 omega
theorem vtS {v:Vtab} (n:Int) (h1:v.1.length ≤ 1000) (h2:v.2.length ≤ 1000) (hr:∀ r ∈ v.1,I64 r.2.2):aN v n = some (pVtab v n):=vtabS n (by omega) (by omega) hr
theorem copyV {v:Vtab} (h1:v.1.length ≤ 1000) (h2:v.2.length ≤ 1000):aO v = some v:=by
 unfold aO
 unfold app
 have m:(maxN:Nat) = 4294967296:=rfl
 rw [if_pos (by show 0 + v.1.length ≤ maxN; omega),obs,if_pos (by show 0 + v.2.length ≤ maxN; omega),obs]
 rfl
theorem orV {x v:Vtab} {n:Nat} (hv:VT v n) (h1:x.1.length ≤ 1000) (h2:x.2.length ≤ 1000) (hr:∀ r ∈ x.1,I64 r.2.2):∃ y ok,e9 x v = some (y,ok) ∧ VT y n:=by
 obtain ⟨l1,l2,l3,l4⟩:=hv.len
 unfold e9
 rw [vtS _ h1 h2 hr,obs]
 cases h:pVtab x (v.2.length:Int) with
 | true=>exact ⟨_,_,rfl,by rw [l3] at h; exact h,hr⟩
 | false =>
  rw [Bool.not_false,cT,copyV (by omega) (by omega),obs]
  exact ⟨_,_,rfl,hv⟩
theorem okV {v:Vtab} {n:Nat} (hv:VT v n):aN v (v.2.length:Int) = some true:=by
 obtain ⟨l1,l2,l3,l4⟩:=hv.len
 rw [vtS _ (by omega) (by omega) hv.r,l3,hv.p]
theorem pvidV {v:Vtab} {n:Nat} (hv:VT v n) (port id:Int):∃ y ok,fm v port id = some (y,ok) ∧ VT y n:=by
 obtain ⟨l1,l2,l3,l4⟩:=hv.len
 unfold fm
 rw [okV hv,obs,Bool.not_true,cF,inS,obs,obs,copyV (by omega) (by omega),w64_id (n:=(v.2.length:Int) - 1) (by omega) (by omega)]
 cases hin:pIn port 0 ((v.2.length:Int) - 1) with
 | false=>exact ⟨_,_,rfl,hv⟩
 | true =>
  obtain ⟨k,hk,rfl⟩:=in_nat hin
  simp only [Bool.not_true,cF,obs,ix_nat hk,List.getElem?_eq_getElem hk]
  obtain ⟨y,ok,e,hy⟩:=orV (x:=(v.1,v.2.set k id)) hv (by show v.1.length ≤ _; omega) (by show (v.2.set k id).length ≤ _; rw [length_set]; omega) hv.r
  rw [e]
  exact ⟨_,_,rfl,hy⟩
theorem rowAtL {v:Vtab} (hn:v.1.length < 9223372036854775807) (id:Int):∃ r,bo v id = some r ∧ (r = -1 ∨ ∃ k:Nat,k < v.1.length ∧ r = (k:Int)):=by
 rw [rowAtS]
 unfold ao
 obtain ⟨b,h1,h2⟩:=loop_inv (β:=Unit ⊕ Int) (step:=fun z=>aD v id z) (fun k i=>i = (k:Int)) v.1.length (fun b=>∀ r,b = .inr r → ∃ k:Nat,k < v.1.length ∧ r = (k:Int))
  (fun k i hk h=>by
   subst h
   unfold aD
   rw [dlt (by omega),cT,at_nat hk,obs]
   cases (v.1[k].1 == id) with
   | true=>exact .inr ⟨_,rfl,fun r hr=>⟨k,hk,by cases hr; rfl⟩⟩
   | false=>exact .inl ⟨_,rfl,w64_nat (by omega)⟩)
  (fun i h=>by
   subst h
   unfold aD
   rw [dnlt (by omega)]
   exact ⟨_,rfl,fun r hr=>by cases hr⟩) (x:=0) rfl
 rw [h1,obs]
 cases b with
 | inl _=>exact ⟨_,rfl,.inl rfl⟩
 | inr r=>exact ⟨r,rfl,.inr (h2 r rfl)⟩
theorem cut_ok {α:Type} {l:List α} {a b:Nat} (h1:a ≤ b) (h2:b ≤ l.length):cut l (a:Int) (b:Int) = some ((l.take b).drop a):=by
 unfold cut
 rw [if_pos (by omega),if_pos (by omega),if_pos (by omega)]; simp
theorem app_small {α:Type} {xs ys:List α} (h:xs.length + ys.length ≤ 4294967296):app xs ys = some (xs ++ ys):=by
 unfold app
 rw [if_pos (show xs.length + ys.length ≤ maxN from h)]
theorem dropV {v:Vtab} {n:Nat} (hv:VT v n) (id:Int):∃ y ok,fo v id = some (y,ok) ∧ VT y n:=by
 obtain ⟨l1,l2,l3,l4⟩:=hv.len
 obtain ⟨r,hr,hr2⟩:=rowAtL (v:=v) (by omega) id
 unfold fo
 rw [hr,obs,okV hv,obs,Bool.not_true,cF,copyV (by omega) (by omega),obs,obs,obs]
 rcases hr2 with rfl | ⟨k,hk,rfl⟩
 · exact ⟨_,_,rfl,hv⟩
 · rw [dnlt (by omega),cF,show (0:Int) = ((0:Nat):Int) from rfl,cut_ok (by omega) (by omega),obs,w64_nat (by omega),cut_ok (by omega) (by omega)]
   have t1:((v.1.take k).drop 0).length ≤ 6:=by simp; omega
   have t2:((v.1.take v.1.length).drop (k + 1)).length ≤ 6:=by simp; omega
   rw [app_small (by show 0 + _ ≤ _; omega),obs,obs,nil_append,app_small (by omega),obs]
   obtain ⟨y,ok,e,hy⟩:=orV (x:=((v.1.take k).drop 0 ++ (v.1.take v.1.length).drop (k + 1),v.2)) hv (by show ((v.1.take k).drop 0 ++ (v.1.take v.1.length).drop (k + 1)).length ≤ _; rw [length_append]; omega) (by show v.2.length ≤ _; omega) (fun r hr=>by
    rcases mem_append.1 hr with hr | hr
    · exact hv.r r (mem_of_mem_take (List.mem_of_mem_drop hr))
    · exact hv.r r (mem_of_mem_take (List.mem_of_mem_drop hr)))
   rw [e]
   exact ⟨_,_,rfl,hy⟩
theorem rowV {v:Vtab} {n:Nat} (hv:VT v n) {r:Vrow} (hr:I64 r.2.2):∃ y,bq v r = some y ∧ y.1.length ≤ 1000 ∧ y.2.length ≤ 1000 ∧ ∀ r ∈ y.1,I64 r.2.2:=by
 obtain ⟨l1,l2,l3,l4⟩:=hv.len
 obtain ⟨d,h1,h2,h3⟩:=loop_inv (step:=fun z:Bool × Int × List Vrow=>bH v r z.1 z.2.1 z.2.2) (fun k z=>z.2.1 = (k:Int) ∧ z.2.2.length ≤ 2 * k ∧ ∀ x ∈ z.2.2,I64 x.2.2) v.1.length (fun d=>d.2.length ≤ 12 ∧ ∀ x ∈ d.2,I64 x.2.2)
  (fun k z hk ⟨e1,e2,e3⟩=>by
   obtain ⟨t,i,b⟩:=z
   simp only at e1 e2 e3
   subst e1
   left
   have hvk:I64 v.1[k].2.2:=hv.r _ (getElem_mem hk)
   show ∃ y,bH v r t (k:Int) b = _ ∧ _
   unfold bH
   simp only [dlt (show (k:Int) < (v.1.length:Int) by omega),cT,at_nat hk,obs,w64_nat (show k < 9223372036854775807 by omega),Int.not_lt]
   have ha:∀ (xs:List Vrow) (y:Vrow),xs.length ≤ 100 → app xs [y] = some (xs ++ [y]):=fun xs y h=>app_small (by show xs.length + 1 ≤ _; omega)
   have key:∀ (tt:Bool),((cond (!t) (some (decide (v.1[k].1 ≥ r.1))) (some false)) = some tt → ∃ y:Bool × Int × List Vrow,(cond tt ((app b [r]).bind fun zs37=>cond (v.1[k].1 != r.1) ((app zs37 [v.1[k]]).bind fun zs56=>some (.inl (true,((k + 1:Nat):Int),zs56))) (some (.inl (true,((k + 1:Nat):Int),zs37)))) (cond (v.1[k].1 != r.1) ((app b [v.1[k]]).bind fun zs56_1=>some (.inl (t,((k + 1:Nat):Int),zs56_1))) (some (.inl (t,((k + 1:Nat):Int),b)))):Option ((Bool × Int × List Vrow) ⊕ (Bool × List Vrow))) = some (.inl y) ∧ y.2.1 = ((k + 1:Nat):Int) ∧ y.2.2.length ≤ 2 * (k + 1) ∧ ∀ x ∈ y.2.2,I64 x.2.2):=by
    intro tt _
    cases tt with
    | true =>
     rw [cT,ha b r (by omega),obs]
     cases v.1[k].1 != r.1 with
     | true =>
      rw [cT,ha (b ++ [r]) _ (by simp; omega),obs]
      refine ⟨_,rfl,rfl,by simp; omega,fun x hx=>?_⟩
      simp at hx
      rcases hx with hx | rfl | rfl
      · exact e3 x hx
      · exact hr
      · exact hvk
     | false =>
      refine ⟨_,rfl,rfl,by simp; omega,fun x hx=>?_⟩
      simp at hx
      rcases hx with hx | rfl
      · exact e3 x hx
      · exact hr
    | false =>
     rw [cF]
     cases v.1[k].1 != r.1 with
     | true =>
      rw [cT,ha b _ (by omega),obs]
      refine ⟨_,rfl,rfl,by simp; omega,fun x hx=>?_⟩
      simp at hx
      rcases hx with hx | rfl
      · exact e3 x hx
      · exact hvk
     | false=>exact ⟨_,rfl,rfl,by show b.length ≤ _; omega,e3⟩
   cases ht:(cond (!t) (some (decide (v.1[k].1 ≥ r.1))) (some false)) with
   | none=>cases t <;> cases ht
   | some tt =>
    rw [obs]
    exact key tt ht)
  (fun z ⟨e1,e2,e3⟩=>by
   obtain ⟨t,i,b⟩:=z
   simp only at e1 e2 e3
   subst e1
   refine ⟨(t,b),?_,by show b.length ≤ 12; omega,e3⟩
   show bH v r t _ b = _
   unfold bH
   rw [dnlt (by omega),cF]) (x:=(false,0,[])) ⟨rfl,by simp,fun x hx=>absurd hx not_mem_nil⟩
 unfold bq
 rw [app_small (by show 0 + v.2.length ≤ _; omega),obs,h1,obs,nil_append]
 cases d.1 with
 | true=>exact ⟨_,rfl,by show d.2.length ≤ _; omega,by show v.2.length ≤ _; omega,h3⟩
 | false =>
  rw [Bool.not_false,cT,app_small (by show d.2.length + 1 ≤ _; omega),obs]
  refine ⟨_,rfl,by show (d.2 ++ [r]).length ≤ _; simp; omega,by show v.2.length ≤ _; omega,fun x hx=>?_⟩
  have hx:x ∈ d.2 ++ [r]:=hx
  simp at hx
  rcases hx with hx | rfl
  · exact h3 x hx
  · exact hr
theorem putV {v:Vtab} {n:Nat} (hv:VT v n) {r:Vrow} (hr:I64 r.2.2):∃ y ok,fp v r = some (y,ok) ∧ VT y n:=by
 obtain ⟨x,hx,h1,h2,h3⟩:=rowV hv hr
 unfold fp
 rw [okV hv,obs,Bool.not_true,cF,hx,obs]
 obtain ⟨y,ok,e,hy⟩:=orV hv h1 h2 h3
 rw [e]
 exact ⟨_,_,rfl,hy⟩
theorem bandI (a b:Int):I64 (band .i64 a b):=by
 rw [bandT]
 have h1:=BitVec.toInt_lt (x:=BitVec.ofInt 64 a &&& BitVec.ofInt 64 b)
 have h2:=BitVec.le_toInt (x:=BitVec.ofInt 64 a &&& BitVec.ofInt 64 b)
 exact ⟨by omega,by omega⟩
theorem row2D {c:L1Cur} (h:CW c) {n:Nat} (h1:1 ≤ n) (h6:n ≤ 6):∃ c' r,gJ c (n:Int) = some (c',r) ∧ CW c' ∧ I64 r.2.2:=by
 obtain ⟨t,ht,_⟩:=shlS (i:=(n:Int)) (by unfold pIn; rw [dT (by omega),dT (by omega)]; rfl)
 unfold gJ
 rw [ht,obs]
 obtain ⟨c1,r1,e1,w1,_⟩:=belowD h (w64 ((w64 (t - 1)) + 1))
 obtain ⟨c2,r2,e2,w2,_⟩:=intD w1 (l:=[1,2,3,2]) (by decide)
 obtain ⟨c3,r3,e3,w3,_⟩:=belowD w2 (w64 ((w64 (t - 1)) + 1))
 rw [e1,obs,e2,obs,e3,obs]
 exact ⟨_,_,rfl,w3,bandI _ _⟩

theorem newV {n:Nat} (h1:1 ≤ n) (h6:n ≤ 6):fi (n:Int) = some ([(1,pTop (n:Int),pTop (n:Int))],List.replicate n 1):=by
 have hin:pIn (n:Int) 1 6 = true:=by unfold pIn; rw [dT (by omega),dT (by omega)]; rfl
 obtain ⟨t,ht,ht2⟩:=shlS hin
 obtain ⟨d,hd,rfl⟩:=loop_inv (step:=fun z:Int × List Int=>dX (n:Int) z.1 z.2) (fun k z=>z.1 = (k:Int) ∧ z.2 = List.replicate k 1) n (fun d=>d = List.replicate n 1)
  (fun k z hk ⟨e1,e2⟩=>by
   obtain ⟨i,l⟩:=z
   simp only at e1 e2
   subst e1 e2
   left
   refine ⟨(((k + 1:Nat):Int),List.replicate k 1 ++ [1]),?_,rfl,?_⟩
   · show dX (n:Int) (k:Int) _ = _
     unfold dX
     rw [dlt (by omega),cT,app_small (by simp; omega),obs,w64_nat (by omega)]
   · show List.replicate k 1 ++ [1] = _
     rw [← List.replicate_succ'])
  (fun z ⟨e1,e2⟩=>by
   obtain ⟨i,l⟩:=z
   simp only at e1 e2
   subst e1 e2
   refine ⟨_,?_,rfl⟩
   show dX (n:Int) _ _ = _
   unfold dX
   rw [dnlt (by omega),cF]) (x:=(0,[])) ⟨rfl,rfl⟩
 unfold fi
 rw [inS,obs,hin,Bool.not_true,cF,ht,obs,hd,obs,ht2]
theorem newVT {n:Nat} (h1:1 ≤ n) (h6:n ≤ 6):VT ([(1,pTop (n:Int),pTop (n:Int))],List.replicate n 1) n:=by
 have hin:pIn (n:Int) 1 6 = true:=by unfold pIn; rw [dT (by omega),dT (by omega)]; rfl
 have ht:=topLe hin
 have hrow:ao ([(1,pTop (n:Int),pTop (n:Int))],List.replicate n 1) 1 = some 0:=by
  unfold ao
  rw [loop_of (k:=1) (b:=.inr 0) (by rfl)]
  rfl
 have hb:(bclr .i64 (pTop (n:Int)) (pTop (n:Int)) != 0) = false:=by
  rcases range6 hin with h | h | h | h | h | h <;> rw [h] <;> decide
 refine ⟨?_,fun r hr=>?_⟩
 · unfold pVtab
   rw [hin]
   show (!(!true || (((List.replicate n (1:Int)).length:Int) != (n:Int) || decide ((1:Int) > 6))) && (!(List.range 1).any _ && !(List.range (List.replicate n (1:Int)).length).any _)) = true
   rw [List.length_replicate]
   have e1:(((n:Int)) != (n:Int)) = false:=by simp
   rw [e1]
   have e2:(List.range 1).any (bRow ([(1,pTop (n:Int),pTop (n:Int))],List.replicate n 1) (n:Int)) = false:=by
    show (bRow ([(1,pTop (n:Int),pTop (n:Int))],List.replicate n 1) (n:Int) 0 || false) = false
    unfold bRow
    show ((!(pIn 1 1 99) || ((decide (0 < 0) && _) || (!(pIn (pTop (n:Int)) 0 (pTop (n:Int))) || (bclr .i64 (pTop (n:Int)) (pTop (n:Int)) != 0)))) || false) = false
    rw [hb]
    have:pIn (pTop (n:Int)) 0 (pTop (n:Int)) = true:=by unfold pIn; rw [dT (by omega),dT (by omega)]; rfl
    rw [this]; rfl
   rw [e2]
   have e3:(List.range n).any (bPvid ([(1,pTop (n:Int),pTop (n:Int))],List.replicate n 1)) = false:=by
    apply Bool.eq_false_iff.2
    intro h
    obtain ⟨k,hk,hx⟩:=any_eq_true.1 h
    have hk:=mem_range.1 hk
    unfold bPvid at hx
    have:(List.replicate n (1:Int))[k]? = some 1:=by rw [List.getElem?_replicate,if_pos hk]
    simp only [this,hrow] at hx
    revert hx; decide
   rw [e3]; rfl
 · have hr:r ∈ [((1:Int),pTop (n:Int),pTop (n:Int))]:=hr
   simp at hr
   subst hr
   exact ⟨by show _ ≤ pTop (n:Int); omega,by show pTop (n:Int) ≤ _; omega⟩
theorem drawV {c:L1Cur} (h:CW c) {n:Nat} (h1:1 ≤ n) (h6:n ≤ 6):∃ c' v,fq c (n:Int) = some (c',v) ∧ CW c' ∧ VT v n:=by
 unfold fq
 obtain ⟨c0,m,e0,w0,hm⟩:=belowN h (n:=6) (by decide)
 rw [newV h1 h6,obs]
 have e0':aa c 6 = some (c0,(m:Int)):=e0
 rw [e0',obs]
 obtain ⟨d,hd,g1,g2⟩:=loop_inv (step:=fun z:Int × List Int × Int × Int × List Vrow × List Int=>ee (n:Int) z.1 z.2.1 z.2.2.1 z.2.2.2.1 z.2.2.2.2.1 z.2.2.2.2.2) (fun k z=>z.1 = (m:Int) - (k:Int) ∧ CW (z.2.1,z.2.2.1,z.2.2.2.1) ∧ VT z.2.2.2.2 n) m (fun d=>CW (d.1,d.2.1,d.2.2.1) ∧ VT d.2.2.2 n)
  (fun k z hk ⟨a1,a2,a3⟩=>by
   obtain ⟨i,x,y,s,v⟩:=z
   simp only at a1 a2 a3
   left
   show ∃ y',ee (n:Int) i x y s v.1 v.2 = _ ∧ _
   unfold ee
   have hi:decide (i > 0) = true:=dT (by omega)
   have hw:w64 (i - 1) = (m:Int) - ((k + 1:Nat):Int):=by rw [w64_id (by omega) (by omega)]; omega
   obtain ⟨c1,r1,e1,w1,_⟩:=belowD a2 4
   rw [hi,cT,e1,obs,hw]
   show ∃ y',cond (r1 == 0) _ _ = _ ∧ _
   cases r1 == 0 with
   | true =>
    obtain ⟨c2,r2,e2,w2,_⟩:=belowD w1 (n:Int)
    obtain ⟨c3,r3,e3,w3,_⟩:=belowD w2 3
    obtain ⟨v',ok,e4,g4⟩:=pvidV a3 r2 (w64 (1 + r3))
    have e4':fm (v.1,v.2) r2 (w64 (1 + r3)) = some (v',ok):=e4
    rw [cT,e2,obs,e3,obs,e4',obs]
    exact ⟨_,rfl,rfl,w3,g4⟩
   | false =>
    rw [cF]
    show ∃ y',cond (r1 == 1) _ _ = _ ∧ _
    cases r1 == 1 with
    | true =>
     obtain ⟨c2,r2,e2,w2,_⟩:=belowD w1 2
     obtain ⟨v',ok,e4,g4⟩:=dropV a3 (w64 (2 + r2))
     have e4':fo (v.1,v.2) (w64 (2 + r2)) = some (v',ok):=e4
     rw [cT,e2,obs,e4',obs]
     exact ⟨_,rfl,rfl,w2,g4⟩
    | false =>
     obtain ⟨c2,r2,e2,w2,hr2⟩:=row2D w1 h1 h6
     obtain ⟨v',ok,e4,g4⟩:=putV a3 hr2
     have e4':fp (v.1,v.2) r2 = some (v',ok):=e4
     rw [cF,e2,obs,e4',obs]
     exact ⟨_,rfl,rfl,w2,g4⟩)
  (fun z ⟨a1,a2,a3⟩=>by
   obtain ⟨i,x,y,s,v⟩:=z
   simp only at a1 a2 a3
   refine ⟨(x,y,s,v),?_,a2,a3⟩
   show ee (n:Int) i x y s v.1 v.2 = _
   unfold ee
   have hi:decide (i > 0) = false:=dF (by omega)
   rw [hi,cF]) (x:=((m:Int),c0.1,c0.2.1,c0.2.2,[(1,pTop (n:Int),pTop (n:Int))],List.replicate n 1)) ⟨by simp,w0,newVT h1 h6⟩
 rw [hd,obs]
 exact ⟨_,_,rfl,g1,g2⟩
theorem vecD {c:L1Cur} (h:CW c):∃ c' v,gI c = some (c',v) ∧ CW c' ∧ pVec v = true:=by
 obtain ⟨c1,k1,e1,w1,b1⟩:=belowN h (n:=5) (by decide)
 obtain ⟨c2,x2,e2,w2,b2⟩:=intD w1 (l:=[0,1,2,5,10,100]) (by decide)
 obtain ⟨c3,x3,e3,w3,b3⟩:=intD w2 (l:=[0,1,2,9,10]) (by decide)
 obtain ⟨c4,k4,e4,w4,b4⟩:=belowN w3 (n:=5) (by decide)
 obtain ⟨c5,k5,e5,w5,b5⟩:=belowN w4 (n:=4) (by decide)
 have e1':aa c 5 = some (c1,(k1:Int)):=e1
 have e4':aa c3 5 = some (c4,(k4:Int)):=e4
 have e5':aa c4 4 = some (c5,(k5:Int)):=e5
 unfold gI
 rw [e1',obs,e2,obs,e3,obs,e4',obs,e5',obs]
 refine ⟨_,_,rfl,w5,?_⟩
 show pVec (w64 (1 + (k1:Int)),x2,x3,w64 (1 + (k4:Int)),(k5:Int)) = true
 rw [w64_id (by omega) (by omega),w64_id (by omega) (by omega)]
 have i1:pIn (1 + (k1:Int)) 1 99 = true:=by unfold pIn; rw [dT (by omega),dT (by omega)]; rfl
 have i4:pIn (1 + (k4:Int)) 1 99 = true:=by unfold pIn; rw [dT (by omega),dT (by omega)]; rfl
 have i5:pIn (k5:Int) 0 7 = true:=by unfold pIn; rw [dT (by omega),dT (by omega)]; rfl
 have i2:pIn x2 0 100000 = true:=by
  have:∀ x ∈ ([0,1,2,5,10,100]:List Int),pIn x 0 100000 = true:=by decide
  exact this x2 b2
 have i3:pIn x3 0 10 = true:=by
  have:∀ x ∈ ([0,1,2,9,10]:List Int),pIn x 0 10 = true:=by decide
  exact this x3 b3
 unfold pVec
 rw [i1,i2,i3,i4,i5]; rfl
theorem portsD {c:L1Cur} (h:CW c) {n:Nat} (h6:n ≤ 6):∃ c' l,fk c (n:Int) = some (c',l) ∧ CW c' ∧ l.length = n ∧ ∀ x ∈ l,pPt x = true:=by
 unfold fk
 obtain ⟨d,hd,g1,g2,g3⟩:=loop_inv (step:=fun z:Int × List Int × Int × Int × List Pt=>dZ (n:Int) z.1 z.2.1 z.2.2.1 z.2.2.2.1 z.2.2.2.2) (fun k z=>z.1 = (k:Int) ∧ CW (z.2.1,z.2.2.1,z.2.2.2.1) ∧ z.2.2.2.2.length = k ∧ ∀ x ∈ z.2.2.2.2,pPt x = true) n (fun d=>CW (d.1,d.2.1,d.2.2.1) ∧ d.2.2.2.length = n ∧ ∀ x ∈ d.2.2.2,pPt x = true)
  (fun k z hk ⟨a1,a2,a3,a4⟩=>by
   obtain ⟨i,x,y,s,l⟩:=z
   simp only at a1 a2 a3 a4
   subst a1
   left
   show ∃ y',dZ (n:Int) (k:Int) x y s l = _ ∧ _
   unfold dZ
   obtain ⟨c1,up,e1,w1⟩:=onceD a2 4
   obtain ⟨c2,cost,e2,w2,b2⟩:=intD w1 (l:=[1,1,2,5,10]) (by decide)
   have hc:pIn cost 1 1000 = true:=by
    have:∀ x ∈ ([1,1,2,5,10]:List Int),pIn x 1 1000 = true:=by decide
    exact this cost b2
   have ha:∀ q:Pt,app l [q] = some (l ++ [q]):=fun q=>app_small (by show l.length + 1 ≤ _; omega)
   have hin:∀ q:Pt,pPt q = true → (l ++ [q]).length = k + 1 ∧ ∀ x ∈ l ++ [q],pPt x = true:=fun q hq=>⟨by simp; omega,fun x hx=>by
    simp at hx
    rcases hx with hx | rfl
    · exact a4 x hx
    · exact hq⟩
   rw [dlt (by omega),cT,e1,obs,e2,obs,w64_nat (by omega)]
   show ∃ y',cond (!up) _ _ = _ ∧ _
   cases up with
   | true =>
    simp only [ha,Bool.not_true,cF,obs]
    obtain ⟨q1,q2⟩:=hin (false,cost,false,0,0,0,0,0) (by unfold pPt; rw [hc]; rfl)
    exact ⟨_,rfl,rfl,w2,q1,q2⟩
   | false =>
    obtain ⟨c3,has,e3,w3⟩:=onceD w2 4
    rw [Bool.not_false,cT,e3,obs]
    show ∃ y',cond (!has) _ _ = _ ∧ _
    cases has with
    | true =>
     simp only [ha,Bool.not_true,cF,obs]
     obtain ⟨q1,q2⟩:=hin (true,cost,false,0,0,0,0,0) (by unfold pPt; rw [hc]; rfl)
     exact ⟨_,rfl,rfl,w3,q1,q2⟩
    | false =>
     obtain ⟨c4,v,e4,w4,hv⟩:=vecD w3
     simp only [ha,Bool.not_false,cT,obs,e4]
     obtain ⟨q1,q2⟩:=hin (true,cost,true,v.1,v.2.1,v.2.2.1,v.2.2.2.1,v.2.2.2.2) (by unfold pPt; rw [hc]; exact hv)
     exact ⟨_,rfl,rfl,w4,q1,q2⟩)
  (fun z ⟨a1,a2,a3,a4⟩=>by
   obtain ⟨i,x,y,s,l⟩:=z
   simp only at a1 a2 a3 a4
   subst a1
   refine ⟨(x,y,s,l),?_,a2,a3,a4⟩
   show dZ (n:Int) _ x y s l = _
   unfold dZ
   rw [dnlt (by omega),cF]) (x:=(0,c.1,c.2.1,c.2.2,[])) ⟨rfl,h,rfl,fun x hx=>absurd hx not_mem_nil⟩
 rw [hd,obs]
 exact ⟨_,_,rfl,g1,g2,g3⟩

def lt (a b:Fent):Prop:=a.1 < b.1 ∨ (a.1 = b.1 ∧ a.2.1 < b.2.1)
def same (a b:Fent):Prop:=a.1 = b.1 ∧ a.2.1 = b.2.1
theorem lt_trans {a b c:Fent} (h:lt a b) (k:lt b c):lt a c:=by unfold lt at *; omega
theorem lt_ne {a b:Fent} (h:lt a b):¬ same a b:=by unfold lt same at *; omega
structure FB (l:List Fent):Prop where
 e:∀ x ∈ l,pFent x = true
 o:l.Pairwise lt
 n:l.length ≤ 12
theorem FB.ok {l:List Fent} (h:FB l):pFdb l = true:=by
 unfold pFdb
 have hn:=h.n
 rw [dT (show (l.length:Int) ≤ 12 by omega),Bool.and_true,Bool.not_eq_true']
 apply Bool.eq_false_iff.2
 intro ha
 obtain ⟨k,hk,hx⟩:=any_eq_true.1 ha
 have hk:=mem_range.1 hk
 unfold bFent at hx
 simp only [List.getElem?_eq_getElem hk,h.e _ (getElem_mem hk),Bool.not_true,Bool.false_or,aT,decide_eq_true_eq] at hx
 obtain ⟨h0,hx⟩:=hx
 simp only [List.getElem?_eq_getElem (show k - 1 < l.length by omega),Bool.not_eq_true'] at hx
 have hl:=pairwise_iff_getElem.1 h.o (k - 1) k (by omega) hk (by omega)
 unfold pBehind at hx
 simp only [Bool.or_eq_false_iff,Bool.and_eq_false_iff,decide_eq_false_iff_not,bF] at hx
 unfold lt at hl
 omega
theorem okF {l:List Fent} (h:FB l):cO l = some true:=by
 have hn:=h.n
 rw [fdbS (by omega),h.ok]
theorem FB.copy {l:List Fent} (h:FB l):ca l = some l:=by
 have hn:=h.n
 unfold ca
 rw [app_small (by show 0 + l.length ≤ _; omega)]; rfl
theorem atF {l:List Fent} (hn:l.length < 9223372036854775807) (tag mac:Int):∃ r,cg l tag mac = some r ∧ ((r = -1 ∧ ∀ x ∈ l,¬ (x.1 = tag ∧ x.2.1 = mac)) ∨ ∃ k:Nat,∃ hk:k < l.length,r = (k:Int) ∧ l[k].1 = tag ∧ l[k].2.1 = mac):=by
 obtain ⟨v,h1,h2⟩:=loop_inv (step:=fun z=>aP l tag mac z) (fun k i=>i = (k:Int) ∧ ∀ x ∈ l.take k,¬ (x.1 = tag ∧ x.2.1 = mac)) l.length (fun v=>(v = .inl () ∧ ∀ x ∈ l,¬ (x.1 = tag ∧ x.2.1 = mac)) ∨ ∃ k:Nat,∃ hk:k < l.length,v = .inr (k:Int) ∧ l[k].1 = tag ∧ l[k].2.1 = mac)
  (fun k i hk ⟨e,hx⟩=>by
   subst e
   have hs:aP l tag mac (k:Int) = cond (l[k].1 == tag && l[k].2.1 == mac) (some (.inr (.inr (k:Int)))) (some (.inl ((k + 1:Nat):Int))):=by
    unfold aP
    simp only [dlt (show (k:Int) < (l.length:Int) by omega),cT,at_nat hk,obs,w64_nat (show k < 9223372036854775807 by omega)]
    cases l[k].1 == tag <;> rfl
   cases hb:(l[k].1 == tag && l[k].2.1 == mac) with
   | true =>
    simp only [aT,beq_iff_eq] at hb
    refine .inr ⟨_,by rw [hs]; rw [show (l[k].1 == tag && l[k].2.1 == mac) = true by simp [hb.1,hb.2]]; rfl,.inr ⟨k,hk,rfl,hb.1,hb.2⟩⟩
   | false =>
    refine .inl ⟨_,by rw [hs,hb]; rfl,rfl,fun x hx'=>?_⟩
    rw [take_add_one,List.getElem?_eq_getElem hk,mem_append] at hx'
    rcases hx' with hx' | hx'
    · exact hx x hx'
    · simp at hx'
      subst hx'
      intro ⟨q1,q2⟩
      rw [q1,q2] at hb
      simp at hb)
  (fun i ⟨e,hx⟩=>by
   subst e
   rw [take_length] at hx
   refine ⟨.inl (),?_,.inl ⟨rfl,hx⟩⟩
   show aP l tag mac _ = _
   unfold aP
   rw [dnlt (by omega),cF]) (x:=0) ⟨rfl,by simp⟩
 unfold cg
 rw [h1,obs]
 rcases h2 with ⟨rfl,h2⟩ | ⟨k,hk,rfl,h2⟩
 · exact ⟨_,rfl,.inl ⟨rfl,h2⟩⟩
 · exact ⟨_,rfl,.inr ⟨k,hk,rfl,h2⟩⟩
def aheadB (x e:Fent):Bool:=cond (x.1 != e.1) (decide (x.1 < e.1)) (decide (x.2.1 < e.2.1))
theorem ahead_lt {x e:Fent} (h:aheadB x e = true):lt x e:=by
 unfold aheadB at h
 unfold lt
 by_cases hx:x.1 = e.1
 · rw [show (x.1 != e.1) = false by simp [hx],cF] at h
   exact .inr ⟨hx,of_decide_eq_true h⟩
 · rw [show (x.1 != e.1) = true from bne_iff_ne.2 hx,cT] at h
   exact .inl (of_decide_eq_true h)
theorem not_ahead {x e:Fent} (h:aheadB x e = false):lt e x ∨ same x e:=by
 unfold aheadB at h
 unfold lt same
 by_cases hx:x.1 = e.1
 · rw [show (x.1 != e.1) = false by simp [hx],cF] at h
   have:=of_decide_eq_false h
   omega
 · rw [show (x.1 != e.1) = true from bne_iff_ne.2 hx,cT] at h
   have:=of_decide_eq_false h
   omega
def otherB (x e:Fent):Bool:=x.1 != e.1 || x.2.1 != e.2.1
theorem other_true {x e:Fent} (h:otherB x e = true):¬ same x e:=by
 unfold otherB at h; unfold same
 simp only [Bool.or_eq_true,bne_iff_ne] at h
 omega
theorem other_false {x e:Fent} (h:otherB x e = false):same x e:=by
 unfold otherB at h; unfold same
 simp only [Bool.or_eq_false_iff,bne_eq_false_iff_eq] at h
 exact h
theorem pair_snoc {l:List Fent} {x:Fent} (h:l.Pairwise lt) (k:∀ y ∈ l,lt y x):(l ++ [x]).Pairwise lt:=by
 rw [pairwise_append]
 exact ⟨h,List.pairwise_singleton _ _,fun a ha b hb=>by simp at hb; subst hb; exact k a ha⟩
theorem putF {l:List Fent} (h:FB l) {e:Fent} (he:pFent e = true) (hroom:(∃ x ∈ l,same x e) ∨ l.length < 12):∃ y,fr l e = some y ∧ FB y:=by
 have hn:=h.n
 have hlt:∀ i j (hi:i < l.length) (hj:j < l.length),i < j → lt l[i] l[j]:=pairwise_iff_getElem.1 h.o
 obtain ⟨d,hd,g⟩:=loop_inv (step:=fun z:Bool × Int × List Fent=>da l e z.1 z.2.1 z.2.2)
  (fun k z=>z.2.1 = (k:Int) ∧ (∀ x ∈ z.2.2,pFent x = true) ∧ z.2.2.Pairwise lt ∧
   (z.1 = false → z.2.2 = l.take k ∧ ∀ x ∈ l.take k,lt x e) ∧
   (z.1 = true → (∀ x ∈ z.2.2,∀ j (hj:j < l.length),k ≤ j → lt x l[j]) ∧ (∀ j (hj:j < l.length),k ≤ j → lt e l[j]) ∧ z.2.2.length ≤ k + 1 ∧ ((∃ x ∈ l.take k,same x e) → z.2.2.length ≤ k))) l.length
  (fun d=>(∀ x ∈ d.2,pFent x = true) ∧ d.2.Pairwise lt ∧ (d.1 = false → d.2 = l ∧ ∀ x ∈ l,lt x e) ∧ (d.1 = true → d.2.length ≤ l.length + 1 ∧ ((∃ x ∈ l,same x e) → d.2.length ≤ l.length)))
  (fun k z hk ⟨e1,e2,e3,e4,e5⟩=>by
   obtain ⟨t,i,b⟩:=z
   simp only at e1 e2 e3 e4 e5
   subst e1
   left
   have hf:pFent l[k] = true:=h.e _ (getElem_mem hk)
   have hbl:b.length ≤ 100:=by
    cases t with
    | false=>rw [(e4 rfl).1,length_take]; omega
    | true=>have:=(e5 rfl).2.2.1; omega
   have ha:∀ (xs:List Fent) (y:Fent),xs.length ≤ 101 → app xs [y] = some (xs ++ [y]):=fun xs y h=>app_small (by show xs.length + 1 ≤ _; omega)
   have htk:l.take (k + 1) = l.take k ++ [l[k]]:=by rw [take_add_one,List.getElem?_eq_getElem hk]; rfl
   have hs:da l e t (k:Int) b = cond (!t && !(aheadB l[k] e))
    (cond (otherB l[k] e) (some (.inl (true,((k + 1:Nat):Int),b ++ [e] ++ [l[k]]))) (some (.inl (true,((k + 1:Nat):Int),b ++ [e]))))
    (cond (otherB l[k] e) (some (.inl (t,((k + 1:Nat):Int),b ++ [l[k]]))) (some (.inl (t,((k + 1:Nat):Int),b)))):=by
    have hA:bZ l[k] e.1 e.2.1 = some (aheadB l[k] e):=by unfold bZ aheadB; cases (l[k].1 != e.1) <;> rfl
    have hO:(cond (l[k].1 != e.1) (some true) (some (l[k].2.1 != e.2.1))) = some (otherB l[k] e):=by unfold otherB; cases (l[k].1 != e.1) <;> rfl
    unfold da
    simp only [dlt (show (k:Int) < (l.length:Int) by omega),cT,at_nat hk,obs,w64_nat (show k < 9223372036854775807 by omega),hA,hO,ha b e (by omega),ha b l[k] (by omega),ha (b ++ [e]) l[k] (by rw [length_append]; show b.length + 1 ≤ _; omega)]
    cases t <;> cases aheadB l[k] e <;> rfl
   show ∃ y,da l e t (k:Int) b = _ ∧ _
   rw [hs]
   cases t with
   | false =>
    obtain ⟨f1,f2⟩:=e4 rfl
    subst f1
    cases hah:aheadB l[k] e with
    | true =>
     have hl:=ahead_lt hah
     have ho:otherB l[k] e = true:=by
      cases ho:otherB l[k] e with
      | true=>rfl
      | false=>exact absurd (other_false ho) (lt_ne hl)
     rw [ho]
     refine ⟨_,rfl,rfl,fun x hx=>?_,?_,fun _=>⟨by show l.take k ++ [l[k]] = _; rw [htk],fun x hx=>?_⟩,(fun ht=>by cases ht)⟩
     · have hx:x ∈ l.take k ++ [l[k]]:=hx
       rcases mem_append.1 hx with hx | hx
       · exact e2 x hx
       · simp at hx; subst hx; exact hf
     · show (l.take k ++ [l[k]]).Pairwise lt
       rw [← htk]; exact List.Pairwise.sublist (List.take_sublist _ _) h.o
     · rw [htk] at hx
       rcases mem_append.1 hx with hx | hx
       · exact f2 x hx
       · simp at hx; subst hx; exact hl
    | false =>
     have hge:=not_ahead hah
     have hpe:(l.take k ++ [e]).Pairwise lt:=pair_snoc e3 f2
     have hee:∀ x ∈ l.take k ++ [e],pFent x = true:=fun x hx=>by
      rcases mem_append.1 hx with hx | hx
      · exact e2 x hx
      · simp at hx; subst hx; exact he
     have hlater:∀ j (hj:j < l.length),k + 1 ≤ j → lt e l[j]:=fun j hj hkj=>by
      have h1:=hlt k j hk hj (by omega)
      rcases hge with h2 | h2
      · exact lt_trans h2 h1
      · unfold same at h2; unfold lt at h1 ⊢; omega
     have htl:∀ x ∈ l.take k,∀ j (hj:j < l.length),k + 1 ≤ j → lt x l[j]:=fun x hx j hj hkj=>lt_trans (f2 x hx) (hlater j hj hkj)
     have hlen:(l.take k).length = k:=by rw [length_take]; omega
     cases ho:otherB l[k] e with
     | true =>
      have hek:lt e l[k]:=by
       rcases hge with h2 | h2
       · exact h2
       · exact absurd h2 (other_true ho)
      refine ⟨_,rfl,rfl,fun x hx=>?_,?_,(fun ht=>by cases ht),fun _=>⟨fun x hx j hj hkj=>?_,hlater,?_,fun ⟨x,hx,hxe⟩=>?_⟩⟩
      · have hx:x ∈ l.take k ++ [e] ++ [l[k]]:=hx
        rcases mem_append.1 hx with hx | hx
        · exact hee x hx
        · simp at hx; subst hx; exact hf
      · show (l.take k ++ [e] ++ [l[k]]).Pairwise lt
        refine pair_snoc hpe fun y hy=>?_
        rcases mem_append.1 hy with hy | hy
        · exact lt_trans (f2 y hy) hek
        · simp at hy; subst hy; exact hek
      · have hx:x ∈ l.take k ++ [e] ++ [l[k]]:=hx
        rcases mem_append.1 hx with hx | hx
        · rcases mem_append.1 hx with hx | hx
          · exact htl x hx j hj hkj
          · simp at hx; subst hx; exact hlater j hj hkj
        · simp at hx; subst hx; exact hlt k j hk hj (by omega)
      · show (l.take k ++ [e] ++ [l[k]]).length ≤ _
        simp only [length_append,hlen,List.length_singleton]; omega
      · rw [htk] at hx
        rcases mem_append.1 hx with hx | hx
        · exact absurd hxe (lt_ne (f2 x hx))
        · simp at hx; subst hx; exact absurd hxe (other_true ho)
     | false =>
      refine ⟨_,rfl,rfl,hee,hpe,(fun ht=>by cases ht),fun _=>⟨fun x hx j hj hkj=>?_,hlater,?_,fun _=>?_⟩⟩
      · have hx:x ∈ l.take k ++ [e]:=hx
        rcases mem_append.1 hx with hx | hx
        · exact htl x hx j hj hkj
        · simp at hx; subst hx; exact hlater j hj hkj
      · show (l.take k ++ [e]).length ≤ _
        simp only [length_append,hlen,List.length_singleton]; omega
      · show (l.take k ++ [e]).length ≤ _
        simp only [length_append,hlen,List.length_singleton]; omega
   | true =>
    obtain ⟨f1,f2,f3,f4⟩:=e5 rfl
    cases ho:otherB l[k] e with
    | true =>
     refine ⟨_,rfl,rfl,fun x hx=>?_,pair_snoc e3 fun y hy=>f1 y hy k hk (Nat.le_refl _),(fun ht=>by cases ht),fun _=>⟨fun x hx j hj hkj=>?_,fun j hj hkj=>f2 j hj (by omega),?_,fun ⟨x,hx,hxe⟩=>?_⟩⟩
     · have hx:x ∈ b ++ [l[k]]:=hx
       rcases mem_append.1 hx with hx | hx
       · exact e2 x hx
       · simp at hx; subst hx; exact hf
     · have hx:x ∈ b ++ [l[k]]:=hx
       rcases mem_append.1 hx with hx | hx
       · exact f1 x hx j hj (by omega)
       · simp at hx; subst hx; exact hlt k j hk hj (by omega)
     · show (b ++ [l[k]]).length ≤ _
       rw [length_append]; show b.length + 1 ≤ _; omega
     · show (b ++ [l[k]]).length ≤ _
       rw [htk] at hx
       rcases mem_append.1 hx with hx | hx
       · have:=f4 ⟨x,hx,hxe⟩
         rw [length_append]; show b.length + 1 ≤ _; omega
       · simp at hx; subst hx; exact absurd hxe (other_true ho)
    | false =>
     exact ⟨_,rfl,rfl,e2,e3,(fun ht=>by cases ht),fun _=>⟨fun x hx j hj hkj=>f1 x hx j hj (by omega),fun j hj hkj=>f2 j hj (by omega),by show b.length ≤ _; omega,fun _=>by show b.length ≤ _; omega⟩⟩)
  (fun z ⟨e1,e2,e3,e4,e5⟩=>by
   obtain ⟨t,i,b⟩:=z
   simp only at e1 e2 e3 e4 e5
   subst e1
   rw [take_length] at e4 e5
   refine ⟨(t,b),?_,e2,e3,e4,fun ht=>⟨(e5 ht).2.2.1,(e5 ht).2.2.2⟩⟩
   show da l e t _ b = _
   unfold da
   rw [dnlt (by omega),cF]) (x:=(false,0,[])) ⟨rfl,fun x hx=>absurd hx not_mem_nil,List.Pairwise.nil,fun _=>⟨by simp,fun x hx=>by simp at hx⟩,(fun ht=>by cases ht)⟩
 obtain ⟨g1,g2,g3,g4⟩:=g
 unfold fr
 rw [hd,obs]
 obtain ⟨t,b⟩:=d
 simp only at g1 g2 g3 g4
 cases t with
 | true =>
  refine ⟨b,rfl,g1,g2,?_⟩
  obtain ⟨k1,k2⟩:=g4 rfl
  rcases hroom with hr | hr
  · have:=k2 hr; omega
  · omega
 | false =>
  obtain ⟨k1,k2⟩:=g3 rfl
  have hr:l.length < 12:=by
   rcases hroom with ⟨x,hx,hxe⟩ | hr
   · exact absurd hxe (lt_ne (k2 x hx))
   · exact hr
  show ∃ y,((app b [e]).bind fun zs=>some zs) = some y ∧ FB y
  rw [k1,app_small (by show l.length + 1 ≤ _; omega),obs]
  refine ⟨_,rfl,fun x hx=>?_,pair_snoc h.o k2,by rw [length_append]; show l.length + 1 ≤ 12; omega⟩
  rcases mem_append.1 hx with hx | hx
  · exact h.e x hx
  · simp at hx; subst hx; exact he
theorem entF (e:Fent):cN e = some (pFent e):=by rw [fentS]; exact fentT e
theorem learnF {l:List Fent} (h:FB l) (tag mac port:Int):∃ y,gK l tag mac port = some y ∧ FB y:=by
 have hn:=h.n
 obtain ⟨r,hr,hr2⟩:=atF (l:=l) (by omega) tag mac
 unfold gK
 rw [hr,obs,okF h,obs,entF,obs,h.copy,obs,Bool.not_true,cF,obs]
 cases he:pFent (tag,mac,port,0,false) with
 | false=>exact ⟨_,rfl,h⟩
 | true =>
  rcases hr2 with ⟨rfl,hr2⟩ | ⟨k,hk,rfl,q1,q2⟩
  · rw [Bool.not_true,cF]
    by_cases hlen:l.length < 12
    · obtain ⟨y,hy,hy2⟩:=putF h he (.inr hlen)
      refine ⟨y,?_,hy2⟩
      rw [hy]
      show (cond (decide ((l.length:Int) ≥ 12)) _ _) = _
      rw [dF (by omega)]; rfl
    · refine ⟨l,?_,h⟩
      show (cond (decide ((l.length:Int) ≥ 12)) _ _) = _
      rw [dT (by omega)]; rfl
  · simp only [Bool.not_true,cF,dT (show (k:Int) ≥ 0 by omega),cT,at_nat hk,obs,dnlt (show ¬ (k:Int) < 0 by omega)]
    obtain ⟨y,hy,hy2⟩:=putF h he (.inl ⟨l[k],getElem_mem hk,q1,q2⟩)
    cases l[k].2.2.2.2 with
    | true=>exact ⟨_,rfl,h⟩
    | false=>exact ⟨y,by rw [hy]; rfl,hy2⟩
theorem staticF {l:List Fent} (h:FB l) (tag mac port:Int):∃ y ok,ft l tag mac port = some (y,ok) ∧ FB y:=by
 have hn:=h.n
 obtain ⟨r,hr,hr2⟩:=atF (l:=l) (by omega) tag mac
 unfold ft
 rw [hr,obs,okF h,obs,entF,obs,h.copy,obs,Bool.not_true,cF,obs]
 cases he:pFent (tag,mac,port,0,true) with
 | false=>exact ⟨_,_,rfl,h⟩
 | true =>
  rcases hr2 with ⟨rfl,hr2⟩ | ⟨k,hk,rfl,q1,q2⟩
  · rw [Bool.not_true,cF]
    by_cases hlen:l.length < 12
    · obtain ⟨y,hy,hy2⟩:=putF h he (.inr hlen)
      refine ⟨y,true,?_,hy2⟩
      rw [hy]
      show (cond (decide ((l.length:Int) ≥ 12)) _ _) = _
      rw [dF (by omega)]; rfl
    · refine ⟨l,false,?_,h⟩
      show (cond (decide ((l.length:Int) ≥ 12)) _ _) = _
      rw [dT (by omega)]; rfl
  · rw [Bool.not_true,cF,dnlt (show ¬ (k:Int) < 0 by omega),cF,obs]
    obtain ⟨y,hy,hy2⟩:=putF h he (.inl ⟨l[k],getElem_mem hk,q1,q2⟩)
    rw [obs,cF,hy]
    exact ⟨y,true,rfl,hy2⟩

theorem newB {id n:Nat} (i1:1 ≤ id) (i2:id ≤ 99) (h1:1 ≤ n) (h6:n ≤ 6):∃ ps rs qs,fj (id:Int) (n:Int) = some ((id:Int),[],ps,[],rs,qs,0,0,0,0,0):=by
 have hin:pIn (n:Int) 1 6 = true:=by unfold pIn; rw [dT (by omega),dT (by omega)]; rfl
 have hid:pIn (id:Int) 1 99 = true:=by unfold pIn; rw [dT (by omega),dT (by omega)]; rfl
 obtain ⟨d,hd,ps,rfl⟩:=loop_inv (step:=fun z:Int × Int × List UInt8 × Int × Int × Int × Int × Int × List Pt × List Fent=>dY (n:Int) z.1 z.2.1 z.2.2.1 z.2.2.2.1 z.2.2.2.2.1 z.2.2.2.2.2.1 z.2.2.2.2.2.2.1 z.2.2.2.2.2.2.2.1 z.2.2.2.2.2.2.2.2.1 z.2.2.2.2.2.2.2.2.2)
  (fun k z=>∃ ps:List Pt,ps.length = k ∧ z = ((k:Int),(id:Int),[],0,0,0,0,0,ps,[])) n (fun d=>∃ ps:List Pt,d = ((id:Int),[],0,0,0,0,0,ps,[]))
  (fun k z hk ⟨ps,hp,e⟩=>by
   subst e
   left
   refine ⟨(((k + 1:Nat):Int),(id:Int),[],0,0,0,0,0,ps ++ [(false,1,false,0,0,0,0,0)],[]),?_,ps ++ [(false,1,false,0,0,0,0,0)],by simp; exact hp,rfl⟩
   show dY (n:Int) (k:Int) (id:Int) [] 0 0 0 0 0 ps [] = _
   unfold dY
   rw [dlt (by omega),cT,app_small (by show ps.length + 1 ≤ _; omega),obs,w64_nat (by omega)])
  (fun z ⟨ps,hp,e⟩=>by
   subst e
   refine ⟨((id:Int),[],0,0,0,0,0,ps,[]),?_,ps,rfl⟩
   show dY (n:Int) _ (id:Int) [] 0 0 0 0 0 ps [] = _
   unfold dY
   rw [dnlt (by omega),cF]) (x:=(0,(id:Int),[],0,0,0,0,0,[],[])) ⟨[],rfl,rfl⟩
 unfold fj
 rw [inS,obs,hid,Bool.not_true,cF,inS,obs,hin,obs,Bool.not_true,cF,newV h1 h6,obs,hd,obs]
 exact ⟨_,_,_,rfl⟩
theorem macD {c:L1Cur} (h:CW c):∃ c' x,ef c = some (c',x) ∧ CW c':=by
 obtain ⟨c1,x,e,w,_⟩:=intD h (l:=[11,12,13,14]) (by decide)
 unfold ef
 rw [e,obs]
 exact ⟨_,_,rfl,w⟩
def Zero (b:Bridge):Prop:=b.2.2.2.2.2.2.2.1 = 0 ∧ b.2.2.2.2.2.2.2.2.1 = 0 ∧ b.2.2.2.2.2.2.2.2.2.1 = 0
theorem bridgeZ {c:L1Cur} (h:CW c):∃ c' b,fB c = some (c',b) ∧ CW c' ∧ BWf b ∧ pBridge b = true ∧ Zero b:=by
 obtain ⟨c1,p,e1,w1,b1⟩:=belowN h (n:=4) (by decide)
 obtain ⟨c2,q,e2,w2,b2⟩:=belowN w1 (n:=5) (by decide)
 have e1':aa c 4 = some (c1,(p:Int)):=e1
 have e2':aa c1 5 = some (c2,(q:Int)):=e2
 have hp:w64 (1 + (p:Int)) = ((p + 1:Nat):Int):=by rw [w64_id (by omega) (by omega)]; omega
 have hq:w64 (1 + (q:Int)) = ((q + 1:Nat):Int):=by rw [w64_id (by omega) (by omega)]; omega
 obtain ⟨ps,rs,qs,e3⟩:=newB (id:=q + 1) (n:=p + 1) (by omega) (by omega) (by omega) (by omega)
 obtain ⟨c4,name,e4,w4,b4⟩:=strD w2 (l:=[[],[121,97,114,100],[98,49]]) (by decide)
 obtain ⟨c5,pts,e5,w5,l5,a5⟩:=portsD w4 (n:=p + 1) (by omega)
 obtain ⟨c6,v,e6,w6,a6⟩:=drawV w5 (n:=p + 1) (by omega) (by omega)
 obtain ⟨c7,m,e7,w7,b7⟩:=belowN w6 (n:=6) (by decide)
 have e7':aa c6 6 = some (c7,(m:Int)):=e7
 have hname:name.length ≤ 10:=by
  have:∀ x ∈ ([[],[121,97,114,100],[98,49]]:List (List UInt8)),x.length ≤ 10:=by decide
  exact this name b4
 obtain ⟨d,hd,g1,g2,g3,g4⟩:=loop_inv (step:=fun z:Int × List Int × Int × Int × Int × List UInt8 × Int × Int × Int × Int × Int × List Fent=>eg (c1,(p:Int)) z.1 z.2.1 z.2.2.1 z.2.2.2.1 z.2.2.2.2.1 z.2.2.2.2.2.1 z.2.2.2.2.2.2.1 z.2.2.2.2.2.2.2.1 z.2.2.2.2.2.2.2.2.1 z.2.2.2.2.2.2.2.2.2.1 z.2.2.2.2.2.2.2.2.2.2.1 z.2.2.2.2.2.2.2.2.2.2.2)
  (fun k z=>z.1 = (m:Int) - (k:Int) ∧ CW (z.2.1,z.2.2.1,z.2.2.2.1) ∧ (z.2.2.2.2.1 = ((q + 1:Nat):Int) ∧ z.2.2.2.2.2.1 = name) ∧ (z.2.2.2.2.2.2.1,z.2.2.2.2.2.2.2.1,z.2.2.2.2.2.2.2.2.1,z.2.2.2.2.2.2.2.2.2.1,z.2.2.2.2.2.2.2.2.2.2.1) = ((0:Int),(0:Int),(0:Int),(0:Int),(0:Int)) ∧ FB z.2.2.2.2.2.2.2.2.2.2.2) m
  (fun d=>CW (d.1,d.2.1,d.2.2.1) ∧ (d.2.2.2.1 = ((q + 1:Nat):Int) ∧ d.2.2.2.2.1 = name) ∧ (d.2.2.2.2.2.1,d.2.2.2.2.2.2.1,d.2.2.2.2.2.2.2.1,d.2.2.2.2.2.2.2.2.1,d.2.2.2.2.2.2.2.2.2.1) = ((0:Int),(0:Int),(0:Int),(0:Int),(0:Int)) ∧ FB d.2.2.2.2.2.2.2.2.2.2)
  (fun k z hk ⟨a1,a2,a3,a4,a5⟩=>by
   obtain ⟨i,x,y,s,bid,nm,n6,n7,n8,n9,n10,f⟩:=z
   simp only at a1 a2 a3 a4 a5
   left
   show ∃ y',eg (c1,(p:Int)) i x y s bid nm n6 n7 n8 n9 n10 f = _ ∧ _
   unfold eg
   have hi:decide (i > 0) = true:=dT (by omega)
   have hw:w64 (i - 1) = (m:Int) - ((k + 1:Nat):Int):=by rw [w64_id (by omega) (by omega)]; omega
   obtain ⟨d1,r1,f1,v1,_⟩:=belowD a2 3
   obtain ⟨d2,r2,f2,v2⟩:=macD v1
   obtain ⟨d3,r3,f3,v3,_⟩:=belowD v2 (w64 (1 + (p:Int)))
   obtain ⟨y',f4,g4⟩:=learnF a5 (w64 (1 + r1)) r2 r3
   rw [hi,cT,f1,obs,f2,obs,f3,obs,f4,obs,hw]
   exact ⟨_,rfl,rfl,v3,a3,a4,g4⟩)
  (fun z ⟨a1,a2,a3,a4,a5⟩=>by
   obtain ⟨i,x,y,s,bid,nm,n6,n7,n8,n9,n10,f⟩:=z
   simp only at a1 a2 a3 a4 a5
   refine ⟨(x,y,s,bid,nm,n6,n7,n8,n9,n10,f),?_,a2,a3,a4,a5⟩
   show eg (c1,(p:Int)) i x y s bid nm n6 n7 n8 n9 n10 f = _
   unfold eg
   have hi:decide (i > 0) = false:=dF (by omega)
   rw [hi,cF]) (x:=((m:Int),c7.1,c7.2.1,c7.2.2,((q + 1:Nat):Int),name,0,0,0,0,0,[])) ⟨by simp,w7,⟨rfl,rfl⟩,rfl,⟨fun x hx=>absurd hx not_mem_nil,List.Pairwise.nil,by simp⟩⟩
 obtain ⟨dc,dp,ds,did,dn,n6,n7,n8,n9,n10,df⟩:=d
 simp only at g1 g2 g3 g4
 obtain ⟨rfl,rfl⟩:=g2
 simp only [Prod.mk.injEq] at g3
 obtain ⟨rfl,rfl,rfl,rfl,rfl⟩:=g3
 obtain ⟨c8,st,e8,w8⟩:=onceD g1 3
 obtain ⟨z1,z2,z3,z4⟩:=a6.len
 have hin:∀ n:Nat,n ≤ 1000000 → pIn (n:Int) 0 1000000 = true:=fun n hn=>by unfold pIn; rw [dT (by omega),dT (by omega)]; rfl
 have hlast:∀ (c:L1Cur) (F:List Fent),CW c → FB F → ∃ c' b,((aa c 5).bind fun t59=>(ai t59.1 ([0,1,5,1000000]:List Int)).bind fun t63=>some (t63.1,((((q + 1:Nat):Int),dn,pts,F,v.1,v.2,t59.2,0,0,0,t63.2):Bridge))) = some (c',b) ∧ CW c' ∧ BWf b ∧ pBridge b = true ∧ Zero b:=by
  intro c F hc hF
  obtain ⟨k1,t,f1,u1,b1⟩:=belowN hc (n:=5) (by decide)
  have f1':aa c 5 = some (k1,(t:Int)):=f1
  obtain ⟨k2,x,f2,u2,b2⟩:=intD u1 (l:=[0,1,5,1000000]) (by decide)
  have hx:pIn x 0 1000000 = true:=by
   have:∀ x ∈ ([0,1,5,1000000]:List Int),pIn x 0 1000000 = true:=by decide
   exact this x b2
  have hFn:=hF.n
  rw [f1',obs,f2,obs]
  refine ⟨_,_,rfl,u2,⟨by show pts.length < _; omega,by show F.length < _; omega,by show v.1.length < _; omega,by show v.2.length < _; omega,a6.r⟩,?_,rfl,rfl,rfl⟩
  unfold pBridge pCounts
  show (!((List.range pts.length).any (bPt pts)) && (pIn ((q + 1:Nat):Int) 1 99 && (!(decide ((dn.length:Int) > 10)) && (pIn (pts.length:Int) 1 6 && (pFdb F && (pVtab v (pts.length:Int) && (pIn (t:Int) 0 1000000 && (pIn 0 0 1000000 && (pIn 0 0 1000000 && (pIn 0 0 1000000 && pIn x 0 1000000)))))))))) = true
  have q1:(List.range pts.length).any (bPt pts) = false:=by
   apply Bool.eq_false_iff.2
   intro ha
   obtain ⟨k,hk,hx⟩:=any_eq_true.1 ha
   have hk:=mem_range.1 hk
   unfold bPt at hx
   simp only [List.getElem?_eq_getElem hk,a5 _ (getElem_mem hk)] at hx
   revert hx; decide
  have q2:pIn ((q + 1:Nat):Int) 1 99 = true:=by unfold pIn; rw [dT (by omega),dT (by omega)]; rfl
  have q3:decide ((dn.length:Int) > 10) = false:=dF (by omega)
  have q4:pIn (pts.length:Int) 1 6 = true:=by unfold pIn; rw [dT (by omega),dT (by omega)]; rfl
  rw [q1,q2,q3,q4,hF.ok,l5,a6.p,hin t (by omega),hx]
  rfl
 have e8':bK (dc,dp,ds) 3 = some (c8,st):=e8
 unfold fB
 rw [e1',obs]
 show ∃ c' b,((aa c1 5).bind _) = _ ∧ _
 rw [e2',obs]
 show ∃ c' b,((fj (w64 (1 + (q:Int))) (w64 (1 + (p:Int)))).bind _) = _ ∧ _
 rw [hp,hq,e3,obs,e4,obs]
 show ∃ c' b,((fk c4 ((p + 1:Nat):Int)).bind _) = _ ∧ _
 rw [e5,obs]
 show ∃ c' b,((fq c5 ((p + 1:Nat):Int)).bind _) = _ ∧ _
 rw [e6,obs]
 show ∃ c' b,((aa c6 6).bind _) = _ ∧ _
 rw [e7',obs]
 show ∃ c' b,((loop _ ((m:Int),c7.1,c7.2.1,c7.2.2,((q + 1:Nat):Int),dn,0,0,0,0,0,[])).bind _) = _ ∧ _
 rw [hd,obs]
 show ∃ c' b,((bK (dc,dp,ds) 3).bind _) = _ ∧ _
 rw [e8',obs]
 cases st with
 | false =>
  show ∃ c' b,((aa c8 5).bind _) = _ ∧ _
  exact hlast c8 df w8 g4
 | true =>
  obtain ⟨k1,x1,f1,u1⟩:=macD w8
  obtain ⟨k2,x2,f2,u2,_⟩:=belowD u1 ((p + 1:Nat):Int)
  obtain ⟨F,ok,f3,hF⟩:=staticF g4 1 x1 x2
  show ∃ c' b,((ef c8).bind _) = _ ∧ _
  rw [f1,obs]
  show ∃ c' b,((aa k1 ((p + 1:Nat):Int)).bind _) = _ ∧ _
  rw [f2,obs]
  show ∃ c' b,((ft df 1 x1 x2).bind _) = _ ∧ _
  rw [f3,obs]
  exact hlast k2 F u2 hF
noncomputable def portV (b:Bridge) (c p:Int):Int:=(bS b c p).getD 0
def num (name:List Int) (n:Int):Bind:=([1,3,1] ++ name,2,n,[],[])
def rowVal (r:Vrow) (c:Nat):Int:=match c with | 0=>1 | 1=>r.2.1 | _=>r.2.2
noncomputable def portG (b:Bridge) (c:Nat):List Bind:=(List.range b.2.2.1.length).map fun k=>num [2,((c + 1:Nat):Int),((k + 1:Nat):Int)] (portV b ((c + 1:Nat):Int) (k:Int))
def rowG (b:Bridge) (c:Nat):List Bind:=b.2.2.2.2.1.map fun r=>num [3,((c + 1:Nat):Int),r.1] (rowVal r c)
def fdbG (b:Bridge):List Bind:=b.2.2.2.1.map fun e=>num [4,1,e.1,e.2.1] (w64 (e.2.2.1 + 1))
noncomputable def mib (b:Bridge):List Bind:=mib5 b ++ (List.range 4).flatMap (portG b) ++ (List.range 3).flatMap (rowG b) ++ fdbG b
theorem step_num {out:List Bind} (name:List Int) (n i:Int) (h1:out.length ≤ 900) (h2:name.length ≤ 900):((aV n).bind fun v=>(aF v name).bind fun t=>(app out [t]).bind fun zs=>some (Sum.inl (w64 (i + 1),zs):(Int × List Bind) ⊕ List Bind)) = some (Sum.inl (w64 (i + 1),out ++ [num name n])):=by
 unfold aV aF
 rw [obs,app_small (by show 3 + name.length ≤ _; omega),obs,obs,app_small (by show out.length + 1 ≤ _; omega),obs]
 rfl
theorem portX {b:Bridge} (h:BWf b) (hq:b.2.2.1.length = b.2.2.2.2.2.1.length) (h6:b.2.2.1.length ≤ 6) (c:Nat) (out:List Bind) (ho:out.length ≤ 500):loop (fun z=>bA b ((c + 1:Nat):Int) z.1 z.2) (0,out) = some (out ++ portG b c):=by
 obtain ⟨v,h1,rfl⟩:=loop_inv (step:=fun z:Int × List Bind=>bA b ((c + 1:Nat):Int) z.1 z.2) (fun k z=>z.1 = (k:Int) ∧ z.2 = out ++ (List.range k).map fun k=>num [2,((c + 1:Nat):Int),((k + 1:Nat):Int)] (portV b ((c + 1:Nat):Int) (k:Int))) b.2.2.1.length (fun v=>v = out ++ portG b c)
  (fun k z hk ⟨e1,e2⟩=>by
   obtain ⟨i,l⟩:=z
   simp only at e1 e2
   subst e1
   left
   obtain ⟨n,hn⟩:=portT h ((c + 1:Nat):Int) hk hq
   have hv:portV b ((c + 1:Nat):Int) (k:Int) = n:=by unfold portV; rw [hn]; rfl
   have hl:l.length ≤ 900:=by rw [e2]; simp; omega
   refine ⟨(((k + 1:Nat):Int),l ++ [num [2,((c + 1:Nat):Int),((k + 1:Nat):Int)] n]),?_,rfl,?_⟩
   · show bA b ((c + 1:Nat):Int) (k:Int) l = _
     unfold bA
     rw [dlt (by omega),cT,hn,obs,step_num _ _ _ hl (by simp),w64_nat (by omega)]
   · show l ++ [num _ n] = _
     rw [e2,range_succ,map_append,← append_assoc,List.map_singleton,hv])
  (fun z ⟨e1,e2⟩=>by
   obtain ⟨i,l⟩:=z
   simp only at e1 e2
   subst e1
   refine ⟨l,?_,e2⟩
   show bA b ((c + 1:Nat):Int) _ l = _
   unfold bA
   rw [dnlt (by omega),cF]) (x:=(0,out)) ⟨rfl,by simp⟩
 exact h1
theorem portsX {b:Bridge} (h:BWf b) (hq:b.2.2.1.length = b.2.2.2.2.2.1.length) (h6:b.2.2.1.length ≤ 6) (out:List Bind) (ho:out.length ≤ 100):loop (fun z=>bT b z.1 z.2) (1,out) = some (out ++ (List.range 4).flatMap (portG b)):=by
 have hg:∀ c,(portG b c).length ≤ 6:=fun c=>by unfold portG; rw [length_map,List.length_range]; exact h6
 obtain ⟨v,h1,rfl⟩:=loop_inv (step:=fun z:Int × List Bind=>bT b z.1 z.2) (fun k z=>z.1 = ((k + 1:Nat):Int) ∧ z.2 = out ++ (List.range k).flatMap (portG b) ∧ z.2.length ≤ 100 + 6 * k) 4 (fun v=>v = out ++ (List.range 4).flatMap (portG b))
  (fun k z hk ⟨e1,e2,e3⟩=>by
   obtain ⟨i,l⟩:=z
   simp only at e1 e2 e3
   subst e1
   left
   have hg':=hg k
   refine ⟨(((k + 1 + 1:Nat):Int),l ++ portG b k),?_,rfl,?_,by show (l ++ portG b k).length ≤ _; rw [length_append]; omega⟩
   · show bT b ((k + 1:Nat):Int) l = _
     unfold bT
     rw [dT (show ((k + 1:Nat):Int) ≤ 4 by omega),cT,portX h hq h6 k l (by omega),obs,w64_nat (by omega)]
   · show l ++ portG b k = _
     rw [e2,range_succ,List.flatMap_append,← append_assoc]; simp)
  (fun z ⟨e1,e2,e3⟩=>by
   obtain ⟨i,l⟩:=z
   simp only at e1 e2 e3
   subst e1
   exact ⟨l,rfl,e2⟩) (x:=(1,out)) ⟨rfl,by simp,by show out.length ≤ _; omega⟩
 exact h1
theorem rowX {b:Bridge} (h6:b.2.2.2.2.1.length ≤ 6) {c:Nat} (hc:c < 3) (out:List Bind) (ho:out.length ≤ 500):loop (fun z=>bB b ((c + 1:Nat):Int) z.1 z.2) (0,out) = some (out ++ rowG b c):=by
 obtain ⟨v,h1,rfl⟩:=loop_inv (step:=fun z:Int × List Bind=>bB b ((c + 1:Nat):Int) z.1 z.2) (fun k z=>z.1 = (k:Int) ∧ z.2 = out ++ (b.2.2.2.2.1.take k).map fun r=>num [3,((c + 1:Nat):Int),r.1] (rowVal r c)) b.2.2.2.2.1.length (fun v=>v = out ++ rowG b c)
  (fun k z hk ⟨e1,e2⟩=>by
   obtain ⟨i,l⟩:=z
   simp only at e1 e2
   subst e1
   left
   have hl:l.length ≤ 900:=by rw [e2]; simp; omega
   refine ⟨(((k + 1:Nat):Int),l ++ [num [3,((c + 1:Nat):Int),b.2.2.2.2.1[k].1] (rowVal b.2.2.2.2.1[k] c)]),?_,rfl,?_⟩
   · show bB b ((c + 1:Nat):Int) (k:Int) l = _
     unfold bB
     rw [dlt (by omega),cT,at_nat hk,obs]
     generalize b.2.2.2.2.1[k] = r
     have hw:w64 (((c + 1:Nat):Int) - 1) = (c:Int):=by rw [w64_id (by omega) (by omega)]; omega
     have hx:(ix [1,r.2.1,r.2.2].length (w64 (((c + 1:Nat):Int) - 1))).bind (fun j91=>([1,r.2.1,r.2.2][j91]?).bind fun x92=>(aV x92).bind fun t93=>(aF t93 [3,((c + 1:Nat):Int),r.1]).bind fun t98=>(app l [t98]).bind fun zs100=>some (Sum.inl (w64 ((k:Int) + 1),zs100):(Int × List Bind) ⊕ List Bind)) = (aV (rowVal r c)).bind fun t93=>(aF t93 [3,((c + 1:Nat):Int),r.1]).bind fun t98=>(app l [t98]).bind fun zs100=>some (Sum.inl (w64 ((k:Int) + 1),zs100)):=by
      rw [hw,ix_nat (show c < [1,r.2.1,r.2.2].length from hc),obs]
      rcases (show c = 0 ∨ c = 1 ∨ c = 2 by omega) with rfl | rfl | rfl <;> rfl
     rw [hx,step_num _ _ _ hl (by simp),w64_nat (by omega)]
   · show l ++ [num _ _] = _
     rw [e2,take_add_one,List.getElem?_eq_getElem hk,map_append,← append_assoc]; rfl)
  (fun z ⟨e1,e2⟩=>by
   obtain ⟨i,l⟩:=z
   simp only at e1 e2
   subst e1
   rw [take_length] at e2
   refine ⟨l,?_,e2⟩
   show bB b ((c + 1:Nat):Int) _ l = _
   unfold bB
   rw [dnlt (by omega),cF]) (x:=(0,out)) ⟨rfl,by simp⟩
 exact h1
theorem rowsX {b:Bridge} (h6:b.2.2.2.2.1.length ≤ 6) (out:List Bind) (ho:out.length ≤ 200):loop (fun z=>bU b z.1 z.2) (1,out) = some (out ++ (List.range 3).flatMap (rowG b)):=by
 have hg:∀ c,(rowG b c).length ≤ 6:=fun c=>by unfold rowG; rw [length_map]; exact h6
 obtain ⟨v,h1,rfl⟩:=loop_inv (step:=fun z:Int × List Bind=>bU b z.1 z.2) (fun k z=>z.1 = ((k + 1:Nat):Int) ∧ z.2 = out ++ (List.range k).flatMap (rowG b) ∧ z.2.length ≤ 200 + 6 * k) 3 (fun v=>v = out ++ (List.range 3).flatMap (rowG b))
  (fun k z hk ⟨e1,e2,e3⟩=>by
   obtain ⟨i,l⟩:=z
   simp only at e1 e2 e3
   subst e1
   left
   have hg':=hg k
   refine ⟨(((k + 1 + 1:Nat):Int),l ++ rowG b k),?_,rfl,?_,by show (l ++ rowG b k).length ≤ _; rw [length_append]; omega⟩
   · show bU b ((k + 1:Nat):Int) l = _
     unfold bU
     rw [dT (show ((k + 1:Nat):Int) ≤ 3 by omega),cT,rowX h6 hk l (by omega),obs,w64_nat (by omega)]
   · show l ++ rowG b k = _
     rw [e2,range_succ,List.flatMap_append,← append_assoc]; simp)
  (fun z ⟨e1,e2,e3⟩=>by
   obtain ⟨i,l⟩:=z
   simp only at e1 e2 e3
   subst e1
   exact ⟨l,rfl,e2⟩) (x:=(1,out)) ⟨rfl,by simp,by show out.length ≤ _; omega⟩
 exact h1
theorem fdbX {b:Bridge} (h12:b.2.2.2.1.length ≤ 12) (out:List Bind) (ho:out.length ≤ 500):loop (fun z=>bh b z.1 z.2) (0,out) = some (out ++ fdbG b):=by
 obtain ⟨v,h1,rfl⟩:=loop_inv (step:=fun z:Int × List Bind=>bh b z.1 z.2) (fun k z=>z.1 = (k:Int) ∧ z.2 = out ++ (b.2.2.2.1.take k).map fun e=>num [4,1,e.1,e.2.1] (w64 (e.2.2.1 + 1))) b.2.2.2.1.length (fun v=>v = out ++ fdbG b)
  (fun k z hk ⟨e1,e2⟩=>by
   obtain ⟨i,l⟩:=z
   simp only at e1 e2
   subst e1
   left
   have hl:l.length ≤ 900:=by rw [e2]; simp; omega
   refine ⟨(((k + 1:Nat):Int),l ++ [num [4,1,b.2.2.2.1[k].1,b.2.2.2.1[k].2.1] (w64 (b.2.2.2.1[k].2.2.1 + 1))]),?_,rfl,?_⟩
   · show bh b (k:Int) l = _
     unfold bh
     rw [dlt (by omega),cT,at_nat hk,obs,step_num _ _ _ hl (by simp),w64_nat (by omega)]
   · show l ++ [num _ _] = _
     rw [e2,take_add_one,List.getElem?_eq_getElem hk,map_append,← append_assoc]; rfl)
  (fun z ⟨e1,e2⟩=>by
   obtain ⟨i,l⟩:=z
   simp only at e1 e2
   subst e1
   rw [take_length] at e2
   refine ⟨l,?_,e2⟩
   show bh b _ l = _
   unfold bh
   rw [dnlt (by omega),cF]) (x:=(0,out)) ⟨rfl,by simp⟩
 exact h1
structure BOk (b:Bridge):Prop where
 w:BWf b
 ok:pBridge b = true
 p:∀ x ∈ b.2.2.1,pPt x = true
 id:pIn b.1 1 99 = true
 name:b.2.1.length ≤ 10
 n1:1 ≤ b.2.2.1.length
 n6:b.2.2.1.length ≤ 6
 f:pFdb b.2.2.2.1 = true
 v:pVtab (b.2.2.2.2.1,b.2.2.2.2.2.1) (b.2.2.1.length:Int) = true
 c:pCounts b = true
theorem bok {b:Bridge} (h:BWf b) (hb:pBridge b = true):BOk b:=by
 have hb':=hb
 unfold pBridge at hb
 simp only [aT,Bool.not_eq_true',decide_eq_false_iff_not] at hb
 obtain ⟨h1,h2,h3,h4,h5,h6,h7⟩:=hb
 refine ⟨h,hb',fun x hx=>?_,h2,by omega,?_,?_,h5,h6,h7⟩
 · obtain ⟨k,hk,rfl⟩:=getElem_of_mem hx
   cases hp:pPt b.2.2.1[k] with
   | true=>rfl
   | false =>
    have:=any_eq_false.1 h1 k (mem_range.2 hk)
    unfold bPt at this
    simp only [List.getElem?_eq_getElem hk,hp] at this
    exact absurd rfl this
 · unfold pIn at h4
   simp only [aT,decide_eq_true_eq] at h4; omega
 · unfold pIn at h4
   simp only [aT,decide_eq_true_eq] at h4; omega
theorem BOk.vt {b:Bridge} (h:BOk b):VT (b.2.2.2.2.1,b.2.2.2.2.2.1) b.2.2.1.length:=⟨h.v,h.w.r⟩
theorem BOk.f12 {b:Bridge} (h:BOk b):b.2.2.2.1.length ≤ 12:=by
 have hf:=h.f
 unfold pFdb at hf
 simp only [aT,decide_eq_true_eq] at hf
 omega
theorem mibX {b:Bridge} (h:BOk b):bC b = some (mib b):=by
 obtain ⟨v1,v2,v3,v4⟩:=h.vt.len
 have v3':b.2.2.2.2.2.1.length = b.2.2.1.length:=v3
 have v4':b.2.2.2.2.1.length ≤ 6:=v4
 have hp:((List.range 4).flatMap (portG b)).length ≤ 24:=by
  have hg:∀ c,(portG b c).length ≤ 6:=fun c=>by unfold portG; rw [length_map,List.length_range]; exact h.n6
  have h0:=hg 0; have h1:=hg 1; have h2:=hg 2; have h3:=hg 3
  show (portG b 0 ++ (portG b 1 ++ (portG b 2 ++ (portG b 3 ++ [])))).length ≤ 24
  simp only [length_append,length_nil]; omega
 have hr:((List.range 3).flatMap (rowG b)).length ≤ 18:=by
  have hg:∀ c,(rowG b c).length ≤ 6:=fun c=>by unfold rowG; rw [length_map]; exact v4'
  have h0:=hg 0; have h1:=hg 1; have h2:=hg 2
  show (rowG b 0 ++ (rowG b 1 ++ (rowG b 2 ++ []))).length ≤ 18
  simp only [length_append,length_nil]; omega
 have k5:(mib5 b).length = 5:=rfl
 rw [mibT h.w,h.ok,Bool.not_true,cF]
 unfold mibRest
 rw [portsX h.w v3'.symm h.n6 (mib5 b) (by omega),obs,rowsX v4' _ (by rw [length_append]; omega),obs,fdbX h.f12 _ (by rw [length_append,length_append]; omega),obs]
 rfl

theorem adj_pair {α:Type} {R:α → α → Prop} (tr:∀ a b c,R a b → R b c → R a c) {l:List α} (h:∀ k (hk:k + 1 < l.length),R l[k] l[k + 1]):l.Pairwise R:=by
 rw [pairwise_iff_getElem]
 intro i j hi hj hij
 induction j with
 | zero=>omega
 | succ j ih =>
  by_cases e:i = j
  · subst e; exact h i hj
  · exact tr _ _ _ (ih (by omega) (by omega)) (h j hj)
def Head (g c:Int) (x:Bind):Prop:=∃ t,x.1 = 1 :: 3 :: 1 :: g :: c :: t
theorem head_lt {g c g' c':Int} {x y:Bind} (hx:Head g c x) (hy:Head g' c' y) (h:g < g' ∨ (g = g' ∧ c < c')):x.1 < y.1:=by
 obtain ⟨t,ht⟩:=hx
 obtain ⟨s,hs⟩:=hy
 rw [ht,hs]
 simp only [cons_lt_cons_iff,Int.lt_irrefl,false_or,true_and]
 rcases h with h | ⟨h,k⟩
 · exact .inl h
 · exact .inr ⟨h,.inl k⟩
theorem portG_head {b:Bridge} {c:Nat} {x:Bind} (h:x ∈ portG b c):Head 2 ((c + 1:Nat):Int) x:=by
 unfold portG at h
 obtain ⟨k,_,rfl⟩:=mem_map.1 h
 exact ⟨_,rfl⟩
theorem rowG_head {b:Bridge} {c:Nat} {x:Bind} (h:x ∈ rowG b c):Head 3 ((c + 1:Nat):Int) x:=by
 unfold rowG at h
 obtain ⟨k,_,rfl⟩:=mem_map.1 h
 exact ⟨_,rfl⟩
theorem fdbG_head {b:Bridge} {x:Bind} (h:x ∈ fdbG b):Head 4 1 x:=by
 unfold fdbG at h
 obtain ⟨k,_,rfl⟩:=mem_map.1 h
 exact ⟨_,rfl⟩
theorem mib5_head {b:Bridge} {x:Bind} (h:x ∈ mib5 b):∃ c,Head 1 c x:=by
 unfold mib5 at h
 simp only [mem_cons,not_mem_nil,or_false] at h
 rcases h with rfl | rfl | rfl | rfl | rfl <;> exact ⟨_,_,rfl⟩
theorem ports_pair (b:Bridge) (c:Nat):(portG b c).Pairwise fun x y=>x.1 < y.1:=by
 unfold portG
 rw [List.pairwise_map]
 refine List.Pairwise.imp ?_ List.pairwise_lt_range
 intro i j h
 show (1 :: 3 :: 1 :: 2 :: ((c + 1:Nat):Int) :: ((i + 1:Nat):Int) :: []) < (1 :: 3 :: 1 :: 2 :: ((c + 1:Nat):Int) :: ((j + 1:Nat):Int) :: [])
 simp only [cons_lt_cons_iff,Int.lt_irrefl,false_or,true_and]
 exact .inl (by omega)
theorem rows_rise {b:Bridge} (h:BOk b):b.2.2.2.2.1.Pairwise fun r s=>r.1 < s.1:=by
 refine adj_pair (R:=fun (r s:Vrow)=>r.1 < s.1) (fun _ _ _ h k=>Int.lt_trans h k) fun k hk=>?_
 have hv:=h.v
 unfold pVtab at hv
 simp only [aT,Bool.not_eq_true'] at hv
 have hx:=any_eq_false.1 hv.2.1 (k + 1) (mem_range.2 hk)
 unfold bRow at hx
 simp only [List.getElem?_eq_getElem hk,Nat.add_sub_cancel,List.getElem?_eq_getElem (show k < b.2.2.2.2.1.length by omega),Bool.or_eq_true,aT,decide_eq_true_eq,not_or,not_and] at hx
 have:=hx.2.1 (by omega)
 omega
theorem rows_pair {b:Bridge} (h:BOk b) (c:Nat):(rowG b c).Pairwise fun x y=>x.1 < y.1:=by
 unfold rowG
 rw [List.pairwise_map]
 refine List.Pairwise.imp ?_ (rows_rise h)
 intro r s h
 show (1 :: 3 :: 1 :: 3 :: ((c + 1:Nat):Int) :: r.1 :: []) < (1 :: 3 :: 1 :: 3 :: ((c + 1:Nat):Int) :: s.1 :: [])
 simp only [cons_lt_cons_iff,Int.lt_irrefl,false_or,true_and]
 exact .inl h
theorem fdb_rise {b:Bridge} (h:BOk b):b.2.2.2.1.Pairwise lt:=by
 refine adj_pair (R:=lt) (fun _ _ _=>lt_trans) fun k hk=>?_
 have hv:=h.f
 unfold pFdb at hv
 simp only [aT,Bool.not_eq_true'] at hv
 have hx:=any_eq_false.1 hv.1 (k + 1) (mem_range.2 hk)
 unfold bFent at hx
 simp only [List.getElem?_eq_getElem hk,Nat.add_sub_cancel,List.getElem?_eq_getElem (show k < b.2.2.2.1.length by omega),Bool.or_eq_true,aT,decide_eq_true_eq,not_or,not_and,Bool.not_eq_true',Bool.not_eq_false] at hx
 have hp:=hx.2 (by omega)
 unfold pBehind at hp
 simp only [Bool.or_eq_true,aT,decide_eq_true_eq,beq_iff_eq] at hp
 unfold lt
 omega
theorem fdb_pair {b:Bridge} (h:BOk b):(fdbG b).Pairwise fun x y=>x.1 < y.1:=by
 unfold fdbG
 rw [List.pairwise_map]
 refine List.Pairwise.imp ?_ (fdb_rise h)
 intro r s h
 show (1 :: 3 :: 1 :: 4 :: 1 :: r.1 :: r.2.1 :: []) < (1 :: 3 :: 1 :: 4 :: 1 :: s.1 :: s.2.1 :: [])
 unfold lt at h
 simp only [cons_lt_cons_iff,Int.lt_irrefl,false_or,true_and]
 rcases h with h | ⟨h,k⟩
 · exact .inl h
 · exact .inr ⟨h,.inl k⟩
theorem mib5_pair (b:Bridge):(mib5 b).Pairwise fun x y=>x.1 < y.1:=by
 unfold mib5
 simp only [pairwise_cons,mem_cons,not_mem_nil,or_false,forall_eq_or_imp,forall_eq,List.Pairwise.nil,and_true,false_imp_iff,implies_true,cons_lt_cons_iff,Int.lt_irrefl,false_or,true_and]
 refine ⟨⟨.inl (by decide),.inl (by decide),.inl (by decide),.inl (by decide)⟩,⟨.inl (by decide),.inl (by decide),.inl (by decide)⟩,⟨.inl (by decide),.inl (by decide)⟩,.inl (by decide)⟩
theorem flat4 {α:Type} (f:Nat → List α):(List.range 4).flatMap f = f 0 ++ (f 1 ++ (f 2 ++ (f 3 ++ []))):=rfl
theorem flat3 {α:Type} (f:Nat → List α):(List.range 3).flatMap f = f 0 ++ (f 1 ++ (f 2 ++ [])):=rfl
theorem group_pair {n:Nat} {f:Nat → List Bind} {g:Int} (hp:∀ c,(f c).Pairwise fun x y=>x.1 < y.1) (hh:∀ c x,x ∈ f c → Head g ((c + 1:Nat):Int) x):((List.range n).flatMap f).Pairwise fun x y=>x.1 < y.1:=by
 induction n with
 | zero=>exact List.Pairwise.nil
 | succ n ih =>
  rw [range_succ,List.flatMap_append,pairwise_append]
  refine ⟨ih,by simp; exact hp n,fun x hx y hy=>?_⟩
  obtain ⟨c,hc,hx⟩:=mem_flatMap.1 hx
  have hc:=mem_range.1 hc
  simp at hy
  exact head_lt (hh c x hx) (hh n y hy) (.inr ⟨rfl,by omega⟩)
theorem mib_pair {b:Bridge} (h:BOk b):(mib b).Pairwise fun x y=>x.1 < y.1:=by
 unfold mib
 rw [pairwise_append,pairwise_append,pairwise_append]
 refine ⟨⟨⟨mib5_pair b,group_pair (ports_pair b) (fun c x=>portG_head),fun x hx y hy=>?_⟩,group_pair (rows_pair h) (fun c x=>rowG_head),fun x hx y hy=>?_⟩,fdb_pair h,fun x hx y hy=>?_⟩
 · obtain ⟨c,hc⟩:=mib5_head hx
   obtain ⟨d,_,hy⟩:=mem_flatMap.1 hy
   exact head_lt hc (portG_head hy) (.inl (by decide))
 · obtain ⟨d,_,hy⟩:=mem_flatMap.1 hy
   rcases mem_append.1 hx with hx | hx
   · obtain ⟨c,hc⟩:=mib5_head hx
     exact head_lt hc (rowG_head hy) (.inl (by decide))
   · obtain ⟨e,_,hx⟩:=mem_flatMap.1 hx
     exact head_lt (portG_head hx) (rowG_head hy) (.inl (by decide))
 · rcases mem_append.1 hx with hx | hx
   · rcases mem_append.1 hx with hx | hx
     · obtain ⟨c,hc⟩:=mib5_head hx
       exact head_lt hc (fdbG_head hy) (.inl (by decide))
     · obtain ⟨e,_,hx⟩:=mem_flatMap.1 hx
       exact head_lt (portG_head hx) (fdbG_head hy) (.inl (by decide))
   · obtain ⟨e,_,hx⟩:=mem_flatMap.1 hx
     exact head_lt (rowG_head hx) (fdbG_head hy) (.inl (by decide))
theorem lex_at (p s t:List Int) {x y:Int} (h:x ≠ y):(p ++ x :: s < p ++ y :: t) ↔ x < y:=by
 induction p with
 | nil =>
  simp only [nil_append,cons_lt_cons_iff]
  exact ⟨fun k=>k.elim id fun k=>absurd k.1 h,.inl⟩
 | cons a p ih=>simp only [List.cons_append,cons_lt_cons_iff,ih,Int.lt_irrefl,false_or,true_and]
theorem lex_pre (p:List Int) {s:List Int} (h:s ≠ []):p < p ++ s:=by
 induction p with
 | nil=>cases s with
  | nil=>exact absurd rfl h
  | cons a s=>exact List.nil_lt_cons a s
 | cons a p ih=>simp only [List.cons_append,cons_lt_cons_iff,Int.lt_irrefl,false_or,true_and]; exact ih
theorem lex_suf (p s:List Int):¬ p ++ s < p:=by
 induction p with
 | nil=>exact List.not_lt_nil s
 | cons a p ih=>simp only [List.cons_append,cons_lt_cons_iff,Int.lt_irrefl,false_or,true_and]; exact ih
theorem lessO {a b:List Int} (h:b.length < 9223372036854775807):eI a b = some (decide (a < b)):=by
 have hsplit:∀ k,a.take k = b.take k → ∀ (ha:k < a.length) (hb:k < b.length),a = a.take k ++ a[k] :: a.drop (k + 1) ∧ b = a.take k ++ b[k] :: b.drop (k + 1):=by
  intro k e ha hb
  refine ⟨?_,?_⟩
  · rw [← drop_eq_getElem_cons ha,take_append_drop]
  · rw [e,← drop_eq_getElem_cons hb,take_append_drop]
 obtain ⟨v,h1,h2⟩:=loop_inv (step:=fun z=>dE a b z) (fun k i=>i = (k:Int) ∧ a.take k = b.take k) (min a.length b.length) (fun v=>(v = .inr (decide (a < b))) ∨ (v = .inl () ∧ decide ((a.length:Int) < (b.length:Int)) = decide (a < b)))
  (fun k i hk ⟨e,ht⟩=>by
   subst e
   have ha:k < a.length:=by omega
   have hb:k < b.length:=by omega
   have hs:dE a b (k:Int) = cond (a[k] != b[k]) (some (.inr (.inr (decide (a[k] < b[k]))))) (some (.inl ((k + 1:Nat):Int))):=by
    unfold dE
    rw [dlt (show (k:Int) < (a.length:Int) by omega),dlt (show (k:Int) < (b.length:Int) by omega),cT,obs,cT,at_nat ha,obs,at_nat hb,obs,w64_nat (by omega),obs,obs]
   obtain ⟨s1,s2⟩:=hsplit k ht ha hb
   by_cases hne:a[k] = b[k]
   · refine .inl ⟨_,by rw [hs,show (a[k] != b[k]) = false by simp [hne]]; rfl,rfl,?_⟩
     rw [take_add_one,take_add_one,List.getElem?_eq_getElem ha,List.getElem?_eq_getElem hb,ht,hne]
   · refine .inr ⟨_,by rw [hs,show (a[k] != b[k]) = true from bne_iff_ne.2 hne]; rfl,.inl ?_⟩
     congr 1
     apply decide_eq_decide.2
     have:=lex_at (a.take k) (a.drop (k + 1)) (b.drop (k + 1)) hne
     rw [← s1,← s2] at this
     exact this.symm)
  (fun i ⟨e,ht⟩=>by
   subst e
   refine ⟨.inl (),?_,.inr ⟨rfl,?_⟩⟩
   · show dE a b _ = _
     unfold dE
     by_cases h:a.length ≤ b.length
     · rw [Nat.min_eq_left h,dnlt (by omega)]; rfl
     · rw [Nat.min_eq_right (by omega),dlt (by omega),dnlt (show ¬ (b.length:Int) < (b.length:Int) by omega)]; rfl
   · apply decide_eq_decide.2
     by_cases h:a.length ≤ b.length
     · rw [Nat.min_eq_left h,take_length] at ht
       have hb:b = a ++ b.drop a.length:=by
        have:=take_append_drop a.length b
        rw [← ht] at this; exact this.symm
       constructor
       · intro hlt
         have hd:b.drop a.length ≠ []:=by
          intro h0
          have:=congrArg List.length h0
          rw [length_drop] at this
          simp at this; omega
         have:=lex_pre a hd
         rw [← hb] at this; exact this
       · intro hlt
         by_cases he:a.length = b.length
         · have hd:b.drop a.length = []:=List.drop_eq_nil_of_le (by omega)
           rw [hd,List.append_nil] at hb
           rw [hb] at hlt
           exact absurd hlt (List.lt_irrefl _)
         · omega
     · rw [Nat.min_eq_right (by omega),take_length] at ht
       have ha:a = b ++ a.drop b.length:=by
        have:=take_append_drop b.length a
        rw [ht] at this; exact this.symm
       constructor
       · intro hlt; omega
       · intro hlt
         have:=lex_suf b (a.drop b.length)
         rw [← ha] at this
         exact absurd hlt this) (x:=0) ⟨rfl,by simp⟩
 unfold eI
 rw [h1,obs]
 rcases h2 with rfl | ⟨rfl,h2⟩
 · rfl
 · show some (decide _) = _
   rw [h2]

theorem sameO {a b:List Int} (h:b.length < 9223372036854775807):aE a b = some (a == b):=by
 unfold aE
 by_cases hl:a.length = b.length
 · have e:((a.length:Int) != (b.length:Int)) = false:=by rw [hl]; simp
   rw [e,cF]
   obtain ⟨v,h1,rfl⟩:=loop_inv (step:=fun z=>dj a b z) (fun k i=>i = (k:Int) ∧ a.take k = b.take k) a.length (fun v=>v = cond (a == b) (.inl ()) (.inr false))
    (fun k i hk ⟨e,ht⟩=>by
     subst e
     have hb:k < b.length:=by omega
     have hs:dj a b (k:Int) = cond (a[k] != b[k]) (some (.inr (.inr false))) (some (.inl ((k + 1:Nat):Int))):=by
      unfold dj
      rw [dlt (by omega),cT,at_nat hk,obs,at_nat hb,obs,w64_nat (by omega)]
     by_cases hne:a[k] = b[k]
     · refine .inl ⟨_,by rw [hs,show (a[k] != b[k]) = false by simp [hne]]; rfl,rfl,?_⟩
       rw [take_add_one,take_add_one,List.getElem?_eq_getElem hk,List.getElem?_eq_getElem hb,ht,hne]
     · refine .inr ⟨_,by rw [hs,show (a[k] != b[k]) = true from bne_iff_ne.2 hne]; rfl,?_⟩
       have:(a == b) = false:=by
        apply beq_eq_false_iff_ne.2
        intro hab
        subst hab
        exact hne rfl
       rw [this]; rfl)
    (fun i ⟨e,ht⟩=>by
     subst e
     have hab:a = b:=by
      rw [take_length,List.take_of_length_le (by omega)] at ht; exact ht
     exact ⟨.inl (),by show dj a b _ = _; unfold dj; rw [dnlt (by omega),cF],by rw [show (a == b) = true from beq_iff_eq.2 hab]; rfl⟩) (x:=0) ⟨rfl,by simp⟩
   rw [h1,obs]
   cases (a == b) <;> rfl
 · have e:((a.length:Int) != (b.length:Int)) = true:=by simp; omega
   have hne:(a == b) = false:=beq_eq_false_iff_ne.2 fun h=>hl (by rw [h])
   rw [e,cT,hne]
structure Nm (o:List Int):Prop where
 n1:1 ≤ o.length
 n10:o.length ≤ 10
 e:∀ x ∈ o,pIn x 0 100000 = true
theorem Nm.ok {o:List Int} (h:Nm o):ak o = some true:=by
 have h10:=h.n10
 have h1:=h.n1
 unfold ak
 obtain ⟨v,e,rfl⟩:=loop_inv (step:=fun z=>aI o z) (fun k i=>i = (k:Int)) o.length (fun v=>v = .inl ())
  (fun k i hk e=>by
   subst e
   refine .inl ⟨((k + 1:Nat):Int),?_,rfl⟩
   show aI o (k:Int) = _
   unfold aI
   rw [dlt (by omega),cT,at_nat hk,obs,inT,obs,h.e _ (getElem_mem hk),w64_nat (by omega)]; rfl)
  (fun i e=>by
   subst e
   exact ⟨.inl (),by show aI o _ = _; unfold aI; rw [dnlt (by omega),cF],rfl⟩) (x:=0) rfl
 rw [e,obs]
 show ((ac (o.length:Int) 1 10).bind fun t=>some t) = _
 rw [inT,obs]
 unfold pIn
 rw [dT (by omega),dT (by omega)]; rfl
inductive Vl:Val → Prop
 | num {n:Int} (h:pIn n (-2147483648) 2147483647 = true):Vl (2,n,[],[])
 | word {s:List UInt8} (h:s.length ≤ 20):Vl (4,0,s,[])
theorem Vl.ok {v:Val} (h:Vl v):al v = some true:=by
 cases h with
 | num h =>
  unfold al az bf
  simp only [inT,h,obs,sameO (show ([]:List Int).length < 9223372036854775807 by decide)]
  simp
 | word h =>
  rename_i s
  have hd:decide ((s.length:Int) ≤ 20) = true:=dT (by omega)
  unfold al bf
  simp only [hd,obs,sameO (show ([]:List Int).length < 9223372036854775807 by decide)]
  simp
theorem Vl.k {v:Val} (h:Vl v):(v.1 == 128) = false:=by cases h <;> rfl
theorem Vl.o {v:Val} (h:Vl v):v.2.2.2 = []:=by cases h <;> rfl
theorem in32 {n:Int} (h1:0 ≤ n) (h2:n ≤ 2147483647):pIn n (-2147483648) 2147483647 = true:=by unfold pIn; rw [dT (by omega),dT (by omega)]; rfl
theorem inP {n a c:Int} (h1:a ≤ n) (h2:n ≤ c):pIn n a c = true:=by unfold pIn; rw [dT (by omega),dT (by omega)]; rfl
theorem inE {n a c:Int} (h:pIn n a c = true):a ≤ n ∧ n ≤ c:=by
 unfold pIn at h
 simp only [aT,decide_eq_true_eq] at h
 exact h
theorem rowAtE {v:Vtab} (hn:v.1.length < 9223372036854775807) {id r:Int} (h:ao v id = some r) (h0:¬ r < 0):∃ x ∈ v.1,x.1 = id:=by
 unfold ao at h
 obtain ⟨b,h1,h2⟩:=loop_inv (β:=Unit ⊕ Int) (step:=fun z=>aD v id z) (fun k i=>i = (k:Int)) v.1.length (fun b=>∀ r,b = .inr r → ∃ x ∈ v.1,x.1 = id)
  (fun k i hk h=>by
   subst h
   unfold aD
   rw [dlt (by omega),cT,at_nat hk,obs]
   cases hb:(v.1[k].1 == id) with
   | true=>exact .inr ⟨_,rfl,fun r hr=>⟨_,getElem_mem hk,eq_of_beq hb⟩⟩
   | false=>exact .inl ⟨_,rfl,w64_nat (by omega)⟩)
  (fun i h=>by
   subst h
   unfold aD
   rw [dnlt (by omega)]
   exact ⟨_,rfl,fun r hr=>by cases hr⟩) (x:=0) rfl
 rw [h1,obs] at h
 cases b with
 | inl _=>cases h; exact absurd (by decide) h0
 | inr r'=>exact h2 r' rfl
theorem role_in {id:Int} {l:List Pt} {p v:Int} (h:aL id l p = some v):1 ≤ v ∧ v ≤ 4:=by
 unfold aL at h
 rw [inT,obs] at h
 have key:∀ (o:Option Bool) (f:Bool → Option Int),(∀ t x,f t = some x → 1 ≤ x ∧ x ≤ 4) → o.bind f = some v → 1 ≤ v ∧ v ≤ 4:=by
  intro o f hf h
  cases o with
  | none=>cases h
  | some t=>exact hf t v h
 refine key _ _ (fun t x hx=>?_) h
 cases t with
 | true=>cases hx; decide
 | false =>
  rw [cF] at hx
  cases hbv:bz id l with
  | none=>rw [hbv] at hx; cases hx
  | some w =>
   rw [hbv,obs] at hx
   cases hw:w.2 == p with
   | true=>rw [hw] at hx; cases hx; decide
   | false =>
    rw [hw,cF] at hx
    cases ha:at? l p with
    | none=>rw [ha] at hx; cases hx
    | some y =>
     rw [ha,obs] at hx
     revert hx
     generalize (cond (!y.2.2.1) _ _:Option Bool) = o
     intro hx
     cases o with
     | none=>cases hx
     | some t=>cases t <;> (cases hx; decide)
theorem rows_in {b:Bridge} (h:BOk b) {r:Vrow} (hr:r ∈ b.2.2.2.2.1):(1 ≤ r.1 ∧ r.1 ≤ 99) ∧ (0 ≤ r.2.1 ∧ r.2.1 ≤ 63) ∧ (0 ≤ r.2.2 ∧ r.2.2 ≤ 63):=by
 obtain ⟨k,hk,rfl⟩:=getElem_of_mem hr
 have hv:=h.v
 unfold pVtab at hv
 simp only [aT,Bool.not_eq_true',Bool.or_eq_false_iff,Bool.not_eq_false'] at hv
 have hx:=any_eq_false.1 hv.2.1 k (mem_range.2 hk)
 unfold bRow at hx
 simp only [List.getElem?_eq_getElem hk,Bool.or_eq_true,Bool.not_eq_true',not_or,Bool.not_eq_false] at hx
 obtain ⟨x1,_,x3,x4⟩:=hx
 have ht:=topLe (i:=(b.2.2.1.length:Int)) hv.1.1
 have y1:=inE x1
 have y3:=inE x3
 have x4:(bclr .i64 b.2.2.2.2.1[k].2.2 b.2.2.2.2.1[k].2.1 != 0) = false:=by simpa using x4
 refine ⟨y1,by omega,?_⟩
 have hI:=h.w.r _ (getElem_mem hk)
 have hband:=inE (bits_in hI.1 hI.2 x3 ht.2 (by rw [bits_same hI.1 hI.2]; exact x4))
 omega
theorem pvid_in {b:Bridge} (h:BOk b) {x:Int} (hx:x ∈ b.2.2.2.2.2.1):1 ≤ x ∧ x ≤ 99:=by
 obtain ⟨k,hk,rfl⟩:=getElem_of_mem hx
 have hv:=h.v
 have hn:b.2.2.2.2.1.length < 9223372036854775807:=h.w.v
 unfold pVtab at hv
 simp only [aT,Bool.not_eq_true'] at hv
 have hq:=any_eq_false.1 hv.2.2 k (mem_range.2 hk)
 unfold bPvid at hq
 simp only [List.getElem?_eq_getElem hk] at hq
 obtain ⟨r,hr⟩:=rowAtT (v:=(b.2.2.2.2.1,b.2.2.2.2.2.1)) hn b.2.2.2.2.2.1[k]
 rw [hr] at hq
 simp only [decide_eq_true_eq] at hq
 obtain ⟨y,hy,e⟩:=rowAtE (v:=(b.2.2.2.2.1,b.2.2.2.2.2.1)) hn hr hq
 have:=(rows_in h (r:=y) hy).1
 rw [e] at this
 exact this
theorem portV_in {b:Bridge} (h:BOk b) (c:Int) {k:Nat} (hk:k < b.2.2.1.length):0 ≤ portV b c (k:Int) ∧ portV b c (k:Int) ≤ 1000:=by
 have v3:b.2.2.2.2.2.1.length = b.2.2.1.length:=h.vt.len.2.2.1
 have hkq:k < b.2.2.2.2.2.1.length:=by omega
 obtain ⟨r,hr⟩:=roleT b.1 h.w.p (k:Int)
 have hr2:=role_in hr
 have hp:=h.p _ (getElem_mem hk)
 unfold pPt at hp
 simp only [aT] at hp
 have hc:=inE hp.1
 have hq:=pvid_in h (getElem_mem hkq)
 unfold portV bS eF
 rw [at_nat hk,at_nat hkq,hr]
 simp only [obs]
 cases (c == 1) with
 | true =>
  cases b.2.2.1[k].1 with
  | true=>show (0:Int) ≤ 1 ∧ (1:Int) ≤ 1000; decide
  | false=>show (0:Int) ≤ 0 ∧ (0:Int) ≤ 1000; decide
 | false =>
  cases (c == 2) with
  | true=>show 0 ≤ b.2.2.1[k].2.1 ∧ b.2.2.1[k].2.1 ≤ 1000; omega
  | false =>
   cases (c == 3) with
   | true=>show 0 ≤ r ∧ r ≤ 1000; omega
   | false=>show 0 ≤ b.2.2.2.2.2.1[k] ∧ b.2.2.2.2.2.1[k] ≤ 1000; omega
theorem fdb_in {b:Bridge} (h:BOk b) {e:Fent} (he:e ∈ b.2.2.2.1):(1 ≤ e.1 ∧ e.1 ≤ 99) ∧ (1 ≤ e.2.1 ∧ e.2.1 ≤ 9999) ∧ (0 ≤ e.2.2.1 ∧ e.2.2.1 ≤ 7):=by
 obtain ⟨k,hk,rfl⟩:=getElem_of_mem he
 have hv:=h.f
 unfold pFdb at hv
 simp only [aT,Bool.not_eq_true'] at hv
 have hx:=any_eq_false.1 hv.1 k (mem_range.2 hk)
 unfold bFent at hx
 simp only [List.getElem?_eq_getElem hk,Bool.or_eq_true,Bool.not_eq_true',not_or,Bool.not_eq_false] at hx
 have hf:=hx.1
 unfold pFent at hf
 simp only [aT] at hf
 exact ⟨inE hf.1,inE hf.2.1,inE hf.2.2.1⟩
theorem counts_in {b:Bridge} (h:BOk b):(0 ≤ b.2.2.2.2.2.2.1 ∧ b.2.2.2.2.2.2.1 ≤ 1000000) ∧ (0 ≤ b.2.2.2.2.2.2.2.1 ∧ b.2.2.2.2.2.2.2.1 ≤ 1000000) ∧ (0 ≤ b.2.2.2.2.2.2.2.2.1 ∧ b.2.2.2.2.2.2.2.2.1 ≤ 1000000) ∧ (0 ≤ b.2.2.2.2.2.2.2.2.2.1 ∧ b.2.2.2.2.2.2.2.2.2.1 ≤ 1000000) ∧ (0 ≤ b.2.2.2.2.2.2.2.2.2.2 ∧ b.2.2.2.2.2.2.2.2.2.2 ≤ 1000000):=by
 have hc:=h.c
 unfold pCounts at hc
 simp only [aT] at hc
 exact ⟨inE hc.1,inE hc.2.1,inE hc.2.2.1,inE hc.2.2.2.1,inE hc.2.2.2.2⟩
theorem nm5 {a b:Int} (ha:0 ≤ a ∧ a ≤ 100000) (hb:0 ≤ b ∧ b ≤ 100000):Nm [1,3,1,a,b]:=⟨by simp,by simp,fun x hx=>by
 simp only [mem_cons,not_mem_nil,or_false] at hx
 rcases hx with rfl | rfl | rfl | rfl | rfl
 · decide
 · decide
 · decide
 · exact inP ha.1 ha.2
 · exact inP hb.1 hb.2⟩
theorem nm6 {a b c:Int} (ha:0 ≤ a ∧ a ≤ 100000) (hb:0 ≤ b ∧ b ≤ 100000) (hc:0 ≤ c ∧ c ≤ 100000):Nm [1,3,1,a,b,c]:=⟨by simp,by simp,fun x hx=>by
 simp only [mem_cons,not_mem_nil,or_false] at hx
 rcases hx with rfl | rfl | rfl | rfl | rfl | rfl
 · decide
 · decide
 · decide
 · exact inP ha.1 ha.2
 · exact inP hb.1 hb.2
 · exact inP hc.1 hc.2⟩
theorem nm7 {a b c d:Int} (ha:0 ≤ a ∧ a ≤ 100000) (hb:0 ≤ b ∧ b ≤ 100000) (hc:0 ≤ c ∧ c ≤ 100000) (hd:0 ≤ d ∧ d ≤ 100000):Nm [1,3,1,a,b,c,d]:=⟨by simp,by simp,fun x hx=>by
 simp only [mem_cons,not_mem_nil,or_false] at hx
 rcases hx with rfl | rfl | rfl | rfl | rfl | rfl | rfl
 · decide
 · decide
 · decide
 · exact inP ha.1 ha.2
 · exact inP hb.1 hb.2
 · exact inP hc.1 hc.2
 · exact inP hd.1 hd.2⟩
theorem mib_each {b:Bridge} (h:BOk b):∀ x ∈ mib b,Nm x.1 ∧ Vl x.2:=by
 intro x hx
 obtain ⟨t1,t2,t3,t4,_⟩:=counts_in h
 have hn6:=h.n6
 unfold mib at hx
 simp only [mem_append] at hx
 rcases hx with ((hx | hx) | hx) | hx
 · unfold mib5 at hx
   simp only [mem_cons,not_mem_nil,or_false] at hx
   have hname:=h.name
   rcases hx with rfl | rfl | rfl | rfl | rfl
   · exact ⟨nm5 (by decide) (by decide),.word (by omega)⟩
   · exact ⟨nm5 (by decide) (by decide),.num (in32 t1.1 (by omega))⟩
   · exact ⟨nm5 (by decide) (by decide),.num (in32 t2.1 (by omega))⟩
   · exact ⟨nm5 (by decide) (by decide),.num (in32 t3.1 (by omega))⟩
   · exact ⟨nm5 (by decide) (by decide),.num (in32 t4.1 (by omega))⟩
 · obtain ⟨c,hc,hx⟩:=mem_flatMap.1 hx
   have hc:=mem_range.1 hc
   unfold portG at hx
   obtain ⟨k,hk,rfl⟩:=mem_map.1 hx
   have hk:=mem_range.1 hk
   have hp:=portV_in h ((c + 1:Nat):Int) hk
   exact ⟨nm6 (by decide) (by omega) (by omega),.num (in32 hp.1 (by omega))⟩
 · obtain ⟨c,hc,hx⟩:=mem_flatMap.1 hx
   have hc:=mem_range.1 hc
   unfold rowG at hx
   obtain ⟨r,hr,rfl⟩:=mem_map.1 hx
   obtain ⟨r1,r2,r3⟩:=rows_in h hr
   refine ⟨nm6 (by decide) (by omega) (by omega),.num ?_⟩
   unfold rowVal
   split
   · decide
   · exact in32 r2.1 (by omega)
   · exact in32 r3.1 (by omega)
 · unfold fdbG at hx
   obtain ⟨e,he,rfl⟩:=mem_map.1 hx
   obtain ⟨e1,e2,e3⟩:=fdb_in h he
   refine ⟨nm7 (by decide) (by decide) (by omega) (by omega),.num ?_⟩
   rw [w64_id (by omega) (by omega)]
   exact in32 (by omega) (by omega)
theorem mib_len {b:Bridge} (h:BOk b):(mib b).length = 5 + 4 * b.2.2.1.length + 3 * b.2.2.2.2.1.length + b.2.2.2.1.length:=by
 have hp:∀ c,(portG b c).length = b.2.2.1.length:=fun c=>by unfold portG; rw [length_map,List.length_range]
 have hr:∀ c,(rowG b c).length = b.2.2.2.2.1.length:=fun c=>by unfold rowG; rw [length_map]
 have hf:(fdbG b).length = b.2.2.2.1.length:=by unfold fdbG; rw [length_map]
 have k5:(mib5 b).length = 5:=rfl
 unfold mib
 rw [flat4,flat3]
 simp only [length_append,length_nil,hp,hr,hf,k5]
 omega
theorem mib_le {b:Bridge} (h:BOk b):(mib b).length ≤ 59:=by
 have h1:=mib_len h
 have h2:=h.n6
 have h3:b.2.2.2.2.1.length ≤ 6:=h.vt.len.2.2.2
 have h4:=h.f12
 omega
theorem getX {b:Bridge} (h:BOk b) {o:List Int} (ho:o.length < 9223372036854775807):∃ v,bV b o = some v ∧ ((∃ x ∈ mib b,x.1 = o ∧ v = x.2) ∨ ((∀ x ∈ mib b,x.1 ≠ o) ∧ v = (128,0,[],[]))):=by
 have hle:=mib_le h
 obtain ⟨v,h1,h2⟩:=loop_inv (step:=fun z:Int × Int × Int × List UInt8 × List Int=>bj o (mib b) z.1 z.2.1 z.2.2.1 z.2.2.2.1 z.2.2.2.2) (fun k z=>z = ((k:Int),0,0,[],[]) ∧ ∀ x ∈ (mib b).take k,x.1 ≠ o) (mib b).length (fun v=>(∃ x ∈ mib b,x.1 = o ∧ v = .inr x.2) ∨ ((∀ x ∈ mib b,x.1 ≠ o) ∧ ∃ u,v = .inl u))
  (fun k z hk ⟨e,hx⟩=>by
   subst e
   have hs:bj o (mib b) (k:Int) 0 0 [] [] = cond ((mib b)[k].1 == o) (some (.inr (.inr (mib b)[k].2))) (some (.inl (((k + 1:Nat):Int),0,0,[],[]))):=by
    unfold bj
    rw [dlt (by omega),cT,at_nat hk,obs,sameO ho,obs,w64_nat (by omega)]
   show (∃ y,bj o (mib b) (k:Int) 0 0 [] [] = _ ∧ _) ∨ (∃ v,bj o (mib b) (k:Int) 0 0 [] [] = _ ∧ _)
   rw [hs]
   cases hb:((mib b)[k].1 == o) with
   | true=>exact .inr ⟨_,rfl,.inl ⟨_,getElem_mem hk,eq_of_beq hb,rfl⟩⟩
   | false =>
    refine .inl ⟨_,rfl,rfl,fun x hx'=>?_⟩
    rw [take_add_one,List.getElem?_eq_getElem hk,mem_append] at hx'
    rcases hx' with hx' | hx'
    · exact hx x hx'
    · simp at hx'
      subst hx'
      exact beq_eq_false_iff_ne.1 hb)
  (fun z ⟨e,hx⟩=>by
   subst e
   rw [take_length] at hx
   refine ⟨.inl (0,0,[],[]),?_,.inr ⟨hx,_,rfl⟩⟩
   show bj o (mib b) _ 0 0 [] [] = _
   unfold bj
   rw [dnlt (by omega),cF]) (x:=(0,0,0,[],[])) ⟨rfl,by simp⟩
 unfold bV
 rw [mibX h,obs,h1,obs]
 rcases h2 with ⟨x,hx,e,rfl⟩ | ⟨hx,u,rfl⟩
 · exact ⟨_,rfl,.inl ⟨x,hx,e,rfl⟩⟩
 · exact ⟨_,rfl,.inr ⟨hx,rfl⟩⟩

theorem oidD {c:L1Cur} (h:CW c):∃ c' o,aH c = some (c',o) ∧ CW c' ∧ Nm o:=by
 obtain ⟨c0,m,e0,w0,hm⟩:=belowN h (n:=6) (by decide)
 have e0':aa c 6 = some (c0,(m:Int)):=e0
 obtain ⟨d,hd,g1,g2,g3⟩:=loop_inv (step:=fun z:Int × List Int × Int × Int × List Int=>eh z.1 z.2.1 z.2.2.1 z.2.2.2.1 z.2.2.2.2) (fun k z=>z.1 = ((m + 1:Nat):Int) - (k:Int) ∧ CW (z.2.1,z.2.2.1,z.2.2.2.1) ∧ z.2.2.2.2.length = k ∧ ∀ x ∈ z.2.2.2.2,pIn x 0 100000 = true) (m + 1) (fun d=>CW (d.1,d.2.1,d.2.2.1) ∧ d.2.2.2.length = m + 1 ∧ ∀ x ∈ d.2.2.2,pIn x 0 100000 = true)
  (fun k z hk ⟨a1,a2,a3,a4⟩=>by
   obtain ⟨i,x,y,s,l⟩:=z
   simp only at a1 a2 a3 a4
   left
   show ∃ y',eh i x y s l = _ ∧ _
   unfold eh
   have hi:decide (i > 0) = true:=dT (by omega)
   have hw:w64 (i - 1) = ((m + 1:Nat):Int) - ((k + 1:Nat):Int):=by rw [w64_id (by omega) (by omega)]; omega
   obtain ⟨c1,r1,e1,w1,b1⟩:=intD a2 (l:=[0,1,2,3,127,128,16384,100000]) (by decide)
   have hr:pIn r1 0 100000 = true:=by
    have:∀ x ∈ ([0,1,2,3,127,128,16384,100000]:List Int),pIn x 0 100000 = true:=by decide
    exact this r1 b1
   rw [hi,cT,e1,obs]
   show ∃ y',((app l [r1]).bind _) = _ ∧ _
   rw [app_small (by show l.length + 1 ≤ _; omega),obs,hw]
   refine ⟨_,rfl,rfl,w1,by show (l ++ [r1]).length = _; rw [length_append,a3]; rfl,fun x hx=>?_⟩
   have hx:x ∈ l ++ [r1]:=hx
   simp at hx
   rcases hx with hx | rfl
   · exact a4 x hx
   · exact hr)
  (fun z ⟨a1,a2,a3,a4⟩=>by
   obtain ⟨i,x,y,s,l⟩:=z
   simp only at a1 a2 a3 a4
   refine ⟨(x,y,s,l),?_,a2,a3,a4⟩
   show eh i x y s l = _
   unfold eh
   have hi:decide (i > 0) = false:=dF (by omega)
   rw [hi,cF]) (x:=(((m + 1:Nat):Int),c0.1,c0.2.1,c0.2.2,[])) ⟨by simp,w0,rfl,fun x hx=>absurd hx not_mem_nil⟩
 have hw:w64 (1 + (m:Int)) = ((m + 1:Nat):Int):=by rw [w64_id (by omega) (by omega)]; omega
 unfold aH
 rw [e0',obs]
 show ∃ c' o,((loop _ (w64 (1 + (m:Int)),c0.1,c0.2.1,c0.2.2,[])).bind _) = _ ∧ _
 rw [hw,hd,obs]
 exact ⟨_,_,rfl,g1,by omega,by omega,g3⟩
theorem nm4 {a:Int} (ha:0 ≤ a ∧ a ≤ 100000):Nm [1,3,1,a]:=⟨by simp,by simp,fun x hx=>by
 simp only [mem_cons,not_mem_nil,or_false] at hx
 rcases hx with rfl | rfl | rfl | rfl
 · decide
 · decide
 · decide
 · exact inP ha.1 ha.2⟩
theorem nameX (l:List Int) (h:l.length ≤ 100):af l = some ([1,3,1] ++ l):=by
 unfold af
 rw [app_small (by show 3 + l.length ≤ _; omega)]; rfl
theorem nameD {c:L1Cur} (h:CW c) {b:Bridge} (hb:BOk b):∃ c' o,av c b = some (c',o) ∧ CW c' ∧ Nm o:=by
 have hm:5 ≤ (mib b).length:=by rw [mib_len hb]; omega
 have hle:=mib_le hb
 unfold av
 rw [mib_same hb.w,mibX hb,obs,dT (show ((mib b).length:Int) > 0 by omega),cT]
 obtain ⟨c1,st,e1,w1⟩:=onceD h 4
 rw [e1,obs]
 show ∃ c' o,cond (!st) _ _ = _ ∧ _
 cases st with
 | false =>
  obtain ⟨c2,k,e2,w2,hk⟩:=belowN w1 (n:=(mib b).length) (by omega)
  have hn:=(mib_each hb _ (getElem_mem hk)).1
  have h10:=hn.n10
  rw [Bool.not_false,cT,e2,obs]
  show ∃ c' o,((ix (mib b).length (k:Int)).bind _) = _ ∧ _
  rw [ix_nat hk,obs,List.getElem?_eq_getElem hk,obs,app_small (by show 0 + _ ≤ _; omega),obs]
  exact ⟨_,_,rfl,w2,hn⟩
 | true =>
  obtain ⟨c2,r,e2,w2,_⟩:=belowD w1 8
  rw [Bool.not_true,cF,e2,obs]
  show ∃ c' o,cond (r == 0) _ (cond (r == 1) _ (cond (r == 2) _ (cond (r == 3) _ (cond (r == 4) _ (cond (r == 5) _ (cond (r == 6) _ _)))))) = _ ∧ _
  cases r == 0 with
  | true=>exact ⟨_,_,rfl,w2,⟨by decide,by decide,by decide⟩⟩
  | false =>
  cases r == 1 with
  | true=>exact ⟨_,_,rfl,w2,⟨by decide,by decide,by decide⟩⟩
  | false =>
  cases r == 2 with
  | true=>rw [nameX _ (by decide)]; exact ⟨_,_,rfl,w2,nm6 (by decide) (by decide) (by decide)⟩
  | false =>
  cases r == 3 with
  | true =>
   obtain ⟨c3,k,e3,w3,hk⟩:=belowN w2 (n:=9) (by decide)
   have e3':aa c2 9 = some (c3,(k:Int)):=e3
   show ∃ c' o,((aa c2 9).bind _) = _ ∧ _
   rw [e3',obs,nameX _ (by simp),obs]
   refine ⟨_,_,rfl,w3,?_⟩
   show Nm [1,3,1,3,1,w64 (1 + (k:Int))]
   rw [w64_id (by omega) (by omega)]
   exact nm6 (by decide) (by decide) (by omega)
  | false =>
  cases r == 4 with
  | true=>rw [nameX _ (by decide)]; exact ⟨_,_,rfl,w2,nm5 (by decide) (by decide)⟩
  | false =>
  cases r == 5 with
  | true=>rw [nameX _ (by decide)]; exact ⟨_,_,rfl,w2,nm4 (by decide)⟩
  | false =>
  cases r == 6 with
  | true=>rw [nameX _ (by decide)]; exact ⟨_,_,rfl,w2,nm7 (by decide) (by decide) (by decide) (by decide)⟩
  | false =>
   obtain ⟨c3,o,e3,w3,hn⟩:=oidD w2
   show ∃ c' o,((aH c2).bind _) = _ ∧ _
   rw [e3,obs]
   exact ⟨_,_,rfl,w3,hn⟩
structure At (m:List Bind) (o:List Int) (j:Nat):Prop where
 le:j ≤ m.length
 no:∀ i (hi:i < m.length),i < j → ¬ o < m[i].1
 yes:∀ i (hi:i < m.length),j ≤ i → o < m[i].1
theorem at_of {m:List Bind} (hp:m.Pairwise fun x y=>x.1 < y.1) (o:List Int):∃ j,At m o j:=by
 have hp:=pairwise_iff_getElem.1 hp
 have key:∀ n,n ≤ m.length → (∀ i (hi:i < m.length),i < n → ¬ o < m[i].1) ∨ ∃ j,At m o j:=by
  intro n
  induction n with
  | zero=>exact fun _=>.inl fun i hi h=>by omega
  | succ n ih =>
   intro hn
   rcases ih (by omega) with h | h
   · by_cases hlt:o < m[n].1
     · refine .inr ⟨n,by omega,h,fun i hi hni=>?_⟩
       by_cases e:i = n
       · subst e; exact hlt
       · exact List.lt_trans hlt (hp n i (by omega) hi (by omega))
     · refine .inl fun i hi hin=>?_
       by_cases e:i = n
       · subst e; exact hlt
       · exact h i hi (by omega)
   · exact .inr h
 rcases key m.length (Nat.le_refl _) with h | h
 · exact ⟨m.length,Nat.le_refl _,fun i hi _=>h i hi hi,fun i hi h=>by omega⟩
 · exact h
theorem nextX {b:Bridge} (h:BOk b) {o:List Int} (ho:o.length ≤ 1000) {j:Nat} (hj:At (mib b) o j):bm b o = some (if h:j < (mib b).length then (mib b)[j] else (o,130,0,[],[])):=by
 have hle:=mib_le h
 have hjl:=hj.le
 obtain ⟨v,h1,h2⟩:=loop_inv (step:=fun z:Int × Int × Int × List UInt8 × List Int × List Int=>bW o (mib b) z.1 z.2.1 z.2.2.1 z.2.2.2.1 z.2.2.2.2.1 z.2.2.2.2.2) (fun k z=>z = ((k:Int),0,0,[],[],[])) j (fun v=>if h:j < (mib b).length then v = .inr (mib b)[j] else ∃ u,v = .inl u)
  (fun k z hk e=>by
   subst e
   have hkl:k < (mib b).length:=by omega
   have hn:=(mib_each h _ (getElem_mem hkl)).1.n10
   refine .inl ⟨(((k + 1:Nat):Int),0,0,[],[],[]),?_,rfl⟩
   show bW o (mib b) (k:Int) 0 0 [] [] [] = _
   unfold bW
   rw [dlt (by omega),cT,at_nat hkl,obs,lessO (by omega),dF (hj.no k hkl hk),obs,cF,w64_nat (by omega)])
  (fun z e=>by
   subst e
   show ∃ v,bW o (mib b) (j:Int) 0 0 [] [] [] = _ ∧ _
   unfold bW
   by_cases hjn:j < (mib b).length
   · have hn:=(mib_each h _ (getElem_mem hjn)).1.n10
     rw [dlt (by omega),cT,at_nat hjn,obs,lessO (by omega),dT (hj.yes j hjn (Nat.le_refl _)),obs,cT]
     exact ⟨_,rfl,by rw [dif_pos hjn]⟩
   · rw [dnlt (by omega),cF]
     exact ⟨_,rfl,by rw [dif_neg hjn]; exact ⟨_,rfl⟩⟩) (x:=(0,0,0,[],[],[])) rfl
 unfold bm
 rw [mibX h,obs,h1,obs]
 by_cases hjn:j < (mib b).length
 · rw [dif_pos hjn] at h2
   rw [dif_pos hjn,h2]; rfl
 · rw [dif_neg hjn] at h2
   obtain ⟨u,rfl⟩:=h2
   rw [dif_neg hjn]
   show ((aS o).bind _) = _
   unfold aS
   rw [app_small (by show 0 + o.length ≤ _; omega)]; rfl
theorem app_nil {α:Type} {ys:List α} (h:ys.length ≤ M):app [] ys = some ys:=by
 unfold app
 rw [if_pos (by show 0 + ys.length ≤ 4294967296; have h':ys.length ≤ 1048576:=h; omega)]; rfl
theorem copyInts {l:List Int} (h:l.length ≤ M):aS l = some l:=by unfold aS; rw [app_nil h]; rfl
theorem copyBytes {l:List Int} (h:l.length ≤ M):bu l = some l:=by unfold bu; rw [app_nil h]; rfl
theorem copyFdb {l:List Fent} (h:l.length ≤ M):fP l = some l:=by unfold fP; rw [app_nil h]; rfl
theorem copyFdbS {l:List Fent} (h:l.length ≤ M):ca l = some l:=by unfold ca; rw [app_nil h]; rfl
theorem copyVtab {v:Vtab} (h:v.1.length ≤ M ∧ v.2.length ≤ M):dx v = some v:=by
 unfold dx; rw [app_nil h.1,obs,copyInts h.2]; rfl
theorem copyVtabS {v:Vtab} (h:v.1.length ≤ M ∧ v.2.length ≤ M):aO v = some v:=by
 unfold aO; rw [app_nil h.1,obs,app_nil h.2]; rfl
theorem copyBridge {b:Bridge} (h:BLe M b):ap b = some b:=by
 obtain ⟨h1,h2,h3,h4,h5⟩:=h
 unfold ap
 rw [app_nil h2,obs,copyFdb h3,obs,copyVtab ⟨h4,h5⟩]; rfl
theorem copyBridgeS {b:Bridge} (h:BLe M b):am b = some b:=by
 obtain ⟨h1,h2,h3,h4,h5⟩:=h
 unfold am
 rw [app_nil h2,obs,copyFdbS h3,obs,copyVtabS ⟨h4,h5⟩]; rfl
def bOid (o:List Int) (k:Nat):Bool:=match o[k]? with | some x=>!(pIn x 0 100000) | none=>false
def pOid (o:List Int):Bool:=!((List.range o.length).any (bOid o)) && pIn (o.length:Int) 1 10
theorem oidT {o:List Int} (h:o.length < 9223372036854775807):ak o = some (pOid o):=by
 unfold ak pOid
 have e:loop (fun z=>aI o z) 0 = some (cond ((List.range o.length).any (bOid o)) (Sum.inr false) (Sum.inl ())):=by
  rw [← all_loop (n:=o.length) (c:=fun i=>(at? o i).bind fun x=>(ac x 0 100000).bind fun t=>some (!t)) (b:=bOid o) h (fun k hk=>by
   simp only [at_nat hk,obs,bOid,List.getElem?_eq_getElem hk,inT])]
  refine loop_ext (fun i=>?_) 0
  unfold aI
  simp only [Option.bind_assoc,obs]
 rw [e,obs]
 cases (List.range o.length).any (bOid o) with
 | true=>rfl
 | false=>simp only [cF,Sum.elim_inl,inT,obs,Bool.not_false,Bool.true_and]
theorem oidS:bE = ak:=rfl
theorem clipT (n:Int):∃ c,aw n = some c ∧ (c == n) = pIn n (-2147483648) 2147483647:=by
 unfold aw pIn
 by_cases h1:n > 2147483647
 · refine ⟨_,by rw [dT h1]; rfl,?_⟩
   rw [dF (show ¬ n ≤ 2147483647 by omega),Bool.and_false]
   exact beq_eq_false_iff_ne.2 (by omega)
 · by_cases h2:n < -2147483648
   · refine ⟨_,by rw [dF h1,dT h2]; rfl,?_⟩
     rw [dF (show ¬ n ≥ -2147483648 by omega),Bool.false_and]
     exact beq_eq_false_iff_ne.2 (by omega)
   · refine ⟨_,by rw [dF h1,dF h2]; rfl,?_⟩
     rw [dT (show n ≥ -2147483648 by omega),dT (show n ≤ 2147483647 by omega),beq_self_eq_true]; rfl
theorem sameNil (l:List Int):aE l [] = some ((l.length:Int) == 0):=by
 cases l with
 | nil=>exact eqS_of (n:=0) (eq_loop' (a:=[]) (by decide))
 | cons x l =>
  unfold aE
  have e:(((x :: l).length:Int) != (([]:List Int).length:Int)) = true:=by simp; omega
  rw [e,cT,beq_eq_false_iff_ne.2 (by simp; omega)]
theorem sameSelf {l:List Int} (h:l.length ≤ M):aE l l = some true:=eqS_of (eq_loop' (le32 h))
def pVal (v:Val):Bool :=
 cond (v.1 == 5 || (v.1 == 128 || v.1 == 130)) (v.2.1 == 0 && (v.2.2.1 == [] && ((v.2.2.2.length:Int) == 0)))
  (cond (v.1 == 2) (pIn v.2.1 (-2147483648) 2147483647 && (v.2.2.1 == [] && ((v.2.2.2.length:Int) == 0)))
   (cond (v.1 == 4) (decide ((v.2.2.1.length:Int) ≤ 20) && (v.2.1 == 0 && ((v.2.2.2.length:Int) == 0)))
    (cond (v.1 == 6) (pOid v.2.2.2 && (v.2.1 == 0 && (v.2.2.1 == []))) false)))
theorem valT {v:Val} (h:v.2.2.2.length ≤ M):al v = some (pVal v):=by
 obtain ⟨k,n,s,o⟩:=v
 have h':o.length ≤ 1048576:=h
 have ho:o.length ≤ M:=h
 have hb:o.length < 9223372036854775807:=by omega
 unfold al pVal bf az
 simp only [inT,sameNil,sameSelf ho,oidT hb,obs]
 by_cases h2:k = 2
 · subst h2; cases pIn n (-2147483648) 2147483647 <;> cases s == [] <;> cases (o.length:Int) == 0 <;> simp
 by_cases h4:k = 4
 · subst h4; cases decide ((s.length:Int) ≤ 20) <;> cases n == 0 <;> cases (o.length:Int) == 0 <;> simp
 by_cases h6:k = 6
 · subst h6; cases pOid o <;> cases n == 0 <;> cases s == [] <;> simp
 rw [beq_eq_false_iff_ne.2 h2,beq_eq_false_iff_ne.2 h4,beq_eq_false_iff_ne.2 h6]
 by_cases h5:k = 5
 · subst h5; cases n == 0 <;> cases s == [] <;> cases (o.length:Int) == 0 <;> simp
 by_cases h128:k = 128
 · subst h128; cases n == 0 <;> cases s == [] <;> cases (o.length:Int) == 0 <;> simp
 by_cases h130:k = 130
 · subst h130; cases n == 0 <;> cases s == [] <;> cases (o.length:Int) == 0 <;> simp
 rw [beq_eq_false_iff_ne.2 h5,beq_eq_false_iff_ne.2 h128,beq_eq_false_iff_ne.2 h130]
 rfl
theorem valS {v:Val} (h:v.2.2.2.length ≤ M):bp v = some (pVal v):=by
 obtain ⟨k,n,s,o⟩:=v
 have h':o.length ≤ 1048576:=h
 have hb:o.length < 9223372036854775807:=by omega
 obtain ⟨c,hc,hc2⟩:=clipT n
 unfold bp pVal
 simp only [oidS,oidT hb,hc,hc2,obs]
 by_cases h5:k = 5
 · subst h5; cases n == 0 <;> cases s == [] <;> cases (o.length:Int) == 0 <;> simp
 by_cases h128:k = 128
 · subst h128; cases n == 0 <;> cases s == [] <;> cases (o.length:Int) == 0 <;> simp
 by_cases h130:k = 130
 · subst h130; cases n == 0 <;> cases s == [] <;> cases (o.length:Int) == 0 <;> simp
 rw [beq_eq_false_iff_ne.2 h5,beq_eq_false_iff_ne.2 h128,beq_eq_false_iff_ne.2 h130]
 by_cases h2:k = 2
 · subst h2; cases pIn n (-2147483648) 2147483647 <;> cases s == [] <;> cases (o.length:Int) == 0 <;> simp
 by_cases h4:k = 4
 · subst h4; cases decide ((s.length:Int) ≤ 20) <;> cases n == 0 <;> cases (o.length:Int) == 0 <;> simp
 by_cases h6:k = 6
 · subst h6; cases pOid o <;> cases n == 0 <;> cases s == [] <;> simp
 rw [beq_eq_false_iff_ne.2 h2,beq_eq_false_iff_ne.2 h4,beq_eq_false_iff_ne.2 h6]
 rfl
def xOk (x:Bind):Bool:=pOid x.1 && pVal x.2
def bX (l:List Bind) (k:Nat):Bool:=match l[k]? with | some x=>!(xOk x) | none=>false
def pPdu (p:Pdu):Bool :=
 (!((List.range p.2.2.2.2.length).any (bX p.2.2.2.2)) && decide ((p.2.2.2.2.length:Int) ≤ 10)) &&
 (cond (p.1 == 162 || p.1 == 165) (pIn p.2.2.1 0 1000 && pIn p.2.2.2.1 0 1000)
  (cond (p.1 == 160 || (p.1 == 161 || p.1 == 163)) (p.2.2.1 == 0 && p.2.2.2.1 == 0) false) && pIn p.2.1 (-2147483648) 2147483647)
theorem any_or {n:Nat} {f g:Nat → Bool}:(List.range n).any (fun k=>f k || g k) = ((List.range n).any f || (List.range n).any g):=by
 generalize List.range n = l
 induction l with
 | nil=>rfl
 | cons a l ih=>simp only [List.any_cons,ih]; cases f a <;> cases g a <;> simp
theorem any_ten (n:Nat):(List.range n).any (fun k=>decide ((k:Int) ≥ 10)) = !(decide ((n:Int) ≤ 10)):=by
 by_cases h:(n:Int) ≤ 10
 · rw [dT h]
   refine Bool.eq_false_iff.2 fun ha=>?_
   obtain ⟨k,h1,h2⟩:=any_eq_true.1 ha
   have:=mem_range.1 h1
   have:=of_decide_eq_true h2
   omega
 · rw [dF h]
   exact any_eq_true.2 ⟨10,mem_range.2 (by omega),by decide⟩
theorem pdu_loop {p:Pdu} (h:PLe M p):loop (fun z=>fH p z) 0 = some (cond (!(decide ((p.2.2.2.2.length:Int) ≤ 10)) || (List.range p.2.2.2.2.length).any (bX p.2.2.2.2)) (Sum.inr false) (Sum.inl ())):=by
 obtain ⟨k,i,e,x,l⟩:=p
 have h':XsLe M l:=h
 have hl:l.length ≤ 1048576:=h'.1
 show loop (fun z=>fH (k,i,e,x,l) z) 0 = some (cond (!(decide ((l.length:Int) ≤ 10)) || (List.range l.length).any (bX l)) (Sum.inr false) (Sum.inl ()))
 rw [← any_ten,← any_or,← all_loop (n:=l.length) (c:=fun i=>(at? l i).bind fun x=>(cond (decide (i ≥ 10)) (some true) ((ak x.1).bind fun t=>some (!t))).bind fun t=>(cond t (some true) ((al x.2).bind fun t=>some (!t)))) (b:=fun k=>decide ((k:Int) ≥ 10) || bX l k) (by omega) (fun k hk=>by
  have hx:XLe M l[k]:=h'.2 _ (getElem_mem hk)
  have h1:l[k].1.length ≤ 1048576:=hx.1
  have h2:l[k].2.2.2.2.length ≤ M:=hx.2.2
  simp only [at_nat hk,obs,bX,List.getElem?_eq_getElem hk,oidT (show l[k].1.length < 9223372036854775807 by omega),valT (v:=l[k].2) h2,xOk]
  cases decide ((k:Int) ≥ 10) <;> cases pOid l[k].1 <;> cases pVal l[k].2 <;> rfl)]
 refine loop_ext (fun i=>?_) 0
 unfold fH
 simp only [Option.bind_assoc,obs]
theorem pdu_loopS {p:Pdu} (h:PLe M p):loop (fun z=>gg p z) 0 = some (cond ((List.range p.2.2.2.2.length).any (bX p.2.2.2.2)) (Sum.inr false) (Sum.inl ())):=by
 obtain ⟨k,i,e,x,l⟩:=p
 have h':XsLe M l:=h
 have hl:l.length ≤ 1048576:=h'.1
 show loop (fun z=>gg (k,i,e,x,l) z) 0 = some (cond ((List.range l.length).any (bX l)) (Sum.inr false) (Sum.inl ()))
 rw [← all_loop (n:=l.length) (c:=fun i=>(at? l i).bind fun x=>(bE x.1).bind fun t=>(cond (!t) (some true) ((at? l i).bind fun x=>(bp x.2).bind fun t=>some (!t)))) (b:=bX l) (by omega) (fun k hk=>by
  have hx:XLe M l[k]:=h'.2 _ (getElem_mem hk)
  have h1:l[k].1.length ≤ 1048576:=hx.1
  have h2:l[k].2.2.2.2.length ≤ M:=hx.2.2
  simp only [at_nat hk,obs,bX,List.getElem?_eq_getElem hk,oidS,oidT (show l[k].1.length < 9223372036854775807 by omega),valS (v:=l[k].2) h2,xOk]
  cases pOid l[k].1 <;> cases pVal l[k].2 <;> rfl)]
 refine loop_ext (fun i=>?_) 0
 unfold gg
 simp only [Option.bind_assoc,obs]
theorem pduT {p:Pdu} (h:PLe M p):cw p = some (pPdu p):=by
 have e0:=pdu_loop h
 have e1:loop (fun z=>iW p z) 0 = _:=e0
 have e2:loop (fun z=>iX p z) 0 = _:=e0
 have e3:loop (fun z=>iY p z) 0 = _:=e0
 have e4:loop (fun z=>iZ p z) 0 = _:=e0
 have e5:loop (fun z=>ja p z) 0 = _:=e0
 have e6:loop (fun z=>jb p z) 0 = _:=e0
 have e7:loop (fun z=>jc p z) 0 = _:=e0
 have e8:loop (fun z=>jd p z) 0 = _:=e0
 unfold cw pPdu az
 rw [e0,e1,e2,e3,e4,e5,e6,e7,e8]
 simp only [inT,obs]
 generalize (List.range p.2.2.2.2.length).any (bX p.2.2.2.2) = u
 generalize decide ((p.2.2.2.2.length:Int) ≤ 10) = w
 generalize pIn p.2.1 (-2147483648) 2147483647 = x
 generalize p.2.2.1 = e
 generalize p.2.2.2.1 = i
 generalize p.1 = k
 by_cases h0:k = 160
 · subst h0
   have b1:(e != 0) = !(e == 0):=rfl
   have b2:(i != 0) = !(i == 0):=rfl
   rw [b1,b2]
   cases e == 0 <;> cases i == 0 <;> cases u <;> cases w <;> cases x <;> rfl
 by_cases h1:k = 161
 · subst h1
   have b1:(e != 0) = !(e == 0):=rfl
   have b2:(i != 0) = !(i == 0):=rfl
   rw [b1,b2]
   cases e == 0 <;> cases i == 0 <;> cases u <;> cases w <;> cases x <;> rfl
 by_cases h3:k = 163
 · subst h3
   have b1:(e != 0) = !(e == 0):=rfl
   have b2:(i != 0) = !(i == 0):=rfl
   rw [b1,b2]
   cases e == 0 <;> cases i == 0 <;> cases u <;> cases w <;> cases x <;> rfl
 by_cases h2:k = 162
 · subst h2; cases pIn e 0 1000 <;> cases pIn i 0 1000 <;> cases u <;> cases w <;> cases x <;> rfl
 by_cases h5:k = 165
 · subst h5; cases pIn e 0 1000 <;> cases pIn i 0 1000 <;> cases u <;> cases w <;> cases x <;> rfl
 rw [beq_eq_false_iff_ne.2 h0,beq_eq_false_iff_ne.2 h1,beq_eq_false_iff_ne.2 h2,beq_eq_false_iff_ne.2 h3,beq_eq_false_iff_ne.2 h5]
 cases u <;> cases w <;> rfl
theorem pduS {p:Pdu} (h:PLe M p):bG p = some (pPdu p):=by
 obtain ⟨c,hc,hc2⟩:=clipT p.2.1
 unfold bG pPdu gW
 rw [pdu_loopS h]
 simp only [inS,hc,hc2,obs]
 generalize (List.range p.2.2.2.2.length).any (bX p.2.2.2.2) = u
 generalize decide ((p.2.2.2.2.length:Int) ≤ 10) = w
 generalize pIn p.2.1 (-2147483648) 2147483647 = x
 generalize p.2.2.1 = e
 generalize p.2.2.2.1 = i
 generalize p.1 = k
 have b1:(e != 0) = !(e == 0):=rfl
 have b2:(i != 0) = !(i == 0):=rfl
 rw [b1,b2]
 have z1:(e == 0) = true → pIn e 0 1000 = true:=fun h=>by rw [eq_of_beq h]; rfl
 have z2:(i == 0) = true → pIn i 0 1000 = true:=fun h=>by rw [eq_of_beq h]; rfl
 by_cases h2:k = 162
 · subst h2; cases pIn e 0 1000 <;> cases pIn i 0 1000 <;> cases u <;> cases w <;> cases x <;> rfl
 by_cases h5:k = 165
 · subst h5; cases pIn e 0 1000 <;> cases pIn i 0 1000 <;> cases u <;> cases w <;> cases x <;> rfl
 have n2:(k != 162) = true:=bne_iff_ne.2 h2
 have n5:(k != 165) = true:=bne_iff_ne.2 h5
 rw [n2,n5,beq_eq_false_iff_ne.2 h2,beq_eq_false_iff_ne.2 h5]
 cases he:e == 0 with
 | false=>cases hi:i == 0 <;> cases u <;> cases w <;> cases x <;> cases k == 160 <;> cases k == 161 <;> cases k == 163 <;> rfl
 | true =>
  rw [z1 he]
  cases hi:i == 0 with
  | false=>cases u <;> cases w <;> cases x <;> cases k == 160 <;> cases k == 161 <;> cases k == 163 <;> rfl
  | true =>
   rw [z2 hi]
   cases u <;> cases w <;> cases x <;> cases k == 160 <;> cases k == 161 <;> cases k == 163 <;> rfl
def jTries (j:Job):Int:=j.2.2.2.2.2.2.2.2.2.2.2.2.2.2.2.2.2.2.2.2
def jAt (j:Job):Int:=j.2.2.2.2.2.2.2.2.2.2.2.2.2.2.2.2.2.2.2.1
noncomputable def pJob (j:Job):Bool:=pIn j.2.2.1 0 2 && (pIn (jAt j) 0 (j.2.2.2.2.2.2.2.1.length:Int) && (pIn (jTries j) 0 3 && (j.2.2.1 == 0 || (pPdu (jP j) && ((j.2.2.2.1 != 162) && pBridge (jB j))))))
structure JWf (j:Job):Prop where
 p:PLe M (jP j)
 b:BWf (jB j)
theorem jobT {j:Job} (h:JWf j):eu j = some (pJob j):=by
 have hp:cw (j.2.2.2.1,j.2.2.2.2.1,j.2.2.2.2.2.1,j.2.2.2.2.2.2.1,j.2.2.2.2.2.2.2.1) = some (pPdu (jP j)):=pduT h.p
 have hb:=bridgeT h.b
 unfold jB at hb
 unfold eu pJob
 rw [hp,hb]
 simp only [inT,obs,jAt,jTries]
 cases pIn j.2.2.1 0 2 <;> cases pIn j.2.2.2.2.2.2.2.2.2.2.2.2.2.2.2.2.2.2.2.1 0 (j.2.2.2.2.2.2.2.1.length:Int) <;> cases pIn j.2.2.2.2.2.2.2.2.2.2.2.2.2.2.2.2.2.2.2.2 0 3 <;> cases j.2.2.1 == 0 <;> cases pPdu (jP j) <;> cases j.2.2.2.1 != 162 <;> rfl
theorem jobS {j:Job} (h:JWf j) (last:Int):eU j last = some (pIn j.1 1 last && pJob j):=by
 have hp:bG (j.2.2.2.1,j.2.2.2.2.1,j.2.2.2.2.2.1,j.2.2.2.2.2.2.1,j.2.2.2.2.2.2.2.1) = some (pPdu (jP j)):=pduS h.p
 have hb:=bridgeS h.b
 unfold jB at hb
 unfold eU gX pJob
 rw [hp,hb]
 simp only [inS,obs,jAt,jTries]
 cases pIn j.1 1 last <;> cases pIn j.2.2.1 0 2 <;> cases pIn j.2.2.2.2.2.2.2.2.2.2.2.2.2.2.2.2.2.2.2.1 0 (j.2.2.2.2.2.2.2.1.length:Int) <;> cases pIn j.2.2.2.2.2.2.2.2.2.2.2.2.2.2.2.2.2.2.2.2 0 3 <;> cases j.2.2.1 == 0 <;> cases pPdu (jP j) <;> cases j.2.2.2.1 != 162 <;> rfl
def aJobs (a:Agent):List Job:=a.2.2.2.2.2.2.2.2.2.2.2.2.1
def aLast (a:Agent):Int:=a.2.2.2.2.2.2.2.2.2.2.2.2.2.2
def aLost (a:Agent):Int:=a.2.2.2.2.2.2.2.2.2.2.2.2.2.1
noncomputable def bJob (l:List Job) (last:Int) (k:Nat):Bool:=match l[k]? with
 | some j=>!(pIn j.1 1 last && pJob j) || (decide (0 < k) && (match l[k - 1]? with | some p=>decide (p.1 ≥ j.1) | none=>false))
 | none=>false
noncomputable def pAgent (a:Agent):Bool:=!((List.range (aJobs a).length).any (bJob (aJobs a) (aLast a))) && (pBridge (aB a) && (decide ((a.2.2.2.2.2.2.2.2.2.2.2.1.length:Int) ≤ 20) && (decide (((aJobs a).length:Int) ≤ 6) && (pIn (aLost a) 0 1000000 && pIn (aLast a) 0 1000000))))
structure AWf (a:Agent):Prop where
 b:BWf (aB a)
 n:(aJobs a).length ≤ 1048576
 j:∀ x ∈ aJobs a,JWf x
theorem agent_loop {a:Agent} (h:AWf a):loop (fun z=>gO a z) 0 = some (cond ((List.range (aJobs a).length).any (bJob (aJobs a) (aLast a))) (Sum.inr false) (Sum.inl ())):=by
 have hn:=h.n
 rw [← all_loop (n:=(aJobs a).length) (c:=fun i=>(at? (aJobs a) i).bind fun x=>(ac x.1 1 (aLast a)).bind fun t=>(cond (!t) (some true) ((cond (decide (i > 0)) ((at? (aJobs a) (w64 (i - 1))).bind fun y=>some (decide (y.1 ≥ x.1))) (some false)).bind fun t=>some t)).bind fun t=>(cond t (some true) ((eu x).bind fun t=>some (!t))).bind fun t=>some t) (b:=bJob (aJobs a) (aLast a)) (by omega) (fun k hk=>by
  simp only [at_nat hk,obs,inT,jobT (h.j _ (getElem_mem hk)),bJob,List.getElem?_eq_getElem hk]
  by_cases h0:0 < k
  · have hd:decide ((k:Int) > 0) = true:=dT (by omega)
    simp only [hd,prev_at hk h0 (by omega),obs,dT h0,List.getElem?_eq_getElem (show k - 1 < (aJobs a).length by omega),cT]
    cases pIn (aJobs a)[k].1 1 (aLast a) <;> cases decide ((aJobs a)[k - 1].1 ≥ (aJobs a)[k].1) <;> cases pJob (aJobs a)[k] <;> rfl
  · have hd:decide ((k:Int) > 0) = false:=dF (by omega)
    simp only [hd,dF h0]
    cases pIn (aJobs a)[k].1 1 (aLast a) <;> cases pJob (aJobs a)[k] <;> rfl)]
 refine loop_ext (fun i=>?_) 0
 unfold gO aJobs aLast
 simp only [Option.bind_assoc,obs]
theorem agent_loopS {a:Agent} (h:AWf a):loop (fun z=>gY a z) 0 = some (cond ((List.range (aJobs a).length).any (bJob (aJobs a) (aLast a))) (Sum.inr false) (Sum.inl ())):=by
 have hn:=h.n
 rw [← all_loop (n:=(aJobs a).length) (c:=fun i=>(at? (aJobs a) i).bind fun x=>(eU x (aLast a)).bind fun t=>(cond (!t) (some true) ((cond (decide (i > 0)) ((at? (aJobs a) (w64 (i - 1))).bind fun y=>(at? (aJobs a) i).bind fun x=>some (decide (y.1 ≥ x.1))) (some false)).bind fun t=>some t))) (b:=bJob (aJobs a) (aLast a)) (by omega) (fun k hk=>by
  simp only [at_nat hk,obs,jobS (h.j _ (getElem_mem hk)),bJob,List.getElem?_eq_getElem hk]
  by_cases h0:0 < k
  · have hd:decide ((k:Int) > 0) = true:=dT (by omega)
    simp only [hd,prev_at hk h0 (by omega),obs,dT h0,List.getElem?_eq_getElem (show k - 1 < (aJobs a).length by omega),cT]
    cases pIn (aJobs a)[k].1 1 (aLast a) <;> cases decide ((aJobs a)[k - 1].1 ≥ (aJobs a)[k].1) <;> cases pJob (aJobs a)[k] <;> rfl
  · have hd:decide ((k:Int) > 0) = false:=dF (by omega)
    simp only [hd,dF h0]
    cases pIn (aJobs a)[k].1 1 (aLast a) <;> cases pJob (aJobs a)[k] <;> rfl)]
 refine loop_ext (fun i=>?_) 0
 unfold gY aJobs aLast
 simp only [Option.bind_assoc,obs]
theorem gtNot (n m:Int):decide (n > m) = !(decide (n ≤ m)):=by
 by_cases h:n ≤ m
 · rw [dT h,dF (by omega)]; rfl
 · rw [dF h,dT (by omega)]; rfl
theorem agentT {a:Agent} (h:AWf a):dk a = some (pAgent a):=by
 have hb:bc (a.1,a.2.1,a.2.2.1,a.2.2.2.1,a.2.2.2.2.1,a.2.2.2.2.2.1,a.2.2.2.2.2.2.1,a.2.2.2.2.2.2.2.1,a.2.2.2.2.2.2.2.2.1,a.2.2.2.2.2.2.2.2.2.1,a.2.2.2.2.2.2.2.2.2.2.1) = some (pBridge (aB a)):=bridgeT h.b
 unfold dk pAgent
 rw [agent_loop h,hb]
 simp only [countT,obs,gtNot,aLost,aLast]
 generalize (List.range (aJobs a).length).any _ = u
 show _ = some (!u && (pBridge (aB a) && (_ && (decide ((a.2.2.2.2.2.2.2.2.2.2.2.2.1.length:Int) ≤ 6) && (_)))))
 cases u <;> cases pBridge (aB a) <;> cases decide ((a.2.2.2.2.2.2.2.2.2.2.2.1.length:Int) ≤ 20) <;> cases decide ((a.2.2.2.2.2.2.2.2.2.2.2.2.1.length:Int) ≤ 6) <;> cases pIn a.2.2.2.2.2.2.2.2.2.2.2.2.2.1 0 1000000 <;> cases pIn a.2.2.2.2.2.2.2.2.2.2.2.2.2.2 0 1000000 <;> rfl
theorem agentS {a:Agent} (h:AWf a):cE a = some (pAgent a):=by
 have hb:aR (a.1,a.2.1,a.2.2.1,a.2.2.2.1,a.2.2.2.2.1,a.2.2.2.2.2.1,a.2.2.2.2.2.2.1,a.2.2.2.2.2.2.2.1,a.2.2.2.2.2.2.2.2.1,a.2.2.2.2.2.2.2.2.2.1,a.2.2.2.2.2.2.2.2.2.2.1) = some (pBridge (aB a)):=bridgeS h.b
 unfold cE pAgent
 rw [agent_loopS h,hb]
 simp only [inS,obs,aLost,aLast]
 generalize (List.range (aJobs a).length).any _ = u
 show _ = some (!u && (pBridge (aB a) && (_ && (decide ((a.2.2.2.2.2.2.2.2.2.2.2.2.1.length:Int) ≤ 6) && (_)))))
 cases u <;> cases pBridge (aB a) <;> cases decide ((a.2.2.2.2.2.2.2.2.2.2.2.1.length:Int) ≤ 20) <;> cases decide ((a.2.2.2.2.2.2.2.2.2.2.2.2.1.length:Int) ≤ 6) <;> cases pIn a.2.2.2.2.2.2.2.2.2.2.2.2.2.1 0 1000000 <;> cases pIn a.2.2.2.2.2.2.2.2.2.2.2.2.2.2 0 1000000 <;> rfl
theorem copy_loop {α:Type} {l:List α} {step:Int × List α → Option ((Int × List α) ⊕ List α)} (hn:l.length ≤ M)
 (hs:∀ k (hk:k < l.length) out,step ((k:Int),out) = (app out [l[k]]).bind fun zs=>some (.inl (((k + 1:Nat):Int),zs)))
 (he:∀ out,step ((l.length:Int),out) = some (.inr out)):loop step (0,[]) = some l:=by
 have hn':l.length ≤ 1048576:=hn
 obtain ⟨b,h1,rfl⟩:=loop_inv (step:=step) (fun k z=>z = ((k:Int),l.take k)) l.length (fun b=>b = l)
  (fun k z hk e=>by
   subst e
   left
   refine ⟨_,by rw [hs k hk,app_small (by rw [length_take]; show _ + 1 ≤ _; omega),obs],?_⟩
   rw [take_add_one,List.getElem?_eq_getElem hk]; rfl)
  (fun z e=>by
   subst e
   exact ⟨_,he _,by rw [take_length]⟩) (x:=(0,[])) rfl
 exact h1
theorem copyVal {v:Val} (h:VLe M v):fQ v = some v:=by unfold fQ; rw [copyInts h.2]; rfl
theorem copyBinds {l:List Bind} (h:XsLe M l):dz l = some l:=by
 have hn:l.length ≤ 1048576:=h.1
 unfold dz
 rw [copy_loop (step:=fun z=>dy l z.1 z.2) h.1 (fun k hk out=>by
  show dy l (k:Int) out = _
  unfold dy
  have hx:=h.2 _ (getElem_mem hk)
  rw [dlt (by omega),cT,at_nat hk,obs,copyInts hx.1,obs,copyVal hx.2,obs,w64_nat (by omega)]) (fun out=>by
  show dy l (l.length:Int) out = _
  unfold dy
  rw [dnlt (by omega),cF])]; rfl
theorem copyBindsS {l:List Bind} (h:XsLe M l):cP l = some l:=by
 have hn:l.length ≤ 1048576:=h.1
 unfold cP
 rw [copy_loop (step:=fun z=>dL l z.1 z.2) h.1 (fun k hk out=>by
  show dL l (k:Int) out = _
  unfold dL
  have hx:=h.2 _ (getElem_mem hk)
  rw [dlt (by omega),cT,at_nat hk,obs,app_nil hx.2.2,obs,obs,app_nil hx.1,obs,w64_nat (by omega)]) (fun out=>by
  show dL l (l.length:Int) out = _
  unfold dL
  rw [dnlt (by omega),cF])]; rfl
theorem copyPdu {p:Pdu} (h:PLe M p):eB p = some p:=by unfold eB; rw [copyBinds h]; rfl
theorem copyPduS {p:Pdu} (h:PLe M p):eV p = some p:=by unfold eV; rw [copyBindsS h]; rfl
theorem copyAgent {a:Agent} (h:ALe M a):eC a = some a:=by
 obtain ⟨h1,h2,h3,h4⟩:=h
 have hn:(aJobs a).length ≤ 1048576:=h3
 unfold eC
 have hb:ap (a.1,a.2.1,a.2.2.1,a.2.2.2.1,a.2.2.2.2.1,a.2.2.2.2.2.1,a.2.2.2.2.2.2.1,a.2.2.2.2.2.2.2.1,a.2.2.2.2.2.2.2.2.1,a.2.2.2.2.2.2.2.2.2.1,a.2.2.2.2.2.2.2.2.2.2.1) = some (aB a):=copyBridge h1
 rw [hb,obs,copy_loop (l:=aJobs a) (step:=fun z=>dA a z.1 z.2) h3 (fun k hk out=>by
  show dA a (k:Int) out = _
  unfold dA
  obtain ⟨hx1,hx2,hx3⟩:=h4 _ (getElem_mem hk)
  have e0:at? a.2.2.2.2.2.2.2.2.2.2.2.2.1 (k:Int) = some (aJobs a)[k]:=at_nat hk
  rw [dlt (show (k:Int) < (a.2.2.2.2.2.2.2.2.2.2.2.2.1.length:Int) by show (k:Int) < ((aJobs a).length:Int); omega),cT,e0,obs]
  generalize (aJobs a)[k] = x at hx1 hx2 hx3
  have e1:eB (x.2.2.2.1,x.2.2.2.2.1,x.2.2.2.2.2.1,x.2.2.2.2.2.2.1,x.2.2.2.2.2.2.2.1) = some (jP x):=copyPdu hx2
  have e2:ap (x.2.2.2.2.2.2.2.2.1,x.2.2.2.2.2.2.2.2.2.1,x.2.2.2.2.2.2.2.2.2.2.1,x.2.2.2.2.2.2.2.2.2.2.2.1,x.2.2.2.2.2.2.2.2.2.2.2.2.1,x.2.2.2.2.2.2.2.2.2.2.2.2.2.1,x.2.2.2.2.2.2.2.2.2.2.2.2.2.2.1,x.2.2.2.2.2.2.2.2.2.2.2.2.2.2.2.1,x.2.2.2.2.2.2.2.2.2.2.2.2.2.2.2.2.1,x.2.2.2.2.2.2.2.2.2.2.2.2.2.2.2.2.2.1,x.2.2.2.2.2.2.2.2.2.2.2.2.2.2.2.2.2.2.1) = some (jB x):=copyBridge hx3
  rw [copyBytes hx1,obs,e1,obs,e2,obs,w64_nat (by omega)]
  rfl) (fun out=>by
  show dA a ((aJobs a).length:Int) out = _
  unfold dA
  rw [dnlt (show ¬ ((aJobs a).length:Int) < (a.2.2.2.2.2.2.2.2.2.2.2.2.1.length:Int) by show ¬ ((aJobs a).length:Int) < ((aJobs a).length:Int); omega),cF])]
 rfl
theorem copyAgentS {a:Agent} (h:ALe M a):eX a = some a:=by
 obtain ⟨h1,h2,h3,h4⟩:=h
 have hn:(aJobs a).length ≤ 1048576:=h3
 unfold eX
 have hb:am (a.1,a.2.1,a.2.2.1,a.2.2.2.1,a.2.2.2.2.1,a.2.2.2.2.2.1,a.2.2.2.2.2.2.1,a.2.2.2.2.2.2.2.1,a.2.2.2.2.2.2.2.2.1,a.2.2.2.2.2.2.2.2.2.1,a.2.2.2.2.2.2.2.2.2.2.1) = some (aB a):=copyBridgeS h1
 rw [hb,obs]
 obtain ⟨d,d1,rfl⟩:=loop_inv (step:=fun z:Int × Int × List UInt8 × Int × Int × Int × Int × Int × List UInt8 × Int × Int × List Job=>eW a z.1 z.2.1 z.2.2.1 z.2.2.2.1 z.2.2.2.2.1 z.2.2.2.2.2.1 z.2.2.2.2.2.2.1 z.2.2.2.2.2.2.2.1 z.2.2.2.2.2.2.2.2.1 z.2.2.2.2.2.2.2.2.2.1 z.2.2.2.2.2.2.2.2.2.2.1 z.2.2.2.2.2.2.2.2.2.2.2)
  (fun k z=>z = ((k:Int),a.1,a.2.1,a.2.2.2.2.2.2.1,a.2.2.2.2.2.2.2.1,a.2.2.2.2.2.2.2.2.1,a.2.2.2.2.2.2.2.2.2.1,a.2.2.2.2.2.2.2.2.2.2.1,a.2.2.2.2.2.2.2.2.2.2.2.1,a.2.2.2.2.2.2.2.2.2.2.2.2.2.1,a.2.2.2.2.2.2.2.2.2.2.2.2.2.2,(aJobs a).take k)) (aJobs a).length
  (fun d=>d = (a.1,a.2.1,a.2.2.2.2.2.2.1,a.2.2.2.2.2.2.2.1,a.2.2.2.2.2.2.2.2.1,a.2.2.2.2.2.2.2.2.2.1,a.2.2.2.2.2.2.2.2.2.2.1,a.2.2.2.2.2.2.2.2.2.2.2.1,a.2.2.2.2.2.2.2.2.2.2.2.2.2.1,a.2.2.2.2.2.2.2.2.2.2.2.2.2.2,aJobs a))
  (fun k z hk e=>by
   subst e
   left
   simp only
   unfold eW
   obtain ⟨hx1,hx2,hx3⟩:=h4 _ (getElem_mem hk)
   have e0:at? a.2.2.2.2.2.2.2.2.2.2.2.2.1 (k:Int) = some (aJobs a)[k]:=at_nat hk
   have et:(aJobs a).take (k + 1) = (aJobs a).take k ++ [(aJobs a)[k]]:=by rw [take_add_one,List.getElem?_eq_getElem hk]; rfl
   rw [dlt (show (k:Int) < (a.2.2.2.2.2.2.2.2.2.2.2.2.1.length:Int) by show (k:Int) < ((aJobs a).length:Int); omega),cT,e0,obs,et]
   generalize (aJobs a)[k] = x at hx1 hx2 hx3
   have e1:eV (x.2.2.2.1,x.2.2.2.2.1,x.2.2.2.2.2.1,x.2.2.2.2.2.2.1,x.2.2.2.2.2.2.2.1) = some (jP x):=copyPduS hx2
   have e2:am (x.2.2.2.2.2.2.2.2.1,x.2.2.2.2.2.2.2.2.2.1,x.2.2.2.2.2.2.2.2.2.2.1,x.2.2.2.2.2.2.2.2.2.2.2.1,x.2.2.2.2.2.2.2.2.2.2.2.2.1,x.2.2.2.2.2.2.2.2.2.2.2.2.2.1,x.2.2.2.2.2.2.2.2.2.2.2.2.2.2.1,x.2.2.2.2.2.2.2.2.2.2.2.2.2.2.2.1,x.2.2.2.2.2.2.2.2.2.2.2.2.2.2.2.2.1,x.2.2.2.2.2.2.2.2.2.2.2.2.2.2.2.2.2.1,x.2.2.2.2.2.2.2.2.2.2.2.2.2.2.2.2.2.2.1) = some (jB x):=copyBridgeS hx3
   rw [app_nil hx1,obs,e1,obs,e2,obs,app_small (by rw [length_take]; show _ + 1 ≤ _; omega),obs,w64_nat (by omega)]
   exact ⟨_,rfl,rfl⟩)
  (fun z e=>by
   subst e
   simp only
   unfold eW
   rw [dnlt (show ¬ ((aJobs a).length:Int) < (a.2.2.2.2.2.2.2.2.2.2.2.2.1.length:Int) by show ¬ ((aJobs a).length:Int) < ((aJobs a).length:Int); omega),cF,take_length]
   exact ⟨_,rfl,rfl⟩) (x:=(0,a.1,a.2.1,a.2.2.2.2.2.2.1,a.2.2.2.2.2.2.2.1,a.2.2.2.2.2.2.2.2.1,a.2.2.2.2.2.2.2.2.2.1,a.2.2.2.2.2.2.2.2.2.2.1,a.2.2.2.2.2.2.2.2.2.2.2.1,a.2.2.2.2.2.2.2.2.2.2.2.2.2.1,a.2.2.2.2.2.2.2.2.2.2.2.2.2.2,[])) rfl
 have d1':loop (fun z:Int × Int × List UInt8 × Int × Int × Int × Int × Int × List UInt8 × Int × Int × List Job=>eW a z.1 z.2.1 z.2.2.1 z.2.2.2.1 z.2.2.2.2.1 z.2.2.2.2.2.1 z.2.2.2.2.2.2.1 z.2.2.2.2.2.2.2.1 z.2.2.2.2.2.2.2.2.1 z.2.2.2.2.2.2.2.2.2.1 z.2.2.2.2.2.2.2.2.2.2.1 z.2.2.2.2.2.2.2.2.2.2.2) (0,(aB a).1,(aB a).2.1,(aB a).2.2.2.2.2.2.1,(aB a).2.2.2.2.2.2.2.1,(aB a).2.2.2.2.2.2.2.2.1,(aB a).2.2.2.2.2.2.2.2.2.1,(aB a).2.2.2.2.2.2.2.2.2.2,a.2.2.2.2.2.2.2.2.2.2.2.1,a.2.2.2.2.2.2.2.2.2.2.2.2.2.1,a.2.2.2.2.2.2.2.2.2.2.2.2.2.2,[]) = _:=d1
 rw [d1']
 rfl

def rowIx (l:List Vrow) (id:Int):Int:=match l.findIdx? (fun r=>r.1 == id) with | some k=>(k:Int) | none=>-1
theorem rowAtX {v:Vtab} (hn:v.1.length < 9223372036854775807) (id:Int):ao v id = some (rowIx v.1 id):=by
 unfold ao rowIx
 obtain ⟨b,h1,rfl⟩:=loop_inv (β:=Unit ⊕ Int) (step:=fun z=>aD v id z) (fun k i=>i = (k:Int) ∧ ∀ j (hj:j < k),∀ (hl:j < v.1.length),¬ ((v.1[j].1 == id) = true)) v.1.length (fun b=>b = match v.1.findIdx? (fun r=>r.1 == id) with | some k=>.inr (k:Int) | none=>.inl ())
  (fun k i hk ⟨h,hy⟩=>by
   subst h
   unfold aD
   rw [dlt (by omega),cT,at_nat hk,obs]
   cases hb:(v.1[k].1 == id) with
   | true =>
    refine .inr ⟨_,rfl,?_⟩
    rw [List.findIdx?_eq_some_iff_getElem.2 ⟨hk,hb,fun j hj=>hy j hj (by omega)⟩]
   | false =>
    refine .inl ⟨_,rfl,w64_nat (by omega),fun j hj hl=>?_⟩
    by_cases hjk:j = k
    · subst hjk; rw [hb]; simp
    · exact hy j (by omega) hl)
  (fun i ⟨h,hy⟩=>by
   subst h
   refine ⟨.inl (),by unfold aD; rw [dnlt (by omega),cF],?_⟩
   rw [List.findIdx?_eq_none_iff.2 fun x hx=>by
    obtain ⟨j,hj,rfl⟩:=getElem_of_mem hx
    have:=hy j hj hj
    simpa using this]) (x:=0) ⟨rfl,fun j hj=>by omega⟩
 rw [h1,obs]
 cases v.1.findIdx? (fun r=>r.1 == id) <;> rfl
theorem rowAtXS {v:Vtab} (hn:v.1.length < 9223372036854775807) (id:Int):bo v id = some (rowIx v.1 id):=rowAtX hn id
theorem rowIx_some {l:List Vrow} {id:Int} (h:0 ≤ rowIx l id):∃ k,∃ hk:k < l.length,rowIx l id = (k:Int) ∧ l[k].1 = id:=by
 unfold rowIx at h ⊢
 cases hf:l.findIdx? (fun r=>r.1 == id) with
 | none=>rw [hf] at h; simp at h
 | some k =>
  obtain ⟨hk,h1,_⟩:=List.findIdx?_eq_some_iff_getElem.1 hf
  exact ⟨k,hk,rfl,by simpa using h1⟩
theorem rowIx_none {l:List Vrow} {id:Int} (h:rowIx l id < 0):∀ x ∈ l,x.1 ≠ id:=by
 unfold rowIx at h
 cases hf:l.findIdx? (fun r=>r.1 == id) with
 | some k=>rw [hf] at h; simp at h; omega
 | none =>
  intro x hx
  have:=List.findIdx?_eq_none_iff.1 hf x hx
  simpa using this
def entIx (l:List Fent) (tag mac:Int):Int:=match l.findIdx? (fun e=>e.1 == tag && e.2.1 == mac) with | some k=>(k:Int) | none=>-1
theorem entAtX {l:List Fent} (hn:l.length < 9223372036854775807) (tag mac:Int):fV l tag mac = some (entIx l tag mac):=by
 unfold fV entIx
 obtain ⟨b,h1,rfl⟩:=loop_inv (β:=Unit ⊕ Int) (step:=fun z=>cI l tag mac z) (fun k i=>i = (k:Int) ∧ ∀ j (hj:j < k),∀ (hl:j < l.length),¬ ((l[j].1 == tag && l[j].2.1 == mac) = true)) l.length (fun b=>b = match l.findIdx? (fun e=>e.1 == tag && e.2.1 == mac) with | some k=>.inr (k:Int) | none=>.inl ())
  (fun k i hk ⟨h,hy⟩=>by
   subst h
   have hs:cI l tag mac (k:Int) = cond (l[k].1 == tag && l[k].2.1 == mac) (some (.inr (.inr (k:Int)))) (some (.inl ((k + 1:Nat):Int))):=by
    unfold cI
    simp only [dlt (show (k:Int) < (l.length:Int) by omega),cT,at_nat hk,obs,w64_nat (show k < 9223372036854775807 by omega)]
    cases l[k].1 == tag <;> rfl
   show (∃ y,cI l tag mac (k:Int) = some (.inl y) ∧ _) ∨ ∃ b,cI l tag mac (k:Int) = some (.inr b) ∧ _
   rw [hs]
   cases hb:(l[k].1 == tag && l[k].2.1 == mac) with
   | true =>
    refine .inr ⟨_,rfl,?_⟩
    rw [List.findIdx?_eq_some_iff_getElem.2 ⟨hk,hb,fun j hj=>hy j hj (by omega)⟩]
   | false =>
    refine .inl ⟨_,rfl,rfl,fun j hj hl=>?_⟩
    by_cases hjk:j = k
    · subst hjk; rw [hb]; simp
    · exact hy j (by omega) hl)
  (fun i ⟨h,hy⟩=>by
   subst h
   refine ⟨.inl (),by unfold cI; rw [dnlt (by omega),cF],?_⟩
   rw [List.findIdx?_eq_none_iff.2 fun x hx=>by
    obtain ⟨j,hj,rfl⟩:=getElem_of_mem hx
    have:=hy j hj hj
    simpa using this]) (x:=0) ⟨rfl,fun j hj=>by omega⟩
 rw [h1,obs]
 cases l.findIdx? (fun e=>e.1 == tag && e.2.1 == mac) <;> rfl
theorem entAtXS {l:List Fent} (hn:l.length < 9223372036854775807) (tag mac:Int):cg l tag mac = some (entIx l tag mac):=by
 unfold cg entIx
 obtain ⟨b,h1,rfl⟩:=loop_inv (β:=Unit ⊕ Int) (step:=fun z=>aP l tag mac z) (fun k i=>i = (k:Int) ∧ ∀ j (hj:j < k),∀ (hl:j < l.length),¬ ((l[j].1 == tag && l[j].2.1 == mac) = true)) l.length (fun b=>b = match l.findIdx? (fun e=>e.1 == tag && e.2.1 == mac) with | some k=>.inr (k:Int) | none=>.inl ())
  (fun k i hk ⟨h,hy⟩=>by
   subst h
   have hs:aP l tag mac (k:Int) = cond (l[k].1 == tag && l[k].2.1 == mac) (some (.inr (.inr (k:Int)))) (some (.inl ((k + 1:Nat):Int))):=by
    unfold aP
    simp only [dlt (show (k:Int) < (l.length:Int) by omega),cT,at_nat hk,obs,w64_nat (show k < 9223372036854775807 by omega)]
    cases l[k].1 == tag <;> rfl
   show (∃ y,aP l tag mac (k:Int) = some (.inl y) ∧ _) ∨ ∃ b,aP l tag mac (k:Int) = some (.inr b) ∧ _
   rw [hs]
   cases hb:(l[k].1 == tag && l[k].2.1 == mac) with
   | true =>
    refine .inr ⟨_,rfl,?_⟩
    rw [List.findIdx?_eq_some_iff_getElem.2 ⟨hk,hb,fun j hj=>hy j hj (by omega)⟩]
   | false =>
    refine .inl ⟨_,rfl,rfl,fun j hj hl=>?_⟩
    by_cases hjk:j = k
    · subst hjk; rw [hb]; simp
    · exact hy j (by omega) hl)
  (fun i ⟨h,hy⟩=>by
   subst h
   refine ⟨.inl (),by unfold aP; rw [dnlt (by omega),cF],?_⟩
   rw [List.findIdx?_eq_none_iff.2 fun x hx=>by
    obtain ⟨j,hj,rfl⟩:=getElem_of_mem hx
    have:=hy j hj hj
    simpa using this]) (x:=0) ⟨rfl,fun j hj=>by omega⟩
 rw [h1,obs]
 cases l.findIdx? (fun e=>e.1 == tag && e.2.1 == mac) <;> rfl

def numP (o:List Int) (lo hi:Int) (head:List Int):Bool:=(o.length == head.length + 4) && ((o.take (head.length + 3) == [1,3,1] ++ head) && (match o[head.length + 3]? with | some x=>pIn x lo hi | none=>false))
theorem numB {o:List Int} (lo hi:Int) {head:List Int} (ho:o.length ≤ M) (hh:head.length ≤ 100):aM o lo hi head = some (numP o lo hi head):=by
 have ho':o.length ≤ 1048576:=ho
 have hw:w64 ((head.length:Int) + 4) = ((head.length + 4:Nat):Int):=by rw [w64_id (by omega) (by omega)]; omega
 unfold aM numP
 rw [hw]
 by_cases hl:o.length = head.length + 4
 · have hw2:w64 ((o.length:Int) - 1) = ((head.length + 3:Nat):Int):=by rw [w64_id (by omega) (by omega)]; omega
   have hc:cut o 0 ((head.length + 3:Nat):Int) = some (o.take (head.length + 3)):=by
    rw [show (0:Int) = ((0:Nat):Int) from rfl,cut_ok (Nat.zero_le _) (by omega),drop_zero]
   have hlt:head.length + 3 < o.length:=by omega
   rw [show ((o.length:Int) == ((head.length + 4:Nat):Int)) = true from beq_iff_eq.2 (by omega),cT,hw2,hc,obs,app_small (by show 3 + head.length ≤ _; omega),obs,sameO (by rw [length_append]; show 3 + head.length < _; omega),obs,at_nat hlt,obs,inT,obs,List.getElem?_eq_getElem hlt]
   rw [show (o.length == head.length + 4) = true from beq_iff_eq.2 hl]
   cases (o.take (head.length + 3) == [1,3,1] ++ head) <;> rfl
 · rw [show ((o.length:Int) == ((head.length + 4:Nat):Int)) = false from beq_eq_false_iff_ne.2 (by omega),cF,show (o.length == head.length + 4) = false from beq_eq_false_iff_ne.2 hl]
   rfl
abbrev nPorts (b:Bridge):Int:=(b.2.2.1.length:Int)
abbrev bRows (b:Bridge):List Vrow:=b.2.2.2.2.1
def canP (b:Bridge) (o:List Int):Bool:=numP o 1 1 [1] || (numP o 1 (nPorts b) [2,2] || (numP o 1 (nPorts b) [2,4] || (numP o 1 99 [3,1] || ((numP o 1 99 [3,2] || numP o 1 99 [3,3]) && (match o[5]? with | some x=>decide (rowIx (bRows b) x ≥ 0) | none=>false)))))
theorem numP_len {o:List Int} {lo hi:Int} {head:List Int} (h:numP o lo hi head = true):o.length = head.length + 4:=by
 unfold numP at h
 simp only [aT,beq_iff_eq] at h
 exact h.1
theorem canB {b:Bridge} (hb:BLe M b) {o:List Int} (ho:o.length ≤ M):fS b o = some (canP b o):=by
 have hr:b.2.2.2.2.1.length < 9223372036854775807:=by have:b.2.2.2.2.1.length ≤ 1048576:=hb.2.2.2.1; omega
 unfold fS canP
 rw [numB 1 1 ho (by decide),numB 1 _ ho (by decide),numB 1 _ ho (by decide),numB 1 99 ho (by decide),numB 1 99 ho (by decide),numB 1 99 ho (by decide)]
 simp only [obs]
 cases numP o 1 1 [1] with
 | true=>rfl
 | false =>
 cases numP o 1 (nPorts b) [2,2] with
 | true=>rfl
 | false =>
 cases numP o 1 (nPorts b) [2,4] with
 | true=>rfl
 | false =>
 cases numP o 1 99 [3,1] with
 | true=>rfl
 | false =>
 have key:o.length = 6 → ((at? o 5).bind fun x41=>(ao (b.2.2.2.2.1,b.2.2.2.2.2.1) x41).bind fun t43=>some (decide (t43 ≥ 0))) = some (match o[5]? with | some x=>decide (rowIx (bRows b) x ≥ 0) | none=>false):=by
  intro h6
  have h5:5 < o.length:=by omega
  rw [show (5:Int) = ((5:Nat):Int) from rfl,at_nat h5,obs,rowAtX hr,obs,List.getElem?_eq_getElem h5]
 cases h2:numP o 1 99 [3,2] with
 | true =>
  simp only [cF,cT,obs,Bool.false_or,Bool.true_or,Bool.true_and]
  rw [key (numP_len h2)]; rfl
 | false =>
  cases h3:numP o 1 99 [3,3] with
  | true =>
   simp only [cF,cT,obs,Bool.false_or,Bool.or_true,Bool.true_and]
   rw [key (numP_len h3)]; rfl
  | false=>rfl
def readP (b:Bridge) (o:List Int):Bool:=numP o 2 5 [1] || (numP o 1 (nPorts b) [2,1] || (numP o 1 (nPorts b) [2,3] || (((o.length == 7) && (o.take 5 == [1,3,1,4,1])) && (match o[5]?,o[6]? with | some x,some y=>decide (entIx b.2.2.2.1 x y ≥ 0) | _,_=>false))))
theorem readB {b:Bridge} (hb:BLe M b) {o:List Int} (ho:o.length ≤ M):fW b o = some (readP b o):=by
 have hr:b.2.2.2.1.length < 9223372036854775807:=by have:b.2.2.2.1.length ≤ 1048576:=hb.2.2.1; omega
 unfold fW readP
 rw [numB 2 5 ho (by decide),numB 1 _ ho (by decide),numB 1 _ ho (by decide)]
 simp only [obs]
 cases numP o 2 5 [1] with
 | true=>rfl
 | false =>
 cases numP o 1 (nPorts b) [2,1] with
 | true=>rfl
 | false =>
 cases numP o 1 (nPorts b) [2,3] with
 | true=>rfl
 | false =>
 by_cases h7:o.length = 7
 · have h5:5 < o.length:=by omega
   have h6:6 < o.length:=by omega
   have hc:cut o 0 5 = some (o.take 5):=by
    rw [show (0:Int) = ((0:Nat):Int) from rfl,show (5:Int) = ((5:Nat):Int) from rfl,cut_ok (Nat.zero_le _) (by omega),drop_zero]
   rw [show ((o.length:Int) == 7) = true from beq_iff_eq.2 (by omega),show (o.length == 7) = true from beq_iff_eq.2 h7]
   simp only [cF,cT,obs,hc,sameO (show ([1,3,1,4,1]:List Int).length < 9223372036854775807 by decide),Bool.false_or,Bool.true_and]
   cases (o.take 5 == [1,3,1,4,1]) with
   | false=>rfl
   | true =>
    rw [show (5:Int) = ((5:Nat):Int) from rfl,show (6:Int) = ((6:Nat):Int) from rfl]
    simp only [cT,at_nat h5,at_nat h6,obs,entAtX hr,List.getElem?_eq_getElem h5,List.getElem?_eq_getElem h6,Bool.true_and]
 · rw [show ((o.length:Int) == 7) = false from beq_eq_false_iff_ne.2 (by omega),show (o.length == 7) = false from beq_eq_false_iff_ne.2 h7]
   rfl

def belP (o:List Int):Bool:=decide (o.length > 3) && (o.take 3 == [1,3,1])
theorem belB {o:List Int} (ho:o.length ≤ M):eZ o = some (cond (belP o) (o.drop 3,true) ([],false)):=by
 have ho':o.length ≤ 1048576:=ho
 unfold eZ hN belP
 by_cases h:o.length > 3
 · have hc:cut o 0 ((([1,3,1]:List Int).length:Nat):Int) = some (o.take 3):=by
    rw [show (0:Int) = ((0:Nat):Int) from rfl,cut_ok (Nat.zero_le _) (by show 3 ≤ _; omega),drop_zero]; rfl
   have hc2:cut o 3 (o.length:Int) = some (o.drop 3):=by
    rw [show (3:Int) = ((3:Nat):Int) from rfl,cut_ok (by omega) (Nat.le_refl _),take_length]
   have hs:cU (o.take 3) [1,3,1] = some (o.take 3 == [1,3,1]):=sameO (a:=o.take 3) (b:=[1,3,1]) (by decide)
   rw [dT (show (o.length:Int) > (([1,3,1]:List Int).length:Int) by show (o.length:Int) > 3; omega),cT,hc,obs,hs,dT h]
   simp only [obs,Bool.true_and]
   cases (o.take 3 == [1,3,1]) with
   | false=>rfl
   | true=>simp only [Bool.not_true,cF,cT,hc2,obs]
 · rw [dF (show ¬ (o.length:Int) > (([1,3,1]:List Int).length:Int) by show ¬ (o.length:Int) > 3; omega),dF h]
   rfl
def mayP (b:Bridge) (o:List Int):Bool:=belP o && (match o.drop 3 with
 | [a,c]=>a == 1 && c == 1
 | [a,c,p]=>(a == 2 && ((c == 2 || c == 4) && pIn p 1 (nPorts b))) || (a == 3 && ((c == 1 && pIn p 1 99) || ((c == 2 || c == 3) && decide (rowIx (bRows b) p ≥ 0))))
 | _=>false)
theorem mayB {b:Bridge} (hb:BLe M b) {o:List Int} (ho:o.length ≤ M):gj b o = some (mayP b o):=by
 have hr:b.2.2.2.2.1.length < 9223372036854775807:=by have:b.2.2.2.2.1.length ≤ 1048576:=hb.2.2.2.1; omega
 unfold gj mayP
 rw [belB ho,obs]
 cases belP o with
 | false=>rfl
 | true =>
  simp only [cT,Bool.not_true,cF,Bool.true_and]
  match o.drop 3 with
  | []=>rfl
  | [a]=>rfl
  | [a,c] =>
   rw [show (([a,c].length:Int) == 2) = true from rfl,cT,show at? [a,c] 0 = some a from rfl,show at? [a,c] 1 = some c from rfl]
   simp only [obs]
   cases a == 1 <;> rfl
  | [a,c,p] =>
   rw [show (([a,c,p].length:Int) == 2) = false from rfl,cF,show (([a,c,p].length:Int) != 3) = false from rfl,cF,show at? [a,c,p] 0 = some a from rfl,show at? [a,c,p] 1 = some c from rfl,show at? [a,c,p] 2 = some p from rfl]
   simp only [obs,inS,rowAtXS (v:=(b.2.2.2.2.1,b.2.2.2.2.2.1)) hr]
   by_cases h2:a = 2
   · subst h2
     cases c == 2 <;> cases c == 4 <;> simp
   · by_cases h3:a = 3
     · subst h3
       cases c == 1 <;> cases c == 2 <;> cases c == 3 <;> cases pIn p 1 99 <;> simp
     · rw [show (a == 2) = false from beq_eq_false_iff_ne.2 h2,show (a == 3) = false from beq_eq_false_iff_ne.2 h3]; rfl
  | a :: c :: p :: q :: l =>
   simp only [length_cons]
   rw [show ((((l.length + 1 + 1 + 1 + 1:Nat):Int)) == 2) = false from beq_eq_false_iff_ne.2 (by omega),show ((((l.length + 1 + 1 + 1 + 1:Nat):Int)) != 3) = true from bne_iff_ne.2 (by omega)]
   rfl
def seenP (b:Bridge) (o:List Int):Bool:=belP o && (match o.drop 3 with
 | [a,c]=>a == 1 && pIn c 2 5
 | [a,c,p]=>a == 2 && ((c == 1 || c == 3) && pIn p 1 (nPorts b))
 | [a,c,p,q]=>(a == 4 && c == 1) && decide (entIx b.2.2.2.1 p q ≥ 0)
 | _=>false)
theorem seenB {b:Bridge} (hb:BLe M b) {o:List Int} (ho:o.length ≤ M):gk b o = some (seenP b o):=by
 have hr:b.2.2.2.1.length < 9223372036854775807:=by have:b.2.2.2.1.length ≤ 1048576:=hb.2.2.1; omega
 unfold gk seenP
 rw [belB ho,obs]
 cases belP o with
 | false=>rfl
 | true =>
  simp only [cT,Bool.not_true,cF,Bool.true_and]
  match o.drop 3 with
  | []=>rfl
  | [a]=>rfl
  | [a,c] =>
   rw [show (([a,c].length:Int) == 2) = true from rfl,cT,show at? [a,c] 0 = some a from rfl,show at? [a,c] 1 = some c from rfl]
   simp only [obs,inS]
   cases a == 1 <;> rfl
  | [a,c,p] =>
   rw [show (([a,c,p].length:Int) == 2) = false from rfl,cF,show (([a,c,p].length:Int) == 3) = true from rfl,cT,show at? [a,c,p] 0 = some a from rfl,show at? [a,c,p] 1 = some c from rfl,show at? [a,c,p] 2 = some p from rfl]
   simp only [obs,inS]
   cases a == 2 <;> cases c == 1 <;> cases c == 3 <;> simp
  | [a,c,p,q] =>
   rw [show (([a,c,p,q].length:Int) == 2) = false from rfl,cF,show (([a,c,p,q].length:Int) == 3) = false from rfl,cF,show (([a,c,p,q].length:Int) == 4) = true from rfl,cT,show at? [a,c,p,q] 0 = some a from rfl,show at? [a,c,p,q] 1 = some c from rfl,show at? [a,c,p,q] 2 = some p from rfl,show at? [a,c,p,q] 3 = some q from rfl]
   simp only [obs,entAtXS hr]
   cases a == 4 <;> cases c == 1 <;> simp
  | a :: c :: p :: q :: r :: l =>
   simp only [length_cons]
   rw [show ((((l.length + 1 + 1 + 1 + 1 + 1:Nat):Int)) == 2) = false from beq_eq_false_iff_ne.2 (by omega),show ((((l.length + 1 + 1 + 1 + 1 + 1:Nat):Int)) == 3) = false from beq_eq_false_iff_ne.2 (by omega),show ((((l.length + 1 + 1 + 1 + 1 + 1:Nat):Int)) == 4) = false from beq_eq_false_iff_ne.2 (by omega)]
   rfl

structure SOk (b:Bridge):Prop where
 id:pIn b.1 1 99 = true
 name:b.2.1.length ≤ 10
 n1:1 ≤ b.2.2.1.length
 n6:b.2.2.1.length ≤ 6
 p:∀ x ∈ b.2.2.1,pPt x = true
 f:pFdb b.2.2.2.1 = true
 c:pCounts b = true
 q:b.2.2.2.2.2.1.length = b.2.2.1.length
 v:b.2.2.2.2.1.length ≤ 6
 s:b.2.2.2.2.1.Pairwise fun r s=>r.1 < s.1
 i:∀ r ∈ b.2.2.2.2.1,pIn r.1 1 99 = true
 h:∀ r ∈ b.2.2.2.2.1,-9223372036854775808 ≤ r.2.2 ∧ r.2.2 ≤ 9223372036854775807
theorem SOk.f12 {b:Bridge} (h:SOk b):b.2.2.2.1.length ≤ 12:=by
 have hf:=h.f
 unfold pFdb at hf
 simp only [aT,decide_eq_true_eq] at hf
 omega
theorem SOk.le {b:Bridge} (h:SOk b):BLe M b:=by
 have h1:=h.name; have h2:=h.n6; have h3:=h.f12; have h4:=h.v; have h5:=h.q
 have hM:M = 1048576:=rfl
 exact ⟨by omega,by omega,by omega,by omega,by omega⟩
theorem BOk.sok {b:Bridge} (h:BOk b):SOk b:=by
 obtain ⟨v1,v2,v3,v4⟩:=h.vt.len
 refine ⟨h.id,h.name,h.n1,h.n6,h.p,h.f,h.c,v3,v4,rows_rise h,fun r hr=>?_,h.w.r⟩
 obtain ⟨k,hk,rfl⟩:=getElem_of_mem hr
 have hv:=h.v
 unfold pVtab at hv
 simp only [aT,Bool.not_eq_true'] at hv
 have hx:=any_eq_false.1 hv.2.1 k (mem_range.2 hk)
 unfold bRow at hx
 simp only [List.getElem?_eq_getElem hk] at hx
 cases hq:pIn b.2.2.2.2.1[k].1 1 99 with
 | true=>rfl
 | false=>rw [hq] at hx; simp at hx
theorem short3 {o:List Int} (h:o.length ≤ 2):(∀ lo hi head,numP o lo hi head = false) ∧ belP o = false:=by
 refine ⟨fun lo hi head=>?_,?_⟩
 · unfold numP
   rw [beq_eq_false_iff_ne.2 (by omega),Bool.false_and]
 · unfold belP
   rw [dF (by omega),Bool.false_and]
theorem bad3 {x y z:Int} {t:List Int} (h:¬ (x = 1 ∧ y = 3 ∧ z = 1)):(∀ lo hi head,numP (x :: y :: z :: t) lo hi head = false) ∧ belP (x :: y :: z :: t) = false:=by
 refine ⟨fun lo hi head=>?_,?_⟩
 · unfold numP
   have:((x :: y :: z :: t).take (head.length + 3) == [1,3,1] ++ head) = false:=by
    rw [bF]
    intro e
    rw [take_succ_cons,take_succ_cons,take_succ_cons] at e
    simp at e
    exact h ⟨e.1,e.2.1,e.2.2.1⟩
   rw [this,Bool.false_and,Bool.and_false]
 · unfold belP
   have:((x :: y :: z :: t).take 3 == [1,3,1]) = false:=by
    rw [bF]
    intro e
    simp at e
    exact h e
   rw [this,Bool.and_false]
theorem num1 (t:List Int) (lo hi c:Int):numP (1 :: 3 :: 1 :: t) lo hi [c] = match t with | [a,x]=>a == c && pIn x lo hi | _=>false:=by
 match t with
 | []=>simp [numP]
 | [a]=>simp [numP]
 | [a,x]=>simp [numP]
 | a :: x :: y :: t=>simp [numP]
theorem num2 (t:List Int) (lo hi c d:Int):numP (1 :: 3 :: 1 :: t) lo hi [c,d] = match t with | [a,b,x]=>(a == c && b == d) && pIn x lo hi | _=>false:=by
 match t with
 | []=>simp [numP]
 | [a]=>simp [numP]
 | [a,x]=>simp [numP]
 | [a,b,x]=>simp [numP]
 | a :: b :: x :: y :: t=>simp [numP]
theorem bel3 (t:List Int):belP (1 :: 3 :: 1 :: t) = decide (0 < t.length):=by
 unfold belP
 rw [show ((1 :: 3 :: 1 :: t).take 3 == [1,3,1]) = true from rfl,Bool.and_true]
 simp
theorem in1 (c:Int):pIn c 1 1 = (c == 1):=by
 unfold pIn
 by_cases h:c = 1
 · subst h; rfl
 · rw [beq_eq_false_iff_ne.2 h]
   simp only [Bool.and_eq_false_iff,decide_eq_false_iff_not]; omega
theorem can_may {b:Bridge} (h:SOk b) (o:List Int):canP b o = mayP b o:=by
 unfold canP mayP
 match o with
 | []=>simp only [(short3 (o:=[]) (by simp)).1,(short3 (o:=[]) (by simp)).2]; rfl
 | [x]=>simp only [(short3 (o:=[x]) (by simp)).1,(short3 (o:=[x]) (by simp)).2]; rfl
 | [x,y]=>simp only [(short3 (o:=[x,y]) (by simp)).1,(short3 (o:=[x,y]) (by simp)).2]; rfl
 | x :: y :: z :: t =>
  by_cases h3:x = 1 ∧ y = 3 ∧ z = 1
  · obtain ⟨rfl,rfl,rfl⟩:=h3
    simp only [num1,num2,bel3,in1]
    match t with
    | []=>rfl
    | [a]=>simp
    | [a,c]=>simp
    | [a,c,p] =>
     have hp:decide (rowIx (bRows b) p ≥ 0) = true → pIn p 1 99 = true:=by
      intro e
      obtain ⟨k,hk,_,e2⟩:=rowIx_some (of_decide_eq_true e)
      rw [← e2]; exact h.i _ (getElem_mem hk)
     have e5:(1 :: 3 :: 1 :: [a,c,p])[5]? = some p:=rfl
     rw [e5]
     rw [show decide (0 < [a,c,p].length) = true from rfl,Bool.true_and]
     show (((false:Bool) || ((((a == 2) && (c == 2)) && pIn p 1 (nPorts b)) || ((((a == 2) && (c == 4)) && pIn p 1 (nPorts b)) || ((((a == 3) && (c == 1)) && pIn p 1 99) || (((((a == 3) && (c == 2)) && pIn p 1 99) || (((a == 3) && (c == 3)) && pIn p 1 99)) && decide (rowIx (bRows b) p ≥ 0))))))) = ((a == 2) && (((c == 2) || (c == 4)) && pIn p 1 (nPorts b)) || (a == 3) && ((c == 1) && pIn p 1 99 || ((c == 2) || (c == 3)) && decide (rowIx (bRows b) p ≥ 0)))
     revert hp
     generalize (a == 2) = a2
     generalize (a == 3) = a3
     generalize (c == 1) = c1
     generalize (c == 2) = c2
     generalize (c == 3) = c3
     generalize (c == 4) = c4
     generalize pIn p 1 (nPorts b) = pn
     generalize pIn p 1 99 = pg
     generalize decide (rowIx (bRows b) p ≥ 0) = R
     clear e5
     revert a2 a3 c1 c2 c3 c4 pn pg R
     decide
    | a :: c :: p :: q :: l=>simp
  · simp only [(bad3 (t:=t) h3).1,(bad3 (t:=t) h3).2]; rfl
theorem read_seen {b:Bridge} (h:SOk b) (o:List Int):readP b o = seenP b o:=by
 unfold readP seenP
 match o with
 | []=>simp only [(short3 (o:=[]) (by simp)).1,(short3 (o:=[]) (by simp)).2]; rfl
 | [x]=>simp only [(short3 (o:=[x]) (by simp)).1,(short3 (o:=[x]) (by simp)).2]; rfl
 | [x,y]=>simp only [(short3 (o:=[x,y]) (by simp)).1,(short3 (o:=[x,y]) (by simp)).2]; rfl
 | x :: y :: z :: t =>
  by_cases h3:x = 1 ∧ y = 3 ∧ z = 1
  · obtain ⟨rfl,rfl,rfl⟩:=h3
    simp only [num1,num2,bel3,in1]
    match t with
    | []=>rfl
    | [a]=>simp
    | [a,c]=>simp
    | [a,c,p] =>
     have e7:((1 :: 3 :: 1 :: [a,c,p]).length == 7) = false:=rfl
     rw [e7,Bool.false_and,Bool.false_and,Bool.false_or]
     show ((a == 2 && c == 1) && pIn p 1 (nPorts b) || ((a == 2 && c == 3) && pIn p 1 (nPorts b) || false)) = (true && (a == 2 && ((c == 1 || c == 3) && pIn p 1 (nPorts b))))
     cases (a == 2) <;> cases (c == 1) <;> cases (c == 3) <;> simp
    | [a,c,p,q]=>simp
    | a :: c :: p :: q :: r :: l=>simp
  · simp only [(bad3 (t:=t) h3).1,(bad3 (t:=t) h3).2]
    rw [Bool.false_or,Bool.false_or,Bool.false_or,Bool.false_and]
    have:((x :: y :: z :: t).take 5 == [1,3,1,4,1]) = false:=by
     rw [bF]
     intro e
     simp at e
     exact h3 ⟨e.1,e.2.1,e.2.2.1⟩
    rw [this,Bool.and_false,Bool.false_and]
def insG (r:Vrow):Bool → List Vrow → List Vrow
 | false,[]=>[r]
 | true,[]=>[]
 | false,x :: t=>if x.1 ≥ r.1 then r :: (if x.1 != r.1 then x :: insG r true t else insG r true t) else x :: insG r false t
 | true,x :: t=>if x.1 != r.1 then x :: insG r true t else insG r true t
theorem insG_true {r:Vrow}:∀ {l:List Vrow},(∀ x ∈ l,x.1 ≠ r.1) → insG r true l = l
 | [],_=>rfl
 | x :: t,h=>by
  unfold insG
  rw [if_pos (bne_iff_ne.2 (h x (by simp))),insG_true fun y hy=>h y (mem_cons_of_mem _ hy)]
theorem insG_set {r:Vrow}:∀ {l:List Vrow} {k:Nat} (hk:k < l.length),l.Pairwise (fun r s=>r.1 < s.1) → l[k].1 = r.1 → insG r false l = l.set k r
 | x :: t,0,_,hp,e=>by
  have e':x.1 = r.1:=e
  unfold insG
  rw [if_pos (by omega),if_neg (by simp [e']),insG_true fun y hy=>by have:=(pairwise_cons.1 hp).1 y hy; omega]
  rfl
 | x :: t,k + 1,hk,hp,e=>by
  have e':(t[k]'(by simpa using hk)).1 = r.1:=e
  have:=(pairwise_cons.1 hp).1 _ (getElem_mem (by simpa using hk:k < t.length))
  unfold insG
  rw [if_neg (by omega),insG_set (by simpa using hk) (pairwise_cons.1 hp).2 e']
  rfl
theorem insG_at {r:Vrow}:∀ {l:List Vrow} {d:Nat},l.Pairwise (fun r s=>r.1 < s.1) → (∀ x ∈ l,x.1 ≠ r.1) → (∀ x ∈ l.take d,x.1 ≤ r.1) → (∀ x,l[d]? = some x → ¬ x.1 ≤ r.1) → insG r false l = l.take d ++ r :: l.drop d
 | [],d,_,_,_,_=>by simp [insG]
 | x :: t,0,hp,hn,_,h2=>by
  have:=h2 x rfl
  unfold insG
  rw [if_pos (by omega),if_pos (bne_iff_ne.2 (hn x (by simp))),insG_true fun y hy=>hn y (mem_cons_of_mem _ hy)]
  rfl
 | x :: t,d + 1,hp,hn,h1,h2=>by
  have a1:=h1 x (by simp)
  have a2:=hn x (by simp)
  unfold insG
  rw [if_neg (by omega),insG_at (d:=d) (pairwise_cons.1 hp).2 (fun y hy=>hn y (mem_cons_of_mem _ hy)) (fun y hy=>h1 y (by rw [take_succ_cons]; exact mem_cons_of_mem _ hy)) (fun y hy=>h2 y (by simpa using hy))]
  rfl
theorem rowInS {v:Vtab} (r:Vrow) (h1:v.1.length ≤ 1000) (h2:v.2.length ≤ 1000):bq v r = some (insG r false v.1,v.2):=by
 unfold bq
 rw [app_small (by show 0 + v.2.length ≤ _; omega),obs]
 obtain ⟨b,e1,e2⟩:=loop_inv (β:=Bool × List Vrow) (step:=fun z:Bool × Int × List Vrow=>bH v r z.1 z.2.1 z.2.2)
  (fun k z=>z.2.1 = (k:Int) ∧ z.2.2 ++ insG r z.1 (v.1.drop k) = insG r false v.1 ∧ z.2.2.length ≤ 2 * k) v.1.length
  (fun z=>z.2 ++ insG r z.1 [] = insG r false v.1 ∧ z.2.length ≤ 2000)
  (fun k z hk ⟨z1,z2,z3⟩=>by
   obtain ⟨dn,i,out⟩:=z
   simp only at z1 z2 z3
   subst z1
   left
   have hd:v.1.drop k = v.1[k] :: v.1.drop (k + 1):=drop_eq_getElem_cons hk
   have hw:w64 ((k:Int) + 1) = ((k + 1:Nat):Int):=w64_nat (by omega)
   have ha:∀ (x:Vrow),app out [x] = some (out ++ [x]):=fun x=>app_small (by show _ + 1 ≤ _; omega)
   have hb:∀ (x y:Vrow),app (out ++ [x]) [y] = some (out ++ [x] ++ [y]):=fun x y=>app_small (by simp only [length_append,length_cons,length_nil]; omega)
   rw [hd] at z2
   generalize hG:insG r false v.1 = G at z2 ⊢
   unfold bH
   simp only [dlt (show (k:Int) < (v.1.length:Int) by omega),cT,at_nat hk,obs,ha,hb,hw]
   cases dn with
   | true =>
    simp only [Bool.not_true,cF,obs]
    unfold insG at z2
    cases hq:(v.1[k].1 != r.1) with
    | true =>
     rw [hq] at z2
     exact ⟨_,rfl,rfl,by simpa using z2,by simp; omega⟩
    | false =>
     rw [hq] at z2
     exact ⟨_,rfl,rfl,by simpa using z2,by simp; omega⟩
   | false =>
    simp only [Bool.not_false,cT,obs]
    unfold insG at z2
    by_cases hg:v.1[k].1 ≥ r.1
    · rw [if_pos hg] at z2
      simp only [dT hg,cT]
      cases hq:(v.1[k].1 != r.1) with
      | true =>
       rw [hq] at z2
       exact ⟨_,rfl,rfl,by simpa using z2,by simp; omega⟩
      | false =>
       rw [hq] at z2
       exact ⟨_,rfl,rfl,by simpa using z2,by simp; omega⟩
    · rw [if_neg hg] at z2
      simp only [dF hg,cF,bne_iff_ne.2 (show v.1[k].1 ≠ r.1 by omega),cT]
      exact ⟨_,rfl,rfl,by simpa using z2,by simp; omega⟩)
  (fun z ⟨z1,z2,z3⟩=>by
   obtain ⟨dn,i,out⟩:=z
   simp only at z1 z2 z3
   subst z1
   rw [List.drop_length] at z2
   refine ⟨(dn,out),?_,z2,by show out.length ≤ 2000; have:out.length ≤ 2 * v.1.length:=z3; omega⟩
   unfold bH
   rw [dnlt (by omega),cF]) (x:=(false,0,[])) ⟨rfl,rfl,by simp⟩
 rw [e1,obs]
 obtain ⟨dn,out⟩:=b
 simp only at e2 ⊢
 cases dn with
 | true =>
  rw [Bool.not_true,cF,← e2.1]; simp [insG]
 | false =>
  rw [Bool.not_false,cT,app_small (by show _ + 1 ≤ _; omega),obs,← e2.1]; rfl
theorem withRowX {v:Vtab} (r:Vrow) (h1:v.1.length ≤ 1000) (h2:v.2.length ≤ 1000) (hp:v.1.Pairwise fun r s=>r.1 < s.1):eJ v r = some (insG r false v.1,v.2):=by
 unfold eJ
 have hM:M = 1048576:=rfl
 rw [copyVtab ⟨by omega,by omega⟩,obs,rowAtX (by omega),obs]
 by_cases hr:rowIx v.1 r.1 ≥ 0
 · obtain ⟨k,hk,e1,e2⟩:=rowIx_some hr
   have hx:ix v.1.length (k:Int) = some k:=by unfold ix; rw [if_pos (by omega),if_pos (by omega),Int.toNat_natCast]
   rw [dT hr,cT,e1,hx,obs,List.getElem?_eq_getElem hk,obs,insG_set hk hp e2]
 · rw [dF hr,cF]
   have hn:=rowIx_none (by omega:rowIx v.1 r.1 < 0)
   obtain ⟨d,e1,k,hk,rfl,e3,e4⟩:=loop_inv (β:=Int) (step:=fun z=>fT v r z)
    (fun k z=>z = (k:Int) ∧ ∀ x ∈ v.1.take k,x.1 ≤ r.1) v.1.length
    (fun z=>∃ k:Nat,k ≤ v.1.length ∧ z = (k:Int) ∧ (∀ x ∈ v.1.take k,x.1 ≤ r.1) ∧ (∀ x,v.1[k]? = some x → ¬ x.1 ≤ r.1))
    (fun k z hk ⟨z1,z2⟩=>by
     subst z1
     unfold fT
     simp only [dlt (show (k:Int) < (v.1.length:Int) by omega),cT,at_nat hk,obs]
     by_cases hq:v.1[k].1 ≤ r.1
     · refine .inl ⟨_,by rw [dT hq,cT],w64_nat (by omega),fun x hx=>?_⟩
       rw [take_add_one,List.getElem?_eq_getElem hk,mem_append] at hx
       rcases hx with hx | hx
       · exact z2 x hx
       · simp at hx; subst hx; exact hq
     · refine .inr ⟨_,by rw [dF hq,cF],k,by omega,rfl,z2,fun x hx=>?_⟩
       rw [List.getElem?_eq_getElem hk] at hx
       cases hx; exact hq)
    (fun z ⟨z1,z2⟩=>by
     subst z1
     refine ⟨(v.1.length:Int),?_,v.1.length,Nat.le_refl _,rfl,z2,fun x hx=>?_⟩
     · unfold fT
       rw [dnlt (by omega),cF]; rfl
     · rw [List.getElem?_eq_none (Nat.le_refl _)] at hx; cases hx) (x:=0) ⟨rfl,by simp⟩
   rw [e1,obs,show (0:Int) = ((0:Nat):Int) from rfl,cut_ok (Nat.zero_le _) hk,obs,drop_zero]
   have hl:(v.1.take k).length ≤ 1000:=by rw [length_take]; omega
   rw [app_small (by simp only [length_nil]; omega),obs,nil_append,app_small (by simp only [length_cons,length_nil]; omega),obs,cut_ok hk (Nat.le_refl _),obs,take_length,app_small (by simp only [length_append,length_cons,length_nil,length_drop]; omega),obs,insG_at hp hn e3 e4]
   simp

def Sets (b:Bridge) (m s:Option (Bridge × Int)):Prop:=∃ r,m = some r ∧ s = some r ∧ SOk r.1 ∧ (r.2 ≠ 0 → r.1 = b)
theorem cutIx_ok {n a b:Nat} (h1:a ≤ b) (h2:b ≤ n):cutIx n (a:Int) (b:Int) = some (a,b):=by
 unfold cutIx
 rw [if_pos (by omega),if_pos (by omega),if_pos (by omega)]; simp
theorem withoutX {v:Vtab} (id:Int) (h1:v.1.length ≤ 1000) (h2:v.2.length ≤ 1000) {k:Nat} (hk:k < v.1.length) (e:rowIx v.1 id = (k:Int)):eK v id = some (v.1.eraseIdx k,v.2):=by
 unfold eK
 have hM:M = 1048576:=rfl
 have hw:w64 ((k:Int) + 1) = ((k + 1:Nat):Int):=w64_nat (by omega)
 rw [copyVtab ⟨by omega,by omega⟩,obs,rowAtX (by omega),obs,e,dT (by omega),cT,hw,show (0:Int) = ((0:Nat):Int) from rfl,cut_ok (Nat.zero_le _) (by omega),obs,app_small (by simp only [length_nil,length_drop,length_take]; omega),obs,cut_ok (by omega) (Nat.le_refl _),obs,app_small (by simp only [length_append,length_nil,length_drop,length_take]; omega),obs,List.eraseIdx_eq_take_drop_succ]
 simp
theorem insG_ok {r:Vrow} {l:List Vrow} (hs:l.Pairwise fun r s=>r.1 < s.1) (hi:∀ x ∈ l,pIn x.1 1 99 = true) (hh:∀ x ∈ l,-9223372036854775808 ≤ x.2.2 ∧ x.2.2 ≤ 9223372036854775807)
 (ri:pIn r.1 1 99 = true) (rh:-9223372036854775808 ≤ r.2.2 ∧ r.2.2 ≤ 9223372036854775807) :
 (insG r false l).Pairwise (fun r s=>r.1 < s.1) ∧ (∀ x ∈ insG r false l,pIn x.1 1 99 = true) ∧ (∀ x ∈ insG r false l,-9223372036854775808 ≤ x.2.2 ∧ x.2.2 ≤ 9223372036854775807):=by
 have hm:∀ {dn:Bool} {l:List Vrow},∀ x ∈ insG r dn l,x = r ∨ x ∈ l:=by
  intro dn l
  induction l generalizing dn with
  | nil=>intro x hx; cases dn <;> simp [insG] at hx; exact .inl hx
  | cons y t ih =>
   intro x hx
   cases dn with
   | true =>
    unfold insG at hx
    split at hx
    · rcases mem_cons.1 hx with rfl | hx
      · exact .inr (by simp)
      · rcases ih x hx with e | e
        · exact .inl e
        · exact .inr (mem_cons_of_mem _ e)
    · rcases ih x hx with e | e
      · exact .inl e
      · exact .inr (mem_cons_of_mem _ e)
   | false =>
    unfold insG at hx
    split at hx
    · rcases mem_cons.1 hx with rfl | hx
      · exact .inl rfl
      · split at hx
        · rcases mem_cons.1 hx with rfl | hx
          · exact .inr (by simp)
          · rcases ih x hx with e | e
            · exact .inl e
            · exact .inr (mem_cons_of_mem _ e)
        · rcases ih x hx with e | e
          · exact .inl e
          · exact .inr (mem_cons_of_mem _ e)
    · rcases mem_cons.1 hx with rfl | hx
      · exact .inr (by simp)
      · rcases ih x hx with e | e
        · exact .inl e
        · exact .inr (mem_cons_of_mem _ e)
 have hp:∀ {l:List Vrow},l.Pairwise (fun r s=>r.1 < s.1) → (insG r false l).Pairwise (fun r s=>r.1 < s.1):=by
  intro l
  induction l with
  | nil=>intro _; simp [insG]
  | cons y t ih =>
   intro h
   have h1:=(pairwise_cons.1 h).1
   have h2:=(pairwise_cons.1 h).2
   unfold insG
   split
   · next hy =>
     have ht:insG r true t = t:=insG_true fun z hz=>by have:=h1 z hz; omega
     rw [ht]
     split
     · next hq =>
       have hq:=bne_iff_ne.1 hq
       refine pairwise_cons.2 ⟨fun z hz=>?_,h⟩
       rcases mem_cons.1 hz with rfl | hz
       · omega
       · have:=h1 z hz; omega
     · next hq =>
       have hq:y.1 = r.1:=by simpa using hq
       refine pairwise_cons.2 ⟨fun z hz=>?_,h2⟩
       have:=h1 z hz; omega
   · next hy =>
     refine pairwise_cons.2 ⟨fun z hz=>?_,ih h2⟩
     rcases hm z hz with rfl | hz
     · omega
     · exact h1 z hz
 refine ⟨hp hs,fun x hx=>?_,fun x hx=>?_⟩
 · rcases hm x hx with rfl | hx
   · exact ri
   · exact hi x hx
 · rcases hm x hx with rfl | hx
   · exact rh
   · exact hh x hx
theorem insG_len {r:Vrow} {dn:Bool} {l:List Vrow}:(insG r dn l).length ≤ l.length + 1:=by
 induction l generalizing dn with
 | nil=>cases dn <;> simp [insG]
 | cons x t ih =>
  have h1:=ih (dn:=true)
  have h2:=ih (dn:=false)
  have h3:(insG r true t).length ≤ t.length:=by
   clear ih h1 h2
   induction t with
   | nil=>simp [insG]
   | cons y t ih=>unfold insG; split <;> simp <;> omega
  cases dn <;> unfold insG <;> split <;> (try split) <;> simp <;> omega
theorem SOk.rows {b:Bridge} (h:SOk b) {R:List Vrow} (h1:R.length ≤ 6) (h2:R.Pairwise fun r s=>r.1 < s.1) (h3:∀ x ∈ R,pIn x.1 1 99 = true) (h4:∀ x ∈ R,-9223372036854775808 ≤ x.2.2 ∧ x.2.2 ≤ 9223372036854775807) :
 SOk (b.1,b.2.1,b.2.2.1,b.2.2.2.1,R,b.2.2.2.2.2.1,b.2.2.2.2.2.2.1,b.2.2.2.2.2.2.2.1,b.2.2.2.2.2.2.2.2.1,b.2.2.2.2.2.2.2.2.2.1,b.2.2.2.2.2.2.2.2.2.2) :=
 ⟨h.id,h.name,h.n1,h.n6,h.p,h.f,h.c,h.q,h1,h2,h3,h4⟩
theorem ports6 {b:Bridge} (h:SOk b):pIn (b.2.2.1.length:Int) 1 6 = true:=by
 have h1:=h.n1; have h2:=h.n6
 unfold pIn
 rw [dT (by omega),dT (by omega)]; rfl
theorem setRowX {b:Bridge} (h:SOk b) (c id n:Int) (hc:(c = 1 ∧ pIn id 1 99 = true) ∨ ((c = 2 ∨ c = 3) ∧ rowIx (bRows b) id ≥ 0)):Sets b (fU b c id n) (gl b c id n):=by
 have hv:=h.v
 have hq:b.2.2.2.2.2.1.length ≤ 6:=by have:=h.q; have:=h.n6; omega
 have hr:∀ (id:Int),ao (b.2.2.2.2.1,b.2.2.2.2.2.1) id = some (rowIx (bRows b) id):=fun id=>rowAtX (v:=(b.2.2.2.2.1,b.2.2.2.2.2.1)) (by show b.2.2.2.2.1.length < _; omega) id
 have hrs:∀ (id:Int),bo (b.2.2.2.2.1,b.2.2.2.2.2.1) id = some (rowIx (bRows b) id):=hr
 have hw:∀ (r:Vrow),eJ (b.2.2.2.2.1,b.2.2.2.2.2.1) r = some (insG r false b.2.2.2.2.1,b.2.2.2.2.2.1):=fun r=>withRowX (v:=(b.2.2.2.2.1,b.2.2.2.2.2.1)) r (by show b.2.2.2.2.1.length ≤ _; omega) (by show b.2.2.2.2.2.1.length ≤ _; omega) h.s
 have hws:∀ (r:Vrow),bq (b.2.2.2.2.1,b.2.2.2.2.2.1) r = some (insG r false b.2.2.2.2.1,b.2.2.2.2.2.1):=fun r=>rowInS (v:=(b.2.2.2.2.1,b.2.2.2.2.2.1)) r (by show b.2.2.2.2.1.length ≤ _; omega) (by show b.2.2.2.2.2.1.length ≤ _; omega)
 unfold fU gl
 rw [hr,obs]
 by_cases h1:c = 1
 · subst h1
   have hid:pIn id 1 99 = true:=by rcases hc with hc | hc; exact hc.2; rcases hc.1 with e | e <;> cases e
   unfold hU
   rw [hrs]
   simp only [show ((1:Int) == 1) = true from rfl,cT,obs,hw,hws]
   by_cases hp:rowIx (bRows b) id ≥ 0
   · have hp':¬ rowIx (bRows b) id < 0:=by omega
     simp only [dT hp,dF hp']
     have e4:cond (n == 4) (some false) (some false) = some false:=by cases (n == 4) <;> rfl
     rw [e4]
     simp only [obs,cF]
     cases hn:(n == 6) with
     | false =>
      simp only [cF,obs]
      exact ⟨_,rfl,rfl,h,fun _=>rfl⟩
     | true =>
      obtain ⟨k,hk,e1,e2⟩:=rowIx_some hp
      simp only [cT,obs]
      have hk':k < b.2.2.2.2.1.length:=hk
      have hw64:w64 (rowIx (bRows b) id + 1) = ((k + 1:Nat):Int):=by rw [e1]; exact w64_nat (by omega)
      have hwo:eK (b.2.2.2.2.1,b.2.2.2.2.2.1) id = some (b.2.2.2.2.1.eraseIdx k,b.2.2.2.2.2.1):=withoutX (v:=(b.2.2.2.2.1,b.2.2.2.2.2.1)) id (by show b.2.2.2.2.1.length ≤ _; omega) (by show b.2.2.2.2.2.1.length ≤ _; omega) hk e1
      have hso:(cutIx b.2.2.2.2.1.length 0 (rowIx (bRows b) id)).bind (fun p=>(app ([]:List Vrow) ((b.2.2.2.2.1.take p.2).drop p.1)).bind fun zs47=>(cutIx b.2.2.2.2.1.length (w64 (rowIx (bRows b) id + 1)) (b.2.2.2.2.1.length:Int)).bind fun p_1=>(app zs47 ((b.2.2.2.2.1.take p_1.2).drop p_1.1)).bind fun zs54=>some ((b.1,b.2.1,b.2.2.1,b.2.2.2.1,zs54,b.2.2.2.2.2.1,b.2.2.2.2.2.2.1,b.2.2.2.2.2.2.2.1,b.2.2.2.2.2.2.2.2.1,b.2.2.2.2.2.2.2.2.2.1,b.2.2.2.2.2.2.2.2.2.2),(0:Int)))
       = some ((b.1,b.2.1,b.2.2.1,b.2.2.2.1,b.2.2.2.2.1.eraseIdx k,b.2.2.2.2.2.1,b.2.2.2.2.2.2.1,b.2.2.2.2.2.2.2.1,b.2.2.2.2.2.2.2.2.1,b.2.2.2.2.2.2.2.2.2.1,b.2.2.2.2.2.2.2.2.2.2),0):=by
       rw [hw64,e1,show (0:Int) = ((0:Nat):Int) from rfl,cutIx_ok (Nat.zero_le _) (by omega),obs,app_small (by simp only [length_nil,length_drop,length_take]; omega),obs,cutIx_ok (by omega) (Nat.le_refl _),obs,app_small (by simp only [length_append,length_nil,length_drop,length_take]; omega),obs,List.eraseIdx_eq_take_drop_succ]
       simp
      rw [hwo]
      refine ⟨_,rfl,by rw [hso]; rfl,h.rows ?_ ?_ ?_ ?_,fun e=>absurd rfl e⟩
      · rw [List.length_eraseIdx]; split <;> omega
      · exact h.s.sublist (List.eraseIdx_sublist _ _)
      · exact fun x hx=>h.i x (List.mem_of_mem_eraseIdx hx)
      · exact fun x hx=>h.h x (List.mem_of_mem_eraseIdx hx)
   · have hp':rowIx (bRows b) id < 0:=by omega
     simp only [dF hp,dT hp']
     have e6:cond (n == 6) (some false) (some false) = some false:=by cases (n == 6) <;> rfl
     rw [e6]
     cases hn:(n == 4) with
     | false =>
      simp only [cF,obs]
      exact ⟨_,rfl,rfl,h,fun _=>rfl⟩
     | true =>
      simp only [cT,obs]
      by_cases h6:(b.2.2.2.2.1.length:Int) < 6
      · simp only [dT h6,cT]
        obtain ⟨g1,g2,g3⟩:=insG_ok (r:=(id,0,0)) h.s h.i h.h hid ⟨by show (-9223372036854775808:Int) ≤ 0; decide,by show (0:Int) ≤ 9223372036854775807; decide⟩
        have:=insG_len (r:=(id,0,0)) (dn:=false) (l:=b.2.2.2.2.1)
        exact ⟨_,rfl,rfl,h.rows (by omega) g1 g2 g3,fun e=>absurd rfl e⟩
      · simp only [dF h6,cF,obs]
        exact ⟨_,rfl,rfl,h,fun _=>rfl⟩
 · have h23:c = 2 ∨ c = 3:=by rcases hc with hc | hc; exact absurd hc.1 h1; exact hc.1
   have hp:rowIx (bRows b) id ≥ 0:=by rcases hc with hc | hc; exact absurd hc.1 h1; exact hc.2
   obtain ⟨k,hk,e1,e2⟩:=rowIx_some hp
   have hk':k < b.2.2.2.2.1.length:=hk
   obtain ⟨t,q1,q2⟩:=shlS (ports6 h)
   rw [show (c == 1) = false from beq_eq_false_iff_ne.2 h1]
   simp only [cF,allPortsT (ports6 h),q1,obs,inT,inS,q2]
   cases hn:pIn n 0 (pTop (b.2.2.1.length:Int)) with
   | false=>exact ⟨_,rfl,rfl,h,fun _=>rfl⟩
   | true =>
    have ht:=(topLe (ports6 h)).2
    have hnr:-9223372036854775808 ≤ n ∧ n ≤ 9223372036854775807:=by
     unfold pIn at hn
     simp only [aT,decide_eq_true_eq] at hn
     omega
    have hx:ix b.2.2.2.2.1.length (k:Int) = some k:=ix_nat hk'
    rw [hrs]
    simp only [Bool.not_true,cF,obs,e1,hx,List.getElem?_eq_getElem hk',hws]
    have hin:∀ (r:Vrow),r.1 = b.2.2.2.2.1[k].1 → insG r false b.2.2.2.2.1 = b.2.2.2.2.1.set k r:=fun r e=>insG_set hk' h.s e.symm
    have hki:=h.i _ (getElem_mem hk')
    have hkh:=h.h _ (getElem_mem hk')
    have hlen:∀ (r:Vrow),r.1 = b.2.2.2.2.1[k].1 → (insG r false b.2.2.2.2.1).length ≤ 6:=fun r e=>by rw [hin r e,length_set]; exact hv
    rcases h23 with rfl | rfl
    · simp only [show ((2:Int) == 2) = true from rfl,cT]
      obtain ⟨g1,g2,g3⟩:=insG_ok (r:=(b.2.2.2.2.1[k].1,n,b.2.2.2.2.1[k].2.2)) h.s h.i h.h hki hkh
      refine ⟨_,rfl,?_,?_,fun e=>absurd rfl e⟩
      · rw [hin (b.2.2.2.2.1[k].1,n,b.2.2.2.2.1[k].2.2) rfl]
      · rw [← hin (b.2.2.2.2.1[k].1,n,b.2.2.2.2.1[k].2.2) rfl]
        exact h.rows (hlen _ rfl) g1 g2 g3
    · simp only [show ((3:Int) == 2) = false from rfl,cF]
      obtain ⟨g1,g2,g3⟩:=insG_ok (r:=(b.2.2.2.2.1[k].1,b.2.2.2.2.1[k].2.1,n)) h.s h.i h.h hki hnr
      refine ⟨_,rfl,?_,?_,fun e=>absurd rfl e⟩
      · rw [hin (b.2.2.2.2.1[k].1,b.2.2.2.2.1[k].2.1,n) rfl]
      · rw [← hin (b.2.2.2.2.1[k].1,b.2.2.2.2.1[k].2.1,n) rfl]
        exact h.rows (hlen _ rfl) g1 g2 g3
theorem may_shape {b:Bridge} {o:List Int} (h:mayP b o = true):o = [1,3,1,1,1] ∨ (∃ c p,o = [1,3,1,2,c,p] ∧ (c = 2 ∨ c = 4) ∧ pIn p 1 (nPorts b) = true) ∨ (∃ c p,o = [1,3,1,3,c,p] ∧ ((c = 1 ∧ pIn p 1 99 = true) ∨ ((c = 2 ∨ c = 3) ∧ rowIx (bRows b) p ≥ 0))):=by
 unfold mayP at h
 rw [aT] at h
 obtain ⟨h1,h2⟩:=h
 unfold belP at h1
 simp only [aT,decide_eq_true_eq,beq_iff_eq] at h1
 have ho:o = [1,3,1] ++ o.drop 3:=by rw [← h1.2,take_append_drop]
 match hd:o.drop 3,h2 with
 | [a,c],h2 =>
  simp only [aT,beq_iff_eq] at h2
  rw [hd] at ho
  exact .inl (by rw [ho,h2.1,h2.2]; rfl)
 | [a,c,p],h2 =>
  rw [hd] at ho
  simp only [Bool.or_eq_true,aT,beq_iff_eq,decide_eq_true_eq] at h2
  rcases h2 with ⟨rfl,h3,h4⟩ | ⟨rfl,h3⟩
  · exact .inr (.inl ⟨c,p,ho,h3,h4⟩)
  · exact .inr (.inr ⟨c,p,ho,h3⟩)
theorem portIx {b:Bridge} {p:Int} (h:pIn p 1 (nPorts b) = true) (hn:b.2.2.1.length ≤ 6):∃ k,k < b.2.2.1.length ∧ w64 (p - 1) = (k:Int):=by
 unfold pIn nPorts at h
 simp only [aT,decide_eq_true_eq] at h
 exact ⟨(p - 1).toNat,by omega,by rw [w64_id (by omega) (by omega)]; omega⟩
theorem pt_cost {p:Pt} {n:Int} (hn:pIn n 1 1000 = true) (h:pPt p = true):pPt (p.1,n,p.2.2.1,p.2.2.2.1,p.2.2.2.2.1,p.2.2.2.2.2.1,p.2.2.2.2.2.2.1,p.2.2.2.2.2.2.2) = true:=by
 unfold pPt at h ⊢
 rw [aT] at h ⊢
 exact ⟨hn,h.2⟩
theorem setOne {b:Bridge} (h:SOk b) {x:Bind} (hx:x.1.length ≤ M):Sets b (cJ b x) (f0 b x):=by
 unfold cJ f0
 rw [canB h.le hx,obs,copyBridgeS h.le,obs,mayB h.le hx,obs,can_may h]
 cases hm:mayP b x.1 with
 | false =>
  rw [cF,Bool.not_false,cT,readB h.le hx,seenB h.le hx,obs,obs,read_seen h]
  cases seenP b x.1 with
  | true=>exact ⟨_,rfl,rfl,h,fun _=>rfl⟩
  | false=>exact ⟨_,rfl,rfl,h,fun _=>rfl⟩
 | true =>
  obtain ⟨o,kd,n,w,vo⟩:=x
  rw [cT,Bool.not_true,cF]
  simp only
  unfold gQ
  rcases may_shape hm with ho | ⟨c,p,ho,hc,hp⟩ | ⟨c,p,ho,hc⟩
  · simp only at ho
    subst ho
    rw [show at? [1,3,1,1,1] 3 = some (1:Int) from rfl,show cut [1,3,1,1,1] 3 (([1,3,1,1,1]:List Int).length:Int) = some ([1,1]:List Int) from rfl]
    simp only [obs,show at? [1,1] 0 = some (1:Int) from rfl,show ((1:Int) == 1) = true from rfl,cT,Bool.not_true,cF]
    cases (kd != 4) with
    | true=>exact ⟨_,rfl,rfl,h,fun _=>rfl⟩
    | false =>
     simp only [cF,obs]
     by_cases hw:(w.length:Int) > 10
     · simp only [dT hw,cT]
       exact ⟨_,rfl,rfl,h,fun _=>rfl⟩
     · simp only [dF hw,cF]
       exact ⟨_,rfl,rfl,⟨h.id,by show w.length ≤ 10; omega,h.n1,h.n6,h.p,h.f,h.c,h.q,h.v,h.s,h.i,h.h⟩,fun e=>absurd rfl e⟩
  · simp only at ho
    subst ho
    rw [show at? [1,3,1,2,c,p] 3 = some (2:Int) from rfl,show at? [1,3,1,2,c,p] 4 = some c from rfl,show at? [1,3,1,2,c,p] 5 = some p from rfl,show cut [1,3,1,2,c,p] 3 (([1,3,1,2,c,p]:List Int).length:Int) = some ([2,c,p]:List Int) from rfl]
    simp only [obs,show at? [2,c,p] 0 = some (2:Int) from rfl,show at? [2,c,p] 1 = some c from rfl,show at? [2,c,p] 2 = some p from rfl,show ((2:Int) == 1) = false from rfl,show ((2:Int) == 2) = true from rfl,show ((2:Int) == 3) = false from rfl,cT,Bool.not_false,cF]
    cases (kd != 2) with
    | true=>exact ⟨_,rfl,rfl,h,fun _=>rfl⟩
    | false =>
     obtain ⟨k,hk,ek⟩:=portIx hp h.n6
     simp only [cF,obs,ek]
     unfold hP
     have hx1:ix b.2.2.1.length (k:Int) = some k:=ix_nat hk
     have hx2:ix b.2.2.2.2.2.1.length (k:Int) = some k:=ix_nat (by rw [h.q]; exact hk)
     have hk2:k < b.2.2.2.2.2.1.length:=by rw [h.q]; exact hk
     simp only [inT,inS,obs,hx1,hx2,List.getElem?_eq_getElem hk,List.getElem?_eq_getElem hk2]
     rcases hc with rfl | rfl
     · simp only [show ((2:Int) == 2) = true from rfl,cT]
       cases hn:pIn n 1 1000 with
       | false=>exact ⟨_,rfl,rfl,h,fun _=>rfl⟩
       | true =>
        exact ⟨_,rfl,rfl,⟨h.id,h.name,by simp only [length_set]; exact h.n1,by simp only [length_set]; exact h.n6,fun y hy=>by
         rcases List.mem_or_eq_of_mem_set hy with e | rfl
         · exact h.p y e
         · exact pt_cost hn (h.p _ (getElem_mem hk)),h.f,h.c,by simp only [length_set]; exact h.q,h.v,h.s,h.i,h.h⟩,fun e=>absurd rfl e⟩
     · simp only [show ((4:Int) == 2) = false from rfl,cF]
       exact ⟨_,rfl,rfl,⟨h.id,h.name,h.n1,h.n6,h.p,h.f,h.c,by simp only [length_set]; exact h.q,h.v,h.s,h.i,h.h⟩,fun e=>absurd rfl e⟩
  · simp only at ho
    subst ho
    rw [show at? [1,3,1,3,c,p] 3 = some (3:Int) from rfl,show at? [1,3,1,3,c,p] 4 = some c from rfl,show at? [1,3,1,3,c,p] 5 = some p from rfl,show cut [1,3,1,3,c,p] 3 (([1,3,1,3,c,p]:List Int).length:Int) = some ([3,c,p]:List Int) from rfl]
    simp only [obs,show at? [3,c,p] 0 = some (3:Int) from rfl,show at? [3,c,p] 1 = some c from rfl,show at? [3,c,p] 2 = some p from rfl,show ((3:Int) == 1) = false from rfl,show ((3:Int) == 2) = false from rfl,show ((3:Int) == 3) = true from rfl,cT,Bool.not_false,cF]
    cases (kd != 2) with
    | true=>exact ⟨_,rfl,rfl,h,fun _=>rfl⟩
    | false =>
     simp only [cF,obs]
     obtain ⟨r,r1,r2,r3,r4⟩:=setRowX h c p n hc
     exact ⟨r,by rw [r1]; rfl,by rw [r2]; rfl,r3,r4⟩

theorem loop_two {α β:Type} {step t:α → Option (α ⊕ β)} (Inv:Nat → α → Prop) (m:Nat) (R:β → Prop)
 (h:∀ k x,k < m → Inv k x → (∃ y,step x = some (.inl y) ∧ t x = some (.inl y) ∧ Inv (k + 1) y) ∨ ∃ b,step x = some (.inr b) ∧ t x = some (.inr b) ∧ R b)
 (he:∀ x,Inv m x → ∃ b,step x = some (.inr b) ∧ t x = some (.inr b) ∧ R b) {x:α} (h0:Inv 0 x):∃ b,loop step x = some b ∧ loop t x = some b ∧ R b:=by
 have key:∀ n k x,k + n = m → Inv k x → ∃ b,iter step (n + 1) x = some b ∧ iter t (n + 1) x = some b ∧ R b:=by
  intro n
  induction n with
  | zero =>
   intro k x hk hx
   obtain rfl:k = m:=by omega
   obtain ⟨b,h1,h3,h2⟩:=he x hx
   exact ⟨b,by rw [iter_succ,h1]; rfl,by rw [iter_succ,h3]; rfl,h2⟩
  | succ n ih =>
   intro k x hk hx
   rcases h k x (by omega) hx with ⟨y,h1,h5,h2⟩ | ⟨b,h1,h5,h2⟩
   · obtain ⟨b,h3,h6,h4⟩:=ih (k + 1) y (by omega) h2
     exact ⟨b,by rw [iter_succ,h1]; exact h3,by rw [iter_succ,h5]; exact h6,h4⟩
   · exact ⟨b,by rw [iter_succ,h1]; rfl,by rw [iter_succ,h5]; rfl,h2⟩
 obtain ⟨b,h1,h3,h2⟩:=key m 0 x (by omega) h0
 exact ⟨b,loop_of h1,loop_of h3,h2⟩
theorem fb_of {l:List Fent} (h:pFdb l = true):FB l:=by
 unfold pFdb at h
 simp only [aT,Bool.not_eq_true',decide_eq_true_eq] at h
 refine ⟨fun x hx=>?_,adj_pair (R:=lt) (fun _ _ _=>lt_trans) fun k hk=>?_,by omega⟩
 · obtain ⟨k,hk,rfl⟩:=getElem_of_mem hx
   have hx:=any_eq_false.1 h.1 k (mem_range.2 hk)
   unfold bFent at hx
   simp only [List.getElem?_eq_getElem hk,Bool.or_eq_true,not_or,Bool.not_eq_true',Bool.not_eq_false] at hx
   exact hx.1
 · have hx:=any_eq_false.1 h.1 (k + 1) (mem_range.2 hk)
   unfold bFent at hx
   simp only [List.getElem?_eq_getElem hk,Nat.add_sub_cancel,List.getElem?_eq_getElem (show k < l.length by omega),Bool.or_eq_true,aT,decide_eq_true_eq,not_or,not_and,Bool.not_eq_true',Bool.not_eq_false] at hx
   have hp:=hx.2 (by omega)
   unfold pBehind at hp
   simp only [Bool.or_eq_true,aT,decide_eq_true_eq,beq_iff_eq] at hp
   unfold lt
   omega
theorem FB.sub {l m:List Fent} (h:FB l) (hs:m.Sublist l):FB m :=
 ⟨fun x hx=>h.e x (hs.subset hx),h.o.sublist hs,Nat.le_trans hs.length_le h.n⟩
def flushF (l:List Fent) (p:Int):List Fent:=l.filter fun e=>e.2.2.2.2 || e.2.2.1 != p
theorem flush_loop {l:List Fent} (p:Int) (hn:l.length ≤ 1000) (step:Int × List Fent → Option ((Int × List Fent) ⊕ List Fent))
 (hs:∀ k (hk:k < l.length) out,step ((k:Int),out) = cond (l[k].2.2.2.2 || l[k].2.2.1 != p) ((app out [l[k]]).bind fun zs=>some (.inl (((k + 1:Nat):Int),zs))) (some (.inl (((k + 1:Nat):Int),out))))
 (he:∀ out,step ((l.length:Int),out) = some (.inr out)):loop step (0,[]) = some (flushF l p):=by
 obtain ⟨b,h1,rfl⟩:=loop_inv (step:=step) (fun k z=>z.1 = (k:Int) ∧ z.2 = flushF (l.take k) p) l.length (fun b=>b = flushF l p)
  (fun k z hk ⟨z1,z2⟩=>by
   obtain ⟨i,out⟩:=z
   simp only at z1 z2
   subst z1 z2
   left
   have hl:(flushF (l.take k) p).length ≤ k:=by
    have:=(List.filter_sublist (p:=fun e:Fent=>e.2.2.2.2 || e.2.2.1 != p) (l:=l.take k)).length_le
    rw [length_take] at this
    show (List.filter _ _).length ≤ k
    omega
   have ht:flushF (l.take (k + 1)) p = flushF (l.take k) p ++ cond (l[k].2.2.2.2 || l[k].2.2.1 != p) [l[k]] []:=by
    unfold flushF
    rw [take_add_one,List.getElem?_eq_getElem hk,List.filter_append]
    rw [Option.toList_some,List.filter_cons,List.filter_nil]
    cases (l[k].2.2.2.2 || l[k].2.2.1 != p) <;> rfl
   rw [hs k hk]
   cases hc:(l[k].2.2.2.2 || l[k].2.2.1 != p) with
   | true =>
    rw [hc] at ht
    exact ⟨_,by rw [cT,app_small (by show _ + 1 ≤ _; omega)]; rfl,rfl,by rw [ht]; rfl⟩
   | false =>
    rw [hc] at ht
    exact ⟨_,rfl,rfl,by rw [ht]; simp⟩)
  (fun z ⟨z1,z2⟩=>by
   obtain ⟨i,out⟩:=z
   simp only at z1 z2
   subst z1 z2
   exact ⟨_,he _,by rw [take_length]⟩) (x:=(0,[])) ⟨rfl,rfl⟩
 exact h1
theorem flushX {l:List Fent} (p:Int) (hn:l.length ≤ 1000):fZ l p = some (flushF l p):=by
 unfold fZ
 rw [flush_loop p hn (fun z=>dJ l p z.1 z.2) (fun k hk out=>by
  show dJ l p (k:Int) out = _
  unfold dJ
  rw [dlt (by omega),cT,at_nat hk,obs,w64_nat (by omega)]
  cases l[k].2.2.2.2 <;> rfl) (fun out=>by
  show dJ l p (l.length:Int) out = _
  unfold dJ
  rw [dnlt (by omega),cF])]; rfl
theorem flushXS {l:List Fent} (p:Int) (hn:l.length ≤ 1000):gt l p = some (flushF l p):=by
 unfold gt
 rw [flush_loop p hn (fun z=>dO l p z.1 z.2) (fun k hk out=>by
  show dO l p (k:Int) out = _
  unfold dO
  rw [dlt (by omega),cT,at_nat hk,obs,obs,obs,w64_nat (by omega)]
  cases l[k].2.2.2.2 <;> rfl) (fun out=>by
  show dO l p (l.length:Int) out = _
  unfold dO
  rw [dnlt (by omega),cF])]; rfl
theorem bit_in:∀ k:Nat,k < 6 → pIn (k:Int) 0 62 = true ∧ pIn (k:Int) 0 7 = true:=by
 intro k hk
 unfold pIn
 constructor <;> (rw [dT (by omega),dT (by omega)]; rfl)
theorem shrK (c:Int) {k:Nat} (hk:k < 6):∃ t,shr .i64 c (k:Int) = some t:=by
 unfold shr
 rw [if_neg (by omega)]
 exact ⟨_,rfl⟩
theorem bitX (c:Int) {k:Nat} (hk:k < 6):∃ t,fX c (k:Int) = some t ∧ gq c (k:Int) = some t:=by
 obtain ⟨t,h⟩:=shrK c hk
 unfold fX gq
 rw [inT,inS,obs,obs,(bit_in k hk).1,(bit_in k hk).2,cT,cT,wrap_small (by omega),h]
 exact ⟨_,rfl,rfl⟩
theorem moreX {n:Int} (h:pIn n 0 1000000 = true):∃ r,aU n = some r ∧ aZ n = some r ∧ pIn r 0 1000000 = true:=by
 unfold pIn at h
 simp only [aT,decide_eq_true_eq] at h
 unfold aU aZ pIn min2
 rw [w64_id (by omega) (by omega)]
 by_cases hn:n ≥ 1000000
 · rw [dT hn,cT]
   refine ⟨n,?_,rfl,?_⟩
   · simp only; split <;> first | rfl | (congr 1; omega)
   · simp only [aT,decide_eq_true_eq]; omega
 · rw [dF hn,cF]
   refine ⟨n + 1,?_,rfl,?_⟩
   · simp only; split <;> first | rfl | (congr 1; omega)
   · simp only [aT,decide_eq_true_eq]; omega
theorem SOk.ok {b:Bridge} (h:SOk b) (hv:pVtab (b.2.2.2.2.1,b.2.2.2.2.2.1) (b.2.2.1.length:Int) = true):pBridge b = true:=by
 unfold pBridge
 have h1:(List.range b.2.2.1.length).any (bPt b.2.2.1) = false:=by
  rw [any_eq_false]
  intro k hk
  have hk:=mem_range.1 hk
  unfold bPt
  simp [List.getElem?_eq_getElem hk,h.p _ (getElem_mem hk)]
 have h2:=h.name
 rw [h1,h.id,h.f,hv,h.c,ports6 h,dF (show ¬ (b.2.1.length:Int) > 10 by omega)]; rfl
theorem turnZ {b:Bridge} (h:SOk b):∃ r,aY b = some r ∧ bL b = some r ∧ SOk r ∧ r.2.2.1 = b.2.2.1 ∧ r.2.2.2.2.1 = b.2.2.2.2.1 ∧ r.2.2.2.2.2.1 = b.2.2.2.2.2.1 ∧ r.1 = b.1 ∧ r.2.1 = b.2.1 ∧ r.2.2.2.2.2.2.1 = b.2.2.2.2.2.2.1 ∧ r.2.2.2.2.2.2.2.1 = b.2.2.2.2.2.2.2.1 ∧ r.2.2.2.2.2.2.2.2.1 = b.2.2.2.2.2.2.2.2.1 ∧ r.2.2.2.2.2.2.2.2.2.1 = b.2.2.2.2.2.2.2.2.2.1 ∧ aU b.2.2.2.2.2.2.2.2.2.2 = some r.2.2.2.2.2.2.2.2.2.2:=by
 have n6:=h.n6
 have hc:=h.c
 unfold pCounts at hc
 simp only [aT] at hc
 obtain ⟨v,v1,v2,v3⟩:=moreX hc.2.2.2.2
 obtain ⟨c,_,c1,c2⟩:=sendsT b.1 (l:=b.2.2.1) (by omega)
 unfold aY bL
 rw [v1,v2,c1,c2]
 simp only [obs]
 have hF:=fb_of h.f
 obtain ⟨d,d1,d2,F,hf,rfl⟩:=loop_two (step:=fun z:Int × Int × List UInt8 × Int × Int × Int × Int × Int × List Fent=>ga b (c:Int) z.1 z.2.1 z.2.2.1 z.2.2.2.1 z.2.2.2.2.1 z.2.2.2.2.2.1 z.2.2.2.2.2.2.1 z.2.2.2.2.2.2.2.1 z.2.2.2.2.2.2.2.2)
  (t:=fun z:Int × Int × List UInt8 × Int × Int × Int × Int × Int × List Fent=>gu b (c:Int) z.1 z.2.1 z.2.2.1 z.2.2.2.1 z.2.2.2.2.1 z.2.2.2.2.2.1 z.2.2.2.2.2.2.1 z.2.2.2.2.2.2.2.1 z.2.2.2.2.2.2.2.2)
  (fun k z=>∃ F:List Fent,F.Sublist b.2.2.2.1 ∧ z = ((k:Int),b.1,b.2.1,b.2.2.2.2.2.2.1,b.2.2.2.2.2.2.2.1,b.2.2.2.2.2.2.2.2.1,b.2.2.2.2.2.2.2.2.2.1,v,F)) b.2.2.1.length
  (fun d=>∃ F:List Fent,F.Sublist b.2.2.2.1 ∧ d = (b.1,b.2.1,b.2.2.2.2.2.2.1,b.2.2.2.2.2.2.2.1,b.2.2.2.2.2.2.2.2.1,b.2.2.2.2.2.2.2.2.2.1,v,F))
  (fun k z hk ⟨F,hf,e⟩=>by
   subst e
   left
   obtain ⟨t,t1,t2⟩:=bitX (c:Int) (show k < 6 by omega)
   have hl:F.length ≤ 1000:=by have:=hf.length_le; have:=hF.n; omega
   simp only
   unfold ga gu
   rw [dlt (show (k:Int) < (b.2.2.1.length:Int) by omega),cT,cT,t1,t2,obs,obs,flushX _ hl,flushXS _ hl,w64_nat (show k < 9223372036854775807 by omega)]
   cases t with
   | true=>exact ⟨_,rfl,rfl,F,hf,rfl⟩
   | false=>exact ⟨_,rfl,rfl,flushF F (k:Int),List.Sublist.trans List.filter_sublist hf,rfl⟩)
  (fun z ⟨F,hf,e⟩=>by
   subst e
   simp only
   unfold ga gu
   rw [dnlt (show ¬ (b.2.2.1.length:Int) < (b.2.2.1.length:Int) by omega),cF,cF]
   exact ⟨_,rfl,rfl,F,hf,rfl⟩) (x:=(0,b.1,b.2.1,b.2.2.2.2.2.2.1,b.2.2.2.2.2.2.2.1,b.2.2.2.2.2.2.2.2.1,b.2.2.2.2.2.2.2.2.2.1,v,b.2.2.2.1)) ⟨_,List.Sublist.refl _,rfl⟩
 rw [d1,d2]
 refine ⟨_,rfl,rfl,⟨h.id,h.name,h.n1,h.n6,h.p,(hF.sub hf).ok,?_,h.q,h.v,h.s,h.i,h.h⟩,rfl,rfl,rfl,rfl,rfl,rfl,rfl,rfl,rfl,rfl⟩
 unfold pCounts
 simp only [aT]
 exact ⟨hc.1,hc.2.1,hc.2.2.1,hc.2.2.2.1,v3⟩
theorem turnX {b:Bridge} (h:SOk b):∃ r,aY b = some r ∧ bL b = some r ∧ SOk r ∧ r.2.2.1 = b.2.2.1 ∧ r.2.2.2.2.1 = b.2.2.2.2.1 ∧ r.2.2.2.2.2.1 = b.2.2.2.2.2.1:=by
 obtain ⟨r,h1,h2,h3,h4,h5,h6,_⟩:=turnZ h
 exact ⟨r,h1,h2,h3,h4,h5,h6⟩
theorem beq_flip {α:Type} [BEq α] [LawfulBEq α] (a b:α):(a == b) = (b == a):=by
 by_cases h:a = b
 · subst h; rfl
 · rw [beq_eq_false_iff_ne.2 h,beq_eq_false_iff_ne.2 (Ne.symm h)]

abbrev SRet:=Int × Int × Int × List UInt8 × Int × Int × Int × Int × Int × List Pt × List Fent × List Vrow × List Int
abbrev SIn:=Int × List UInt8 × Int × Int × Int × Int × Int
def sRet (c k:Int) (b:Bridge):SRet:=(c,k,b.1,b.2.1,b.2.2.2.2.2.2.1,b.2.2.2.2.2.2.2.1,b.2.2.2.2.2.2.2.2.1,b.2.2.2.2.2.2.2.2.2.1,b.2.2.2.2.2.2.2.2.2.2,b.2.2.1,b.2.2.2.1,b.2.2.2.2.1,b.2.2.2.2.2.1)
theorem twiceX {b:Bridge} (hb:BLe M b) {l:List Bind} (hl:XsLe M l) {k:Nat} (hk:k < l.length) (s:SIn) :
 ∃ r:SIn ⊕ SRet,loop (fun z=>eL b (k:Int) l[k] (l.take k) z.1 z.2.1 z.2.2.1 z.2.2.2.1 z.2.2.2.2.1 z.2.2.2.2.2.1 z.2.2.2.2.2.2.1 z.2.2.2.2.2.2.2) (0,s) = some r
  ∧ loop (fun z=>fa b l (k:Int) z.1 z.2.1 z.2.2.1 z.2.2.2.1 z.2.2.2.2.1 z.2.2.2.2.2.1 z.2.2.2.2.2.2.1 z.2.2.2.2.2.2.2) (0,s) = some r ∧ ((r = .inl s ∧ ∀ j (hj:j < k),l[j].1 ≠ l[k].1) ∨ (r = .inr (sRet 5 ((k + 1:Nat):Int) b) ∧ ∃ j,∃ hj:j < k,l[j].1 = l[k].1)):=by
 obtain ⟨a0,a1,a6,a7,a8,a9,a10⟩:=s
 have hn:l.length ≤ 1048576:=hl.1
 refine loop_two (fun j z=>z = ((j:Int),a0,a1,a6,a7,a8,a9,a10) ∧ ∀ i (hi:i < k),i < j → l[i].1 ≠ l[k].1) k _ (fun j z hj ⟨e,hne⟩=>?_) (fun z ⟨e,hne⟩=>?_) ⟨rfl,fun i _ hi=>absurd hi (Nat.not_lt_zero _)⟩
 · subst e
   have ht:j < (l.take k).length:=by rw [length_take]; omega
   have hg:(l.take k)[j] = l[j]:=List.getElem_take
   have hw:∀ i,i < l.length → ∀ (hi:i < l.length),l[i].1.length < 9223372036854775807:=fun i h1 h2=>by have:l[i].1.length ≤ 1048576:=(hl.2 _ (getElem_mem h2)).1; omega
   have s1:aE l[k].1 l[j].1 = some (l[k].1 == l[j].1):=sameO (hw j (by omega) (by omega))
   have s2:cU l[j].1 l[k].1 = some (l[k].1 == l[j].1):=by rw [beq_flip]; exact sameO (hw k hk hk)
   simp only
   unfold eL fa
   rw [dlt (show (j:Int) < ((l.take k).length:Int) by omega),dlt (show (j:Int) < (k:Int) by omega),cT,cT,at_nat ht,hg,at_nat (show j < l.length by omega),at_nat hk]
   simp only [obs,s1,s2]
   cases hb2:(l[k].1 == l[j].1) with
   | true =>
    right
    rw [copyBridge hb,copyBridgeS hb]
    exact ⟨_,rfl,by rw [w64_nat (show k < 9223372036854775807 by omega)]; rfl,.inr ⟨by rw [w64_nat (show k < 9223372036854775807 by omega)]; rfl,j,hj,(beq_iff_eq.1 hb2).symm⟩⟩
   | false =>
    left
    refine ⟨_,rfl,rfl,by rw [w64_nat (show j < 9223372036854775807 by omega)],fun i hi hij=>?_⟩
    by_cases e:i = j
    · subst e
      exact fun e=>(beq_eq_false_iff_ne.1 hb2) e.symm
    · exact hne i hi (by omega)
 · subst e
   have ht:(l.take k).length = k:=by rw [length_take]; omega
   refine ⟨.inl (a0,a1,a6,a7,a8,a9,a10),?_,?_,.inl ⟨rfl,fun j hj=>hne j hj hj⟩⟩
   · show eL b _ _ _ _ _ _ _ _ _ _ _ = _
     unfold eL
     rw [ht,dnlt (by omega),cF]
   · show fa b _ _ _ _ _ _ _ _ _ _ = _
     unfold fa
     rw [dnlt (by omega),cF]
theorem loop_end {α β:Type} {step:α → Option (α ⊕ β)} {x:α} {b:β} (h:step x = some (.inr b)):loop step x = some b:=loop_of (k:=1) (by rw [iter_succ,h]; rfl)
inductive Steps (b:Bridge):List Bind → Bridge → Prop
 | nil:Steps b [] b
 | snoc {l:List Bind} {y y':Bridge} {x:Bind}:Steps b l y → SOk y → cJ y x = some (y',0) → Steps b (l ++ [x]) y'
def Fails (b:Bridge) (l:List Bind) (c:Int):Prop:=(pBridge b = false ∧ c = 3) ∨ (∃ k y,∃ hk:k < l.length,Steps b (l.take k) y ∧ SOk y ∧ (((∃ j,∃ hj:j < k,l[j].1 = l[k].1) ∧ c = 5) ∨ ∃ y',cJ y l[k] = some (y',c))) ∨ ∃ y,Steps b l y ∧ c = 5
theorem setAllX {b:Bridge} (h:BWf b) (hb:BLe M b) {l:List Bind} (hl:XsLe M l):∃ r,dK b l = some r ∧ gw b l = some r ∧ BLe M r.1 ∧ (pBridge b = true → SOk r.1 ∧ pBridge r.1 = true) ∧ ((r.2.1 = 0 ∧ r.2.2 = 0 ∧ ((l = [] ∧ r.1 = b) ∨ ∃ y,Steps b l y ∧ SOk y ∧ (∀ i (hi:i < l.length),∀ j (hj:j < i),l[j].1 ≠ l[i].1) ∧ aY y = some r.1)) ∨ (r.1 = b ∧ r.2.1 ≠ 0 ∧ 1 ≤ r.2.2 ∧ r.2.2 ≤ (l.length:Int) ∧ Fails b l r.2.1)):=by
 have hn:l.length ≤ 1048576:=hl.1
 unfold dK gw
 rw [copyBridge hb,copyBridgeS hb,bridgeT h,bridgeS h]
 simp only [obs]
 by_cases h0:l = []
 · subst h0
   have e1:decide ((([]:List Bind).length:Int) > 0) = false:=rfl
   have e2:((([]:List Bind).length:Int) == 0) = true:=rfl
   have e3:cond (!pBridge b) (some false) (some false) = some false:=by cases pBridge b <;> rfl
   rw [e1,e2,e3,cT]
   simp only [obs,cF]
   refine ⟨_,rfl,(congrArg (fun o=>Option.bind o _) (loop_end (b:=.inl (0,[],0,0,0,0,0,b.1,b.2.1,b.2.2.2.2.2.2.1,b.2.2.2.2.2.2.2.1,b.2.2.2.2.2.2.2.2.1,b.2.2.2.2.2.2.2.2.2.1,b.2.2.2.2.2.2.2.2.2.2,[],[],[],[],b.2.2.1,b.2.2.2.1,b.2.2.2.2.1,b.2.2.2.2.2.1)) rfl)).trans rfl,hb,fun hp=>⟨(bok h hp).sok,hp⟩,.inl ⟨rfl,rfl,.inl ⟨by first | trivial | rfl,rfl⟩⟩⟩
 · have hpos:0 < l.length:=List.length_pos_iff.2 h0
   rw [show ((l.length:Int) == 0) = false from beq_eq_false_iff_ne.2 (by omega),dT (show (l.length:Int) > 0 by omega)]
   cases hp:pBridge b with
   | false=>exact ⟨_,rfl,rfl,hb,fun hp=>(by cases hp),.inr ⟨rfl,(by show (3:Int) ≠ 0; decide),by show (1:Int) ≤ 1; decide,by show (1:Int) ≤ _; omega,.inl ⟨hp,rfl⟩⟩⟩
   | true =>
    have hs0:=(bok h hp).sok
    simp only [Bool.not_true,cF,obs]
    obtain ⟨d,d1,d2,d3⟩:=loop_two (step:=fun z:Int × Int × List UInt8 × Int × Int × Int × Int × Int × Int × List UInt8 × Int × Int × Int × Int × Int × List Pt × List Fent × List Vrow × List Int × List Pt × List Fent × List Vrow × List Int=>gb b l z.1 z.2.1 z.2.2.1 z.2.2.2.1 z.2.2.2.2.1 z.2.2.2.2.2.1 z.2.2.2.2.2.2.1 z.2.2.2.2.2.2.2.1 z.2.2.2.2.2.2.2.2.1 z.2.2.2.2.2.2.2.2.2.1 z.2.2.2.2.2.2.2.2.2.2.1 z.2.2.2.2.2.2.2.2.2.2.2.1 z.2.2.2.2.2.2.2.2.2.2.2.2.1 z.2.2.2.2.2.2.2.2.2.2.2.2.2.1 z.2.2.2.2.2.2.2.2.2.2.2.2.2.2.1 z.2.2.2.2.2.2.2.2.2.2.2.2.2.2.2.1 z.2.2.2.2.2.2.2.2.2.2.2.2.2.2.2.2.1 z.2.2.2.2.2.2.2.2.2.2.2.2.2.2.2.2.2.1 z.2.2.2.2.2.2.2.2.2.2.2.2.2.2.2.2.2.2.1 z.2.2.2.2.2.2.2.2.2.2.2.2.2.2.2.2.2.2.2.1 z.2.2.2.2.2.2.2.2.2.2.2.2.2.2.2.2.2.2.2.2.1 z.2.2.2.2.2.2.2.2.2.2.2.2.2.2.2.2.2.2.2.2.2.1 z.2.2.2.2.2.2.2.2.2.2.2.2.2.2.2.2.2.2.2.2.2.2)
     (t:=fun z=>gv b l z.1 z.2.1 z.2.2.1 z.2.2.2.1 z.2.2.2.2.1 z.2.2.2.2.2.1 z.2.2.2.2.2.2.1 z.2.2.2.2.2.2.2.1 z.2.2.2.2.2.2.2.2.1 z.2.2.2.2.2.2.2.2.2.1 z.2.2.2.2.2.2.2.2.2.2.1 z.2.2.2.2.2.2.2.2.2.2.2.1 z.2.2.2.2.2.2.2.2.2.2.2.2.1 z.2.2.2.2.2.2.2.2.2.2.2.2.2.1 z.2.2.2.2.2.2.2.2.2.2.2.2.2.2.1 z.2.2.2.2.2.2.2.2.2.2.2.2.2.2.2.1 z.2.2.2.2.2.2.2.2.2.2.2.2.2.2.2.2.1 z.2.2.2.2.2.2.2.2.2.2.2.2.2.2.2.2.2.1 z.2.2.2.2.2.2.2.2.2.2.2.2.2.2.2.2.2.2.1 z.2.2.2.2.2.2.2.2.2.2.2.2.2.2.2.2.2.2.2.1 z.2.2.2.2.2.2.2.2.2.2.2.2.2.2.2.2.2.2.2.2.1 z.2.2.2.2.2.2.2.2.2.2.2.2.2.2.2.2.2.2.2.2.2.1 z.2.2.2.2.2.2.2.2.2.2.2.2.2.2.2.2.2.2.2.2.2.2)
     (fun k z=>∃ y:Bridge,(SOk y ∧ Steps b (l.take k) y ∧ ∀ i (hi:i < l.length),i < k → ∀ j (hj:j < i),l[j].1 ≠ l[i].1) ∧ z = ((k:Int),0,[],0,0,0,0,0,y.1,y.2.1,y.2.2.2.2.2.2.1,y.2.2.2.2.2.2.2.1,y.2.2.2.2.2.2.2.2.1,y.2.2.2.2.2.2.2.2.2.1,y.2.2.2.2.2.2.2.2.2.2,[],[],[],[],y.2.2.1,y.2.2.2.1,y.2.2.2.2.1,y.2.2.2.2.2.1)) l.length
     (fun d=>(∃ y:Bridge,(SOk y ∧ Steps b l y ∧ ∀ i (hi:i < l.length),∀ j (hj:j < i),l[j].1 ≠ l[i].1) ∧ d = .inl (0,[],0,0,0,0,0,y.1,y.2.1,y.2.2.2.2.2.2.1,y.2.2.2.2.2.2.2.1,y.2.2.2.2.2.2.2.2.1,y.2.2.2.2.2.2.2.2.2.1,y.2.2.2.2.2.2.2.2.2.2,[],[],[],[],y.2.2.1,y.2.2.2.1,y.2.2.2.2.1,y.2.2.2.2.2.1)) ∨ ∃ c k:Int,c ≠ 0 ∧ 1 ≤ k ∧ k ≤ (l.length:Int) ∧ Fails b l c ∧ d = .inr (sRet c k b))
     (fun k z hk ⟨y,⟨hy,hst,hdi⟩,e⟩=>by
      subst e
      obtain ⟨r,r1,r2,r3⟩:=twiceX hb hl hk (0,[],0,0,0,0,0)
      have hc:cut l 0 (k:Int) = some (l.take k):=by rw [show (0:Int) = ((0:Nat):Int) from rfl,cut_ok (Nat.zero_le _) (by omega),drop_zero]
      simp only
      unfold gb gv
      rw [dlt (show (k:Int) < (l.length:Int) by omega),cT,cT,at_nat hk,obs,hc,obs,r1,r2,obs,obs]
      rcases r3 with ⟨rfl,hnd⟩ | ⟨rfl,hdup⟩
      · obtain ⟨q,q1,q2,q3,q4⟩:=setOne hy (hl.2 _ (getElem_mem hk)).1
        have q1':cJ (y.1,y.2.1,y.2.2.1,y.2.2.2.1,y.2.2.2.2.1,y.2.2.2.2.2.1,y.2.2.2.2.2.2.1,y.2.2.2.2.2.2.2.1,y.2.2.2.2.2.2.2.2.1,y.2.2.2.2.2.2.2.2.2.1,y.2.2.2.2.2.2.2.2.2.2) l[k] = some q:=q1
        have q2':f0 (y.1,y.2.1,y.2.2.1,y.2.2.2.1,y.2.2.2.2.1,y.2.2.2.2.2.1,y.2.2.2.2.2.2.1,y.2.2.2.2.2.2.2.1,y.2.2.2.2.2.2.2.2.1,y.2.2.2.2.2.2.2.2.2.1,y.2.2.2.2.2.2.2.2.2.2) l[k] = some q:=q2
        simp only [Sum.elim_inl,obs,q1',q2',copyBridge hb,copyBridgeS hb,w64_nat (show k < 9223372036854775807 by omega)]
        cases hq:(q.2 != 0) with
        | true =>
         right
         exact ⟨_,rfl,rfl,.inr ⟨q.2,((k + 1:Nat):Int),bne_iff_ne.1 hq,by omega,by omega,.inr (.inl ⟨k,y,hk,hst,hy,.inr ⟨q.1,q1⟩⟩),rfl⟩⟩
        | false =>
         left
         have hq0:q.2 = 0:=by simpa using hq
         refine ⟨_,rfl,rfl,q.1,⟨q3,?_,fun i hi hik j hj=>?_⟩,rfl⟩
         · rw [take_add_one,List.getElem?_eq_getElem hk]
           exact .snoc hst hy (by rw [q1,← hq0])
         · by_cases e:i = k
           · subst e; exact hnd j hj
           · exact hdi i hi (by omega) j hj
      · right
        exact ⟨_,rfl,rfl,.inr ⟨5,((k + 1:Nat):Int),by decide,by omega,by omega,.inr (.inl ⟨k,y,hk,hst,hy,.inl ⟨hdup,rfl⟩⟩),rfl⟩⟩)
     (fun z ⟨y,⟨hy,hst,hdi⟩,e⟩=>by
      subst e
      simp only
      unfold gb gv
      rw [dnlt (show ¬ (l.length:Int) < (l.length:Int) by omega),cF,cF]
      rw [take_length] at hst
      exact ⟨_,rfl,rfl,.inl ⟨y,⟨hy,hst,fun i hi=>hdi i hi hi⟩,rfl⟩⟩) (x:=(0,0,[],0,0,0,0,0,b.1,b.2.1,b.2.2.2.2.2.2.1,b.2.2.2.2.2.2.2.1,b.2.2.2.2.2.2.2.2.1,b.2.2.2.2.2.2.2.2.2.1,b.2.2.2.2.2.2.2.2.2.2,[],[],[],[],b.2.2.1,b.2.2.2.1,b.2.2.2.2.1,b.2.2.2.2.2.1)) ⟨b,⟨hs0,.nil,fun i _ hi=>absurd hi (Nat.not_lt_zero _)⟩,rfl⟩
    rw [d1,d2,obs,obs]
    rcases d3 with ⟨y,⟨hy,hst,hdi⟩,rfl⟩ | ⟨c,k,c0,k1,k2,hfl,rfl⟩
    · have n6:=hy.n6; have v6:=hy.v; have hq:=hy.q
      have t1:dh (y.2.2.2.2.1,y.2.2.2.2.2.1) (y.2.2.1.length:Int) = some (pVtab (y.2.2.2.2.1,y.2.2.2.2.2.1) (y.2.2.1.length:Int)):=vtabT (v:=(y.2.2.2.2.1,y.2.2.2.2.2.1)) _ (by show y.2.2.2.2.1.length < _; omega) (by show y.2.2.2.2.2.1.length < _; omega)
      have t2:aN (y.2.2.2.2.1,y.2.2.2.2.2.1) (y.2.2.1.length:Int) = some (pVtab (y.2.2.2.2.1,y.2.2.2.2.2.1) (y.2.2.1.length:Int)):=vtabS (v:=(y.2.2.2.2.1,y.2.2.2.2.2.1)) _ (by show y.2.2.2.2.1.length < _; omega) (by show y.2.2.2.2.2.1.length < _; omega) hy.h
      simp only [Sum.elim_inl,t1,t2,obs]
      cases hv:pVtab (y.2.2.2.2.1,y.2.2.2.2.2.1) (y.2.2.1.length:Int) with
      | false=>exact ⟨_,rfl,rfl,hb,fun _=>⟨hs0,hp⟩,.inr ⟨rfl,by show (5:Int) ≠ 0; decide,by show (1:Int) ≤ (l.length:Int); omega,Int.le_refl _,.inr (.inr ⟨y,hst,rfl⟩)⟩⟩
      | true =>
       obtain ⟨r,r1,r2,r3,r4,r5,r6⟩:=turnX hy
       have r1':aY (y.1,y.2.1,y.2.2.1,y.2.2.2.1,y.2.2.2.2.1,y.2.2.2.2.2.1,y.2.2.2.2.2.2.1,y.2.2.2.2.2.2.2.1,y.2.2.2.2.2.2.2.2.1,y.2.2.2.2.2.2.2.2.2.1,y.2.2.2.2.2.2.2.2.2.2) = some r:=r1
       have r2':bL (y.1,y.2.1,y.2.2.1,y.2.2.2.1,y.2.2.2.2.1,y.2.2.2.2.2.1,y.2.2.2.2.2.2.1,y.2.2.2.2.2.2.2.1,y.2.2.2.2.2.2.2.2.1,y.2.2.2.2.2.2.2.2.2.1,y.2.2.2.2.2.2.2.2.2.2) = some r:=r2
       simp only [Bool.not_true,cF,r1',r2',obs]
       exact ⟨_,rfl,rfl,r3.le,fun _=>⟨r3,r3.ok (by rw [r4,r5,r6]; exact hv)⟩,.inl ⟨rfl,rfl,.inr ⟨y,hst,hy,hdi,r1⟩⟩⟩
    · simp only [Sum.elim_inr]
      exact ⟨_,rfl,rfl,hb,fun _=>⟨hs0,hp⟩,.inr ⟨rfl,c0,k1,k2,hfl⟩⟩

theorem BOk.le {b:Bridge} (h:BOk b):BLe M b:=by
 obtain ⟨v1,v2,v3,v4⟩:=h.vt.len
 have h1:=h.name; have h2:=h.n6; have h3:=h.f12
 have v3':b.2.2.2.2.2.1.length = b.2.2.1.length:=v3
 have v4':b.2.2.2.2.1.length ≤ 6:=v4
 have hM:M = 1048576:=rfl
 exact ⟨by omega,by omega,by omega,by omega,by omega⟩
def Dr {α:Type} (P:α → Prop) (o:Option (L1Cur × α)):Prop:=∃ c x,o = some (c,x) ∧ CW c ∧ P x
theorem Dr.cond {α:Type} {P:α → Prop} {a b:Option (L1Cur × α)} {t:Bool} (ha:Dr P a) (hb:Dr P b):Dr P (cond t a b):=by cases t <;> assumption
theorem Dr.bind {α β:Type} {Q:α → Prop} {P:β → Prop} {o:Option (L1Cur × α)} {f:L1Cur × α → Option (L1Cur × β)} (h:Dr Q o) (k:∀ c x,CW c → Q x → Dr P (f (c,x))):Dr P (o.bind f):=by
 obtain ⟨c,x,rfl,hc,hx⟩:=h
 exact k c x hc hx
theorem Dr.some {α:Type} {P:α → Prop} {c:L1Cur} {x:α} (hc:CW c) (hx:P x):Dr P (some (c,x)):=⟨c,x,rfl,hc,hx⟩
theorem drBelow {c:L1Cur} (h:CW c) (n:Int):Dr (fun r:Int=>0 ≤ r ∧ (1 ≤ n → r < n)) (aa c n):=by
 obtain ⟨c',r,e,w,h1,h2⟩:=belowD h n; exact ⟨c',r,e,w,h1,h2⟩
theorem drInt {c:L1Cur} (h:CW c) {l:List Int} (hl:1 ≤ l.length):Dr (fun r:Int=>r ∈ l) (ai c l):=by
 obtain ⟨c',r,e,w,h1⟩:=intD h hl; exact ⟨c',r,e,w,h1⟩
theorem drStr {c:L1Cur} (h:CW c) {l:List (List UInt8)} (hl:1 ≤ l.length):Dr (fun r:List UInt8=>r ∈ l) (bt c l):=by
 obtain ⟨c',r,e,w,h1⟩:=strD h hl; exact ⟨c',r,e,w,h1⟩
theorem drOid {c:L1Cur} (h:CW c):Dr (fun o:List Int=>Nm o) (aH c):=by
 obtain ⟨c',r,e,w,h1⟩:=oidD h; exact ⟨c',r,e,w,h1⟩
theorem drNum {c:L1Cur} (h:CW c):Dr (fun _:Int=>True) (cn c):=by
 unfold cn
 refine Dr.bind (drBelow h 1000) fun c x hc _=>?_
 obtain ⟨c',r,e,w,_⟩:=intD hc (l:=[0,1,(-1),127,128,(-128),(-129),255,256,32767,32768,(-32769),8388608,2147483647,(-2147483648),2147483648,(-2147483649),9223372036854775807,(-9223372036854775808),x]) (by simp)
 simp only [e]
 exact ⟨c',r,rfl,w,trivial⟩
def VCl (v:Val):Prop:=(v.1 = 2 → v.2.2.1 = [] ∧ v.2.2.2 = []) ∧ (v.1 = 4 → v.2.1 = 0 ∧ v.2.2.2 = [])
theorem vcl2 (n:Int):VCl (2,n,[],[]):=⟨fun _=>⟨rfl,rfl⟩,fun h=>absurd (show (2:Int) = 4 from h) (by decide)⟩
theorem vcl4 (s:List UInt8):VCl (4,0,s,[]):=⟨fun h=>absurd (show (4:Int) = 2 from h) (by decide),fun _=>⟨rfl,rfl⟩⟩
theorem vcl6 (o:List Int):VCl (6,0,[],o):=⟨fun h=>absurd (show (6:Int) = 2 from h) (by decide),fun h=>absurd (show (6:Int) = 4 from h) (by decide)⟩
theorem vclK (k:Int):VCl (k,0,[],[]):=⟨fun _=>⟨rfl,rfl⟩,fun _=>⟨rfl,rfl⟩⟩
def VSm (v:Val):Prop:=v.2.2.1.length ≤ 100 ∧ v.2.2.2.length ≤ 1000 ∧ VCl v
theorem clipX (n:Int):∃ r,aw n = some r:=by
 unfold aw
 cases decide (n > 2147483647) <;> cases decide (n < (-2147483648)) <;> exact ⟨_,rfl⟩
theorem memLen {x:List UInt8} {l:List (List UInt8)} {n:Nat} (h:x ∈ l) (hl:∀ y ∈ l,y.length ≤ n):x.length ≤ n:=hl x h
theorem drVal {c:L1Cur} (h:CW c):Dr VSm (ay c):=by
 unfold ay
 refine Dr.bind (drBelow h 6) fun c x hc _=>?_
 have hn:∀ c,CW c → Dr VSm ((cn c).bind fun t12=>(aw t12.2).bind fun t13=>(ah t13).bind fun t14=>some (t12.1,t14)):=fun c hc=>by
  refine Dr.bind (drNum hc) fun c x hc _=>?_
  obtain ⟨r,hr⟩:=clipX x
  simp only [hr,obs,ah]
  exact Dr.some hc ⟨by simp,by simp,vcl2 _⟩
 have hs:∀ c,CW c → Dr VSm ((bt c ([[],[97],[121,97,114,100],[0]]:List (List UInt8))).bind fun t19=>some (t19.1,(4,0,t19.2,[]))):=fun c hc=>by
  refine Dr.bind (drStr hc (by decide)) fun c x hc hx=>?_
  exact Dr.some hc ⟨Nat.le_trans (memLen (n:=4) hx (by decide)) (by decide),by simp,vcl4 _⟩
 have ho:∀ c,CW c → Dr VSm ((aH c).bind fun t24=>some (t24.1,(6,0,[],t24.2))):=fun c hc=>by
  refine Dr.bind (drOid hc) fun c x hc hx=>?_
  exact Dr.some hc ⟨by simp,by have:=hx.n10; show x.length ≤ 1000; omega,vcl6 _⟩
 have hi:∀ c,CW c → Dr VSm ((ai c ([128,130]:List Int)).bind fun t28=>some (t28.1,(t28.2,0,[],[]))):=fun c hc=>by
  refine Dr.bind (drInt hc (by decide)) fun c x hc hx=>?_
  exact Dr.some hc ⟨by simp,by simp,vclK _⟩
 repeat' (first | apply Dr.cond | exact Dr.some hc ⟨by simp,by simp,vclK _⟩ | exact hn c hc | exact hs c hc | exact ho c hc | exact hi c hc)
def XSm (x:Bind):Prop:=x.1.length ≤ 1000 ∧ VSm x.2
theorem XSm.le {x:Bind} (h:XSm x):XLe M x:=by
 have hM:M = 1048576:=rfl
 obtain ⟨h1,h2,h3,_⟩:=h
 exact ⟨by omega,by omega,by omega⟩
theorem drBind {c:L1Cur} (h:CW c) {b:Bridge} (hb:BWf b) (hn:∀ c,CW c → Dr Nm (av c b)):Dr XSm (fu c b):=by
 obtain ⟨t18,hsh⟩:∃ t,shl .i64 1 (IntKind.u64.wrap (b.2.2.1.length:Int)) = some t:=by
  unfold shl
  rw [if_neg (show ¬ IntKind.u64.wrap (b.2.2.1.length:Int) < 0 by show ¬ ((b.2.2.1.length:Int) % 18446744073709551616) < 0; omega)]
  exact ⟨_,rfl⟩
 have hnm:∀ (l:List Int),l.length ≤ 100 → af l = some ([1,3,1] ++ l):=fun l hl=>nameX l hl
 have h22:∀ c p,CW c → Dr XSm ((af [2,2,w64 (1 + p)]).bind fun t36=>(ai c ([1,5,1000,0,1001]:List Int)).bind fun t39=>(ah t39.2).bind fun t40=>some (t39.1,(t36,t40.1,t40.2.1,t40.2.2.1,t40.2.2.2))):=fun c p hc=>by
  rw [hnm _ (by simp),obs]
  exact Dr.bind (drInt hc (by decide)) fun c x hc _=>Dr.some hc ⟨by simp,by simp,by simp,vcl2 _⟩
 have h24:∀ c p,CW c → Dr XSm ((af [2,4,w64 (1 + p)]).bind fun t46=>(aa c 4).bind fun t48=>(ah (w64 (1 + t48.2))).bind fun t50=>some (t48.1,(t46,t50.1,t50.2.1,t50.2.2.1,t50.2.2.2))):=fun c p hc=>by
  rw [hnm _ (by simp),obs]
  exact Dr.bind (drBelow hc 4) fun c x hc _=>Dr.some hc ⟨by simp,by simp,by simp,vcl2 _⟩
 have h31:∀ c,CW c → Dr XSm ((aa c 4).bind fun t56=>(af [3,1,w64 (1 + t56.2)]).bind fun t59=>(ai t56.1 ([4,4,6,1]:List Int)).bind fun t62=>(ah t62.2).bind fun t63=>some (t62.1,(t59,t63.1,t63.2.1,t63.2.2.1,t63.2.2.2))):=fun c hc=>by
  refine Dr.bind (drBelow hc 4) fun c x hc _=>?_
  rw [hnm _ (by simp),obs]
  exact Dr.bind (drInt hc (by decide)) fun c x hc _=>Dr.some hc ⟨by simp,by simp,by simp,vcl2 _⟩
 have h3x:∀ c k m,CW c → Dr XSm ((aa c 4).bind fun t69=>(af [3,k,w64 (1 + t69.2)]).bind fun t72=>(aa t69.1 m).bind fun t76=>(ah t76.2).bind fun t77=>some (t76.1,(t72,t77.1,t77.2.1,t77.2.2.1,t77.2.2.2))):=fun c k m hc=>by
  refine Dr.bind (drBelow hc 4) fun c x hc _=>?_
  rw [hnm _ (by simp),obs]
  exact Dr.bind (drBelow hc m) fun c x hc _=>Dr.some hc ⟨by simp,by simp,by simp,vcl2 _⟩
 have hoth:∀ c,CW c → Dr XSm ((av c b).bind fun t94=>(ay t94.1).bind fun t96=>some (t96.1,(t94.2,t96.2.1,t96.2.2.1,t96.2.2.2.1,t96.2.2.2.2))):=fun c hc=>by
  refine Dr.bind (hn c hc) fun c o hc ho=>?_
  refine Dr.bind (drVal hc) fun c v hc hv=>?_
  exact Dr.some hc ⟨by have:=ho.n10; show o.length ≤ 1000; omega,hv⟩
 have h11:∀ c,CW c → Dr XSm ((af ([1,1]:List Int)).bind fun t25=>(bt c ([[110,101,119],[],[101,108,101,118,101,110,45,98,121,116,101]]:List (List UInt8))).bind fun t28=>some (t28.1,(t25,4,0,t28.2,[]))):=fun c hc=>by
  rw [hnm _ (by simp),obs]
  exact Dr.bind (drStr hc (by decide)) fun c x hc hx=>Dr.some hc ⟨by simp,Nat.le_trans (memLen (n:=11) hx (by decide)) (by decide),by simp,vcl4 _⟩
 unfold fu
 refine Dr.bind (drBelow h _) fun c p hc _=>?_
 rw [hsh,obs]
 refine Dr.bind (drBelow hc 10) fun c r hc _=>?_
 repeat' (first | apply Dr.cond | exact h22 c p hc | exact h24 c p hc | exact h31 c hc | exact h3x c _ _ hc | exact hoth c hc | exact h11 c hc)
theorem drBinds {c:L1Cur} (h:CW c) {b:Bridge} (hb:BWf b) (hn:∀ c,CW c → Dr Nm (av c b)):Dr (fun l:List Bind=>l.length ≤ 3 ∧ ∀ x ∈ l,XSm x) (ej c b):=by
 unfold ej
 obtain ⟨c1,k,e1,w1,hk⟩:=belowN h (n:=4) (by decide)
 have e1':aa c 4 = some (c1,(k:Int)):=e1
 rw [e1',obs]
 obtain ⟨d,d1,d2,d3,d4⟩:=loop_inv (step:=fun z:Int × List Int × Int × Int × List Bind=>ci b z.1 z.2.1 z.2.2.1 z.2.2.2.1 z.2.2.2.2)
  (fun i z=>z.1 = ((k - i:Nat):Int) ∧ CW (z.2.1,z.2.2.1,z.2.2.2.1) ∧ z.2.2.2.2.length = i ∧ ∀ x ∈ z.2.2.2.2,XSm x) k
  (fun d=>CW (d.1,d.2.1,d.2.2.1) ∧ d.2.2.2.length = k ∧ ∀ x ∈ d.2.2.2,XSm x)
  (fun i z hi ⟨z1,z2,z3,z4⟩=>by
   obtain ⟨j,c0,c1,c2,out⟩:=z
   simp only at z1 z2 z3 z4
   subst z1 z3
   left
   obtain ⟨c',x,x1,x2,x3⟩:=drBind z2 hb hn
   refine ⟨_,by
    show ci b _ _ _ _ _ = _
    unfold ci
    rw [dT (show ((k - out.length:Nat):Int) > 0 by omega),cT,x1,obs,app_small (by show _ + 1 ≤ _; omega),obs],?_,x2,by simp,?_⟩
   · show w64 (((k - out.length:Nat):Int) - 1) = _
     rw [w64_id (by omega) (by omega)]; omega
   · intro y hy
     rcases mem_append.1 hy with hy | hy
     · exact z4 y hy
     · simp at hy; subst hy; exact x3)
  (fun z ⟨z1,z2,z3,z4⟩=>by
   obtain ⟨j,c0,c1,c2,out⟩:=z
   simp only at z1 z2 z3 z4
   rw [Nat.sub_self] at z1
   subst z1
   refine ⟨(c0,c1,c2,out),?_,z2,z3,z4⟩
   show ci b _ _ _ _ _ = _
   unfold ci
   rw [dF (show ¬ ((0:Nat):Int) > 0 by decide),cF]) (x:=((k:Int),c1.1,c1.2.1,c1.2.2,[])) ⟨rfl,w1,rfl,by simp⟩
 show Dr _ ((loop (fun z:Int × List Int × Int × Int × List Bind=>ci b z.1 z.2.1 z.2.2.1 z.2.2.2.1 z.2.2.2.2) ((k:Int),c1.1,c1.2.1,c1.2.2,[])).bind _)
 rw [d1,obs]
 exact Dr.some d2 ⟨by omega,d4⟩

def clip (n:Int):Int:=if n > 2147483647 then 2147483647 else if n < -2147483648 then -2147483648 else n
theorem clip_in (n:Int):-2147483648 ≤ clip n ∧ clip n ≤ 2147483647:=by unfold clip; split <;> (try split) <;> omega
def intB (m:Int):List Int:=if pIn m (-128) 127 then [m % 256] else if pIn m (-32768) 32767 then [m / 256 % 256,m % 256] else if pIn m (-8388608) 8388607 then [m / 65536 % 256,m / 256 % 256,m % 256] else [m / 16777216 % 256,m / 65536 % 256,m / 256 % 256,m % 256]
theorem w8 (x:Int):IntKind.u8.wrap x = x % 256:=rfl
theorem fd (m:Int) {k:Int} (hk:0 ≤ k):m.fdiv k = m / k:=Int.fdiv_eq_ediv_of_nonneg m hk
theorem loop_in {α β:Type} {step:α → Option (α ⊕ β)} {x y:α} {b:β} (h:step x = some (.inl y)) (k:loop step y = some b):loop step x = some b:=by
 obtain ⟨n,hn⟩:=loop_some k
 exact loop_of (k:=n + 1) (by rw [iter_succ,h]; exact hn)
theorem putInt {n:Int} (hn:-9223372036854775808 ≤ n ∧ n ≤ 9223372036854775807):dl n = some (intB (clip n)):=by
 unfold dl
 have hc:max2 (-2147483648) (min2 n 2147483647) = clip n:=by
  unfold max2 min2 clip
  split <;> split <;> (try split) <;> (try split) <;> omega
 rw [hc]
 obtain ⟨h1,h2⟩:=clip_in n
 generalize clip n = m at h1 h2
 simp only
 have a1:aJ m 1 = cond (!(pIn m (-128) 127)) (some (.inl 2)) (some (.inr 1)):=by
  unfold aJ
  rw [show shl .i64 (-1) (w64 ((w64 (8 * 1)) - 1)) = some (-128) from rfl,show shl .i64 1 (w64 ((w64 (8 * 1)) - 1)) = some 128 from rfl]
  simp only [obs,inT]
  rw [show w64 (128 - 1) = 127 from rfl]; cases pIn m (-128) 127 <;> rfl
 have a2:aJ m 2 = cond (!(pIn m (-32768) 32767)) (some (.inl 3)) (some (.inr 2)):=by
  unfold aJ
  rw [show shl .i64 (-1) (w64 ((w64 (8 * 2)) - 1)) = some (-32768) from rfl,show shl .i64 1 (w64 ((w64 (8 * 2)) - 1)) = some 32768 from rfl]
  simp only [obs,inT]
  rw [show w64 (32768 - 1) = 32767 from rfl]; cases pIn m (-32768) 32767 <;> rfl
 have a3:aJ m 3 = cond (!(pIn m (-8388608) 8388607)) (some (.inl 4)) (some (.inr 3)):=by
  unfold aJ
  rw [show shl .i64 (-1) (w64 ((w64 (8 * 3)) - 1)) = some (-8388608) from rfl,show shl .i64 1 (w64 ((w64 (8 * 3)) - 1)) = some 8388608 from rfl]
  simp only [obs,inT]
  rw [show w64 (8388608 - 1) = 8388607 from rfl]; cases pIn m (-8388608) 8388607 <;> rfl
 have a4:aJ m 4 = some (.inr 4):=rfl
 have b3:∀ out:List Int,out.length ≤ 10 → aA m 3 out = some (.inl (2,out ++ [m / 16777216 % 256])):=fun out ho=>by
  unfold aA
  rw [show shr .i64 m (w64 (8 * 3)) = some (m.fdiv (2 ^ 24)) from rfl,obs,app_small (by simp; omega),obs,w8,fd m (by decide)]; rfl
 have b2:∀ out:List Int,out.length ≤ 10 → aA m 2 out = some (.inl (1,out ++ [m / 65536 % 256])):=fun out ho=>by
  unfold aA
  rw [show shr .i64 m (w64 (8 * 2)) = some (m.fdiv (2 ^ 16)) from rfl,obs,app_small (by simp; omega),obs,w8,fd m (by decide)]; rfl
 have b1:∀ out:List Int,out.length ≤ 10 → aA m 1 out = some (.inl (0,out ++ [m / 256 % 256])):=fun out ho=>by
  unfold aA
  rw [show shr .i64 m (w64 (8 * 1)) = some (m.fdiv (2 ^ 8)) from rfl,obs,app_small (by simp; omega),obs,w8,fd m (by decide)]; rfl
 have b0:∀ out:List Int,out.length ≤ 10 → aA m 0 out = some (.inl (-1,out ++ [m % 256])):=fun out ho=>by
  unfold aA
  rw [show shr .i64 m (w64 (8 * 0)) = some (m.fdiv (2 ^ 0)) from rfl,obs,app_small (by simp; omega),obs,w8,fd m (by decide)]
  simp
  rfl
 have be:∀ out:List Int,aA m (-1) out = some (.inr out):=fun out=>rfl
 have c0:∀ out:List Int,out.length ≤ 9 → loop (fun z:Int × List Int=>aA m z.1 z.2) (0,out) = some (out ++ [m % 256]):=fun out ho=>loop_in (b0 out (by omega)) (loop_end (be _))
 have c1:∀ out:List Int,out.length ≤ 8 → loop (fun z:Int × List Int=>aA m z.1 z.2) (1,out) = some (out ++ [m / 256 % 256] ++ [m % 256]):=fun out ho=>loop_in (b1 out (by omega)) (c0 _ (by simp; omega))
 have c2:∀ out:List Int,out.length ≤ 7 → loop (fun z:Int × List Int=>aA m z.1 z.2) (2,out) = some (out ++ [m / 65536 % 256] ++ [m / 256 % 256] ++ [m % 256]):=fun out ho=>loop_in (b2 out (by omega)) (c1 _ (by simp; omega))
 have c3:∀ out:List Int,out.length ≤ 6 → loop (fun z:Int × List Int=>aA m z.1 z.2) (3,out) = some (out ++ [m / 16777216 % 256] ++ [m / 65536 % 256] ++ [m / 256 % 256] ++ [m % 256]):=fun out ho=>loop_in (b3 out (by omega)) (c2 _ (by simp; omega))
 unfold intB
 cases h8:pIn m (-128) 127 with
 | true =>
  rw [h8] at a1
  rw [loop_end (step:=fun z=>aJ m z) a1,obs,show w64 (1 - 1) = 0 from rfl,c0 [] (by simp)]; rfl
 | false =>
  rw [h8] at a1
  cases h16:pIn m (-32768) 32767 with
  | true =>
   rw [h16] at a2
   rw [loop_in (step:=fun z=>aJ m z) a1 (loop_end a2),obs,show w64 (2 - 1) = 1 from rfl,c1 [] (by simp)]; rfl
  | false =>
   rw [h16] at a2
   cases h24:pIn m (-8388608) 8388607 with
   | true =>
    rw [h24] at a3
    rw [loop_in (step:=fun z=>aJ m z) a1 (loop_in a2 (loop_end a3)),obs,show w64 (3 - 1) = 2 from rfl,c2 [] (by simp)]; rfl
   | false =>
    rw [h24] at a3
    rw [loop_in (step:=fun z=>aJ m z) a1 (loop_in a2 (loop_in a3 (loop_end a4))),obs,show w64 (4 - 1) = 3 from rfl,c3 [] (by simp)]; rfl
theorem pIn_false {n a b:Int} (h:pIn n a b = false):n < a ∨ n > b:=by
 unfold pIn at h
 simp only [Bool.and_eq_false_iff,decide_eq_false_iff_not] at h
 omega
theorem pIn_true {n a b:Int} (h:pIn n a b = true):a ≤ n ∧ n ≤ b:=by
 unfold pIn at h
 simp only [aT,decide_eq_true_eq] at h
 omega
theorem putIntS {n:Int}:aQ n = some (intB (clip n)):=by
 unfold aQ
 have hc:aw n = some (clip n):=by
  unfold aw clip
  by_cases h1:n > 2147483647
  · rw [dT h1,cT,if_pos h1]
  · rw [dF h1,cF,if_neg h1]
    by_cases h2:n < -2147483648
    · rw [dT h2,cT,if_pos h2]
    · rw [dF h2,cF,if_neg h2]
 rw [hc,obs]
 obtain ⟨h1,h2⟩:=clip_in n
 generalize clip n = m at h1 h2
 have st:∀ (x:Int) (out:List Int),out.length ≤ 10 → cc x out = cond (pIn x (-128) 127) (some (.inr out)) (some (.inl (x / 256,x / 256 % 256 :: out))):=fun x out ho=>by
  unfold cc
  have e:(cond (decide (x < (-128))) (some true) (some (decide (x > 127)))) = some (!(pIn x (-128) 127)):=by
   unfold pIn
   by_cases h1:x < -128
   · rw [dT h1,cT,dF (show ¬ x ≥ -128 by omega)]; rfl
   · rw [dF h1,cF,dT (show x ≥ -128 by omega)]
     by_cases h2:x > 127
     · rw [dT h2,dF (show ¬ x ≤ 127 by omega)]; rfl
     · rw [dF h2,dT (show x ≤ 127 by omega)]; rfl
  rw [e,obs,app_small (by simp; omega),obs,w8,fd x (by decide)]
  cases pIn x (-128) 127 <;> rfl
 rw [w8]
 have goes:∀ (x:Int) (out:List Int),out.length ≤ 9 → pIn x (-128) 127 = true → loop (fun z:Int × List Int=>cc z.1 z.2) (x,out) = some out:=fun x out ho h=>loop_end (by show cc x out = _; rw [st x out (by omega),h]; rfl)
 have more:∀ (x:Int) (out r:List Int),out.length ≤ 9 → pIn x (-128) 127 = false → loop (fun z:Int × List Int=>cc z.1 z.2) (x / 256,x / 256 % 256 :: out) = some r → loop (fun z:Int × List Int=>cc z.1 z.2) (x,out) = some r:=fun x out r ho h k=>loop_in (by show cc x out = _; rw [st x out (by omega),h]; rfl) k
 have inn:∀ (x a b:Int),a ≤ x → x ≤ b → pIn x a b = true:=fun x a b h1 h2=>by unfold pIn; rw [dT h1,dT h2]; rfl
 have outn:∀ (x a b:Int),(x < a ∨ x > b) → pIn x a b = false:=fun x a b h=>by
  unfold pIn
  simp only [Bool.and_eq_false_iff,decide_eq_false_iff_not]; omega
 unfold intB
 cases h8:pIn m (-128) 127 with
 | true=>rw [goes m _ (by simp) h8]; rfl
 | false =>
  have k8:=pIn_false h8
  cases h16:pIn m (-32768) 32767 with
  | true =>
   have k16:=pIn_true h16
   rw [more m _ _ (by simp) h8 (goes (m / 256) _ (by simp) (inn _ _ _ (by omega) (by omega)))]; rfl
  | false =>
   have k16:=pIn_false h16
   cases h24:pIn m (-8388608) 8388607 with
   | true =>
    have k24:=pIn_true h24
    rw [more m _ _ (by simp) h8 (more (m / 256) _ _ (by simp) (outn _ _ _ (by omega)) (goes (m / 256 / 256) _ (by simp) (inn _ _ _ (by omega) (by omega))))]
    rw [show m / 256 / 256 = m / 65536 by omega]; rfl
   | false =>
    have k24:=pIn_false h24
    rw [more m _ _ (by simp) h8 (more (m / 256) _ _ (by simp) (outn _ _ _ (by omega)) (more (m / 256 / 256) _ _ (by simp) (outn _ _ _ (by omega)) (goes (m / 256 / 256 / 256) _ (by simp) (inn _ _ _ (by omega) (by omega)))))]
    rw [show m / 256 / 256 = m / 65536 by omega,show m / 65536 / 256 = m / 16777216 by omega]; rfl

def Byt (b:List Int):Prop:=∀ x ∈ b,0 ≤ x ∧ x ≤ 255
def tlvL (t:Int) (body:List Int):List Int:=t :: ((if body.length ≥ 128 then [129,(body.length:Int)] else [(body.length:Int)]) ++ body)
theorem tlvX (t:Int) {body:List Int} (hn:body.length ≤ M):cB t body = some (if pIn t 0 255 = true ∧ body.length ≤ 250 then (tlvL t body,true) else ([],false)):=by
 have hn':body.length ≤ 1048576:=hn
 unfold cB
 rw [inT,obs]
 cases ht:pIn t 0 255 with
 | false=>rw [if_neg (by simp)]; rfl
 | true =>
  obtain ⟨t1,t2⟩:=pIn_true ht
  rw [Bool.not_true,cF,obs]
  by_cases h:(body.length:Int) > 250
  · rw [dT h,cT,if_neg (by omega)]
  · rw [dF h,cF,if_pos ⟨rfl,by omega⟩]
    unfold tlvL
    have e1:IntKind.u8.wrap t = t:=by rw [w8]; omega
    have e2:IntKind.u8.wrap (body.length:Int) = (body.length:Int):=by rw [w8]; omega
    by_cases h8:(body.length:Int) ≥ 128
    · rw [dT h8,cT,app_small (by simp),obs,app_small (by simp),obs,app_small (by simp; omega),obs,if_pos (by omega),e1,e2]; rfl
    · rw [dF h8,cF,app_small (by simp),obs,app_small (by simp; omega),obs,if_neg (by omega),e1,e2]; rfl
theorem putTlv {b:List Int} (t:Int) {body:List Int} (hb:b.length ≤ 1000) (hn:body.length ≤ M):bg b t body = some (b ++ if pIn t 0 255 = true ∧ body.length ≤ 250 then tlvL t body else []):=by
 unfold bg
 have hM:M = 1048576:=rfl
 rw [tlvX t hn,obs,copyBytes (by omega),obs]
 split
 · next h =>
   have:(tlvL t body).length ≤ 300:=by unfold tlvL; split <;> simp <;> omega
   rw [app_small (by show b.length + (tlvL t body).length ≤ _; omega)]; rfl
 · rw [app_small (by show b.length + 0 ≤ _; omega)]; rfl
theorem at_pre {α:Type} (pre l:List α) (j:Nat):at? (pre ++ l) ((pre.length + j:Nat):Int) = at? l (j:Int):=by
 unfold at?
 rw [if_pos (by omega),if_pos (by omega),Int.toNat_natCast,Int.toNat_natCast,List.getElem?_append_right (by omega),Nat.add_sub_cancel_left]
theorem cut_pre {α:Type} (pre l:List α) (i j:Nat) (h:i ≤ j) (hj:j ≤ l.length):cut (pre ++ l) ((pre.length + i:Nat):Int) ((pre.length + j:Nat):Int) = some ((l.take j).drop i):=by
 rw [cut_ok (by omega) (by rw [length_append]; omega),List.take_append,List.take_of_length_le (by omega),List.drop_append,List.drop_of_length_le (by omega),Nat.add_sub_cancel_left,Nat.add_sub_cancel_left,nil_append]
structure Part (b:List Int) (at':Int) (t:Int) (body:List Int) (next:Int):Prop where
 ex:∃ pre rest,b = pre ++ (tlvL t body ++ rest) ∧ at' = (pre.length:Int) ∧ next = ((pre.length + (tlvL t body).length:Nat):Int)
 n:body.length ≤ 250
 t:pIn t 0 255 = true
 b:Byt body
theorem getTlv {b:List Int} (hb:Byt b) (hn:b.length ≤ M) {i:Int} (hi:-9223372036854775808 ≤ i ∧ i ≤ 9223372036854775807):∃ r,cz b i = some r ∧ cX b i = some r ∧ (r = (0,[],0,false) ∨ ∃ t body next,r = (t,body,next,true) ∧ Part b i t body next):=by
 have hn':b.length ≤ 1048576:=hn
 unfold cz cX
 rw [w64_id (show -9223372036854775808 ≤ (b.length:Int) - 2 by omega) (by omega)]
 by_cases h0:i < 0
 · rw [dT h0]
   exact ⟨_,rfl,rfl,.inl rfl⟩
 rw [dF h0]
 by_cases h1:i > (b.length:Int) - 2
 · rw [dT h1]
   by_cases h2:i ≥ (b.length:Int)
   · rw [dT h2]
     exact ⟨_,rfl,rfl,.inl rfl⟩
   · rw [dF h2,w64_id (by omega) (by omega),dT (show i + 1 ≥ (b.length:Int) by omega)]
     exact ⟨_,rfl,rfl,.inl rfl⟩
 rw [dF h1,dF (show ¬ i ≥ (b.length:Int) by omega),w64_id (show -9223372036854775808 ≤ i + 1 by omega) (by omega),dF (show ¬ i + 1 ≥ (b.length:Int) by omega),w64_id (show -9223372036854775808 ≤ i + 2 by omega) (by omega)]
 simp only [cF,obs]
 obtain ⟨k,rfl⟩:∃ k:Nat,i = (k:Int):=⟨i.toNat,by omega⟩
 have hk:k + 1 < b.length:=by omega
 obtain ⟨pre,t,n0,rest,rfl,hp⟩:∃ pre t n0 rest,b = pre ++ (t :: n0 :: rest) ∧ pre.length = k:=by
  refine ⟨b.take k,b[k],b[k + 1],b.drop (k + 2),?_,by rw [length_take]; omega⟩
  have h1:=take_append_drop k b
  rw [drop_eq_getElem_cons (by omega),drop_eq_getElem_cons (by omega)] at h1
  exact h1.symm
 subst hp
 have ht:0 ≤ t ∧ t ≤ 255:=hb t (by simp)
 have hn0:0 ≤ n0 ∧ n0 ≤ 255:=hb n0 (by simp)
 have hr:Byt rest:=fun x hx=>hb x (by simp [hx])
 have hlen:(pre ++ (t :: n0 :: rest)).length = pre.length + (rest.length + 2):=by simp
 have e0:at? (pre ++ (t :: n0 :: rest)) (pre.length:Int) = some t:=by have:=at_pre pre (t :: n0 :: rest) 0; rw [Nat.add_zero] at this; rw [this]; rfl
 have e1:at? (pre ++ (t :: n0 :: rest)) ((pre.length:Int) + 1) = some n0:=by have:=at_pre pre (t :: n0 :: rest) 1; rw [show ((pre.length:Int) + 1) = ((pre.length + 1:Nat):Int) by omega,this]; rfl
 have e2:at? (pre ++ (t :: n0 :: rest)) ((pre.length:Int) + 2) = at? rest 0:=by
  have:=at_pre pre (t :: n0 :: rest) 2
  rw [show ((pre.length:Int) + 2) = ((pre.length + 2:Nat):Int) by omega,this]
  unfold at?; simp
 have wt:w64 t = t:=w64_id (by omega) (by omega)
 have wn:w64 n0 = n0:=w64_id (by omega) (by omega)
 have pt:pIn t 0 255 = true:=by unfold pIn; rw [dT ht.1,dT ht.2]; rfl
 rw [hlen] at hn'
 rw [hlen,e0,e1,e2]
 simp only [obs,wt,wn]
 by_cases h8:n0 ≥ 128
 · rw [dT h8,dT (show n0 > 127 by omega)]
   simp only [cT]
   by_cases h9:n0 = 129
   · subst h9
     simp only [show ((129:Int) != 129) = false from rfl,cF,obs]
     cases rest with
     | nil =>
      rw [dT (show (pre.length:Int) + 2 ≥ ((pre.length + (([]:List Int).length + 2):Nat):Int) by simp)]
      exact ⟨_,rfl,rfl,.inl rfl⟩
     | cons n1 r =>
      have hn1:0 ≤ n1 ∧ n1 ≤ 255:=hr n1 (by simp)
      have wn1:w64 n1 = n1:=w64_id (by omega) (by omega)
      rw [length_cons] at hn' ⊢
      rw [dF (show ¬ (pre.length:Int) + 2 ≥ ((pre.length + (r.length + 1 + 2):Nat):Int) by omega)]
      simp only [cF,obs,show at? (n1 :: r) 0 = some n1 from rfl,wn1]
      by_cases h10:n1 < 128
      · rw [dT h10]
        exact ⟨_,rfl,rfl,.inl rfl⟩
      rw [dF h10,w64_id (show -9223372036854775808 ≤ (pre.length:Int) + 2 + 1 by omega) (by omega),w64_id (show -9223372036854775808 ≤ ((pre.length + (r.length + 1 + 2):Nat):Int) - ((pre.length:Int) + 2 + 1) by omega) (by omega)]
      simp only [cF]
      by_cases h11:n1 > 250
      · rw [dT h11]
        exact ⟨_,rfl,rfl,.inl rfl⟩
      rw [dF h11]
      simp only [cF,obs]
      by_cases h12:n1 > ((pre.length + (r.length + 1 + 2):Nat):Int) - ((pre.length:Int) + 2 + 1)
      · rw [dT h12]
        exact ⟨_,rfl,rfl,.inl rfl⟩
      rw [dF h12]
      simp only [cF]
      obtain ⟨m,rfl⟩:∃ m:Nat,n1 = (m:Int):=⟨n1.toNat,by omega⟩
      have hcut:cut (pre ++ (t :: 129 :: (m:Int) :: r)) ((pre.length:Int) + 2 + 1) (w64 ((pre.length:Int) + 2 + 1 + (m:Int))) = some (r.take m):=by
       rw [w64_id (by omega) (by omega),show (pre.length:Int) + 2 + 1 + (m:Int) = ((pre.length + (3 + m):Nat):Int) by omega,show (pre.length:Int) + 2 + 1 = ((pre.length + 3:Nat):Int) by omega,cut_pre _ _ _ _ (by omega) (by simp; omega)]
       simp [Nat.add_comm 3 m]
      have hl:(r.take m).length = m:=by rw [length_take]; omega
      rw [hcut,obs,obs,copyBytes (by show _ ≤ 1048576; omega),app_nil (by show _ ≤ 1048576; omega),obs]
      refine ⟨_,rfl,rfl,.inr ⟨t,r.take m,w64 ((pre.length:Int) + 2 + 1 + (m:Int)),rfl,⟨pre,r.drop m,?_,rfl,?_⟩,by omega,pt,fun x hx=>hr x (mem_cons_of_mem _ (mem_of_mem_take hx))⟩⟩
      · unfold tlvL
        rw [hl,if_pos (by omega)]
        simp
      · unfold tlvL
        rw [hl,if_pos (by omega),w64_id (by omega) (by omega)]
        simp only [length_cons,length_append,length_nil,hl]; omega
   · rw [bne_iff_ne.2 h9]
     exact ⟨_,rfl,rfl,.inl rfl⟩
 · rw [dF h8,dF (show ¬ n0 > 127 by omega)]
   simp only [cF]
   rw [dF (show ¬ n0 > 250 by omega),w64_id (show -9223372036854775808 ≤ ((pre.length + (rest.length + 2):Nat):Int) - ((pre.length:Int) + 2) by omega) (by omega)]
   simp only [cF,obs]
   by_cases h12:n0 > ((pre.length + (rest.length + 2):Nat):Int) - ((pre.length:Int) + 2)
   · rw [dT h12]
     exact ⟨_,rfl,rfl,.inl rfl⟩
   rw [dF h12]
   simp only [cF]
   obtain ⟨m,rfl⟩:∃ m:Nat,n0 = (m:Int):=⟨n0.toNat,by omega⟩
   have hcut:cut (pre ++ (t :: (m:Int) :: rest)) ((pre.length:Int) + 2) (w64 ((pre.length:Int) + 2 + (m:Int))) = some (rest.take m):=by
    rw [w64_id (by omega) (by omega),show (pre.length:Int) + 2 + (m:Int) = ((pre.length + (2 + m):Nat):Int) by omega,show (pre.length:Int) + 2 = ((pre.length + 2:Nat):Int) by omega,cut_pre _ _ _ _ (by omega) (by simp; omega)]
    simp [Nat.add_comm 2 m]
   have hl:(rest.take m).length = m:=by rw [length_take]; omega
   rw [hcut,obs,obs,copyBytes (by show _ ≤ 1048576; omega),app_nil (by show _ ≤ 1048576; omega),obs]
   refine ⟨_,rfl,rfl,.inr ⟨t,rest.take m,w64 ((pre.length:Int) + 2 + (m:Int)),rfl,⟨pre,rest.drop m,?_,rfl,?_⟩,by omega,pt,fun x hx=>hr x (mem_of_mem_take hx)⟩⟩
   · unfold tlvL
     rw [hl,if_neg (by omega)]
     simp
   · unfold tlvL
     rw [hl,if_neg (by omega),w64_id (by omega) (by omega)]
     simp only [length_cons,length_append,length_nil,hl]; omega

end Go.V.W
