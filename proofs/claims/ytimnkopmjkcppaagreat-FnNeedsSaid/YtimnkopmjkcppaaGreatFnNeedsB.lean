/- The law FnNeeds: part of the proof that for every input it returns true. No condition. -/
import Derived.Test.YtimnkopmjkcppaaGreatFnNeedsBP1
open List (any_eq_false append_assoc append_nil drop_eq_getElem_cons drop_zero flatMap_append getElem_cons_succ getElem_cons_zero getElem_mem getElem_of_mem getElem_set_self length_append length_cons length_drop length_eq_zero_iff length_map length_set length_singleton length_take map_append map_cons map_map mem_append mem_cons mem_cons_of_mem mem_map mem_of_mem_drop mem_of_mem_take mem_range mem_singleton nil_append not_mem_nil set_set take_add_one take_length take_nil take_of_length_le take_succ_cons take_zero)
set_option linter.unusedVariables false
set_option linter.unusedSimpArgs false
namespace Go.V.W
theorem borX {m x:Int} (hm:-1099511627776 ≤ m ∧ m ≤ 1099511627776) (hx:0 ≤ x ∧ x ≤ 255):bor .i64 (w64 (m * 2 ^ 8)) (w64 x) = m * 256 + x:=by
 rw [show m * 2 ^ 8 = m * 256 from rfl,w64_id (show -9223372036854775808 ≤ m * 256 by omega) (by omega),w64_id (show -9223372036854775808 ≤ x by omega) (by omega)]
 show IntKind.i64.wrap (((BitVec.ofInt 64 (m * 256) ||| BitVec.ofInt 64 x).toNat:Nat):Int) = _
 rw [BitVec.toNat_or,BitVec.toNat_ofInt,BitVec.toNat_ofInt]
 have h1:((m * 256) % ((2 ^ 64:Nat):Int)).toNat = 2 ^ 8 * (m % 72057594037927936).toNat:=by
  have:((2 ^ 64:Nat):Int) = 18446744073709551616:=by decide
  rw [this]; omega
 have h2:(x % ((2 ^ 64:Nat):Int)).toNat = x.toNat:=by
  have:((2 ^ 64:Nat):Int) = 18446744073709551616:=by decide
  rw [this]; omega
 rw [h1,h2,← Nat.two_pow_add_eq_or_of_lt (by show x.toNat < 2 ^ 8; omega)]
 show (let z:=((2 ^ 8 * (m % 72057594037927936).toNat + x.toNat:Nat):Int) % 18446744073709551616; if (true && decide (z ≥ 9223372036854775808)) = true then z - 18446744073709551616 else z) = _
 simp only [Bool.true_and,decide_eq_true_eq]
 split <;> omega
def sgn (x:Int):Int:=if x > 127 then x - 256 else x
def foldI (n:Int) (l:List Int):Int:=l.foldl (fun n x=>n * 256 + x) n
theorem foldI_in {n:Int} {l:List Int} (hn:-256 ≤ n ∧ n ≤ 256) (hl:Byt l) (h3:l.length ≤ 3):∀ k,k ≤ l.length → -1099511627776 ≤ foldI n (l.take k) ∧ foldI n (l.take k) ≤ 1099511627776:=by
 match l,h3 with
 | [],_=>intro k hk; simp only [take_nil,foldI,List.foldl]; omega
 | [a],_ =>
  have ha:=hl a (by simp)
  intro k hk
  match k with
  | 0=>simp only [take_zero,foldI,List.foldl]; omega
  | k + 1=>simp only [take_succ_cons,take_nil,foldI,List.foldl]; omega
 | [a,b],_ =>
  have ha:=hl a (by simp)
  have hb:=hl b (by simp)
  intro k hk
  match k with
  | 0=>simp only [take_zero,foldI,List.foldl]; omega
  | 1=>simp only [take_succ_cons,take_zero,foldI,List.foldl]; omega
  | k + 2=>simp only [take_succ_cons,take_nil,foldI,List.foldl]; omega
 | [a,b,c],_ =>
  have ha:=hl a (by simp)
  have hb:=hl b (by simp)
  have hc:=hl c (by simp)
  intro k hk
  match k with
  | 0=>simp only [take_zero,foldI,List.foldl]; omega
  | 1=>simp only [take_succ_cons,take_zero,foldI,List.foldl]; omega
  | 2=>simp only [take_succ_cons,take_zero,foldI,List.foldl]; omega
  | k + 3=>simp only [take_succ_cons,take_nil,foldI,List.foldl]; omega
theorem int_loop {n:Int} {l:List Int} (hn:-256 ≤ n ∧ n ≤ 256) (hl:Byt l) (h3:l.length ≤ 3) {off:Nat} (step:Int × Int → Option ((Int × Int) ⊕ Int)) (ho:off ≤ 1000)
 (hs:∀ k (hk:k < l.length) m,step (m,((off + k:Nat):Int)) = some (.inl (bor .i64 (w64 (m * 2 ^ 8)) (w64 l[k]),((off + (k + 1):Nat):Int))))
 (he:∀ m,step (m,((off + l.length:Nat):Int)) = some (.inr m)):loop step (n,(off:Int)) = some (foldI n l):=by
 obtain ⟨b,h1,rfl⟩:=loop_inv (step:=step) (fun k z=>z = (foldI n (l.take k),((off + k:Nat):Int))) l.length (fun b=>b = foldI n l)
  (fun k z hk e=>by
   subst e
   left
   refine ⟨_,hs k hk _,?_⟩
   have ht:l.take (k + 1) = l.take k ++ [l[k]]:=by rw [take_add_one,List.getElem?_eq_getElem hk]; rfl
   rw [borX (foldI_in hn hl h3 k (by omega)) (hl _ (getElem_mem hk)),ht]
   unfold foldI
   rw [List.foldl_append]; rfl)
  (fun z e=>by
   subst e
   exact ⟨_,he _,by rw [take_length]⟩) (x:=(n,(off:Int))) rfl
 exact h1
theorem intB_back {x0:Int} {l:List Int} (hb:Byt (x0 :: l)) (h3:l.length ≤ 3):-2147483648 ≤ foldI (sgn x0) l ∧ foldI (sgn x0) l ≤ 2147483647 ∧ ((intB (foldI (sgn x0) l)).length = (x0 :: l).length → x0 :: l = intB (foldI (sgn x0) l)):=by
 have h0:=hb x0 (by simp)
 have hs:(sgn x0 = x0 ∧ x0 ≤ 127) ∨ (sgn x0 = x0 - 256 ∧ 128 ≤ x0):=by unfold sgn; split <;> omega
 generalize sgn x0 = s at hs
 match l,h3 with
 | [],_ =>
  simp only [foldI,List.foldl]
  refine ⟨by omega,by omega,fun _=>?_⟩
  have:pIn s (-128) 127 = true:=by unfold pIn; rw [dT (by omega),dT (by omega)]; rfl
  unfold intB
  rw [if_pos this,show s % 256 = x0 by omega]
 | [a],_ =>
  have ha:=hb a (by simp)
  simp only [foldI,List.foldl]
  refine ⟨by omega,by omega,fun h=>?_⟩
  unfold intB at h ⊢
  split at h
  · simp at h
  · split at h
    · next h1 h2=>rw [if_neg h1,if_pos h2,show (s * 256 + a) / 256 % 256 = x0 by omega,show (s * 256 + a) % 256 = a by omega]
    · split at h <;> simp at h
 | [a,b],_ =>
  have ha:=hb a (by simp)
  have hb':=hb b (by simp)
  simp only [foldI,List.foldl]
  refine ⟨by omega,by omega,fun h=>?_⟩
  unfold intB at h ⊢
  split at h
  · simp at h
  · split at h
    · simp at h
    · split at h
      · next h1 h2 h3=>rw [if_neg h1,if_neg h2,if_pos h3,show ((s * 256 + a) * 256 + b) / 65536 % 256 = x0 by omega,show ((s * 256 + a) * 256 + b) / 256 % 256 = a by omega,show ((s * 256 + a) * 256 + b) % 256 = b by omega]
      · simp at h
 | [a,b,c],_ =>
  have ha:=hb a (by simp)
  have hb':=hb b (by simp)
  have hc:=hb c (by simp)
  simp only [foldI,List.foldl]
  refine ⟨by omega,by omega,fun h=>?_⟩
  unfold intB at h ⊢
  split at h
  · simp at h
  · split at h
    · simp at h
    · split at h
      · simp at h
      · next h1 h2 h3=>rw [if_neg h1,if_neg h2,if_neg h3,show (((s * 256 + a) * 256 + b) * 256 + c) / 16777216 % 256 = x0 by omega,show (((s * 256 + a) * 256 + b) * 256 + c) / 65536 % 256 = a by omega,show (((s * 256 + a) * 256 + b) * 256 + c) / 256 % 256 = b by omega,show (((s * 256 + a) * 256 + b) * 256 + c) % 256 = c by omega]
theorem clip_id {n:Int} (h:-2147483648 ≤ n ∧ n ≤ 2147483647):clip n = n:=by unfold clip; split <;> (try split) <;> omega
theorem i8 {x:Int} (hx:0 ≤ x ∧ x ≤ 255):w64 (IntKind.i8.wrap x) = sgn x:=by
 have:IntKind.i8.wrap x = sgn x:=by
  show (let m:=x % 256; if (true && decide (m ≥ 128)) = true then m - 256 else m) = _
  unfold sgn
  simp only [Bool.true_and,decide_eq_true_eq]
  split <;> split <;> omega
 rw [this]
 unfold sgn
 split <;> exact w64_id (by omega) (by omega)
theorem getInt {b:List Int} (hb:Byt b) (hn:b.length ≤ M):∃ r,ev b = some r ∧ fg b = some r ∧ (r = (0,false) ∨ ∃ n,r = (n,true) ∧ b = intB n ∧ -2147483648 ≤ n ∧ n ≤ 2147483647):=by
 have hn':b.length ≤ 1048576:=hn
 unfold ev fg
 rw [inT,inS,obs,obs]
 cases h14:pIn (b.length:Int) 1 4 with
 | false=>exact ⟨_,rfl,rfl,.inl rfl⟩
 | true =>
  obtain ⟨k1,k4⟩:=pIn_true h14
  match b,k1,k4,hb,hn' with
  | x0 :: l,k1,k4,hb,hn' =>
   have h3:l.length ≤ 3:=by rw [length_cons] at k4; omega
   have h0:=hb x0 (by simp)
   have hl:Byt l:=fun x hx=>hb x (mem_cons_of_mem _ hx)
   obtain ⟨d1,d2,d3⟩:=intB_back hb h3
   have hsg:-256 ≤ sgn x0 ∧ sgn x0 ≤ 256:=by unfold sgn; split <;> omega
   have w0:w64 x0 = x0:=w64_id (by omega) (by omega)
   have hcut:cut (x0 :: l) 1 ((x0 :: l).length:Int) = some l:=by
    rw [show (1:Int) = ((1:Nat):Int) from rfl,cut_ok (by simp) (Nat.le_refl _),take_length]; rfl
   have hfin:∀ d:Int × Bool,True:=fun _=>trivial
   have li:loop (fun z:Int × Int=>dq l z.1 z.2) (sgn x0,0) = some (foldI (sgn x0) l):=int_loop hsg hl h3 (off:=0) _ (by omega) (fun k hk m=>by
    show dq l m ((0 + k:Nat):Int) = _
    rw [Nat.zero_add]
    unfold dq
    rw [dlt (by omega),cT,at_nat hk,obs,w64_nat (by omega),Nat.zero_add]) (fun m=>by
    show dq l m ((0 + l.length:Nat):Int) = _
    rw [Nat.zero_add]
    unfold dq
    rw [dnlt (by omega),cF])
   have hat:∀ k (hk:k < l.length),at? (x0 :: l) ((1 + k:Nat):Int) = some l[k]:=fun k hk=>by
    rw [at_nat (by simp; omega)]
    congr 1
    rw [List.getElem_cons,dif_neg (by omega)]
    congr 1; omega
   have ls:loop (fun z:Int × Int=>dQ (x0 :: l) z.1 z.2) (sgn x0,1) = some (foldI (sgn x0) l):=int_loop hsg hl h3 (off:=1) _ (by omega) (fun k hk m=>by
    show dQ (x0 :: l) m ((1 + k:Nat):Int) = _
    unfold dQ
    rw [dlt (show ((1 + k:Nat):Int) < ((x0 :: l).length:Int) by rw [length_cons]; omega),cT,hat k hk,obs,w64_nat (by omega)]; rfl) (fun m=>by
    show dQ (x0 :: l) m ((1 + l.length:Nat):Int) = _
    unfold dQ
    rw [dnlt (show ¬ ((1 + l.length:Nat):Int) < ((x0 :: l).length:Int) by rw [length_cons]; omega),cF])
   have ls1:loop (fun z:Int × Int=>dR (x0 :: l) z.1 z.2) (sgn x0,1) = some (foldI (sgn x0) l):=int_loop hsg hl h3 (off:=1) _ (by omega) (fun k hk m=>by
    show dR (x0 :: l) m ((1 + k:Nat):Int) = _
    unfold dR
    rw [dlt (show ((1 + k:Nat):Int) < ((x0 :: l).length:Int) by rw [length_cons]; omega),cT,hat k hk,obs,w64_nat (by omega)]; rfl) (fun m=>by
    show dR (x0 :: l) m ((1 + l.length:Nat):Int) = _
    unfold dR
    rw [dnlt (show ¬ ((1 + l.length:Nat):Int) < ((x0 :: l).length:Int) by rw [length_cons]; omega),cF])
   have fin1:∀ (g:Option (List Int)),g = some (intB (foldI (sgn x0) l)) → ∃ r,(g.bind fun t30=>cond ((t30.length:Int) != ((x0 :: l).length:Int)) (some ((0:Int),false)) (some (foldI (sgn x0) l,true))) = some r ∧ (r = (0,false) ∨ ∃ n,r = (n,true) ∧ x0 :: l = intB n ∧ -2147483648 ≤ n ∧ n ≤ 2147483647):=fun g hg=>by
    rw [hg,obs]
    cases he:(((intB (foldI (sgn x0) l)).length:Int) != ((x0 :: l).length:Int)) with
    | true=>exact ⟨_,rfl,.inl rfl⟩
    | false =>
     have he':((intB (foldI (sgn x0) l)).length:Int) = ((x0 :: l).length:Int):=by simpa using he
     exact ⟨_,rfl,.inr ⟨_,rfl,d3 (by omega),d1,d2⟩⟩
   have p1:=putInt (n:=foldI (sgn x0) l) ⟨by omega,by omega⟩
   have p2:=putIntS (n:=foldI (sgn x0) l)
   rw [clip_id ⟨d1,d2⟩] at p1 p2
   obtain ⟨r,f1,f2⟩:=fin1 _ p1
   have f3:((aQ (foldI (sgn x0) l)).bind fun t30=>cond ((t30.length:Int) != ((x0 :: l).length:Int)) (some ((0:Int),false)) (some (foldI (sgn x0) l,true))) = some r:=by rw [p2,← p1]; exact f1
   refine ⟨r,?_,?_,f2⟩
   · rw [Bool.not_true,cF,show at? (x0 :: l) 0 = some x0 from rfl,obs]
     simp only
     rw [hcut,obs,i8 h0,li,obs]
     exact f1
   · rw [Bool.not_true,cF,show at? (x0 :: l) 0 = some x0 from rfl,obs,w0]
     by_cases h7:x0 > 127
     · have hsx:w64 (x0 - 256) = sgn x0:=by unfold sgn; rw [if_pos h7]; exact w64_id (by omega) (by omega)
       rw [dT h7,cT,hsx,ls,obs]
       exact f3
     · have hsx:sgn x0 = x0:=by unfold sgn; rw [if_neg h7]
       rw [hsx] at ls1 f3
       rw [dF h7,cF,ls1,obs]
       exact f3

theorem pow64:((2 ^ 64:Nat):Int) = 18446744073709551616:=by decide
theorem band127 {x:Int} (hx:0 ≤ x ∧ x < 9223372036854775808):band .i64 x 127 = x % 128:=by
 show IntKind.i64.wrap (((BitVec.ofInt 64 x &&& BitVec.ofInt 64 127).toNat:Nat):Int) = _
 rw [BitVec.toNat_and,BitVec.toNat_ofInt,BitVec.toNat_ofInt,pow64]
 have h2:((127:Int) % 18446744073709551616).toNat = 2 ^ 7 - 1:=by decide
 have h1:(x % 18446744073709551616).toNat = x.toNat:=by omega
 rw [h1,h2,Nat.and_two_pow_sub_one_eq_mod]
 show (let z:=((x.toNat % 2 ^ 7:Nat):Int) % 18446744073709551616; if (true && decide (z ≥ 9223372036854775808)) = true then z - 18446744073709551616 else z) = _
 simp only [Bool.true_and,decide_eq_true_eq]
 split <;> omega
theorem band127' {x:Int} (hx:0 ≤ x ∧ x ≤ 255):band .u8 x 127 = x % 128:=by
 show IntKind.u8.wrap (((BitVec.ofInt 8 x &&& BitVec.ofInt 8 127).toNat:Nat):Int) = _
 rw [BitVec.toNat_and,BitVec.toNat_ofInt,BitVec.toNat_ofInt,show ((2 ^ 8:Nat):Int) = 256 by decide]
 have h2:((127:Int) % 256).toNat = 2 ^ 7 - 1:=by decide
 have h1:(x % 256).toNat = x.toNat:=by omega
 rw [h1,h2,Nat.and_two_pow_sub_one_eq_mod]
 show (((x.toNat % 2 ^ 7:Nat):Int) % 256) = _
 omega
theorem bor128 {x:Int} (hx:0 ≤ x ∧ x < 128):bor .i64 x 128 = x + 128:=by
 show IntKind.i64.wrap (((BitVec.ofInt 64 x ||| BitVec.ofInt 64 128).toNat:Nat):Int) = _
 rw [BitVec.toNat_or,BitVec.toNat_ofInt,BitVec.toNat_ofInt,pow64]
 have h2:((128:Int) % 18446744073709551616).toNat = 2 ^ 7 * 1:=by decide
 have h1:(x % 18446744073709551616).toNat = x.toNat:=by omega
 rw [h1,h2,Nat.or_comm,← Nat.two_pow_add_eq_or_of_lt (by show x.toNat < 2 ^ 7; omega)]
 show (let z:=((2 ^ 7 * 1 + x.toNat:Nat):Int) % 18446744073709551616; if (true && decide (z ≥ 9223372036854775808)) = true then z - 18446744073709551616 else z) = _
 simp only [Bool.true_and,decide_eq_true_eq]
 split <;> omega
theorem bor7 {m x:Int} (hm:0 ≤ m ∧ m ≤ 1099511627776) (hx:0 ≤ x ∧ x < 128):bor .i64 (w64 (m * 2 ^ 7)) (w64 x) = m * 128 + x:=by
 rw [show m * 2 ^ 7 = m * 128 from rfl,w64_id (show -9223372036854775808 ≤ m * 128 by omega) (by omega),w64_id (show -9223372036854775808 ≤ x by omega) (by omega)]
 show IntKind.i64.wrap (((BitVec.ofInt 64 (m * 128) ||| BitVec.ofInt 64 x).toNat:Nat):Int) = _
 rw [BitVec.toNat_or,BitVec.toNat_ofInt,BitVec.toNat_ofInt,pow64]
 have h1:((m * 128) % 18446744073709551616).toNat = 2 ^ 7 * m.toNat:=by omega
 have h2:(x % 18446744073709551616).toNat = x.toNat:=by omega
 rw [h1,h2,← Nat.two_pow_add_eq_or_of_lt (by show x.toNat < 2 ^ 7; omega)]
 show (let z:=((2 ^ 7 * m.toNat + x.toNat:Nat):Int) % 18446744073709551616; if (true && decide (z ≥ 9223372036854775808)) = true then z - 18446744073709551616 else z) = _
 simp only [Bool.true_and,decide_eq_true_eq]
 split <;> omega
def grp (n:Int):List Int:=if n ≤ 127 then [n] else if n ≤ 16383 then [n / 128 + 128,n % 128] else if n ≤ 2097151 then [n / 16384 + 128,n / 128 % 128 + 128,n % 128] else [n / 2097152 + 128,n / 16384 % 128 + 128,n / 128 % 128 + 128,n % 128]
def oidB (o:List Int):List Int:=o.flatMap grp
theorem grpS {n:Int} (hn:0 ≤ n ∧ n < 268435456):dM n = some (grp n):=by
 unfold dM
 have st:∀ (x:Int) (out:List Int),0 ≤ x ∧ x < 268435456 → out.length ≤ 10 → ce x out = cond (decide (x > 127)) (some (.inl (x / 128,(x / 128 % 128 + 128) :: out))) (some (.inr out)):=fun x out hx ho=>by
  unfold ce
  rw [fd x (by decide),show (2:Int) ^ 7 = 128 from rfl,band127 (by omega),bor128 (by omega),w8,app_small (by simp; omega),obs,show (x / 128 % 128 + 128) % 256 = x / 128 % 128 + 128 by omega]
  rfl
 have goes:∀ (x:Int) (out:List Int),0 ≤ x ∧ x < 268435456 → out.length ≤ 9 → x ≤ 127 → loop (fun z:Int × List Int=>ce z.1 z.2) (x,out) = some out:=fun x out hx ho h=>loop_end (by show ce x out = _; rw [st x out hx (by omega),dF (by omega)]; rfl)
 have more:∀ (x:Int) (out r:List Int),0 ≤ x ∧ x < 268435456 → out.length ≤ 9 → 127 < x → loop (fun z:Int × List Int=>ce z.1 z.2) (x / 128,(x / 128 % 128 + 128) :: out) = some r → loop (fun z:Int × List Int=>ce z.1 z.2) (x,out) = some r:=fun x out r hx ho h k=>loop_in (by show ce x out = _; rw [st x out hx (by omega),dT (by omega)]; rfl) k
 rw [band127 (by omega),w8,show n % 128 % 256 = n % 128 by omega]
 unfold grp
 by_cases h1:n ≤ 127
 · rw [if_pos h1,goes n _ hn (by simp) h1,show n % 128 = n by omega]; rfl
 rw [if_neg h1]
 by_cases h2:n ≤ 16383
 · rw [if_pos h2,more n _ _ hn (by simp) (by omega) (goes (n / 128) _ (by omega) (by simp) (by omega)),show n / 128 % 128 = n / 128 by omega]; rfl
 rw [if_neg h2]
 by_cases h3:n ≤ 2097151
 · rw [if_pos h3,more n _ _ hn (by simp) (by omega) (more (n / 128) _ _ (by omega) (by simp) (by omega) (goes (n / 128 / 128) _ (by omega) (by simp) (by omega))),show n / 128 / 128 = n / 16384 by omega,show n / 16384 % 128 = n / 16384 by omega]; rfl
 rw [if_neg h3,more n _ _ hn (by simp) (by omega) (more (n / 128) _ _ (by omega) (by simp) (by omega) (more (n / 128 / 128) _ _ (by omega) (by simp) (by omega) (goes (n / 128 / 128 / 128) _ (by omega) (by simp) (by omega)))),show n / 128 / 128 = n / 16384 by omega,show n / 16384 / 128 = n / 2097152 by omega,show n / 2097152 % 128 = n / 2097152 by omega]; rfl
theorem grp_len (n:Int):(grp n).length ≤ 4:=by unfold grp; split <;> (try split) <;> (try split) <;> simp
theorem grp_pos (n:Int):1 ≤ (grp n).length:=by unfold grp; split <;> (try split) <;> (try split) <;> simp
theorem grp_len3 {n:Int} (h:n ≤ 100000):(grp n).length ≤ 3:=by unfold grp; split <;> (try split) <;> (try split) <;> simp <;> omega
theorem oidB_len {o:List Int} (h:∀ x ∈ o,x ≤ 100000):(oidB o).length ≤ 3 * o.length:=by
 induction o with
 | nil=>simp [oidB]
 | cons x t ih =>
  have h1:=ih fun y hy=>h y (mem_cons_of_mem _ hy)
  have h2:=grp_len3 (h x (by simp))
  unfold oidB at h1 ⊢
  rw [List.flatMap_cons,length_append,length_cons]; omega
theorem grpI {n:Int} (hn:0 ≤ n ∧ n ≤ 100000) {out:List Int} (ho:out.length ≤ 100):∃ d,loop (fun z=>bN n z) 0 = some d ∧ ∃ e,loop (fun z:Int × List Int=>cC n z.1 z.2) (d,out) = some e ∧ e.length ≤ 104 ∧ e ++ [IntKind.u8.wrap (band .i64 n 127)] = out ++ grp n:=by
 have s0:bN n 0 = cond (decide (n > 127)) (some (.inl 1)) (some (.inr 0)):=by
  unfold bN
  rw [show shr .i64 n (w64 (7 * 0)) = some (n.fdiv (2 ^ 0)) from rfl,obs,fd n (by decide),show n / 2 ^ 0 = n by simp]; rfl
 have s1:bN n 1 = cond (decide (n / 128 > 127)) (some (.inl 2)) (some (.inr 1)):=by
  unfold bN
  rw [show shr .i64 n (w64 (7 * 1)) = some (n.fdiv (2 ^ 7)) from rfl,obs,fd n (by decide),show (2:Int) ^ 7 = 128 from rfl]; rfl
 have s2:bN n 2 = some (.inr 2):=by
  unfold bN
  rw [show shr .i64 n (w64 (7 * 2)) = some (n.fdiv (2 ^ 14)) from rfl,obs,fd n (by decide),show (2:Int) ^ 14 = 16384 from rfl,dF (by omega)]; rfl
 have t0:∀ o:List Int,cC n 0 o = some (.inr o):=fun o=>rfl
 have t1:∀ o:List Int,o.length ≤ 110 → cC n 1 o = some (.inl (0,o ++ [n / 128 % 128 + 128])):=fun o ho=>by
  unfold cC
  rw [show shr .i64 n (w64 (7 * 1)) = some (n.fdiv (2 ^ 7)) from rfl,obs,fd n (by decide),show (2:Int) ^ 7 = 128 from rfl,band127 (by omega),w64_id (by omega) (by omega),w8,app_small (by simp; omega),obs,show (n / 128 % 128 + 128) % 256 = n / 128 % 128 + 128 by omega]; rfl
 have t2:∀ o:List Int,o.length ≤ 110 → cC n 2 o = some (.inl (1,o ++ [n / 16384 % 128 + 128])):=fun o ho=>by
  unfold cC
  rw [show shr .i64 n (w64 (7 * 2)) = some (n.fdiv (2 ^ 14)) from rfl,obs,fd n (by decide),show (2:Int) ^ 14 = 16384 from rfl,band127 (by omega),w64_id (by omega) (by omega),w8,app_small (by simp; omega),obs,show (n / 16384 % 128 + 128) % 256 = n / 16384 % 128 + 128 by omega]; rfl
 rw [band127 (by omega),w8,show n % 128 % 256 = n % 128 by omega]
 unfold grp
 by_cases h1:n ≤ 127
 · rw [dF (by omega)] at s0
   refine ⟨0,loop_end s0,out,loop_end (t0 out),by omega,?_⟩
   rw [if_pos h1,show n % 128 = n by omega]
 rw [dT (by omega)] at s0
 by_cases h2:n ≤ 16383
 · rw [dF (by omega)] at s1
   refine ⟨1,loop_in s0 (loop_end s1),_,loop_in (t1 out (by omega)) (loop_end (t0 _)),by simp; omega,?_⟩
   rw [if_neg h1,if_pos h2,show n / 128 % 128 = n / 128 by omega]; simp
 rw [dT (by omega)] at s1
 refine ⟨2,loop_in s0 (loop_in s1 (loop_end s2)),_,loop_in (t2 out (by omega)) (loop_in (t1 _ (by simp; omega)) (loop_end (t0 _))),by simp; omega,?_⟩
 rw [if_neg h1,if_neg h2,if_pos (by omega),show n / 16384 % 128 = n / 16384 by omega]; simp
theorem putOid {o:List Int} (hn:o.length ≤ M):∃ v,ak o = some v ∧ (v = true → 1 ≤ o.length ∧ o.length ≤ 10 ∧ ∀ x ∈ o,0 ≤ x ∧ x ≤ 100000) ∧ cD o = some (cond v (oidB o) []):=by
 have hn':o.length ≤ 1048576:=hn
 obtain ⟨v,hv,hv2⟩:∃ v,ak o = some v ∧ (v = true → 1 ≤ o.length ∧ o.length ≤ 10 ∧ ∀ x ∈ o,0 ≤ x ∧ x ≤ 100000):=by
  unfold ak
  obtain ⟨b,h1,h2⟩:=loop_inv (β:=Unit ⊕ Bool) (step:=fun z=>aI o z) (fun k i=>i = (k:Int) ∧ ∀ x ∈ o.take k,0 ≤ x ∧ x ≤ 100000) o.length (fun b=>(b = .inl () ∧ ∀ x ∈ o,0 ≤ x ∧ x ≤ 100000) ∨ b = .inr false)
   (fun k i hk ⟨e,hx⟩=>by
    subst e
    have hs:aI o (k:Int) = cond (!(pIn o[k] 0 100000)) (some (.inr (.inr false))) (some (.inl ((k + 1:Nat):Int))):=by
     unfold aI
     rw [dlt (by omega),cT,at_nat hk,obs,inT,obs,w64_nat (by omega)]
    cases hp:pIn o[k] 0 100000 with
    | false=>exact .inr ⟨_,by rw [hs,hp]; rfl,.inr rfl⟩
    | true =>
     refine .inl ⟨_,by rw [hs,hp]; rfl,rfl,fun x hx'=>?_⟩
     rw [take_add_one,List.getElem?_eq_getElem hk,mem_append] at hx'
     rcases hx' with hx' | hx'
     · exact hx x hx'
     · simp at hx'; subst hx'; exact pIn_true hp)
   (fun i ⟨e,hx⟩=>by
    subst e
    rw [take_length] at hx
    refine ⟨.inl (),?_,.inl ⟨rfl,hx⟩⟩
    unfold aI
    rw [dnlt (by omega),cF]) (x:=0) ⟨rfl,by simp⟩
  rw [h1,obs]
  rcases h2 with ⟨rfl,hx⟩ | rfl
  · simp only [Sum.elim_inl,inT,obs]
    refine ⟨_,rfl,fun h=>?_⟩
    have:=pIn_true h
    exact ⟨by omega,by omega,hx⟩
  · exact ⟨false,rfl,fun h=>by cases h⟩
 refine ⟨v,hv,hv2,?_⟩
 unfold cD
 rw [hv,obs]
 cases v with
 | false=>rfl
 | true =>
  obtain ⟨h1,h10,hx⟩:=hv2 rfl
  obtain ⟨b,e1,rfl⟩:=loop_inv (step:=fun z:Int × List Int=>dt o z.1 z.2) (fun k z=>z = ((k:Int),oidB (o.take k))) o.length (fun b=>b = oidB o)
   (fun k z hk e=>by
    subst e
    left
    have hl:(oidB (o.take k)).length ≤ 30:=by
     have:=oidB_len (o:=o.take k) fun x hx'=>(hx x (mem_of_mem_take hx')).2
     rw [length_take] at this; omega
    obtain ⟨d,d1,e,e1,e2,e3⟩:=grpI (hx _ (getElem_mem hk)) (out:=oidB (o.take k)) (by omega)
    have ht:oidB (o.take (k + 1)) = oidB (o.take k) ++ grp o[k]:=by
     unfold oidB
     rw [take_add_one,List.getElem?_eq_getElem hk,flatMap_append]; simp
    refine ⟨_,?_,rfl⟩
    show dt o (k:Int) (oidB (o.take k)) = _
    unfold dt
    rw [dlt (by omega),cT,at_nat hk,obs,d1,obs,e1,obs,app_small (by simp; omega),obs,w64_nat (by omega),ht,← e3])
   (fun z e=>by
    subst e
    refine ⟨oidB o,?_,rfl⟩
    show dt o (o.length:Int) (oidB (o.take o.length)) = _
    unfold dt
    rw [dnlt (by omega),cF,take_length]) (x:=(0,[])) rfl
  rw [e1]; rfl

theorem grp_byt {n:Int} (h:0 ≤ n ∧ n < 268435456):Byt (grp n):=by
 unfold grp
 intro x hx
 split at hx
 · simp at hx; omega
 · split at hx
   · simp at hx; omega
   · split at hx
     · simp at hx; omega
     · simp at hx; omega
theorem readI {pre rest out:List Int} {n:Int} (hn:0 ≤ n ∧ n ≤ 100000) (hp:pre.length ≤ 30) (ho:out.length ≤ 100) {r:List Int ⊕ (Bool × List Int)}
 (k:loop (fun z:Int × Int × List Int=>ax (pre ++ (grp n ++ rest)) z.1 z.2.1 z.2.2) (0,((pre.length + (grp n).length:Nat):Int),out ++ [n]) = some r) :
 loop (fun z:Int × Int × List Int=>ax (pre ++ (grp n ++ rest)) z.1 z.2.1 z.2.2) (0,(pre.length:Int),out) = some r:=by
 have hg:=grp_byt (n:=n) (by omega)
 have st:∀ (m:Int) (j:Nat) (o:List Int) (hj:j < (grp n).length),0 ≤ m ∧ m ≤ 1048576 → o.length ≤ 100 → ax (pre ++ (grp n ++ rest)) m ((pre.length + j:Nat):Int) o = cond (decide ((grp n)[j] < 128)) (some (.inl (0,((pre.length + (j + 1):Nat):Int),o ++ [m * 128 + (grp n)[j] % 128]))) (some (.inl (m * 128 + (grp n)[j] % 128,((pre.length + (j + 1):Nat):Int),o))):=fun m j o hj hm ho=>by
  have h4:=grp_len n
  have hx:=hg _ (getElem_mem hj)
  have hat:at? (pre ++ (grp n ++ rest)) ((pre.length + j:Nat):Int) = some (grp n)[j]:=by
   rw [at_pre,at_nat (by rw [length_append]; omega),List.getElem_append_left hj]
  unfold ax
  rw [dlt (show ((pre.length + j:Nat):Int) < ((pre ++ (grp n ++ rest)).length:Int) by rw [length_append,length_append]; omega),cT,hat,obs,dF (show ¬ ((pre.length + j:Nat):Int) ≥ 40 by omega),cF,band127' hx,w64_nat (by omega)]
  have hmin:min2 m 1048576 = m:=by unfold min2; split <;> omega
  rw [hmin,bor7 (by omega) (by omega)]
  simp only
  rw [app_small (by simp; omega),obs]; rfl
 have h4:=grp_len n
 have hz:(0:Int) * 128 = 0:=rfl
 unfold grp at k st ⊢
 by_cases h1:n ≤ 127
 · rw [if_pos h1] at k st ⊢
   have s0:=st 0 0 out (by simp) (by omega) ho
   simp only [getElem_cons_zero,Nat.add_zero] at s0
   rw [dT (by omega),cT,show (0:Int) * 128 + n % 128 = n by omega] at s0
   exact loop_in s0 k
 rw [if_neg h1] at k st ⊢
 by_cases h2:n ≤ 16383
 · rw [if_pos h2] at k st ⊢
   have s0:=st 0 0 out (by simp) (by omega) ho
   have s1:=st (n / 128) 1 out (by simp) (by omega) ho
   simp only [getElem_cons_zero,getElem_cons_succ,Nat.add_zero,Nat.zero_add,Nat.reduceAdd] at s0 s1
   rw [dF (by omega),cF,show (0:Int) * 128 + (n / 128 + 128) % 128 = n / 128 by omega] at s0
   rw [dT (by omega),cT,show n / 128 * 128 + n % 128 % 128 = n by omega] at s1
   exact loop_in s0 (loop_in s1 k)
 rw [if_neg h2] at k st ⊢
 rw [if_pos (show n ≤ 2097151 by omega)] at k st ⊢
 have s0:=st 0 0 out (by simp) (by omega) ho
 have s1:=st (n / 16384) 1 out (by simp) (by omega) ho
 have s2:=st (n / 128) 2 out (by simp) (by omega) ho
 simp only [getElem_cons_zero,getElem_cons_succ,Nat.add_zero,Nat.zero_add,Nat.reduceAdd] at s0 s1 s2
 rw [dF (by omega),cF,show (0:Int) * 128 + (n / 16384 + 128) % 128 = n / 16384 by omega] at s0
 rw [dF (by omega),cF,show n / 16384 * 128 + (n / 128 % 128 + 128) % 128 = n / 128 by omega] at s1
 rw [dT (by omega),cT,show n / 128 * 128 + n % 128 % 128 = n by omega] at s2
 exact loop_in s0 (loop_in s1 (loop_in s2 k))
theorem readAllI {b:List Int}:∀ (o pre out:List Int),b = pre ++ oidB o → (∀ x ∈ o,0 ≤ x ∧ x ≤ 100000) → b.length ≤ 30 → out.length + o.length ≤ 20 → loop (fun z:Int × Int × List Int=>ax b z.1 z.2.1 z.2.2) (0,(pre.length:Int),out) = some (.inl (out ++ o))
 | [],pre,out,e,_,hb,_=>by
  have:b.length = pre.length:=by rw [e]; simp [oidB]
  refine loop_end ?_
  show ax b 0 (pre.length:Int) out = _
  unfold ax
  rw [dnlt (by omega),cF,append_nil]
 | n :: o,pre,out,e,hx,hb,hl=>by
  have e1:b = pre ++ (grp n ++ oidB o):=by rw [e]; rfl
  have e2:b = (pre ++ grp n) ++ oidB o:=by rw [e1,append_assoc]
  have ih:=readAllI o (pre ++ grp n) (out ++ [n]) e2 (fun x h=>hx x (mem_cons_of_mem _ h)) hb (by simp at hl ⊢; omega)
  rw [length_append,append_assoc] at ih
  have hpl:pre.length ≤ 30:=by rw [e1,length_append] at hb; omega
  rw [length_cons] at hl
  rw [e1] at ih ⊢
  exact readI (hx n (by simp)) hpl (by omega) ih
theorem readS {b pre s:List Int} (e:b = pre ++ s) (hb:Byt b) (hn:b.length ≤ M):∃ d:Int × Int × Int × Bool,loop (fun z:Int × Int × Int × Bool=>aG b z.1 z.2.1 z.2.2.1 z.2.2.2) ((pre.length:Int),0,0,true) = some d ∧
 (d.2.2.2 = true ∨ ∃ l rest:List Int,s = l ++ rest ∧ 1 ≤ l.length ∧ d = (((pre.length + l.length:Nat):Int),d.2.1,(l.length:Int),false) ∧ 0 ≤ d.2.1 ∧ d.2.1 < 268435456 ∧ ((grp d.2.1).length = l.length → l = grp d.2.1)) ∧ 0 ≤ d.2.1 ∧ d.2.1 < 268435456 ∧ 0 ≤ d.1 ∧ d.1 ≤ (b.length:Int):=by
 have hn':b.length ≤ 1048576:=hn
 have hlen:b.length = pre.length + s.length:=by rw [e,length_append]
 have st:∀ (m:Int) (j:Nat) (hj:j < s.length),j < 4 → 0 ≤ m ∧ m ≤ 2097152 → aG b ((pre.length + j:Nat):Int) m (j:Int) true = some (.inl (((pre.length + (j + 1):Nat):Int),m * 128 + s[j] % 128,((j + 1:Nat):Int),decide (s[j] > 127))):=fun m j hj h4 hm=>by
  have hx:0 ≤ s[j] ∧ s[j] ≤ 255:=hb _ (by rw [e]; exact List.mem_append_right _ (getElem_mem hj))
  have hat:at? b ((pre.length + j:Nat):Int) = some s[j]:=by rw [e,at_pre,at_nat hj]
  unfold aG
  rw [dlt (show ((pre.length + j:Nat):Int) < (b.length:Int) by omega),cT,obs,cT,dlt (show (j:Int) < 4 by omega),obs,cT,hat,obs,obs,band127' hx,bor7 (by omega) (by omega),w64_nat (by omega),w64_nat (by omega)]
  rfl
 have stop:∀ (m:Int) (j:Nat),aG b ((pre.length + j:Nat):Int) m (j:Int) false = some (.inr (((pre.length + j:Nat):Int),m,(j:Int),false)):=fun m j=>by
  unfold aG
  rfl
 have endd:∀ (m:Int) (j:Nat),(s.length ≤ j ∨ 4 ≤ j) → aG b ((pre.length + j:Nat):Int) m (j:Int) true = some (.inr (((pre.length + j:Nat):Int),m,(j:Int),true)):=fun m j h=>by
  unfold aG
  rw [cT,obs]
  by_cases h1:((pre.length + j:Nat):Int) < (b.length:Int)
  · rw [dlt h1,cT,dnlt (show ¬ (j:Int) < 4 by omega)]; rfl
  · rw [dnlt h1,cF]; rfl
 have hsx:∀ j (hj:j < s.length),0 ≤ s[j] ∧ s[j] ≤ 255:=fun j hj=>hb _ (by rw [e]; exact List.mem_append_right _ (getElem_mem hj))
 by_cases l0:s.length ≤ 0
 · exact ⟨_,loop_end (endd 0 0 (.inl l0)),.inl rfl,by show (0:Int) ≤ 0 ∧ (0:Int) < _ ∧ _; omega⟩
 have a0:=st 0 0 (by omega) (by omega) (by omega)
 have x0:=hsx 0 (by omega)
 generalize g0:s[0] = y0 at a0 x0
 by_cases m0:y0 > 127
 · rw [dT m0] at a0
   by_cases l1:s.length ≤ 1
   · exact ⟨_,loop_in a0 (loop_end (endd _ 1 (.inl l1))),.inl rfl,by show 0 ≤ (0:Int) * 128 + y0 % 128 ∧ (0:Int) * 128 + y0 % 128 < _ ∧ (0:Int) ≤ ((pre.length + 1:Nat):Int) ∧ ((pre.length + 1:Nat):Int) ≤ _; omega⟩
   have a1:=st (0 * 128 + y0 % 128) 1 (by omega) (by omega) (by omega)
   have x1:=hsx 1 (by omega)
   generalize g1:s[1] = y1 at a1 x1
   by_cases m1:y1 > 127
   · rw [dT m1] at a1
     by_cases l2:s.length ≤ 2
     · exact ⟨_,loop_in a0 (loop_in a1 (loop_end (endd _ 2 (.inl l2)))),.inl rfl,by show 0 ≤ ((0:Int) * 128 + y0 % 128) * 128 + y1 % 128 ∧ ((0:Int) * 128 + y0 % 128) * 128 + y1 % 128 < _ ∧ (0:Int) ≤ ((pre.length + 2:Nat):Int) ∧ ((pre.length + 2:Nat):Int) ≤ _; omega⟩
     have a2:=st ((0 * 128 + y0 % 128) * 128 + y1 % 128) 2 (by omega) (by omega) (by omega)
     have x2:=hsx 2 (by omega)
     generalize g2:s[2] = y2 at a2 x2
     by_cases m2:y2 > 127
     · rw [dT m2] at a2
       by_cases l3:s.length ≤ 3
       · exact ⟨_,loop_in a0 (loop_in a1 (loop_in a2 (loop_end (endd _ 3 (.inl l3))))),.inl rfl,by show 0 ≤ (((0:Int) * 128 + y0 % 128) * 128 + y1 % 128) * 128 + y2 % 128 ∧ (((0:Int) * 128 + y0 % 128) * 128 + y1 % 128) * 128 + y2 % 128 < _ ∧ (0:Int) ≤ ((pre.length + 3:Nat):Int) ∧ ((pre.length + 3:Nat):Int) ≤ _; omega⟩
       have a3:=st (((0 * 128 + y0 % 128) * 128 + y1 % 128) * 128 + y2 % 128) 3 (by omega) (by omega) (by omega)
       have x3:=hsx 3 (by omega)
       generalize g3:s[3] = y3 at a3 x3
       by_cases m3:y3 > 127
       · rw [dT m3] at a3
         exact ⟨_,loop_in a0 (loop_in a1 (loop_in a2 (loop_in a3 (loop_end (endd _ 4 (.inr (by omega))))))),.inl rfl,by show 0 ≤ ((((0:Int) * 128 + y0 % 128) * 128 + y1 % 128) * 128 + y2 % 128) * 128 + y3 % 128 ∧ ((((0:Int) * 128 + y0 % 128) * 128 + y1 % 128) * 128 + y2 % 128) * 128 + y3 % 128 < _ ∧ (0:Int) ≤ ((pre.length + 4:Nat):Int) ∧ ((pre.length + 4:Nat):Int) ≤ _; omega⟩
       · rw [dF m3] at a3
         have d0:s.drop 0 = s[0] :: s.drop 1:=drop_eq_getElem_cons (by omega)
         have d1:s.drop 1 = s[1] :: s.drop 2:=drop_eq_getElem_cons (by omega)
         have d2:s.drop 2 = s[2] :: s.drop 3:=drop_eq_getElem_cons (by omega)
         have d3:s.drop 3 = s[3] :: s.drop 4:=drop_eq_getElem_cons (by omega)
         have hs:s = y0 :: y1 :: y2 :: y3 :: s.drop 4:=by
          rw [drop_zero] at d0
          exact d0.trans (by rw [g0,d1,g1,d2,g2,d3,g3])
         refine ⟨_,loop_in a0 (loop_in a1 (loop_in a2 (loop_in a3 (loop_end (stop _ 4))))),.inr ⟨[y0,y1,y2,y3],s.drop 4,hs,by simp,rfl,?_,?_,?_⟩,?_⟩
         · show 0 ≤ ((((0:Int) * 128 + y0 % 128) * 128 + y1 % 128) * 128 + y2 % 128) * 128 + y3 % 128; omega
         · show ((((0:Int) * 128 + y0 % 128) * 128 + y1 % 128) * 128 + y2 % 128) * 128 + y3 % 128 < _; omega
         · show (grp (((((0:Int) * 128 + y0 % 128) * 128 + y1 % 128) * 128 + y2 % 128) * 128 + y3 % 128)).length = _ → _ = grp (((((0:Int) * 128 + y0 % 128) * 128 + y1 % 128) * 128 + y2 % 128) * 128 + y3 % 128)
           intro h
           generalize hv:((((0:Int) * 128 + y0 % 128) * 128 + y1 % 128) * 128 + y2 % 128) * 128 + y3 % 128 = v at h ⊢
           unfold grp at h ⊢
           split at h
           · simp at h
           · split at h
             · simp at h
             · split at h
               · simp at h
               · next q1 q2 q3=>rw [if_neg q1,if_neg q2,if_neg q3,show v / 2097152 + 128 = y0 by omega,show v / 16384 % 128 + 128 = y1 by omega,show v / 128 % 128 + 128 = y2 by omega,show v % 128 = y3 by omega]
         · show 0 ≤ ((((0:Int) * 128 + y0 % 128) * 128 + y1 % 128) * 128 + y2 % 128) * 128 + y3 % 128 ∧ ((((0:Int) * 128 + y0 % 128) * 128 + y1 % 128) * 128 + y2 % 128) * 128 + y3 % 128 < _ ∧ (0:Int) ≤ ((pre.length + 4:Nat):Int) ∧ ((pre.length + 4:Nat):Int) ≤ _
           omega
     · rw [dF m2] at a2
       have d0:s.drop 0 = s[0] :: s.drop 1:=drop_eq_getElem_cons (by omega)
       have d1:s.drop 1 = s[1] :: s.drop 2:=drop_eq_getElem_cons (by omega)
       have d2:s.drop 2 = s[2] :: s.drop 3:=drop_eq_getElem_cons (by omega)
       have hs:s = y0 :: y1 :: y2 :: s.drop 3:=by
        rw [drop_zero] at d0
        exact d0.trans (by rw [g0,d1,g1,d2,g2])
       refine ⟨_,loop_in a0 (loop_in a1 (loop_in a2 (loop_end (stop _ 3)))),.inr ⟨[y0,y1,y2],s.drop 3,hs,by simp,rfl,?_,?_,?_⟩,?_⟩
       · show 0 ≤ (((0:Int) * 128 + y0 % 128) * 128 + y1 % 128) * 128 + y2 % 128; omega
       · show (((0:Int) * 128 + y0 % 128) * 128 + y1 % 128) * 128 + y2 % 128 < _; omega
       · show (grp ((((0:Int) * 128 + y0 % 128) * 128 + y1 % 128) * 128 + y2 % 128)).length = _ → _ = grp ((((0:Int) * 128 + y0 % 128) * 128 + y1 % 128) * 128 + y2 % 128)
         intro h
         generalize hv:(((0:Int) * 128 + y0 % 128) * 128 + y1 % 128) * 128 + y2 % 128 = v at h ⊢
         unfold grp at h ⊢
         split at h
         · simp at h
         · split at h
           · simp at h
           · split at h
             · next q1 q2 q3=>rw [if_neg q1,if_neg q2,if_pos q3,show v / 16384 + 128 = y0 by omega,show v / 128 % 128 + 128 = y1 by omega,show v % 128 = y2 by omega]
             · simp at h
       · show 0 ≤ (((0:Int) * 128 + y0 % 128) * 128 + y1 % 128) * 128 + y2 % 128 ∧ (((0:Int) * 128 + y0 % 128) * 128 + y1 % 128) * 128 + y2 % 128 < _ ∧ (0:Int) ≤ ((pre.length + 3:Nat):Int) ∧ ((pre.length + 3:Nat):Int) ≤ _
         omega
   · rw [dF m1] at a1
     have d0:s.drop 0 = s[0] :: s.drop 1:=drop_eq_getElem_cons (by omega)
     have d1:s.drop 1 = s[1] :: s.drop 2:=drop_eq_getElem_cons (by omega)
     have hs:s = y0 :: y1 :: s.drop 2:=by
      rw [drop_zero] at d0
      exact d0.trans (by rw [g0,d1,g1])
     refine ⟨_,loop_in a0 (loop_in a1 (loop_end (stop _ 2))),.inr ⟨[y0,y1],s.drop 2,hs,by simp,rfl,?_,?_,?_⟩,?_⟩
     · show 0 ≤ ((0:Int) * 128 + y0 % 128) * 128 + y1 % 128; omega
     · show ((0:Int) * 128 + y0 % 128) * 128 + y1 % 128 < _; omega
     · show (grp (((0:Int) * 128 + y0 % 128) * 128 + y1 % 128)).length = _ → _ = grp (((0:Int) * 128 + y0 % 128) * 128 + y1 % 128)
       intro h
       generalize hv:((0:Int) * 128 + y0 % 128) * 128 + y1 % 128 = v at h ⊢
       unfold grp at h ⊢
       split at h
       · simp at h
       · split at h
         · next q1 q2=>rw [if_neg q1,if_pos q2,show v / 128 + 128 = y0 by omega,show v % 128 = y1 by omega]
         · split at h <;> simp at h
     · show 0 ≤ ((0:Int) * 128 + y0 % 128) * 128 + y1 % 128 ∧ ((0:Int) * 128 + y0 % 128) * 128 + y1 % 128 < _ ∧ (0:Int) ≤ ((pre.length + 2:Nat):Int) ∧ ((pre.length + 2:Nat):Int) ≤ _
       omega
 · rw [dF m0] at a0
   have d0:s.drop 0 = s[0] :: s.drop 1:=drop_eq_getElem_cons (by omega)
   have hs:s = y0 :: s.drop 1:=by
    rw [drop_zero] at d0
    exact d0.trans (by rw [g0])
   refine ⟨_,loop_in a0 (loop_end (stop _ 1)),.inr ⟨[y0],s.drop 1,hs,by simp,rfl,?_,?_,?_⟩,?_⟩
   · show 0 ≤ (0:Int) * 128 + y0 % 128; omega
   · show (0:Int) * 128 + y0 % 128 < _; omega
   · show (grp ((0:Int) * 128 + y0 % 128)).length = _ → _ = grp ((0:Int) * 128 + y0 % 128)
     intro h
     generalize hv:(0:Int) * 128 + y0 % 128 = v at h ⊢
     unfold grp at h ⊢
     split at h
     · next q1=>rw [if_pos q1,show v = y0 by omega]
     · split at h
       · simp at h
       · split at h <;> simp at h
   · show 0 ≤ (0:Int) * 128 + y0 % 128 ∧ (0:Int) * 128 + y0 % 128 < _ ∧ (0:Int) ≤ ((pre.length + 1:Nat):Int) ∧ ((pre.length + 1:Nat):Int) ≤ _
     omega

def OidR (o:List Int):Prop:=1 ≤ o.length ∧ o.length ≤ 10 ∧ ∀ x ∈ o,0 ≤ x ∧ x ≤ 100000
theorem readG {pre rest:List Int} {n:Int} (hn:0 ≤ n ∧ n ≤ 100000) (hp:pre.length ≤ 1000):loop (fun z:Int × Int × Int × Bool=>aG (pre ++ (grp n ++ rest)) z.1 z.2.1 z.2.2.1 z.2.2.2) ((pre.length:Int),0,0,true) = some (((pre.length + (grp n).length:Nat):Int),n,((grp n).length:Int),false):=by
 have hg:=grp_byt (n:=n) (by omega)
 have st:∀ (m:Int) (j:Nat) (hj:j < (grp n).length),j < 4 → 0 ≤ m ∧ m ≤ 2097152 → aG (pre ++ (grp n ++ rest)) ((pre.length + j:Nat):Int) m (j:Int) true = some (.inl (((pre.length + (j + 1):Nat):Int),m * 128 + (grp n)[j] % 128,((j + 1:Nat):Int),decide ((grp n)[j] > 127))):=fun m j hj h4 hm=>by
  have hx:=hg _ (getElem_mem hj)
  have hat:at? (pre ++ (grp n ++ rest)) ((pre.length + j:Nat):Int) = some (grp n)[j]:=by rw [at_pre,at_nat (by rw [length_append]; omega),List.getElem_append_left hj]
  unfold aG
  rw [dlt (show ((pre.length + j:Nat):Int) < ((pre ++ (grp n ++ rest)).length:Int) by rw [length_append,length_append]; omega),cT,obs,cT,dlt (show (j:Int) < 4 by omega),obs,cT,hat,obs,obs,band127' hx,bor7 (by omega) (by omega),w64_nat (by omega),w64_nat (by omega)]
  rfl
 have stop:∀ (m:Int) (j:Nat),aG (pre ++ (grp n ++ rest)) ((pre.length + j:Nat):Int) m (j:Int) false = some (.inr (((pre.length + j:Nat):Int),m,(j:Int),false)):=fun m j=>by
  unfold aG
  rfl
 unfold grp at st stop ⊢
 by_cases h1:n ≤ 127
 · rw [if_pos h1] at st stop ⊢
   have s0:=st 0 0 (by simp) (by omega) (by omega)
   simp only [getElem_cons_zero] at s0
   rw [dF (by omega),show (0:Int) * 128 + n % 128 = n by omega] at s0
   exact loop_in s0 (loop_end (stop n 1))
 rw [if_neg h1] at st stop ⊢
 by_cases h2:n ≤ 16383
 · rw [if_pos h2] at st stop ⊢
   have s0:=st 0 0 (by simp) (by omega) (by omega)
   have s1:=st (n / 128) 1 (by simp) (by omega) (by omega)
   simp only [getElem_cons_zero,getElem_cons_succ] at s0 s1
   rw [dT (by omega),show (0:Int) * 128 + (n / 128 + 128) % 128 = n / 128 by omega] at s0
   rw [dF (by omega),show n / 128 * 128 + n % 128 % 128 = n by omega] at s1
   exact loop_in s0 (loop_in s1 (loop_end (stop n 2)))
 rw [if_neg h2] at st stop ⊢
 rw [if_pos (show n ≤ 2097151 by omega)] at st stop ⊢
 have s0:=st 0 0 (by simp) (by omega) (by omega)
 have s1:=st (n / 16384) 1 (by simp) (by omega) (by omega)
 have s2:=st (n / 128) 2 (by simp) (by omega) (by omega)
 simp only [getElem_cons_zero,getElem_cons_succ] at s0 s1 s2
 rw [dT (by omega),show (0:Int) * 128 + (n / 16384 + 128) % 128 = n / 16384 by omega] at s0
 rw [dT (by omega),show n / 16384 * 128 + (n / 128 % 128 + 128) % 128 = n / 128 by omega] at s1
 rw [dF (by omega),show n / 128 * 128 + n % 128 % 128 = n by omega] at s2
 exact loop_in s0 (loop_in s1 (loop_in s2 (loop_end (stop n 3))))
theorem readAllS {b:List Int}:∀ (o pre out:List Int),b = pre ++ oidB o → (∀ x ∈ o,0 ≤ x ∧ x ≤ 100000) → b.length ≤ 30 → out.length + o.length ≤ 10 → loop (fun z:Int × List Int=>ar b z.1 z.2) ((pre.length:Int),out) = some (.inl ((b.length:Int),out ++ o))
 | [],pre,out,e,_,hb,_=>by
  have hbl:b.length = pre.length:=by rw [e]; simp [oidB]
  refine loop_end ?_
  show ar b (pre.length:Int) out = _
  unfold ar
  rw [dnlt (by omega),cF,obs,cF,append_nil,hbl]
 | n :: o,pre,out,e,hx,hb,hl=>by
  have e1:b = pre ++ (grp n ++ oidB o):=by rw [e]; rfl
  have e2:b = (pre ++ grp n) ++ oidB o:=by rw [e1,append_assoc]
  rw [length_cons] at hl
  have ih:=readAllS o (pre ++ grp n) (out ++ [n]) e2 (fun x h=>hx x (mem_cons_of_mem _ h)) hb (by simp; omega)
  rw [length_append,append_assoc] at ih
  have hpl:pre.length ≤ 30:=by rw [e1,length_append] at hb; omega
  have hg1:=grp_pos n
  have hbl:b.length = pre.length + (grp n).length + (oidB o).length:=by rw [e2,length_append,length_append]
  have hr:=readG (pre:=pre) (rest:=oidB o) (hx n (by simp)) (by omega)
  rw [← e1] at hr
  refine loop_in ?_ ih
  show ar b (pre.length:Int) out = _
  unfold ar
  rw [dlt (show (pre.length:Int) < (b.length:Int) by omega),cT,dT (show (out.length:Int) ≤ 10 by omega),obs,cT,hr,obs]
  have hx':=hx n (by simp)
  simp only [cF]
  rw [grpS (by omega),obs,obs]
  simp only [bne_self_eq_false,cF]
  rw [app_small (by simp; omega),obs]
theorem oidB_app (a:List Int) (n:Int):oidB (a ++ [n]) = oidB a ++ grp n:=by unfold oidB; rw [flatMap_append]; simp
theorem soundS {b:List Int} (hb:Byt b) (hn:b.length ≤ M):∃ v,loop (fun z:Int × List Int=>ar b z.1 z.2) (0,[]) = some v ∧ (v = .inr (false,[]) ∨ ∃ out s,v = .inl (((oidB out).length:Int),out) ∧ b = oidB out ++ s ∧ out.length ≤ 11):=by
 have hn':b.length ≤ 1048576:=hn
 exact loop_inv (step:=fun z:Int × List Int=>ar b z.1 z.2) (fun k z=>z.2.length = k ∧ z.1 = ((oidB z.2).length:Int) ∧ ∃ s,b = oidB z.2 ++ s) 11 (fun v=>v = .inr (false,[]) ∨ ∃ out s,v = .inl (((oidB out).length:Int),out) ∧ b = oidB out ++ s ∧ out.length ≤ 11)
  (fun k z hk ⟨z1,z2,s,z3⟩=>by
   obtain ⟨i,out⟩:=z
   simp only at z1 z2 z3
   subst z2
   have hbl:b.length = (oidB out).length + s.length:=by rw [← length_append,← z3]
   by_cases hlt:((oidB out).length:Int) < (b.length:Int)
   · obtain ⟨d,d1,d2,d3,d4,d5,d6⟩:=readS z3 hb hn
     have hs:ar b ((oidB out).length:Int) out = (cond d.2.2.2 (some true) ((dM d.2.1).bind fun t51=>some ((t51.length:Int) != d.2.2.1))).bind fun t55=>cond t55 (some (.inr (.inr (false,([]:List Int))))) ((app out [d.2.1]).bind fun zs60=>some (.inl (d.1,zs60))):=by
      unfold ar
      rw [dlt hlt,cT,dT (show (out.length:Int) ≤ 10 by omega),obs,cT,d1,obs]
     show (∃ y,ar b ((oidB out).length:Int) out = some (.inl y) ∧ _) ∨ ∃ v,ar b ((oidB out).length:Int) out = some (.inr v) ∧ _
     rw [hs]
     rcases d2 with d2 | ⟨l,rest,q1,q2,q3,q4,q5,q6⟩
     · rw [d2]
       exact .inr ⟨_,rfl,.inl rfl⟩
     · have qb:d.2.2.2 = false:=by rw [q3]
       have ql:d.2.2.1 = (l.length:Int):=by rw [q3]
       have qa:d.1 = (((oidB out).length + l.length:Nat):Int):=by rw [q3]
       rw [qb,cF,grpS ⟨q4,q5⟩,obs,obs,ql]
       cases hne:(((grp d.2.1).length:Int) != (l.length:Int)) with
       | true=>exact .inr ⟨_,rfl,.inl rfl⟩
       | false =>
        have he:((grp d.2.1).length:Int) = (l.length:Int):=by simpa using hne
        have hl:=q6 (by omega)
        refine .inl ⟨_,by rw [cF,app_small (by simp; omega),obs],by simp; omega,?_,rest,?_⟩
        · show d.1 = ((oidB (out ++ [d.2.1])).length:Int)
          rw [oidB_app,length_append,qa,← hl]
        · show b = oidB (out ++ [d.2.1]) ++ rest
          rw [oidB_app,← hl,append_assoc,← q1]; exact z3
   · refine .inr ⟨.inl (((oidB out).length:Int),out),?_,.inr ⟨out,s,rfl,z3,by omega⟩⟩
     show ar b ((oidB out).length:Int) out = _
     unfold ar
     rw [dnlt hlt]; rfl)
  (fun z ⟨z1,z2,s,z3⟩=>by
   obtain ⟨i,out⟩:=z
   simp only at z1 z2 z3
   subst z2
   refine ⟨.inl (((oidB out).length:Int),out),?_,.inr ⟨out,s,rfl,z3,by omega⟩⟩
   show ar b ((oidB out).length:Int) out = _
   unfold ar
   by_cases hlt:((oidB out).length:Int) < (b.length:Int)
   · rw [dlt hlt,cT,dF (by omega)]; rfl
   · rw [dnlt hlt]; rfl) (x:=(0,[])) ⟨rfl,rfl,b,rfl⟩
theorem bytes_inj:∀ {a b:List Int},Byt a → Byt b → bytesOf a = bytesOf b → a = b
 | [],[],_,_,_=>rfl
 | [],_ :: _,_,_,h=>by simp [bytesOf] at h
 | _ :: _,[],_,_,h=>by simp [bytesOf] at h
 | x :: a,y :: b,ha,hb,h=>by
  unfold bytesOf at h
  rw [map_cons,map_cons,List.cons.injEq] at h
  have hx:=ha x (by simp)
  have hy:=hb y (by simp)
  have h1:=congrArg UInt8.toNat h.1
  rw [UInt8.toNat_ofNat_of_lt' (by show x.toNat < 256; omega),UInt8.toNat_ofNat_of_lt' (by show y.toNat < 256; omega)] at h1
  rw [bytes_inj (fun z hz=>ha z (mem_cons_of_mem _ hz)) (fun z hz=>hb z (mem_cons_of_mem _ hz)) h.2,show x = y by omega]
theorem oidB_byt {o:List Int} (h:∀ x ∈ o,0 ≤ x ∧ x ≤ 100000):Byt (oidB o):=by
 intro x hx
 obtain ⟨n,hn,hx⟩:=List.mem_flatMap.1 hx
 have:=h n hn
 exact grp_byt (by omega) x hx
theorem oidB_pos {o:List Int} (h:1 ≤ o.length):1 ≤ (oidB o).length:=by
 cases o with
 | nil=>simp at h
 | cons n o =>
  have:=grp_pos n
  unfold oidB
  rw [List.flatMap_cons,length_append]; omega
theorem totalI {b:List Int} (hb:Byt b) (hn:b.length ≤ M):∃ v,loop (fun z:Int × Int × List Int=>ax b z.1 z.2.1 z.2.2) (0,0,[]) = some v ∧ (v = .inr (false,[]) ∨ ∃ out,v = .inl out ∧ out.length ≤ M):=by
 have hn':b.length ≤ 1048576:=hn
 exact loop_inv (step:=fun z:Int × Int × List Int=>ax b z.1 z.2.1 z.2.2) (fun k z=>z.2.1 = (k:Int) ∧ 0 ≤ z.1 ∧ z.2.2.length ≤ k) b.length (fun v=>v = .inr (false,[]) ∨ ∃ out,v = .inl out ∧ out.length ≤ M)
  (fun k z hk ⟨z1,z2,z3⟩=>by
   obtain ⟨n,i,out⟩:=z
   simp only at z1 z2 z3
   subst z1
   have hx:=hb _ (getElem_mem hk)
   have hm:0 ≤ min2 n 1048576 ∧ min2 n 1048576 ≤ 1048576:=by unfold min2; split <;> omega
   show (∃ y,ax b n (k:Int) out = some (.inl y) ∧ _) ∨ ∃ v,ax b n (k:Int) out = some (.inr v) ∧ _
   unfold ax
   rw [dlt (by omega),cT,at_nat hk,obs]
   by_cases h40:(k:Int) ≥ 40
   · rw [dT h40]
     exact .inr ⟨_,rfl,.inl rfl⟩
   rw [dF h40,cF,band127' hx,bor7 (by omega) (by omega),w64_nat (by omega)]
   simp only
   by_cases h:b[k] < 128
   · rw [dT h,cT,app_small (by simp; omega),obs]
     exact .inl ⟨_,rfl,rfl,by show (0:Int) ≤ 0; omega,by simp; omega⟩
   · rw [dF h,cF]
     exact .inl ⟨_,rfl,rfl,by show 0 ≤ min2 n 1048576 * 128 + b[k] % 128; omega,by show out.length ≤ k + 1; omega⟩)
  (fun z ⟨z1,z2,z3⟩=>by
   obtain ⟨n,i,out⟩:=z
   simp only at z1 z2 z3
   subst z1
   refine ⟨.inl out,?_,.inr ⟨out,rfl,by show _ ≤ 1048576; omega⟩⟩
   show ax b n (b.length:Int) out = _
   unfold ax
   rw [dnlt (by omega),cF]) (x:=(0,0,[])) ⟨rfl,by show (0:Int) ≤ 0; omega,by simp⟩

theorem oidR_of {o:List Int} (h:pOid o = true):OidR o:=by
 unfold pOid at h
 rw [aT,Bool.not_eq_true'] at h
 have h1:=pIn_true h.2
 refine ⟨by omega,by omega,fun x hx=>?_⟩
 obtain ⟨k,hk,rfl⟩:=getElem_of_mem hx
 have:=any_eq_false.1 h.1 k (mem_range.2 hk)
 unfold bOid at this
 simp only [List.getElem?_eq_getElem hk] at this
 cases hp:pIn o[k] 0 100000 with
 | true=>exact pIn_true hp
 | false=>rw [hp] at this; exact absurd rfl this
theorem putOidX {o:List Int} (hn:o.length ≤ M):cD o = some (cond (pOid o) (oidB o) []):=by
 obtain ⟨v,h1,h2,h3⟩:=putOid hn
 rw [oidT (by have:o.length ≤ 1048576:=hn; omega)] at h1
 cases h1; exact h3
theorem getOid {b:List Int} (hb:Byt b) (hn:b.length ≤ M):∃ r,bO b = some r ∧ ch b = some r ∧ (r = ([],false) ∨ ∃ o,r = (o,true) ∧ b = oidB o ∧ pOid o = true):=by
 have hn':b.length ≤ 1048576:=hn
 -- what was written is read, by both
 have both:∀ o,pOid o = true → b = oidB o → bO b = some (o,true) ∧ ch b = some (o,true):=by
  intro o ho e
  obtain ⟨o1,o2,o3⟩:=oidR_of ho
  have hbl:b.length ≤ 30:=by rw [e]; have:=oidB_len (o:=o) fun x hx=>(o3 x hx).2; omega
  have hpos:=oidB_pos o1
  constructor
  · unfold bO
    have:=readAllI (b:=b) o [] [] (by rw [e]; rfl) o3 hbl (by simp; omega)
    simp only [List.length_nil,Int.natCast_zero,nil_append] at this
    have this':loop (fun z:Int × Int × List Int=>ax b z.1 z.2.1 z.2.2) (0,0,[]) = some (.inl o):=this
    rw [this',obs,Sum.elim_inl,putOidX (by show _ ≤ 1048576; omega),obs,ho,cT,← e,beq_eq_false_iff_ne.2 (show ((b.length:Int)) ≠ 0 by rw [e]; omega),cF,beq_self_eq_true]; rfl
  · unfold ch
    have:=readAllS (b:=b) o [] [] (by rw [e]; rfl) o3 hbl (by simp; omega)
    simp only [List.length_nil,nil_append] at this
    have this':loop (fun z:Int × List Int=>ar b z.1 z.2) (0,[]) = some (.inl ((b.length:Int),o)):=this
    rw [this',obs,Sum.elim_inl]
    simp only [bne_self_eq_false,cF]
    rw [oidS,oidT (by omega),obs,ho]; rfl
 obtain ⟨v,v1,v2⟩:=soundS hb hn
 have sp:ch b = some ([],false) ∨ ∃ o,pOid o = true ∧ b = oidB o:=by
  unfold ch
  rw [v1,obs]
  rcases v2 with rfl | ⟨out,s,rfl,q1,q2⟩
  · exact .inl rfl
  · simp only [Sum.elim_inl]
    cases hne:(((oidB out).length:Int) != (b.length:Int)) with
    | true=>exact .inl rfl
    | false =>
     rw [cF,oidS,oidT (by omega),obs]
     cases ho:pOid out with
     | false=>exact .inl rfl
     | true =>
      have he:((oidB out).length:Int) = (b.length:Int):=by simpa using hne
      have:s = []:=by
       have:=congrArg List.length q1
       rw [length_append] at this
       exact length_eq_zero_iff.1 (by omega)
      subst this
      exact .inr ⟨out,ho,by rw [q1,append_nil]⟩
 rcases sp with sp | ⟨o,ho,e⟩
 · obtain ⟨u,u1,u2⟩:=totalI hb hn
   have im:bO b = some ([],false) ∨ ∃ o,pOid o = true ∧ b = oidB o:=by
    unfold bO
    rw [u1,obs]
    rcases u2 with rfl | ⟨out,rfl,hl⟩
    · exact .inl rfl
    · rw [Sum.elim_inl,putOidX hl,obs]
      cases ho:pOid out with
      | false=>exact .inl rfl
      | true =>
       obtain ⟨o1,o2,o3⟩:=oidR_of ho
       have hpos:=oidB_pos o1
       rw [cT,beq_eq_false_iff_ne.2 (show (((oidB out).length:Int)) ≠ 0 by omega),cF]
       cases hq:(bytesOf (oidB out) == bytesOf b) with
       | false=>exact .inl rfl
       | true=>exact .inr ⟨out,ho,(bytes_inj (oidB_byt o3) hb (eq_of_beq hq)).symm⟩
   rcases im with im | ⟨o,ho,e⟩
   · exact ⟨_,im,sp,.inl rfl⟩
   · obtain ⟨b1,b2⟩:=both o ho e
     exact ⟨_,b1,b2,.inr ⟨o,rfl,e,ho⟩⟩
 · obtain ⟨b1,b2⟩:=both o ho e
   exact ⟨_,b1,b2,.inr ⟨o,rfl,e,ho⟩⟩

theorem ints_bytes:∀ {b:List Int},Byt b → intsOf (bytesOf b) = b
 | [],_=>rfl
 | x :: b,h=>by
  have hx:=h x (by simp)
  have ih:=ints_bytes (b:=b) fun y hy=>h y (mem_cons_of_mem _ hy)
  unfold intsOf bytesOf at ih ⊢
  rw [map_cons,map_cons,ih]
  congr 1
  show ((UInt8.ofNat x.toNat).toNat:Int) = x
  rw [UInt8.toNat_ofNat_of_lt' (by show x.toNat < 256; omega)]
  omega
def valB (v:Val):List Int:=cond (v.1 == 2) (intB v.2.1) (cond (v.1 == 4) (intsOf v.2.2.1) (cond (v.1 == 6) (oidB v.2.2.2) []))
theorem oid_len {o:List Int} (h:pOid o = true):o.length ≤ 10:=(oidR_of h).2.1
theorem getVal {b:List Int} (hb:Byt b) (hn:b.length ≤ M) {i:Int} (hi:-9223372036854775808 ≤ i ∧ i ≤ 9223372036854775807):∃ r,fK b i = some r ∧ gD b i = some r ∧ (r = ((0,0,[],[]),0,false) ∨ ∃ v next,r = (v,next,true) ∧ pVal v = true ∧ Part b i v.1 (valB v) next):=by
 have hM:M = 1048576:=rfl
 obtain ⟨r,r1,r2,r3⟩:=getTlv hb hn hi
 unfold fK gD
 rw [r1,r2,obs,obs]
 have hrl:r.2.1.length ≤ 250 ∧ Byt r.2.1:=by
  rcases r3 with rfl | ⟨t,body,next,rfl,h⟩
  · exact ⟨by simp,fun x hx=>by simp at hx⟩
  · exact ⟨h.n,h.b⟩
 have hlM:r.2.1.length ≤ M:=by omega
 rcases r3 with rfl | ⟨t,body,next,rfl,h⟩
 · exact ⟨_,rfl,rfl,.inl rfl⟩
 simp only at hrl hlM
 simp only [Bool.not_true,cF]
 by_cases t2:t = 2
 · subst t2
   obtain ⟨g,g1,g2,g3⟩:=getInt hrl.2 hlM
   simp only [show ((2:Int) == 2) = true from rfl,cT,g1,g2,obs]
   rcases g3 with rfl | ⟨n,rfl,q1,q2,q3⟩
   · exact ⟨_,rfl,rfl,.inl rfl⟩
   · simp only [Bool.not_true,cF,obs,valT (v:=(2,n,[],[])) (by simp),valS (v:=(2,n,[],[])) (by simp)]
     cases hv:pVal (2,n,[],[]) with
     | false=>exact ⟨_,rfl,rfl,.inl rfl⟩
     | true=>exact ⟨_,rfl,rfl,.inr ⟨_,_,rfl,hv,by have:valB (2,n,[],[]) = body:=q1.symm; rw [this]; exact h⟩⟩
 rw [beq_eq_false_iff_ne.2 t2]
 simp only [cF]
 by_cases t4:t = 4
 · subst t4
   simp only [show ((4:Int) == 4) = true from rfl,cT,Bool.not_true,obs,cF,valT (v:=(4,0,bytesOf body,[])) (by simp),valS (v:=(4,0,bytesOf body,[])) (by simp)]
   cases hv:pVal (4,0,bytesOf body,[]) with
   | false=>exact ⟨_,rfl,rfl,.inl rfl⟩
   | true=>exact ⟨_,rfl,rfl,.inr ⟨_,_,rfl,hv,by have:valB (4,0,bytesOf body,[]) = body:=ints_bytes h.b; rw [this]; exact h⟩⟩
 rw [beq_eq_false_iff_ne.2 t4]
 simp only [cF]
 by_cases t6:t = 6
 · subst t6
   obtain ⟨g,g1,g2,g3⟩:=getOid hrl.2 hlM
   simp only [show ((6:Int) == 6) = true from rfl,cT,g1,g2,obs]
   rcases g3 with rfl | ⟨o,rfl,q1,q2⟩
   · exact ⟨_,rfl,rfl,.inl rfl⟩
   · have ol:=oid_len q2
     simp only [Bool.not_true,cF,obs,valT (v:=(6,0,[],o)) (by show o.length ≤ M; omega),valS (v:=(6,0,[],o)) (by show o.length ≤ M; omega)]
     cases hv:pVal (6,0,[],o) with
     | false=>exact ⟨_,rfl,rfl,.inl rfl⟩
     | true=>exact ⟨_,rfl,rfl,.inr ⟨_,_,rfl,hv,by have:valB (6,0,[],o) = body:=q1.symm; rw [this]; exact h⟩⟩
 rw [beq_eq_false_iff_ne.2 t6]
 simp only [cF]
 cases hz:((body.length:Int) == 0) with
 | false=>exact ⟨_,rfl,rfl,.inl rfl⟩
 | true =>
  have hb0:body = []:=length_eq_zero_iff.1 (by have:(body.length:Int) = 0:=eq_of_beq hz; omega)
  simp only [Bool.not_true,cF,obs,valT (v:=(t,0,[],[])) (by simp),valS (v:=(t,0,[],[])) (by simp)]
  cases hv:pVal (t,0,[],[]) with
  | false=>exact ⟨_,rfl,rfl,.inl rfl⟩
  | true =>
   refine ⟨_,rfl,rfl,.inr ⟨_,_,rfl,hv,?_⟩⟩
   have:valB (t,0,[],[]) = body:=by
    unfold valB
    simp only [beq_eq_false_iff_ne.2 t2,beq_eq_false_iff_ne.2 t4,beq_eq_false_iff_ne.2 t6,cF]
    exact hb0.symm
   rw [this]; exact h
theorem partX {r:L4Reader} (hb:Byt r.1) (hn:r.1.length ≤ M) (hi:-9223372036854775808 ≤ r.2.1 ∧ r.2.1 ≤ 9223372036854775807) (tag:Int):∃ d,bv r tag = some d ∧ bJ r tag = some d ∧ d.1.1 = r.1 ∧ (d.1.2.2 = true → d.2 = []) ∧ (r.2.2 = true → d.1.2.2 = true) ∧ (d.1.2.2 = false → r.2.2 = false ∧ Part r.1 r.2.1 tag d.2 d.1.2.1) ∧ (d.1.2.2 = true → d.1.2.1 = r.2.1):=by
 obtain ⟨g,g1,g2,g3⟩:=getTlv hb hn hi
 unfold bv bJ
 rw [g1,g2,obs]
 rcases g3 with rfl | ⟨t,body,next,rfl,h⟩
 · cases hr:r.2.2 with
   | true=>exact ⟨_,rfl,rfl,rfl,fun _=>rfl,fun _=>rfl,fun e=>(by cases e),fun _=>rfl⟩
   | false=>exact ⟨_,rfl,rfl,rfl,fun _=>rfl,fun _=>rfl,fun e=>(by cases e),fun _=>rfl⟩
 · cases hr:r.2.2 with
   | true=>exact ⟨_,rfl,rfl,rfl,fun _=>rfl,fun _=>rfl,fun e=>(by cases e),fun _=>rfl⟩
   | false =>
    simp only [cF,Bool.not_true,obs]
    cases ht:(t != tag) with
    | true=>exact ⟨_,rfl,rfl,rfl,fun _=>rfl,fun _=>rfl,fun e=>(by cases e),fun _=>rfl⟩
    | false =>
     have:t = tag:=by simpa using ht
     subst this
     exact ⟨_,rfl,rfl,rfl,fun e=>(by cases e),fun e=>(by cases e),fun _=>⟨by first | rfl | trivial,h⟩,fun e=>(by cases e)⟩

structure RdOk (r:L4Reader):Prop where
 b:Byt r.1
 n:r.1.length ≤ M
 lo:0 ≤ r.2.1
 hi:r.2.1 ≤ (r.1.length:Int)
theorem Part.next {b:List Int} {i t:Int} {body:List Int} {next:Int} (h:Part b i t body next):0 ≤ next ∧ next ≤ (b.length:Int):=by
 obtain ⟨pre,rest,e1,e2,e3⟩:=h.ex
 have:=congrArg List.length e1
 rw [length_append,length_append] at this
 omega
theorem RdOk.rg {r:L4Reader} (h:RdOk r):-9223372036854775808 ≤ r.2.1 ∧ r.2.1 ≤ 9223372036854775807:=by
 have h1:=h.lo; have h2:=h.hi
 have h3:r.1.length ≤ 1048576:=h.n
 omega
theorem byt_nil:Byt []:=fun x hx=>by simp at hx
theorem partY {r:L4Reader} (h:RdOk r) (tag:Int):∃ d,bv r tag = some d ∧ bJ r tag = some d ∧ RdOk d.1 ∧ d.1.1 = r.1 ∧ Byt d.2 ∧ d.2.length ≤ 250 ∧ (d.1.2.2 = true → d.2 = []) ∧ (r.2.2 = true → d.1.2.2 = true) ∧ (d.1.2.2 = false → r.2.2 = false ∧ Part r.1 r.2.1 tag d.2 d.1.2.1):=by
 obtain ⟨d,d1,d2,d3,d4,d5,d6,d7⟩:=partX h.b h.n h.rg tag
 refine ⟨d,d1,d2,?_,d3,?_,?_,d4,d5,d6⟩
 · cases hb:d.1.2.2 with
   | true=>exact ⟨by rw [d3]; exact h.b,by rw [d3]; exact h.n,by rw [d7 hb]; exact h.lo,by rw [d7 hb,d3]; exact h.hi⟩
   | false =>
    have:=(d6 hb).2.next
    exact ⟨by rw [d3]; exact h.b,by rw [d3]; exact h.n,this.1,by rw [d3]; exact this.2⟩
 · cases hb:d.1.2.2 with
   | true=>rw [d4 hb]; exact byt_nil
   | false=>exact (d6 hb).2.b
 · cases hb:d.1.2.2 with
   | true=>rw [d4 hb]; simp
   | false=>exact (d6 hb).2.n
theorem numX {r:L4Reader} (h:RdOk r):∃ d,cA r 2 = some d ∧ cY r = some d ∧ RdOk d.1 ∧ d.1.1 = r.1 ∧ (r.2.2 = true → d.1.2.2 = true) ∧ (d.1.2.2 = false → r.2.2 = false ∧ Part r.1 r.2.1 2 (intB d.2) d.1.2.1 ∧ -2147483648 ≤ d.2 ∧ d.2 ≤ 2147483647):=by
 obtain ⟨d,d1,d2,d3,d4,d5,d6,d7,d8,d9⟩:=partY h 2
 have hM:M = 1048576:=rfl
 obtain ⟨g,g1,g2,g3⟩:=getInt d5 (by omega)
 unfold cA cY
 rw [d1,d2,obs,obs,g1,g2,obs]
 cases hb:d.1.2.2 with
 | true =>
  refine ⟨_,rfl,rfl,⟨d3.b,d3.n,d3.lo,d3.hi⟩,d4,fun _=>rfl,fun e=>(by cases e)⟩
 | false =>
  obtain ⟨q1,q2⟩:=d9 hb
  rcases g3 with rfl | ⟨n,rfl,e,n1,n2⟩
  · exact ⟨_,rfl,rfl,⟨d3.b,d3.n,d3.lo,d3.hi⟩,d4,fun _=>rfl,fun e=>(by cases e)⟩
  · refine ⟨_,rfl,rfl,⟨d3.b,d3.n,d3.lo,d3.hi⟩,d4,fun e=>?_,fun _=>⟨q1,?_,n1,n2⟩⟩
    · rw [q1] at e; cases e
    · rw [← e]; exact q2
theorem bindX {b:List Int} (hb:Byt b) (hn:b.length ≤ M):∃ r,fL b = some r ∧ gE b = some r ∧ (r = (([],0,0,[],[]),false) ∨ ∃ x,r = (x,true) ∧ xOk x = true ∧ b = tlvL 6 (oidB x.1) ++ tlvL x.2.1 (valB x.2)):=by
 have hM:M = 1048576:=rfl
 have h0:RdOk (b,0,false):=⟨hb,hn,by show (0:Int) ≤ 0; omega,by show (0:Int) ≤ (b.length:Int); omega⟩
 obtain ⟨d,d1,d2,d3,d4,d5,d6,d7,d8,d9⟩:=partY h0 6
 obtain ⟨g,g1,g2,g3⟩:=getOid d5 (by omega)
 obtain ⟨v,v1,v2,v3⟩:=getVal hb hn d3.rg
 unfold fL gE
 simp only [d1,d2,g1,g2,v1,v2,obs]
 cases hbad:d.1.2.2 with
 | true=>exact ⟨_,rfl,rfl,.inl rfl⟩
 | false =>
  simp only [cF,obs]
  obtain ⟨_,hp⟩:=d9 hbad
  rcases g3 with rfl | ⟨o,rfl,go,ho⟩
  · exact ⟨_,rfl,rfl,.inl rfl⟩
  simp only [Bool.not_true,cF,obs]
  rcases v3 with rfl | ⟨w,next,rfl,hw,hp2⟩
  · exact ⟨_,rfl,rfl,.inl rfl⟩
  simp only [Bool.not_true,cF,obs]
  cases hne:(next != (b.length:Int)) with
  | true=>exact ⟨_,rfl,rfl,.inl rfl⟩
  | false =>
   have hnx:next = (b.length:Int):=by simpa using hne
   refine ⟨_,rfl,rfl,.inr ⟨(o,w),rfl,by unfold xOk; rw [ho,hw]; rfl,?_⟩⟩
   obtain ⟨p1,r1,e1,e2,e3⟩:=hp.ex
   obtain ⟨p2,r2,f1,f2,f3⟩:=hp2.ex
   have hp1:p1 = []:=by
    have e2':(0:Int) = (p1.length:Int):=e2
    exact length_eq_zero_iff.1 (by omega)
   subst hp1
   have e1':b = tlvL 6 d.2 ++ r1:=by simpa using e1
   have hl:p2.length = (tlvL 6 d.2).length:=by
    rw [e3] at f2
    simp at f2; omega
   obtain ⟨q1,q2⟩:=List.append_inj (f1.symm.trans e1') hl
   have hr2:r2 = []:=by
    have:=congrArg List.length f1
    rw [length_append,length_append] at this
    exact length_eq_zero_iff.1 (by omega)
   show b = tlvL 6 (oidB o) ++ tlvL w.1 (valB w)
   rw [f1,q1,go,hr2,append_nil]

theorem intB_len (n:Int):(intB n).length ≤ 4:=by unfold intB; split <;> (try split) <;> (try split) <;> simp
theorem tlvL_len (t:Int) {body:List Int}:(tlvL t body).length ≤ body.length + 3:=by unfold tlvL; split <;> simp <;> omega
theorem pVal_len {v:Val} (h:pVal v = true):(valB v).length ≤ 30 ∧ pIn v.1 0 255 = true ∧ v.2.2.2.length ≤ 10 ∧ v.2.2.1.length ≤ 20:=by
 obtain ⟨k,n,s,o⟩:=v
 have inn:∀ {x:Int},0 ≤ x → x ≤ 255 → pIn x 0 255 = true:=fun h1 h2=>by unfold pIn; rw [dT h1,dT h2]; rfl
 unfold pVal at h
 simp only at h
 unfold valB
 simp only
 by_cases h1:(k == 5 || (k == 128 || k == 130)) = true
 · rw [h1,cT] at h
   simp only [aT,beq_iff_eq] at h
   simp only [Bool.or_eq_true,beq_iff_eq] at h1
   obtain ⟨_,rfl,ho⟩:=h
   rcases h1 with rfl | rfl | rfl <;> exact ⟨by simp,by decide,by omega,by simp⟩
 · have h1':(k == 5 || (k == 128 || k == 130)) = false:=by simpa using h1
   rw [h1',cF] at h
   by_cases h2:k = 2
   · subst h2
     simp only [show ((2:Int) == 2) = true from rfl,cT,aT,beq_iff_eq] at h ⊢
     obtain ⟨_,rfl,ho⟩:=h
     have:=intB_len n
     exact ⟨by omega,by decide,by omega,by simp⟩
   rw [beq_eq_false_iff_ne.2 h2,cF] at h ⊢
   by_cases h4:k = 4
   · subst h4
     simp only [show ((4:Int) == 4) = true from rfl,cT,aT,beq_iff_eq,decide_eq_true_eq] at h ⊢
     obtain ⟨h5,_,ho⟩:=h
     exact ⟨by unfold intsOf; rw [length_map]; omega,by decide,by omega,by omega⟩
   rw [beq_eq_false_iff_ne.2 h4,cF] at h ⊢
   by_cases h6:k = 6
   · subst h6
     simp only [show ((6:Int) == 6) = true from rfl,cT,aT,beq_iff_eq] at h ⊢
     obtain ⟨ho,_,rfl⟩:=h
     obtain ⟨o1,o2,o3⟩:=oidR_of ho
     have:=oidB_len (o:=o) fun x hx=>(o3 x hx).2
     exact ⟨by omega,by decide,by omega,by simp⟩
   · rw [beq_eq_false_iff_ne.2 h6,cF] at h
     cases h
theorem putVal {b:List Int} (hb:b.length ≤ 1000) {v:Val} (h:pVal v = true):fJ b v = some (b ++ tlvL v.1 (valB v)):=by
 obtain ⟨l1,l2,l3,l4⟩:=pVal_len h
 have hM:M = 1048576:=rfl
 have fin:∀ body:List Int,valB v = body → bg b v.1 body = some (b ++ tlvL v.1 (valB v)):=fun body e=>by
  subst e
  rw [putTlv _ hb (by omega),if_pos ⟨l2,by omega⟩]
 unfold fJ
 rw [valT (by omega),h,obs]
 simp only [Bool.not_true,cF]
 by_cases h2:v.1 = 2
 · have e:valB v = intB v.2.1:=by unfold valB; rw [beq_iff_eq.2 h2]; rfl
   have hr:-2147483648 ≤ v.2.1 ∧ v.2.1 ≤ 2147483647:=by
    unfold pVal at h
    rw [h2] at h
    simp only [show ((2:Int) == 5) = false from rfl,show ((2:Int) == 128) = false from rfl,show ((2:Int) == 130) = false from rfl,Bool.or_self,cF,show ((2:Int) == 2) = true from rfl,cT,aT] at h
    exact pIn_true h.1
   rw [beq_iff_eq.2 h2,cT,putInt (by omega),obs,clip_id hr,fin _ e]; rfl
 rw [beq_eq_false_iff_ne.2 h2,cF]
 by_cases h4:v.1 = 4
 · have e:valB v = intsOf v.2.2.1:=by unfold valB; rw [beq_eq_false_iff_ne.2 h2,beq_iff_eq.2 h4]; rfl
   rw [beq_iff_eq.2 h4,cT,fin _ e]; rfl
 rw [beq_eq_false_iff_ne.2 h4,cF]
 by_cases h6:v.1 = 6
 · have e:valB v = oidB v.2.2.2:=by unfold valB; rw [beq_eq_false_iff_ne.2 h2,beq_eq_false_iff_ne.2 h4,beq_iff_eq.2 h6]; rfl
   have ho:pOid v.2.2.2 = true:=by
    unfold pVal at h
    rw [h6] at h
    simp only [show ((6:Int) == 5) = false from rfl,show ((6:Int) == 128) = false from rfl,show ((6:Int) == 130) = false from rfl,Bool.or_self,cF,show ((6:Int) == 2) = false from rfl,show ((6:Int) == 4) = false from rfl,show ((6:Int) == 6) = true from rfl,cT,aT] at h
    exact h.1
   rw [beq_iff_eq.2 h6,cT,putOidX (by omega),ho,cT,obs,fin _ e]; rfl
 · have e:valB v = []:=by unfold valB; rw [beq_eq_false_iff_ne.2 h2,beq_eq_false_iff_ne.2 h4,beq_eq_false_iff_ne.2 h6]; rfl
   rw [beq_eq_false_iff_ne.2 h6,cF,fin _ e]; rfl
def oneB (x:Bind):List Int:=tlvL 6 (oidB x.1) ++ tlvL x.2.1 (valB x.2)
def bindB (x:Bind):List Int:=tlvL 48 (oneB x)
def allB (l:List Bind):List Int:=l.flatMap bindB
def bodyB (p:Pdu):List Int:=tlvL 2 (intB p.2.1) ++ tlvL 2 (intB p.2.2.1) ++ tlvL 2 (intB p.2.2.2.1) ++ tlvL 48 (allB p.2.2.2.2)
theorem pPdu_parts {p:Pdu} (h:pPdu p = true):(∀ x ∈ p.2.2.2.2,xOk x = true) ∧ p.2.2.2.2.length ≤ 10 ∧ pIn p.1 0 255 = true ∧ (-2147483648 ≤ p.2.1 ∧ p.2.1 ≤ 2147483647) ∧ (0 ≤ p.2.2.1 ∧ p.2.2.1 ≤ 1000) ∧ (0 ≤ p.2.2.2.1 ∧ p.2.2.2.1 ≤ 1000):=by
 obtain ⟨k,id,a,b,l⟩:=p
 unfold pPdu at h
 simp only [aT,Bool.not_eq_true',decide_eq_true_eq] at h
 obtain ⟨⟨h1,h2⟩,h3,h4⟩:=h
 refine ⟨fun x hx=>?_,by show l.length ≤ 10; omega,?_⟩
 · obtain ⟨j,hj,rfl⟩:=getElem_of_mem hx
   have hj':j < l.length:=hj
   have:=any_eq_false.1 h1 j (mem_range.2 hj')
   unfold bX at this
   simp only [List.getElem?_eq_getElem hj'] at this
   simpa using this
 · have h4:=pIn_true h4
   by_cases c1:(k == 162 || k == 165) = true
   · rw [c1,cT,aT] at h3
     have q1:=pIn_true h3.1
     have q2:=pIn_true h3.2
     simp only [Bool.or_eq_true,beq_iff_eq] at c1
     refine ⟨?_,h4,q1,q2⟩
     rcases c1 with rfl | rfl <;> rfl
   · have c1':(k == 162 || k == 165) = false:=by simpa using c1
     rw [c1',cF] at h3
     by_cases c2:(k == 160 || (k == 161 || k == 163)) = true
     · rw [c2,cT,aT] at h3
       simp only [beq_iff_eq] at h3
       simp only [Bool.or_eq_true,beq_iff_eq] at c2
       obtain ⟨rfl,rfl⟩:=h3
       refine ⟨?_,h4,by show (0:Int) ≤ 0 ∧ (0:Int) ≤ 1000; omega,by show (0:Int) ≤ 0 ∧ (0:Int) ≤ 1000; omega⟩
       rcases c2 with rfl | rfl | rfl <;> rfl
     · have c2':(k == 160 || (k == 161 || k == 163)) = false:=by simpa using c2
       rw [c2',cF] at h3
       cases h3
theorem bindB_len {x:Bind} (h:xOk x = true):(oneB x).length ≤ 100 ∧ (bindB x).length ≤ 110:=by
 unfold xOk at h
 rw [aT] at h
 obtain ⟨l1,_⟩:=pVal_len h.2
 obtain ⟨o1,o2,o3⟩:=oidR_of h.1
 have h3:=oidB_len (o:=x.1) fun y hy=>(o3 y hy).2
 have h4:=tlvL_len 6 (body:=oidB x.1)
 have h5:=tlvL_len x.2.1 (body:=valB x.2)
 have h6:(oneB x).length ≤ 100:=by unfold oneB; rw [length_append]; omega
 have h7:=tlvL_len 48 (body:=oneB x)
 exact ⟨h6,by unfold bindB; omega⟩
theorem addNum {b:List Int} (hb:b.length ≤ 900) {n:Int} (hn:-2147483648 ≤ n ∧ n ≤ 2147483647):du b 2 n = some (b ++ tlvL 2 (intB n)):=by
 unfold du
 have h4:=intB_len n
 rw [putInt (by omega),obs,clip_id hn,putTlv _ (by omega) (by show _ ≤ 1048576; omega),obs,if_pos ⟨by decide,by omega⟩]
theorem putPdu {p:Pdu} (hp:PLe M p):ez p = some (if pPdu p = true ∧ (allB p.2.2.2.2).length ≤ 250 ∧ (bodyB p).length ≤ 250 then tlvL p.1 (bodyB p) else []):=by
 unfold ez
 rw [pduT hp,obs]
 cases h:pPdu p with
 | false=>rw [if_neg (by simp)]; rfl
 | true =>
  obtain ⟨h1,h2,h3,h4,h5,h6⟩:=pPdu_parts h
  have hl:∀ k,(allB (p.2.2.2.2.take k)).length ≤ 110 * k:=by
   intro k
   induction k with
   | zero=>simp [allB]
   | succ k ih =>
    by_cases hk:k < p.2.2.2.2.length
    · have ht:allB (p.2.2.2.2.take (k + 1)) = allB (p.2.2.2.2.take k) ++ bindB p.2.2.2.2[k]:=by
       unfold allB
       rw [take_add_one,List.getElem?_eq_getElem hk,flatMap_append]; simp
      have:=(bindB_len (h1 _ (getElem_mem hk))).2
      rw [ht,length_append]; omega
    · rw [take_of_length_le (by omega)] at ih ⊢; omega
  obtain ⟨b,e1,rfl⟩:=loop_inv (step:=fun z:Int × List Int=>dv p z.1 z.2) (fun k z=>z = ((k:Int),allB (p.2.2.2.2.take k))) p.2.2.2.2.length (fun b=>b = .inl (allB p.2.2.2.2))
   (fun k z hk e=>by
    subst e
    left
    have hx:=h1 _ (getElem_mem hk)
    have hx':=hx
    unfold xOk at hx'
    rw [aT] at hx'
    obtain ⟨o1,o2,o3⟩:=oidR_of hx'.1
    have hob:=oidB_len (o:=p.2.2.2.2[k].1) fun y hy=>(o3 y hy).2
    have hlk:=hl k
    obtain ⟨b1,b2⟩:=bindB_len hx
    have ht:allB (p.2.2.2.2.take (k + 1)) = allB (p.2.2.2.2.take k) ++ bindB p.2.2.2.2[k]:=by
     unfold allB
     rw [take_add_one,List.getElem?_eq_getElem hk,flatMap_append]; simp
    have ht6:=tlvL_len 6 (body:=oidB p.2.2.2.2[k].1)
    refine ⟨_,?_,rfl⟩
    show dv p (k:Int) (allB (p.2.2.2.2.take k)) = _
    unfold dv
    rw [dlt (by omega),cT,at_nat hk,obs,putOidX (by show _ ≤ 1048576; omega),hx'.1,cT,obs,putTlv _ (by simp) (by show _ ≤ 1048576; omega),if_pos ⟨by decide,by omega⟩,obs,nil_append,putVal (by omega) hx'.2,obs]
    have hone:tlvL 6 (oidB p.2.2.2.2[k].1) ++ tlvL p.2.2.2.2[k].2.1 (valB p.2.2.2.2[k].2) = oneB p.2.2.2.2[k]:=rfl
    rw [hone,tlvX _ (by show _ ≤ 1048576; omega),if_pos ⟨by decide,by omega⟩,obs]
    simp only [Bool.not_true,cF]
    have hbb:tlvL 48 (oneB p.2.2.2.2[k]) = bindB p.2.2.2.2[k]:=rfl
    rw [hbb,app_small (by omega),obs,w64_nat (by omega),ht])
   (fun z e=>by
    subst e
    refine ⟨_,?_,rfl⟩
    show dv p (p.2.2.2.2.length:Int) (allB (p.2.2.2.2.take p.2.2.2.2.length)) = _
    unfold dv
    rw [dnlt (by omega),cF,take_length]) (x:=(0,[])) rfl
  have hal:(allB p.2.2.2.2).length ≤ 1100:=by
   have:=hl p.2.2.2.2.length
   rw [take_length] at this; omega
  rw [Bool.not_true,cF,e1,obs,Sum.elim_inl,tlvX _ (by show _ ≤ 1048576; omega)]
  by_cases ha:(allB p.2.2.2.2).length ≤ 250
  · rw [if_pos ⟨by decide,ha⟩,obs]
    simp only [Bool.not_true,cF]
    have t1:=tlvL_len 2 (body:=intB p.2.1)
    have t2:=tlvL_len 2 (body:=intB p.2.2.1)
    have t3:=tlvL_len 2 (body:=intB p.2.2.2.1)
    have t4:=tlvL_len 48 (body:=allB p.2.2.2.2)
    have i1:=intB_len p.2.1
    have i2:=intB_len p.2.2.1
    have i3:=intB_len p.2.2.2.1
    rw [addNum (by simp) h4,obs,nil_append,addNum (by omega) ⟨by omega,by omega⟩,obs,addNum (by rw [length_append]; omega) ⟨by omega,by omega⟩,obs,app_small (by simp only [length_append]; omega),obs]
    have hbody:tlvL 2 (intB p.2.1) ++ tlvL 2 (intB p.2.2.1) ++ tlvL 2 (intB p.2.2.2.1) ++ tlvL 48 (allB p.2.2.2.2) = bodyB p:=rfl
    rw [hbody,tlvX _ (by show _ ≤ 1048576; unfold bodyB; simp only [length_append]; omega)]
    by_cases hb:(bodyB p).length ≤ 250
    · rw [if_pos ⟨h3,hb⟩,if_pos ⟨by first | rfl | trivial,ha,hb⟩]; rfl
    · rw [if_neg (fun e=>hb e.2),if_neg (fun e=>hb e.2.2)]; rfl
  · rw [if_neg (fun e=>ha e.2),if_neg (fun e=>ha e.2.1)]; rfl

theorem Part.cons {b P s:List Int} {i t:Int} {x:List Int} {next:Int} (h:Part b i t x next) (e:b = P ++ s) (hi:i = (P.length:Int)):∃ s',b = (P ++ tlvL t x) ++ s' ∧ next = ((P ++ tlvL t x).length:Int):=by
 obtain ⟨pre,rest,e1,e2,e3⟩:=h.ex
 have hl:pre.length = P.length:=by omega
 obtain ⟨q1,q2⟩:=List.append_inj (e1.symm.trans e) hl
 subst q1
 exact ⟨rest,by rw [e1,append_assoc],by rw [e3,length_append]⟩
theorem tlvL_pos (t:Int) (b:List Int):1 ≤ (tlvL t b).length:=by unfold tlvL; simp
theorem bind_small {x:Bind} (h:xOk x = true):XLe M x:=by
 unfold xOk at h
 rw [aT] at h
 obtain ⟨_,_,l3,l4⟩:=pVal_len h.2
 have:=oid_len h.1
 have hM:M = 1048576:=rfl
 exact ⟨by omega,by omega,by omega⟩
theorem allB_app (l:List Bind) (x:Bind):allB (l ++ [x]) = allB l ++ bindB x:=by unfold allB; rw [flatMap_append]; simp
noncomputable abbrev iLoop (K I A B:Int) (c:List Int) (i:Int) (l:List Bind):=loop (fun z:Int × Int × Int × Int × Int × Int × Int × Int × List Int × Int × Bool × List Bind × List Bind=>aC z.1 z.2.1 z.2.2.1 z.2.2.2.1 z.2.2.2.2.1 z.2.2.2.2.2.1 z.2.2.2.2.2.2.1 z.2.2.2.2.2.2.2.1 z.2.2.2.2.2.2.2.2.1 z.2.2.2.2.2.2.2.2.2.1 z.2.2.2.2.2.2.2.2.2.2.1 z.2.2.2.2.2.2.2.2.2.2.2.1 z.2.2.2.2.2.2.2.2.2.2.2.2) (0,0,0,0,K,I,A,B,c,i,false,[],l)
noncomputable abbrev sLoop (r:L4Reader) (K I A B:Int) (c:List Int) (i:Int) (l:List Bind):=loop (fun z:List Int × Int × Bool × Int × Int × Int × Int × List Int × Int × Bool × List Bind=>au z.1 z.2.1 z.2.2.1 z.2.2.2.1 z.2.2.2.2.1 z.2.2.2.2.2.1 z.2.2.2.2.2.2.1 z.2.2.2.2.2.2.2.1 z.2.2.2.2.2.2.2.2.1 z.2.2.2.2.2.2.2.2.2.1 z.2.2.2.2.2.2.2.2.2.2) (r.1,r.2.1,r.2.2,K,I,A,B,c,i,false,l)
theorem sync (r:L4Reader) (hr:r.2.2 = false) (K I A B:Int) {c:List Int} (hc:Byt c) (hn:c.length ≤ M):∀ (n:Nat) (l:List Bind) (s:List Int),n + l.length = 10 → c = allB l ++ s → (∀ x ∈ l,xOk x = true) →
 (iLoop K I A B c ((allB l).length:Int) l = some (.inr (false,0,0,0,0,[])) ∧ ∃ d,sLoop r K I A B c ((allB l).length:Int) l = some d ∧ (d.2.2.1 = true ∨ d.2.2.2.2.2.2.2.2.2.2.length = 11) ∧ d.2.1 = r.2.1 ∧ XsLe M d.2.2.2.2.2.2.2.2.2.2) ∨
 (∃ l',c = allB l' ∧ (∀ x ∈ l',xOk x = true) ∧ l'.length ≤ 10 ∧ iLoop K I A B c ((allB l).length:Int) l = some (.inl (0,0,0,0,K,I,A,B,c,(c.length:Int),false,[],l')) ∧ sLoop r K I A B c ((allB l).length:Int) l = some (r.1,r.2.1,false,K,I,A,B,c,(c.length:Int),false,l')):=by
 have hM:M = 1048576:=rfl
 intro n
 induction n with
 | zero =>
  intro l s hl e hx
  have hcl:c.length = (allB l).length + s.length:=by rw [e,length_append]
  by_cases hlt:((allB l).length:Int) < (c.length:Int)
  · have h0:RdOk (c,((allB l).length:Int),false):=⟨hc,hn,by show (0:Int) ≤ ((allB l).length:Int); omega,by show ((allB l).length:Int) ≤ (c.length:Int); omega⟩
    obtain ⟨d,d1,d2,d3,d4,d5,d6,d7,d8,d9⟩:=partY h0 48
    obtain ⟨g,g1,g2,g3⟩:=bindX d5 (by omega)
    have hs:au r.1 r.2.1 r.2.2 K I A B c ((allB l).length:Int) false l = some (.inl (r.1,r.2.1,cond d.1.2.2 true (!g.2),K,I,A,B,d.1.1,d.1.2.1,d.1.2.2,l ++ [g.1])):=by
     unfold au
     rw [hr]
     simp only [Bool.not_false,cT,dlt hlt,obs,dT (show (l.length:Int) ≤ 10 by omega),d1,d2,g2]
     rw [show (cond d.1.2.2 (some true) (some (!g.2))) = some (cond d.1.2.2 true (!g.2)) by cases d.1.2.2 <;> rfl,obs,app_small (by show l.length + 1 ≤ _; omega),obs]
    have hs2:∀ (bd:Bool) (c':List Int) (i':Int) (qb:Bool) (l':List Bind),(bd = true ∨ l'.length = 11) → au r.1 r.2.1 bd K I A B c' i' qb l' = some (.inr (r.1,r.2.1,bd,K,I,A,B,c',i',qb,l')):=by
     intro bd c' i' qb l' h
     unfold au
     rcases h with rfl | h
     · rfl
     · rw [dF (show ¬ (l'.length:Int) ≤ 10 by omega)]
       cases bd with
       | true=>rfl
       | false=>cases h1:decide (i' < (c'.length:Int)) <;> simp
    left
    refine ⟨loop_end ?_,_,loop_in hs (loop_end (hs2 _ _ _ _ _ (.inr (by rw [length_append]; show l.length + 1 = 11; omega)))),.inr (by show (l ++ [g.1]).length = 11; rw [length_append]; show l.length + 1 = 11; omega),rfl,?_⟩
    · show aC 0 0 0 0 K I A B c ((allB l).length:Int) false [] l = _
      unfold aC
      simp only [dlt hlt,cT,d1,g1,obs,dT (show (l.length:Int) ≥ 10 by omega)]
      cases g.2 <;> rfl
    · refine ⟨by show (l ++ [g.1]).length ≤ 1048576; rw [length_append]; show l.length + 1 ≤ _; omega,fun x hx'=>?_⟩
      rcases mem_append.1 hx' with h | h
      · exact bind_small (hx x h)
      · rw [mem_singleton] at h
        subst h
        rcases g3 with rfl | ⟨x,rfl,q,_⟩
        · exact ⟨by show 0 ≤ 1048576; decide,by show 0 ≤ 1048576; decide,by show 0 ≤ 1048576; decide⟩
        · exact bind_small q
  · have hs0:s = []:=length_eq_zero_iff.1 (by omega)
    subst hs0
    rw [append_nil] at e
    right
    refine ⟨l,e,hx,by omega,loop_end ?_,loop_end ?_⟩
    · show aC 0 0 0 0 K I A B c ((allB l).length:Int) false [] l = _
      unfold aC
      rw [dnlt hlt,cF,e]
    · show au r.1 r.2.1 r.2.2 K I A B c ((allB l).length:Int) false l = _
      unfold au
      rw [hr,dnlt hlt,e]; rfl
 | succ n ih =>
  intro l s hl e hx
  have hcl:c.length = (allB l).length + s.length:=by rw [e,length_append]
  by_cases hlt:((allB l).length:Int) < (c.length:Int)
  · have h0:RdOk (c,((allB l).length:Int),false):=⟨hc,hn,by show (0:Int) ≤ ((allB l).length:Int); omega,by show ((allB l).length:Int) ≤ (c.length:Int); omega⟩
    obtain ⟨d,d1,d2,d3,d4,d5,d6,d7,d8,d9⟩:=partY h0 48
    obtain ⟨g,g1,g2,g3⟩:=bindX d5 (by omega)
    have hs:au r.1 r.2.1 r.2.2 K I A B c ((allB l).length:Int) false l = some (.inl (r.1,r.2.1,cond d.1.2.2 true (!g.2),K,I,A,B,d.1.1,d.1.2.1,d.1.2.2,l ++ [g.1])):=by
     unfold au
     rw [hr]
     simp only [Bool.not_false,cT,dlt hlt,obs,dT (show (l.length:Int) ≤ 10 by omega),d1,d2,g2]
     rw [show (cond d.1.2.2 (some true) (some (!g.2))) = some (cond d.1.2.2 true (!g.2)) by cases d.1.2.2 <;> rfl,obs,app_small (by show l.length + 1 ≤ _; omega),obs]
    rcases g3 with rfl | ⟨x,rfl,hxo,hxe⟩
    · left
      have hbd:(cond d.1.2.2 true (!false)) = true:=by cases d.1.2.2 <;> rfl
      refine ⟨loop_end ?_,_,loop_in hs (loop_end (b:=(r.1,r.2.1,true,K,I,A,B,d.1.1,d.1.2.1,d.1.2.2,l ++ [([],0,0,[],[])])) ?_),.inl rfl,rfl,?_⟩
      · show aC 0 0 0 0 K I A B c ((allB l).length:Int) false [] l = _
        unfold aC
        simp only [dlt hlt,cT,d1,g1,obs]; rfl
      · show au r.1 r.2.1 (cond d.1.2.2 true (!false)) K I A B d.1.1 d.1.2.1 d.1.2.2 (l ++ [([],0,0,[],[])]) = _
        rw [hbd]; rfl
      · refine ⟨by show (l ++ [_]).length ≤ 1048576; rw [length_append]; show l.length + 1 ≤ _; omega,fun y hy=>?_⟩
        rcases mem_append.1 hy with h | h
        · exact bind_small (hx y h)
        · rw [mem_singleton] at h
          subst h
          exact ⟨by show 0 ≤ 1048576; decide,by show 0 ≤ 1048576; decide,by show 0 ≤ 1048576; decide⟩
    · have hbad:d.1.2.2 = false:=by
       cases hb:d.1.2.2 with
       | false=>rfl
       | true =>
        rw [d7 hb] at hxe
        have:=congrArg List.length hxe
        have h1:=tlvL_pos 6 (oidB x.1)
        rw [length_append] at this
        simp at this; omega
      obtain ⟨_,hp⟩:=d9 hbad
      obtain ⟨s',e1,e2⟩:=hp.cons (P:=allB l) (s:=s) e rfl
      have hb:tlvL 48 d.2 = bindB x:=by unfold bindB oneB; rw [← hxe]
      rw [hb,← allB_app] at e1 e2
      have hdc:d.1.1 = c:=d4
      have:=ih (l ++ [x]) s' (by rw [length_append]; show n + (l.length + 1) = 10; omega) e1 (fun y hy=>by
       rcases mem_append.1 hy with h | h
       · exact hx y h
       · rw [mem_singleton] at h; subst h; exact hxo)
      have hi:aC 0 0 0 0 K I A B c ((allB l).length:Int) false [] l = some (.inl (0,0,0,0,K,I,A,B,c,((allB (l ++ [x])).length:Int),false,[],l ++ [x])):=by
       unfold aC
       simp only [dlt hlt,cT,d1,g1,obs,dF (show ¬ (l.length:Int) ≥ 10 by omega),Bool.not_true,cF]
       rw [app_small (by show l.length + 1 ≤ _; omega),obs,hdc,hbad,e2]
      have hs':au r.1 r.2.1 r.2.2 K I A B c ((allB l).length:Int) false l = some (.inl (r.1,r.2.1,r.2.2,K,I,A,B,c,((allB (l ++ [x])).length:Int),false,l ++ [x])):=by
       rw [hs,hdc,hbad,e2,hr]; rfl
      rcases this with ⟨i1,dd,i2,i3⟩ | ⟨l',q1,q2,q3,i1,i2⟩
      · exact .inl ⟨loop_in hi i1,dd,loop_in hs' i2,i3⟩
      · exact .inr ⟨l',q1,q2,q3,loop_in hi i1,loop_in hs' i2⟩
  · have hs0:s = []:=length_eq_zero_iff.1 (by omega)
    subst hs0
    rw [append_nil] at e
    right
    refine ⟨l,e,hx,by omega,loop_end ?_,loop_end ?_⟩
    · show aC 0 0 0 0 K I A B c ((allB l).length:Int) false [] l = _
      unfold aC
      rw [dnlt hlt,cF,e]
    · show au r.1 r.2.1 r.2.2 K I A B c ((allB l).length:Int) false l = _
      unfold au
      rw [hr,dnlt hlt,e]; rfl

theorem sBad (r:L4Reader) (hr:r.2.2 = true) (K I A B:Int) (c:List Int):sLoop r K I A B c 0 [] = some (r.1,r.2.1,true,K,I,A,B,c,0,false,[]):=by
 refine loop_end ?_
 show au r.1 r.2.1 r.2.2 K I A B c 0 false [] = _
 unfold au
 rw [hr]; rfl
theorem PLe.of {p:Pdu} (h:∀ x ∈ p.2.2.2.2,xOk x = true) (h2:p.2.2.2.2.length ≤ 11):PLe M p:=⟨by show _ ≤ 1048576; omega,fun x hx=>bind_small (h x hx)⟩
theorem getPdu {b:List Int} (hb:Byt b) (hn:b.length ≤ M):∃ r,fM b = some r ∧ gF b = some r ∧ (r = ((0,0,0,0,[]),false) ∨ ∃ p,r = (p,true) ∧ pPdu p = true ∧ PLe M p):=by
 have hM:M = 1048576:=rfl
 obtain ⟨t,t1,t2,t3⟩:=getTlv hb hn (i:=0) (by omega)
 have htb:t.2.1.length ≤ 250 ∧ Byt t.2.1:=by
  rcases t3 with rfl | ⟨k,body,next,rfl,h⟩
  · exact ⟨by simp,byt_nil⟩
  · exact ⟨h.n,h.b⟩
 have h0:RdOk (t.2.1,0,false):=⟨htb.2,by show t.2.1.length ≤ M; omega,by show (0:Int) ≤ 0; omega,by show (0:Int) ≤ (t.2.1.length:Int); omega⟩
 obtain ⟨d1,a1,b1,c1,e1,f1,g1⟩:=numX h0
 obtain ⟨d2,a2,b2,c2,e2,f2,g2⟩:=numX c1
 obtain ⟨d3,a3,b3,c3,e3,f3,g3⟩:=numX c2
 obtain ⟨d4,a4,b4,c4,e4,m4,n4,k4,f4,g4⟩:=partY c3 48
 unfold fM gF
 simp only [t1,t2,a1,b1,a2,b2,a3,b3,a4,b4,obs]
 -- spec's loop ends, whatever is read
 have sp:∃ d,sLoop d4.1 t.1 d1.2 d2.2 d3.2 d4.2 0 [] = some d ∧ d.2.1 = d4.1.2.1 ∧ (d4.1.2.2 = true → d.2.2.1 = true) ∧ XsLe M d.2.2.2.2.2.2.2.2.2.2:=by
  cases hbad:d4.1.2.2 with
  | true=>exact ⟨_,sBad d4.1 hbad _ _ _ _ _,rfl,fun _=>rfl,⟨by show 0 ≤ 1048576; decide,fun x hx=>by simp at hx⟩⟩
  | false =>
   rcases sync d4.1 hbad t.1 d1.2 d2.2 d3.2 m4 (by omega) 10 [] d4.2 rfl rfl (by simp) with ⟨_,d,q1,_,q3,q4⟩ | ⟨l',q1,q2,q3,_,q4⟩
   · exact ⟨d,q1,q3,fun e=>(by cases e),q4⟩
   · exact ⟨_,q4,rfl,fun e=>(by cases e),⟨by show l'.length ≤ 1048576; omega,fun x hx=>bind_small (q2 x hx)⟩⟩
 obtain ⟨d,s1,s2,s3,s4⟩:=sp
 have s1':loop (fun z:List Int × Int × Bool × Int × Int × Int × Int × List Int × Int × Bool × List Bind=>au z.1 z.2.1 z.2.2.1 z.2.2.2.1 z.2.2.2.2.1 z.2.2.2.2.2.1 z.2.2.2.2.2.2.1 z.2.2.2.2.2.2.2.1 z.2.2.2.2.2.2.2.2.1 z.2.2.2.2.2.2.2.2.2.1 z.2.2.2.2.2.2.2.2.2.2) (d4.1.1,d4.1.2.1,d4.1.2.2,t.1,d1.2,d2.2,d3.2,d4.2,0,false,[]) = some d:=s1
 rw [s1',obs]
 have pd:bG (d.2.2.2.1,d.2.2.2.2.1,d.2.2.2.2.2.1,d.2.2.2.2.2.2.1,d.2.2.2.2.2.2.2.2.2.2) = some (pPdu (d.2.2.2.1,d.2.2.2.2.1,d.2.2.2.2.2.1,d.2.2.2.2.2.2.1,d.2.2.2.2.2.2.2.2.2.2)):=pduS (p:=(d.2.2.2.1,d.2.2.2.2.1,d.2.2.2.2.2.1,d.2.2.2.2.2.2.1,d.2.2.2.2.2.2.2.2.2.2)) s4
 simp only [pd,obs]
 cases hok:t.2.2.2 with
 | false=>exact ⟨_,rfl,rfl,.inl rfl⟩
 | true =>
 simp only [Bool.not_true,cF,obs]
 cases hnx:(t.2.2.1 != (b.length:Int)) with
 | true=>exact ⟨_,rfl,rfl,.inl rfl⟩
 | false =>
 simp only [cF,obs]
 unfold gP
 cases hbad:d4.1.2.2 with
 | true =>
  rw [s3 hbad]
  exact ⟨_,rfl,rfl,.inl rfl⟩
 | false =>
 simp only [Bool.not_false,cT,obs]
 have hlen:d4.1.1 = t.2.1:=by rw [e4,e3,e2,e1]
 rw [s2,hlen]
 cases hat:(d4.1.2.1 == (t.2.1.length:Int)) with
 | false =>
  have:(d4.1.2.1 != (t.2.1.length:Int)) = true:=by rw [bne,hat]; rfl
  rw [this]
  refine ⟨((0,0,0,0,[]),false),rfl,?_,.inl rfl⟩
  cases d.2.2.1 <;> rfl
 | true =>
 have hat':(d4.1.2.1 != (t.2.1.length:Int)) = false:=by rw [bne,hat]; rfl
 rw [hat']
 simp only [Bool.not_true,cF]
 -- the parts
 obtain ⟨x3,p4⟩:=g4 hbad
 obtain ⟨x2,p3,i3⟩:=g3 x3
 obtain ⟨x1,p2,i2⟩:=g2 x2
 obtain ⟨_,p1,i1⟩:=g1 x1
 rcases t3 with rfl | ⟨k,body,next,rfl,hp⟩
 · cases hok
 simp only at p1 hat hnx hlen
 have p1':Part body 0 2 (intB d1.2) d1.1.2.1:=p1
 have p2':Part body d1.1.2.1 2 (intB d2.2) d2.1.2.1:=by rw [e1] at p2; exact p2
 have p3':Part body d2.1.2.1 2 (intB d3.2) d3.1.2.1:=by rw [e2,e1] at p3; exact p3
 have p4':Part body d3.1.2.1 48 d4.2 d4.1.2.1:=by rw [e3,e2,e1] at p4; exact p4
 obtain ⟨s1x,y1,z1⟩:=p1'.cons (P:=[]) (s:=body) rfl rfl
 obtain ⟨s2x,y2,z2⟩:=p2'.cons y1 z1
 obtain ⟨s3x,y3,z3⟩:=p3'.cons y2 z2
 obtain ⟨s4x,y4,z4⟩:=p4'.cons y3 z3
 have hs4:s4x = []:=by
  have h1:=congrArg List.length y4
  rw [length_append] at h1
  have h2:d4.1.2.1 = (body.length:Int):=eq_of_beq hat
  exact length_eq_zero_iff.1 (by omega)
 subst hs4
 rw [append_nil,nil_append] at y4
 obtain ⟨u1,u2,u3⟩:∃ rest,b = tlvL k body ++ rest ∧ rest = []:=by
  obtain ⟨s',w1,w2⟩:=hp.cons (P:=[]) (s:=b) rfl rfl
  refine ⟨s',by simpa using w1,?_⟩
  have h1:=congrArg List.length w1
  rw [length_append] at h1
  have h2:next = (b.length:Int):=by simpa using hnx
  exact length_eq_zero_iff.1 (by omega)
 subst u3
 rw [append_nil] at u2
 rcases sync d4.1 hbad k d1.2 d2.2 d3.2 m4 (by omega) 10 [] d4.2 rfl rfl (by simp) with ⟨j1,dd,j2,j3,_,_⟩ | ⟨l',w1,w2,w3,j1,j2⟩
 · have hdd:dd = d:=by
    have:some dd = some d:=j2.symm.trans s1
    exact Option.some.inj this
   subst hdd
   have j1':loop (fun z:Int × Int × Int × Int × Int × Int × Int × Int × List Int × Int × Bool × List Bind × List Bind=>aC z.1 z.2.1 z.2.2.1 z.2.2.2.1 z.2.2.2.2.1 z.2.2.2.2.2.1 z.2.2.2.2.2.2.1 z.2.2.2.2.2.2.2.1 z.2.2.2.2.2.2.2.2.1 z.2.2.2.2.2.2.2.2.2.1 z.2.2.2.2.2.2.2.2.2.2.1 z.2.2.2.2.2.2.2.2.2.2.2.1 z.2.2.2.2.2.2.2.2.2.2.2.2) (0,0,0,0,k,d1.2,d2.2,d3.2,d4.2,0,false,[],[]) = some (.inr (false,0,0,0,0,[])):=j1
   rw [j1',obs,Sum.elim_inr]
   refine ⟨((0,0,0,0,[]),false),rfl,?_,.inl rfl⟩
   cases hd:dd.2.2.1 with
   | true=>rfl
   | false =>
    have h11:dd.2.2.2.2.2.2.2.2.2.2.length = 11:=by
     rcases j3 with h | h
     · rw [hd] at h; cases h
     · exact h
    have hpf:pPdu (dd.2.2.2.1,dd.2.2.2.2.1,dd.2.2.2.2.2.1,dd.2.2.2.2.2.2.1,dd.2.2.2.2.2.2.2.2.2.2) = false:=by
     unfold pPdu
     rw [dF (show ¬ ((dd.2.2.2.2.2.2.2.2.2.2.length:Nat):Int) ≤ 10 by omega),Bool.and_false,Bool.false_and]
    rw [hpf]
    simp only [cF,obs]
    cases (dd.2.2.2.2.2.2.2.2.1 != (dd.2.2.2.2.2.2.2.1.length:Int)) <;> rfl
 · have hdd:d = (d4.1.1,d4.1.2.1,false,k,d1.2,d2.2,d3.2,d4.2,(d4.2.length:Int),false,l'):=by
    have:some d = some (d4.1.1,d4.1.2.1,false,k,d1.2,d2.2,d3.2,d4.2,(d4.2.length:Int),false,l'):=s1.symm.trans j2
    exact Option.some.inj this
   subst hdd
   have j1':loop (fun z:Int × Int × Int × Int × Int × Int × Int × Int × List Int × Int × Bool × List Bind × List Bind=>aC z.1 z.2.1 z.2.2.1 z.2.2.2.1 z.2.2.2.2.1 z.2.2.2.2.2.1 z.2.2.2.2.2.2.1 z.2.2.2.2.2.2.2.1 z.2.2.2.2.2.2.2.2.1 z.2.2.2.2.2.2.2.2.2.1 z.2.2.2.2.2.2.2.2.2.2.1 z.2.2.2.2.2.2.2.2.2.2.2.1 z.2.2.2.2.2.2.2.2.2.2.2.2) (0,0,0,0,k,d1.2,d2.2,d3.2,d4.2,0,false,[],[]) = some (.inl (0,0,0,0,k,d1.2,d2.2,d3.2,d4.2,(d4.2.length:Int),false,[],l')):=j1
   rw [j1',obs,Sum.elim_inl]
   have hpl:PLe M (k,d1.2,d2.2,d3.2,l'):=PLe.of (p:=(k,d1.2,d2.2,d3.2,l')) w2 (by show l'.length ≤ 11; omega)
   have hbody:body = bodyB (k,d1.2,d2.2,d3.2,l'):=by
    rw [y4,w1]; rfl
   simp only [putPdu hpl,obs,bne_self_eq_false,cF]
   cases hpp:pPdu (k,d1.2,d2.2,d3.2,l') with
   | false =>
    rw [if_neg (by simp)]
    exact ⟨_,rfl,rfl,.inl rfl⟩
   | true =>
    have hal:(allB l').length ≤ 250:=by rw [← w1]; exact n4
    rw [if_pos ⟨rfl,hal,by rw [← hbody]; exact hp.n⟩,← hbody,← u2]
    have hb1:((b.length:Int) == 0) = false:=beq_eq_false_iff_ne.2 (by
     have:=tlvL_pos k body
     rw [← u2] at this; omega)
    rw [hb1,beq_self_eq_true]
    exact ⟨_,rfl,rfl,.inr ⟨_,rfl,hpp,hpl⟩⟩

theorem getMsg (w:List UInt8) {b:List Int} (hb:Byt b) (hn:b.length ≤ M):∃ r,bP w b = some r ∧ cG w b = some r ∧ PLe M r.1 ∧ (r.2 = 0 → pPdu r.1 = true):=by
 have hM:M = 1048576:=rfl
 have nil:PLe M ((0,0,0,0,[]):Pdu):=⟨by show 0 ≤ 1048576; decide,fun x hx=>by simp at hx⟩
 obtain ⟨t,t1,t2,t3⟩:=getTlv hb hn (i:=0) (by omega)
 have htb:t.2.1.length ≤ 250 ∧ Byt t.2.1:=by
  rcases t3 with rfl | ⟨k,body,next,rfl,h⟩
  · exact ⟨by simp,byt_nil⟩
  · exact ⟨h.n,h.b⟩
 have h0:RdOk (t.2.1,0,false):=⟨htb.2,by show t.2.1.length ≤ M; omega,by show (0:Int) ≤ 0; omega,by show (0:Int) ≤ (t.2.1.length:Int); omega⟩
 obtain ⟨d1,a1,b1,c1,e1,f1,g1⟩:=numX h0
 obtain ⟨d2,a2,b2,c2,e2,m2,n2,k2,f2,g2⟩:=partY c1 4
 have hlen:d2.1.1 = t.2.1:=by rw [e2,e1]
 have hlo:=c2.lo
 have hhi:=c2.hi
 rw [hlen] at hhi
 obtain ⟨j,hj⟩:∃ j:Nat,d2.1.2.1 = (j:Int):=⟨d2.1.2.1.toNat,by omega⟩
 have hcut:cut t.2.1 d2.1.2.1 (t.2.1.length:Int) = some (t.2.1.drop j):=by
  rw [hj,cut_ok (by omega) (Nat.le_refl _),take_length]
 obtain ⟨g,p1,p2,p3⟩:=getPdu (b:=t.2.1.drop j) (fun x hx=>htb.2 x (mem_of_mem_drop hx)) (by rw [length_drop]; omega)
 unfold bP cG
 simp only [t1,t2,a1,b1,a2,b2,obs,hcut,p1,p2]
 cases (!t.2.2.2) with
 | true=>exact ⟨_,rfl,rfl,nil,fun e=>(by cases e)⟩
 | false =>
 simp only [cF,obs]
 cases (t.1 != 48) with
 | true=>exact ⟨_,rfl,rfl,nil,fun e=>(by cases e)⟩
 | false =>
 simp only [cF,obs]
 cases (t.2.2.1 != (b.length:Int)) with
 | true=>exact ⟨_,rfl,rfl,nil,fun e=>(by cases e)⟩
 | false =>
 simp only [cF,obs]
 cases d2.1.2.2 with
 | true=>exact ⟨_,rfl,rfl,nil,fun e=>(by cases e)⟩
 | false =>
 simp only [cF,obs]
 cases (d1.2 != 1) with
 | true=>exact ⟨_,rfl,rfl,nil,fun e=>(by cases e)⟩
 | false =>
 simp only [cF,obs]
 cases (bytesOf d2.2 == w) with
 | false=>exact ⟨_,rfl,rfl,nil,fun e=>(by cases e)⟩
 | true =>
 simp only [Bool.not_true,cF]
 rcases p3 with rfl | ⟨p,rfl,q1,q2⟩
 · exact ⟨_,rfl,rfl,nil,fun e=>(by cases e)⟩
 · exact ⟨_,rfl,rfl,q2,fun _=>q1⟩

def pduB (p:Pdu):List Int:=if pPdu p = true ∧ (allB p.2.2.2.2).length ≤ 250 ∧ (bodyB p).length ≤ 250 then tlvL p.1 (bodyB p) else []
def fitP (p:Pdu):Bool:=pIn ((pduB p).length:Int) 1 120
theorem fitsT {p:Pdu} (hp:PLe M p):aK p = some (fitP p):=by
 unfold aK
 rw [putPdu hp,obs]
 show (ac ((pduB p).length:Int) 1 120).bind _ = _
 rw [inT,obs]; rfl
theorem map_loop {α β:Type} {l:List α} {g:α → β} {step:Int × List β → Option ((Int × List β) ⊕ List β)} (hn:l.length ≤ M)
 (h1:∀ k (hk:k < l.length) (out:List β),out.length = k → step ((k:Int),out) = some (.inl (((k + 1:Nat):Int),out ++ [g l[k]]))) (h2:∀ out,step ((l.length:Int),out) = some (.inr out)):loop step (0,[]) = some (l.map g):=by
 obtain ⟨b,e1,rfl⟩:=loop_inv (step:=step) (fun k z=>z = ((k:Int),(l.take k).map g)) l.length (fun b=>b = l.map g)
  (fun k z hk e=>by
   subst e
   refine .inl ⟨_,h1 k hk _ (by rw [length_map,length_take]; omega),?_⟩
   rw [take_add_one,List.getElem?_eq_getElem hk,map_append]; rfl)
  (fun z e=>by
   subst e
   exact ⟨_,h2 _,by rw [take_length]⟩) (x:=(0,[])) rfl
 exact e1
noncomputable def nextV (b:Bridge) (o:List Int):Bind:=(bm b o).getD ([],0,0,[],[])
noncomputable def getV (b:Bridge) (o:List Int):Val:=(bV b o).getD (0,0,[],[])
theorem nextE {b:Bridge} (h:BOk b) {o:List Int} (ho:o.length ≤ 1000):bm b o = some (nextV b o) ∧ ((nextV b o ∈ mib b ∧ o < (nextV b o).1) ∨ (nextV b o = (o,130,0,[],[]) ∧ ∀ x ∈ mib b,¬ o < x.1)):=by
 obtain ⟨j,hj⟩:=at_of (mib_pair h) o
 have e:=nextX h ho hj
 unfold nextV
 rw [e]
 refine ⟨rfl,?_⟩
 by_cases hl:j < (mib b).length
 · rw [dif_pos hl]
   exact .inl ⟨getElem_mem hl,hj.yes j hl (Nat.le_refl _)⟩
 · rw [dif_neg hl]
   refine .inr ⟨rfl,fun x hx=>?_⟩
   obtain ⟨i,hi,rfl⟩:=getElem_of_mem hx
   exact hj.no i hi (by omega)
theorem getE {b:Bridge} (h:BOk b) {o:List Int} (ho:o.length < 9223372036854775807):bV b o = some (getV b o) ∧ ((∃ x ∈ mib b,x.1 = o ∧ getV b o = x.2) ∨ ((∀ x ∈ mib b,x.1 ≠ o) ∧ getV b o = (128,0,[],[]))):=by
 obtain ⟨v,e,hv⟩:=getX h ho
 unfold getV
 rw [e]
 exact ⟨rfl,hv⟩
theorem nm_pOid {o:List Int} (h:Nm o):pOid o = true:=by
 have h1:=h.ok
 rw [oidT (by have:=h.n10; omega)] at h1
 exact Option.some.inj h1
theorem vl_pVal {v:Val} (h:Vl v):pVal v = true:=by
 have h1:=h.ok
 rw [valT (by rw [h.o]; show 0 ≤ 1048576; omega)] at h1
 exact Option.some.inj h1
theorem pOid_len {o:List Int} (h:pOid o = true):o.length ≤ 10:=(oidR_of h).2.1
theorem mibOk {b:Bridge} (h:BOk b) {x:Bind} (hx:x ∈ mib b):xOk x = true:=by
 obtain ⟨h1,h2⟩:=mib_each h x hx
 unfold xOk
 rw [nm_pOid h1,vl_pVal h2]; rfl
theorem nextOk {b:Bridge} (h:BOk b) {o:List Int} (ho:pOid o = true):xOk (nextV b o) = true:=by
 obtain ⟨_,h1⟩:=nextE h (o:=o) (by have:=pOid_len ho; omega)
 rcases h1 with ⟨h1,_⟩ | ⟨h1,_⟩
 · exact mibOk h h1
 · rw [h1]; unfold xOk; rw [ho]; rfl
theorem xOk_oid {x:Bind} (h:xOk x = true):pOid x.1 = true:=by
 unfold xOk at h; rw [aT] at h; exact h.1
theorem getOk {b:Bridge} (h:BOk b) {o:List Int} (ho:o.length < 9223372036854775807):pVal (getV b o) = true:=by
 obtain ⟨_,h1⟩:=getE h ho
 rcases h1 with ⟨x,hx,_,e⟩ | ⟨_,e⟩
 · rw [e]; exact vl_pVal (mib_each h x hx).2
 · rw [e]; rfl
def innL (s:List Bind × List (List Int)):Nat:=min s.2.length (10 - s.1.length)
noncomputable def inn (b:Bridge) (s:List Bind × List (List Int)):List Bind × List (List Int):=(s.1 ++ (s.2.take (innL s)).map (nextV b),(s.2.take (innL s)).map (fun o=>(nextV b o).1) ++ s.2.drop (innL s))
noncomputable def rnds (b:Bridge):Nat → List Bind × List (List Int) → List Bind × List (List Int)
 | 0,s=>s
 | k + 1,s=>if 0 < s.2.length ∧ s.1.length < 10 then rnds b k (inn b s) else s
structure BkOk (s:List Bind × List (List Int)):Prop where
 o10:s.1.length ≤ 10
 l10:s.2.length ≤ 10
 oOk:∀ x ∈ s.1,xOk x = true
 lOk:∀ o ∈ s.2,pOid o = true
theorem inn_ok {b:Bridge} (h:BOk b) {s:List Bind × List (List Int)} (hs:BkOk s):BkOk (inn b s):=by
 obtain ⟨h1,h2,h3,h4⟩:=hs
 refine ⟨?_,?_,fun x hx=>?_,fun o ho=>?_⟩
 · show (s.1 ++ _).length ≤ 10
   rw [length_append,length_map,length_take]; unfold innL; omega
 · show (_ ++ s.2.drop (innL s)).length ≤ 10
   rw [length_append,length_map,length_take,length_drop]; unfold innL; omega
 · rcases mem_append.1 hx with hx | hx
   · exact h3 x hx
   · obtain ⟨o,ho,rfl⟩:=mem_map.1 hx
     exact nextOk h (h4 o (mem_of_mem_take ho))
 · rcases mem_append.1 ho with ho | ho
   · obtain ⟨q,hq,rfl⟩:=mem_map.1 ho
     exact xOk_oid (nextOk h (h4 q (mem_of_mem_take hq)))
   · exact h4 o (mem_of_mem_drop ho)
theorem innX {b:Bridge} (h:BOk b) {s:List Bind × List (List Int)} (hs:BkOk s):loop (fun z=>cH b s.2 z.1 z.2.1 z.2.2) (0,s.1,s.2) = some (inn b s):=by
 obtain ⟨out,l⟩:=s
 obtain ⟨h1,h2,h3,h4⟩:=hs
 simp only at h1 h2 h3 h4
 have hm:innL (out,l) = min l.length (10 - out.length):=rfl
 obtain ⟨v,e1,rfl⟩:=loop_inv (step:=fun z:Int × List Bind × List (List Int)=>cH b l z.1 z.2.1 z.2.2) (fun k z=>z = ((k:Int),out ++ (l.take k).map (nextV b),(l.take k).map (fun o=>(nextV b o).1) ++ l.drop k)) (innL (out,l)) (fun v=>v = inn b (out,l))
  (fun k z hk e=>by
   subst e
   left
   have hkl:k < l.length:=by omega
   have hlen:((l.take k).map (fun o=>(nextV b o).1) ++ l.drop k).length = l.length:=by rw [length_append,length_map,length_take,length_drop]; omega
   have hol:(out ++ (l.take k).map (nextV b)).length = out.length + k:=by rw [length_append,length_map,length_take]; omega
   have hA:((l.take k).map (fun o=>(nextV b o).1)).length = k:=by rw [length_map,length_take]; omega
   have hget:((l.take k).map (fun o=>(nextV b o).1) ++ l.drop k)[k]? = some l[k]:=by
    rw [List.getElem?_append_right (by omega),hA,Nat.sub_self,List.getElem?_drop,Nat.add_zero,List.getElem?_eq_getElem hkl]
   have hn:=(nextE h (o:=l[k]) (by have:=pOid_len (h4 _ (getElem_mem hkl)); omega)).1
   refine ⟨_,?_,rfl⟩
   show cH b l (k:Int) _ _ = _
   unfold cH
   rw [dlt (by omega),cT,hol,dF (by omega),cF,hlen,ix_nat hkl]
   simp only [obs,hget,hn]
   rw [app_small (by rw [hol]; show out.length + k + 1 ≤ _; omega),obs,w64_nat (by omega)]
   have t1:(l.take (k + 1)) = l.take k ++ [l[k]]:=by rw [take_add_one,List.getElem?_eq_getElem hkl]; rfl
   have t2:((l.take k).map (fun o=>(nextV b o).1) ++ l.drop k).set k (nextV b l[k]).1 = (l.take (k + 1)).map (fun o=>(nextV b o).1) ++ l.drop (k + 1):=by
    rw [List.set_append_right _ _ (by omega),hA,Nat.sub_self,drop_eq_getElem_cons hkl,List.set_cons_zero,t1,map_append,append_assoc]; rfl
   rw [t2,t1]; simp only [map_append,map_cons,List.map_nil,append_assoc])
  (fun z e=>by
   subst e
   refine ⟨_,?_,rfl⟩
   show cH b l ((innL (out,l):Nat):Int) _ _ = _
   have hol:(out ++ (l.take (innL (out,l))).map (nextV b)).length = out.length + innL (out,l):=by rw [length_append,length_map,length_take]; omega
   unfold cH
   rw [hol]
   by_cases hlt:((innL (out,l):Nat):Int) < (l.length:Int)
   · rw [dlt hlt,cT,dT (by omega),cT]; rfl
   · rw [dnlt hlt,cF]; rfl) (x:=(0,out,l)) (by simp)
 exact e1
theorem rnds_ok {b:Bridge} (h:BOk b):∀ (n:Nat) {s:List Bind × List (List Int)},BkOk s → BkOk (rnds b n s)
 | 0,s,hs=>hs
 | n + 1,s,hs=>by
  unfold rnds
  split
  · exact rnds_ok h n (inn_ok h hs)
  · exact hs
theorem rndsX {b:Bridge} (h:BOk b) {p:Pdu} (hB:p.2.2.2.1 ≤ 1000):∀ (n i:Nat) {s:List Bind × List (List Int)},BkOk s → ((i + n:Nat):Int) = p.2.2.2.1 → loop (fun z=>bD b p z.1 z.2.1 z.2.2) ((i:Int),s.1,s.2) = some (rnds b n s)
 | 0,i,s,hs,e=>by
  refine loop_end ?_
  show bD b p (i:Int) s.1 s.2 = _
  unfold bD
  rw [dnlt (by omega),cF,obs,cF,obs,cF]; rfl
 | n + 1,i,s,hs,e=>by
  by_cases hc:0 < s.2.length ∧ s.1.length < 10
  · refine loop_in (y:=(((i + 1:Nat):Int),(inn b s).1,(inn b s).2)) ?_ ?_
    · show bD b p (i:Int) s.1 s.2 = _
      unfold bD
      rw [dlt (by omega),cT,dT (by omega),obs,cT,dlt (by omega),obs,cT,innX h hs,obs,w64_nat (by omega)]
    · have:=rndsX h hB n (i + 1) (inn_ok h hs) (by omega)
      rw [this,show rnds b (n + 1) s = rnds b n (inn b s) from if_pos hc]
  · refine loop_end ?_
    show bD b p (i:Int) s.1 s.2 = _
    have e2:rnds b (n + 1) s = s:=if_neg hc
    rw [e2]
    unfold bD
    rw [dlt (by omega),cT]
    by_cases h1:0 < s.2.length
    · rw [dT (by omega),obs,cT,dnlt (by omega),obs,cF]
    · rw [dF (by omega),obs,cF,obs,cF]
def onceN (p:Pdu):Nat:=min p.2.2.1.toNat p.2.2.2.2.length
noncomputable def bulkS (b:Bridge) (p:Pdu):List Bind × List (List Int):=rnds b p.2.2.2.1.toNat ((p.2.2.2.2.take (onceN p)).map (fun x=>nextV b x.1),(p.2.2.2.2.drop (onceN p)).map (fun x=>x.1))
noncomputable def bulkV (b:Bridge) (p:Pdu):List Bind:=(bulkS b p).1
theorem bulk0 {b:Bridge} (h:BOk b) {p:Pdu} (hp:pPdu p = true):BkOk ((p.2.2.2.2.take (onceN p)).map (fun x=>nextV b x.1),(p.2.2.2.2.drop (onceN p)).map (fun x=>x.1)):=by
 obtain ⟨h1,h2,_⟩:=pPdu_parts hp
 refine ⟨?_,?_,fun x hx=>?_,fun o ho=>?_⟩
 · rw [length_map,length_take]; omega
 · rw [length_map,length_drop]; omega
 · obtain ⟨y,hy,rfl⟩:=mem_map.1 hx
   exact nextOk h (xOk_oid (h1 y (mem_of_mem_take hy)))
 · obtain ⟨y,hy,rfl⟩:=mem_map.1 ho
   exact xOk_oid (h1 y (mem_of_mem_drop hy))
theorem bulk_ok {b:Bridge} (h:BOk b) {p:Pdu} (hp:pPdu p = true):BkOk (bulkS b p):=rnds_ok h _ (bulk0 h hp)
theorem bulkX {b:Bridge} (h:BOk b) {p:Pdu} (hp:pPdu p = true):fR b p = some (bulkV b p):=by
 obtain ⟨h1,h2,_,_,h5,h6⟩:=pPdu_parts hp
 have hmin:min2 p.2.2.1 (p.2.2.2.2.length:Int) = ((onceN p:Nat):Int):=by
  unfold min2 onceN
  split <;> omega
 have hon:onceN p ≤ p.2.2.2.2.length:=Nat.min_le_right _ _
 unfold fR
 show ((cut p.2.2.2.2 0 (min2 p.2.2.1 (p.2.2.2.2.length:Int))).bind _) = _
 rw [hmin]
 have c1:cut p.2.2.2.2 0 ((onceN p:Nat):Int) = some (p.2.2.2.2.take (onceN p)):=by
  have:=cut_ok (l:=p.2.2.2.2) (a:=0) (b:=onceN p) (by omega) hon
  simpa using this
 have c2:cut p.2.2.2.2 ((onceN p:Nat):Int) (p.2.2.2.2.length:Int) = some (p.2.2.2.2.drop (onceN p)):=by
  have:=cut_ok (l:=p.2.2.2.2) (a:=onceN p) (b:=p.2.2.2.2.length) hon (Nat.le_refl _)
  rw [take_length] at this; exact this
 have l1:loop (fun z:Int × List Bind=>dG b (p.2.2.2.2.take (onceN p)) z.1 z.2) (0,[]) = some ((p.2.2.2.2.take (onceN p)).map (fun x=>nextV b x.1)):=by
  refine map_loop (by show _ ≤ 1048576; rw [length_take]; omega) (fun k hk out ho=>?_) (fun out=>?_)
  · have hx:=h1 _ (mem_of_mem_take (getElem_mem hk))
    have hk':=hk
    rw [length_take] at hk'
    show dG b _ (k:Int) out = _
    unfold dG
    rw [dlt (by omega),cT,at_nat hk,obs,(nextE h (by have:=pOid_len (xOk_oid hx); omega)).1,obs,app_small (by rw [ho]; show k + 1 ≤ _; omega),obs,w64_nat (by omega)]
  · show dG b _ ((p.2.2.2.2.take (onceN p)).length:Int) out = _
    unfold dG
    rw [dnlt (by omega),cF]
 have l2:loop (fun z:Int × List (List Int)=>dH (p.2.2.2.2.drop (onceN p)) z.1 z.2) (0,[]) = some ((p.2.2.2.2.drop (onceN p)).map (fun x=>x.1)):=by
  refine map_loop (by show _ ≤ 1048576; rw [length_drop]; omega) (fun k hk out ho=>?_) (fun out=>?_)
  · have hk':=hk
    rw [length_drop] at hk'
    show dH _ (k:Int) out = _
    unfold dH
    rw [dlt (by omega),cT,at_nat hk,obs,app_small (by rw [ho]; show k + 1 ≤ _; omega),obs,w64_nat (by omega)]
  · show dH _ ((p.2.2.2.2.drop (onceN p)).length:Int) out = _
    unfold dH
    rw [dnlt (by omega),cF]
 rw [c1,obs,l1,obs,c2,obs,l2,obs]
 have:=rndsX h (p:=p) (by omega) p.2.2.2.1.toNat 0 (bulk0 h hp) (by omega)
 have this:loop (fun z=>bD b p z.1 z.2.1 z.2.2) (0,(p.2.2.2.2.take (onceN p)).map (fun x=>nextV b x.1),(p.2.2.2.2.drop (onceN p)).map (fun x=>x.1)) = _:=this
 rw [this,obs]; rfl
def shr (f:List Bind → Bool):Nat → List Bind → Option (List Bind)
 | 0,_=>none
 | n + 1,l=>if f (l.take n) = true then some (l.take n) else shr f n (l.take n)
theorem bind_end {α β γ δ:Type} {step:α → Option (α ⊕ (β ⊕ δ))} {x:α} {F:β → Option γ} {G:δ → Option γ} {R:Option γ} (h:∃ d,step x = some (.inr (.inl d))) (k:∀ d,F d = R):(loop step x).bind (Sum.elim F G) = R:=by
 obtain ⟨d,h⟩:=h
 rw [loop_end h,obs,Sum.elim_inl,k]
abbrev S32:=Int × List UInt8 × Int × Int × Int × Int × Int × Int × Int × Int × Int × Int × List UInt8 × Int × Int × Int × Int × Int × Int × Int × Int × Int × List Bind × List Pt × List Fent × List Vrow × List Int × List Bind × List Pt × List Fent × List Vrow × List Int
theorem shrX {p:Pdu} (h165:(p.1 == 165) = true) (b:Bridge) (j0:Int) (j1:List UInt8) (j2 j3 j4 j5 j6 j7 j8 j9 j10:Int) (k i a c:Int) (j11:List Pt) (j12:List Fent) (j13:List Vrow) (j14:List Int) (j15:List Bind):∀ (n:Nat) (l:List Bind),l.length = n → n ≤ 10 → (∀ x ∈ l,XLe M x) →
 ∃ w,loop (fun z:S32=>eO p z.1 z.2.1 z.2.2.1 z.2.2.2.1 z.2.2.2.2.1 z.2.2.2.2.2.1 z.2.2.2.2.2.2.1 z.2.2.2.2.2.2.2.1 z.2.2.2.2.2.2.2.2.1 z.2.2.2.2.2.2.2.2.2.1 z.2.2.2.2.2.2.2.2.2.2.1 z.2.2.2.2.2.2.2.2.2.2.2.1 z.2.2.2.2.2.2.2.2.2.2.2.2.1 z.2.2.2.2.2.2.2.2.2.2.2.2.2.1 z.2.2.2.2.2.2.2.2.2.2.2.2.2.2.1 z.2.2.2.2.2.2.2.2.2.2.2.2.2.2.2.1 z.2.2.2.2.2.2.2.2.2.2.2.2.2.2.2.2.1 z.2.2.2.2.2.2.2.2.2.2.2.2.2.2.2.2.2.1 z.2.2.2.2.2.2.2.2.2.2.2.2.2.2.2.2.2.2.1 z.2.2.2.2.2.2.2.2.2.2.2.2.2.2.2.2.2.2.2.1 z.2.2.2.2.2.2.2.2.2.2.2.2.2.2.2.2.2.2.2.2.1 z.2.2.2.2.2.2.2.2.2.2.2.2.2.2.2.2.2.2.2.2.2.1 z.2.2.2.2.2.2.2.2.2.2.2.2.2.2.2.2.2.2.2.2.2.2.1 z.2.2.2.2.2.2.2.2.2.2.2.2.2.2.2.2.2.2.2.2.2.2.2.1 z.2.2.2.2.2.2.2.2.2.2.2.2.2.2.2.2.2.2.2.2.2.2.2.2.1 z.2.2.2.2.2.2.2.2.2.2.2.2.2.2.2.2.2.2.2.2.2.2.2.2.2.1 z.2.2.2.2.2.2.2.2.2.2.2.2.2.2.2.2.2.2.2.2.2.2.2.2.2.2.1 z.2.2.2.2.2.2.2.2.2.2.2.2.2.2.2.2.2.2.2.2.2.2.2.2.2.2.2.1 z.2.2.2.2.2.2.2.2.2.2.2.2.2.2.2.2.2.2.2.2.2.2.2.2.2.2.2.2.1 z.2.2.2.2.2.2.2.2.2.2.2.2.2.2.2.2.2.2.2.2.2.2.2.2.2.2.2.2.2.1 z.2.2.2.2.2.2.2.2.2.2.2.2.2.2.2.2.2.2.2.2.2.2.2.2.2.2.2.2.2.2.1 z.2.2.2.2.2.2.2.2.2.2.2.2.2.2.2.2.2.2.2.2.2.2.2.2.2.2.2.2.2.2.2) (j0,j1,j2,j3,j4,j5,j6,j7,j8,j9,j10,b.1,b.2.1,b.2.2.2.2.2.2.1,b.2.2.2.2.2.2.2.1,b.2.2.2.2.2.2.2.2.1,b.2.2.2.2.2.2.2.2.2.1,b.2.2.2.2.2.2.2.2.2.2,k,i,a,c,l,j11,j12,j13,j14,j15,b.2.2.1,b.2.2.2.1,b.2.2.2.2.1,b.2.2.2.2.2.1) = some w ∧ (match shr (fun t=>fitP (k,i,a,c,t)) n l with | some t=>w = .inr (true,b.1,b.2.1,b.2.2.2.2.2.2.1,b.2.2.2.2.2.2.2.1,b.2.2.2.2.2.2.2.2.1,b.2.2.2.2.2.2.2.2.2.1,b.2.2.2.2.2.2.2.2.2.2,k,i,a,c,t,b.2.2.1,b.2.2.2.1,b.2.2.2.2.1,b.2.2.2.2.2.1) | none=>∃ d,w = .inl d)
 | 0,l,hl,hn,hx=>by
  refine ⟨_,loop_end (b:=Sum.inl (j0,j1,j2,j3,j4,j5,j6,j7,j8,j9,j10,b.1,b.2.1,b.2.2.2.2.2.2.1,b.2.2.2.2.2.2.2.1,b.2.2.2.2.2.2.2.2.1,b.2.2.2.2.2.2.2.2.2.1,b.2.2.2.2.2.2.2.2.2.2,k,i,a,c,l,j11,j12,j13,j14,j15,b.2.2.1,b.2.2.2.1,b.2.2.2.2.1,b.2.2.2.2.2.1)) ?_,⟨_,rfl⟩⟩
  dsimp only
  unfold eO
  rw [h165,cT,dF (by omega),obs,cF]
 | n + 1,l,hl,hn,hx=>by
  have hlt:(l.take n).length = n:=by rw [length_take]; omega
  have hcut:cut l 0 (w64 ((l.length:Int) - 1)) = some (l.take n):=by
   rw [w64_id (by omega) (by omega),show (l.length:Int) - 1 = (n:Int) by omega]
   have:=cut_ok (l:=l) (a:=0) (b:=n) (by omega) (by omega)
   simpa using this
  have hp:PLe M (k,i,a,c,l.take n):=⟨by show (l.take n).length ≤ 1048576; omega,fun x h=>hx x (mem_of_mem_take h)⟩
  have hstep:∀ q:Bool,fitP (k,i,a,c,l.take n) = q → eO p j0 j1 j2 j3 j4 j5 j6 j7 j8 j9 j10 b.1 b.2.1 b.2.2.2.2.2.2.1 b.2.2.2.2.2.2.2.1 b.2.2.2.2.2.2.2.2.1 b.2.2.2.2.2.2.2.2.2.1 b.2.2.2.2.2.2.2.2.2.2 k i a c l j11 j12 j13 j14 j15 b.2.2.1 b.2.2.2.1 b.2.2.2.2.1 b.2.2.2.2.2.1 = cond q (some (.inr (.inr (true,b.1,b.2.1,b.2.2.2.2.2.2.1,b.2.2.2.2.2.2.2.1,b.2.2.2.2.2.2.2.2.1,b.2.2.2.2.2.2.2.2.2.1,b.2.2.2.2.2.2.2.2.2.2,k,i,a,c,l.take n,b.2.2.1,b.2.2.2.1,b.2.2.2.2.1,b.2.2.2.2.2.1)))) (some (.inl (j0,j1,j2,j3,j4,j5,j6,j7,j8,j9,j10,b.1,b.2.1,b.2.2.2.2.2.2.1,b.2.2.2.2.2.2.2.1,b.2.2.2.2.2.2.2.2.1,b.2.2.2.2.2.2.2.2.2.1,b.2.2.2.2.2.2.2.2.2.2,k,i,a,c,l.take n,j11,j12,j13,j14,j15,b.2.2.1,b.2.2.2.1,b.2.2.2.2.1,b.2.2.2.2.2.1))):=by
   intro q hq
   unfold eO
   rw [h165,cT,dT (by omega),obs,cT,hcut,obs,fitsT hp,obs,hq]
  by_cases hf:fitP (k,i,a,c,l.take n) = true
  · have e:shr (fun t=>fitP (k,i,a,c,t)) (n + 1) l = some (l.take n):=if_pos hf
    rw [e]
    exact ⟨_,loop_end (hstep true hf),rfl⟩
  · have e:shr (fun t=>fitP (k,i,a,c,t)) (n + 1) l = shr (fun t=>fitP (k,i,a,c,t)) n (l.take n):=if_neg hf
    rw [e]
    obtain ⟨w,h1,h2⟩:=shrX h165 b j0 j1 j2 j3 j4 j5 j6 j7 j8 j9 j10 k i a c j11 j12 j13 j14 j15 n (l.take n) hlt (by omega) (fun x h=>hx x (mem_of_mem_take h))
    exact ⟨w,loop_in (hstep false (by simpa using hf)) h1,h2⟩
noncomputable def setV (b:Bridge) (l:List Bind):Bridge × Int × Int:=(dK b l).getD (b,0,0)
noncomputable def ansV (b:Bridge) (p:Pdu):Bridge × Pdu :=
 cond (p.1 == 160) (b,162,p.2.1,0,0,p.2.2.2.2.map fun x=>(x.1,getV b x.1))
  (cond (p.1 == 161) (b,162,p.2.1,0,0,p.2.2.2.2.map fun x=>nextV b x.1)
   (cond (p.1 == 165) (b,162,p.2.1,0,0,bulkV b p) ((setV b p.2.2.2.2).1,162,p.2.1,(setV b p.2.2.2.2).2.1,(setV b p.2.2.2.2).2.2,p.2.2.2.2)))
noncomputable def lessV (b:Bridge) (p:Pdu):Bridge × Pdu :=
 match cond (p.1 == 165) (shr (fun t=>fitP (162,p.2.1,0,0,t)) (bulkV b p).length (bulkV b p)) none with
 | some t=>(b,162,p.2.1,0,0,t)
 | none=>(b,162,p.2.1,7,0,[])
noncomputable def doneV (b:Bridge) (p:Pdu):Bridge × Pdu:=cond (fitP (ansV b p).2) (ansV b p) (lessV b p)
noncomputable def askP (b:Bridge) (p:Pdu):Bool:=pBridge b && (pPdu p && (p.1 != 162))
noncomputable def replyV (b:Bridge) (p:Pdu):Bridge × Pdu × Bool:=cond (askP b p) ((doneV b p).1,(doneV b p).2,true) (b,(0,0,0,0,[]),false)
theorem pdu_xs {p:Pdu} (hp:pPdu p = true):XsLe M p.2.2.2.2:=by
 obtain ⟨h1,h2,_⟩:=pPdu_parts hp
 exact ⟨by show _ ≤ 1048576; omega,fun x hx=>bind_small (h1 x hx)⟩
theorem replyT {b:Bridge} (h:BWf b) (hb:BLe M b) {p:Pdu} (hp:PLe M p):cK b p = some (replyV b p):=by
 unfold cK replyV askP
 rw [copyBridge hb,obs,bridgeT h,obs]
 cases hbr:pBridge b with
 | false=>rw [Bool.not_false,cT,obs,cT,obs,cT]; rfl
 | true =>
 rw [Bool.not_true,cF,pduT hp,obs,obs]
 cases hpp:pPdu p with
 | false=>rw [Bool.not_false,cT,obs,cT]; rfl
 | true =>
 rw [Bool.not_true,cF,obs]
 cases h162:(p.1 == 162) with
 | true =>
  have:(p.1 != 162) = false:=by rw [bne,h162]; rfl
  rw [cT,this]; rfl
 | false =>
 have hne:(p.1 != 162) = true:=by rw [bne,h162]; rfl
 have hBO:=bok h hbr
 obtain ⟨x1,x2,x3,x4,x5,x6⟩:=pPdu_parts hpp
 have hxs:=pdu_xs hpp
 rw [cF,hne,Bool.true_and,Bool.true_and,cT]
 unfold doneV ansV lessV
 cases h160:(p.1 == 160) with
 | true =>
  have h165:(p.1 == 165) = false:=by simp only [beq_iff_eq] at h160; rw [h160]; rfl
  have e:loop (fun z:Int × Int × Int × Int × Int × List Bind=>eM b p z.1 z.2.1 z.2.2.1 z.2.2.2.1 z.2.2.2.2.1 z.2.2.2.2.2) (0,162,p.2.1,0,0,[]) = some (162,p.2.1,0,0,p.2.2.2.2.map fun x=>(x.1,getV b x.1)):=by
   obtain ⟨v,e1,rfl⟩:=loop_inv (step:=fun z:Int × Int × Int × Int × Int × List Bind=>eM b p z.1 z.2.1 z.2.2.1 z.2.2.2.1 z.2.2.2.2.1 z.2.2.2.2.2) (fun k z=>z = ((k:Int),162,p.2.1,0,0,(p.2.2.2.2.take k).map fun x=>(x.1,getV b x.1))) p.2.2.2.2.length (fun v=>v = (162,p.2.1,0,0,p.2.2.2.2.map fun x=>(x.1,getV b x.1)))
    (fun k z hk e=>by
     subst e
     refine .inl ⟨_,?_,rfl⟩
     have hx:=pOid_len (xOk_oid (x1 _ (getElem_mem hk)))
     dsimp only
     unfold eM
     rw [dlt (by omega),cT,at_nat hk,obs,copyInts (by show _ ≤ 1048576; omega),obs,(getE hBO (by omega)).1,obs,app_small (by rw [length_map,length_take]; show min k _ + 1 ≤ _; omega),obs,w64_nat (by omega),
      take_add_one,List.getElem?_eq_getElem hk,map_append]; rfl)
    (fun z e=>by
     subst e
     refine ⟨_,?_,rfl⟩
     dsimp only
     unfold eM
     rw [dnlt (by omega),cF,take_length]) (x:=(0,162,p.2.1,0,0,[])) rfl
   exact e1
  simp only [cT,cF]
  rw [e,obs,fitsT ⟨by show (p.2.2.2.2.map _).length ≤ 1048576; rw [length_map]; omega,fun x hx=>by
   obtain ⟨y,hy,rfl⟩:=mem_map.1 hx
   exact bind_small (by unfold xOk; rw [xOk_oid (x1 y hy),getOk hBO (by have:=pOid_len (xOk_oid (x1 y hy)); omega)]; rfl)⟩,obs]
  cases fitP (162,p.2.1,0,0,p.2.2.2.2.map fun x=>(x.1,getV b x.1)) with
  | true=>rfl
  | false =>
   simp only [cF]
   refine bind_end ?_ fun d=>?_
   · dsimp only
     unfold kF
     rw [h165,cF,obs,cF]
     exact ⟨_,rfl⟩
   · rw [obs]; simp only [h165,cF]
 | false =>
 cases h161:(p.1 == 161) with
 | true =>
  have h165:(p.1 == 165) = false:=by simp only [beq_iff_eq] at h161; rw [h161]; rfl
  have e:loop (fun z:Int × Int × Int × Int × Int × List Bind=>eN b p z.1 z.2.1 z.2.2.1 z.2.2.2.1 z.2.2.2.2.1 z.2.2.2.2.2) (0,162,p.2.1,0,0,[]) = some (162,p.2.1,0,0,p.2.2.2.2.map fun x=>nextV b x.1):=by
   obtain ⟨v,e1,rfl⟩:=loop_inv (step:=fun z:Int × Int × Int × Int × Int × List Bind=>eN b p z.1 z.2.1 z.2.2.1 z.2.2.2.1 z.2.2.2.2.1 z.2.2.2.2.2) (fun k z=>z = ((k:Int),162,p.2.1,0,0,(p.2.2.2.2.take k).map fun x=>nextV b x.1)) p.2.2.2.2.length (fun v=>v = (162,p.2.1,0,0,p.2.2.2.2.map fun x=>nextV b x.1))
    (fun k z hk e=>by
     subst e
     refine .inl ⟨_,?_,rfl⟩
     have hx:=pOid_len (xOk_oid (x1 _ (getElem_mem hk)))
     dsimp only
     unfold eN
     rw [dlt (by omega),cT,at_nat hk,obs,(nextE hBO (by omega)).1,obs,app_small (by rw [length_map,length_take]; show min k _ + 1 ≤ _; omega),obs,w64_nat (by omega),
      take_add_one,List.getElem?_eq_getElem hk,map_append]; rfl)
    (fun z e=>by
     subst e
     refine ⟨_,?_,rfl⟩
     dsimp only
     unfold eN
     rw [dnlt (by omega),cF,take_length]) (x:=(0,162,p.2.1,0,0,[])) rfl
   exact e1
  simp only [cT,cF]
  rw [e,obs,fitsT ⟨by show (p.2.2.2.2.map _).length ≤ 1048576; rw [length_map]; omega,fun x hx=>by
   obtain ⟨y,hy,rfl⟩:=mem_map.1 hx
   exact bind_small (nextOk hBO (xOk_oid (x1 y hy)))⟩,obs]
  cases fitP (162,p.2.1,0,0,p.2.2.2.2.map fun x=>nextV b x.1) with
  | true=>rfl
  | false =>
   simp only [cF]
   refine bind_end ?_ fun d=>?_
   · dsimp only
     unfold kG
     rw [h165,cF,obs,cF]
     exact ⟨_,rfl⟩
   · rw [obs]; simp only [h165,cF]
 | false =>
 cases h165:(p.1 == 165) with
 | true =>
  have hbk:=bulk_ok hBO hpp
  have hbx:∀ x ∈ bulkV b p,XLe M x:=fun x hx=>bind_small (hbk.oOk x hx)
  have hbn:(bulkV b p).length ≤ 10:=hbk.o10
  simp only [cT,cF]
  rw [bulkX hBO hpp,obs,fitsT ⟨by show (bulkV b p).length ≤ 1048576; omega,hbx⟩,obs]
  cases fitP (162,p.2.1,0,0,bulkV b p) with
  | true=>rfl
  | false =>
   simp only [cF]
   obtain ⟨w,e1,e2⟩:=shrX h165 b 0 [] 0 0 0 0 0 0 0 0 0 162 p.2.1 0 0 [] [] [] [] [] _ (bulkV b p) rfl hbn hbx
   rw [e1,obs]
   cases hs:shr (fun t=>fitP (162,p.2.1,0,0,t)) (bulkV b p).length (bulkV b p) with
   | some t=>rw [hs] at e2; rw [e2]; rfl
   | none =>
    rw [hs] at e2
    obtain ⟨d,rfl⟩:=e2
    rw [Sum.elim_inl,obs]; try rfl
 | false =>
  obtain ⟨r,r1,_,_,_⟩:=setAllX h hb hxs
  have hr:setV b p.2.2.2.2 = r:=by unfold setV; rw [r1]; rfl
  simp only [cF]
  rw [r1,obs,copyBinds hxs,obs,hr,fitsT (p:=(162,p.2.1,r.2.1,r.2.2,p.2.2.2.2)) ⟨hxs.1,hxs.2⟩,obs]
  cases fitP (162,p.2.1,r.2.1,r.2.2,p.2.2.2.2) with
  | true=>rfl
  | false =>
   simp only [cF]
   refine bind_end ?_ fun d=>?_
   · dsimp only
     unfold kH
     rw [h165,cF,obs,cF]
     exact ⟨_,rfl⟩
   · rw [obs]

def aW (a:Agent):List UInt8:=a.2.2.2.2.2.2.2.2.2.2.2.1
def mkA (b:Bridge) (w:List UInt8) (l:List Job) (lo la:Int):Agent:=(b.1,b.2.1,b.2.2.1,b.2.2.2.1,b.2.2.2.2.1,b.2.2.2.2.2.1,b.2.2.2.2.2.2.1,b.2.2.2.2.2.2.2.1,b.2.2.2.2.2.2.2.2.1,b.2.2.2.2.2.2.2.2.2.1,b.2.2.2.2.2.2.2.2.2.2,w,l,lo,la)
def mkJ (id:Int) (m:List Int) (ph:Int) (p:Pdu) (s:Bridge) (at' tr:Int):Job:=(id,m,ph,p.1,p.2.1,p.2.2.1,p.2.2.2.1,p.2.2.2.2,s.1,s.2.1,s.2.2.1,s.2.2.2.1,s.2.2.2.2.1,s.2.2.2.2.2.1,s.2.2.2.2.2.2.1,s.2.2.2.2.2.2.2.1,s.2.2.2.2.2.2.2.2.1,s.2.2.2.2.2.2.2.2.2.1,s.2.2.2.2.2.2.2.2.2.2,at',tr)
theorem dropT {b:Bridge} {w:List UInt8} {l:List Job} {lo la:Int} {k:Nat} (hk:k < l.length) (hl:l.length ≤ M):bR (mkA b w l lo la) (k:Int) = some (mkA b w (l.eraseIdx k) lo la):=by
 have hM:M = 1048576:=rfl
 have c1:cutIx l.length 0 (k:Int) = some (0,k):=by
  unfold cutIx; rw [if_pos (by omega),if_pos (by omega),if_pos (by omega)]; simp
 have c2:cutIx l.length (w64 ((k:Int) + 1)) (l.length:Int) = some (k + 1,l.length):=by
  rw [w64_nat (by omega)]
  unfold cutIx; rw [if_pos (by omega),if_pos (by omega),if_pos (by omega)]; simp
 have c3:cutTwo l 0 k (k + 1) l.length = some (l.eraseIdx k):=by
  unfold cutTwo
  rw [if_pos (by omega),take_length,drop_zero,app_small (by rw [length_take,length_drop]; omega),← List.eraseIdx_eq_take_drop_succ]
 unfold bR mkA
 simp only [c1,obs,c2,c3]
def begJ (b:Bridge) (j:Job):Job:=mkJ j.1 j.2.1 1 (jP j) b 0 (jTries j)
theorem beginT {b:Bridge} (hb:BLe M b) {w:List UInt8} {l:List Job} {lo la:Int} {k:Nat} (hk:k < l.length):eD (mkA b w l lo la) (k:Int) = some (mkA b w (l.set k (begJ b l[k])) lo la):=by
 have cb:=copyBridge hb
 unfold eD mkA
 simp only [ix_nat hk,obs]
 have cb':ap (b.1,b.2.1,b.2.2.1,b.2.2.2.1,b.2.2.2.2.1,b.2.2.2.2.2.1,b.2.2.2.2.2.2.1,b.2.2.2.2.2.2.2.1,b.2.2.2.2.2.2.2.2.1,b.2.2.2.2.2.2.2.2.2.1,b.2.2.2.2.2.2.2.2.2.2) = some b:=cb
 simp only [cb',obs,List.getElem?_eq_getElem hk,List.getElem?_set_self hk,set_set]
 rfl
def moreV (n:Int):Int:=min2 (w64 (n + 1)) 1000000
theorem moreE (n:Int):aU n = some (moreV n):=rfl
def wordB (b:Bridge):Bridge:=(b.1,b.2.1,b.2.2.1,b.2.2.2.1,b.2.2.2.2.1,b.2.2.2.2.2.1,b.2.2.2.2.2.2.1,b.2.2.2.2.2.2.2.1,moreV b.2.2.2.2.2.2.2.2.1,b.2.2.2.2.2.2.2.2.2.1,b.2.2.2.2.2.2.2.2.2.2)
def parseB (b:Bridge):Bridge:=(b.1,b.2.1,b.2.2.1,b.2.2.2.1,b.2.2.2.2.1,b.2.2.2.2.2.1,b.2.2.2.2.2.2.1,moreV b.2.2.2.2.2.2.2.1,b.2.2.2.2.2.2.2.2.1,b.2.2.2.2.2.2.2.2.2.1,b.2.2.2.2.2.2.2.2.2.2)
noncomputable def msgV (w:List UInt8) (m:List Int):Pdu × Int:=(bP w m).getD ((0,0,0,0,[]),0)
theorem msgE (w:List UInt8) {m:List Int} (hb:Byt m) (hn:m.length ≤ M):bP w m = some (msgV w m) ∧ cG w m = some (msgV w m) ∧ PLe M (msgV w m).1 ∧ ((msgV w m).2 = 0 → pPdu (msgV w m).1 = true):=by
 obtain ⟨r,h1,h2,h3,h4⟩:=getMsg w hb hn
 unfold msgV
 rw [h1]
 exact ⟨rfl,h2,h3,h4⟩
noncomputable def lateV (p:Pdu):Pdu:=cond (fitP (162,p.2.1,6,1,p.2.2.2.2)) (162,p.2.1,6,1,p.2.2.2.2) (162,p.2.1,7,0,[])
theorem lateT {p:Pdu} (hp:PLe M p):eP p = some (lateV p):=by
 unfold eP lateV
 rw [copyBinds hp,obs,fitsT (p:=(162,p.2.1,6,1,p.2.2.2.2)) hp,obs]
 cases fitP (162,p.2.1,6,1,p.2.2.2.2) <;> rfl
inductive Fate where
 | stay (j:Job) | gone (d:List Done)
noncomputable def jobStep (w:List UInt8) (b:Bridge) (j:Job):Bridge × Fate :=
 cond (j.2.2.1 == 0)
  (cond ((msgV w j.2.1).2 == 3) (wordB b,.gone [])
   (cond ((msgV w j.2.1).2 != 0 || ((msgV w j.2.1).1.1 == 162)) (parseB b,.gone [])
    (b,.stay (mkJ j.1 j.2.1 1 (msgV w j.2.1).1 b 0 (jTries j)))))
  (cond (j.2.2.1 == 2)
   (cond (j.2.2.2.1 != 163) (b,.gone [(j.1,(replyV (jB j) (jP j)).2.1)])
    (cond (b.2.2.2.2.2.2.2.2.2.2 == (jB j).2.2.2.2.2.2.2.2.2.2) ((replyV b (jP j)).1,.gone [(j.1,(replyV b (jP j)).2.1)])
     (cond (decide (jTries j ≥ 3)) (b,.gone [(j.1,lateV (jP j))])
      (b,.stay (mkJ j.1 j.2.1 1 (jP j) b 0 (w64 (jTries j + 1)))))))
   (cond (decide (jAt j < ((jP j).2.2.2.2.length:Int))) (b,.stay (mkJ j.1 j.2.1 j.2.2.1 (jP j) (jB j) (w64 (jAt j + 1)) (jTries j)))
    (b,.stay (mkJ j.1 j.2.1 2 (jP j) (jB j) (jAt j) (jTries j)))))
noncomputable def workV (a:Agent) (k:Nat) (j:Job):Agent × List Done :=
 match (jobStep (aW a) (aB a) j).2 with
 | .stay j'=>(mkA (jobStep (aW a) (aB a) j).1 (aW a) ((aJobs a).set k j') (aLost a) (aLast a),[])
 | .gone d=>(mkA (jobStep (aW a) (aB a) j).1 (aW a) ((aJobs a).eraseIdx k) (aLost a) (aLast a),d)
theorem readT {b:Bridge} (hb:BLe M b) {w:List UInt8} {l:List Job} {lo la:Int} {k:Nat} (hk:k < l.length) (hl:l.length ≤ M) (h1:Byt l[k].2.1) (h2:l[k].2.1.length ≤ M) :
 eE (mkA b w l lo la) (k:Int) = some (cond ((msgV w l[k].2.1).2 == 3) (mkA (wordB b) w (l.eraseIdx k) lo la)
  (cond ((msgV w l[k].2.1).2 != 0 || ((msgV w l[k].2.1).1.1 == 162)) (mkA (parseB b) w (l.eraseIdx k) lo la) (mkA b w (l.set k (mkJ l[k].1 l[k].2.1 1 (msgV w l[k].2.1).1 b 0 (jTries l[k]))) lo la))):=by
 obtain ⟨m1,_,m3,_⟩:=msgE w h1 h2
 unfold eE
 have d1:=dropT (b:=wordB b) (w:=w) (lo:=lo) (la:=la) hk hl
 have d2:=dropT (b:=parseB b) (w:=w) (lo:=lo) (la:=la) hk hl
 unfold wordB mkA at d1
 unfold parseB mkA at d2
 dsimp only [mkA]
 simp only [ix_nat hk,obs,List.getElem?_eq_getElem hk,m1,moreE]
 rw [d1,d2]
 cases ((msgV w l[k].2.1).2 == 3) with
 | true=>rfl
 | false =>
  simp only [cF,obs]
  cases ((msgV w l[k].2.1).2 != 0) with
  | true=>rfl
  | false =>
   simp only [cF,obs,Bool.false_or]
   cases ((msgV w l[k].2.1).1.1 == 162) with
   | true=>rfl
   | false =>
    simp only [cF,obs]
    have hs:k < (l.set k (mkJ l[k].1 l[k].2.1 l[k].2.2.1 (msgV w l[k].2.1).1 (jB l[k]) (jAt l[k]) (jTries l[k]))).length:=by rw [length_set]; exact hk
    have e:=beginT hb (w:=w) (lo:=lo) (la:=la) hs
    unfold mkA at e
    have e2:begJ b (l.set k (mkJ l[k].1 l[k].2.1 l[k].2.2.1 (msgV w l[k].2.1).1 (jB l[k]) (jAt l[k]) (jTries l[k])))[k] = mkJ l[k].1 l[k].2.1 1 (msgV w l[k].2.1).1 b 0 (jTries l[k]):=by
     rw [getElem_set_self]; rfl
    rw [e2,set_set] at e
    refine (congrArg (fun o=>Option.bind o fun t=>some t) e).trans ?_
    rfl
theorem finishT {b:Bridge} (hw:BWf b) (hb:BLe M b) {w:List UInt8} {l:List Job} {lo la:Int} {k:Nat} (hk:k < l.length) (hl:l.length ≤ M) (h1:JWf l[k]) (h2:JLe M l[k]) :
 eQ (mkA b w l lo la) (k:Int) = some (cond (l[k].2.2.2.1 != 163) (mkA b w (l.eraseIdx k) lo la,[(l[k].1,(replyV (jB l[k]) (jP l[k])).2.1)])
  (cond (b.2.2.2.2.2.2.2.2.2.2 == (jB l[k]).2.2.2.2.2.2.2.2.2.2) (mkA (replyV b (jP l[k])).1 w (l.eraseIdx k) lo la,[(l[k].1,(replyV b (jP l[k])).2.1)])
   (cond (decide (jTries l[k] ≥ 3)) (mkA b w (l.eraseIdx k) lo la,[(l[k].1,lateV (jP l[k]))])
    (mkA b w (l.set k (mkJ l[k].1 l[k].2.1 1 (jP l[k]) b 0 (w64 (jTries l[k] + 1)))) lo la,[])))):=by
 have r1:=replyT h1.b h2.2.2 h1.p
 have r2:=replyT hw hb h1.p
 have r3:=lateT h1.p
 have d1:=dropT (b:=b) (w:=w) (lo:=lo) (la:=la) hk hl
 have d2:=dropT (b:=(replyV b (jP l[k])).1) (w:=w) (lo:=lo) (la:=la) hk hl
 unfold eQ
 dsimp only [mkA]
 simp only [ix_nat hk,obs,List.getElem?_eq_getElem hk]
 unfold mkA at d1
 cases hkind:(l[k].2.2.2.1 != 163) with
 | true =>
  simp only [cT]
  rw [show cK (l[k].2.2.2.2.2.2.2.2.1,l[k].2.2.2.2.2.2.2.2.2.1,l[k].2.2.2.2.2.2.2.2.2.2.1,l[k].2.2.2.2.2.2.2.2.2.2.2.1,l[k].2.2.2.2.2.2.2.2.2.2.2.2.1,l[k].2.2.2.2.2.2.2.2.2.2.2.2.2.1,l[k].2.2.2.2.2.2.2.2.2.2.2.2.2.2.1,l[k].2.2.2.2.2.2.2.2.2.2.2.2.2.2.2.1,l[k].2.2.2.2.2.2.2.2.2.2.2.2.2.2.2.2.1,l[k].2.2.2.2.2.2.2.2.2.2.2.2.2.2.2.2.2.1,l[k].2.2.2.2.2.2.2.2.2.2.2.2.2.2.2.2.2.2.1) (l[k].2.2.2.1,l[k].2.2.2.2.1,l[k].2.2.2.2.2.1,l[k].2.2.2.2.2.2.1,l[k].2.2.2.2.2.2.2.1) = some (replyV (jB l[k]) (jP l[k])) from r1,obs,d1,obs]
 | false =>
  simp only [cF]
  show cond (b.2.2.2.2.2.2.2.2.2.2 == (jB l[k]).2.2.2.2.2.2.2.2.2.2) _ _ = _
  cases hv:(b.2.2.2.2.2.2.2.2.2.2 == (jB l[k]).2.2.2.2.2.2.2.2.2.2) with
  | true =>
   simp only [cT]
   rw [show cK (b.1,b.2.1,b.2.2.1,b.2.2.2.1,b.2.2.2.2.1,b.2.2.2.2.2.1,b.2.2.2.2.2.2.1,b.2.2.2.2.2.2.2.1,b.2.2.2.2.2.2.2.2.1,b.2.2.2.2.2.2.2.2.2.1,b.2.2.2.2.2.2.2.2.2.2) (l[k].2.2.2.1,l[k].2.2.2.2.1,l[k].2.2.2.2.2.1,l[k].2.2.2.2.2.2.1,l[k].2.2.2.2.2.2.2.1) = some (replyV b (jP l[k])) from r2,obs]
   unfold mkA at d2
   rw [d2,obs]
  | false =>
   simp only [cF]
   show cond (decide (jTries l[k] ≥ 3)) _ _ = _
   cases hq:decide (jTries l[k] ≥ 3) with
   | true =>
    simp only [cT]
    rw [show eP (l[k].2.2.2.1,l[k].2.2.2.2.1,l[k].2.2.2.2.2.1,l[k].2.2.2.2.2.2.1,l[k].2.2.2.2.2.2.2.1) = some (lateV (jP l[k])) from r3,obs,d1,obs]
   | false =>
    simp only [cF]
    have hs:k < (l.set k (mkJ l[k].1 l[k].2.1 l[k].2.2.1 (jP l[k]) (jB l[k]) (jAt l[k]) (w64 (jTries l[k] + 1)))).length:=by rw [length_set]; exact hk
    have e:=beginT hb (w:=w) (lo:=lo) (la:=la) hs
    unfold mkA at e
    have e2:begJ b (l.set k (mkJ l[k].1 l[k].2.1 l[k].2.2.1 (jP l[k]) (jB l[k]) (jAt l[k]) (w64 (jTries l[k] + 1))))[k] = mkJ l[k].1 l[k].2.1 1 (jP l[k]) b 0 (w64 (jTries l[k] + 1)):=by
     rw [getElem_set_self]; rfl
    rw [e2,set_set] at e
    refine (congrArg (fun o=>Option.bind o fun t=>some (t,([]:List Done))) e).trans ?_
    rfl
theorem workT {a:Agent} (hw:BWf (aB a)) (hl:ALe M a) {k:Nat} (hk:k < (aJobs a).length) (h1:JWf (aJobs a)[k]) (h2:Byt (aJobs a)[k].2.1):eR a (k:Int) = some (workV a k (aJobs a)[k]):=by
 obtain ⟨hb,_,hn,hj⟩:=hl
 have hJ:=hj _ (getElem_mem hk)
 have hn:(aJobs a).length ≤ M:=hn
 have e1:=readT hb (w:=aW a) (l:=aJobs a) (lo:=aLost a) (la:=aLast a) hk hn h2 hJ.1
 have e2:=finishT hw hb (w:=aW a) (l:=aJobs a) (lo:=aLost a) (la:=aLast a) hk hn h1 hJ
 have c0:ix a.2.2.2.2.2.2.2.2.2.2.2.2.1.length (k:Int) = some k:=ix_nat hk
 have c1:a.2.2.2.2.2.2.2.2.2.2.2.2.1[k]? = some (aJobs a)[k]:=List.getElem?_eq_getElem hk
 have e1:eE a (k:Int) = _:=e1
 have e2:eQ a (k:Int) = _:=e2
 unfold eR workV jobStep
 rw [c0,obs]
 simp only [c1,obs]
 cases hp0:((aJobs a)[k].2.2.1 == 0) with
 | true =>
  rw [cT,e1,obs]
  cases ((msgV (aW a) (aJobs a)[k].2.1).2 == 3) with
  | true=>rfl
  | false =>
   cases ((msgV (aW a) (aJobs a)[k].2.1).2 != 0 || ((msgV (aW a) (aJobs a)[k].2.1).1.1 == 162)) <;> rfl
 | false =>
  rw [cF]
  cases hp2:((aJobs a)[k].2.2.1 == 2) with
  | true =>
   rw [cT,e2,obs]
   cases ((aJobs a)[k].2.2.2.1 != 163) with
   | true=>rfl
   | false =>
    cases ((aB a).2.2.2.2.2.2.2.2.2.2 == (jB (aJobs a)[k]).2.2.2.2.2.2.2.2.2.2) with
    | true=>rfl
    | false=>cases decide (jTries (aJobs a)[k] ≥ 3) <;> rfl
  | false =>
   simp only [cF]
   show cond (decide (jAt (aJobs a)[k] < ((jP (aJobs a)[k]).2.2.2.2.length:Int))) _ _ = _
   cases decide (jAt (aJobs a)[k] < ((jP (aJobs a)[k]).2.2.2.2.length:Int)) <;> rfl

theorem more_in {n:Int} (h:pIn n 0 1000000 = true):pIn (moreV n) 0 1000000 = true:=by
 obtain ⟨r,h1,_,h3⟩:=moreX h
 rw [moreE] at h1
 cases h1; exact h3
theorem bok_parts {b:Bridge} (h:pBridge b = true):pCounts b = true ∧ ∀ c,pCounts (b.1,b.2.1,b.2.2.1,b.2.2.2.1,b.2.2.2.2.1,b.2.2.2.2.2.1,c) = true → pBridge (b.1,b.2.1,b.2.2.1,b.2.2.2.1,b.2.2.2.2.1,b.2.2.2.2.2.1,c) = true:=by
 unfold pBridge at h ⊢
 simp only [aT] at h ⊢
 obtain ⟨h1,h2,h3,h4,h5,h6,h7⟩:=h
 exact ⟨h7,fun c hc=>⟨h1,h2,h3,h4,h5,h6,hc⟩⟩
theorem bok_counts {b:Bridge} (h:BOk b) {c:Int × Int × Int × Int × Int} (hc:pCounts (b.1,b.2.1,b.2.2.1,b.2.2.2.1,b.2.2.2.2.1,b.2.2.2.2.2.1,c) = true):BOk (b.1,b.2.1,b.2.2.1,b.2.2.2.1,b.2.2.2.2.1,b.2.2.2.2.2.1,c) :=
 bok ⟨h.w.p,h.w.f,h.w.v,h.w.q,h.w.r⟩ ((bok_parts h.ok).2 c hc)
theorem counts_parts {b:Bridge} (h:pCounts b = true):pIn b.2.2.2.2.2.2.1 0 1000000 = true ∧ pIn b.2.2.2.2.2.2.2.1 0 1000000 = true ∧ pIn b.2.2.2.2.2.2.2.2.1 0 1000000 = true ∧ pIn b.2.2.2.2.2.2.2.2.2.1 0 1000000 = true ∧ pIn b.2.2.2.2.2.2.2.2.2.2 0 1000000 = true:=by
 unfold pCounts at h
 simpa only [aT] using h
theorem bok_word {b:Bridge} (h:BOk b):BOk (wordB b):=by
 refine bok_counts h ?_
 obtain ⟨h1,h2,h3,h4,h5⟩:=counts_parts (bok_parts h.ok).1
 unfold pCounts
 simp only [aT]
 exact ⟨h1,h2,more_in h3,h4,h5⟩
theorem bok_parse {b:Bridge} (h:BOk b):BOk (parseB b):=by
 refine bok_counts h ?_
 obtain ⟨h1,h2,h3,h4,h5⟩:=counts_parts (bok_parts h.ok).1
 unfold pCounts
 simp only [aT]
 exact ⟨h1,more_in h2,h3,h4,h5⟩
theorem bwf_of {b:Bridge} (h:SOk b) (hl:BLe M b):BWf b:=by
 obtain ⟨_,l2,l3,l4,l5⟩:=hl
 have hM:M < 9223372036854775807:=by decide
 exact ⟨by omega,by omega,by omega,by omega,h.h⟩
theorem setE {b:Bridge} (h:BOk b) {l:List Bind} (hl:XsLe M l):dK b l = some (setV b l) ∧ BOk (setV b l).1:=by
 obtain ⟨r,r1,_,r3,r4,_⟩:=setAllX h.w h.le hl
 unfold setV
 rw [r1]
 obtain ⟨k1,k2⟩:=r4 h.ok
 exact ⟨rfl,bok (bwf_of k1 r3) k2⟩
theorem ansV_bok {b:Bridge} (h:BOk b) {p:Pdu} (hp:pPdu p = true):BOk (ansV b p).1:=by
 unfold ansV
 cases (p.1 == 160) <;> cases (p.1 == 161) <;> cases (p.1 == 165) <;> first | exact h | exact (setE h (pdu_xs hp)).2
theorem lessV_b (b:Bridge) (p:Pdu):(lessV b p).1 = b:=by
 unfold lessV
 split <;> rfl
theorem replyV_bok {b:Bridge} (h:BOk b) (p:Pdu):BOk (replyV b p).1:=by
 unfold replyV
 cases hq:askP b p with
 | false=>exact h
 | true =>
  unfold askP at hq
  simp only [aT] at hq
  rw [cT]
  unfold doneV
  cases fitP (ansV b p).2 with
  | true=>exact ansV_bok h hq.2.1
  | false=>rw [cF,lessV_b]; exact h
theorem pdu_kind {p:Pdu} (hp:pPdu p = true):p.1 = 160 ∨ p.1 = 161 ∨ p.1 = 162 ∨ p.1 = 163 ∨ p.1 = 165:=by
 unfold pPdu at hp
 by_cases h0:p.1 = 160; · exact .inl h0
 by_cases h1:p.1 = 161; · exact .inr (.inl h1)
 by_cases h2:p.1 = 162; · exact .inr (.inr (.inl h2))
 by_cases h3:p.1 = 163; · exact .inr (.inr (.inr (.inl h3)))
 by_cases h5:p.1 = 165; · exact .inr (.inr (.inr (.inr h5)))
 simp [h0,h1,h2,h3,h5] at hp
structure JInv (j:Job):Prop where
 byt:Byt j.2.1
 len:j.2.1.length ≤ M
 ph:pIn j.2.2.1 0 2 = true
 at':pIn (jAt j) 0 ((jP j).2.2.2.2.length:Int) = true
 tr:pIn (jTries j) 0 3 = true
 ok:(j.2.2.1 == 0) = true ∨ (pPdu (jP j) = true ∧ ((jP j).1 != 162) = true ∧ BOk (jB j))
 pl:PLe M (jP j)
 bw:BWf (jB j)
 bl:BLe M (jB j)
theorem JInv.jwf {j:Job} (h:JInv j):JWf j:=⟨h.pl,h.bw⟩
theorem JInv.jle {j:Job} (h:JInv j):JLe M j:=⟨h.len,h.pl,h.bl⟩
structure AInv (a:Agent):Prop where
 b:BOk (aB a)
 w:(aW a).length ≤ 20
 n:(aJobs a).length ≤ 6
 lo:pIn (aLost a) 0 1000000 = true
 la:pIn (aLast a) 0 1000000 = true
 ids:∀ j ∈ aJobs a,pIn j.1 1 (aLast a) = true
 up:(aJobs a).Pairwise fun i j=>i.1 < j.1
 j:∀ j ∈ aJobs a,JInv j
theorem AInv.ale {a:Agent} (h:AInv a):ALe M a:=⟨h.b.le,by have:=h.w; show (aW a).length ≤ 1048576; omega,by have:=h.n; show (aJobs a).length ≤ 1048576; omega,fun x hx=>(h.j x hx).jle⟩
theorem AInv.awf {a:Agent} (h:AInv a):AWf a:=⟨h.b.w,by have:=h.n; omega,fun x hx=>(h.j x hx).jwf⟩
theorem AInv.ok {a:Agent} (h:AInv a):pAgent a = true:=by
 have hn:=h.n
 have hw:=h.w
 unfold pAgent
 have h1:(List.range (aJobs a).length).any (bJob (aJobs a) (aLast a)) = false:=by
  rw [any_eq_false]
  intro k hk
  have hk:=mem_range.1 hk
  unfold bJob
  have hj:=h.j _ (getElem_mem hk)
  have hp:pJob (aJobs a)[k] = true:=by
   unfold pJob
   simp only [aT,Bool.or_eq_true]
   refine ⟨hj.ph,hj.at',hj.tr,hj.ok.imp (fun e=>e) fun ⟨k1,k2,k3⟩=>⟨k1,k2,k3.ok⟩⟩
  simp only [List.getElem?_eq_getElem hk,h.ids _ (getElem_mem hk),hp,Bool.and_self,Bool.not_true,Bool.false_or]
  by_cases h0:0 < k
  · have:=List.pairwise_iff_getElem.1 h.up (k - 1) k (by omega) hk (by omega)
    simp only [List.getElem?_eq_getElem (show k - 1 < (aJobs a).length by omega),aT,decide_eq_true_eq]
    omega
  · rw [dF h0]; simp
 rw [h1]
 simp only [Bool.not_false,Bool.true_and,aT,decide_eq_true_eq]
 exact ⟨h.b.ok,by show ((aW a).length:Int) ≤ 20; omega,by omega,h.lo,h.la⟩
theorem ainv_of {a:Agent} (h:AWf a) (hl:ALe M a) (hb:∀ j ∈ aJobs a,Byt j.2.1) (hp:pAgent a = true):AInv a:=by
 unfold pAgent at hp
 simp only [aT,Bool.not_eq_true',decide_eq_true_eq] at hp
 obtain ⟨h1,h2,h3,h4,h5,h6⟩:=hp
 have key:∀ k (hk:k < (aJobs a).length),pIn (aJobs a)[k].1 1 (aLast a) = true ∧ pJob (aJobs a)[k] = true ∧ (∀ h0:0 < k,(aJobs a)[k - 1].1 < (aJobs a)[k].1):=by
  intro k hk
  have:=any_eq_false.1 h1 k (mem_range.2 hk)
  unfold bJob at this
  simp only [List.getElem?_eq_getElem hk,Bool.or_eq_true,Bool.not_eq_true',Bool.and_eq_false_iff,not_or] at this
  obtain ⟨t1,t2⟩:=this
  have e1:pIn (aJobs a)[k].1 1 (aLast a) = true:=by
   cases e:pIn (aJobs a)[k].1 1 (aLast a) with
   | true=>rfl
   | false=>exact absurd e t1.1
  have e2:pJob (aJobs a)[k] = true:=by
   cases e:pJob (aJobs a)[k] with
   | true=>rfl
   | false=>exact absurd e t1.2
  refine ⟨e1,e2,fun h0=>?_⟩
  rw [dT h0] at t2
  simp only [List.getElem?_eq_getElem (show k - 1 < (aJobs a).length by omega),Bool.true_and,decide_eq_true_eq] at t2
  omega
 refine ⟨bok h.b h2,by have:((aW a).length:Int) ≤ 20:=h3; omega,by omega,h5,h6,fun j hj=>?_,?_,fun j hj=>?_⟩
 · obtain ⟨k,hk,rfl⟩:=getElem_of_mem hj
   exact (key k hk).1
 · exact adj_pair (fun a b c h k=>by omega) fun k hk=>by
    have:=(key (k + 1) hk).2.2 (by omega)
    simpa using this
 · have hjw:=h.j j hj
   have hjl:=hl.2.2.2 j hj
   have hjb:=hb j hj
   obtain ⟨k,hk,rfl⟩:=getElem_of_mem hj
   have hp:=(key k hk).2.1
   unfold pJob at hp
   simp only [aT,Bool.or_eq_true] at hp
   obtain ⟨p1,p2,p3,p4⟩:=hp
   exact ⟨hjb,hjl.1,p1,p2,p3,p4.imp (fun e=>e) fun ⟨q1,q2,q3⟩=>⟨q1,q2,bok hjw.b q3⟩,hjw.p,hjw.b,hjl.2.2⟩
noncomputable def lastV (b:Bridge) (j:Job):Nat:=if (jP j).1 = 163 ∧ b.2.2.2.2.2.2.2.2.2.2 ≠ (jB j).2.2.2.2.2.2.2.2.2.2 ∧ jTries j < 3 then (jP j).2.2.2.2.length + 3 else 1
noncomputable def goodV (w:List UInt8) (m:List Int):Bool:=(msgV w m).2 == 0 && ((msgV w m).1.1 != 162)
noncomputable def asksV (w:List UInt8) (j:Job):Bool:=goodV w j.2.1 || decide (j.2.2.1 > 0)
noncomputable def needV (w:List UInt8) (b:Bridge) (j:Job):Nat :=
 if j.2.2.1 = 2 then lastV b j else if j.2.2.1 = 1 then (jP j).2.2.2.2.length - (jAt j).toNat + 1 + lastV b j
 else if goodV w j.2.1 = true then (msgV w j.2.1).1.2.2.2.2.length + 3 else 1
theorem done_kind {b:Bridge} (h:BOk b) {p:Pdu} (hp:pPdu p = true) (hk:(p.1 != 162) = true):askP b p = true ∧ (replyV b p).2.1 = (doneV b p).2 ∧ (replyV b p).1 = (doneV b p).1 ∧ (doneV b p).2.1 = 162 ∧ (doneV b p).2.2.1 = p.2.1:=by
 have e:askP b p = true:=by unfold askP; rw [h.ok,hp,hk]; rfl
 have e1:(ansV b p).2.1 = 162 ∧ (ansV b p).2.2.1 = p.2.1:=by
  unfold ansV
  cases (p.1 == 160) <;> cases (p.1 == 161) <;> cases (p.1 == 165) <;> exact ⟨rfl,rfl⟩
 have e2:(lessV b p).2.1 = 162 ∧ (lessV b p).2.2.1 = p.2.1:=by
  unfold lessV
  split <;> exact ⟨rfl,rfl⟩
 refine ⟨e,?_,?_,?_⟩
 · unfold replyV; rw [e,cT]
 · unfold replyV; rw [e,cT]
 · unfold doneV
   cases fitP (ansV b p).2 with
   | true=>exact e1
   | false=>exact e2
theorem late_kind (p:Pdu):(lateV p).1 = 162 ∧ (lateV p).2.1 = p.2.1:=by
 unfold lateV
 cases fitP (162,p.2.1,6,1,p.2.2.2.2) <;> exact ⟨rfl,rfl⟩
theorem ph_cases {j:Job} (h:JInv j):j.2.2.1 = 0 ∨ j.2.2.1 = 1 ∨ j.2.2.1 = 2:=by
 obtain ⟨h1,h2⟩:=pIn_true h.ph
 omega
theorem need1 {w:List UInt8} {b:Bridge} {j:Job} (h:j.2.2.1 = 1):needV w b j = (jP j).2.2.2.2.length - (jAt j).toNat + 1 + lastV b j:=by unfold needV; rw [if_neg (by omega),if_pos h]
theorem need2 {w:List UInt8} {b:Bridge} {j:Job} (h:j.2.2.1 = 2):needV w b j = lastV b j:=by unfold needV; rw [if_pos h]
def FateOk (w:List UInt8) (b b':Bridge) (j:Job):Fate → Prop
 | .stay j'=>b' = b ∧ JInv j' ∧ j'.1 = j.1 ∧ needV w b j' + 1 = needV w b j ∧ asksV w j' = asksV w j
 | .gone d=>BOk b' ∧ needV w b j = 1 ∧ (asksV w j = false → d = []) ∧ (asksV w j = true → ∃ p,d = [(j.1,p)] ∧ p.1 = 162)
theorem step_ok (w:List UInt8) {b:Bridge} (hb:BOk b) {j:Job} (h:JInv j):FateOk w b (jobStep w b j).1 j (jobStep w b j).2:=by
 obtain ⟨m1,_,m3,m4⟩:=msgE w h.byt h.len
 obtain ⟨t1,t2⟩:=pIn_true h.tr
 obtain ⟨a1,a2⟩:=pIn_true h.at'
 rcases ph_cases h with hp | hp | hp
 · -- it is read
   have hne2:¬ j.2.2.1 = 2:=by omega
   have hne1:¬ j.2.2.1 = 1:=by omega
   unfold jobStep
   rw [show (j.2.2.1 == 0) = true by rw [hp]; rfl,cT]
   have hgood:∀ q,goodV w j.2.1 = q → asksV w j = q:=by
    intro q hq; unfold asksV; rw [hq,dF (by omega),Bool.or_false]
   have hneed:goodV w j.2.1 = false → needV w b j = 1:=by
    intro hq; unfold needV; rw [if_neg hne2,if_neg hne1,if_neg (by rw [hq]; simp)]
   cases h3:((msgV w j.2.1).2 == 3) with
   | true =>
    have hg:goodV w j.2.1 = false:=by
     unfold goodV
     simp only [beq_iff_eq] at h3
     rw [h3]; rfl
    exact ⟨bok_word hb,hneed hg,fun _=>rfl,fun ha=>by rw [hgood _ hg] at ha; cases ha⟩
   | false =>
    cases h4:((msgV w j.2.1).2 != 0 || ((msgV w j.2.1).1.1 == 162)) with
    | true =>
     have hg:goodV w j.2.1 = false:=by
      unfold goodV
      rw [bne] at h4 ⊢
      cases e1:((msgV w j.2.1).2 == 0) <;> cases e2:((msgV w j.2.1).1.1 == 162) <;> simp [e1,e2] at h4 ⊢
     exact ⟨bok_parse hb,hneed hg,fun _=>rfl,fun ha=>by rw [hgood _ hg] at ha; cases ha⟩
    | false =>
     simp only [Bool.or_eq_false_iff] at h4
     have h0:(msgV w j.2.1).2 = 0:=by simpa using h4.1
     have hk:((msgV w j.2.1).1.1 != 162) = true:=by rw [bne,h4.2]; rfl
     have hg:goodV w j.2.1 = true:=by unfold goodV; rw [h0,hk]; rfl
     refine ⟨rfl,⟨h.byt,h.len,rfl,?_,h.tr,.inr ⟨m4 h0,hk,hb⟩,m3,hb.w,hb.le⟩,rfl,?_,?_⟩
     · unfold pIn; rw [dT (by show (0:Int) ≤ 0; omega),dT (by show (0:Int) ≤ _; omega)]; rfl
     · have e1:needV w b j = (msgV w j.2.1).1.2.2.2.2.length + 3:=by unfold needV; rw [if_neg hne2,if_neg hne1,if_pos hg]
       rw [e1]
       show needV w b (mkJ j.1 j.2.1 1 (msgV w j.2.1).1 b 0 (jTries j)) + 1 = _
       rw [need1 rfl]
       have e2:lastV b (mkJ j.1 j.2.1 1 (msgV w j.2.1).1 b 0 (jTries j)) = 1:=by
        unfold lastV
        rw [if_neg (fun hh=>hh.2.1 rfl)]
       rw [e2]
       show (msgV w j.2.1).1.2.2.2.2.length - (0:Int).toNat + 1 + 1 + 1 = _
       simp
     · rw [hgood _ hg]
       unfold asksV
       rw [show decide ((mkJ j.1 j.2.1 1 (msgV w j.2.1).1 b 0 (jTries j)).2.2.1 > 0) = true from rfl,Bool.or_true]
 · -- it goes on
   have hok:=h.ok.resolve_left (by rw [hp]; simp)
   unfold jobStep
   rw [show (j.2.2.1 == 0) = false by rw [hp]; rfl,show (j.2.2.1 == 2) = false by rw [hp]; rfl,cF,cF]
   have hn:needV w b j = (jP j).2.2.2.2.length - (jAt j).toNat + 1 + lastV b j:=by unfold needV; rw [if_neg (by omega),if_pos hp]
   have ha:asksV w j = true:=by unfold asksV; rw [dT (show j.2.2.1 > 0 by omega),Bool.or_true]
   by_cases hlt:jAt j < ((jP j).2.2.2.2.length:Int)
   · have hw1:w64 (jAt j + 1) = jAt j + 1:=w64_id (by omega) (by
      have:=h.pl.1
      have:(jP j).2.2.2.2.length ≤ 1048576:=this
      omega)
     rw [dT hlt,cT,hw1]
     refine ⟨rfl,⟨h.byt,h.len,h.ph,?_,h.tr,.inr hok,h.pl,h.bw,h.bl⟩,rfl,?_,?_⟩
     · show pIn (jAt j + 1) 0 ((jP j).2.2.2.2.length:Int) = true
       unfold pIn; rw [dT (by omega),dT (by omega)]; rfl
     · rw [hn]
       show needV w b (mkJ j.1 j.2.1 j.2.2.1 (jP j) (jB j) (jAt j + 1) (jTries j)) + 1 = _
       unfold needV
       rw [show (mkJ j.1 j.2.1 j.2.2.1 (jP j) (jB j) (jAt j + 1) (jTries j)).2.2.1 = 1 from hp,if_neg (by omega),if_pos rfl]
       have e2:lastV b (mkJ j.1 j.2.1 j.2.2.1 (jP j) (jB j) (jAt j + 1) (jTries j)) = lastV b j:=rfl
       rw [e2]
       show (jP j).2.2.2.2.length - (jAt j + 1).toNat + 1 + lastV b j + 1 = _
       omega
     · rw [ha]; unfold asksV
       rw [show decide ((mkJ j.1 j.2.1 j.2.2.1 (jP j) (jB j) (jAt j + 1) (jTries j)).2.2.1 > 0) = true from dT (by show j.2.2.1 > 0; omega),Bool.or_true]
   · rw [dF hlt,cF]
     refine ⟨rfl,⟨h.byt,h.len,rfl,h.at',h.tr,.inr hok,h.pl,h.bw,h.bl⟩,rfl,?_,?_⟩
     · rw [hn]
       show needV w b (mkJ j.1 j.2.1 2 (jP j) (jB j) (jAt j) (jTries j)) + 1 = _
       rw [need2 rfl]
       have e2:lastV b (mkJ j.1 j.2.1 2 (jP j) (jB j) (jAt j) (jTries j)) = lastV b j:=rfl
       rw [e2]; omega
     · rw [ha]; unfold asksV
       rw [show decide ((mkJ j.1 j.2.1 2 (jP j) (jB j) (jAt j) (jTries j)).2.2.1 > 0) = true from rfl,Bool.or_true]
 · -- it is answered
   obtain ⟨hpp,hk,hB⟩:=h.ok.resolve_left (by rw [hp]; simp)
   unfold jobStep
   rw [show (j.2.2.1 == 0) = false by rw [hp]; rfl,show (j.2.2.1 == 2) = true by rw [hp]; rfl,cF,cT]
   have hn:needV w b j = lastV b j:=by unfold needV; rw [if_pos hp]
   have ha:asksV w j = true:=by unfold asksV; rw [dT (show j.2.2.1 > 0 by omega),Bool.or_true]
   cases h163:(j.2.2.2.1 != 163) with
   | true =>
    obtain ⟨_,d2,_,d4,_⟩:=done_kind hB hpp hk
    refine ⟨hb,?_,(fun hf=>by rw [ha] at hf; cases hf),fun _=>⟨_,rfl,by rw [d2]; exact d4⟩⟩
    rw [hn]; unfold lastV
    rw [if_neg (fun hh=>by have e:j.2.2.2.1 = 163:=hh.1; rw [e] at h163; cases h163)]
   | false =>
    have e163:(jP j).1 = 163:=by
     have:¬ j.2.2.2.1 ≠ 163:=by simpa using h163
     exact Classical.not_not.1 this
    cases hv:(b.2.2.2.2.2.2.2.2.2.2 == (jB j).2.2.2.2.2.2.2.2.2.2) with
    | true =>
     obtain ⟨_,d2,_,d4,_⟩:=done_kind hb hpp hk
     refine ⟨replyV_bok hb _,?_,(fun hf=>by rw [ha] at hf; cases hf),fun _=>⟨_,rfl,by rw [d2]; exact d4⟩⟩
     rw [hn]; unfold lastV
     rw [if_neg (fun hh=>hh.2.1 (by simpa using hv))]
    | false =>
     by_cases ht:jTries j ≥ 3
     · rw [dT ht]
       refine ⟨hb,?_,(fun hf=>by rw [ha] at hf; cases hf),fun _=>⟨_,rfl,(late_kind _).1⟩⟩
       rw [hn]; unfold lastV
       rw [if_neg (fun hh=>by have:=hh.2.2; omega)]
     · rw [dF ht,w64_id (by omega) (by omega)]
       refine ⟨rfl,⟨h.byt,h.len,rfl,?_,?_,.inr ⟨hpp,hk,hb⟩,h.pl,hb.w,hb.le⟩,rfl,?_,?_⟩
       · show pIn 0 0 ((jP j).2.2.2.2.length:Int) = true
         unfold pIn; rw [dT (by omega),dT (by omega)]; rfl
       · show pIn (jTries j + 1) 0 3 = true
         unfold pIn; rw [dT (by omega),dT (by omega)]; rfl
       · rw [hn]
         have e1:lastV b j = (jP j).2.2.2.2.length + 3:=by
          unfold lastV
          rw [if_pos ⟨e163,by simpa using hv,by omega⟩]
         rw [e1]
         show needV w b (mkJ j.1 j.2.1 1 (jP j) b 0 (jTries j + 1)) + 1 = _
         rw [need1 rfl]
         have e2:lastV b (mkJ j.1 j.2.1 1 (jP j) b 0 (jTries j + 1)) = 1:=by
          unfold lastV
          rw [if_neg (fun hh=>hh.2.1 rfl)]
         rw [e2]
         show (jP j).2.2.2.2.length - (0:Int).toNat + 1 + 1 + 1 = _
         simp
       · rw [ha]; unfold asksV
         rw [show decide ((mkJ j.1 j.2.1 1 (jP j) b 0 (jTries j + 1)).2.2.1 > 0) = true from rfl,Bool.or_true]

theorem work_cases {a:Agent} (h:AInv a) {k:Nat} (hk:k < (aJobs a).length) :
 (∃ j',workV a k (aJobs a)[k] = (mkA (aB a) (aW a) ((aJobs a).set k j') (aLost a) (aLast a),[]) ∧ JInv j' ∧ j'.1 = (aJobs a)[k].1 ∧ needV (aW a) (aB a) j' + 1 = needV (aW a) (aB a) (aJobs a)[k] ∧ asksV (aW a) j' = asksV (aW a) (aJobs a)[k]) ∨
 (∃ b' d,workV a k (aJobs a)[k] = (mkA b' (aW a) ((aJobs a).eraseIdx k) (aLost a) (aLast a),d) ∧ BOk b' ∧ needV (aW a) (aB a) (aJobs a)[k] = 1 ∧ (asksV (aW a) (aJobs a)[k] = false → d = []) ∧ (asksV (aW a) (aJobs a)[k] = true → ∃ p,d = [((aJobs a)[k].1,p)] ∧ p.1 = 162)):=by
 have hs:=step_ok (aW a) h.b (h.j _ (getElem_mem hk))
 unfold workV
 cases hf:(jobStep (aW a) (aB a) (aJobs a)[k]).2 with
 | stay j' =>
  rw [hf] at hs
  obtain ⟨k1,k2,k3,k4,k5⟩:=hs
  exact .inl ⟨j',by simp only [k1],k2,k3,k4,k5⟩
 | gone d =>
  rw [hf] at hs
  obtain ⟨k1,k2,k3,k4⟩:=hs
  exact .inr ⟨_,d,rfl,k1,k2,k3,k4⟩
theorem inv_set {a:Agent} (h:AInv a) {k:Nat} (hk:k < (aJobs a).length) {j':Job} (hj:JInv j') (hi:j'.1 = (aJobs a)[k].1):AInv (mkA (aB a) (aW a) ((aJobs a).set k j') (aLost a) (aLast a)):=by
 have hm:∀ x ∈ (aJobs a).set k j',x ∈ aJobs a ∨ x = j':=fun x hx=>List.mem_or_eq_of_mem_set hx
 have hmap:((aJobs a).set k j').map (fun j=>j.1) = (aJobs a).map (fun j=>j.1):=by
  rw [List.map_set,hi]
  apply List.ext_getElem
  · simp
  · intro i h1 h2
    rw [List.getElem_set]
    split
    · rename_i e; subst e; simp
    · rfl
 refine ⟨h.b,h.w,?_,h.lo,h.la,fun j hj'=>?_,?_,fun j hj'=>?_⟩
 · show ((aJobs a).set k j').length ≤ 6
   rw [length_set]; exact h.n
 · rcases hm j hj' with hj' | rfl
   · exact h.ids j hj'
   · show pIn j.1 1 (aLast a) = true
     rw [hi]; exact h.ids _ (getElem_mem hk)
 · have:=h.up
   show ((aJobs a).set k j').Pairwise fun i j=>i.1 < j.1
   rw [← List.pairwise_map (f:=fun j:Job=>j.1) (R:=fun x y=>x < y)] at this ⊢
   rw [hmap]; exact this
 · rcases hm j hj' with hj' | rfl
   · exact h.j j hj'
   · exact hj
theorem inv_gone {a:Agent} (h:AInv a) (k:Nat) {b':Bridge} (hb:BOk b'):AInv (mkA b' (aW a) ((aJobs a).eraseIdx k) (aLost a) (aLast a)):=by
 have hs:((aJobs a).eraseIdx k).Sublist (aJobs a):=List.eraseIdx_sublist _ _
 refine ⟨hb,h.w,Nat.le_trans hs.length_le h.n,h.lo,h.la,fun j hj=>h.ids j (hs.subset hj),h.up.sublist hs,fun j hj=>h.j j (hs.subset hj)⟩
theorem work_inv {a:Agent} (h:AInv a) {k:Nat} (hk:k < (aJobs a).length):AInv (workV a k (aJobs a)[k]).1 ∧ (workV a k (aJobs a)[k]).2.length ≤ 1:=by
 rcases work_cases h hk with ⟨j',e,k1,k2,_⟩ | ⟨b',d,e,k1,_,k3,k4⟩
 · rw [e]; exact ⟨inv_set h hk k1 k2,by simp⟩
 · rw [e]
   refine ⟨inv_gone h k k1,?_⟩
   cases ha:asksV (aW a) (aJobs a)[k] with
   | false=>rw [k3 ha]; simp
   | true=>obtain ⟨p,rfl,_⟩:=k4 ha; simp
theorem workI {a:Agent} (h:AInv a) {k:Nat} (hk:k < (aJobs a).length):eR a (k:Int) = some (workV a k (aJobs a)[k]) :=
 workT h.b.w h.ale hk (h.j _ (getElem_mem hk)).jwf (h.j _ (getElem_mem hk)).byt
theorem workF {a:Agent} (h:AInv a) {k:Nat} (hk:k < (aJobs a).length):bn a (k:Int) = some (workV a k (aJobs a)[k]):=by
 have hn:=h.n
 unfold bn
 rw [copyAgent h.ale,obs,agentT h.awf,obs,h.ok,Bool.not_true,cF]
 have hw:w64 ((a.2.2.2.2.2.2.2.2.2.2.2.2.1.length:Int) - 1) = ((aJobs a).length:Int) - 1:=w64_id (by show -9223372036854775808 ≤ ((aJobs a).length:Int) - 1; omega) (by show ((aJobs a).length:Int) - 1 ≤ _; omega)
 rw [hw,inT,obs,inP (by omega) (by omega),obs,Bool.not_true,cF,workI h hk,obs]
theorem workF0 {a:Agent} (h:AInv a) {k:Int} (hk:k < 0 ∨ ((aJobs a).length:Int) ≤ k):bn a k = some (a,[]):=by
 have hn:=h.n
 unfold bn
 rw [copyAgent h.ale,obs,agentT h.awf,obs,h.ok,Bool.not_true,cF]
 have hw:w64 ((a.2.2.2.2.2.2.2.2.2.2.2.2.1.length:Int) - 1) = ((aJobs a).length:Int) - 1:=w64_id (by show -9223372036854775808 ≤ ((aJobs a).length:Int) - 1; omega) (by show ((aJobs a).length:Int) - 1 ≤ _; omega)
 have hp:pIn k 0 (((aJobs a).length:Int) - 1) = false:=by
  unfold pIn
  rcases hk with hk | hk
  · rw [dF (by omega)]; rfl
  · rw [dF (show ¬ k ≤ ((aJobs a).length:Int) - 1 by omega),Bool.and_false]
 rw [hw,inT,obs,hp,obs,Bool.not_false,cT]
theorem need_pos (w:List UInt8) (b:Bridge) (j:Job):1 ≤ needV w b j:=by
 have hl:1 ≤ lastV b j:=by unfold lastV; split <;> omega
 unfold needV
 split
 · exact hl
 · split
   · omega
   · split <;> omega
theorem need_le (w:List UInt8) (b:Bridge) {j:Job} (h:JInv j):needV w b j ≤ 26:=by
 rcases ph_cases h with hp | hp | hp
 · unfold needV
   rw [if_neg (by omega),if_neg (by omega)]
   split
   · rename_i hg
     unfold goodV at hg
     simp only [aT,beq_iff_eq] at hg
     obtain ⟨_,_,_,m4⟩:=msgE w h.byt h.len
     have:=(pPdu_parts (m4 hg.1)).2.1
     omega
   · omega
 · obtain ⟨hpp,_,_⟩:=h.ok.resolve_left (by rw [hp]; simp)
   have:=(pPdu_parts hpp).2.1
   rw [need1 hp]; unfold lastV; split <;> omega
 · obtain ⟨hpp,_,_⟩:=h.ok.resolve_left (by rw [hp]; simp)
   have:=(pPdu_parts hpp).2.1
   rw [need2 hp]; unfold lastV; split <;> omega
theorem foldB {n:Int} (hn:-2147483648 ≤ n ∧ n ≤ 2147483647):∃ x0 l,intB n = x0 :: l ∧ Byt (x0 :: l) ∧ l.length ≤ 3 ∧ foldI (sgn x0) l = n:=by
 unfold intB
 by_cases h1:pIn n (-128) 127 = true
 · rw [if_pos h1]
   obtain ⟨a,b⟩:=pIn_true h1
   refine ⟨n % 256,[],rfl,fun x hx=>?_,by simp,?_⟩
   · simp only [mem_singleton] at hx; subst hx; omega
   · show sgn (n % 256) = n
     unfold sgn; split <;> omega
 rw [if_neg h1]
 have h1':=pIn_false (Bool.eq_false_iff.2 h1)
 by_cases h2:pIn n (-32768) 32767 = true
 · rw [if_pos h2]
   obtain ⟨a,b⟩:=pIn_true h2
   refine ⟨n / 256 % 256,[n % 256],rfl,fun x hx=>?_,by simp,?_⟩
   · simp only [mem_cons,not_mem_nil,or_false] at hx
     rcases hx with rfl | rfl <;> omega
   · show sgn (n / 256 % 256) * 256 + n % 256 = n
     unfold sgn; split <;> omega
 rw [if_neg h2]
 by_cases h3:pIn n (-8388608) 8388607 = true
 · rw [if_pos h3]
   obtain ⟨a,b⟩:=pIn_true h3
   refine ⟨n / 65536 % 256,[n / 256 % 256,n % 256],rfl,fun x hx=>?_,by simp,?_⟩
   · simp only [mem_cons,not_mem_nil,or_false] at hx
     rcases hx with rfl | rfl | rfl <;> omega
   · show (sgn (n / 65536 % 256) * 256 + n / 256 % 256) * 256 + n % 256 = n
     unfold sgn; split <;> omega
 rw [if_neg h3]
 refine ⟨n / 16777216 % 256,[n / 65536 % 256,n / 256 % 256,n % 256],rfl,fun x hx=>?_,by simp,?_⟩
 · simp only [mem_cons,not_mem_nil,or_false] at hx
   rcases hx with rfl | rfl | rfl | rfl <;> omega
 · show ((sgn (n / 16777216 % 256) * 256 + n / 65536 % 256) * 256 + n / 256 % 256) * 256 + n % 256 = n
   unfold sgn; split <;> omega
def hdB (w:List UInt8):List Int:=tlvL 2 (intB 1) ++ tlvL 4 (intsOf w)
def msgB (w:List UInt8) (p:Pdu):List Int:=if (pduB p).length = 0 ∨ 20 < w.length then [] else if (hdB w ++ pduB p).length ≤ 250 then tlvL 48 (hdB w ++ pduB p) else []
theorem pduB_le (p:Pdu):(pduB p).length ≤ 260:=by
 unfold pduB
 split
 · rename_i h
   have:=tlvL_len p.1 (body:=bodyB p)
   omega
 · simp
theorem bytesW {p:List Int} (h:Cs.wf (.one (.sl (.one (.int .u8)))) p):∀ x ∈ p,0 ≤ x ∧ x ≤ 255:=by
 simp only [Cs.wf,CT.wf] at h
 intro x hx
 have:=h.2 x hx
 have h2:0 ≤ x ∧ x ≤ 255:=this
 exact h2
theorem atE {p:List Int} (hw:∀ x ∈ p,0 ≤ x ∧ x ≤ 255) (hl:p.length ≤ 1048576) {i:Int} (h0:0 ≤ i) (h1:i ≤ 100):∃ a:Nat,fN p i = some (a:Int):=by
 unfold fN
 by_cases h:i < (p.length:Int)
 · obtain ⟨k,rfl⟩:∃ k:Nat,i = (k:Int):=⟨i.toNat,by omega⟩
   have hk:k < p.length:=by omega
   obtain ⟨q1,q2⟩:=hw _ (getElem_mem hk)
   rw [dT h,cT,at_nat hk,obs,w64_id (by omega) (by omega)]
   exact ⟨p[k].toNat,by rw [Int.toNat_of_nonneg q1]⟩
 · rw [dF h,cF]
   have e:(w64 ((w64 (i * 31)) + (w64 ((p.length:Int) * 7)))).tmod 256 = (i * 31 + (p.length:Int) * 7) % 256:=by
    rw [w64_id (n:=i * 31) (by omega) (by omega),w64_id (n:=(p.length:Int) * 7) (by omega) (by omega),w64_id (by omega) (by omega),Int.tmod_eq_emod_of_nonneg (by omega)]
   exact ⟨((i * 31 + (p.length:Int) * 7) % 256).toNat,by show some _ = _; rw [e,Int.toNat_of_nonneg (by omega)]⟩
theorem pPdu_of {p:Pdu} (hx:∀ x ∈ p.2.2.2.2,xOk x = true) (hn:p.2.2.2.2.length ≤ 10) (hi:pIn p.2.1 (-2147483648) 2147483647 = true)
 (hk:(cond (p.1 == 162 || p.1 == 165) (pIn p.2.2.1 0 1000 && pIn p.2.2.2.1 0 1000) (cond (p.1 == 160 || (p.1 == 161 || p.1 == 163)) (p.2.2.1 == 0 && p.2.2.2.1 == 0) false)) = true):pPdu p = true:=by
 unfold pPdu
 have h1:(List.range p.2.2.2.2.length).any (bX p.2.2.2.2) = false:=by
  rw [any_eq_false]
  intro k hk'
  have hk':=mem_range.1 hk'
  unfold bX
  simp only [List.getElem?_eq_getElem hk',hx _ (getElem_mem hk')]
  simp
 rw [h1,dT (by omega),hk,hi]; rfl

theorem byt_app {a b:List Int} (h:Byt a) (k:Byt b):Byt (a ++ b):=fun x hx=>(mem_append.1 hx).elim (h x) (k x)
theorem byt_tlv {t:Int} {body:List Int} (ht:pIn t 0 255 = true) (hb:Byt body) (hn:body.length ≤ 250):Byt (tlvL t body):=by
 obtain ⟨t0,t1⟩:=pIn_true ht
 intro x hx
 unfold tlvL at hx
 rcases mem_cons.1 hx with rfl | hx
 · omega
 · rcases mem_append.1 hx with hx | hx
   · split at hx
     · simp only [mem_cons,not_mem_nil,or_false] at hx
       rcases hx with rfl | rfl <;> omega
     · simp only [mem_singleton] at hx
       subst hx; omega
   · exact hb x hx
theorem byt_int {n:Int} (hn:-2147483648 ≤ n ∧ n ≤ 2147483647):Byt (intB n):=by
 obtain ⟨x0,l,e,h,_⟩:=foldB hn
 rw [e]; exact h
theorem byt_ints (s:List UInt8):Byt (intsOf s):=by
 intro x hx
 unfold intsOf at hx
 obtain ⟨b,_,rfl⟩:=mem_map.1 hx
 have:=b.toNat_lt
 omega
theorem byt_val {v:Val} (hv:pVal v = true):Byt (valB v):=by
 unfold pVal at hv
 unfold valB
 by_cases h1:(v.1 == 5 || (v.1 == 128 || v.1 == 130)) = true
 · simp only [Bool.or_eq_true,beq_iff_eq] at h1
   rcases h1 with h | h | h <;> rw [h] <;> exact byt_nil
 · rw [Bool.eq_false_iff.2 h1,cF] at hv
   cases h2:(v.1 == 2) with
   | true =>
    rw [h2,cT,aT] at hv
    rw [cT]; exact byt_int (pIn_true hv.1)
   | false =>
    rw [h2,cF] at hv
    rw [cF]
    cases h4:(v.1 == 4) with
    | true=>rw [cT]; exact byt_ints _
    | false =>
     rw [h4,cF] at hv
     rw [cF]
     cases h6:(v.1 == 6) with
     | true =>
      rw [h6,cT,aT] at hv
      rw [cT]; exact oidB_byt (oidR_of hv.1).2.2
     | false=>rw [cF]; exact byt_nil
theorem byt_one {x:Bind} (hx:xOk x = true):Byt (oneB x):=by
 have hx':=hx
 unfold xOk at hx'
 rw [aT] at hx'
 obtain ⟨o1,o2,o3⟩:=oidR_of hx'.1
 have hob:=oidB_len (o:=x.1) fun y hy=>(o3 y hy).2
 obtain ⟨l1,l2,_,_⟩:=pVal_len hx'.2
 exact byt_app (byt_tlv (by decide) (oidB_byt o3) (by omega)) (byt_tlv l2 (byt_val hx'.2) (by omega))
theorem byt_all:∀ {l:List Bind},(∀ x ∈ l,xOk x = true) → Byt (allB l)
 | [],_=>byt_nil
 | x :: l,h=>by
  have hx:=h x (by simp)
  have hb:=(bindB_len hx).1
  show Byt (bindB x ++ allB l)
  exact byt_app (byt_tlv (by decide) (byt_one hx) (by omega)) (byt_all fun y hy=>h y (mem_cons_of_mem _ hy))
theorem byt_pdu (p:Pdu):Byt (pduB p):=by
 unfold pduB
 split
 · rename_i h
   obtain ⟨h1,h2,h3⟩:=h
   obtain ⟨k1,k2,k3,k4,k5,k6⟩:=pPdu_parts h1
   have i1:=intB_len p.2.1
   have i2:=intB_len p.2.2.1
   have i3:=intB_len p.2.2.2.1
   refine byt_tlv k3 ?_ h3
   unfold bodyB
   exact byt_app (byt_app (byt_app (byt_tlv (by decide) (byt_int k4) (by omega)) (byt_tlv (by decide) (byt_int ⟨by omega,by omega⟩) (by omega))) (byt_tlv (by decide) (byt_int ⟨by omega,by omega⟩) (by omega))) (byt_tlv (by decide) (byt_all k1) h2)
 · exact byt_nil
theorem byt_msg (w:List UInt8) (p:Pdu):Byt (msgB w p):=by
 unfold msgB
 split
 · exact byt_nil
 · rename_i h
   simp only [not_or,Nat.not_lt] at h
   split
   · rename_i hb
     have hwl:(intsOf w).length = w.length:=by unfold intsOf; rw [length_map]
     have i1:=intB_len 1
     refine byt_tlv (by decide) (byt_app ?_ (byt_pdu p)) hb
     unfold hdB
     exact byt_app (byt_tlv (by decide) (byt_int ⟨by omega,by omega⟩) (by omega)) (byt_tlv (by decide) (byt_ints w) (by omega))
   · exact byt_nil
def newJ (id:Int) (m:List Int):Job:=(id,m,0,0,0,0,0,[],0,[],[],[],[],[],0,0,0,0,0,0,0)
theorem newJ_inv (id:Int) {m:List Int} (hb:Byt m) (hn:m.length ≤ M):JInv (newJ id m):=by
 have h0:(0:Nat) ≤ M:=by decide
 refine ⟨hb,hn,rfl,rfl,rfl,.inl rfl,⟨h0,fun x hx=>by cases hx⟩,⟨by show 0 < 9223372036854775807; decide,by show 0 < 9223372036854775807; decide,by show 0 < 9223372036854775807; decide,by show 0 < 9223372036854775807; decide,fun r hr=>by cases hr⟩,⟨h0,h0,h0,h0,h0⟩⟩
theorem new_inv {b:Bridge} (h:BOk b) {w:List UInt8} (hw:w.length ≤ 20):AInv (mkA b w [] 0 0) :=
 ⟨h,hw,(by show 0 ≤ 6; omega),rfl,rfl,(fun j hj=>by cases hj),List.Pairwise.nil,(fun j hj=>by cases hj)⟩
theorem arriveT {a:Agent} (h:AInv a) {m:List Int} (hn:m.length ≤ M) (h6:(aJobs a).length < 6) (hl:aLast a < 1000000):bY a m = some (mkA (aB a) (aW a) (aJobs a ++ [newJ (aLast a + 1) m]) (aLost a) (aLast a + 1)):=by
 have hla:=pIn_true h.la
 have e1:decide ((a.2.2.2.2.2.2.2.2.2.2.2.2.1.length:Int) ≥ 6) = false:=dF (by show ¬ ((aJobs a).length:Int) ≥ 6; omega)
 have e2:decide (a.2.2.2.2.2.2.2.2.2.2.2.2.2.2 ≥ 1000000) = false:=dF (by show ¬ aLast a ≥ 1000000; omega)
 have e3:w64 (a.2.2.2.2.2.2.2.2.2.2.2.2.2.2 + 1) = aLast a + 1:=w64_id (by show -9223372036854775808 ≤ aLast a + 1; omega) (by show aLast a + 1 ≤ _; omega)
 unfold bY
 rw [copyAgent h.ale,obs,agentT h.awf,obs,h.ok,Bool.not_true,cF,e1,cF,e2,obs,cF,copyBytes hn,obs,e3]
 rw [app_small (by show (aJobs a).length + 1 ≤ _; omega),obs]
 rfl
theorem arriveF {a:Agent} (h:AInv a) {m:List Int} (hf:¬ ((aJobs a).length < 6 ∧ aLast a < 1000000)):bY a m = some (mkA (aB a) (aW a) (aJobs a) (moreV (aLost a)) (aLast a)):=by
 unfold bY
 rw [copyAgent h.ale,obs,agentT h.awf,obs,h.ok,Bool.not_true,cF]
 have key:(cond (decide ((a.2.2.2.2.2.2.2.2.2.2.2.2.1.length:Int) ≥ 6)) (some true) (some (decide (a.2.2.2.2.2.2.2.2.2.2.2.2.2.2 ≥ 1000000)))) = some true:=by
  by_cases h6:(aJobs a).length < 6
  · have h7:¬ aLast a < 1000000:=fun h7=>hf ⟨h6,h7⟩
    rw [dF (by show ¬ ((aJobs a).length:Int) ≥ 6; omega),cF,dT (by show aLast a ≥ 1000000; omega)]
  · rw [dT (by show ((aJobs a).length:Int) ≥ 6; omega),cT]
 rw [key,obs,cT,moreE,obs]
 rfl
theorem arrive_inv {a:Agent} (h:AInv a) {m:List Int} (hb:Byt m) (hn:m.length ≤ M) (h6:(aJobs a).length < 6) (hl:aLast a < 1000000):AInv (mkA (aB a) (aW a) (aJobs a ++ [newJ (aLast a + 1) m]) (aLost a) (aLast a + 1)):=by
 have hla:=pIn_true h.la
 refine ⟨h.b,h.w,?_,h.lo,?_,fun j hj=>?_,?_,fun j hj=>?_⟩
 · show (aJobs a ++ [_]).length ≤ 6
   rw [length_append]; show (aJobs a).length + 1 ≤ 6; omega
 · exact inP (by show 0 ≤ aLast a + 1; omega) (by show aLast a + 1 ≤ 1000000; omega)
 · rcases mem_append.1 hj with hj | hj
   · obtain ⟨k1,k2⟩:=pIn_true (h.ids j hj)
     exact inP k1 (by show j.1 ≤ aLast a + 1; omega)
   · rw [mem_singleton] at hj
     subst hj
     exact inP (by show 1 ≤ aLast a + 1; omega) (by show aLast a + 1 ≤ aLast a + 1; omega)
 · show (aJobs a ++ [_]).Pairwise fun i j:Job=>i.1 < j.1
   refine List.pairwise_append.2 ⟨h.up,List.pairwise_singleton _ _,fun x hx y hy=>?_⟩
   rw [mem_singleton] at hy
   subst hy
   have:=(pIn_true (h.ids x hx)).2
   show x.1 < aLast a + 1; omega
 · rcases mem_append.1 hj with hj | hj
   · exact h.j j hj
   · rw [mem_singleton] at hj
     subst hj
     exact newJ_inv _ hb hn
theorem lost_inv {a:Agent} (h:AInv a):AInv (mkA (aB a) (aW a) (aJobs a) (moreV (aLost a)) (aLast a)):=⟨h.b,h.w,h.n,more_in h.lo,h.la,h.ids,h.up,h.j⟩
structure AskD (p:Pdu):Prop where
 k:p.1 = 160 ∨ p.1 = 161 ∨ p.1 = 163 ∨ p.1 = 165
 i:0 ≤ p.2.1 ∧ p.2.1 < 100
 ab:(p.1 = 165 ∧ (0 ≤ p.2.2.1 ∧ p.2.2.1 ≤ 1000) ∧ (0 ≤ p.2.2.2.1 ∧ p.2.2.2.1 ≤ 1000)) ∨ (p.1 ≠ 165 ∧ p.2.2.1 = 0 ∧ p.2.2.2.1 = 0)
 n:p.2.2.2.2.length ≤ 3
 s:∀ x ∈ p.2.2.2.2,XSm x
 o:p.1 ≠ 163 → ∀ x ∈ p.2.2.2.2,xOk x = true
theorem AskD.le {p:Pdu} (h:AskD p):PLe M p:=⟨by have:=h.n; show _ ≤ 1048576; omega,fun x hx=>(h.s x hx).le⟩
theorem AskD.ok {p:Pdu} (h:AskD p) (hk:p.1 ≠ 163):pPdu p = true:=by
 have hi:=h.i
 refine pPdu_of (h.o hk) (by have:=h.n; omega) (inP (by omega) (by omega)) ?_
 rcases h.ab with ⟨e,⟨a1,a2⟩,b1,b2⟩ | ⟨e,a1,b1⟩
 · rw [e,inP a1 a2,inP b1 b2]; rfl
 · rw [a1,b1]
   rcases h.k with k | k | k | k
   · rw [k]; rfl
   · rw [k]; rfl
   · exact absurd k hk
   · exact absurd k e
theorem drPdu {c:L1Cur} (h:CW c) {b:Bridge} (hb:BWf b) (hn:∀ c,CW c → Dr Nm (av c b)):Dr AskD (ck c b):=by
 unfold ck
 refine Dr.bind (drInt h (by decide)) fun c x hc hx=>?_
 refine Dr.bind (drBelow hc 100) fun c i hc hi=>?_
 have hi2:=hi.2 (by omega)
 have hx:x = 160 ∨ x = 161 ∨ x = 163 ∨ x = 165:=by
  simp only [mem_cons,not_mem_nil,or_false] at hx
  rcases hx with h | h | h | h | h
  · exact .inl h
  · exact .inr (.inl h)
  · exact .inr (.inr (.inl h))
  · exact .inr (.inr (.inl h))
  · exact .inr (.inr (.inr h))
 cases h3:(x == 163) with
 | true =>
  have h3:x = 163:=by simpa using h3
  subst h3
  show Dr AskD ((ej c b).bind fun t18=>some (t18.1,((163:Int),i,0,0,t18.2)))
  refine Dr.bind (drBinds hc hb hn) fun c l hc hl=>?_
  exact Dr.some hc ⟨.inr (.inr (.inl rfl)),⟨hi.1,hi2⟩,.inr ⟨by show (163:Int) ≠ 165; omega,rfl,rfl⟩,hl.1,hl.2,fun hk=>absurd rfl hk⟩
 | false =>
  have h3:x ≠ 163:=by simpa using h3
  obtain ⟨c1,k,e1,w1,hk⟩:=belowN hc (n:=4) (by decide)
  have e1':aa c 4 = some (c1,(k:Int)):=e1
  rw [cF]
  show Dr AskD ((aa c 4).bind _)
  rw [e1',obs]
  obtain ⟨d,d1,d2,d3,d4,d5⟩:=loop_inv (step:=fun z:Int × List Int × Int × Int × Int × Int × Int × Int × List Bind=>cj b z.1 z.2.1 z.2.2.1 z.2.2.2.1 z.2.2.2.2.1 z.2.2.2.2.2.1 z.2.2.2.2.2.2.1 z.2.2.2.2.2.2.2.1 z.2.2.2.2.2.2.2.2)
   (fun j z=>z.1 = ((k - j:Nat):Int) ∧ CW (z.2.1,z.2.2.1,z.2.2.2.1) ∧ (z.2.2.2.2.1 = x ∧ z.2.2.2.2.2.1 = i ∧ z.2.2.2.2.2.2.1 = 0 ∧ z.2.2.2.2.2.2.2.1 = 0) ∧ z.2.2.2.2.2.2.2.2.length = j ∧ ∀ y ∈ z.2.2.2.2.2.2.2.2,XSm y ∧ xOk y = true) k
   (fun d=>CW (d.1,d.2.1,d.2.2.1) ∧ (d.2.2.2.1 = x ∧ d.2.2.2.2.1 = i ∧ d.2.2.2.2.2.1 = 0 ∧ d.2.2.2.2.2.2.1 = 0) ∧ d.2.2.2.2.2.2.2.length = k ∧ ∀ y ∈ d.2.2.2.2.2.2.2,XSm y ∧ xOk y = true)
   (fun j z hj ⟨z1,z2,z3,z4,z5⟩=>by
    obtain ⟨q,c0,c1,c2,r0,r1,r2,r3,out⟩:=z
    simp only at z1 z2 z3 z4 z5
    subst z1 z4
    left
    obtain ⟨c',o,x1,x2,x3⟩:=hn _ z2
    refine ⟨_,by
     show cj b _ _ _ _ _ _ _ _ _ = _
     unfold cj
     rw [dT (show ((k - out.length:Nat):Int) > 0 by omega),cT,x1,obs,app_small (by show _ + 1 ≤ _; omega),obs],?_,x2,z3,by simp,?_⟩
    · show w64 (((k - out.length:Nat):Int) - 1) = _
      rw [w64_id (by omega) (by omega)]; omega
    · intro y hy
      rcases mem_append.1 hy with hy | hy
      · exact z5 y hy
      · rw [mem_singleton] at hy
        subst hy
        have:=x3.n10
        refine ⟨⟨by show o.length ≤ 1000; omega,by show (0:Nat) ≤ 100; omega,by show (0:Nat) ≤ 1000; omega,vclK 5⟩,?_⟩
        unfold xOk; rw [nm_pOid x3]; rfl)
   (fun z ⟨z1,z2,z3,z4,z5⟩=>by
    obtain ⟨q,c0,c1,c2,r0,r1,r2,r3,out⟩:=z
    simp only at z1 z2 z3 z4 z5
    rw [Nat.sub_self] at z1
    subst z1
    refine ⟨(c0,c1,c2,r0,r1,r2,r3,out),?_,z2,z3,z4,z5⟩
    show cj b _ _ _ _ _ _ _ _ _ = _
    unfold cj
    rw [dF (show ¬ ((0:Nat):Int) > 0 by decide),cF]) (x:=((k:Int),c1.1,c1.2.1,c1.2.2,x,i,0,0,[])) ⟨rfl,w1,⟨rfl,rfl,rfl,rfl⟩,rfl,by simp⟩
  show Dr AskD ((loop (fun z:Int × List Int × Int × Int × Int × Int × Int × Int × List Bind=>cj b z.1 z.2.1 z.2.2.1 z.2.2.2.1 z.2.2.2.2.1 z.2.2.2.2.2.1 z.2.2.2.2.2.2.1 z.2.2.2.2.2.2.2.1 z.2.2.2.2.2.2.2.2) ((k:Int),c1.1,c1.2.1,c1.2.2,x,i,0,0,[])).bind _)
  rw [d1,obs]
  obtain ⟨q0,q1,q2,r0,r1,r2,r3,l⟩:=d
  simp only at d2 d3 d4 d5 ⊢
  obtain ⟨rfl,rfl,rfl,rfl⟩:=d3
  cases h5:(r0 == 165) with
  | true =>
   have h5:r0 = 165:=by simpa using h5
   rw [cT]
   refine Dr.bind (drBelow d2 3) fun c s hc hs=>?_
   refine Dr.bind (drBelow hc 5) fun c t hc ht=>?_
   have hs2:=hs.2 (by omega)
   have ht2:=ht.2 (by omega)
   exact Dr.some hc ⟨hx,⟨hi.1,hi2⟩,.inl ⟨h5,⟨hs.1,by show s ≤ 1000; omega⟩,ht.1,by show t ≤ 1000; omega⟩,by show l.length ≤ 3; omega,fun y hy=>(d5 y hy).1,fun _ y hy=>(d5 y hy).2⟩
  | false =>
   have h5:r0 ≠ 165:=by simpa using h5
   rw [cF]
   exact Dr.some d2 ⟨hx,⟨hi.1,hi2⟩,.inr ⟨h5,rfl,rfl⟩,by show l.length ≤ 3; omega,fun y hy=>(d5 y hy).1,fun _ y hy=>(d5 y hy).2⟩
def ageE (e:Fent):Option Fent:=cond e.2.2.2.2 (some e) (cond (decide (e.2.2.2.1 ≥ 4)) none (some (e.1,e.2.1,e.2.2.1,w64 (e.2.2.2.1 + 1),e.2.2.2.2)))
theorem ageT {l:List Fent} (hn:l.length ≤ 1000):gS l = some (l.filterMap ageE):=by
 unfold gS
 obtain ⟨v,e1,rfl⟩:=loop_inv (step:=fun z:Int × List Fent=>cL l z.1 z.2) (fun k z=>z = ((k:Int),(l.take k).filterMap ageE)) l.length (fun v=>v = l.filterMap ageE)
  (fun k z hk e=>by
   subst e
   refine .inl ⟨_,?_,rfl⟩
   have hfl:((l.take k).filterMap ageE).length ≤ k:=Nat.le_trans (List.length_filterMap_le _ _) (by rw [length_take]; omega)
   have t1:l.take (k + 1) = l.take k ++ [l[k]]:=by rw [take_add_one,List.getElem?_eq_getElem hk]; rfl
   have t2:(l.take (k + 1)).filterMap ageE = (l.take k).filterMap ageE ++ (match ageE l[k] with | some y=>[y] | none=>[]):=by
    rw [t1,List.filterMap_append]
    congr 1
    cases hq:ageE l[k] with
    | none=>rw [List.filterMap_cons_none hq]; rfl
    | some y=>rw [List.filterMap_cons_some hq]; rfl
   have ha:∀ y:Fent,app ((l.take k).filterMap ageE) [y] = some ((l.take k).filterMap ageE ++ [y]):=fun y=>app_small (by show _ + 1 ≤ _; omega)
   show cL l (k:Int) _ = _
   unfold cL
   rw [dlt (by omega),cT,at_nat hk,obs,w64_nat (by omega),t2]
   cases hs:l[k].2.2.2.2 with
   | true =>
    have hq:ageE l[k] = some l[k]:=by unfold ageE; rw [hs]; rfl
    rw [hq]
    simp only [Bool.not_true,cF,cT,ha,obs]
   | false =>
    simp only [Bool.not_false,cT,cF]
    cases h4:decide (l[k].2.2.2.1 ≥ 4) with
    | true =>
     have hq:ageE l[k] = none:=by unfold ageE; rw [hs,h4]; rfl
     rw [hq]
     simp only [cT,append_nil]
    | false =>
     have hq:ageE l[k] = some (l[k].1,l[k].2.1,l[k].2.2.1,w64 (l[k].2.2.2.1 + 1),false):=by unfold ageE; rw [hs,h4]; rfl
     rw [hq]
     simp only [cF,ha,obs])
  (fun z e=>by
   subst e
   refine ⟨_,?_,rfl⟩
   show cL l (l.length:Int) _ = _
   unfold cL
   rw [dnlt (by omega),cF,take_length]) (x:=(0,[])) rfl
 have e1:loop (fun z=>cL l z.1 z.2) (0,[]) = some (l.filterMap ageE):=e1
 rw [e1,obs]
theorem age_fent {e y:Fent} (h:pFent e = true) (hy:ageE e = some y):pFent y = true ∧ y.1 = e.1 ∧ y.2.1 = e.2.1:=by
 unfold ageE at hy
 cases hs:e.2.2.2.2 with
 | true=>rw [hs,cT] at hy; cases hy; exact ⟨h,rfl,rfl⟩
 | false =>
  rw [hs,cF] at hy
  by_cases h4:e.2.2.2.1 ≥ 4
  · rw [dT h4,cT] at hy; cases hy
  · rw [dF h4,cF] at hy
    cases hy
    unfold pFent at h ⊢
    simp only [aT] at h
    obtain ⟨f1,f2,f3,f4,f5⟩:=h
    obtain ⟨g1,g2⟩:=pIn_true f4
    refine ⟨?_,rfl,rfl⟩
    show (pIn e.1 1 99 && (pIn e.2.1 1 9999 && (pIn e.2.2.1 0 7 && (pIn (w64 (e.2.2.2.1 + 1)) 0 4 && (!false || _))))) = true
    rw [f1,f2,f3,w64_id (by omega) (by omega),inP (by omega) (by omega)]; rfl
theorem age_fb {l:List Fent} (h:FB l):FB (l.filterMap ageE):=by
 refine ⟨fun x hx=>?_,?_,Nat.le_trans (List.length_filterMap_le _ _) h.n⟩
 · obtain ⟨e,he,hy⟩:=List.mem_filterMap.1 hx
   exact (age_fent (h.e e he) hy).1
 · refine List.pairwise_filterMap.2 ?_
   refine List.Pairwise.imp_of_mem ?_ h.o
   intro a b ha hb hab x hx y hy
   obtain ⟨_,a1,a2⟩:=age_fent (h.e a ha) hx
   obtain ⟨_,b1,b2⟩:=age_fent (h.e b hb) hy
   unfold lt at hab ⊢
   rw [a1,a2,b1,b2]; exact hab
def tickS (b:Bridge):Bridge:=(b.1,b.2.1,b.2.2.1,b.2.2.2.1.filterMap ageE,b.2.2.2.2.1,b.2.2.2.2.2.1,moreV b.2.2.2.2.2.2.1,b.2.2.2.2.2.2.2.1,b.2.2.2.2.2.2.2.2.1,b.2.2.2.2.2.2.2.2.2.1,b.2.2.2.2.2.2.2.2.2.2)
noncomputable def turnV (b:Bridge):Bridge:=(aY b).getD b
noncomputable def tickV (b:Bridge):Bridge:=turnV (tickS b)
theorem turnE {b:Bridge} (h:SOk b) (hv:pVtab (b.2.2.2.2.1,b.2.2.2.2.2.1) (b.2.2.1.length:Int) = true):aY b = some (turnV b) ∧ BOk (turnV b) ∧ (turnV b).1 = b.1 ∧ (turnV b).2.1 = b.2.1 ∧ (turnV b).2.2.1 = b.2.2.1 ∧ (turnV b).2.2.2.2.2.2.1 = b.2.2.2.2.2.2.1 ∧ (turnV b).2.2.2.2.2.2.2.1 = b.2.2.2.2.2.2.2.1 ∧ (turnV b).2.2.2.2.2.2.2.2.1 = b.2.2.2.2.2.2.2.2.1 ∧ (turnV b).2.2.2.2.2.2.2.2.2.1 = b.2.2.2.2.2.2.2.2.2.1 ∧ (turnV b).2.2.2.2.2.2.2.2.2.2 = moreV b.2.2.2.2.2.2.2.2.2.2:=by
 obtain ⟨r,r1,r2,r3,r4,r5,r6,q1,q2,q3,q4,q5,q6,q7⟩:=turnZ h
 have e:turnV b = r:=by unfold turnV; rw [r1]; rfl
 rw [e]
 have hok:pBridge r = true:=r3.ok (by rw [r4,r5,r6]; exact hv)
 refine ⟨r1,bok (bwf_of r3 r3.le) hok,q1,q2,r4,q3,q4,q5,q6,?_⟩
 rw [moreE] at q7
 exact (Option.some.inj q7).symm
theorem tickS_ok {b:Bridge} (h:BOk b):SOk (tickS b):=by
 have s:=h.sok
 refine ⟨s.id,s.name,s.n1,s.n6,s.p,(age_fb (fb_of s.f)).ok,?_,s.q,s.v,s.s,s.i,s.h⟩
 obtain ⟨h1,h2,h3,h4,h5⟩:=counts_parts (bok_parts h.ok).1
 unfold pCounts
 simp only [aT]
 exact ⟨more_in h1,h2,h3,h4,h5⟩
theorem tickT {b:Bridge} (h:BOk b):kM b = some (tickV b) ∧ BOk (tickV b) ∧ (tickV b).2.1 = b.2.1 ∧ (tickV b).2.2.2.2.2.2.2.1 = b.2.2.2.2.2.2.2.1 ∧ (tickV b).2.2.2.2.2.2.2.2.1 = b.2.2.2.2.2.2.2.2.1 ∧ (tickV b).2.2.2.2.2.2.2.2.2.2 = moreV b.2.2.2.2.2.2.2.2.2.2:=by
 obtain ⟨t1,t2,t3,t4,t5,t6,t7,t8,t9,t10⟩:=turnE (tickS_ok h) h.v
 have hf:=fb_of h.f
 unfold kM
 rw [copyBridge h.le,obs,bridgeT h.w,obs,h.ok,cT,moreE,obs,ageT (by have:=hf.n; omega),obs]
 have t1':aY (b.1,b.2.1,b.2.2.1,b.2.2.2.1.filterMap ageE,b.2.2.2.2.1,b.2.2.2.2.2.1,moreV b.2.2.2.2.2.2.1,b.2.2.2.2.2.2.2.1,b.2.2.2.2.2.2.2.2.1,b.2.2.2.2.2.2.2.2.2.1,b.2.2.2.2.2.2.2.2.2.2) = some (turnV (tickS b)):=t1
 rw [t1',obs]
 exact ⟨rfl,t2,t4,t7,t8,t10⟩

theorem bnd_of {α β:Type} {o:Option α} {a:α} {k:α → Option β} {r:Option β} (h:o = some a) (hk:k a = r):o.bind k = r:=by rw [h]; exact hk
theorem ainvB {a:Agent} (h:AInv a) {b:Bridge} (hb:BOk b):AInv (mkA b (aW a) (aJobs a) (aLost a) (aLast a)):=⟨hb,h.w,h.n,h.lo,h.la,h.ids,h.up,h.j⟩
theorem putTlvS {b:List Int} (t:Int) {body:List Int} (hb:b.length ≤ 1200) (hn:body.length ≤ M):aq b t body = some (b ++ if pIn t 0 255 = true ∧ body.length ≤ 250 then tlvL t body else []):=by
 have hM:M = 1048576:=rfl
 unfold aq
 rw [app_nil (by omega),obs,inS,obs]
 cases hp:pIn t 0 255 with
 | false=>rw [Bool.not_false,cT,obs,cT,if_neg (fun h=>by cases h.1),append_nil]
 | true =>
  rw [Bool.not_true,cF,obs]
  by_cases h250:body.length ≤ 250
  · have hw:IntKind.u8.wrap t = t:=by obtain ⟨a,c⟩:=pIn_true hp; rw [w8]; omega
    have hl:IntKind.u8.wrap ((body.length:Int)) = (body.length:Int):=by rw [w8]; omega
    rw [dF (by omega),cF,hw,hl,if_pos ⟨rfl,h250⟩,app_small (by show b.length + 1 ≤ _; omega),obs]
    by_cases h127:(body.length:Int) > 127
    · rw [dT h127,cT,app_small (by rw [length_append]; show b.length + 1 + 1 ≤ _; omega),obs,app_small (by simp only [length_append,length_singleton]; omega),obs,app_small (by simp only [length_append,length_singleton]; omega),obs]
      unfold tlvL
      rw [if_pos (by omega)]
      simp
    · rw [dF h127,cF,app_small (by simp only [length_append,length_singleton]; omega),obs,app_small (by simp only [length_append,length_singleton]; omega),obs]
      unfold tlvL
      rw [if_neg (by omega)]
      simp
  · rw [dT (by omega),cT,if_neg (fun h=>h250 h.2),append_nil]
theorem putOidS {o:List Int} (h:pOid o = true):eY o = some (oidB o):=by
 obtain ⟨o1,o2,o3⟩:=oidR_of h
 have hM:M = 1048576:=rfl
 unfold eY
 rw [oidS,oidT (by omega),obs,h,Bool.not_true,cF]
 obtain ⟨v,e1,rfl⟩:=loop_inv (step:=fun z:Int × List Int=>cQ o z.1 z.2) (fun k z=>z = ((k:Int),oidB (o.take k))) o.length (fun v=>v = oidB o)
  (fun k z hk e=>by
   subst e
   have hx:=o3 _ (getElem_mem hk)
   have hl:(oidB (o.take k)).length ≤ 3 * (o.take k).length:=oidB_len fun x hx=>(o3 x (mem_of_mem_take hx)).2
   rw [length_take] at hl
   have hg:=grp_len o[k]
   refine .inl ⟨_,?_,rfl⟩
   show cQ o (k:Int) _ = _
   unfold cQ
   rw [dlt (by omega),cT,at_nat hk,obs,grpS ⟨hx.1,by omega⟩,obs,app_small (by show (oidB (o.take k)).length + (grp o[k]).length ≤ _; omega),obs,w64_nat (by omega),take_add_one,List.getElem?_eq_getElem hk]
   unfold oidB
   rw [flatMap_append]
   simp)
  (fun z e=>by
   subst e
   refine ⟨_,?_,rfl⟩
   show cQ o (o.length:Int) _ = _
   unfold cQ
   rw [dnlt (by omega),cF,take_length]) (x:=(0,[])) rfl
 have e1:loop (fun z=>cQ o z.1 z.2) (0,([]:List Int)) = some (oidB o):=e1
 rw [e1]; rfl
theorem putValS {b:List Int} (hb:b.length ≤ 1000) {v:Val} (h:pVal v = true):gh b v = some (b ++ tlvL v.1 (valB v)):=by
 have hM:M = 1048576:=rfl
 obtain ⟨l1,l2⟩:=pVal_len h
 have hk:pIn v.1 0 255 = true:=by
  unfold pVal at h
  by_cases c1:(v.1 == 5 || (v.1 == 128 || v.1 == 130)) = true
  · simp only [Bool.or_eq_true,beq_iff_eq] at c1
    rcases c1 with c | c | c <;> rw [c] <;> rfl
  · rw [show (v.1 == 5 || (v.1 == 128 || v.1 == 130)) = false by simpa using c1,cF] at h
    by_cases c2:v.1 = 2
    · rw [c2]; rfl
    · rw [beq_eq_false_iff_ne.2 c2,cF] at h
      by_cases c4:v.1 = 4
      · rw [c4]; rfl
      · rw [beq_eq_false_iff_ne.2 c4,cF] at h
        by_cases c6:v.1 = 6
        · rw [c6]; rfl
        · rw [beq_eq_false_iff_ne.2 c6,cF] at h; cases h
 have fin:∀ body,valB v = body → aq b v.1 body = some (b ++ tlvL v.1 (valB v)):=fun body e=>by
  subst e
  rw [putTlvS _ (by omega) (by omega),if_pos ⟨hk,by omega⟩]
 have ho6:v.2.2.2.length ≤ M:=by
  unfold pVal at h
  by_cases c6:v.1 = 6
  · rw [c6] at h
    simp only [show ((6:Int) == 5) = false from rfl,show ((6:Int) == 128) = false from rfl,show ((6:Int) == 130) = false from rfl,Bool.or_self,cF,show ((6:Int) == 2) = false from rfl,show ((6:Int) == 4) = false from rfl,show ((6:Int) == 6) = true from rfl,cT,aT] at h
    have:=oid_len h.1
    omega
  · have:v.2.2.2.length = 0:=by
     revert h
     cases (v.1 == 5 || (v.1 == 128 || v.1 == 130)) with
     | true=>intro h; simp only [cT,aT,beq_iff_eq] at h; omega
     | false =>
      rw [cF]
      cases (v.1 == 2) with
      | true=>intro h; simp only [cT,aT,beq_iff_eq] at h; omega
      | false =>
       rw [cF]
       cases (v.1 == 4) with
       | true=>intro h; simp only [cT,aT,beq_iff_eq] at h; omega
       | false=>intro h; rw [cF,beq_eq_false_iff_ne.2 c6] at h; cases h
    omega
 unfold gh
 rw [valS ho6,obs,h,Bool.not_true,cF]
 by_cases h2:v.1 = 2
 · have e:valB v = intB v.2.1:=by unfold valB; rw [beq_iff_eq.2 h2]; rfl
   have hr:-2147483648 ≤ v.2.1 ∧ v.2.1 ≤ 2147483647:=by
    unfold pVal at h
    rw [h2] at h
    simp only [show ((2:Int) == 5) = false from rfl,show ((2:Int) == 128) = false from rfl,show ((2:Int) == 130) = false from rfl,Bool.or_self,cF,show ((2:Int) == 2) = true from rfl,cT,aT] at h
    exact pIn_true h.1
   rw [beq_iff_eq.2 h2,cT,putIntS,obs,clip_id hr,fin _ e]; rfl
 rw [beq_eq_false_iff_ne.2 h2,cF]
 by_cases h4:v.1 = 4
 · have e:valB v = intsOf v.2.2.1:=by unfold valB; rw [beq_eq_false_iff_ne.2 h2,beq_iff_eq.2 h4]; rfl
   rw [beq_iff_eq.2 h4,cT,fin _ e]; rfl
 rw [beq_eq_false_iff_ne.2 h4,cF]
 by_cases h6:v.1 = 6
 · have e:valB v = oidB v.2.2.2:=by unfold valB; rw [beq_eq_false_iff_ne.2 h2,beq_eq_false_iff_ne.2 h4,beq_iff_eq.2 h6]; rfl
   have ho:pOid v.2.2.2 = true:=by
    unfold pVal at h
    rw [h6] at h
    simp only [show ((6:Int) == 5) = false from rfl,show ((6:Int) == 128) = false from rfl,show ((6:Int) == 130) = false from rfl,Bool.or_self,cF,show ((6:Int) == 2) = false from rfl,show ((6:Int) == 4) = false from rfl,show ((6:Int) == 6) = true from rfl,cT,aT] at h
    exact h.1
   rw [beq_iff_eq.2 h6,cT,putOidS ho,obs,fin _ e]; rfl
 · have e:valB v = []:=by unfold valB; rw [beq_eq_false_iff_ne.2 h2,beq_eq_false_iff_ne.2 h4,beq_eq_false_iff_ne.2 h6]; rfl
   rw [beq_eq_false_iff_ne.2 h6,cF,fin _ e]; rfl
theorem bindsS {l:List Bind} (hx:∀ x ∈ l,xOk x = true) (hn:l.length ≤ 10):gi l = some (allB l):=by
 have hM:M = 1048576:=rfl
 have hlen:∀ k,(allB (l.take k)).length ≤ 110 * k:=fun k=>by
  induction k with
  | zero=>simp [allB]
  | succ k ih =>
   rw [take_add_one]
   unfold allB at ih ⊢
   rw [flatMap_append,length_append]
   cases hk:l[k]? with
   | none=>show (List.flatMap bindB (l.take k)).length + 0 ≤ _; omega
   | some x =>
    have:=(bindB_len (hx x (List.mem_of_getElem? hk))).2
    show (List.flatMap bindB (l.take k)).length + (bindB x ++ []).length ≤ _
    rw [append_nil]; omega
 unfold gi
 obtain ⟨v,e1,rfl⟩:=loop_inv (step:=fun z:Int × List Int=>cR l z.1 z.2) (fun k z=>z = ((k:Int),allB (l.take k))) l.length (fun v=>v = allB l)
  (fun k z hk e=>by
   subst e
   have hxk:=hx _ (getElem_mem hk)
   have hl:=hlen k
   obtain ⟨b1,b2⟩:=bindB_len hxk
   have hxk':=hxk
   unfold xOk at hxk'
   rw [aT] at hxk'
   obtain ⟨o1,o2,o3⟩:=oidR_of hxk'.1
   have ho:=oidB_len (o:=l[k].1) fun y hy=>(o3 y hy).2
   have ht:=tlvL_len 6 (body:=oidB l[k].1)
   refine .inl ⟨_,?_,rfl⟩
   show cR l (k:Int) _ = _
   unfold cR
   rw [dlt (by omega),cT,at_nat hk,obs,putOidS hxk'.1,obs,putTlvS _ (by simp) (by omega),if_pos ⟨by decide,by omega⟩,obs,obs,nil_append,putValS (by omega) hxk'.2,obs,putTlvS _ (by show (allB (l.take k)).length ≤ 1200; omega) (by show (oneB l[k]).length ≤ _; omega),if_pos ⟨by decide,by show (oneB l[k]).length ≤ 250; omega⟩,obs,w64_nat (by omega),take_add_one,List.getElem?_eq_getElem hk]
   unfold allB
   rw [flatMap_append]
   simp [bindB,oneB])
  (fun z e=>by
   subst e
   refine ⟨_,?_,rfl⟩
   show cR l (l.length:Int) _ = _
   unfold cR
   rw [dnlt (by omega),cF,take_length]) (x:=(0,[])) rfl
 have e1:loop (fun z=>cR l z.1 z.2) (0,([]:List Int)) = some (allB l):=e1
 rw [e1]; rfl
theorem putPduS {p:Pdu} (hp:PLe M p):em p = some (pduB p):=by
 have hM:M = 1048576:=rfl
 unfold em pduB
 rw [pduS hp,obs]
 cases hk:pPdu p with
 | false=>rw [Bool.not_false,cT,if_neg (fun h=>by cases h.1)]
 | true =>
  obtain ⟨k1,k2,k3,k4,k5,k6⟩:=pPdu_parts hk
  have i1:=intB_len p.2.1
  have i2:=intB_len p.2.2.1
  have i3:=intB_len p.2.2.2.1
  have t1:=tlvL_len 2 (body:=intB p.2.1)
  have t2:=tlvL_len 2 (body:=intB p.2.2.1)
  have t3:=tlvL_len 2 (body:=intB p.2.2.2.1)
  rw [Bool.not_true,cF]
  unfold hC
  rw [bindsS k1 k2,obs]
  by_cases ha:(allB p.2.2.2.2).length ≤ 250
  · rw [dF (by omega),cF,putIntS,obs,clip_id k4,putTlvS _ (by simp) (by omega),if_pos ⟨by decide,by omega⟩,obs,putIntS,obs,clip_id (by omega),putTlvS _ (by simp only [nil_append]; omega) (by omega),if_pos ⟨by decide,by omega⟩,obs,putIntS,obs,clip_id (by omega),putTlvS _ (by simp only [nil_append,length_append]; omega) (by omega),if_pos ⟨by decide,by omega⟩,obs,putTlvS _ (by simp only [nil_append,length_append]; omega) (by omega),if_pos ⟨by decide,ha⟩,obs]
    have eb:([] ++ tlvL 2 (intB p.2.1) ++ tlvL 2 (intB p.2.2.1) ++ tlvL 2 (intB p.2.2.2.1) ++ tlvL 48 (allB p.2.2.2.2)) = bodyB p:=by unfold bodyB; simp
    rw [eb]
    have t4:=tlvL_len 48 (body:=allB p.2.2.2.2)
    have hbl:(bodyB p).length ≤ 400:=by unfold bodyB; simp only [length_append]; omega
    by_cases hb:(bodyB p).length ≤ 250
    · simp only [obs,dT (show ((bodyB p).length:Int) ≤ 250 by omega),Bool.not_true,cF]
      rw [putTlvS _ (by simp) (by omega),if_pos ⟨k3,hb⟩,if_pos ⟨trivial,ha,hb⟩,obs,nil_append]
    · simp only [obs,dF (show ¬ ((bodyB p).length:Int) ≤ 250 by omega),Bool.not_false,cT]
      rw [if_neg (fun h=>hb h.2.2)]
  · rw [dT (by omega),cT,obs,Bool.not_false,cT,if_neg (fun h=>ha h.2.1)]
theorem putMsgS (w:List UInt8) {p:Pdu} (hp:PLe M p):co w p = some (msgB w p):=by
 have hM:M = 1048576:=rfl
 have hpl:=pduB_le p
 unfold co msgB
 rw [putPduS hp,obs]
 by_cases h0:(pduB p).length = 0
 · rw [if_pos (Or.inl h0),show ((((pduB p).length:Nat):Int) == 0) = true by rw [h0]; rfl]; rfl
 · rw [beq_eq_false_iff_ne.2 (show (((pduB p).length:Nat):Int) ≠ 0 by omega),cF,obs]
   by_cases hw:20 < w.length
   · rw [if_pos (Or.inr hw),dT (by omega)]; rfl
   · have hwl:(intsOf w).length = w.length:=by unfold intsOf; rw [length_map]
     have hi1:=intB_len 1
     have ht1:=tlvL_len 2 (body:=intB 1)
     have ht2:=tlvL_len 4 (body:=intsOf w)
     have hhd:(hdB w).length ≤ 40:=by unfold hdB; rw [length_append]; omega
     rw [if_neg (by omega),dF (by omega),cF,putIntS,obs,clip_id (by omega),putTlvS _ (by simp) (by omega),if_pos ⟨by decide,by omega⟩,obs,nil_append,putTlvS _ (by omega) (by omega),if_pos ⟨by decide,by omega⟩,obs]
     show ((app (hdB w) (pduB p)).bind _) = _
     rw [app_small (by omega),obs]
     by_cases hb:(hdB w ++ pduB p).length ≤ 250
     · rw [dF (by omega),cF,putTlvS _ (by simp) (by omega),if_pos ⟨by decide,hb⟩,if_pos hb]; rfl
     · rw [dT (by omega),cT,if_neg hb]

def Msg (m:List Int):Prop:=Byt m ∧ m.length ≤ 1000
theorem drBend {c:L1Cur} (h:CW c) {m:List Int} (hm:Byt m) (hl:m.length ≤ 900):Dr Msg (fw c m):=by
 have no:∀ c,CW c → Dr Msg (some (c,m)):=fun c hc=>Dr.some hc ⟨hm,by omega⟩
 unfold fw
 by_cases h0:(m.length:Int) = 0
 · rw [beq_iff_eq.2 h0,cT]; exact no c h
 rw [beq_eq_false_iff_ne.2 h0,cF]
 refine Dr.bind (drBelow h 5) fun c t hc _=>?_
 refine Dr.cond ?_ (Dr.cond ?_ (Dr.cond ?_ (no c hc)))
 · obtain ⟨c1,k,e1,w1,hk⟩:=belowN hc (n:=m.length) (by omega)
   rw [e1,obs]
   refine Dr.bind (drInt w1 (by decide)) fun c x hc hx=>?_
   rw [ix_nat hk,obs,List.getElem?_eq_getElem hk,obs]
   refine Dr.some hc ⟨fun y hy=>?_,by rw [length_set]; omega⟩
   rcases List.mem_or_eq_of_mem_set hy with hy | rfl
   · exact hm y hy
   · show 0 ≤ IntKind.u8.wrap x ∧ IntKind.u8.wrap x ≤ 255
     rw [w8]; omega
 · rw [app_small (by show m.length + 1 ≤ _; omega),obs]
   refine Dr.some hc ⟨byt_app hm (fun y hy=>by rw [mem_singleton.1 hy]; decide),by rw [length_append]; show m.length + 1 ≤ 1000; omega⟩
 · obtain ⟨c1,k,e1,w1,hk⟩:=belowN hc (n:=m.length) (by omega)
   have hx:cutIx m.length 0 (k:Int) = some (0,k):=cutIx_ok (a:=0) (Nat.zero_le _) (by omega)
   rw [e1,obs]
   simp only
   rw [hx,obs]
   refine Dr.some w1 ⟨fun y hy=>hm y (mem_of_mem_take (mem_of_mem_drop hy)),?_⟩
   rw [length_drop,length_take]; show min k m.length - 0 ≤ 1000; omega
theorem drBindsA {c:L1Cur} (h:CW c) {n:Nat} (hn:n ≤ 1000) (k i a b:Int):Dr (fun p:Pdu=>p.2.2.2.2.length = n ∧ ∀ x ∈ p.2.2.2.2,XSm x) ((loop (fun z:Int × List Int × Int × Int × Int × Int × Int × Int × List Bind=>cl z.1 z.2.1 z.2.2.1 z.2.2.2.1 z.2.2.2.2.1 z.2.2.2.2.2.1 z.2.2.2.2.2.2.1 z.2.2.2.2.2.2.2.1 z.2.2.2.2.2.2.2.2) ((n:Int),c.1,c.2.1,c.2.2,k,i,a,b,[])).bind fun d=>some ((d.1,d.2.1,d.2.2.1),d.2.2.2)):=by
 obtain ⟨d,d1,d2,d3,d4⟩:=loop_inv (step:=fun z:Int × List Int × Int × Int × Int × Int × Int × Int × List Bind=>cl z.1 z.2.1 z.2.2.1 z.2.2.2.1 z.2.2.2.2.1 z.2.2.2.2.2.1 z.2.2.2.2.2.2.1 z.2.2.2.2.2.2.2.1 z.2.2.2.2.2.2.2.2)
  (fun j z=>z.1 = ((n - j:Nat):Int) ∧ CW (z.2.1,z.2.2.1,z.2.2.2.1) ∧ z.2.2.2.2.2.2.2.2.length = j ∧ ∀ y ∈ z.2.2.2.2.2.2.2.2,XSm y) n
  (fun d=>CW (d.1,d.2.1,d.2.2.1) ∧ d.2.2.2.2.2.2.2.length = n ∧ ∀ y ∈ d.2.2.2.2.2.2.2,XSm y)
  (fun j z hj ⟨z1,z2,z3,z4⟩=>by
   obtain ⟨q,c0,c1,c2,r0,r1,r2,r3,out⟩:=z
   simp only at z1 z2 z3 z4
   subst z1 z3
   obtain ⟨c',o,x1,x2,x3⟩:=drOid z2
   obtain ⟨c'',v,y1,y2,y3⟩:=drVal x2
   refine .inl ⟨_,by
    show cl _ _ _ _ _ _ _ _ _ = _
    unfold cl
    rw [dT (show ((n - out.length:Nat):Int) > 0 by omega),cT,x1,obs,y1,obs,app_small (by show _ + 1 ≤ _; omega),obs],?_,y2,by simp,?_⟩
   · show w64 (((n - out.length:Nat):Int) - 1) = _
     rw [w64_id (by omega) (by omega)]; omega
   · intro y hy
     rcases mem_append.1 hy with hy | hy
     · exact z4 y hy
     · rw [mem_singleton] at hy
       subst hy
       have:=x3.n10
       exact ⟨by show o.length ≤ 1000; omega,y3⟩)
  (fun z ⟨z1,z2,z3,z4⟩=>by
   obtain ⟨q,c0,c1,c2,r0,r1,r2,r3,out⟩:=z
   simp only at z1 z2 z3 z4
   rw [Nat.sub_self] at z1
   subst z1
   refine ⟨(c0,c1,c2,r0,r1,r2,r3,out),?_,z2,z3,z4⟩
   show cl _ _ _ _ _ _ _ _ _ = _
   unfold cl
   rw [dF (show ¬ ((0:Nat):Int) > 0 by decide),cF]) (x:=((n:Int),c.1,c.2.1,c.2.2,k,i,a,b,[])) ⟨rfl,h,rfl,by simp⟩
 refine ⟨_,_,bnd_of d1 rfl,d2,d3,d4⟩
theorem drBindsB {c:L1Cur} (h:CW c) {n:Nat} (hn:n ≤ 1000) (k i a b:Int):Dr (fun p:Pdu=>p.2.2.2.2.length = n ∧ ∀ x ∈ p.2.2.2.2,XSm x) ((loop (fun z:Int × List Int × Int × Int × Int × Int × Int × Int × List Bind=>cm z.1 z.2.1 z.2.2.1 z.2.2.2.1 z.2.2.2.2.1 z.2.2.2.2.2.1 z.2.2.2.2.2.2.1 z.2.2.2.2.2.2.2.1 z.2.2.2.2.2.2.2.2) ((n:Int),c.1,c.2.1,c.2.2,k,i,a,b,[])).bind fun d=>some ((d.1,d.2.1,d.2.2.1),d.2.2.2)):=by
 obtain ⟨d,d1,d2,d3,d4⟩:=loop_inv (step:=fun z:Int × List Int × Int × Int × Int × Int × Int × Int × List Bind=>cm z.1 z.2.1 z.2.2.1 z.2.2.2.1 z.2.2.2.2.1 z.2.2.2.2.2.1 z.2.2.2.2.2.2.1 z.2.2.2.2.2.2.2.1 z.2.2.2.2.2.2.2.2)
  (fun j z=>z.1 = ((n - j:Nat):Int) ∧ CW (z.2.1,z.2.2.1,z.2.2.2.1) ∧ z.2.2.2.2.2.2.2.2.length = j ∧ ∀ y ∈ z.2.2.2.2.2.2.2.2,XSm y) n
  (fun d=>CW (d.1,d.2.1,d.2.2.1) ∧ d.2.2.2.2.2.2.2.length = n ∧ ∀ y ∈ d.2.2.2.2.2.2.2,XSm y)
  (fun j z hj ⟨z1,z2,z3,z4⟩=>by
   obtain ⟨q,c0,c1,c2,r0,r1,r2,r3,out⟩:=z
   simp only at z1 z2 z3 z4
   subst z1 z3
   obtain ⟨c',o,x1,x2,x3⟩:=drOid z2
   obtain ⟨c'',v,y1,y2,y3⟩:=drVal x2
   refine .inl ⟨_,by
    show cm _ _ _ _ _ _ _ _ _ = _
    unfold cm
    rw [dT (show ((n - out.length:Nat):Int) > 0 by omega),cT,x1,obs,y1,obs,app_small (by show _ + 1 ≤ _; omega),obs],?_,y2,by simp,?_⟩
   · show w64 (((n - out.length:Nat):Int) - 1) = _
     rw [w64_id (by omega) (by omega)]; omega
   · intro y hy
     rcases mem_append.1 hy with hy | hy
     · exact z4 y hy
     · rw [mem_singleton] at hy
       subst hy
       have:=x3.n10
       exact ⟨by show o.length ≤ 1000; omega,y3⟩)
  (fun z ⟨z1,z2,z3,z4⟩=>by
   obtain ⟨q,c0,c1,c2,r0,r1,r2,r3,out⟩:=z
   simp only at z1 z2 z3 z4
   rw [Nat.sub_self] at z1
   subst z1
   refine ⟨(c0,c1,c2,r0,r1,r2,r3,out),?_,z2,z3,z4⟩
   show cm _ _ _ _ _ _ _ _ _ = _
   unfold cm
   rw [dF (show ¬ ((0:Nat):Int) > 0 by decide),cF]) (x:=((n:Int),c.1,c.2.1,c.2.2,k,i,a,b,[])) ⟨rfl,h,rfl,by simp⟩
 refine ⟨_,_,bnd_of d1 rfl,d2,d3,d4⟩
theorem drPduAny {c:L1Cur} (h:CW c):Dr (fun p:Pdu=>PLe M p) (fv c):=by
 have hM:M = 1048576:=rfl
 have le:∀ {n:Nat},n ≤ 3 → ∀ p:Pdu,(p.2.2.2.2.length = n ∧ ∀ x ∈ p.2.2.2.2,XSm x) → PLe M p:=fun hn p hp=>⟨by show p.2.2.2.2.length ≤ 1048576; omega,fun x hx=>(hp.2 x hx).le⟩
 have up:∀ {n:Nat} {o:Option (L1Cur × Pdu)},n ≤ 3 → Dr (fun p:Pdu=>p.2.2.2.2.length = n ∧ ∀ x ∈ p.2.2.2.2,XSm x) o → Dr (fun p:Pdu=>PLe M p) o:=fun hn ⟨c,p,e,w,hp⟩=>⟨c,p,e,w,le hn p hp⟩
 unfold fv
 refine Dr.bind (drInt h (by decide)) fun c k hc _=>?_
 refine Dr.bind (drNum hc) fun c x hc _=>?_
 obtain ⟨r,hr⟩:=clipX x
 rw [hr,obs]
 have hkk:∃ t,(cond (k == 162) (some true) (some (k == 165))) = some t:=by cases k == 162 <;> exact ⟨_,rfl⟩
 obtain ⟨t,ht⟩:=hkk
 simp only
 rw [ht,obs]
 refine Dr.cond ?_ ?_
 · refine Dr.bind (drBelow hc 4) fun c a hc _=>?_
   refine Dr.bind (drBelow hc 5) fun c b hc _=>?_
   obtain ⟨c1,n,e1,w1,hn⟩:=belowN hc (n:=4) (by decide)
   have e1':aa c 4 = some (c1,(n:Int)):=e1
   simp only
   rw [e1',obs]
   exact up (by omega) (drBindsA w1 (by omega) k r a b)
 · obtain ⟨c1,n,e1,w1,hn⟩:=belowN hc (n:=4) (by decide)
   have e1':aa c 4 = some (c1,(n:Int)):=e1
   rw [e1',obs]
   exact up (by omega) (drBindsB w1 (by omega) k r 0 0)
theorem msg_of (w:List UInt8) (p:Pdu):Msg (msgB w p) ∧ (msgB w p).length ≤ 900:=by
 have h:(msgB w p).length ≤ 300:=by
  unfold msgB
  split
  · simp
  · split
    · have:=tlvL_len 48 (body:=hdB w ++ pduB p)
      omega
    · simp
 exact ⟨⟨byt_msg w p,by omega⟩,by omega⟩
theorem drMsg {c:L1Cur} (h:CW c) {b:Bridge} (hb:BOk b):Dr Msg (cp c b):=by
 have hq:∀ c,CW c → Dr AskD (ck c b):=fun c hc=>drPdu hc hb.w fun c hc=>by obtain ⟨c',o,e,w,h⟩:=nameD hc hb; exact ⟨c',o,e,w,h⟩
 unfold cp
 refine Dr.bind (drBelow h 10) fun c t hc _=>?_
 refine Dr.cond ?_ (Dr.cond ?_ (Dr.cond ?_ ?_))
 · refine Dr.bind (hq c hc) fun c p hc hp=>?_
   simp only
   rw [putMsgS _ hp.le,obs]
   obtain ⟨m1,m2⟩:=msg_of [121,97,114,100] p
   exact Dr.bind (drBend hc m1.1 m2) fun c m hc hm=>Dr.some hc hm
 · refine Dr.bind (hq c hc) fun c p hc hp=>?_
   simp only
   rw [putMsgS _ hp.le,obs]
   exact Dr.some hc (msg_of _ p).1
 · refine Dr.bind (drPduAny hc) fun c p hc hp=>?_
   simp only
   rw [putMsgS _ hp,obs]
   exact Dr.some hc (msg_of _ p).1
 · refine Dr.bind (hq c hc) fun c p hc hp=>?_
   simp only
   rw [putMsgS _ hp.le,obs]
   exact Dr.some hc (msg_of _ p).1
theorem sizeT {code:List Int} (h:code.length ≤ 1048576):∃ k:Nat,cr code 36 = some (k:Int) ∧ k ≤ 36:=by
 unfold cr
 have e:w64 (3 + (w64 ((code.length:Int).tdiv 12))) = 3 + (code.length:Int) / 12:=by
  rw [Int.tdiv_eq_ediv_of_nonneg (by omega),w64_id (n:=(code.length:Int) / 12) (by omega) (by omega),w64_id (by omega) (by omega)]
 simp only [e]
 by_cases hk:3 + (code.length:Int) / 12 > 36
 · rw [dT hk,cT]; exact ⟨36,rfl,Nat.le_refl _⟩
 · rw [dF hk,cF]
   exact ⟨(3 + (code.length:Int) / 12).toNat,by rw [Int.toNat_of_nonneg (by omega)],by omega⟩
theorem ix_at {α β:Type} (l:List α) (i:Int) (f:α → Option β):((ix l.length i).bind fun j=>(l[j]?).bind f) = (at? l i).bind f:=by
 unfold ix at?
 by_cases h0:0 ≤ i
 · rw [if_pos h0,if_pos h0]
   by_cases h1:i < (l.length:Int)
   · rw [if_pos h1,obs]
   · rw [if_neg h1,List.getElem?_eq_none (by omega)]; rfl
 · rw [if_neg h0,if_neg h0]; rfl
theorem lessS':ii = eI:=rfl
theorem sameOidS:cU = aE:=rfl
theorem nextS {b:Bridge} (h:BWf b) (o:List Int):gy b o = bm b o:=by
 unfold gy bm
 rw [mib_same h]
 cases bC b with
 | none=>rfl
 | some l =>
  have hs:(fun z:Int × Int × Int × List UInt8 × List Int × List Int=>ij o l z.1 z.2.1 z.2.2.1 z.2.2.2.1 z.2.2.2.2.1 z.2.2.2.2.2) = fun z=>bW o l z.1 z.2.1 z.2.2.1 z.2.2.2.1 z.2.2.2.2.1 z.2.2.2.2.2:=by
   funext z
   unfold ij bW
   simp only [ix_at,lessS']
   cases at? l z.1 <;> rfl
  rw [obs,obs,hs]
  unfold aS
  simp only [Option.bind_assoc,obs]
theorem getS {b:Bridge} (h:BWf b) (o:List Int):gA b o = bV b o:=by
 unfold gA bV
 rw [mib_same h]
 cases bC b with
 | none=>rfl
 | some l =>
  have hs:(fun z:Int × Int × Int × List UInt8 × List Int=>il o l z.1 z.2.1 z.2.2.1 z.2.2.2.1 z.2.2.2.2) = fun z=>bj o l z.1 z.2.1 z.2.2.1 z.2.2.2.1 z.2.2.2.2:=by
   funext z
   unfold il bj
   simp only [ix_at,sameOidS]
   cases at? l z.1 <;> rfl
  rw [obs,obs,hs]
def Told (b:Bridge) (x:Bind):Prop:=pOid x.1 = true ∧ (x.2.1 = 130 → nextV b x.1 = x)
theorem told_next {b:Bridge} (h:BOk b) {o:List Int} (ho:pOid o = true):Told b (nextV b o):=by
 refine ⟨xOk_oid (nextOk h ho),fun hk=>?_⟩
 obtain ⟨_,h1⟩:=nextE h (o:=o) (by have:=pOid_len ho; omega)
 rcases h1 with ⟨h1,_⟩ | ⟨h1,h2⟩
 · exfalso
   have hv:∀ v:Val,Vl v → v.1 ≠ 130:=fun v hv=>by cases hv <;> simp
   exact hv _ (mib_each h _ h1).2 hk
 · rw [h1]; exact h1
theorem told_named {b:Bridge} {o:List Int} (ho:pOid o = true):Told b (o,5,0,[],[]):=⟨ho,fun hk=>by have hk:(5:Int) = 130:=hk; omega⟩
noncomputable def nextsV (b:Bridge) (l:List Bind):List Bind:=l.map fun x=>nextV b x.1
theorem nexts_one {b:Bridge} {x:Bind} (h:Told b x):(cond (x.2.1 == 130) x (nextV b x.1)) = nextV b x.1:=by
 cases hk:x.2.1 == 130 with
 | true=>rw [cT]; exact (h.2 (by simpa using hk)).symm
 | false=>rfl
noncomputable def specR (b:Bridge):Nat → List Bind × List Bind → List Bind × List Bind
 | 0,s=>s
 | n + 1,s=>if 0 < s.2.length ∧ s.1.length < 10 then specR b n (s.1 ++ nextsV b s.2,nextsV b s.2) else s
theorem specR_stop {b:Bridge}:∀ (n:Nat) {s:List Bind × List Bind},10 ≤ s.1.length → specR b n s = s
 | 0,s,_=>rfl
 | n + 1,s,h=>if_neg (by omega)
theorem rnds_stop {b:Bridge}:∀ (n:Nat) {s:List Bind × List (List Int)},10 ≤ s.1.length → rnds b n s = s
 | 0,s,_=>rfl
 | n + 1,s,h=>if_neg (by omega)
theorem specR_rnds {b:Bridge}:∀ (n:Nat) (out T:List Bind),out.length ≤ 10 → (rnds b n (out,T.map fun x=>x.1)).1 = (specR b n (out,T)).1.take 10
 | 0,out,T,h=>(take_of_length_le h).symm
 | n + 1,out,T,h=>by
  by_cases hc:0 < T.length ∧ out.length < 10
  · have e1:rnds b (n + 1) (out,T.map fun x=>x.1) = rnds b n (inn b (out,T.map fun x=>x.1)):=if_pos (by simpa using hc)
    have e2:specR b (n + 1) (out,T) = specR b n (out ++ nextsV b T,nextsV b T):=if_pos hc
    rw [e1,e2]
    by_cases hle:out.length + T.length ≤ 10
    · have hm:innL (out,T.map fun x=>x.1) = T.length:=by unfold innL; simp only [length_map]; omega
      have e3:inn b (out,T.map fun x=>x.1) = (out ++ nextsV b T,(nextsV b T).map fun x=>x.1):=by
       unfold inn nextsV
       simp only [hm]
       rw [take_of_length_le (by simp),List.drop_of_length_le (by simp),append_nil,map_map,map_map,map_map]
       rfl
      rw [e3]
      exact specR_rnds n _ _ (by rw [length_append]; unfold nextsV; rw [length_map]; omega)
    · have hm:innL (out,T.map fun x=>x.1) = 10 - out.length:=by unfold innL; simp only [length_map]; omega
      have hl1:(inn b (out,T.map fun x=>x.1)).1.length = 10:=by
       show (out ++ ((T.map fun x=>x.1).take (innL (out,T.map fun x=>x.1))).map (nextV b)).length = 10
       rw [hm,length_append,length_map,length_take,length_map]; omega
      rw [rnds_stop n (by omega),specR_stop n (by show 10 ≤ (out ++ nextsV b T).length; rw [length_append]; unfold nextsV; rw [length_map]; omega)]
      show out ++ ((T.map fun x=>x.1).take (innL (out,T.map fun x=>x.1))).map (nextV b) = (out ++ nextsV b T).take 10
      rw [hm,List.take_append,take_of_length_le h]
      unfold nextsV
      rw [← List.map_take,← List.map_take,map_map]
      rfl
  · have e1:rnds b (n + 1) (out,T.map fun x=>x.1) = (out,T.map fun x=>x.1):=if_neg (by simpa using hc)
    have e2:specR b (n + 1) (out,T) = (out,T):=if_neg hc
    rw [e1,e2]
    exact (take_of_length_le h).symm

theorem fitsS {p:Pdu} (hp:PLe M p):dN p = some (fitP p):=by
 unfold dN
 rw [putPduS hp,obs]
 show (ae ((pduB p).length:Int) 1 120).bind _ = _
 rw [inS,obs]; rfl
def named (l:List Bind):List Bind:=l.map fun x=>(x.1,5,0,[],[])
theorem namesS {l:List Bind} (hn:l.length ≤ M):cW l = some (named l):=by
 have hM:M = 1048576:=rfl
 unfold cW named
 refine bnd_of (map_loop (g:=fun x:Bind=>((x.1,5,0,[],[]):Bind)) hn (fun k hk out ho=>?_) (fun out=>?_)) rfl
 · show ff l (k:Int) out = _
   unfold ff
   rw [dlt (by omega),cT,at_nat hk,obs,app_small (by rw [ho]; show k + 1 ≤ _; omega),obs,w64_nat (by omega)]
 · show ff l (l.length:Int) out = _
   unfold ff
   rw [dnlt (by omega),cF]
theorem nextsS {b:Bridge} (h:BOk b) {l:List Bind} (hn:l.length ≤ 1000) (hT:∀ x ∈ l,Told b x):br b l = some (nextsV b l):=by
 unfold br nextsV
 refine bnd_of (map_loop (g:=fun x:Bind=>nextV b x.1) (by show _ ≤ 1048576; omega) (fun k hk out ho=>?_) (fun out=>?_)) rfl
 · have hx:=hT _ (getElem_mem hk)
   have e:=nexts_one hx
   show fe b l (k:Int) out = _
   unfold fe
   rw [dlt (by omega),cT,at_nat hk,obs,obs,obs,nextS h.w,(nextE h (by have:=pOid_len hx.1; omega)).1,obs,w64_nat (by omega)]
   cases hk':l[k].2.1 == 130 with
   | true =>
    rw [hk',cT] at e
    rw [cT,app_small (by rw [ho]; show k + 1 ≤ _; omega),obs,← e]
   | false=>rw [cF,app_small (by rw [ho]; show k + 1 ≤ _; omega),obs]
 · show fe b l (l.length:Int) out = _
   unfold fe
   rw [dnlt (by omega),cF]
theorem told_nexts {b:Bridge} (h:BOk b) {l:List Bind} (hT:∀ x ∈ l,Told b x):∀ x ∈ nextsV b l,Told b x:=by
 intro x hx
 obtain ⟨y,hy,rfl⟩:=mem_map.1 hx
 exact told_next h (hT y hy).1
theorem manyS {b:Bridge} (h:BOk b) {p:Pdu} (hB:p.2.2.2.1 ≤ 1000):∀ (n i:Nat) (out T:List Bind),T.length ≤ 10 → out.length ≤ 10 + 10 * i → (∀ x ∈ T,Told b x) → ((i + n:Nat):Int) = p.2.2.2.1 → loop (fun z=>bI b p z.1 z.2.1 z.2.2) (T,(i:Int),out) = some (specR b n (out,T)).1
 | 0,i,out,T,h1,h2,hT,e=>by
  refine loop_end ?_
  show bI b p T (i:Int) out = _
  unfold bI
  rw [dnlt (by omega),cF,obs,cF,obs,cF]; rfl
 | n + 1,i,out,T,h1,h2,hT,e=>by
  by_cases hc:0 < T.length ∧ out.length < 10
  · have hnl:(nextsV b T).length = T.length:=by unfold nextsV; rw [length_map]
    refine loop_in (y:=(nextsV b T,((i + 1:Nat):Int),out ++ nextsV b T)) ?_ ?_
    · show bI b p T (i:Int) out = _
      unfold bI
      rw [dlt (by omega),cT,dT (by omega),obs,cT,dlt (by omega),obs,cT,nextsS h (by omega) hT,obs,app_small (by rw [hnl]; omega),obs,w64_nat (by omega)]
    · rw [manyS h hB n (i + 1) _ _ (by rw [hnl]; exact h1) (by rw [length_append,hnl]; omega) (told_nexts h hT) (by omega),show specR b (n + 1) (out,T) = specR b n (out ++ nextsV b T,nextsV b T) from if_pos hc]
  · refine loop_end ?_
    show bI b p T (i:Int) out = _
    have e2:specR b (n + 1) (out,T) = (out,T):=if_neg hc
    rw [e2]
    unfold bI
    rw [dlt (by omega),cT]
    by_cases h1:0 < T.length
    · rw [dT (by omega),obs,cT,dnlt (by omega),obs,cF]
    · rw [dF (by omega),obs,cF,obs,cF]
theorem specR_len {b:Bridge}:∀ (n:Nat) (out T:List Bind),T.length ≤ 10 → out.length ≤ 20 → (specR b n (out,T)).1.length ≤ 20
 | 0,out,T,_,h=>h
 | n + 1,out,T,hT,h=>by
  by_cases hc:0 < T.length ∧ out.length < 10
  · rw [show specR b (n + 1) (out,T) = specR b n (out ++ nextsV b T,nextsV b T) from if_pos hc]
    have hnl:(nextsV b T).length = T.length:=by unfold nextsV; rw [length_map]
    exact specR_len n _ _ (by omega) (by rw [length_append,hnl]; omega)
  · rw [show specR b (n + 1) (out,T) = (out,T) from if_neg hc]; exact h
theorem bulkSX {b:Bridge} (h:BOk b) {p:Pdu} (hp:pPdu p = true):gz b p = some (bulkV b p):=by
 obtain ⟨x1,x2,_,_,x5,x6⟩:=pPdu_parts hp
 have hM:M = 1048576:=rfl
 have hnl:(named p.2.2.2.2).length = p.2.2.2.2.length:=by unfold named; rw [length_map]
 have hTold:∀ x ∈ named p.2.2.2.2,Told b x:=by
  intro x hx
  obtain ⟨y,hy,rfl⟩:=mem_map.1 hx
  exact told_named (xOk_oid (x1 y hy))
 have hon:onceN p ≤ p.2.2.2.2.length:=Nat.min_le_right _ _
 have hout:nextsV b ((named p.2.2.2.2).take (onceN p)) = (p.2.2.2.2.take (onceN p)).map (fun x=>nextV b x.1):=by
  unfold nextsV named; rw [← List.map_take,map_map]; rfl
 have hlast:((named p.2.2.2.2).drop (onceN p)).map (fun x=>x.1) = (p.2.2.2.2.drop (onceN p)).map (fun x=>x.1):=by
  unfold named; rw [← List.map_drop,map_map]; rfl
 have hol:(nextsV b ((named p.2.2.2.2).take (onceN p))).length ≤ 10:=by rw [hout,length_map,length_take]; omega
 have hTl:((named p.2.2.2.2).drop (onceN p)).length ≤ 10:=by rw [length_drop]; omega
 have hrun:=manyS h (p:=p) (by omega) p.2.2.2.1.toNat 0 (nextsV b ((named p.2.2.2.2).take (onceN p))) ((named p.2.2.2.2).drop (onceN p)) hTl (by omega) (fun x hx=>hTold x (mem_of_mem_drop hx)) (by omega)
 have hv:bulkV b p = (specR b p.2.2.2.1.toNat (nextsV b ((named p.2.2.2.2).take (onceN p)),(named p.2.2.2.2).drop (onceN p))).1.take 10:=by
  unfold bulkV bulkS
  rw [← hout,← hlast]
  exact specR_rnds _ _ _ hol
 have hlen:=specR_len (b:=b) p.2.2.2.1.toNat _ _ hTl (show (nextsV b ((named p.2.2.2.2).take (onceN p))).length ≤ 20 by omega)
 have fin:∀ k:Int,k = ((onceN p:Nat):Int) → ((cW p.2.2.2.2).bind fun t22 =>
  (cutIx t22.length 0 k).bind fun q =>
  (br b ((t22.take q.2).drop q.1)).bind fun t27 =>
  (cut t22 k (t22.length:Int)).bind fun t30 =>
  (loop (fun z=>bI b p z.1 z.2.1 z.2.2) (t30,0,t27)).bind fun d =>
  cond (decide ((d.length:Int) > 10))
   ((cutIx d.length 0 10).bind fun p_1 =>
   some ((d.take p_1.2).drop p_1.1))
   (some d)) = some (bulkV b p):=by
  rintro k rfl
  rw [namesS (by omega),obs,show (0:Int) = ((0:Nat):Int) from rfl,cutIx_ok (by omega) (by rw [hnl]; exact hon),obs]
  show (br b (((named p.2.2.2.2).take (onceN p)).drop 0)).bind _ = _
  rw [drop_zero,nextsS h (by rw [length_take]; omega) (fun x hx=>hTold x (mem_of_mem_take hx)),obs,cut_ok (by rw [hnl]; exact hon) (Nat.le_refl _),obs,take_length]
  refine bnd_of hrun ?_
  rw [hv]
  generalize (specR b p.2.2.2.1.toNat (nextsV b ((named p.2.2.2.2).take (onceN p)),(named p.2.2.2.2).drop (onceN p))).1 = d at hlen
  by_cases hd:(d.length:Int) > 10
  · rw [dT hd,cT,show (10:Int) = ((10:Nat):Int) from rfl,cutIx_ok (by omega) (by omega),obs]
    rfl
  · rw [dF hd,cF,take_of_length_le (by omega)]
 unfold gz
 by_cases hc:p.2.2.1 > (p.2.2.2.2.length:Int)
 · rw [dT hc,cT]
   exact fin _ (by unfold onceN; omega)
 · rw [dF hc,cF]
   exact fin _ (by unfold onceN; omega)
theorem smallS (k i a c:Int) (bulk:Bool):∀ (n:Nat) (l:List Bind),l.length = n → n ≤ 10 → (∀ x ∈ l,XLe M x) →
 ∃ t,loop (fun z:Pdu=>cf bulk z.1 z.2.1 z.2.2.1 z.2.2.2.1 z.2.2.2.2) (k,i,a,c,l) = some (k,i,a,c,t) ∧ PLe M (k,i,a,c,t) ∧
  ((fitP (k,i,a,c,l) = true ∧ t = l) ∨ (fitP (k,i,a,c,l) = false ∧ ((bulk = true ∧ fitP (k,i,a,c,t) = true ∧ shr (fun t=>fitP (k,i,a,c,t)) n l = some t) ∨ (fitP (k,i,a,c,t) = false ∧ (bulk = true → shr (fun t=>fitP (k,i,a,c,t)) n l = none)))))
 | n,l,hl,hn,hx=>by
  have hp:PLe M (k,i,a,c,l):=⟨by show l.length ≤ 1048576; omega,hx⟩
  have hstep:∀ q:Bool,fitP (k,i,a,c,l) = q → cf bulk k i a c l = cond (bulk && (!q && decide ((l.length:Int) > 0))) ((cutIx l.length 0 (w64 ((l.length:Int) - 1))).bind fun p=>some (.inl (k,i,a,c,(l.take p.2).drop p.1))) (some (.inr (k,i,a,c,l))):=by
   intro q hq
   unfold cf
   rw [fitsS hp,hq]
   cases bulk <;> cases q <;> rfl
  cases hf:fitP (k,i,a,c,l) with
  | true =>
   refine ⟨l,loop_end ?_,hp,.inl ⟨rfl,rfl⟩⟩
   show cf bulk k i a c l = _
   rw [hstep true hf]; cases bulk <;> rfl
  | false =>
   cases hb:bulk with
   | false =>
    subst hb
    refine ⟨l,loop_end ?_,hp,.inr ⟨rfl,.inr ⟨hf,(fun h=>by cases h)⟩⟩⟩
    show cf false k i a c l = _
    rw [hstep false hf]; rfl
   | true =>
    subst hb
    match n,hl,hn with
    | 0,hl,hn =>
     refine ⟨l,loop_end ?_,hp,.inr ⟨rfl,.inr ⟨hf,fun _=>rfl⟩⟩⟩
     show cf true k i a c l = _
     rw [hstep false hf,dF (by omega)]; rfl
    | n + 1,hl,hn =>
     have hlt:(l.take n).length = n:=by rw [length_take]; omega
     have hs:cf true k i a c l = some (.inl (k,i,a,c,l.take n)):=by
      rw [hstep false hf,dT (by omega)]
      show ((cutIx l.length 0 (w64 ((l.length:Int) - 1))).bind _) = _
      rw [w64_id (by omega) (by omega),show (l.length:Int) - 1 = ((n:Nat):Int) by omega,show (0:Int) = ((0:Nat):Int) from rfl,cutIx_ok (by omega) (by omega),obs]
      rfl
     obtain ⟨t,t1,t2,t3⟩:=smallS k i a c true n (l.take n) hlt (by omega) (fun x h=>hx x (mem_of_mem_take h))
     refine ⟨t,loop_in hs t1,t2,.inr ⟨rfl,?_⟩⟩
     rcases t3 with ⟨u1,rfl⟩ | ⟨u1,⟨_,u2,u3⟩ | ⟨u2,u3⟩⟩
     · exact .inl ⟨rfl,u1,if_pos u1⟩
     · exact .inl ⟨rfl,u2,by rw [show shr (fun t=>fitP (k,i,a,c,t)) (n + 1) l = shr (fun t=>fitP (k,i,a,c,t)) n (l.take n) from if_neg (show ¬ fitP (k,i,a,c,l.take n) = true by rw [u1]; simp)]; exact u3⟩
     · exact .inr ⟨u2,fun _=>by rw [show shr (fun t=>fitP (k,i,a,c,t)) (n + 1) l = shr (fun t=>fitP (k,i,a,c,t)) n (l.take n) from if_neg (show ¬ fitP (k,i,a,c,l.take n) = true by rw [u1]; simp)]; exact u3 rfl⟩
noncomputable def smallV (i a c:Int) (bulk:Bool) (l:List Bind):Pdu :=
 cond (fitP (162,i,a,c,l)) (162,i,a,c,l) (match cond bulk (shr (fun t=>fitP (162,i,a,c,t)) l.length l) none with | some t=>(162,i,a,c,t) | none=>(162,i,7,0,[]))
theorem smallT (i a c:Int) (bulk:Bool) {l:List Bind} (hn:l.length ≤ 10) (hx:∀ x ∈ l,XLe M x):cS (162,i,a,c,l) bulk = some (smallV i a c bulk l):=by
 obtain ⟨t,t1,t2,t3⟩:=smallS 162 i a c bulk l.length l rfl hn hx
 unfold cS smallV
 refine bnd_of t1 ?_
 rw [fitsS t2,obs]
 rcases t3 with ⟨u1,rfl⟩ | ⟨u1,⟨rfl,u2,u3⟩ | ⟨u2,u3⟩⟩
 · rw [u1,cT,cT]
 · rw [u1,u2,cT,cF,cT,u3]
 · rw [u1,u2,cF,cF]
   cases bulk with
   | true=>rw [cT,u3 rfl]
   | false=>rfl
theorem getsS {b:Bridge} (h:BOk b) {p:Pdu} (hp:pPdu p = true) (h163:(p.1 == 163) = false) (hk:(p.1 != 162) = true):∃ l,gB b p = some l ∧ ansV b p = (b,162,p.2.1,0,0,l) ∧ l.length ≤ 10 ∧ ∀ x ∈ l,XLe M x:=by
 obtain ⟨x1,x2,_⟩:=pPdu_parts hp
 have hM:M = 1048576:=rfl
 unfold gB ansV
 cases h161:(p.1 == 161) with
 | true =>
  have h160:(p.1 == 160) = false:=by simp only [beq_iff_eq] at h161; rw [h161]; rfl
  have hTold:∀ x ∈ named p.2.2.2.2,Told b x:=by
   intro x hx
   obtain ⟨y,hy,rfl⟩:=mem_map.1 hx
   exact told_named (xOk_oid (x1 y hy))
  have he:nextsV b (named p.2.2.2.2) = p.2.2.2.2.map fun x=>nextV b x.1:=by unfold nextsV named; rw [map_map]; rfl
  simp only [cT,cF,h160]
  rw [namesS (by omega),obs,nextsS h (by unfold named; rw [length_map]; omega) hTold,obs,he]
  refine ⟨_,rfl,rfl,by rw [length_map]; exact x2,fun x hx=>?_⟩
  obtain ⟨y,hy,rfl⟩:=mem_map.1 hx
  exact bind_small (nextOk h (xOk_oid (x1 y hy)))
 | false =>
 cases h165:(p.1 == 165) with
 | true =>
  have h160:(p.1 == 160) = false:=by simp only [beq_iff_eq] at h165; rw [h165]; rfl
  have hbk:=bulk_ok h hp
  simp only [cT,cF,h160]
  rw [bulkSX h hp,obs]
  exact ⟨_,rfl,rfl,hbk.o10,fun x hx=>bind_small (hbk.oOk x hx)⟩
 | false =>
  have h160:(p.1 == 160) = true:=by
   rcases pdu_kind hp with e | e | e | e | e
   · rw [e]; rfl
   · rw [e] at h161; cases h161
   · rw [e] at hk; cases hk
   · rw [e] at h163; cases h163
   · rw [e] at h165; cases h165
  simp only [cT,cF,h160]
  have e:loop (fun z:Int × List Bind=>dP b p z.1 z.2) (0,[]) = some (p.2.2.2.2.map fun x=>((x.1,getV b x.1):Bind)):=by
   refine map_loop (by omega) (fun k hk' out ho=>?_) (fun out=>?_)
   · have hx:=pOid_len (xOk_oid (x1 _ (getElem_mem hk')))
     show dP b p (k:Int) out = _
     unfold dP
     rw [dlt (by omega),cT,at_nat hk',obs,app_small (by show 0 + _ ≤ _; omega),obs,obs,getS h.w,(getE h (by omega)).1,obs,app_small (by rw [ho]; show k + 1 ≤ _; omega),obs,w64_nat (by omega)]
     rfl
   · show dP b p (p.2.2.2.2.length:Int) out = _
     unfold dP
     rw [dnlt (by omega),cF]
  rw [e,obs]
  refine ⟨_,rfl,rfl,by rw [length_map]; exact x2,fun x hx=>?_⟩
  obtain ⟨y,hy,rfl⟩:=mem_map.1 hx
  exact bind_small (by unfold xOk; rw [xOk_oid (x1 y hy),getOk h (by have:=pOid_len (xOk_oid (x1 y hy)); omega)]; rfl)
theorem lessV_small {b:Bridge} {p:Pdu} {l:List Bind} (ha:ansV b p = (b,162,p.2.1,0,0,l)) (hl:(p.1 == 165) = true → l = bulkV b p):doneV b p = (b,smallV p.2.1 0 0 (p.1 == 165) l):=by
 unfold doneV lessV smallV
 rw [ha]
 simp only
 cases fitP (162,p.2.1,0,0,l) with
 | true=>rfl
 | false =>
  rw [cF,cF]
  cases h165:(p.1 == 165) with
  | true=>rw [cT,cT,hl h165]; cases shr (fun t=>fitP (162,p.2.1,0,0,t)) (bulkV b p).length (bulkV b p) <;> rfl
  | false=>rfl
theorem setS {b:Bridge} (h:BOk b) {p:Pdu} (hp:pPdu p = true) (h163:(p.1 == 163) = true):fb b p = some (doneV b p):=by
 have hxs:=pdu_xs hp
 have hM:M = 1048576:=rfl
 have h10:=(pPdu_parts hp).2.1
 obtain ⟨r,r1,r2,_,_,r5⟩:=setAllX h.w h.le hxs
 have hr:setV b p.2.2.2.2 = r:=by unfold setV; rw [r1]; rfl
 have h160:(p.1 == 160) = false:=by simp only [beq_iff_eq] at h163; rw [h163]; rfl
 have h161:(p.1 == 161) = false:=by simp only [beq_iff_eq] at h163; rw [h163]; rfl
 have h165:(p.1 == 165) = false:=by simp only [beq_iff_eq] at h163; rw [h163]; rfl
 have ha:ansV b p = (r.1,162,p.2.1,r.2.1,r.2.2,p.2.2.2.2):=by unfold ansV; rw [h160,h161,h165,hr]; rfl
 have hless:lessV b p = (b,162,p.2.1,7,0,[]):=by unfold lessV; rw [h165]; rfl
 unfold fb doneV
 rw [copyBindsS hxs,obs,r2,obs,fitsS (p:=(162,p.2.1,r.2.1,r.2.2,p.2.2.2.2)) ⟨hxs.1,hxs.2⟩,obs,ha,hless]
 simp only
 have hb:∀ q:Bool,fitP (162,p.2.1,r.2.1,r.2.2,p.2.2.2.2) = q → ((am b).bind fun t36=>(cS (162,p.2.1,r.2.1,r.2.2,p.2.2.2.2) false).bind fun t38=>some (t36,t38)) = some (b,cond q (162,p.2.1,r.2.1,r.2.2,p.2.2.2.2) (162,p.2.1,7,0,[])):=by
  intro q hq
  rw [copyBridgeS h.le,obs,smallT _ _ _ _ h10 hxs.2,obs]
  unfold smallV
  rw [hq]; rfl
 cases hf:fitP (162,p.2.1,r.2.1,r.2.2,p.2.2.2.2) with
 | false=>rw [Bool.not_false,cT,obs,cT,hb false hf]; rfl
 | true =>
  rw [Bool.not_true,cF,obs]
  cases hc:(r.2.1 != 0) with
  | false=>rfl
  | true =>
   rw [cT,hb true hf]
   rcases r5 with ⟨r6,_⟩ | ⟨r6,_⟩
   · rw [r6] at hc; cases hc
   · rw [r6]; rfl
theorem replyS {b:Bridge} (h:BWf b) (hb:BLe M b) {p:Pdu} (hp:PLe M p):gC b p = some (replyV b p):=by
 unfold gC gZ replyV askP
 rw [bridgeS h,obs,copyBridgeS hb]
 cases hbr:pBridge b with
 | false=>rfl
 | true =>
 rw [cT,pduS hp,obs,obs]
 cases hpp:pPdu p with
 | false=>rfl
 | true =>
 cases hk:(p.1 != 162) with
 | false=>rfl
 | true =>
 have hBO:=bok h hbr
 simp only [Bool.and_true,cT,obs,Bool.not_true,cF]
 cases h163:(p.1 == 163) with
 | true=>rw [cT,setS hBO hpp h163,obs]
 | false =>
  obtain ⟨l,e1,e2,e3,e4⟩:=getsS hBO hpp h163 hk
  have hl:(p.1 == 165) = true → l = bulkV b p:=by
   intro h165
   have h160:(p.1 == 160) = false:=by simp only [beq_iff_eq] at h165; rw [h165]; rfl
   have h161:(p.1 == 161) = false:=by simp only [beq_iff_eq] at h165; rw [h165]; rfl
   have:ansV b p = (b,162,p.2.1,0,0,bulkV b p):=by unfold ansV; rw [h160,h161,h165]; rfl
   rw [e2] at this
   simpa using this
  rw [cF,e1,obs,copyBindsS ⟨by show l.length ≤ 1048576; omega,e4⟩,obs,smallT _ _ _ _ e3 e4,obs,lessV_small e2 hl]

theorem goneS {b:Bridge} {w:List UInt8} {l:List Job} {lo la:Int} {k:Nat} (hk:k < l.length) (hl:l.length ≤ M):dU (mkA b w l lo la) (k:Int) = some (mkA b w (l.eraseIdx k) lo la):=by
 have hM:M = 1048576:=rfl
 have c1:cutIx l.length 0 (k:Int) = some (0,k):=by
  unfold cutIx; rw [if_pos (by omega),if_pos (by omega),if_pos (by omega)]; simp
 have c2:cutIx l.length (w64 ((k:Int) + 1)) (l.length:Int) = some (k + 1,l.length):=by
  rw [w64_nat (by omega)]
  unfold cutIx; rw [if_pos (by omega),if_pos (by omega),if_pos (by omega)]; simp
 have c3:app ([]:List Job) ((l.take k).drop 0) = some (l.take k):=by
  rw [drop_zero,app_small (by rw [length_take]; show 0 + _ ≤ _; omega)]; rfl
 have c4:app (l.take k) ((l.take l.length).drop (k + 1)) = some (l.eraseIdx k):=by
  rw [take_length,app_small (by rw [length_take,length_drop]; omega),← List.eraseIdx_eq_take_drop_succ]
 unfold dU mkA
 simp only [c1,obs,c2,c3,c4]
theorem beginS {b:Bridge} (hb:BLe M b) {w:List UInt8} {l:List Job} {lo la:Int} {k:Nat} (hk:k < l.length):fh (mkA b w l lo la) (k:Int) = some (mkA b w (l.set k (begJ b l[k])) lo la):=by
 have cb:=copyBridgeS hb
 unfold fh mkA
 simp only [ix_nat hk,obs]
 have cb':am (b.1,b.2.1,b.2.2.1,b.2.2.2.1,b.2.2.2.2.1,b.2.2.2.2.2.1,b.2.2.2.2.2.2.1,b.2.2.2.2.2.2.2.1,b.2.2.2.2.2.2.2.2.1,b.2.2.2.2.2.2.2.2.2.1,b.2.2.2.2.2.2.2.2.2.2) = some b:=cb
 simp only [cb',obs,List.getElem?_eq_getElem hk,length_set,ix_nat hk,List.getElem?_set_self hk,set_set]
 rfl
theorem oneS {n:Int} (h:pIn n 0 1000000 = true):aZ n = some (moreV n):=by
 obtain ⟨r,r1,r2,_⟩:=moreX h
 rw [r2,← r1,moreE]
theorem takeMsgS {b:Bridge} (hb:BLe M b) (hc:pCounts b = true) {w:List UInt8} {l:List Job} {lo la:Int} {k:Nat} (hk:k < l.length) (hl:l.length ≤ M) (h1:Byt l[k].2.1) (h2:l[k].2.1.length ≤ M) :
 dV (mkA b w l lo la) (k:Int) = some (cond ((msgV w l[k].2.1).2 == 3) (mkA (wordB b) w (l.eraseIdx k) lo la)
  (cond ((msgV w l[k].2.1).2 != 0 || ((msgV w l[k].2.1).1.1 == 162)) (mkA (parseB b) w (l.eraseIdx k) lo la) (mkA b w (l.set k (mkJ l[k].1 l[k].2.1 1 (msgV w l[k].2.1).1 b 0 (jTries l[k]))) lo la))):=by
 obtain ⟨_,m1,m3,_⟩:=msgE w h1 h2
 obtain ⟨_,hp,hw,_⟩:=counts_parts hc
 unfold dV
 have d1:=goneS (b:=wordB b) (w:=w) (lo:=lo) (la:=la) hk hl
 have d2:=goneS (b:=parseB b) (w:=w) (lo:=lo) (la:=la) hk hl
 unfold wordB mkA at d1
 unfold parseB mkA at d2
 dsimp only [mkA]
 simp only [ix_nat hk,obs,List.getElem?_eq_getElem hk,m1,oneS hp,oneS hw]
 rw [d1,d2]
 have hs:k < (l.set k (mkJ l[k].1 l[k].2.1 l[k].2.2.1 (msgV w l[k].2.1).1 (jB l[k]) (jAt l[k]) (jTries l[k]))).length:=by rw [length_set]; exact hk
 have e:=beginS hb (w:=w) (lo:=lo) (la:=la) hs
 unfold mkA at e
 have e2:begJ b (l.set k (mkJ l[k].1 l[k].2.1 l[k].2.2.1 (msgV w l[k].2.1).1 (jB l[k]) (jAt l[k]) (jTries l[k])))[k] = mkJ l[k].1 l[k].2.1 1 (msgV w l[k].2.1).1 b 0 (jTries l[k]):=by
  rw [getElem_set_self]; rfl
 rw [e2,set_set] at e
 cases h0:((msgV w l[k].2.1).2 == 0) with
 | true =>
  have h3:((msgV w l[k].2.1).2 == 3) = false:=by
   have:(msgV w l[k].2.1).2 = 0:=by simpa using h0
   rw [this]; rfl
  have hn:((msgV w l[k].2.1).2 != 0) = false:=by rw [bne,h0]; rfl
  rw [h3,hn]
  simp only [cT,cF,obs,Bool.false_or,bne]
  cases ((msgV w l[k].2.1).1.1 == 162) with
  | true=>rfl
  | false =>
   simp only [Bool.not_false,cT,cF]
   refine (congrArg (fun o=>Option.bind o fun t=>some t) e).trans ?_
   rfl
 | false =>
  have hn:((msgV w l[k].2.1).2 != 0) = true:=by rw [bne,h0]; rfl
  rw [hn]
  simp only [cT,cF,obs,Bool.true_or]
  cases ((msgV w l[k].2.1).2 == 3) <;> rfl
theorem endS {b:Bridge} {w:List UInt8} {l:List Job} {lo la:Int} {k:Nat} (hk:k < l.length) (hl:l.length ≤ M) (p:Pdu):dW (mkA b w l lo la) (k:Int) p = some (mkA b w (l.eraseIdx k) lo la,[(l[k].1,p)]):=by
 have d:=goneS (b:=b) (w:=w) (lo:=lo) (la:=la) hk hl
 have c0:ix (mkA b w l lo la).2.2.2.2.2.2.2.2.2.2.2.2.1.length (k:Int) = some k:=ix_nat hk
 have c1:(mkA b w l lo la).2.2.2.2.2.2.2.2.2.2.2.2.1[k]? = some l[k]:=List.getElem?_eq_getElem hk
 unfold dW
 rw [c0,obs,c1,obs,d]
 rfl
theorem small_late (p:Pdu):smallV p.2.1 6 1 false p.2.2.2.2 = lateV p:=by
 unfold smallV lateV
 cases fitP (162,p.2.1,6,1,p.2.2.2.2) <;> rfl
theorem setJS {b:Bridge} (hB:BOk b) {w:List UInt8} {l:List Job} {lo la:Int} {k:Nat} (hk:k < l.length) (hl:l.length ≤ M) (hp:pPdu (jP l[k]) = true) (h163:((jP l[k]).1 == 163) = true) :
 gG (mkA b w l lo la) (k:Int) = some (cond (b.2.2.2.2.2.2.2.2.2.2 == (jB l[k]).2.2.2.2.2.2.2.2.2.2) (mkA (replyV b (jP l[k])).1 w (l.eraseIdx k) lo la,[(l[k].1,(replyV b (jP l[k])).2.1)])
  (cond (decide (jTries l[k] ≥ 3)) (mkA b w (l.eraseIdx k) lo la,[(l[k].1,lateV (jP l[k]))])
   (mkA b w (l.set k (mkJ l[k].1 l[k].2.1 1 (jP l[k]) b 0 (w64 (jTries l[k] + 1)))) lo la,[]))):=by
 have hk162:((jP l[k]).1 != 162) = true:=by
  have:(jP l[k]).1 = 163:=by simpa using h163
  rw [this]; rfl
 obtain ⟨_,r1,r2,_⟩:=done_kind hB hp hk162
 have hxs:=pdu_xs hp
 have h10:=(pPdu_parts hp).2.1
 have s1:=setS hB hp h163
 have c0:ix (mkA b w l lo la).2.2.2.2.2.2.2.2.2.2.2.2.1.length (k:Int) = some k:=ix_nat hk
 have c1:(mkA b w l lo la).2.2.2.2.2.2.2.2.2.2.2.2.1[k]? = some l[k]:=List.getElem?_eq_getElem hk
 unfold gG
 rw [c0,obs]
 simp only [c1,obs]
 show cond (b.2.2.2.2.2.2.2.2.2.2 == (jB l[k]).2.2.2.2.2.2.2.2.2.2) _ _ = _
 cases hv:(b.2.2.2.2.2.2.2.2.2.2 == (jB l[k]).2.2.2.2.2.2.2.2.2.2) with
 | true =>
  rw [cT,cT]
  refine bnd_of (a:=doneV b (jP l[k])) s1 ?_
  have e:=endS (b:=(doneV b (jP l[k])).1) (w:=w) (lo:=lo) (la:=la) hk hl (doneV b (jP l[k])).2
  rw [r1,r2]
  exact bnd_of e rfl
 | false =>
  rw [cF,cF]
  show cond (decide (jTries l[k] ≥ 3)) _ _ = _
  cases hq:decide (jTries l[k] ≥ 3) with
  | true =>
   rw [cT,cT]
   refine bnd_of (copyBindsS hxs) ?_
   refine bnd_of (a:=lateV (jP l[k])) ?_ ?_
   · have e:=smallT (jP l[k]).2.1 6 1 false h10 hxs.2
     rw [small_late] at e; exact e
   · exact bnd_of (endS (b:=b) (w:=w) (lo:=lo) (la:=la) hk hl (lateV (jP l[k]))) rfl
  | false =>
   simp only [cF]
   have hs:k < (l.set k (mkJ l[k].1 l[k].2.1 l[k].2.2.1 (jP l[k]) (jB l[k]) (jAt l[k]) (w64 (jTries l[k] + 1)))).length:=by rw [length_set]; exact hk
   have e:=beginS hB.le (w:=w) (lo:=lo) (la:=la) hs
   unfold mkA at e
   have e2:begJ b (l.set k (mkJ l[k].1 l[k].2.1 l[k].2.2.1 (jP l[k]) (jB l[k]) (jAt l[k]) (w64 (jTries l[k] + 1))))[k] = mkJ l[k].1 l[k].2.1 1 (jP l[k]) b 0 (w64 (jTries l[k] + 1)):=by
    rw [getElem_set_self]; rfl
   rw [e2,set_set] at e
   refine (congrArg (fun o=>Option.bind o fun t=>some (t,([]:List Done))) e).trans ?_
   rfl
theorem workS {a:Agent} (h:AInv a) {k:Nat} (hk:k < (aJobs a).length):gH a (k:Int) = some (workV a k (aJobs a)[k]):=by
 have hJ:=h.j _ (getElem_mem hk)
 have hn:(aJobs a).length ≤ M:=by have:=h.n; show _ ≤ 1048576; omega
 have e1:=takeMsgS h.b.le (bok_parts h.b.ok).1 (w:=aW a) (l:=aJobs a) (lo:=aLost a) (la:=aLast a) hk hn hJ.byt hJ.len
 have c0:ix a.2.2.2.2.2.2.2.2.2.2.2.2.1.length (k:Int) = some k:=ix_nat hk
 have c1:a.2.2.2.2.2.2.2.2.2.2.2.2.1[k]? = some (aJobs a)[k]:=List.getElem?_eq_getElem hk
 have e1:dV a (k:Int) = _:=e1
 unfold gH workV jobStep
 rw [c0,obs]
 simp only [c1,obs]
 rcases ph_cases hJ with hp | hp | hp
 · rw [hp]
   show ((dV a (k:Int)).bind _) = _
   rw [e1,obs]
   cases ((msgV (aW a) (aJobs a)[k].2.1).2 == 3) with
   | true=>rfl
   | false=>cases ((msgV (aW a) (aJobs a)[k].2.1).2 != 0 || ((msgV (aW a) (aJobs a)[k].2.1).1.1 == 162)) <;> rfl
 · rw [hp]
   simp only [show ((1:Int) == 0) = false from rfl,show ((1:Int) == 1) = true from rfl,show ((1:Int) == 2) = false from rfl,cT,cF,obs]
   show cond (decide (jAt (aJobs a)[k] < ((jP (aJobs a)[k]).2.2.2.2.length:Int))) _ _ = _
   cases hd:decide (jAt (aJobs a)[k] < ((jP (aJobs a)[k]).2.2.2.2.length:Int)) with
   | true=>rw [cT]; exact congrArg some (by simp only [cT]; rfl)
   | false=>rw [cF]; exact congrArg some (by simp only [cF]; rfl)
 · obtain ⟨q1,q2,q3⟩:=hJ.ok.resolve_left (by rw [hp]; decide)
   rw [hp]
   simp only [show ((2:Int) == 0) = false from rfl,show ((2:Int) == 1) = false from rfl,show ((2:Int) == 2) = true from rfl,cT,cF,obs]
   show cond ((jP (aJobs a)[k]).1 == 163) _ _ = _
   cases h163:((jP (aJobs a)[k]).1 == 163) with
   | true =>
    have hb:((aJobs a)[k].2.2.2.1 != 163) = false:=by rw [bne,show ((aJobs a)[k].2.2.2.1 == 163) = true from h163]; rfl
    simp only [hb,cT,cF]
    refine bnd_of (setJS (b:=aB a) h.b (w:=aW a) (lo:=aLost a) (la:=aLast a) hk hn q1 h163) ?_
    cases ((aB a).2.2.2.2.2.2.2.2.2.2 == (jB (aJobs a)[k]).2.2.2.2.2.2.2.2.2.2) with
    | true=>rfl
    | false=>cases decide (jTries (aJobs a)[k] ≥ 3) <;> rfl
   | false =>
    have hb:((aJobs a)[k].2.2.2.1 != 163) = true:=by rw [bne,show ((aJobs a)[k].2.2.2.1 == 163) = false from h163]; rfl
    simp only [hb,cT,cF]
    refine bnd_of (a:=replyV (jB (aJobs a)[k]) (jP (aJobs a)[k])) (replyS hJ.bw hJ.bl hJ.pl) ?_
    exact bnd_of (endS (b:=aB a) (w:=aW a) (lo:=aLost a) (la:=aLast a) hk hn (replyV (jB (aJobs a)[k]) (jP (aJobs a)[k])).2.1) rfl
theorem workSF {a:Agent} (h:AInv a) {k:Nat} (hk:k < (aJobs a).length):ba a (k:Int) = some (workV a k (aJobs a)[k]):=by
 have hn:=h.n
 unfold ba
 rw [copyAgentS h.ale,obs,agentS h.awf,obs,h.ok,Bool.not_true,cF]
 have hw:w64 ((a.2.2.2.2.2.2.2.2.2.2.2.2.1.length:Int) - 1) = ((aJobs a).length:Int) - 1:=w64_id (by show -9223372036854775808 ≤ ((aJobs a).length:Int) - 1; omega) (by show ((aJobs a).length:Int) - 1 ≤ _; omega)
 rw [hw,inS,obs,inP (by omega) (by omega),obs,Bool.not_true,cF,workS h hk,obs]
theorem workSF0 {a:Agent} (h:AInv a) {k:Int} (hk:k < 0 ∨ ((aJobs a).length:Int) ≤ k):ba a k = some (a,[]):=by
 have hn:=h.n
 unfold ba
 rw [copyAgentS h.ale,obs,agentS h.awf,obs,h.ok,Bool.not_true,cF]
 have hw:w64 ((a.2.2.2.2.2.2.2.2.2.2.2.2.1.length:Int) - 1) = ((aJobs a).length:Int) - 1:=w64_id (by show -9223372036854775808 ≤ ((aJobs a).length:Int) - 1; omega) (by show ((aJobs a).length:Int) - 1 ≤ _; omega)
 have hp:pIn k 0 (((aJobs a).length:Int) - 1) = false:=by
  unfold pIn
  rcases hk with hk | hk
  · rw [dF (by omega)]; rfl
  · rw [dF (show ¬ k ≤ ((aJobs a).length:Int) - 1 by omega),Bool.and_false]
 rw [hw,inS,obs,hp,obs,Bool.not_false,cT]
theorem work_same {a:Agent} (hw:AWf a) (hl:ALe M a) (hb:∀ j ∈ aJobs a,Byt j.2.1) (k:Int):∃ r,bn a k = some r ∧ ba a k = some r ∧ (pAgent a = true → AInv r.1 ∧ r.2.length ≤ 1) ∧ (pAgent a = false → r = (a,[])) ∧ aLost r.1 = aLost a ∧ aLast r.1 = aLast a:=by
 cases hp:pAgent a with
 | false =>
  refine ⟨(a,[]),?_,?_,(fun h=>by cases h),fun _=>rfl,rfl,rfl⟩
  · unfold bn
    rw [copyAgent hl,obs,agentT hw,obs,hp]; rfl
  · unfold ba
    rw [copyAgentS hl,obs,agentS hw,obs,hp]; rfl
 | true =>
  have h:=ainv_of hw hl hb hp
  by_cases hk:0 ≤ k ∧ k < ((aJobs a).length:Int)
  · obtain ⟨n,rfl⟩:∃ n:Nat,k = (n:Int):=⟨k.toNat,by omega⟩
    have hn:n < (aJobs a).length:=by omega
    obtain ⟨w1,w2⟩:=work_inv h hn
    have hl:aLost (workV a n (aJobs a)[n]).1 = aLost a ∧ aLast (workV a n (aJobs a)[n]).1 = aLast a:=by
     rcases work_cases h hn with ⟨j',e,_⟩ | ⟨b',d,e,_⟩ <;> rw [e] <;> exact ⟨rfl,rfl⟩
    exact ⟨_,workF h hn,workSF h hn,fun _=>⟨w1,w2⟩,(fun h=>by cases h),hl⟩
  · have hk':k < 0 ∨ ((aJobs a).length:Int) ≤ k:=by omega
    exact ⟨_,workF0 h hk',workSF0 h hk',fun _=>⟨h,by simp⟩,(fun h=>by cases h),rfl,rfl⟩

theorem pAgent_parts {a:Agent} (h:pAgent a = true):(aJobs a).length ≤ 6 ∧ pIn (aLost a) 0 1000000 = true ∧ pIn (aLast a) 0 1000000 = true:=by
 unfold pAgent at h
 simp only [aT,decide_eq_true_eq] at h
 obtain ⟨_,_,_,h4,h5,h6⟩:=h
 exact ⟨by omega,h5,h6⟩
theorem arriveX {a:Agent} (ha:AWf a) (hl:ALe M a) {b:List Int} (hb:b.length ≤ M):∃ r,bY a b = some r ∧ bM a b = some r ∧ ALe M r:=by
 have hM:M = 1048576:=rfl
 unfold bY bM
 rw [copyAgent hl,copyAgentS hl,agentT ha,agentS ha]
 simp only [obs]
 cases hp:pAgent a with
 | false=>exact ⟨_,rfl,rfl,hl⟩
 | true =>
  obtain ⟨h1,h2,h3⟩:=pAgent_parts hp
  obtain ⟨m,m1,m2,_⟩:=moreX h2
  have m1':aU a.2.2.2.2.2.2.2.2.2.2.2.2.2.1 = some m:=m1
  have m2':aZ a.2.2.2.2.2.2.2.2.2.2.2.2.2.1 = some m:=m2
  simp only [Bool.not_true,cF,obs,m1',m2',copyBytes hb,app_nil hb]
  have hn:(aJobs a).length ≤ 1048576:=ha.n
  by_cases h6:((aJobs a).length:Int) ≥ 6
  · have h6':decide ((a.2.2.2.2.2.2.2.2.2.2.2.2.1.length:Int) ≥ 6) = true:=dT h6
    rw [h6',cT,obs,cT]
    exact ⟨_,rfl,rfl,hl⟩
  · have h6':decide ((a.2.2.2.2.2.2.2.2.2.2.2.2.1.length:Int) ≥ 6) = false:=dF h6
    rw [h6',cF,obs]
    cases decide (a.2.2.2.2.2.2.2.2.2.2.2.2.2.2 ≥ 1000000) with
    | true=>exact ⟨_,rfl,rfl,hl⟩
    | false =>
     have hap:∀ j:Job,app a.2.2.2.2.2.2.2.2.2.2.2.2.1 [j] = some (a.2.2.2.2.2.2.2.2.2.2.2.2.1 ++ [j]):=fun j=>app_small (by show (aJobs a).length + 1 ≤ _; omega)
     simp only [cF,hap,obs]
     refine ⟨_,rfl,rfl,hl.1,hl.2.1,?_,?_⟩
     · show (aJobs a ++ [_]).length ≤ 1048576
       rw [length_append]; show (aJobs a).length + 1 ≤ _; omega
     · intro j hj
       rcases mem_append.1 hj with hj | hj
       · exact hl.2.2.2 j hj
       · simp only [mem_singleton] at hj
         subst hj
         exact ⟨hb,⟨by show 0 ≤ 1048576; decide,fun x hx=>by cases hx⟩,by show 0 ≤ 1048576; decide,by show 0 ≤ 1048576; decide,by show 0 ≤ 1048576; decide,by show 0 ≤ 1048576; decide,by show 0 ≤ 1048576; decide⟩
theorem arriveS {a:Agent} (h:AInv a) {m:List Int} (hm:m.length ≤ M):bM a m = bY a m:=by
 obtain ⟨r,r1,r2,_⟩:=arriveX h.awf h.ale hm
 rw [r1,r2]
theorem arriveI {a:Agent} (h:AInv a) {m:List Int} (hb:Byt m) (hm:m.length ≤ M):∃ r,bY a m = some r ∧ bM a m = some r ∧ AInv r ∧ aLost r + aLast r ≤ aLost a + aLast a + 1:=by
 by_cases hc:(aJobs a).length < 6 ∧ aLast a < 1000000
 · have e:=arriveT h hm hc.1 hc.2
   exact ⟨_,e,(arriveS h hm).trans e,arrive_inv h hb hm hc.1 hc.2,by show aLost a + (aLast a + 1) ≤ _; omega⟩
 · have e:=arriveF h (m:=m) hc
   refine ⟨_,e,(arriveS h hm).trans e,lost_inv h,?_⟩
   obtain ⟨l1,l2⟩:=pIn_true h.lo
   show moreV (aLost a) + aLast a ≤ _
   unfold moreV min2
   rw [w64_id (by omega) (by omega)]
   split <;> omega
theorem agentNewS {b:Bridge} (h:BOk b) {w:List UInt8} (hw:w.length ≤ 20):fC b w = some (mkA b w [] 0 0):=by
 unfold fC
 rw [bridgeS h.w,obs,h.ok,Bool.not_true,cF,obs,dF (by omega),cF,copyBridgeS h.le,obs]
 rfl
theorem ageS {l:List Fent} (hn:l.length ≤ 1000):fx l = some (l.filterMap ageE):=by
 unfold fx
 obtain ⟨v,e1,rfl⟩:=loop_inv (step:=fun z:Int × List Fent=>cq l z.1 z.2) (fun k z=>z = ((k:Int),(l.take k).filterMap ageE)) l.length (fun v=>v = l.filterMap ageE)
  (fun k z hk e=>by
   subst e
   refine .inl ⟨_,?_,rfl⟩
   have hfl:((l.take k).filterMap ageE).length ≤ k:=Nat.le_trans (List.length_filterMap_le _ _) (by rw [length_take]; omega)
   have t1:l.take (k + 1) = l.take k ++ [l[k]]:=by rw [take_add_one,List.getElem?_eq_getElem hk]; rfl
   have t2:(l.take (k + 1)).filterMap ageE = (l.take k).filterMap ageE ++ (match ageE l[k] with | some y=>[y] | none=>[]):=by
    rw [t1,List.filterMap_append]
    congr 1
    cases hq:ageE l[k] with
    | none=>rw [List.filterMap_cons_none hq]; rfl
    | some y=>rw [List.filterMap_cons_some hq]; rfl
   have ha:∀ y:Fent,app ((l.take k).filterMap ageE) [y] = some ((l.take k).filterMap ageE ++ [y]):=fun y=>app_small (by show _ + 1 ≤ _; omega)
   show cq l (k:Int) _ = _
   unfold cq
   rw [dlt (by omega),cT,at_nat hk,obs,w64_nat (by omega),t2]
   cases hs:l[k].2.2.2.2 with
   | true =>
    have hq:ageE l[k] = some l[k]:=by unfold ageE; rw [hs]; rfl
    rw [hq]
    simp only [cT,ha,obs]
   | false =>
    simp only [cF]
    by_cases h4:l[k].2.2.2.1 ≥ 4
    · have hq:ageE l[k] = none:=by unfold ageE; rw [hs,dT h4]; rfl
      rw [hq,dnlt (by omega)]
      simp only [cF,append_nil]
    · have hq:ageE l[k] = some (l[k].1,l[k].2.1,l[k].2.2.1,w64 (l[k].2.2.2.1 + 1),false):=by unfold ageE; rw [hs,dF h4]; rfl
      rw [hq,dlt (by omega)]
      simp only [cT,ha,obs])
  (fun z e=>by
   subst e
   refine ⟨_,?_,rfl⟩
   show cq l (l.length:Int) _ = _
   unfold cq
   rw [dnlt (by omega),cF,take_length]) (x:=(0,[])) rfl
 have e1:loop (fun z=>cq l z.1 z.2) (0,[]) = some (l.filterMap ageE):=e1
 rw [e1,obs]
theorem tickSX {b:Bridge} (h:BOk b):de b = some (tickV b):=by
 have hf:=fb_of h.f
 obtain ⟨r,r1,r2,_⟩:=turnX (tickS_ok h)
 obtain ⟨c1,_⟩:=counts_parts (bok_parts h.ok).1
 have e:turnV (tickS b) = r:=by unfold turnV; rw [r1]; rfl
 unfold de tickV
 rw [copyBridgeS h.le,obs,bridgeS h.w,obs,h.ok,Bool.not_true,cF,oneS c1,obs,ageS (by have:=hf.n; omega),obs,e]
 have r2':bL (b.1,b.2.1,b.2.2.1,b.2.2.2.1.filterMap ageE,b.2.2.2.2.1,b.2.2.2.2.2.1,moreV b.2.2.2.2.2.2.1,b.2.2.2.2.2.2.2.1,b.2.2.2.2.2.2.2.2.1,b.2.2.2.2.2.2.2.2.2.1,b.2.2.2.2.2.2.2.2.2.2) = some r:=r2
 rw [r2',obs]
abbrev S19:=Int × List Int × Int × Int × Int × List UInt8 × Int × Int × Int × Int × Int × List UInt8 × Int × Int × List Pt × List Fent × List Vrow × List Int × List Job
def st19 (i:Int) (c:L1Cur) (a:Agent):S19:=(i,c.1,c.2.1,c.2.2,a.1,a.2.1,a.2.2.2.2.2.2.1,a.2.2.2.2.2.2.2.1,a.2.2.2.2.2.2.2.2.1,a.2.2.2.2.2.2.2.2.2.1,a.2.2.2.2.2.2.2.2.2.2.1,a.2.2.2.2.2.2.2.2.2.2.2.1,a.2.2.2.2.2.2.2.2.2.2.2.2.2.1,a.2.2.2.2.2.2.2.2.2.2.2.2.2.2,a.2.2.1,a.2.2.2.1,a.2.2.2.2.1,a.2.2.2.2.2.1,a.2.2.2.2.2.2.2.2.2.2.2.2.1)
noncomputable def drawStep (z:S19):=fy z.1 z.2.1 z.2.2.1 z.2.2.2.1 z.2.2.2.2.1 z.2.2.2.2.2.1 z.2.2.2.2.2.2.1 z.2.2.2.2.2.2.2.1 z.2.2.2.2.2.2.2.2.1 z.2.2.2.2.2.2.2.2.2.1 z.2.2.2.2.2.2.2.2.2.2.1 z.2.2.2.2.2.2.2.2.2.2.2.1 z.2.2.2.2.2.2.2.2.2.2.2.2.1 z.2.2.2.2.2.2.2.2.2.2.2.2.2.1 z.2.2.2.2.2.2.2.2.2.2.2.2.2.2.1 z.2.2.2.2.2.2.2.2.2.2.2.2.2.2.2.1 z.2.2.2.2.2.2.2.2.2.2.2.2.2.2.2.2.1 z.2.2.2.2.2.2.2.2.2.2.2.2.2.2.2.2.2.1 z.2.2.2.2.2.2.2.2.2.2.2.2.2.2.2.2.2.2
theorem drawOne {i:Int} (hi:i > 0) {c:L1Cur} (hc:CW c) {a:Agent} (h:AInv a):∃ c' a',drawStep (st19 i c a) = some (.inl (st19 (w64 (i - 1)) c' a')) ∧ CW c' ∧ AInv a' ∧ aLost a' + aLast a' ≤ aLost a + aLast a + 1:=by
 dsimp only [drawStep,st19]
 unfold fy
 rw [dT hi,cT]
 obtain ⟨c1,r,e1,w1,_⟩:=drBelow hc 6
 have e1':aa (c.1,c.2.1,c.2.2) 6 = some (c1,r):=e1
 rw [e1',obs]
 simp only
 obtain ⟨c2,m,e2,w2,hm⟩:=drMsg w1 h.b
 have hml:m.length ≤ M:=by have:=hm.2; show _ ≤ 1048576; omega
 obtain ⟨x,_,x2,x3,x4⟩:=arriveI h hm.1 hml
 have msg:∃ c' a',((cp c1 (a.1,a.2.1,a.2.2.1,a.2.2.2.1,a.2.2.2.2.1,a.2.2.2.2.2.1,a.2.2.2.2.2.2.1,a.2.2.2.2.2.2.2.1,a.2.2.2.2.2.2.2.2.1,a.2.2.2.2.2.2.2.2.2.1,a.2.2.2.2.2.2.2.2.2.2.1)).bind fun t38 =>
  (bM (a.1,a.2.1,a.2.2.1,a.2.2.2.1,a.2.2.2.2.1,a.2.2.2.2.2.1,a.2.2.2.2.2.2.1,a.2.2.2.2.2.2.2.1,a.2.2.2.2.2.2.2.2.1,a.2.2.2.2.2.2.2.2.2.1,a.2.2.2.2.2.2.2.2.2.2.1,a.2.2.2.2.2.2.2.2.2.2.2.1,a.2.2.2.2.2.2.2.2.2.2.2.2.1,a.2.2.2.2.2.2.2.2.2.2.2.2.2.1,a.2.2.2.2.2.2.2.2.2.2.2.2.2.2) t38.2).bind fun t39 =>
  some (Sum.inl (β:=List Int × Int × Int × Int × List UInt8 × Int × Int × Int × Int × Int × List UInt8 × Int × Int × List Pt × List Fent × List Vrow × List Int × List Job) (w64 (i - 1),t38.1.1,t38.1.2.1,t38.1.2.2,t39.1,t39.2.1,t39.2.2.2.2.2.2.1,t39.2.2.2.2.2.2.2.1,t39.2.2.2.2.2.2.2.2.1,t39.2.2.2.2.2.2.2.2.2.1,t39.2.2.2.2.2.2.2.2.2.2.1,t39.2.2.2.2.2.2.2.2.2.2.2.1,t39.2.2.2.2.2.2.2.2.2.2.2.2.2.1,t39.2.2.2.2.2.2.2.2.2.2.2.2.2.2,t39.2.2.1,t39.2.2.2.1,t39.2.2.2.2.1,t39.2.2.2.2.2.1,t39.2.2.2.2.2.2.2.2.2.2.2.2.1))) = some (.inl (st19 (w64 (i - 1)) c' a')) ∧ CW c' ∧ AInv a' ∧ aLost a' + aLast a' ≤ aLost a + aLast a + 1:=by
  refine ⟨c2,x,bnd_of (a:=(c2,m)) e2 (bnd_of (a:=x) x2 rfl),w2,x3,x4⟩
 have tick : ∃ c' a', ((de (a.1, a.2.1, a.2.2.1, a.2.2.2.1, a.2.2.2.2.1, a.2.2.2.2.2.1, a.2.2.2.2.2.2.1, a.2.2.2.2.2.2.2.1, a.2.2.2.2.2.2.2.2.1, a.2.2.2.2.2.2.2.2.2.1, a.2.2.2.2.2.2.2.2.2.2.1)).bind fun t44 =>
         some (Sum.inl (β:=List Int × Int × Int × Int × List UInt8 × Int × Int × Int × Int × Int × List UInt8 × Int × Int × List Pt × List Fent × List Vrow × List Int × List Job) (w64 (i - 1),c1.1,c1.2.1,c1.2.2,t44.1,t44.2.1,t44.2.2.2.2.2.2.1,t44.2.2.2.2.2.2.2.1,t44.2.2.2.2.2.2.2.2.1,t44.2.2.2.2.2.2.2.2.2.1,t44.2.2.2.2.2.2.2.2.2.2,a.2.2.2.2.2.2.2.2.2.2.2.1,a.2.2.2.2.2.2.2.2.2.2.2.2.2.1,a.2.2.2.2.2.2.2.2.2.2.2.2.2.2,t44.2.2.1,t44.2.2.2.1,t44.2.2.2.2.1,t44.2.2.2.2.2.1,a.2.2.2.2.2.2.2.2.2.2.2.2.1))) = some (.inl (st19 (w64 (i - 1)) c' a')) ∧ CW c' ∧ AInv a' ∧ aLost a' + aLast a' ≤ aLost a + aLast a + 1:=by
  obtain ⟨_,t2,_⟩:=tickT h.b
  exact ⟨c1,_,bnd_of (a:=tickV (aB a)) (tickSX h.b) rfl,w1,ainvB h t2,by show aLost a + aLast a ≤ _; omega⟩
 have hn:=h.n
 have work : ∃ c' a', ((aa c1 (w64 ((a.2.2.2.2.2.2.2.2.2.2.2.2.1.length : Int) + 1))).bind fun t27 =>
         (ba (a.1,a.2.1,a.2.2.1,a.2.2.2.1,a.2.2.2.2.1,a.2.2.2.2.2.1,a.2.2.2.2.2.2.1,a.2.2.2.2.2.2.2.1,a.2.2.2.2.2.2.2.2.1,a.2.2.2.2.2.2.2.2.2.1,a.2.2.2.2.2.2.2.2.2.2.1,a.2.2.2.2.2.2.2.2.2.2.2.1,a.2.2.2.2.2.2.2.2.2.2.2.2.1,a.2.2.2.2.2.2.2.2.2.2.2.2.2.1,a.2.2.2.2.2.2.2.2.2.2.2.2.2.2) t27.2).bind fun t28 =>
         some (Sum.inl (β:=List Int × Int × Int × Int × List UInt8 × Int × Int × Int × Int × Int × List UInt8 × Int × Int × List Pt × List Fent × List Vrow × List Int × List Job) (w64 (i - 1),t27.1.1,t27.1.2.1,t27.1.2.2,t28.1.1,t28.1.2.1,t28.1.2.2.2.2.2.2.1,t28.1.2.2.2.2.2.2.2.1,t28.1.2.2.2.2.2.2.2.2.1,t28.1.2.2.2.2.2.2.2.2.2.1,t28.1.2.2.2.2.2.2.2.2.2.2.1,t28.1.2.2.2.2.2.2.2.2.2.2.2.1,t28.1.2.2.2.2.2.2.2.2.2.2.2.2.2.1,t28.1.2.2.2.2.2.2.2.2.2.2.2.2.2.2,t28.1.2.2.1,t28.1.2.2.2.1,t28.1.2.2.2.2.1,t28.1.2.2.2.2.2.1,t28.1.2.2.2.2.2.2.2.2.2.2.2.2.1))) = some (.inl (st19 (w64 (i - 1)) c' a')) ∧ CW c' ∧ AInv a' ∧ aLost a' + aLast a' ≤ aLost a + aLast a + 1:=by
  obtain ⟨c3,k,e3,w3,_⟩:=drBelow w1 (w64 ((a.2.2.2.2.2.2.2.2.2.2.2.2.1.length:Int) + 1))
  obtain ⟨y,_,y2,y3,_,y4,y5⟩:=work_same h.awf h.ale (fun j hj=>(h.j j hj).byt) k
  exact ⟨c3,y.1,bnd_of (a:=(c3,k)) e3 (bnd_of (a:=y) y2 rfl),w3,(y3 h.ok).1,by rw [y4,y5]; omega⟩
 cases r == 0 with
 | true=>exact msg
 | false =>
  cases r == 1 with
  | true=>exact msg
  | false =>
   cases r == 2 with
   | true=>exact tick
   | false=>exact work
theorem drAgent {c:L1Cur} (hc:CW c) {most:Nat} (hm:most ≤ 900):Dr (fun a=>AInv a ∧ aLost a + aLast a ≤ (most:Int)) (fA c (most:Int)):=by
 unfold fA
 obtain ⟨c1,b,e1,w1,hb,hp,_⟩:=bridgeZ hc
 have hB:=bok hb hp
 rw [e1,obs]
 simp only
 rw [agentNewS hB (by decide),obs,w64_nat (by omega)]
 obtain ⟨c2,k,e2,w2,hk⟩:=belowN w1 (n:=most + 1) (by omega)
 have e2':aa c1 ((most + 1:Nat):Int) = some (c2,(k:Int)):=e2
 rw [e2',obs]
 obtain ⟨d,d1,c3,a3,d2,d3,rfl⟩:=loop_inv (step:=drawStep) (fun j z=>∃ c a,z = st19 ((k - j:Nat):Int) c a ∧ CW c ∧ AInv a ∧ aLost a + aLast a ≤ (j:Int)) k (fun d=>∃ c a,CW c ∧ (AInv a ∧ aLost a + aLast a ≤ (k:Int)) ∧ d = (st19 0 c a).2)
  (fun j z hj ⟨c,a,e,w,h,hbd⟩=>by
   subst e
   left
   obtain ⟨c',a',f1,f2,f3,f4⟩:=drawOne (i:=((k - j:Nat):Int)) (by omega) w h
   refine ⟨_,f1,c',a',?_,f2,f3,by omega⟩
   rw [w64_id (by omega) (by omega),show ((k - j:Nat):Int) - 1 = ((k - (j + 1):Nat):Int) by omega])
  (fun z ⟨c,a,e,w,h,hbd⟩=>by
   subst e
   refine ⟨_,?_,c,a,w,⟨h,hbd⟩,rfl⟩
   dsimp only [drawStep,st19]
   unfold fy
   rw [Nat.sub_self,dF (show ¬ ((0:Nat):Int) > 0 by decide),cF]) (x:=st19 (k:Int) c2 (mkA b [121,97,114,100] [] 0 0)) ⟨c2,_,rfl,w2,new_inv hB (by decide),by show (0:Int) + 0 ≤ _; omega⟩
 exact ⟨c3,a3,bnd_of d1 rfl,d2,d3.1,by have:=d3.2; omega⟩
theorem sizeN {code:List Int} (h:code.length ≤ 1048576) {m:Nat} (hm:m ≤ 1000):∃ k:Nat,cr code (m:Int) = some (k:Int) ∧ k ≤ m:=by
 unfold cr
 have e:w64 (3 + (w64 ((code.length:Int).tdiv 12))) = 3 + (code.length:Int) / 12:=by
  rw [Int.tdiv_eq_ediv_of_nonneg (by omega),w64_id (n:=(code.length:Int) / 12) (by omega) (by omega),w64_id (by omega) (by omega)]
 simp only [e]
 by_cases hk:3 + (code.length:Int) / 12 > (m:Int)
 · rw [dT hk,cT]; exact ⟨m,rfl,Nat.le_refl _⟩
 · rw [dF hk,cF]
   exact ⟨(3 + (code.length:Int) / 12).toNat,by rw [Int.toNat_of_nonneg (by omega)],by omega⟩
theorem agentD {code:List Int} (h:code.length ≤ 1048576):∃ a m,fD code = some (a,m) ∧ AInv a ∧ Msg m ∧ aLost a + aLast a ≤ 900:=by
 obtain ⟨c0,e0,w0⟩:=newD (code:=code) h
 obtain ⟨k,e1,hk⟩:=sizeN h (m:=14) (by omega)
 have e1:cr code 14 = some (k:Int):=e1
 obtain ⟨c2,a,e2,w2,ha⟩:=drAgent w0 (most:=6 + k) (by omega)
 obtain ⟨c3,m,e3,w3,hm⟩:=drMsg w2 ha.1.b
 refine ⟨a,m,?_,ha.1,hm,by have:=ha.2; omega⟩
 unfold fD
 have ew:w64 (6 + (k:Int)) = ((6 + k:Nat):Int):=by rw [w64_id (by omega) (by omega)]; omega
 rw [e0,obs,e1,obs,ew,e2,obs]
 exact bnd_of (a:=(c3,m)) e3 rfl

theorem needX {a:Agent} (ha:AWf a) (hl:ALe M a) (hb:∀ j ∈ aJobs a,Byt j.2.1) (k:Int):∃ r,bx a k = some r ∧ fO a k = some r:=by
 unfold bx fO
 rw [agentT ha,agentS ha]
 simp only [obs]
 cases hp:pAgent a with
 | false=>exact ⟨_,rfl,rfl⟩
 | true =>
  simp only [Bool.not_true,cF,inT,inS,obs]
  have hn:(aJobs a).length ≤ 1048576:=ha.n
  have hw:w64 ((a.2.2.2.2.2.2.2.2.2.2.2.2.1.length:Int) - 1) = ((aJobs a).length:Int) - 1:=w64_id (by show -9223372036854775808 ≤ ((aJobs a).length:Int) - 1; omega) (by show ((aJobs a).length:Int) - 1 ≤ _; omega)
  rw [hw]
  cases hk:pIn k 0 (((aJobs a).length:Int) - 1) with
  | false=>exact ⟨_,rfl,rfl⟩
  | true =>
   obtain ⟨k1,k2⟩:=pIn_true hk
   obtain ⟨n,rfl⟩:∃ n:Nat,k = (n:Int):=⟨k.toNat,by omega⟩
   have hkn:n < (aJobs a).length:=by omega
   have e0:at? a.2.2.2.2.2.2.2.2.2.2.2.2.1 (n:Int) = some (aJobs a)[n]:=at_nat hkn
   rw [e0]
   simp only [Bool.not_true,cF,obs]
   have hx:=hb _ (getElem_mem hkn)
   have hx2:(aJobs a)[n].2.1.length ≤ M:=(hl.2.2.2 _ (getElem_mem hkn)).1
   generalize (aJobs a)[n] = x at hx hx2
   obtain ⟨g,g1,g2,_,_⟩:=getMsg a.2.2.2.2.2.2.2.2.2.2.2.1 hx hx2
   have hask:bQ a x = some (g.1,cond (g.2 == 0) (g.1.1 != 162) false):=by
    unfold bQ
    rw [g1,obs]
    cases (g.2 == 0) <;> rfl
   have hnot:(cond (g.2 != 0) (some true) (some (g.1.1 == 162))) = some (!(cond (g.2 == 0) (g.1.1 != 162) false)):=by
    rw [bne,bne]
    cases (g.2 == 0) <;> cases (g.1.1 == 162) <;> rfl
   rw [hask,g2]
   simp only [obs,hnot]
   cases (x.2.2.2.1 == 163) <;> (try simp only [cT,cF,obs]) <;>
    cases (a.2.2.2.2.2.2.2.2.2.2.1 != x.2.2.2.2.2.2.2.2.2.2.2.2.2.2.2.2.2.2.1) <;> (try simp only [cT,cF,obs]) <;>
    cases decide (x.2.2.2.2.2.2.2.2.2.2.2.2.2.2.2.2.2.2.2.2 < 3) <;> (try simp only [cT,cF,obs]) <;>
    cases (x.2.2.1 == 2) <;> (try simp only [cT,cF]) <;>
    cases (x.2.2.1 == 1) <;> (try simp only [cT,cF]) <;>
    cases (cond (g.2 == 0) (g.1.1 != 162) false) <;> exact ⟨_,rfl,rfl⟩
theorem askI (a:Agent) {j:Job} (hb:Byt j.2.1) (hn:j.2.1.length ≤ M):bQ a j = some ((msgV (aW a) j.2.1).1,goodV (aW a) j.2.1):=by
 unfold bQ goodV
 have e:bP a.2.2.2.2.2.2.2.2.2.2.2.1 j.2.1 = some (msgV (aW a) j.2.1):=(msgE (aW a) hb hn).1
 rw [e,obs]
 cases (msgV (aW a) j.2.1).2 == 0 <;> rfl
theorem needI {a:Agent} (h:AInv a) {k:Nat} (hk:k < (aJobs a).length):bx a (k:Int) = some ((needV (aW a) (aB a) (aJobs a)[k]:Nat):Int):=by
 have hn:=h.n
 have hJ:=h.j _ (getElem_mem hk)
 have ha:=askI a hJ.byt hJ.len
 have e0:at? a.2.2.2.2.2.2.2.2.2.2.2.2.1 (k:Int) = some (aJobs a)[k]:=at_nat hk
 unfold bx
 rw [agentT h.awf,obs,h.ok,Bool.not_true,cF]
 have hw:w64 ((a.2.2.2.2.2.2.2.2.2.2.2.2.1.length:Int) - 1) = ((aJobs a).length:Int) - 1:=w64_id (by show -9223372036854775808 ≤ ((aJobs a).length:Int) - 1; omega) (by show ((aJobs a).length:Int) - 1 ≤ _; omega)
 rw [hw,inT,obs,inP (by omega) (by omega),obs,Bool.not_true,cF,e0,obs]
 generalize (aJobs a)[k] = j at *
 have hph:=ph_cases hJ
 obtain ⟨at0,at1⟩:=pIn_true hJ.at'
 have hlen:j.2.2.1 ≠ 0 → (jP j).2.2.2.2.length ≤ 10:=fun hp=>(pPdu_parts (hJ.ok.resolve_left (by simpa using hp)).1).2.1
 have hmsg:goodV (aW a) j.2.1 = true → (msgV (aW a) j.2.1).1.2.2.2.2.length ≤ 10:=fun hg=>by
  unfold goodV at hg
  simp only [aT,beq_iff_eq] at hg
  exact (pPdu_parts ((msgE (aW a) hJ.byt hJ.len).2.2.2 hg.1)).2.1
 have key:∀ F:Bool → Option Int,((cond (j.2.2.2.1 == 163) (some (a.2.2.2.2.2.2.2.2.2.2.1 != j.2.2.2.2.2.2.2.2.2.2.2.2.2.2.2.2.2.2.1)) (some false)).bind fun t43=>(cond t43 (some (decide (j.2.2.2.2.2.2.2.2.2.2.2.2.2.2.2.2.2.2.2.2 < 3))) (some false)).bind F) = F (decide ((jP j).1 = 163 ∧ (aB a).2.2.2.2.2.2.2.2.2.2 ≠ (jB j).2.2.2.2.2.2.2.2.2.2 ∧ jTries j < 3)):=by
  intro F
  by_cases h1:j.2.2.2.1 = 163
  · by_cases h2:a.2.2.2.2.2.2.2.2.2.2.1 = j.2.2.2.2.2.2.2.2.2.2.2.2.2.2.2.2.2.2.1
    · rw [show (j.2.2.2.1 == 163) = true by simpa using h1,show (a.2.2.2.2.2.2.2.2.2.2.1 != j.2.2.2.2.2.2.2.2.2.2.2.2.2.2.2.2.2.2.1) = false by simpa using h2,dF (show ¬ ((jP j).1 = 163 ∧ (aB a).2.2.2.2.2.2.2.2.2.2 ≠ (jB j).2.2.2.2.2.2.2.2.2.2 ∧ jTries j < 3) from fun hc=>hc.2.1 h2)]; rfl
    · rw [show (j.2.2.2.1 == 163) = true by simpa using h1,show (a.2.2.2.2.2.2.2.2.2.2.1 != j.2.2.2.2.2.2.2.2.2.2.2.2.2.2.2.2.2.2.1) = true by simpa using h2]
      by_cases h3:j.2.2.2.2.2.2.2.2.2.2.2.2.2.2.2.2.2.2.2.2 < 3
      · rw [dT h3,dT (show ((jP j).1 = 163 ∧ (aB a).2.2.2.2.2.2.2.2.2.2 ≠ (jB j).2.2.2.2.2.2.2.2.2.2 ∧ jTries j < 3) from ⟨h1,h2,h3⟩)]; rfl
      · rw [dF h3,dF (show ¬ ((jP j).1 = 163 ∧ (aB a).2.2.2.2.2.2.2.2.2.2 ≠ (jB j).2.2.2.2.2.2.2.2.2.2 ∧ jTries j < 3) from fun hc=>h3 hc.2.2)]; rfl
  · rw [show (j.2.2.2.1 == 163) = false by simpa using h1,dF (show ¬ ((jP j).1 = 163 ∧ (aB a).2.2.2.2.2.2.2.2.2.2 ≠ (jB j).2.2.2.2.2.2.2.2.2.2 ∧ jTries j < 3) from fun hc=>h1 hc.1)]; rfl
 simp only
 rw [key]
 have q2:((2:Int) == 1) = false:=rfl
 have ei:∀ n:Nat,n ≤ 10 → w64 ((n:Int) + 3) = ((n + 3:Nat):Int):=fun n hn=>by rw [w64_id (by omega) (by omega)]; omega
 have ew:j.2.2.1 ≠ 0 → w64 ((w64 (((jP j).2.2.2.2.length:Int) - jAt j)) + 1) = (((jP j).2.2.2.2.length - (jAt j).toNat + 1:Nat):Int):=fun hp=>by
  have:=hlen hp
  rw [w64_id (n:=((jP j).2.2.2.2.length:Int) - jAt j) (by omega) (by omega),w64_id (by omega) (by omega)]; omega
 unfold needV lastV
 by_cases hs:(jP j).1 = 163 ∧ (aB a).2.2.2.2.2.2.2.2.2.2 ≠ (jB j).2.2.2.2.2.2.2.2.2.2 ∧ jTries j < 3
 · rw [dT hs,cT,if_pos hs]
   rcases hph with hp | hp | hp
   · rw [show (j.2.2.1 == 2) = false by rw [hp]; rfl,show (j.2.2.1 == 1) = false by rw [hp]; rfl,cF,cF,ha,obs,if_neg (by omega),if_neg (by omega)]
     cases hg:goodV (aW a) j.2.1 with
     | true=>rw [if_pos rfl]; simp only [Bool.not_true,cF]; rw [ei _ (hmsg hg)]
     | false=>rw [if_neg (by simp)]; rfl
   · have:=hlen (by omega)
     rw [show (j.2.2.1 == 2) = false by rw [hp]; rfl,show (j.2.2.1 == 1) = true by rw [hp]; rfl,cF,cT,if_neg (by omega),if_pos hp]
     show some (w64 (w64 (w64 (((jP j).2.2.2.2.length:Int) - jAt j) + 1) + w64 (((jP j).2.2.2.2.length:Int) + 3))) = _
     rw [ew (by omega),ei _ this,w64_id (by omega) (by omega)]
     congr 1
   · have:=hlen (by omega)
     rw [show (j.2.2.1 == 2) = true by rw [hp]; rfl,cT,if_pos hp]
     show some (w64 (((jP j).2.2.2.2.length:Int) + 3)) = _
     rw [ei _ this]
 · rw [dF hs,cF,if_neg hs]
   rcases hph with hp | hp | hp
   · rw [show (j.2.2.1 == 2) = false by rw [hp]; rfl,show (j.2.2.1 == 1) = false by rw [hp]; rfl,cF,cF,ha,obs,if_neg (by omega),if_neg (by omega)]
     cases hg:goodV (aW a) j.2.1 with
     | true=>rw [if_pos rfl]; simp only [Bool.not_true,cF]; rw [ei _ (hmsg hg)]
     | false=>rw [if_neg (by simp)]; rfl
   · have:=hlen (by omega)
     rw [show (j.2.2.1 == 2) = false by rw [hp]; rfl,show (j.2.2.1 == 1) = true by rw [hp]; rfl,cF,cT,if_neg (by omega),if_pos hp]
     show some (w64 (w64 (w64 (((jP j).2.2.2.2.length:Int) - jAt j) + 1) + 1)) = _
     rw [ew (by omega),w64_id (by omega) (by omega)]
     congr 1
   · rw [show (j.2.2.1 == 2) = true by rw [hp]; rfl,cT,if_pos hp]
     rfl
theorem answersI {a:Agent} (hl:ALe M a) (hb:∀ j ∈ aJobs a,Byt j.2.1):eA a = some ((((aJobs a).filter (asksV (aW a))).length:Nat):Int):=by
 have hn:(aJobs a).length ≤ 1048576:=hl.2.2.1
 unfold eA
 obtain ⟨v,e1,rfl⟩:=loop_inv (step:=fun z:Int × Int=>dw a z.1 z.2) (fun k z=>z = (((((aJobs a).take k).filter (asksV (aW a))).length:Int),(k:Int))) (aJobs a).length (fun v=>v = ((((aJobs a).filter (asksV (aW a))).length:Nat):Int))
  (fun k z hk e=>by
   subst e
   left
   have hlt:decide ((k:Int) < (a.2.2.2.2.2.2.2.2.2.2.2.2.1.length:Int)) = true:=dT (by show (k:Int) < ((aJobs a).length:Int); omega)
   have e0:at? a.2.2.2.2.2.2.2.2.2.2.2.2.1 (k:Int) = some (aJobs a)[k]:=at_nat hk
   have hfl:(((aJobs a).take k).filter (asksV (aW a))).length ≤ k:=Nat.le_trans (List.length_filter_le _ _) (by rw [length_take]; omega)
   have ha:=askI a (hb _ (getElem_mem hk)) (hl.2.2.2 _ (getElem_mem hk)).1
   have t1:(aJobs a).take (k + 1) = (aJobs a).take k ++ [(aJobs a)[k]]:=by rw [take_add_one,List.getElem?_eq_getElem hk]; rfl
   refine ⟨_,?_,rfl⟩
   show dw a _ (k:Int) = _
   unfold dw
   rw [hlt,cT,e0,obs,ha,obs,w64_nat (by omega),w64_nat (by omega),t1,List.filter_append,length_append]
   have hc:(cond (goodV (aW a) (aJobs a)[k].2.1) (some true) (some (decide ((aJobs a)[k].2.2.1 > 0)))) = some (asksV (aW a) (aJobs a)[k]):=by
    unfold asksV; cases goodV (aW a) (aJobs a)[k].2.1 <;> rfl
   simp only
   rw [hc,obs]
   cases hq:asksV (aW a) (aJobs a)[k] with
   | true=>rw [List.filter_cons_of_pos (by rw [hq])]; rfl
   | false=>rw [List.filter_cons_of_neg (by rw [hq]; simp)]; rfl)
  (fun z e=>by
   subst e
   refine ⟨_,?_,rfl⟩
   show dw a _ ((aJobs a).length:Int) = _
   unfold dw
   have hlt:decide (((aJobs a).length:Int) < (a.2.2.2.2.2.2.2.2.2.2.2.2.1.length:Int)) = false:=dF (by show ¬ ((aJobs a).length:Int) < ((aJobs a).length:Int); omega)
   rw [hlt,cF,take_length]) (x:=(0,0)) rfl
 exact bnd_of e1 rfl

end Go.V.W

