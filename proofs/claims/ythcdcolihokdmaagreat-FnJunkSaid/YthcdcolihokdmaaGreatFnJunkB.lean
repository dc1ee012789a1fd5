/- The law FnJunk: part of the proof that for every input it returns true. No condition. -/
import Derived.Test.YthcdcolihokdmaaGreatFnJunkBP1
open List (any_eq_false append_assoc append_nil drop_eq_getElem_cons drop_zero flatMap_append getElem_cons_succ getElem_cons_zero getElem_mem getElem_set_self length_append length_cons length_drop length_eq_zero_iff length_map length_set length_singleton length_take map_append map_cons map_map mem_append mem_cons mem_cons_of_mem mem_map mem_of_mem_drop mem_of_mem_take mem_range mem_singleton nil_append not_mem_nil set_set take_add_one take_length take_nil take_of_length_le take_succ_cons take_zero)
set_option linter.unusedVariables false
set_option linter.unusedSimpArgs false
namespace Go.V.W
theorem Qk {m x:Int} (hm:-1099511627776<=m/\m<=1099511627776) (hx:0<=x/\x<=255):zC .i64 (rJ (m*2^8)) (rJ x)=m*256+x:=by
 rw[show m*2^8=m*256 from rfl,sg (show -9223372036854775808<=m*256 by omega) (by omega),sg (show -9223372036854775808<=x by omega) (by omega)];show IntKind.i64.wrap (((BitVec.ofInt 64 (m*256)|||BitVec.ofInt 64 x).toNat:Nat):Int)=_
 rw[BitVec.toNat_or,BitVec.toNat_ofInt,BitVec.toNat_ofInt];have h1:((m*256)%((2^64:Nat):Int)).toNat=2^8*(m%72057594037927936).toNat:=by
  have:((2^64:Nat):Int)=18446744073709551616:=by decide
  rw[this];omega
 have h2:(x%((2^64:Nat):Int)).toNat=x.toNat:=by
  have:((2^64:Nat):Int)=18446744073709551616:=by decide
  rw[this];omega
 rw[h1,h2,←Nat.two_pow_add_eq_or_of_lt (by show x.toNat<2^8;omega)];show (let z:=((2^8*(m%72057594037927936).toNat+x.toNat:Nat):Int)%18446744073709551616;if (true&&decide (z>=9223372036854775808))=true then z-18446744073709551616 else z)=_
 simp only[Bool.true_and,decide_eq_true_eq];split<;>omega
def uT (x:Int):Int:=if x>127 then x-256 else x
def tL (n:Int) (l:List Int):Int:=l.foldl (λn x=>n*256+x) n
theorem LH {n:Int} {l:List Int} (hn:-256<=n/\n<=256) (hl:tT l) (h3:l.length<=3):∀k,k<=l.length -> -1099511627776<=tL n (l.take k)/\tL n (l.take k)<=1099511627776:=by
 match l,h3 with
 | [],_=>intro k hk;simp only[take_nil,tL,List.foldl];omega
 | [a],_ =>
  have ha:=hl a (by simp);intro k hk
  match k with
  | 0=>simp only[take_zero,tL,List.foldl];omega
  | k+1=>simp only[take_succ_cons,take_nil,tL,List.foldl];omega
 | [a,b],_ =>
  have ha:=hl a (by simp);have hb:=hl b (by simp)
  intro k hk
  match k with
  | 0=>simp only[take_zero,tL,List.foldl];omega
  | 1=>simp only[take_succ_cons,take_zero,tL,List.foldl];omega
  | k+2=>simp only[take_succ_cons,take_nil,tL,List.foldl];omega
 | [a,b,c],_ =>
  have ha:=hl a (by simp);have hb:=hl b (by simp)
  have hc:=hl c (by simp);intro k hk
  match k with
  | 0=>simp only[take_zero,tL,List.foldl];omega
  | 1=>simp only[take_succ_cons,take_zero,tL,List.foldl];omega
  | 2=>simp only[take_succ_cons,take_zero,tL,List.foldl];omega
  | k+3=>simp only[take_succ_cons,take_nil,tL,List.foldl];omega
theorem DQ {n:Int} {l:List Int} (hn:-256<=n/\n<=256) (hl:tT l) (h3:l.length<=3) {off:Nat} (step:Int×Int->Option ((Int×Int)⊕Int)) (ho:off<=1000)
 (hs:∀k (hk:k<l.length) m,step (m,((off+k:Nat):Int))=some (.inl (zC .i64 (rJ (m*2^8)) (rJ l[k]),((off+(k+1):Nat):Int))))
 (he:∀m,step (m,((off+l.length:Nat):Int))=some (.inr m)):loop step (n,(off:Int))=some (tL n l):=by
 obtain⟨b,h1,rfl⟩:=se (step:=step) (λk z=>z=(tL n (l.take k),((off+k:Nat):Int))) l.length (λb=>b=tL n l)
  (λk z hk e=>by
   subst e;left;refine⟨_,hs k hk _,?_⟩;have ht:l.take (k+1)=l.take k++[l[k]]:=by rw[take_add_one,List.getElem?_eq_getElem hk];rfl
   rw[Qk (LH hn hl h3 k (by omega)) (hl _ (getElem_mem hk)),ht];unfold tL;rw[List.foldl_append];rfl)
  (λz e=>by
   subst e;exact⟨_,he _,by rw[take_length]⟩) (x:=(n,(off:Int))) rfl
 exact h1
theorem KA {x0:Int} {l:List Int} (hb:tT (x0::l)) (h3:l.length<=3):-2147483648<=tL (uT x0) l/\tL (uT x0) l<=2147483647/\((tA (tL (uT x0) l)).length=(x0::l).length->x0::l=tA (tL (uT x0) l)):=by
 have h0:=hb x0 (by simp);have hs:(uT x0=x0/\x0<=127)\/(uT x0=x0-256/\128<=x0):=by unfold uT;split<;>omega
 generalize uT x0=s at hs
 match l,h3 with
 | [],_ =>
  simp only[tL,List.foldl];refine⟨by omega,by omega,λ_=>?_⟩;have:rM s (-128) 127=true:=by unfold rM;rw[dT (by omega),dT (by omega)];rfl
  unfold tA;rw[if_pos this,show s%256=x0 by omega]
 | [a],_ =>
  have ha:=hb a (by simp);simp only[tL,List.foldl];refine⟨by omega,by omega,λh=>?_⟩;unfold tA at h ⊢;split at h
  · simp at h
  · split at h
    · next h1 h2=>rw[if_neg h1,if_pos h2,show (s*256+a)/256%256=x0 by omega,show (s*256+a)%256=a by omega]
    · split at h<;>simp at h
 | [a,b],_ =>
  have ha:=hb a (by simp);have hb':=hb b (by simp)
  simp only[tL,List.foldl];refine⟨by omega,by omega,λh=>?_⟩;unfold tA at h ⊢;split at h
  · simp at h
  · split at h
    · simp at h
    · split at h
      · next h1 h2 h3=>rw[if_neg h1,if_neg h2,if_pos h3,show ((s*256+a)*256+b)/65536%256=x0 by omega,show ((s*256+a)*256+b)/256%256=a by omega,show ((s*256+a)*256+b)%256=b by omega]
      · simp at h
 | [a,b,c],_ =>
  have ha:=hb a (by simp);have hb':=hb b (by simp)
  have hc:=hb c (by simp);simp only[tL,List.foldl];refine⟨by omega,by omega,λh=>?_⟩;unfold tA at h ⊢;split at h
  · simp at h
  · split at h
    · simp at h
    · split at h
      · simp at h
      · next h1 h2 h3=>rw[if_neg h1,if_neg h2,if_neg h3,show (((s*256+a)*256+b)*256+c)/16777216%256=x0 by omega,show (((s*256+a)*256+b)*256+c)/65536%256=a by omega,show (((s*256+a)*256+b)*256+c)/256%256=b by omega,show (((s*256+a)*256+b)*256+c)%256=c by omega]
theorem y7 {n:Int} (h:-2147483648<=n/\n<=2147483647):zr n=n:=by unfold zr;split<;>(try split)<;>omega
theorem i8 {x:Int} (hx:0<=x/\x<=255):rJ (IntKind.i8.wrap x)=uT x:=by
 have:IntKind.i8.wrap x=uT x:=by
  show (let m:=x%256;if (true&&decide (m>=128))=true then m-256 else m)=_;unfold uT;simp only[Bool.true_and,decide_eq_true_eq];split<;>split<;>omega
 rw[this];unfold uT;split<;>exact sg (by omega) (by omega)
theorem KB {b:List Int} (hb:tT b) (hn:b.length<=M):∃r,ev b=some r/\fa b=some r/\(r=(0,false)\/∃n,r=(n,true)/\b=tA n /\ -2147483648<=n/\n<=2147483647):=by
 have hn':b.length<=1048576:=hn;unfold ev fa;rw[vI,xP,rG,rG];cases h14:rM (b.length:Int) 1 4 with
 | false=>exact⟨_,rfl,rfl,.inl rfl⟩
 | true =>
  obtain⟨k1,k4⟩:=sE h14
  match b,k1,k4,hb,hn' with
  | x0::l,k1,k4,hb,hn' =>
   have h3:l.length<=3:=by rw[length_cons]at k4;omega
   have h0:=hb x0 (by simp);have hl:tT l:=λx hx=>hb x (mem_cons_of_mem _ hx)
   obtain⟨d1,d2,d3⟩:=KA hb h3;have hsg:-256<=uT x0/\uT x0<=256:=by unfold uT;split<;>omega
   have w0:rJ x0=x0:=sg (by omega) (by omega);have hcut:cut (x0::l) 1 ((x0::l).length:Int)=some l:=by
    rw[show (1:Int)=((1:Nat):Int)from rfl,vw (by simp) (Nat.le_refl _),take_length];rfl
   have hfin:∀d:Int×Bool,True:=λ_=>trivial;have li:loop (λz:Int×Int=>dl l z.1 z.2) (uT x0,0)=some (tL (uT x0) l):=DQ hsg hl h3 (off:=0) _ (by omega) (λk hk m=>by
    show dl l m ((0+k:Nat):Int)=_;rw[Nat.zero_add];unfold dl;rw[sG (by omega),cT,sa hk,rG,rW (by omega),Nat.zero_add]) (λm=>by
    show dl l m ((0+l.length:Nat):Int)=_;rw[Nat.zero_add];unfold dl;rw[sv (by omega),cF])
   have hat:∀k (hk:k<l.length),at? (x0::l) ((1+k:Nat):Int)=some l[k]:=λk hk=>by
    rw[sa (by simp;omega)]
    congr 1
    rw[List.getElem_cons,dif_neg (by omega)]
    congr 1;omega
   have ls:loop (λz:Int×Int=>dQ (x0::l) z.1 z.2) (uT x0,1)=some (tL (uT x0) l):=DQ hsg hl h3 (off:=1) _ (by omega) (λk hk m=>by
    show dQ (x0::l) m ((1+k:Nat):Int)=_;unfold dQ;rw[sG (show ((1+k:Nat):Int)<((x0::l).length:Int) by rw[length_cons];omega),cT,hat k hk,rG,rW (by omega)];rfl) (λm=>by
    show dQ (x0::l) m ((1+l.length:Nat):Int)=_;unfold dQ;rw[sv (show ¬((1+l.length:Nat):Int)<((x0::l).length:Int) by rw[length_cons];omega),cF])
   have ls1:loop (λz:Int×Int=>dR (x0::l) z.1 z.2) (uT x0,1)=some (tL (uT x0) l):=DQ hsg hl h3 (off:=1) _ (by omega) (λk hk m=>by
    show dR (x0::l) m ((1+k:Nat):Int)=_;unfold dR;rw[sG (show ((1+k:Nat):Int)<((x0::l).length:Int) by rw[length_cons];omega),cT,hat k hk,rG,rW (by omega)];rfl) (λm=>by
    show dR (x0::l) m ((1+l.length:Nat):Int)=_;unfold dR;rw[sv (show ¬((1+l.length:Nat):Int)<((x0::l).length:Int) by rw[length_cons];omega),cF])
   have fin1:∀(g:Option (List Int)),g=some (tA (tL (uT x0) l))->∃r,(g.bind λt30=>cond ((t30.length:Int) != ((x0::l).length:Int)) (some ((0:Int),false)) (some (tL (uT x0) l,true)))=some r/\(r=(0,false)\/∃n,r=(n,true)/\x0::l=tA n /\ -2147483648<=n/\n<=2147483647):=λg hg=>by
    rw[hg,rG];cases he:(((tA (tL (uT x0) l)).length:Int) != ((x0::l).length:Int))with
    | true=>exact⟨_,rfl,.inl rfl⟩
    | false =>
     have he':((tA (tL (uT x0) l)).length:Int)=((x0::l).length:Int):=by simpa using he
     exact⟨_,rfl,.inr ⟨_,rfl,d3 (by omega),d1,d2⟩⟩
   have p1:=HE (n:=tL (uT x0) l) ⟨by omega,by omega⟩;have p2:=zt (n:=tL (uT x0) l)
   rw[y7 ⟨d1,d2⟩]at p1 p2;obtain⟨r,f1,f2⟩:=fin1 _ p1;have f3:((aK (tL (uT x0) l)).bind λt30=>cond ((t30.length:Int) != ((x0::l).length:Int)) (some ((0:Int),false)) (some (tL (uT x0) l,true)))=some r:=by rw[p2,←p1];exact f1
   refine⟨r,?_,?_,f2⟩
   · rw[Bool.not_true,cF,show at? (x0::l) 0=some x0 from rfl,rG];simp only;rw[hcut,rG,i8 h0,li,rG];exact f1
   · rw[Bool.not_true,cF,show at? (x0::l) 0=some x0 from rfl,rG,w0];by_cases h7:x0>127
     · have hsx:rJ (x0-256)=uT x0:=by unfold uT;rw[if_pos h7];exact sg (by omega) (by omega)
       rw[dT h7,cT,hsx,ls,rG];exact f3
     · have hsx:uT x0=x0:=by unfold uT;rw[if_neg h7]
       rw[hsx]at ls1 f3;rw[dF h7,cF,ls1,rG];exact f3

theorem Jo:((2^64:Nat):Int)=18446744073709551616:=by decide
theorem BB {x:Int} (hx:0<=x/\x<9223372036854775808):vn .i64 x 127=x%128:=by
 show IntKind.i64.wrap (((BitVec.ofInt 64 x&&&BitVec.ofInt 64 127).toNat:Nat):Int)=_;rw[BitVec.toNat_and,BitVec.toNat_ofInt,BitVec.toNat_ofInt,Jo];have h2:((127:Int)%18446744073709551616).toNat=2^7-1:=by decide
 have h1:(x%18446744073709551616).toNat=x.toNat:=by omega
 rw[h1,h2,Nat.and_two_pow_sub_one_eq_mod];show (let z:=((x.toNat%2^7:Nat):Int)%18446744073709551616;if (true&&decide (z>=9223372036854775808))=true then z-18446744073709551616 else z)=_
 simp only[Bool.true_and,decide_eq_true_eq];split<;>omega
theorem BY {x:Int} (hx:0<=x/\x<=255):vn .u8 x 127=x%128:=by
 show IntKind.u8.wrap (((BitVec.ofInt 8 x&&&BitVec.ofInt 8 127).toNat:Nat):Int)=_;rw[BitVec.toNat_and,BitVec.toNat_ofInt,BitVec.toNat_ofInt,show ((2^8:Nat):Int)=256 by decide];have h2:((127:Int)%256).toNat=2^7-1:=by decide
 have h1:(x%256).toNat=x.toNat:=by omega
 rw[h1,h2,Nat.and_two_pow_sub_one_eq_mod];show (((x.toNat%2^7:Nat):Int)%256)=_
 omega
theorem O1 {x:Int} (hx:0<=x/\x<128):zC .i64 x 128=x+128:=by
 show IntKind.i64.wrap (((BitVec.ofInt 64 x|||BitVec.ofInt 64 128).toNat:Nat):Int)=_;rw[BitVec.toNat_or,BitVec.toNat_ofInt,BitVec.toNat_ofInt,Jo];have h2:((128:Int)%18446744073709551616).toNat=2^7*1:=by decide
 have h1:(x%18446744073709551616).toNat=x.toNat:=by omega
 rw[h1,h2,Nat.or_comm,←Nat.two_pow_add_eq_or_of_lt (by show x.toNat<2^7;omega)];show (let z:=((2^7*1+x.toNat:Nat):Int)%18446744073709551616;if (true&&decide (z>=9223372036854775808))=true then z-18446744073709551616 else z)=_
 simp only[Bool.true_and,decide_eq_true_eq];split<;>omega
theorem Jp {m x:Int} (hm:0<=m/\m<=1099511627776) (hx:0<=x/\x<128):zC .i64 (rJ (m*2^7)) (rJ x)=m*128+x:=by
 rw[show m*2^7=m*128 from rfl,sg (show -9223372036854775808<=m*128 by omega) (by omega),sg (show -9223372036854775808<=x by omega) (by omega)];show IntKind.i64.wrap (((BitVec.ofInt 64 (m*128)|||BitVec.ofInt 64 x).toNat:Nat):Int)=_
 rw[BitVec.toNat_or,BitVec.toNat_ofInt,BitVec.toNat_ofInt,Jo];have h1:((m*128)%18446744073709551616).toNat=2^7*m.toNat:=by omega
 have h2:(x%18446744073709551616).toNat=x.toNat:=by omega
 rw[h1,h2,←Nat.two_pow_add_eq_or_of_lt (by show x.toNat<2^7;omega)];show (let z:=((2^7*m.toNat+x.toNat:Nat):Int)%18446744073709551616;if (true&&decide (z>=9223372036854775808))=true then z-18446744073709551616 else z)=_
 simp only[Bool.true_and,decide_eq_true_eq];split<;>omega
def grp (n:Int):List Int:=if n<=127 then [n]else if n<=16383 then [n/128+128,n%128]else if n<=2097151 then [n/16384+128,n/128%128+128,n%128]else [n/2097152+128,n/16384%128+128,n/128%128+128,n%128]
def sA (o:List Int):List Int:=o.flatMap grp
theorem LI {n:Int} (hn:0<=n/\n<268435456):dU n=some (grp n):=by
 unfold dU;have st:∀(x:Int) (out:List Int),0<=x/\x<268435456->out.length<=10->ce x out=cond (decide (x>127)) (some (.inl (x/128,(x/128%128+128)::out))) (some (.inr out)):=λx out hx ho=>by
  unfold ce;rw[fd x (by decide),show (2:Int)^7=128 from rfl,BB (by omega),O1 (by omega),w8,rP (by simp;omega),rG,show (x/128%128+128)%256=x/128%128+128 by omega];rfl
 have goes:∀(x:Int) (out:List Int),0<=x/\x<268435456->out.length<=9->x<=127->loop (λz:Int×List Int=>ce z.1 z.2) (x,out)=some out:=λx out hx ho h=>sm (by show ce x out=_;rw[st x out hx (by omega),dF (by omega)];rfl);have more:∀(x:Int) (out r:List Int),0<=x/\x<268435456->out.length<=9->127<x->loop (λz:Int×List Int=>ce z.1 z.2) (x/128,(x/128%128+128)::out)=some r->loop (λz:Int×List Int=>ce z.1 z.2) (x,out)=some r:=λx out r hx ho h k=>sd (by show ce x out=_;rw[st x out hx (by omega),dT (by omega)];rfl) k
 rw[BB (by omega),w8,show n%128%256=n%128 by omega];unfold grp;by_cases h1:n<=127
 · rw[if_pos h1,goes n _ hn (by simp) h1,show n%128=n by omega];rfl
 rw[if_neg h1];by_cases h2:n<=16383
 · rw[if_pos h2,more n _ _ hn (by simp) (by omega) (goes (n/128) _ (by omega) (by simp) (by omega)),show n/128%128=n/128 by omega];rfl
 rw[if_neg h2];by_cases h3:n<=2097151
 · rw[if_pos h3,more n _ _ hn (by simp) (by omega) (more (n/128) _ _ (by omega) (by simp) (by omega) (goes (n/128/128) _ (by omega) (by simp) (by omega))),show n/128/128=n/16384 by omega,show n/16384%128=n/16384 by omega];rfl
 rw[if_neg h3,more n _ _ hn (by simp) (by omega) (more (n/128) _ _ (by omega) (by simp) (by omega) (more (n/128/128) _ _ (by omega) (by simp) (by omega) (goes (n/128/128/128) _ (by omega) (by simp) (by omega)))),show n/128/128=n/16384 by omega,show n/16384/128=n/2097152 by omega,show n/2097152%128=n/2097152 by omega];rfl
theorem Fe (n:Int):(grp n).length<=4:=by unfold grp;split<;>(try split)<;>(try split)<;>simp
theorem Ih (n:Int):1<=(grp n).length:=by unfold grp;split<;>(try split)<;>(try split)<;>simp
theorem LJ {n:Int} (h:n<=100000):(grp n).length<=3:=by unfold grp;split<;>(try split)<;>(try split)<;>simp<;>omega
theorem xN {o:List Int} (h:∀x∈o,x<=100000):(sA o).length<=3*o.length:=by
 induction o with
 | nil=>simp[sA]
 | cons x t ih =>
  have h1:=ih λy hy=>h y (mem_cons_of_mem _ hy);have h2:=LJ (h x (by simp))
  unfold sA at h1 ⊢;rw[List.flatMap_cons,length_append,length_cons];omega
theorem Ql {n:Int} (hn:0<=n/\n<=100000) {out:List Int} (ho:out.length<=100):∃d,loop (λz=>bR n z) 0=some d/\∃e,loop (λz:Int×List Int=>cp n z.1 z.2) (d,out)=some e/\e.length<=104/\e++[IntKind.u8.wrap (vn .i64 n 127)]=out++grp n:=by
 have s0:bR n 0=cond (decide (n>127)) (some (.inl 1)) (some (.inr 0)):=by
  unfold bR;rw[show shr .i64 n (rJ (7*0))=some (n.fdiv (2^0))from rfl,rG,fd n (by decide),show n/2^0=n by simp];rfl
 have s1:bR n 1=cond (decide (n/128>127)) (some (.inl 2)) (some (.inr 1)):=by
  unfold bR;rw[show shr .i64 n (rJ (7*1))=some (n.fdiv (2^7))from rfl,rG,fd n (by decide),show (2:Int)^7=128 from rfl];rfl
 have s2:bR n 2=some (.inr 2):=by
  unfold bR;rw[show shr .i64 n (rJ (7*2))=some (n.fdiv (2^14))from rfl,rG,fd n (by decide),show (2:Int)^14=16384 from rfl,dF (by omega)];rfl
 have t0:∀o:List Int,cp n 0 o=some (.inr o):=λo=>rfl;have t1:∀o:List Int,o.length<=110->cp n 1 o=some (.inl (0,o++[n/128%128+128])):=λo ho=>by
  unfold cp;rw[show shr .i64 n (rJ (7*1))=some (n.fdiv (2^7))from rfl,rG,fd n (by decide),show (2:Int)^7=128 from rfl,BB (by omega),sg (by omega) (by omega),w8,rP (by simp;omega),rG,show (n/128%128+128)%256=n/128%128+128 by omega];rfl
 have t2:∀o:List Int,o.length<=110->cp n 2 o=some (.inl (1,o++[n/16384%128+128])):=λo ho=>by
  unfold cp;rw[show shr .i64 n (rJ (7*2))=some (n.fdiv (2^14))from rfl,rG,fd n (by decide),show (2:Int)^14=16384 from rfl,BB (by omega),sg (by omega) (by omega),w8,rP (by simp;omega),rG,show (n/16384%128+128)%256=n/16384%128+128 by omega];rfl
 rw[BB (by omega),w8,show n%128%256=n%128 by omega];unfold grp;by_cases h1:n<=127
 · rw[dF (by omega)]at s0;refine⟨0,sm s0,out,sm (t0 out),by omega,?_⟩;rw[if_pos h1,show n%128=n by omega]
 rw[dT (by omega)]at s0;by_cases h2:n<=16383
 · rw[dF (by omega)]at s1;refine⟨1,sd s0 (sm s1),_,sd (t1 out (by omega)) (sm (t0 _)),by simp;omega,?_⟩;rw[if_neg h1,if_pos h2,show n/128%128=n/128 by omega];simp
 rw[dT (by omega)]at s1;refine⟨2,sd s0 (sd s1 (sm s2)),_,sd (t2 out (by omega)) (sd (t1 _ (by simp;omega)) (sm (t0 _))),by simp;omega,?_⟩;rw[if_neg h1,if_neg h2,if_pos (by omega),show n/16384%128=n/16384 by omega];simp
theorem O2 {o:List Int} (hn:o.length<=M):∃v,al o=some v/\(v=true->1<=o.length/\o.length<=10/\∀x∈o,0<=x/\x<=100000)/\cq o=some (cond v (sA o) []):=by
 have hn':o.length<=1048576:=hn;obtain⟨v,hv,hv2⟩:∃v,al o=some v/\(v=true->1<=o.length/\o.length<=10/\∀x∈o,0<=x/\x<=100000):=by
  unfold al;obtain⟨b,h1,h2⟩:=se (β:=Unit⊕Bool) (step:=λz=>aM o z) (λk i=>i=(k:Int)/\∀x∈o.take k,0<=x/\x<=100000) o.length (λb=>(b=.inl ()/\∀x∈o,0<=x/\x<=100000)\/b=.inr false)
   (λk i hk ⟨e,hx⟩=>by
    subst e;have hs:aM o (k:Int)=cond (!(rM o[k] 0 100000)) (some (.inr (.inr false))) (some (.inl ((k+1:Nat):Int))):=by
     unfold aM;rw[sG (by omega),cT,sa hk,rG,vI,rG,rW (by omega)]
    cases hp:rM o[k] 0 100000 with
    | false=>exact .inr ⟨_,by rw[hs,hp];rfl,.inr rfl⟩
    | true =>
     refine .inl ⟨_,by rw[hs,hp];rfl,rfl,λx hx'=>?_⟩;rw[take_add_one,List.getElem?_eq_getElem hk,mem_append]at hx';rcases hx' with hx'|hx'
     · exact hx x hx'
     · simp at hx';subst hx';exact sE hp)
   (λi ⟨e,hx⟩=>by
    subst e;rw[take_length]at hx;refine⟨.inl (),?_,.inl ⟨rfl,hx⟩⟩;unfold aM;rw[sv (by omega),cF]) (x:=0) ⟨rfl,by simp⟩
  rw[h1,rG];rcases h2 with ⟨rfl,hx⟩|rfl
  · simp only[Sum.elim_inl,vI,rG];refine⟨_,rfl,λh=>?_⟩;have:=sE h
    exact⟨by omega,by omega,hx⟩
  · exact⟨false,rfl,λh=>by cases h⟩
 refine⟨v,hv,hv2,?_⟩;unfold cq;rw[hv,rG];cases v with
 | false=>rfl
 | true =>
  obtain⟨h1,h10,hx⟩:=hv2 rfl;obtain⟨b,e1,rfl⟩:=se (step:=λz:Int×List Int=>dq o z.1 z.2) (λk z=>z=((k:Int),sA (o.take k))) o.length (λb=>b=sA o)
   (λk z hk e=>by
    subst e;left;have hl:(sA (o.take k)).length<=30:=by
     have:=xN (o:=o.take k) λx hx'=>(hx x (mem_of_mem_take hx')).2;rw[length_take]at this;omega
    obtain⟨d,d1,e,e1,e2,e3⟩:=Ql (hx _ (getElem_mem hk)) (out:=sA (o.take k)) (by omega);have ht:sA (o.take (k+1))=sA (o.take k)++grp o[k]:=by
     unfold sA;rw[take_add_one,List.getElem?_eq_getElem hk,flatMap_append];simp
    refine⟨_,?_,rfl⟩;show dq o (k:Int) (sA (o.take k))=_
    unfold dq;rw[sG (by omega),cT,sa hk,rG,d1,rG,e1,rG,rP (by simp;omega),rG,rW (by omega),ht,←e3])
   (λz e=>by
    subst e;refine⟨sA o,?_,rfl⟩;show dq o (o.length:Int) (sA (o.take o.length))=_
    unfold dq;rw[sv (by omega),cF,take_length]) (x:=(0,[])) rfl
  rw[e1];rfl

theorem Ff {n:Int} (h:0<=n/\n<268435456):tT (grp n):=by
 unfold grp;intro x hx;split at hx
 · simp at hx;omega
 · split at hx
   · simp at hx;omega
   · split at hx
     · simp at hx;omega
     · simp at hx;omega
theorem Pf {pre rest out:List Int} {n:Int} (hn:0<=n/\n<=100000) (hp:pre.length<=30) (ho:out.length<=100) {r:List Int⊕(Bool×List Int)}
 (k:loop (λz:Int×Int×List Int=>aw (pre++(grp n++rest)) z.1 z.2.1 z.2.2) (0,((pre.length+(grp n).length:Nat):Int),out++[n])=some r) :
 loop (λz:Int×Int×List Int=>aw (pre++(grp n++rest)) z.1 z.2.1 z.2.2) (0,(pre.length:Int),out)=some r:=by
 have hg:=Ff (n:=n) (by omega);have st:∀(m:Int) (j:Nat) (o:List Int) (hj:j<(grp n).length),0<=m/\m<=1048576->o.length<=100->aw (pre++(grp n++rest)) m ((pre.length+j:Nat):Int) o=cond (decide ((grp n)[j]<128)) (some (.inl (0,((pre.length+(j+1):Nat):Int),o++[m*128+(grp n)[j]%128]))) (some (.inl (m*128+(grp n)[j]%128,((pre.length+(j+1):Nat):Int),o))):=λm j o hj hm ho=>by
  have h4:=Fe n;have hx:=hg _ (getElem_mem hj)
  have hat:at? (pre++(grp n++rest)) ((pre.length+j:Nat):Int)=some (grp n)[j]:=by
   rw[BF,sa (by rw[length_append];omega),List.getElem_append_left hj]
  unfold aw;rw[sG (show ((pre.length+j:Nat):Int)<((pre++(grp n++rest)).length:Int) by rw[length_append,length_append];omega),cT,hat,rG,dF (show ¬((pre.length+j:Nat):Int)>=40 by omega),cF,BY hx,rW (by omega)];have hmin:min2 m 1048576=m:=by unfold min2;split<;>omega
  rw[hmin,Jp (by omega) (by omega)];simp only;rw[rP (by simp;omega),rG];rfl
 have h4:=Fe n;have hz:(0:Int)*128=0:=rfl
 unfold grp at k st ⊢;by_cases h1:n<=127
 · rw[if_pos h1]at k st ⊢;have s0:=st 0 0 out (by simp) (by omega) ho
   simp only[getElem_cons_zero,Nat.add_zero]at s0;rw[dT (by omega),cT,show (0:Int)*128+n%128=n by omega]at s0;exact sd s0 k
 rw[if_neg h1]at k st ⊢;by_cases h2:n<=16383
 · rw[if_pos h2]at k st ⊢;have s0:=st 0 0 out (by simp) (by omega) ho
   have s1:=st (n/128) 1 out (by simp) (by omega) ho;simp only[getElem_cons_zero,getElem_cons_succ,Nat.add_zero,Nat.zero_add,Nat.reduceAdd]at s0 s1;rw[dF (by omega),cF,show (0:Int)*128+(n/128+128)%128=n/128 by omega]at s0;rw[dT (by omega),cT,show n/128*128+n%128%128=n by omega]at s1;exact sd s0 (sd s1 k)
 rw[if_neg h2]at k st ⊢;rw[if_pos (show n<=2097151 by omega)]at k st ⊢;have s0:=st 0 0 out (by simp) (by omega) ho
 have s1:=st (n/16384) 1 out (by simp) (by omega) ho;have s2:=st (n/128) 2 out (by simp) (by omega) ho
 simp only[getElem_cons_zero,getElem_cons_succ,Nat.add_zero,Nat.zero_add,Nat.reduceAdd]at s0 s1 s2;rw[dF (by omega),cF,show (0:Int)*128+(n/16384+128)%128=n/16384 by omega]at s0;rw[dF (by omega),cF,show n/16384*128+(n/128%128+128)%128=n/128 by omega]at s1;rw[dT (by omega),cT,show n/128*128+n%128%128=n by omega]at s2;exact sd s0 (sd s1 (sd s2 k))
theorem Hg {b:List Int}:∀(o pre out:List Int),b=pre++sA o->(∀x∈o,0<=x/\x<=100000)->b.length<=30->out.length+o.length<=20->loop (λz:Int×Int×List Int=>aw b z.1 z.2.1 z.2.2) (0,(pre.length:Int),out)=some (.inl (out++o))
 | [],pre,out,e,_,hb,_=>by
  have:b.length=pre.length:=by rw[e];simp[sA]
  refine sm ?_;show aw b 0 (pre.length:Int) out=_
  unfold aw;rw[sv (by omega),cF,append_nil]
 | n::o,pre,out,e,hx,hb,hl=>by
  have e1:b=pre++(grp n++sA o):=by rw[e];rfl
  have e2:b=(pre++grp n)++sA o:=by rw[e1,append_assoc]
  have ih:=Hg o (pre++grp n) (out++[n]) e2 (λx h=>hx x (mem_cons_of_mem _ h)) hb (by simp at hl ⊢;omega);rw[length_append,append_assoc]at ih;have hpl:pre.length<=30:=by rw[e1,length_append]at hb;omega
  rw[length_cons]at hl;rw[e1]at ih ⊢;exact Pf (hx n (by simp)) hpl (by omega) ih
theorem Pg {b pre s:List Int} (e:b=pre++s) (hb:tT b) (hn:b.length<=M):∃d:Int×Int×Int×Bool,loop (λz:Int×Int×Int×Bool=>aH b z.1 z.2.1 z.2.2.1 z.2.2.2) ((pre.length:Int),0,0,true)=some d /\
 (d.2.2.2=true\/∃l rest:List Int,s=l++rest/\1<=l.length/\d=(((pre.length+l.length:Nat):Int),d.2.1,(l.length:Int),false)/\0<=d.2.1/\d.2.1<268435456/\((grp d.2.1).length=l.length->l=grp d.2.1))/\0<=d.2.1/\d.2.1<268435456/\0<=d.1/\d.1<=(b.length:Int):=by
 have hn':b.length<=1048576:=hn;have hlen:b.length=pre.length+s.length:=by rw[e,length_append]
 have st:∀(m:Int) (j:Nat) (hj:j<s.length),j<4->0<=m/\m<=2097152->aH b ((pre.length+j:Nat):Int) m (j:Int) true=some (.inl (((pre.length+(j+1):Nat):Int),m*128+s[j]%128,((j+1:Nat):Int),decide (s[j]>127))):=λm j hj h4 hm=>by
  have hx:0<=s[j]/\s[j]<=255:=hb _ (by rw[e];exact List.mem_append_right _ (getElem_mem hj));have hat:at? b ((pre.length+j:Nat):Int)=some s[j]:=by rw[e,BF,sa hj]
  unfold aH;rw[sG (show ((pre.length+j:Nat):Int)<(b.length:Int) by omega),cT,rG,cT,sG (show (j:Int)<4 by omega),rG,cT,hat,rG,rG,BY hx,Jp (by omega) (by omega),rW (by omega),rW (by omega)];rfl
 have stop:∀(m:Int) (j:Nat),aH b ((pre.length+j:Nat):Int) m (j:Int) false=some (.inr (((pre.length+j:Nat):Int),m,(j:Int),false)):=λm j=>by
  unfold aH;rfl
 have endd:∀(m:Int) (j:Nat),(s.length<=j\/4<=j)->aH b ((pre.length+j:Nat):Int) m (j:Int) true=some (.inr (((pre.length+j:Nat):Int),m,(j:Int),true)):=λm j h=>by
  unfold aH;rw[cT,rG];by_cases h1:((pre.length+j:Nat):Int)<(b.length:Int)
  · rw[sG h1,cT,sv (show ¬(j:Int)<4 by omega)];rfl
  · rw[sv h1,cF];rfl
 have hsx:∀j (hj:j<s.length),0<=s[j]/\s[j]<=255:=λj hj=>hb _ (by rw[e];exact List.mem_append_right _ (getElem_mem hj));by_cases l0:s.length<=0
 · exact⟨_,sm (endd 0 0 (.inl l0)),.inl rfl,by show (0:Int)<=0/\(0:Int)<_/\_;omega⟩
 have a0:=st 0 0 (by omega) (by omega) (by omega);have x0:=hsx 0 (by omega)
 generalize g0:s[0]=y0 at a0 x0;by_cases m0:y0>127
 · rw[dT m0]at a0;by_cases l1:s.length<=1
   · exact⟨_,sd a0 (sm (endd _ 1 (.inl l1))),.inl rfl,by show 0<=(0:Int)*128+y0%128/\(0:Int)*128+y0%128<_/\(0:Int)<=((pre.length+1:Nat):Int)/\((pre.length+1:Nat):Int)<=_;omega⟩
   have a1:=st (0*128+y0%128) 1 (by omega) (by omega) (by omega);have x1:=hsx 1 (by omega)
   generalize g1:s[1]=y1 at a1 x1;by_cases m1:y1>127
   · rw[dT m1]at a1;by_cases l2:s.length<=2
     · exact⟨_,sd a0 (sd a1 (sm (endd _ 2 (.inl l2)))),.inl rfl,by show 0<=((0:Int)*128+y0%128)*128+y1%128/\((0:Int)*128+y0%128)*128+y1%128<_/\(0:Int)<=((pre.length+2:Nat):Int)/\((pre.length+2:Nat):Int)<=_;omega⟩
     have a2:=st ((0*128+y0%128)*128+y1%128) 2 (by omega) (by omega) (by omega);have x2:=hsx 2 (by omega)
     generalize g2:s[2]=y2 at a2 x2;by_cases m2:y2>127
     · rw[dT m2]at a2;by_cases l3:s.length<=3
       · exact⟨_,sd a0 (sd a1 (sd a2 (sm (endd _ 3 (.inl l3))))),.inl rfl,by show 0<=(((0:Int)*128+y0%128)*128+y1%128)*128+y2%128/\(((0:Int)*128+y0%128)*128+y1%128)*128+y2%128<_/\(0:Int)<=((pre.length+3:Nat):Int)/\((pre.length+3:Nat):Int)<=_;omega⟩
       have a3:=st (((0*128+y0%128)*128+y1%128)*128+y2%128) 3 (by omega) (by omega) (by omega);have x3:=hsx 3 (by omega)
       generalize g3:s[3]=y3 at a3 x3;by_cases m3:y3>127
       · rw[dT m3]at a3;exact⟨_,sd a0 (sd a1 (sd a2 (sd a3 (sm (endd _ 4 (.inr (by omega))))))),.inl rfl,by show 0<=((((0:Int)*128+y0%128)*128+y1%128)*128+y2%128)*128+y3%128/\((((0:Int)*128+y0%128)*128+y1%128)*128+y2%128)*128+y3%128<_/\(0:Int)<=((pre.length+4:Nat):Int)/\((pre.length+4:Nat):Int)<=_;omega⟩
       · rw[dF m3]at a3;have d0:s.drop 0=s[0]::s.drop 1:=drop_eq_getElem_cons (by omega)
         have d1:s.drop 1=s[1]::s.drop 2:=drop_eq_getElem_cons (by omega);have d2:s.drop 2=s[2]::s.drop 3:=drop_eq_getElem_cons (by omega)
         have d3:s.drop 3=s[3]::s.drop 4:=drop_eq_getElem_cons (by omega);have hs:s=y0::y1::y2::y3::s.drop 4:=by
          rw[drop_zero]at d0;exact d0.trans (by rw[g0,d1,g1,d2,g2,d3,g3])
         refine⟨_,sd a0 (sd a1 (sd a2 (sd a3 (sm (stop _ 4))))),.inr ⟨[y0,y1,y2,y3],s.drop 4,hs,by simp,rfl,?_,?_,?_⟩,?_⟩
         · show 0<=((((0:Int)*128+y0%128)*128+y1%128)*128+y2%128)*128+y3%128;omega
         · show ((((0:Int)*128+y0%128)*128+y1%128)*128+y2%128)*128+y3%128<_;omega
         · show (grp (((((0:Int)*128+y0%128)*128+y1%128)*128+y2%128)*128+y3%128)).length=_->_=grp (((((0:Int)*128+y0%128)*128+y1%128)*128+y2%128)*128+y3%128);intro h;generalize hv:((((0:Int)*128+y0%128)*128+y1%128)*128+y2%128)*128+y3%128=v at h ⊢;unfold grp at h ⊢;split at h
           · simp at h
           · split at h
             · simp at h
             · split at h
               · simp at h
               · next q1 q2 q3=>rw[if_neg q1,if_neg q2,if_neg q3,show v/2097152+128=y0 by omega,show v/16384%128+128=y1 by omega,show v/128%128+128=y2 by omega,show v%128=y3 by omega]
         · show 0<=((((0:Int)*128+y0%128)*128+y1%128)*128+y2%128)*128+y3%128/\((((0:Int)*128+y0%128)*128+y1%128)*128+y2%128)*128+y3%128<_/\(0:Int)<=((pre.length+4:Nat):Int)/\((pre.length+4:Nat):Int)<=_;omega
     · rw[dF m2]at a2;have d0:s.drop 0=s[0]::s.drop 1:=drop_eq_getElem_cons (by omega)
       have d1:s.drop 1=s[1]::s.drop 2:=drop_eq_getElem_cons (by omega);have d2:s.drop 2=s[2]::s.drop 3:=drop_eq_getElem_cons (by omega)
       have hs:s=y0::y1::y2::s.drop 3:=by
        rw[drop_zero]at d0;exact d0.trans (by rw[g0,d1,g1,d2,g2])
       refine⟨_,sd a0 (sd a1 (sd a2 (sm (stop _ 3)))),.inr ⟨[y0,y1,y2],s.drop 3,hs,by simp,rfl,?_,?_,?_⟩,?_⟩
       · show 0<=(((0:Int)*128+y0%128)*128+y1%128)*128+y2%128;omega
       · show (((0:Int)*128+y0%128)*128+y1%128)*128+y2%128<_;omega
       · show (grp ((((0:Int)*128+y0%128)*128+y1%128)*128+y2%128)).length=_->_=grp ((((0:Int)*128+y0%128)*128+y1%128)*128+y2%128);intro h;generalize hv:(((0:Int)*128+y0%128)*128+y1%128)*128+y2%128=v at h ⊢;unfold grp at h ⊢;split at h
         · simp at h
         · split at h
           · simp at h
           · split at h
             · next q1 q2 q3=>rw[if_neg q1,if_neg q2,if_pos q3,show v/16384+128=y0 by omega,show v/128%128+128=y1 by omega,show v%128=y2 by omega]
             · simp at h
       · show 0<=(((0:Int)*128+y0%128)*128+y1%128)*128+y2%128/\(((0:Int)*128+y0%128)*128+y1%128)*128+y2%128<_/\(0:Int)<=((pre.length+3:Nat):Int)/\((pre.length+3:Nat):Int)<=_;omega
   · rw[dF m1]at a1;have d0:s.drop 0=s[0]::s.drop 1:=drop_eq_getElem_cons (by omega)
     have d1:s.drop 1=s[1]::s.drop 2:=drop_eq_getElem_cons (by omega);have hs:s=y0::y1::s.drop 2:=by
      rw[drop_zero]at d0;exact d0.trans (by rw[g0,d1,g1])
     refine⟨_,sd a0 (sd a1 (sm (stop _ 2))),.inr ⟨[y0,y1],s.drop 2,hs,by simp,rfl,?_,?_,?_⟩,?_⟩
     · show 0<=((0:Int)*128+y0%128)*128+y1%128;omega
     · show ((0:Int)*128+y0%128)*128+y1%128<_;omega
     · show (grp (((0:Int)*128+y0%128)*128+y1%128)).length=_->_=grp (((0:Int)*128+y0%128)*128+y1%128);intro h;generalize hv:((0:Int)*128+y0%128)*128+y1%128=v at h ⊢;unfold grp at h ⊢;split at h
       · simp at h
       · split at h
         · next q1 q2=>rw[if_neg q1,if_pos q2,show v/128+128=y0 by omega,show v%128=y1 by omega]
         · split at h<;>simp at h
     · show 0<=((0:Int)*128+y0%128)*128+y1%128/\((0:Int)*128+y0%128)*128+y1%128<_/\(0:Int)<=((pre.length+2:Nat):Int)/\((pre.length+2:Nat):Int)<=_;omega
 · rw[dF m0]at a0;have d0:s.drop 0=s[0]::s.drop 1:=drop_eq_getElem_cons (by omega)
   have hs:s=y0::s.drop 1:=by
    rw[drop_zero]at d0;exact d0.trans (by rw[g0])
   refine⟨_,sd a0 (sm (stop _ 1)),.inr ⟨[y0],s.drop 1,hs,by simp,rfl,?_,?_,?_⟩,?_⟩
   · show 0<=(0:Int)*128+y0%128;omega
   · show (0:Int)*128+y0%128<_;omega
   · show (grp ((0:Int)*128+y0%128)).length=_->_=grp ((0:Int)*128+y0%128);intro h;generalize hv:(0:Int)*128+y0%128=v at h ⊢;unfold grp at h ⊢;split at h
     · next q1=>rw[if_pos q1,show v=y0 by omega]
     · split at h
       · simp at h
       · split at h<;>simp at h
   · show 0<=(0:Int)*128+y0%128/\(0:Int)*128+y0%128<_/\(0:Int)<=((pre.length+1:Nat):Int)/\((pre.length+1:Nat):Int)<=_;omega

def Qm (o:List Int):Prop:=1<=o.length/\o.length<=10/\∀x∈o,0<=x/\x<=100000
theorem Ph {pre rest:List Int} {n:Int} (hn:0<=n/\n<=100000) (hp:pre.length<=1000):loop (λz:Int×Int×Int×Bool=>aH (pre++(grp n++rest)) z.1 z.2.1 z.2.2.1 z.2.2.2) ((pre.length:Int),0,0,true)=some (((pre.length+(grp n).length:Nat):Int),n,((grp n).length:Int),false):=by
 have hg:=Ff (n:=n) (by omega);have st:∀(m:Int) (j:Nat) (hj:j<(grp n).length),j<4->0<=m/\m<=2097152->aH (pre++(grp n++rest)) ((pre.length+j:Nat):Int) m (j:Int) true=some (.inl (((pre.length+(j+1):Nat):Int),m*128+(grp n)[j]%128,((j+1:Nat):Int),decide ((grp n)[j]>127))):=λm j hj h4 hm=>by
  have hx:=hg _ (getElem_mem hj);have hat:at? (pre++(grp n++rest)) ((pre.length+j:Nat):Int)=some (grp n)[j]:=by rw[BF,sa (by rw[length_append];omega),List.getElem_append_left hj]
  unfold aH;rw[sG (show ((pre.length+j:Nat):Int)<((pre++(grp n++rest)).length:Int) by rw[length_append,length_append];omega),cT,rG,cT,sG (show (j:Int)<4 by omega),rG,cT,hat,rG,rG,BY hx,Jp (by omega) (by omega),rW (by omega),rW (by omega)];rfl
 have stop:∀(m:Int) (j:Nat),aH (pre++(grp n++rest)) ((pre.length+j:Nat):Int) m (j:Int) false=some (.inr (((pre.length+j:Nat):Int),m,(j:Int),false)):=λm j=>by
  unfold aH;rfl
 unfold grp at st stop ⊢;by_cases h1:n<=127
 · rw[if_pos h1]at st stop ⊢;have s0:=st 0 0 (by simp) (by omega) (by omega)
   simp only[getElem_cons_zero]at s0;rw[dF (by omega),show (0:Int)*128+n%128=n by omega]at s0;exact sd s0 (sm (stop n 1))
 rw[if_neg h1]at st stop ⊢;by_cases h2:n<=16383
 · rw[if_pos h2]at st stop ⊢;have s0:=st 0 0 (by simp) (by omega) (by omega)
   have s1:=st (n/128) 1 (by simp) (by omega) (by omega);simp only[getElem_cons_zero,getElem_cons_succ]at s0 s1;rw[dT (by omega),show (0:Int)*128+(n/128+128)%128=n/128 by omega]at s0;rw[dF (by omega),show n/128*128+n%128%128=n by omega]at s1;exact sd s0 (sd s1 (sm (stop n 2)))
 rw[if_neg h2]at st stop ⊢;rw[if_pos (show n<=2097151 by omega)]at st stop ⊢;have s0:=st 0 0 (by simp) (by omega) (by omega)
 have s1:=st (n/16384) 1 (by simp) (by omega) (by omega);have s2:=st (n/128) 2 (by simp) (by omega) (by omega)
 simp only[getElem_cons_zero,getElem_cons_succ]at s0 s1 s2;rw[dT (by omega),show (0:Int)*128+(n/16384+128)%128=n/16384 by omega]at s0;rw[dT (by omega),show n/16384*128+(n/128%128+128)%128=n/128 by omega]at s1;rw[dF (by omega),show n/128*128+n%128%128=n by omega]at s2;exact sd s0 (sd s1 (sd s2 (sm (stop n 3))))
theorem Hh {b:List Int}:∀(o pre out:List Int),b=pre++sA o->(∀x∈o,0<=x/\x<=100000)->b.length<=30->out.length+o.length<=10->loop (λz:Int×List Int=>au b z.1 z.2) ((pre.length:Int),out)=some (.inl ((b.length:Int),out++o))
 | [],pre,out,e,_,hb,_=>by
  have hbl:b.length=pre.length:=by rw[e];simp[sA]
  refine sm ?_;show au b (pre.length:Int) out=_
  unfold au;rw[sv (by omega),cF,rG,cF,append_nil,hbl]
 | n::o,pre,out,e,hx,hb,hl=>by
  have e1:b=pre++(grp n++sA o):=by rw[e];rfl
  have e2:b=(pre++grp n)++sA o:=by rw[e1,append_assoc]
  rw[length_cons]at hl;have ih:=Hh o (pre++grp n) (out++[n]) e2 (λx h=>hx x (mem_cons_of_mem _ h)) hb (by simp;omega)
  rw[length_append,append_assoc]at ih;have hpl:pre.length<=30:=by rw[e1,length_append]at hb;omega
  have hg1:=Ih n;have hbl:b.length=pre.length+(grp n).length+(sA o).length:=by rw[e2,length_append,length_append]
  have hr:=Ph (pre:=pre) (rest:=sA o) (hx n (by simp)) (by omega);rw[←e1]at hr;refine sd ?_ ih;show au b (pre.length:Int) out=_
  unfold au;rw[sG (show (pre.length:Int)<(b.length:Int) by omega),cT,dT (show (out.length:Int)<=10 by omega),rG,cT,hr,rG];have hx':=hx n (by simp)
  simp only[cF];rw[LI (by omega),rG,rG];simp only[bne_self_eq_false,cF];rw[rP (by simp;omega),rG]
theorem Hi (a:List Int) (n:Int):sA (a++[n])=sA a++grp n:=by unfold sA;rw[flatMap_append];simp
theorem O3 {b:List Int} (hb:tT b) (hn:b.length<=M):∃v,loop (λz:Int×List Int=>au b z.1 z.2) (0,[])=some v/\(v=.inr (false,[])\/∃out s,v=.inl (((sA out).length:Int),out)/\b=sA out++s/\out.length<=11):=by
 have hn':b.length<=1048576:=hn;exact se (step:=λz:Int×List Int=>au b z.1 z.2) (λk z=>z.2.length=k/\z.1=((sA z.2).length:Int)/\∃s,b=sA z.2++s) 11 (λv=>v=.inr (false,[])\/∃out s,v=.inl (((sA out).length:Int),out)/\b=sA out++s/\out.length<=11)
  (λk z hk ⟨z1,z2,s,z3⟩=>by
   obtain⟨i,out⟩:=z;simp only at z1 z2 z3;subst z2;have hbl:b.length=(sA out).length+s.length:=by rw[←length_append,←z3]
   by_cases hlt:((sA out).length:Int)<(b.length:Int)
   · obtain⟨d,d1,d2,d3,d4,d5,d6⟩:=Pg z3 hb hn;have hs:au b ((sA out).length:Int) out=(cond d.2.2.2 (some true) ((dU d.2.1).bind λt51=>some ((t51.length:Int) != d.2.2.1))).bind λt55=>cond t55 (some (.inr (.inr (false,([]:List Int))))) ((sf out [d.2.1]).bind λzs60=>some (.inl (d.1,zs60))):=by
      unfold au;rw[sG hlt,cT,dT (show (out.length:Int)<=10 by omega),rG,cT,d1,rG]
     show (∃y,au b ((sA out).length:Int) out=some (.inl y)/\_)\/∃v,au b ((sA out).length:Int) out=some (.inr v)/\_;rw[hs];rcases d2 with d2|⟨l,rest,q1,q2,q3,q4,q5,q6⟩
     · rw[d2];exact .inr ⟨_,rfl,.inl rfl⟩
     · have qb:d.2.2.2=false:=by rw[q3]
       have ql:d.2.2.1=(l.length:Int):=by rw[q3]
       have qa:d.1=(((sA out).length+l.length:Nat):Int):=by rw[q3]
       rw[qb,cF,LI ⟨q4,q5⟩,rG,rG,ql];cases hne:(((grp d.2.1).length:Int) != (l.length:Int))with
       | true=>exact .inr ⟨_,rfl,.inl rfl⟩
       | false =>
        have he:((grp d.2.1).length:Int)=(l.length:Int):=by simpa using hne
        have hl:=q6 (by omega);refine .inl ⟨_,by rw[cF,rP (by simp;omega),rG],by simp;omega,?_,rest,?_⟩
        · show d.1=((sA (out++[d.2.1])).length:Int);rw[Hi,length_append,qa,←hl]
        · show b=sA (out++[d.2.1])++rest;rw[Hi,←hl,append_assoc,←q1];exact z3
   · refine .inr ⟨.inl (((sA out).length:Int),out),?_,.inr ⟨out,s,rfl,z3,by omega⟩⟩;show au b ((sA out).length:Int) out=_
     unfold au;rw[sv hlt];rfl)
  (λz ⟨z1,z2,s,z3⟩=>by
   obtain⟨i,out⟩:=z;simp only at z1 z2 z3;subst z2;refine⟨.inl (((sA out).length:Int),out),?_,.inr ⟨out,s,rfl,z3,by omega⟩⟩;show au b ((sA out).length:Int) out=_
   unfold au;by_cases hlt:((sA out).length:Int)<(b.length:Int)
   · rw[sG hlt,cT,dF (by omega)];rfl
   · rw[sv hlt];rfl) (x:=(0,[])) ⟨rfl,rfl,b,rfl⟩
theorem FU:∀{a b:List Int},tT a->tT b->tC a=tC b->a=b
 | [],[],_,_,_=>rfl
 | [],_::_,_,_,h=>by simp[tC]at h
 | _::_,[],_,_,h=>by simp[tC]at h
 | x::a,y::b,ha,hb,h=>by
  unfold tC at h;rw[map_cons,map_cons,List.cons.injEq]at h;have hx:=ha x (by simp)
  have hy:=hb y (by simp);have h1:=congrArg UInt8.toNat h.1
  rw[UInt8.toNat_ofNat_of_lt' (by show x.toNat<256;omega),UInt8.toNat_ofNat_of_lt' (by show y.toNat<256;omega)]at h1;rw[FU (λz hz=>ha z (mem_cons_of_mem _ hz)) (λz hz=>hb z (mem_cons_of_mem _ hz)) h.2,show x=y by omega]
theorem DR {o:List Int} (h:∀x∈o,0<=x/\x<=100000):tT (sA o):=by
 intro x hx;obtain⟨n,hn,hx⟩:=List.mem_flatMap.1 hx;have:=h n hn
 exact Ff (by omega) x hx
theorem Hj {o:List Int} (h:1<=o.length):1<=(sA o).length:=by
 cases o with
 | nil=>simp at h
 | cons n o =>
  have:=Ih n;unfold sA;rw[List.flatMap_cons,length_append];omega
theorem O4 {b:List Int} (hb:tT b) (hn:b.length<=M):∃v,loop (λz:Int×Int×List Int=>aw b z.1 z.2.1 z.2.2) (0,0,[])=some v/\(v=.inr (false,[])\/∃out,v=.inl out/\out.length<=M):=by
 have hn':b.length<=1048576:=hn;exact se (step:=λz:Int×Int×List Int=>aw b z.1 z.2.1 z.2.2) (λk z=>z.2.1=(k:Int)/\0<=z.1/\z.2.2.length<=k) b.length (λv=>v=.inr (false,[])\/∃out,v=.inl out/\out.length<=M)
  (λk z hk ⟨z1,z2,z3⟩=>by
   obtain⟨n,i,out⟩:=z;simp only at z1 z2 z3;subst z1;have hx:=hb _ (getElem_mem hk)
   have hm:0<=min2 n 1048576/\min2 n 1048576<=1048576:=by unfold min2;split<;>omega
   show (∃y,aw b n (k:Int) out=some (.inl y)/\_)\/∃v,aw b n (k:Int) out=some (.inr v)/\_;unfold aw;rw[sG (by omega),cT,sa hk,rG];by_cases h40:(k:Int)>=40
   · rw[dT h40];exact .inr ⟨_,rfl,.inl rfl⟩
   rw[dF h40,cF,BY hx,Jp (by omega) (by omega),rW (by omega)];simp only;by_cases h:b[k]<128
   · rw[dT h,cT,rP (by simp;omega),rG];exact .inl ⟨_,rfl,rfl,by show (0:Int)<=0;omega,by simp;omega⟩
   · rw[dF h,cF];exact .inl ⟨_,rfl,rfl,by show 0<=min2 n 1048576*128+b[k]%128;omega,by show out.length<=k+1;omega⟩)
  (λz ⟨z1,z2,z3⟩=>by
   obtain⟨n,i,out⟩:=z;simp only at z1 z2 z3;subst z1;refine⟨.inl out,?_,.inr ⟨out,rfl,by show _<=1048576;omega⟩⟩;show aw b n (b.length:Int) out=_
   unfold aw;rw[sv (by omega),cF]) (x:=(0,0,[])) ⟨rfl,by show (0:Int)<=0;omega,by simp⟩

theorem wS {o:List Int} (h:vd o=true):Qm o:=by
 unfold vd at h;rw[aT,Bool.not_eq_true']at h;have h1:=sE h.2
 refine⟨by omega,by omega,λx hx=>?_⟩;obtain⟨k,hk,rfl⟩:=List.getElem_of_mem hx;have:=any_eq_false.1 h.1 k (mem_range.2 hk)
 unfold Fm at this;simp only[List.getElem?_eq_getElem hk]at this;cases hp:rM o[k] 0 100000 with
 | true=>exact sE hp
 | false=>rw[hp]at this;exact absurd rfl this
theorem Dg {o:List Int} (hn:o.length<=M):cq o=some (cond (vd o) (sA o) []):=by
 obtain⟨v,h1,h2,h3⟩:=O2 hn;rw[C9 (by have:o.length<=1048576:=hn;omega)]at h1;cases h1;exact h3
theorem KC {b:List Int} (hb:tT b) (hn:b.length<=M):∃r,bS b=some r/\cf b=some r/\(r=([],false)\/∃o,r=(o,true)/\b=sA o/\vd o=true):=by
 have hn':b.length<=1048576:=hn;have both:∀o,vd o=true->b=sA o->bS b=some (o,true)/\cf b=some (o,true):=by
  intro o ho e;obtain⟨o1,o2,o3⟩:=wS ho;have hbl:b.length<=30:=by rw[e];have:=xN (o:=o) λx hx=>(o3 x hx).2;omega
  have hpos:=Hj o1;constructor
  · unfold bS;have:=Hg (b:=b) o [] [] (by rw[e];rfl) o3 hbl (by simp;omega)
    simp only[List.length_nil,Int.natCast_zero,nil_append]at this;have this':loop (λz:Int×Int×List Int=>aw b z.1 z.2.1 z.2.2) (0,0,[])=some (.inl o):=this
    rw[this',rG,Sum.elim_inl,Dg (by show _<=1048576;omega),rG,ho,cT,←e,beq_eq_false_iff_ne.2 (show ((b.length:Int))≠0 by rw[e];omega),cF,beq_self_eq_true];rfl
  · unfold cf;have:=Hh (b:=b) o [] [] (by rw[e];rfl) o3 hbl (by simp;omega)
    simp only[List.length_nil,nil_append]at this;have this':loop (λz:Int×List Int=>au b z.1 z.2) (0,[])=some (.inl ((b.length:Int),o)):=this
    rw[this',rG,Sum.elim_inl];simp only[bne_self_eq_false,cF];rw[Hz,C9 (by omega),rG,ho];rfl
 obtain⟨v,v1,v2⟩:=O3 hb hn;have sp:cf b=some ([],false)\/∃o,vd o=true/\b=sA o:=by
  unfold cf;rw[v1,rG];rcases v2 with rfl|⟨out,s,rfl,q1,q2⟩
  · exact .inl rfl
  · simp only[Sum.elim_inl];cases hne:(((sA out).length:Int) != (b.length:Int))with
    | true=>exact .inl rfl
    | false =>
     rw[cF,Hz,C9 (by omega),rG];cases ho:vd out with
     | false=>exact .inl rfl
     | true =>
      have he:((sA out).length:Int)=(b.length:Int):=by simpa using hne
      have:s=[]:=by
       have:=congrArg List.length q1;rw[length_append]at this;exact length_eq_zero_iff.1 (by omega)
      subst this;exact .inr ⟨out,ho,by rw[q1,append_nil]⟩
 rcases sp with sp|⟨o,ho,e⟩
 · obtain⟨u,u1,u2⟩:=O4 hb hn;have im:bS b=some ([],false)\/∃o,vd o=true/\b=sA o:=by
    unfold bS;rw[u1,rG];rcases u2 with rfl|⟨out,rfl,hl⟩
    · exact .inl rfl
    · rw[Sum.elim_inl,Dg hl,rG];cases ho:vd out with
      | false=>exact .inl rfl
      | true =>
       obtain⟨o1,o2,o3⟩:=wS ho;have hpos:=Hj o1
       rw[cT,beq_eq_false_iff_ne.2 (show (((sA out).length:Int))≠0 by omega),cF];cases hq:(tC (sA out)==tC b)with
       | false=>exact .inl rfl
       | true=>exact .inr ⟨out,ho,(FU (DR o3) hb (eq_of_beq hq)).symm⟩
   rcases im with im|⟨o,ho,e⟩
   · exact⟨_,im,sp,.inl rfl⟩
   · obtain⟨b1,b2⟩:=both o ho e;exact⟨_,b1,b2,.inr ⟨o,rfl,e,ho⟩⟩
 · obtain⟨b1,b2⟩:=both o ho e;exact⟨_,b1,b2,.inr ⟨o,rfl,e,ho⟩⟩

theorem EA:∀{b:List Int},tT b->uF (tC b)=b
 | [],_=>rfl
 | x::b,h=>by
  have hx:=h x (by simp);have ih:=EA (b:=b) λy hy=>h y (mem_cons_of_mem _ hy)
  unfold uF tC at ih ⊢;rw[map_cons,map_cons,ih]
  congr 1
  show ((UInt8.ofNat x.toNat).toNat:Int)=x;rw[UInt8.toNat_ofNat_of_lt' (by show x.toNat<256;omega)];omega
def um (v:vl):List Int:=cond (v.1==2) (tA v.2.1) (cond (v.1==4) (uF v.2.2.1) (cond (v.1==6) (sA v.2.2.2) []))
theorem Fg {o:List Int} (h:vd o=true):o.length<=10:=(wS h).2.1
theorem O5 {b:List Int} (hb:tT b) (hn:b.length<=M) {i:Int} (hi:-9223372036854775808<=i/\i<=9223372036854775807):∃r,fE b i=some r/\ga b i=some r/\(r=((0,0,[],[]),0,false)\/∃v next,r=(v,next,true)/\vz v=true/\xQ b i v.1 (um v) next):=by
 have hM:M=1048576:=rfl;obtain⟨r,r1,r2,r3⟩:=ER hb hn hi;unfold fE ga;rw[r1,r2,rG,rG];have hrl:r.2.1.length<=250/\tT r.2.1:=by
  rcases r3 with rfl|⟨t,body,next,rfl,h⟩
  · exact⟨by simp,λx hx=>by simp at hx⟩
  · exact⟨h.n,h.b⟩
 have hlM:r.2.1.length<=M:=by omega
 rcases r3 with rfl|⟨t,body,next,rfl,h⟩
 · exact⟨_,rfl,rfl,.inl rfl⟩
 simp only at hrl hlM;simp only[Bool.not_true,cF];by_cases t2:t=2
 · subst t2;obtain⟨g,g1,g2,g3⟩:=KB hrl.2 hlM;simp only[show ((2:Int)==2)=true from rfl,cT,g1,g2,rG];rcases g3 with rfl|⟨n,rfl,q1,q2,q3⟩
   · exact⟨_,rfl,rfl,.inl rfl⟩
   · simp only[Bool.not_true,cF,rG,E2 (v:=(2,n,[],[])) (by simp),Fo (v:=(2,n,[],[])) (by simp)];cases hv:vz (2,n,[],[])with
     | false=>exact⟨_,rfl,rfl,.inl rfl⟩
     | true=>exact⟨_,rfl,rfl,.inr ⟨_,_,rfl,hv,by have:um (2,n,[],[])=body:=q1.symm;rw[this];exact h⟩⟩
 rw[beq_eq_false_iff_ne.2 t2];simp only[cF];by_cases t4:t=4
 · subst t4;simp only[show ((4:Int)==4)=true from rfl,cT,Bool.not_true,rG,cF,E2 (v:=(4,0,tC body,[])) (by simp),Fo (v:=(4,0,tC body,[])) (by simp)];cases hv:vz (4,0,tC body,[])with
   | false=>exact⟨_,rfl,rfl,.inl rfl⟩
   | true=>exact⟨_,rfl,rfl,.inr ⟨_,_,rfl,hv,by have:um (4,0,tC body,[])=body:=EA h.b;rw[this];exact h⟩⟩
 rw[beq_eq_false_iff_ne.2 t4];simp only[cF];by_cases t6:t=6
 · subst t6;obtain⟨g,g1,g2,g3⟩:=KC hrl.2 hlM;simp only[show ((6:Int)==6)=true from rfl,cT,g1,g2,rG];rcases g3 with rfl|⟨o,rfl,q1,q2⟩
   · exact⟨_,rfl,rfl,.inl rfl⟩
   · have ol:=Fg q2;simp only[Bool.not_true,cF,rG,E2 (v:=(6,0,[],o)) (by show o.length<=M;omega),Fo (v:=(6,0,[],o)) (by show o.length<=M;omega)];cases hv:vz (6,0,[],o)with
     | false=>exact⟨_,rfl,rfl,.inl rfl⟩
     | true=>exact⟨_,rfl,rfl,.inr ⟨_,_,rfl,hv,by have:um (6,0,[],o)=body:=q1.symm;rw[this];exact h⟩⟩
 rw[beq_eq_false_iff_ne.2 t6];simp only[cF];cases hz:((body.length:Int)==0)with
 | false=>exact⟨_,rfl,rfl,.inl rfl⟩
 | true =>
  have hb0:body=[]:=length_eq_zero_iff.1 (by have:(body.length:Int)=0:=eq_of_beq hz;omega);simp only[Bool.not_true,cF,rG,E2 (v:=(t,0,[],[])) (by simp),Fo (v:=(t,0,[],[])) (by simp)];cases hv:vz (t,0,[],[])with
  | false=>exact⟨_,rfl,rfl,.inl rfl⟩
  | true =>
   refine⟨_,rfl,rfl,.inr ⟨_,_,rfl,hv,?_⟩⟩;have:um (t,0,[],[])=body:=by
    unfold um;simp only[beq_eq_false_iff_ne.2 t2,beq_eq_false_iff_ne.2 t4,beq_eq_false_iff_ne.2 t6,cF];exact hb0.symm
   rw[this];exact h
theorem Pi {r:ul} (hb:tT r.1) (hn:r.1.length<=M) (hi:-9223372036854775808<=r.2.1/\r.2.1<=9223372036854775807) (tag:Int):∃d,bv r tag=some d/\bJ r tag=some d/\d.1.1=r.1/\(d.1.2.2=true->d.2=[])/\(r.2.2=true->d.1.2.2=true)/\(d.1.2.2=false->r.2.2=false/\xQ r.1 r.2.1 tag d.2 d.1.2.1)/\(d.1.2.2=true->d.1.2.1=r.2.1):=by
 obtain⟨g,g1,g2,g3⟩:=ER hb hn hi;unfold bv bJ;rw[g1,g2,rG];rcases g3 with rfl|⟨t,body,next,rfl,h⟩
 · cases hr:r.2.2 with
   | true=>exact⟨_,rfl,rfl,rfl,λ_=>rfl,λ_=>rfl,λe=>(by cases e),λ_=>rfl⟩
   | false=>exact⟨_,rfl,rfl,rfl,λ_=>rfl,λ_=>rfl,λe=>(by cases e),λ_=>rfl⟩
 · cases hr:r.2.2 with
   | true=>exact⟨_,rfl,rfl,rfl,λ_=>rfl,λ_=>rfl,λe=>(by cases e),λ_=>rfl⟩
   | false =>
    simp only[cF,Bool.not_true,rG];cases ht:(t != tag)with
    | true=>exact⟨_,rfl,rfl,rfl,λ_=>rfl,λ_=>rfl,λe=>(by cases e),λ_=>rfl⟩
    | false =>
     have:t=tag:=by simpa using ht
     subst this;exact⟨_,rfl,rfl,rfl,λe=>(by cases e),λe=>(by cases e),λ_=>⟨by first|rfl|trivial,h⟩,λe=>(by cases e)⟩

structure Aw (r:ul):Prop where
 b:tT r.1
 n:r.1.length<=M
 lo:0<=r.2.1
 hi:r.2.1<=(r.1.length:Int)
theorem xQ.next {b:List Int} {i t:Int} {body:List Int} {next:Int} (h:xQ b i t body next):0<=next/\next<=(b.length:Int):=by
 obtain⟨pre,rest,e1,e2,e3⟩:=h.ex;have:=congrArg List.length e1
 rw[length_append,length_append]at this;omega
theorem Aw.rg {r:ul} (h:Aw r):-9223372036854775808<=r.2.1/\r.2.1<=9223372036854775807:=by
 have h1:=h.lo;have h2:=h.hi
 have h3:r.1.length<=1048576:=h.n;omega
theorem y8:tT []:=λx hx=>by simp at hx
theorem Dh {r:ul} (h:Aw r) (tag:Int):∃d,bv r tag=some d/\bJ r tag=some d/\Aw d.1/\d.1.1=r.1/\tT d.2/\d.2.length<=250/\(d.1.2.2=true->d.2=[])/\(r.2.2=true->d.1.2.2=true)/\(d.1.2.2=false->r.2.2=false/\xQ r.1 r.2.1 tag d.2 d.1.2.1):=by
 obtain⟨d,d1,d2,d3,d4,d5,d6,d7⟩:=Pi h.b h.n h.rg tag;refine⟨d,d1,d2,?_,d3,?_,?_,d4,d5,d6⟩
 · cases hb:d.1.2.2 with
   | true=>exact⟨by rw[d3];exact h.b,by rw[d3];exact h.n,by rw[d7 hb];exact h.lo,by rw[d7 hb,d3];exact h.hi⟩
   | false =>
    have:=(d6 hb).2.next
    exact⟨by rw[d3];exact h.b,by rw[d3];exact h.n,this.1,by rw[d3];exact this.2⟩
 · cases hb:d.1.2.2 with
   | true=>rw[d4 hb];exact y8
   | false=>exact (d6 hb).2.b
 · cases hb:d.1.2.2 with
   | true=>rw[d4 hb];simp
   | false=>exact (d6 hb).2.n
theorem Jq {r:ul} (h:Aw r):∃d,co r 2=some d/\cG r=some d/\Aw d.1/\d.1.1=r.1/\(r.2.2=true->d.1.2.2=true)/\(d.1.2.2=false->r.2.2=false/\xQ r.1 r.2.1 2 (tA d.2) d.1.2.1 /\ -2147483648<=d.2/\d.2<=2147483647):=by
 obtain⟨d,d1,d2,d3,d4,d5,d6,d7,d8,d9⟩:=Dh h 2;have hM:M=1048576:=rfl
 obtain⟨g,g1,g2,g3⟩:=KB d5 (by omega);unfold co cG;rw[d1,d2,rG,rG,g1,g2,rG];cases hb:d.1.2.2 with
 | true =>
  refine⟨_,rfl,rfl,⟨d3.b,d3.n,d3.lo,d3.hi⟩,d4,λ_=>rfl,λe=>(by cases e)⟩
 | false =>
  obtain⟨q1,q2⟩:=d9 hb;rcases g3 with rfl|⟨n,rfl,e,n1,n2⟩
  · exact⟨_,rfl,rfl,⟨d3.b,d3.n,d3.lo,d3.hi⟩,d4,λ_=>rfl,λe=>(by cases e)⟩
  · refine⟨_,rfl,rfl,⟨d3.b,d3.n,d3.lo,d3.hi⟩,d4,λe=>?_,λ_=>⟨q1,?_,n1,n2⟩⟩
    · rw[q1]at e;cases e
    · rw[←e];exact q2
theorem Mq {b:List Int} (hb:tT b) (hn:b.length<=M):∃r,fF b=some r/\gb b=some r/\(r=(([],0,0,[],[]),false)\/∃x,r=(x,true)/\vN x=true/\b=sL 6 (sA x.1)++sL x.2.1 (um x.2)):=by
 have hM:M=1048576:=rfl;have h0:Aw (b,0,false):=⟨hb,hn,by show (0:Int)<=0;omega,by show (0:Int)<=(b.length:Int);omega⟩
 obtain⟨d,d1,d2,d3,d4,d5,d6,d7,d8,d9⟩:=Dh h0 6;obtain⟨g,g1,g2,g3⟩:=KC d5 (by omega);obtain⟨v,v1,v2,v3⟩:=O5 hb hn d3.rg;unfold fF gb;simp only[d1,d2,g1,g2,v1,v2,rG];cases hbad:d.1.2.2 with
 | true=>exact⟨_,rfl,rfl,.inl rfl⟩
 | false =>
  simp only[cF,rG];obtain⟨_,hp⟩:=d9 hbad;rcases g3 with rfl|⟨o,rfl,go,ho⟩
  · exact⟨_,rfl,rfl,.inl rfl⟩
  simp only[Bool.not_true,cF,rG];rcases v3 with rfl|⟨w,next,rfl,hw,hp2⟩
  · exact⟨_,rfl,rfl,.inl rfl⟩
  simp only[Bool.not_true,cF,rG];cases hne:(next != (b.length:Int))with
  | true=>exact⟨_,rfl,rfl,.inl rfl⟩
  | false =>
   have hnx:next=(b.length:Int):=by simpa using hne
   refine⟨_,rfl,rfl,.inr ⟨(o,w),rfl,by unfold vN;rw[ho,hw];rfl,?_⟩⟩;obtain⟨p1,r1,e1,e2,e3⟩:=hp.ex;obtain⟨p2,r2,f1,f2,f3⟩:=hp2.ex;have hp1:p1=[]:=by
    have e2':(0:Int)=(p1.length:Int):=e2;exact length_eq_zero_iff.1 (by omega)
   subst hp1;have e1':b=sL 6 d.2++r1:=by simpa using e1
   have hl:p2.length=(sL 6 d.2).length:=by
    rw[e3]at f2;simp at f2;omega
   obtain⟨q1,q2⟩:=List.append_inj (f1.symm.trans e1') hl;have hr2:r2=[]:=by
    have:=congrArg List.length f1;rw[length_append,length_append]at this;exact length_eq_zero_iff.1 (by omega)
   show b=sL 6 (sA o)++sL w.1 (um w);rw[f1,q1,go,hr2,append_nil]

theorem vb (n:Int):(tA n).length<=4:=by unfold tA;split<;>(try split)<;>(try split)<;>simp
theorem tY (t:Int) {body:List Int}:(sL t body).length<=body.length+3:=by unfold sL;split<;>simp<;>omega
theorem Ax {v:vl} (h:vz v=true):(um v).length<=30/\rM v.1 0 255=true/\v.2.2.2.length<=10/\v.2.2.1.length<=20:=by
 obtain⟨k,n,s,o⟩:=v;have zP:∀{x:Int},0<=x->x<=255->rM x 0 255=true:=λh1 h2=>by unfold rM;rw[dT h1,dT h2];rfl
 unfold vz at h;simp only at h;unfold um;simp only;by_cases h1:(k==5||(k==128||k==130))=true
 · rw[h1,cT]at h;simp only[aT,beq_iff_eq]at h;simp only[Bool.or_eq_true,beq_iff_eq]at h1;obtain⟨_,rfl,ho⟩:=h;rcases h1 with rfl|rfl|rfl<;>exact⟨by simp,by decide,by omega,by simp⟩
 · have h1':(k==5||(k==128||k==130))=false:=by simpa using h1
   rw[h1',cF]at h;by_cases h2:k=2
   · subst h2;simp only[show ((2:Int)==2)=true from rfl,cT,aT,beq_iff_eq]at h ⊢;obtain⟨_,rfl,ho⟩:=h;have:=vb n
     exact⟨by omega,by decide,by omega,by simp⟩
   rw[beq_eq_false_iff_ne.2 h2,cF]at h ⊢;by_cases h4:k=4
   · subst h4;simp only[show ((4:Int)==4)=true from rfl,cT,aT,beq_iff_eq,decide_eq_true_eq]at h ⊢;obtain⟨h5,_,ho⟩:=h;exact⟨by unfold uF;rw[length_map];omega,by decide,by omega,by omega⟩
   rw[beq_eq_false_iff_ne.2 h4,cF]at h ⊢;by_cases h6:k=6
   · subst h6;simp only[show ((6:Int)==6)=true from rfl,cT,aT,beq_iff_eq]at h ⊢;obtain⟨ho,_,rfl⟩:=h;obtain⟨o1,o2,o3⟩:=wS ho;have:=xN (o:=o) λx hx=>(o3 x hx).2
     exact⟨by omega,by decide,by omega,by simp⟩
   · rw[beq_eq_false_iff_ne.2 h6,cF]at h;cases h
theorem O6 {b:List Int} (hb:b.length<=1000) {v:vl} (h:vz v=true):fH b v=some (b++sL v.1 (um v)):=by
 obtain⟨l1,l2,l3,l4⟩:=Ax h;have hM:M=1048576:=rfl
 have fin:∀body:List Int,um v=body->bj b v.1 body=some (b++sL v.1 (um v)):=λbody e=>by
  subst e;rw[HF _ hb (by omega),if_pos ⟨l2,by omega⟩]
 unfold fH;rw[E2 (by omega),h,rG];simp only[Bool.not_true,cF];by_cases h2:v.1=2
 · have e:um v=tA v.2.1:=by unfold um;rw[beq_iff_eq.2 h2];rfl
   have hr:-2147483648<=v.2.1/\v.2.1<=2147483647:=by
    unfold vz at h;rw[h2]at h;simp only[show ((2:Int)==5)=false from rfl,show ((2:Int)==128)=false from rfl,show ((2:Int)==130)=false from rfl,Bool.or_self,cF,show ((2:Int)==2)=true from rfl,cT,aT]at h;exact sE h.1
   rw[beq_iff_eq.2 h2,cT,HE (by omega),rG,y7 hr,fin _ e];rfl
 rw[beq_eq_false_iff_ne.2 h2,cF];by_cases h4:v.1=4
 · have e:um v=uF v.2.2.1:=by unfold um;rw[beq_eq_false_iff_ne.2 h2,beq_iff_eq.2 h4];rfl
   rw[beq_iff_eq.2 h4,cT,fin _ e];rfl
 rw[beq_eq_false_iff_ne.2 h4,cF];by_cases h6:v.1=6
 · have e:um v=sA v.2.2.2:=by unfold um;rw[beq_eq_false_iff_ne.2 h2,beq_eq_false_iff_ne.2 h4,beq_iff_eq.2 h6];rfl
   have ho:vd v.2.2.2=true:=by
    unfold vz at h;rw[h6]at h;simp only[show ((6:Int)==5)=false from rfl,show ((6:Int)==128)=false from rfl,show ((6:Int)==130)=false from rfl,Bool.or_self,cF,show ((6:Int)==2)=false from rfl,show ((6:Int)==4)=false from rfl,show ((6:Int)==6)=true from rfl,cT,aT]at h;exact h.1
   rw[beq_iff_eq.2 h6,cT,Dg (by omega),ho,cT,rG,fin _ e];rfl
 · have e:um v=[]:=by unfold um;rw[beq_eq_false_iff_ne.2 h2,beq_eq_false_iff_ne.2 h4,beq_eq_false_iff_ne.2 h6];rfl
   rw[beq_eq_false_iff_ne.2 h6,cF,fin _ e];rfl
def zM (x:rK):List Int:=sL 6 (sA x.1)++sL x.2.1 (um x.2)
def xx (x:rK):List Int:=sL 48 (zM x)
def sK (l:List rK):List Int:=l.flatMap xx
def wA (p:sj):List Int:=sL 2 (tA p.2.1)++sL 2 (tA p.2.2.1)++sL 2 (tA p.2.2.2.1)++sL 48 (sK p.2.2.2.2)
theorem ur {p:sj} (h:tZ p=true):(∀x∈p.2.2.2.2,vN x=true)/\p.2.2.2.2.length<=10/\rM p.1 0 255=true/\(-2147483648<=p.2.1/\p.2.1<=2147483647)/\(0<=p.2.2.1/\p.2.2.1<=1000)/\(0<=p.2.2.2.1/\p.2.2.2.1<=1000):=by
 obtain⟨k,id,a,b,l⟩:=p;unfold tZ at h;simp only[aT,Bool.not_eq_true',decide_eq_true_eq]at h;obtain⟨⟨h1,h2⟩,h3,h4⟩:=h;refine⟨λx hx=>?_,by show l.length<=10;omega,?_⟩
 · obtain⟨j,hj,rfl⟩:=List.getElem_of_mem hx;have hj':j<l.length:=hj
   have:=any_eq_false.1 h1 j (mem_range.2 hj');unfold bX at this;simp only[List.getElem?_eq_getElem hj']at this;simpa using this
 · have h4:=sE h4;by_cases c1:(k==162||k==165)=true
   · rw[c1,cT,aT]at h3;have q1:=sE h3.1
     have q2:=sE h3.2;simp only[Bool.or_eq_true,beq_iff_eq]at c1;refine⟨?_,h4,q1,q2⟩;rcases c1 with rfl|rfl<;>rfl
   · have c1':(k==162||k==165)=false:=by simpa using c1
     rw[c1',cF]at h3;by_cases c2:(k==160||(k==161||k==163))=true
     · rw[c2,cT,aT]at h3;simp only[beq_iff_eq]at h3;simp only[Bool.or_eq_true,beq_iff_eq]at c2;obtain⟨rfl,rfl⟩:=h3;refine⟨?_,h4,by show (0:Int)<=0/\(0:Int)<=1000;omega,by show (0:Int)<=0/\(0:Int)<=1000;omega⟩;rcases c2 with rfl|rfl|rfl<;>rfl
     · have c2':(k==160||(k==161||k==163))=false:=by simpa using c2
       rw[c2',cF]at h3;cases h3
theorem zH {x:rK} (h:vN x=true):(zM x).length<=100/\(xx x).length<=110:=by
 unfold vN at h;rw[aT]at h;obtain⟨l1,_⟩:=Ax h.2;obtain⟨o1,o2,o3⟩:=wS h.1;have h3:=xN (o:=x.1) λy hy=>(o3 y hy).2
 have h4:=tY 6 (body:=sA x.1);have h5:=tY x.2.1 (body:=um x.2)
 have h6:(zM x).length<=100:=by unfold zM;rw[length_append];omega
 have h7:=tY 48 (body:=zM x);exact⟨h6,by unfold xx;omega⟩
theorem Hk {b:List Int} (hb:b.length<=900) {n:Int} (hn:-2147483648<=n/\n<=2147483647):du b 2 n=some (b++sL 2 (tA n)):=by
 unfold du;have h4:=vb n
 rw[HE (by omega),rG,y7 hn,HF _ (by omega) (by show _<=1048576;omega),rG,if_pos ⟨by decide,by omega⟩]
theorem KD {p:sj} (hp:vM M p):ez p=some (if tZ p=true/\(sK p.2.2.2.2).length<=250/\(wA p).length<=250 then sL p.1 (wA p)else []):=by
 unfold ez;rw[Mg hp,rG];cases h:tZ p with
 | false=>rw[if_neg (by simp)];rfl
 | true =>
  obtain⟨h1,h2,h3,h4,h5,h6⟩:=ur h;have hl:∀k,(sK (p.2.2.2.2.take k)).length<=110*k:=by
   intro k
   induction k with
   | zero=>simp[sK]
   | succ k ih =>
    by_cases hk:k<p.2.2.2.2.length
    · have ht:sK (p.2.2.2.2.take (k+1))=sK (p.2.2.2.2.take k)++xx p.2.2.2.2[k]:=by
       unfold sK;rw[take_add_one,List.getElem?_eq_getElem hk,flatMap_append];simp
      have:=(zH (h1 _ (getElem_mem hk))).2;rw[ht,length_append];omega
    · rw[take_of_length_le (by omega)]at ih ⊢;omega
  obtain⟨b,e1,rfl⟩:=se (step:=λz:Int×List Int=>dv p z.1 z.2) (λk z=>z=((k:Int),sK (p.2.2.2.2.take k))) p.2.2.2.2.length (λb=>b=.inl (sK p.2.2.2.2))
   (λk z hk e=>by
    subst e;left;have hx:=h1 _ (getElem_mem hk)
    have hx':=hx;unfold vN at hx';rw[aT]at hx';obtain⟨o1,o2,o3⟩:=wS hx'.1;have hob:=xN (o:=p.2.2.2.2[k].1) λy hy=>(o3 y hy).2
    have hlk:=hl k;obtain⟨b1,b2⟩:=zH hx;have ht:sK (p.2.2.2.2.take (k+1))=sK (p.2.2.2.2.take k)++xx p.2.2.2.2[k]:=by
     unfold sK;rw[take_add_one,List.getElem?_eq_getElem hk,flatMap_append];simp
    have ht6:=tY 6 (body:=sA p.2.2.2.2[k].1);refine⟨_,?_,rfl⟩;show dv p (k:Int) (sK (p.2.2.2.2.take k))=_
    unfold dv;rw[sG (by omega),cT,sa hk,rG,Dg (by show _<=1048576;omega),hx'.1,cT,rG,HF _ (by simp) (by show _<=1048576;omega),if_pos ⟨by decide,by omega⟩,rG,nil_append,O6 (by omega) hx'.2,rG];have hone:sL 6 (sA p.2.2.2.2[k].1)++sL p.2.2.2.2[k].2.1 (um p.2.2.2.2[k].2)=zM p.2.2.2.2[k]:=rfl
    rw[hone,JZ _ (by show _<=1048576;omega),if_pos ⟨by decide,by omega⟩,rG];simp only[Bool.not_true,cF];have hbb:sL 48 (zM p.2.2.2.2[k])=xx p.2.2.2.2[k]:=rfl
    rw[hbb,rP (by omega),rG,rW (by omega),ht])
   (λz e=>by
    subst e;refine⟨_,?_,rfl⟩;show dv p (p.2.2.2.2.length:Int) (sK (p.2.2.2.2.take p.2.2.2.2.length))=_
    unfold dv;rw[sv (by omega),cF,take_length]) (x:=(0,[])) rfl
  have hal:(sK p.2.2.2.2).length<=1100:=by
   have:=hl p.2.2.2.2.length;rw[take_length]at this;omega
  rw[Bool.not_true,cF,e1,rG,Sum.elim_inl,JZ _ (by show _<=1048576;omega)];by_cases ha:(sK p.2.2.2.2).length<=250
  · rw[if_pos ⟨by decide,ha⟩,rG];simp only[Bool.not_true,cF];have t1:=tY 2 (body:=tA p.2.1)
    have t2:=tY 2 (body:=tA p.2.2.1);have t3:=tY 2 (body:=tA p.2.2.2.1)
    have t4:=tY 48 (body:=sK p.2.2.2.2);have i1:=vb p.2.1
    have i2:=vb p.2.2.1;have i3:=vb p.2.2.2.1
    rw[Hk (by simp) h4,rG,nil_append,Hk (by omega) ⟨by omega,by omega⟩,rG,Hk (by rw[length_append];omega) ⟨by omega,by omega⟩,rG,rP (by simp only[length_append];omega),rG];have hbody:sL 2 (tA p.2.1)++sL 2 (tA p.2.2.1)++sL 2 (tA p.2.2.2.1)++sL 48 (sK p.2.2.2.2)=wA p:=rfl
    rw[hbody,JZ _ (by show _<=1048576;unfold wA;simp only[length_append];omega)];by_cases hb:(wA p).length<=250
    · rw[if_pos ⟨h3,hb⟩,if_pos ⟨by first|rfl|trivial,ha,hb⟩];rfl
    · rw[if_neg (λe=>hb e.2),if_neg (λe=>hb e.2.2)];rfl
  · rw[if_neg (λe=>ha e.2),if_neg (λe=>ha e.2.1)];rfl

theorem xQ.cons {b P s:List Int} {i t:Int} {x:List Int} {next:Int} (h:xQ b i t x next) (e:b=P++s) (hi:i=(P.length:Int)):∃s',b=(P++sL t x)++s'/\next=((P++sL t x).length:Int):=by
 obtain⟨pre,rest,e1,e2,e3⟩:=h.ex;have hl:pre.length=P.length:=by omega
 obtain⟨q1,q2⟩:=List.append_inj (e1.symm.trans e) hl;subst q1;exact⟨rest,by rw[e1,append_assoc],by rw[e3,length_append]⟩
theorem Hl (t:Int) (b:List Int):1<=(sL t b).length:=by unfold sL;simp
theorem uR {x:rK} (h:vN x=true):CS M x:=by
 unfold vN at h;rw[aT]at h;obtain⟨_,_,l3,l4⟩:=Ax h.2;have:=Fg h.1
 have hM:M=1048576:=rfl;exact⟨by omega,by omega,by omega⟩
theorem LK (l:List rK) (x:rK):sK (l++[x])=sK l++xx x:=by unfold sK;rw[flatMap_append];simp
noncomputable abbrev Mr (K I A B:Int) (c:List Int) (i:Int) (l:List rK):=loop (λz:Int×Int×Int×Int×Int×Int×Int×Int×List Int×Int×Bool×List rK×List rK=>aC z.1 z.2.1 z.2.2.1 z.2.2.2.1 z.2.2.2.2.1 z.2.2.2.2.2.1 z.2.2.2.2.2.2.1 z.2.2.2.2.2.2.2.1 z.2.2.2.2.2.2.2.2.1 z.2.2.2.2.2.2.2.2.2.1 z.2.2.2.2.2.2.2.2.2.2.1 z.2.2.2.2.2.2.2.2.2.2.2.1 z.2.2.2.2.2.2.2.2.2.2.2.2) (0,0,0,0,K,I,A,B,c,i,false,[],l)
noncomputable abbrev Gk (r:ul) (K I A B:Int) (c:List Int) (i:Int) (l:List rK):=loop (λz:List Int×Int×Bool×Int×Int×Int×Int×List Int×Int×Bool×List rK=>av z.1 z.2.1 z.2.2.1 z.2.2.2.1 z.2.2.2.2.1 z.2.2.2.2.2.1 z.2.2.2.2.2.2.1 z.2.2.2.2.2.2.2.1 z.2.2.2.2.2.2.2.2.1 z.2.2.2.2.2.2.2.2.2.1 z.2.2.2.2.2.2.2.2.2.2) (r.1,r.2.1,r.2.2,K,I,A,B,c,i,false,l)
theorem O7 (r:ul) (hr:r.2.2=false) (K I A B:Int) {c:List Int} (hc:tT c) (hn:c.length<=M):∀(n:Nat) (l:List rK) (s:List Int),n+l.length=10->c=sK l++s->(∀x∈l,vN x=true) ->
 (Mr K I A B c ((sK l).length:Int) l=some (.inr (false,0,0,0,0,[]))/\∃d,Gk r K I A B c ((sK l).length:Int) l=some d/\(d.2.2.1=true\/d.2.2.2.2.2.2.2.2.2.2.length=11)/\d.2.1=r.2.1/\zO M d.2.2.2.2.2.2.2.2.2.2) \/
 (∃l',c=sK l'/\(∀x∈l',vN x=true)/\l'.length<=10/\Mr K I A B c ((sK l).length:Int) l=some (.inl (0,0,0,0,K,I,A,B,c,(c.length:Int),false,[],l'))/\Gk r K I A B c ((sK l).length:Int) l=some (r.1,r.2.1,false,K,I,A,B,c,(c.length:Int),false,l')):=by
 have hM:M=1048576:=rfl;intro n
 induction n with
 | zero =>
  intro l s hl e hx;have hcl:c.length=(sK l).length+s.length:=by rw[e,length_append]
  by_cases hlt:((sK l).length:Int)<(c.length:Int)
  · have h0:Aw (c,((sK l).length:Int),false):=⟨hc,hn,by show (0:Int)<=((sK l).length:Int);omega,by show ((sK l).length:Int)<=(c.length:Int);omega⟩;obtain⟨d,d1,d2,d3,d4,d5,d6,d7,d8,d9⟩:=Dh h0 48;obtain⟨g,g1,g2,g3⟩:=Mq d5 (by omega);have hs:av r.1 r.2.1 r.2.2 K I A B c ((sK l).length:Int) false l=some (.inl (r.1,r.2.1,cond d.1.2.2 true (!g.2),K,I,A,B,d.1.1,d.1.2.1,d.1.2.2,l++[g.1])):=by
     unfold av;rw[hr];simp only[Bool.not_false,cT,sG hlt,rG,dT (show (l.length:Int)<=10 by omega),d1,d2,g2];rw[show (cond d.1.2.2 (some true) (some (!g.2)))=some (cond d.1.2.2 true (!g.2)) by cases d.1.2.2<;>rfl,rG,rP (by show l.length+1<=_;omega),rG]
    have hs2:∀(bd:Bool) (c':List Int) (i':Int) (qb:Bool) (l':List rK),(bd=true\/l'.length=11)->av r.1 r.2.1 bd K I A B c' i' qb l'=some (.inr (r.1,r.2.1,bd,K,I,A,B,c',i',qb,l')):=by
     intro bd c' i' qb l' h;unfold av;rcases h with rfl|h
     · rfl
     · rw[dF (show ¬(l'.length:Int)<=10 by omega)];cases bd with
       | true=>rfl
       | false=>cases h1:decide (i'<(c'.length:Int))<;>simp
    left;refine⟨sm ?_,_,sd hs (sm (hs2 _ _ _ _ _ (.inr (by rw[length_append];show l.length+1=11;omega)))),.inr (by show (l++[g.1]).length=11;rw[length_append];show l.length+1=11;omega),rfl,?_⟩
    · show aC 0 0 0 0 K I A B c ((sK l).length:Int) false [] l=_;unfold aC;simp only[sG hlt,cT,d1,g1,rG,dT (show (l.length:Int)>=10 by omega)];cases g.2<;>rfl
    · refine⟨by show (l++[g.1]).length<=1048576;rw[length_append];show l.length+1<=_;omega,λx hx'=>?_⟩;rcases mem_append.1 hx' with h|h
      · exact uR (hx x h)
      · rw[mem_singleton]at h;subst h;rcases g3 with rfl|⟨x,rfl,q,_⟩
        · exact⟨by show 0<=1048576;decide,by show 0<=1048576;decide,by show 0<=1048576;decide⟩
        · exact uR q
  · have hs0:s=[]:=length_eq_zero_iff.1 (by omega);subst hs0;rw[append_nil]at e;right;refine⟨l,e,hx,by omega,sm ?_,sm ?_⟩
    · show aC 0 0 0 0 K I A B c ((sK l).length:Int) false [] l=_;unfold aC;rw[sv hlt,cF,e]
    · show av r.1 r.2.1 r.2.2 K I A B c ((sK l).length:Int) false l=_;unfold av;rw[hr,sv hlt,e];rfl
 | succ n ih =>
  intro l s hl e hx;have hcl:c.length=(sK l).length+s.length:=by rw[e,length_append]
  by_cases hlt:((sK l).length:Int)<(c.length:Int)
  · have h0:Aw (c,((sK l).length:Int),false):=⟨hc,hn,by show (0:Int)<=((sK l).length:Int);omega,by show ((sK l).length:Int)<=(c.length:Int);omega⟩;obtain⟨d,d1,d2,d3,d4,d5,d6,d7,d8,d9⟩:=Dh h0 48;obtain⟨g,g1,g2,g3⟩:=Mq d5 (by omega);have hs:av r.1 r.2.1 r.2.2 K I A B c ((sK l).length:Int) false l=some (.inl (r.1,r.2.1,cond d.1.2.2 true (!g.2),K,I,A,B,d.1.1,d.1.2.1,d.1.2.2,l++[g.1])):=by
     unfold av;rw[hr];simp only[Bool.not_false,cT,sG hlt,rG,dT (show (l.length:Int)<=10 by omega),d1,d2,g2];rw[show (cond d.1.2.2 (some true) (some (!g.2)))=some (cond d.1.2.2 true (!g.2)) by cases d.1.2.2<;>rfl,rG,rP (by show l.length+1<=_;omega),rG]
    rcases g3 with rfl|⟨x,rfl,hxo,hxe⟩
    · left;have hbd:(cond d.1.2.2 true (!false))=true:=by cases d.1.2.2<;>rfl
      refine⟨sm ?_,_,sd hs (sm (b:=(r.1,r.2.1,true,K,I,A,B,d.1.1,d.1.2.1,d.1.2.2,l++[([],0,0,[],[])])) ?_),.inl rfl,rfl,?_⟩
      · show aC 0 0 0 0 K I A B c ((sK l).length:Int) false [] l=_;unfold aC;simp only[sG hlt,cT,d1,g1,rG];rfl
      · show av r.1 r.2.1 (cond d.1.2.2 true (!false)) K I A B d.1.1 d.1.2.1 d.1.2.2 (l++[([],0,0,[],[])])=_;rw[hbd];rfl
      · refine⟨by show (l++[_]).length<=1048576;rw[length_append];show l.length+1<=_;omega,λy hy=>?_⟩;rcases mem_append.1 hy with h|h
        · exact uR (hx y h)
        · rw[mem_singleton]at h;subst h;exact⟨by show 0<=1048576;decide,by show 0<=1048576;decide,by show 0<=1048576;decide⟩
    · have hbad:d.1.2.2=false:=by
       cases hb:d.1.2.2 with
       | false=>rfl
       | true =>
        rw[d7 hb]at hxe;have:=congrArg List.length hxe
        have h1:=Hl 6 (sA x.1);rw[length_append]at this;simp at this;omega
      obtain⟨_,hp⟩:=d9 hbad;obtain⟨s',e1,e2⟩:=hp.cons (P:=sK l) (s:=s) e rfl;have hb:sL 48 d.2=xx x:=by unfold xx zM;rw[←hxe]
      rw[hb,←LK]at e1 e2;have hdc:d.1.1=c:=d4
      have:=ih (l++[x]) s' (by rw[length_append];show n+(l.length+1)=10;omega) e1 (λy hy=>by
       rcases mem_append.1 hy with h|h
       · exact hx y h
       · rw[mem_singleton]at h;subst h;exact hxo)
      have hi:aC 0 0 0 0 K I A B c ((sK l).length:Int) false [] l=some (.inl (0,0,0,0,K,I,A,B,c,((sK (l++[x])).length:Int),false,[],l++[x])):=by
       unfold aC;simp only[sG hlt,cT,d1,g1,rG,dF (show ¬(l.length:Int)>=10 by omega),Bool.not_true,cF];rw[rP (by show l.length+1<=_;omega),rG,hdc,hbad,e2]
      have hs':av r.1 r.2.1 r.2.2 K I A B c ((sK l).length:Int) false l=some (.inl (r.1,r.2.1,r.2.2,K,I,A,B,c,((sK (l++[x])).length:Int),false,l++[x])):=by
       rw[hs,hdc,hbad,e2,hr];rfl
      rcases this with ⟨i1,dd,i2,i3⟩|⟨l',q1,q2,q3,i1,i2⟩
      · exact .inl ⟨sd hi i1,dd,sd hs' i2,i3⟩
      · exact .inr ⟨l',q1,q2,q3,sd hi i1,sd hs' i2⟩
  · have hs0:s=[]:=length_eq_zero_iff.1 (by omega);subst hs0;rw[append_nil]at e;right;refine⟨l,e,hx,by omega,sm ?_,sm ?_⟩
    · show aC 0 0 0 0 K I A B c ((sK l).length:Int) false [] l=_;unfold aC;rw[sv hlt,cF,e]
    · show av r.1 r.2.1 r.2.2 K I A B c ((sK l).length:Int) false l=_;unfold av;rw[hr,sv hlt,e];rfl

theorem Qn (r:ul) (hr:r.2.2=true) (K I A B:Int) (c:List Int):Gk r K I A B c 0 []=some (r.1,r.2.1,true,K,I,A,B,c,0,false,[]):=by
 refine sm ?_;show av r.1 r.2.1 r.2.2 K I A B c 0 false []=_
 unfold av;rw[hr];rfl
theorem vM.of {p:sj} (h:∀x∈p.2.2.2.2,vN x=true) (h2:p.2.2.2.2.length<=11):vM M p:=⟨by show _<=1048576;omega,λx hx=>uR (h x hx)⟩
theorem O8 {b:List Int} (hb:tT b) (hn:b.length<=M):∃r,fJ b=some r/\gd b=some r/\(r=((0,0,0,0,[]),false)\/∃p,r=(p,true)/\tZ p=true/\vM M p):=by
 have hM:M=1048576:=rfl;obtain⟨t,t1,t2,t3⟩:=ER hb hn (i:=0) (by omega);have htb:t.2.1.length<=250/\tT t.2.1:=by
  rcases t3 with rfl|⟨k,body,next,rfl,h⟩
  · exact⟨by simp,y8⟩
  · exact⟨h.n,h.b⟩
 have h0:Aw (t.2.1,0,false):=⟨htb.2,by show t.2.1.length<=M;omega,by show (0:Int)<=0;omega,by show (0:Int)<=(t.2.1.length:Int);omega⟩;obtain⟨d1,a1,b1,c1,e1,f1,g1⟩:=Jq h0;obtain⟨d2,a2,b2,c2,e2,f2,g2⟩:=Jq c1;obtain⟨d3,a3,b3,c3,e3,f3,g3⟩:=Jq c2;obtain⟨d4,a4,b4,c4,e4,m4,n4,k4,f4,g4⟩:=Dh c3 48;unfold fJ gd;simp only[t1,t2,a1,b1,a2,b2,a3,b3,a4,b4,rG];have sp:∃d,Gk d4.1 t.1 d1.2 d2.2 d3.2 d4.2 0 []=some d/\d.2.1=d4.1.2.1/\(d4.1.2.2=true->d.2.2.1=true)/\zO M d.2.2.2.2.2.2.2.2.2.2:=by
  cases hbad:d4.1.2.2 with
  | true=>exact⟨_,Qn d4.1 hbad _ _ _ _ _,rfl,λ_=>rfl,⟨by show 0<=1048576;decide,λx hx=>by simp at hx⟩⟩
  | false =>
   rcases O7 d4.1 hbad t.1 d1.2 d2.2 d3.2 m4 (by omega) 10 [] d4.2 rfl rfl (by simp)with ⟨_,d,q1,_,q3,q4⟩|⟨l',q1,q2,q3,_,q4⟩
   · exact⟨d,q1,q3,λe=>(by cases e),q4⟩
   · exact⟨_,q4,rfl,λe=>(by cases e),⟨by show l'.length<=1048576;omega,λx hx=>uR (q2 x hx)⟩⟩
 obtain⟨d,s1,s2,s3,s4⟩:=sp;have s1':loop (λz:List Int×Int×Bool×Int×Int×Int×Int×List Int×Int×Bool×List rK=>av z.1 z.2.1 z.2.2.1 z.2.2.2.1 z.2.2.2.2.1 z.2.2.2.2.2.1 z.2.2.2.2.2.2.1 z.2.2.2.2.2.2.2.1 z.2.2.2.2.2.2.2.2.1 z.2.2.2.2.2.2.2.2.2.1 z.2.2.2.2.2.2.2.2.2.2) (d4.1.1,d4.1.2.1,d4.1.2.2,t.1,d1.2,d2.2,d3.2,d4.2,0,false,[])=some d:=s1
 rw[s1',rG];have pd:bI (d.2.2.2.1,d.2.2.2.2.1,d.2.2.2.2.2.1,d.2.2.2.2.2.2.1,d.2.2.2.2.2.2.2.2.2.2)=some (tZ (d.2.2.2.1,d.2.2.2.2.1,d.2.2.2.2.2.1,d.2.2.2.2.2.2.1,d.2.2.2.2.2.2.2.2.2.2)):=JO (p:=(d.2.2.2.1,d.2.2.2.2.1,d.2.2.2.2.2.1,d.2.2.2.2.2.2.1,d.2.2.2.2.2.2.2.2.2.2)) s4
 simp only[pd,rG];cases hok:t.2.2.2 with
 | false=>exact⟨_,rfl,rfl,.inl rfl⟩
 | true =>
 simp only[Bool.not_true,cF,rG];cases hnx:(t.2.2.1 != (b.length:Int))with
 | true=>exact⟨_,rfl,rfl,.inl rfl⟩
 | false =>
 simp only[cF,rG];unfold gE;cases hbad:d4.1.2.2 with
 | true =>
  rw[s3 hbad];exact⟨_,rfl,rfl,.inl rfl⟩
 | false =>
 simp only[Bool.not_false,cT,rG];have hlen:d4.1.1=t.2.1:=by rw[e4,e3,e2,e1]
 rw[s2,hlen];cases hat:(d4.1.2.1==(t.2.1.length:Int))with
 | false =>
  have:(d4.1.2.1 != (t.2.1.length:Int))=true:=by rw[bne,hat];rfl
  rw[this];refine⟨((0,0,0,0,[]),false),rfl,?_,.inl rfl⟩;cases d.2.2.1<;>rfl
 | true =>
 have hat':(d4.1.2.1 != (t.2.1.length:Int))=false:=by rw[bne,hat];rfl
 rw[hat'];simp only[Bool.not_true,cF];obtain⟨x3,p4⟩:=g4 hbad;obtain⟨x2,p3,i3⟩:=g3 x3;obtain⟨x1,p2,i2⟩:=g2 x2;obtain⟨_,p1,i1⟩:=g1 x1;rcases t3 with rfl|⟨k,body,next,rfl,hp⟩
 · cases hok
 simp only at p1 hat hnx hlen;have p1':xQ body 0 2 (tA d1.2) d1.1.2.1:=p1
 have p2':xQ body d1.1.2.1 2 (tA d2.2) d2.1.2.1:=by rw[e1]at p2;exact p2
 have p3':xQ body d2.1.2.1 2 (tA d3.2) d3.1.2.1:=by rw[e2,e1]at p3;exact p3
 have p4':xQ body d3.1.2.1 48 d4.2 d4.1.2.1:=by rw[e3,e2,e1]at p4;exact p4
 obtain⟨s1x,y1,z1⟩:=p1'.cons (P:=[]) (s:=body) rfl rfl;obtain⟨s2x,y2,z2⟩:=p2'.cons y1 z1;obtain⟨s3x,y3,z3⟩:=p3'.cons y2 z2;obtain⟨s4x,y4,z4⟩:=p4'.cons y3 z3;have hs4:s4x=[]:=by
  have h1:=congrArg List.length y4;rw[length_append]at h1;have h2:d4.1.2.1=(body.length:Int):=eq_of_beq hat
  exact length_eq_zero_iff.1 (by omega)
 subst hs4;rw[append_nil,nil_append]at y4;obtain⟨u1,u2,u3⟩:∃rest,b=sL k body++rest/\rest=[]:=by
  obtain⟨s',w1,w2⟩:=hp.cons (P:=[]) (s:=b) rfl rfl;refine⟨s',by simpa using w1,?_⟩;have h1:=congrArg List.length w1
  rw[length_append]at h1;have h2:next=(b.length:Int):=by simpa using hnx
  exact length_eq_zero_iff.1 (by omega)
 subst u3;rw[append_nil]at u2;rcases O7 d4.1 hbad k d1.2 d2.2 d3.2 m4 (by omega) 10 [] d4.2 rfl rfl (by simp)with ⟨j1,dd,j2,j3,_,_⟩|⟨l',w1,w2,w3,j1,j2⟩
 · have hdd:dd=d:=by
    have:some dd=some d:=j2.symm.trans s1;exact Option.some.inj this
   subst hdd;have j1':loop (λz:Int×Int×Int×Int×Int×Int×Int×Int×List Int×Int×Bool×List rK×List rK=>aC z.1 z.2.1 z.2.2.1 z.2.2.2.1 z.2.2.2.2.1 z.2.2.2.2.2.1 z.2.2.2.2.2.2.1 z.2.2.2.2.2.2.2.1 z.2.2.2.2.2.2.2.2.1 z.2.2.2.2.2.2.2.2.2.1 z.2.2.2.2.2.2.2.2.2.2.1 z.2.2.2.2.2.2.2.2.2.2.2.1 z.2.2.2.2.2.2.2.2.2.2.2.2) (0,0,0,0,k,d1.2,d2.2,d3.2,d4.2,0,false,[],[])=some (.inr (false,0,0,0,0,[])):=j1
   rw[j1',rG,Sum.elim_inr];refine⟨((0,0,0,0,[]),false),rfl,?_,.inl rfl⟩;cases hd:dd.2.2.1 with
   | true=>rfl
   | false =>
    have h11:dd.2.2.2.2.2.2.2.2.2.2.length=11:=by
     rcases j3 with h|h
     · rw[hd]at h;cases h
     · exact h
    have hpf:tZ (dd.2.2.2.1,dd.2.2.2.2.1,dd.2.2.2.2.2.1,dd.2.2.2.2.2.2.1,dd.2.2.2.2.2.2.2.2.2.2)=false:=by
     unfold tZ;rw[dF (show ¬((dd.2.2.2.2.2.2.2.2.2.2.length:Nat):Int)<=10 by omega),Bool.and_false,Bool.false_and]
    rw[hpf];simp only[cF,rG];cases (dd.2.2.2.2.2.2.2.2.1 != (dd.2.2.2.2.2.2.2.1.length:Int))<;>rfl
 · have hdd:d=(d4.1.1,d4.1.2.1,false,k,d1.2,d2.2,d3.2,d4.2,(d4.2.length:Int),false,l'):=by
    have:some d=some (d4.1.1,d4.1.2.1,false,k,d1.2,d2.2,d3.2,d4.2,(d4.2.length:Int),false,l'):=s1.symm.trans j2;exact Option.some.inj this
   subst hdd;have j1':loop (λz:Int×Int×Int×Int×Int×Int×Int×Int×List Int×Int×Bool×List rK×List rK=>aC z.1 z.2.1 z.2.2.1 z.2.2.2.1 z.2.2.2.2.1 z.2.2.2.2.2.1 z.2.2.2.2.2.2.1 z.2.2.2.2.2.2.2.1 z.2.2.2.2.2.2.2.2.1 z.2.2.2.2.2.2.2.2.2.1 z.2.2.2.2.2.2.2.2.2.2.1 z.2.2.2.2.2.2.2.2.2.2.2.1 z.2.2.2.2.2.2.2.2.2.2.2.2) (0,0,0,0,k,d1.2,d2.2,d3.2,d4.2,0,false,[],[])=some (.inl (0,0,0,0,k,d1.2,d2.2,d3.2,d4.2,(d4.2.length:Int),false,[],l')):=j1
   rw[j1',rG,Sum.elim_inl];have hpl:vM M (k,d1.2,d2.2,d3.2,l'):=vM.of (p:=(k,d1.2,d2.2,d3.2,l')) w2 (by show l'.length<=11;omega)
   have hbody:body=wA (k,d1.2,d2.2,d3.2,l'):=by
    rw[y4,w1];rfl
   simp only[KD hpl,rG,bne_self_eq_false,cF];cases hpp:tZ (k,d1.2,d2.2,d3.2,l')with
   | false =>
    rw[if_neg (by simp)];exact⟨_,rfl,rfl,.inl rfl⟩
   | true =>
    have hal:(sK l').length<=250:=by rw[←w1];exact n4
    rw[if_pos ⟨rfl,hal,by rw[←hbody];exact hp.n⟩,←hbody,←u2];have hb1:((b.length:Int)==0)=false:=beq_eq_false_iff_ne.2 (by
     have:=Hl k body;rw[←u2]at this;omega)
    rw[hb1,beq_self_eq_true];exact⟨_,rfl,rfl,.inr ⟨_,rfl,hpp,hpl⟩⟩

theorem O9 (w:List UInt8) {b:List Int} (hb:tT b) (hn:b.length<=M):∃r,cu w b=some r/\fb w b=some r/\vM M r.1/\(r.2=0->tZ r.1=true):=by
 have hM:M=1048576:=rfl;have nil:vM M ((0,0,0,0,[]):sj):=⟨by show 0<=1048576;decide,λx hx=>by simp at hx⟩
 obtain⟨t,t1,t2,t3⟩:=ER hb hn (i:=0) (by omega);have htb:t.2.1.length<=250/\tT t.2.1:=by
  rcases t3 with rfl|⟨k,body,next,rfl,h⟩
  · exact⟨by simp,y8⟩
  · exact⟨h.n,h.b⟩
 have h0:Aw (t.2.1,0,false):=⟨htb.2,by show t.2.1.length<=M;omega,by show (0:Int)<=0;omega,by show (0:Int)<=(t.2.1.length:Int);omega⟩;obtain⟨d1,a1,b1,c1,e1,f1,g1⟩:=Jq h0;obtain⟨d2,a2,b2,c2,e2,m2,n2,k2,f2,g2⟩:=Dh c1 4;have hlen:d2.1.1=t.2.1:=by rw[e2,e1]
 have hlo:=c2.lo;have hhi:=c2.hi
 rw[hlen]at hhi;obtain⟨j,hj⟩:∃j:Nat,d2.1.2.1=(j:Int):=⟨d2.1.2.1.toNat,by omega⟩;have hcut:cut t.2.1 d2.1.2.1 (t.2.1.length:Int)=some (t.2.1.drop j):=by
  rw[hj,vw (by omega) (Nat.le_refl _),take_length]
 obtain⟨g,p1,p2,p3⟩:=O8 (b:=t.2.1.drop j) (λx hx=>htb.2 x (mem_of_mem_drop hx)) (by rw[length_drop];omega);unfold cu fb;simp only[t1,t2,a1,b1,a2,b2,rG,hcut,p1,p2];cases (!t.2.2.2)with
 | true=>exact⟨_,rfl,rfl,nil,λe=>(by cases e)⟩
 | false =>
 simp only[cF,rG];cases (t.1 != 48)with
 | true=>exact⟨_,rfl,rfl,nil,λe=>(by cases e)⟩
 | false =>
 simp only[cF,rG];cases (t.2.2.1 != (b.length:Int))with
 | true=>exact⟨_,rfl,rfl,nil,λe=>(by cases e)⟩
 | false =>
 simp only[cF,rG];cases d2.1.2.2 with
 | true=>exact⟨_,rfl,rfl,nil,λe=>(by cases e)⟩
 | false =>
 simp only[cF,rG];cases (d1.2 != 1)with
 | true=>exact⟨_,rfl,rfl,nil,λe=>(by cases e)⟩
 | false =>
 simp only[cF,rG];cases (tC d2.2==w)with
 | false=>exact⟨_,rfl,rfl,nil,λe=>(by cases e)⟩
 | true =>
 simp only[Bool.not_true,cF];rcases p3 with rfl|⟨p,rfl,q1,q2⟩
 · exact⟨_,rfl,rfl,nil,λe=>(by cases e)⟩
 · exact⟨_,rfl,rfl,q2,λ_=>q1⟩

def xe (p:sj):List Int:=if tZ p=true/\(sK p.2.2.2.2).length<=250/\(wA p).length<=250 then sL p.1 (wA p)else []
def tV (p:sj):Bool:=rM ((xe p).length:Int) 1 120
theorem Di {p:sj} (hp:vM M p):aP p=some (tV p):=by
 unfold aP;rw[KD hp,rG];show (ac ((xe p).length:Int) 1 120).bind _=_
 rw[vI,rG];rfl
theorem Ay {α β:Type} {l:List α} {g:α->β} {step:Int×List β->Option ((Int×List β)⊕List β)} (hn:l.length<=M)
 (h1:∀k (hk:k<l.length) (out:List β),out.length=k->step ((k:Int),out)=some (.inl (((k+1:Nat):Int),out++[g l[k]]))) (h2:∀out,step ((l.length:Int),out)=some (.inr out)):loop step (0,[])=some (l.map g):=by
 obtain⟨b,e1,rfl⟩:=se (step:=step) (λk z=>z=((k:Int),(l.take k).map g)) l.length (λb=>b=l.map g)
  (λk z hk e=>by
   subst e;refine .inl ⟨_,h1 k hk _ (by rw[length_map,length_take];omega),?_⟩;rw[take_add_one,List.getElem?_eq_getElem hk,map_append];rfl)
  (λz e=>by
   subst e;exact⟨_,h2 _,by rw[take_length]⟩) (x:=(0,[])) rfl
 exact e1
noncomputable def tJ (b:rI) (o:List Int):rK:=(aZ b o).getD ([],0,0,[],[])
noncomputable def Az (b:rI) (o:List Int):vl:=(bY b o).getD (0,0,[],[])
theorem Dj {b:rI} (h:sT b) {o:List Int} (ho:o.length<=1000):aZ b o=some (tJ b o)/\((tJ b o∈uE b/\o<(tJ b o).1)\/(tJ b o=(o,130,0,[],[])/\∀x∈uE b,¬o<x.1)):=by
 obtain⟨j,hj⟩:=Q1 (Mb h) o;have e:=Q2 h ho hj
 unfold tJ;rw[e];refine⟨rfl,?_⟩;by_cases hl:j<(uE b).length
 · rw[dif_pos hl];exact .inl ⟨getElem_mem hl,hj.yes j hl (Nat.le_refl _)⟩
 · rw[dif_neg hl];refine .inr ⟨rfl,λx hx=>?_⟩;obtain⟨i,hi,rfl⟩:=List.getElem_of_mem hx;exact hj.no i hi (by omega)
theorem LL {b:rI} (h:sT b) {o:List Int} (ho:o.length<9223372036854775807):bY b o=some (Az b o)/\((∃x∈uE b,x.1=o/\Az b o=x.2)\/((∀x∈uE b,x.1≠o)/\Az b o=(128,0,[],[]))):=by
 obtain⟨v,e,hv⟩:=QJ h ho;unfold Az;rw[e];exact⟨rfl,hv⟩
theorem Ii {o:List Int} (h:Nm o):vd o=true:=by
 have h1:=h.ok;rw[C9 (by have:=h.n10;omega)]at h1;exact Option.some.inj h1
theorem Ij {v:vl} (h:Vl v):vz v=true:=by
 have h1:=h.ok;rw[E2 (by rw[h.o];show 0<=1048576;omega)]at h1;exact Option.some.inj h1
theorem wH {o:List Int} (h:vd o=true):o.length<=10:=(wS h).2.1
theorem Pj {b:rI} (h:sT b) {x:rK} (hx:x∈uE b):vN x=true:=by
 obtain⟨h1,h2⟩:=zo h x hx;unfold vN;rw[Ii h1,Ij h2];rfl
theorem BC {b:rI} (h:sT b) {o:List Int} (ho:vd o=true):vN (tJ b o)=true:=by
 obtain⟨_,h1⟩:=Dj h (o:=o) (by have:=wH ho;omega);rcases h1 with ⟨h1,_⟩|⟨h1,_⟩
 · exact Pj h h1
 · rw[h1];unfold vN;rw[ho];rfl
theorem ve {x:rK} (h:vN x=true):vd x.1=true:=by
 unfold vN at h;rw[aT]at h;exact h.1
theorem Ms {b:rI} (h:sT b) {o:List Int} (ho:o.length<9223372036854775807):vz (Az b o)=true:=by
 obtain⟨_,h1⟩:=LL h ho;rcases h1 with ⟨x,hx,_,e⟩|⟨_,e⟩
 · rw[e];exact Ij (zo h x hx).2
 · rw[e];rfl
def xt (s:List rK×List (List Int)):Nat:=min s.2.length (10-s.1.length)
noncomputable def zP (b:rI) (s:List rK×List (List Int)):List rK×List (List Int):=(s.1++(s.2.take (xt s)).map (tJ b),(s.2.take (xt s)).map (λo=>(tJ b o).1)++s.2.drop (xt s))
noncomputable def zl (b:rI):Nat->List rK×List (List Int)->List rK×List (List Int)
 | 0,s=>s
 | k+1,s=>if 0<s.2.length/\s.1.length<10 then zl b k (zP b s)else s
structure CO (s:List rK×List (List Int)):Prop where
 o10:s.1.length<=10
 l10:s.2.length<=10
 oOk:∀x∈s.1,vN x=true
 lOk:∀o∈s.2,vd o=true
theorem KE {b:rI} (h:sT b) {s:List rK×List (List Int)} (hs:CO s):CO (zP b s):=by
 obtain⟨h1,h2,h3,h4⟩:=hs;refine⟨?_,?_,λx hx=>?_,λo ho=>?_⟩
 · show (s.1++_).length<=10;rw[length_append,length_map,length_take];unfold xt;omega
 · show (_++s.2.drop (xt s)).length<=10;rw[length_append,length_map,length_take,length_drop];unfold xt;omega
 · rcases mem_append.1 hx with hx|hx
   · exact h3 x hx
   · obtain⟨o,ho,rfl⟩:=mem_map.1 hx;exact BC h (h4 o (mem_of_mem_take ho))
 · rcases mem_append.1 ho with ho|ho
   · obtain⟨q,hq,rfl⟩:=mem_map.1 ho;exact ve (BC h (h4 q (mem_of_mem_take hq)))
   · exact h4 o (mem_of_mem_drop ho)
theorem Qo {b:rI} (h:sT b) {s:List rK×List (List Int)} (hs:CO s):loop (λz=>cz b s.2 z.1 z.2.1 z.2.2) (0,s.1,s.2)=some (zP b s):=by
 obtain⟨out,l⟩:=s;obtain⟨h1,h2,h3,h4⟩:=hs;simp only at h1 h2 h3 h4;have hm:xt (out,l)=min l.length (10-out.length):=rfl
 obtain⟨v,e1,rfl⟩:=se (step:=λz:Int×List rK×List (List Int)=>cz b l z.1 z.2.1 z.2.2) (λk z=>z=((k:Int),out++(l.take k).map (tJ b),(l.take k).map (λo=>(tJ b o).1)++l.drop k)) (xt (out,l)) (λv=>v=zP b (out,l))
  (λk z hk e=>by
   subst e;left;have hkl:k<l.length:=by omega
   have hlen:((l.take k).map (λo=>(tJ b o).1)++l.drop k).length=l.length:=by rw[length_append,length_map,length_take,length_drop];omega
   have hol:(out++(l.take k).map (tJ b)).length=out.length+k:=by rw[length_append,length_map,length_take];omega
   have hA:((l.take k).map (λo=>(tJ b o).1)).length=k:=by rw[length_map,length_take];omega
   have hget:((l.take k).map (λo=>(tJ b o).1)++l.drop k)[k]?=some l[k]:=by
    rw[List.getElem?_append_right (by omega),hA,Nat.sub_self,List.getElem?_drop,Nat.add_zero,List.getElem?_eq_getElem hkl]
   have hn:=(Dj h (o:=l[k]) (by have:=wH (h4 _ (getElem_mem hkl));omega)).1;refine⟨_,?_,rfl⟩;show cz b l (k:Int) _ _=_
   unfold cz;rw[sG (by omega),cT,hol,dF (by omega),cF,hlen,vk hkl];simp only[rG,hget,hn];rw[rP (by rw[hol];show out.length+k+1<=_;omega),rG,rW (by omega)];have t1:(l.take (k+1))=l.take k++[l[k]]:=by rw[take_add_one,List.getElem?_eq_getElem hkl];rfl
   have t2:((l.take k).map (λo=>(tJ b o).1)++l.drop k).set k (tJ b l[k]).1=(l.take (k+1)).map (λo=>(tJ b o).1)++l.drop (k+1):=by
    rw[List.set_append_right _ _ (by omega),hA,Nat.sub_self,drop_eq_getElem_cons hkl,List.set_cons_zero,t1,map_append,append_assoc];rfl
   rw[t2,t1];simp only[map_append,map_cons,List.map_nil,append_assoc])
  (λz e=>by
   subst e;refine⟨_,?_,rfl⟩;show cz b l ((xt (out,l):Nat):Int) _ _=_
   have hol:(out++(l.take (xt (out,l))).map (tJ b)).length=out.length+xt (out,l):=by rw[length_append,length_map,length_take];omega
   unfold cz;rw[hol];by_cases hlt:((xt (out,l):Nat):Int)<(l.length:Int)
   · rw[sG hlt,cT,dT (by omega),cT];rfl
   · rw[sv hlt,cF];rfl) (x:=(0,out,l)) (by simp)
 exact e1
theorem Ik {b:rI} (h:sT b):∀(n:Nat) {s:List rK×List (List Int)},CO s->CO (zl b n s)
 | 0,s,hs=>hs
 | n+1,s,hs=>by
  unfold zl;split
  · exact Ik h n (KE h hs)
  · exact hs
theorem Mt {b:rI} (h:sT b) {p:sj} (hB:p.2.2.2.1<=1000):∀(n i:Nat) {s:List rK×List (List Int)},CO s->((i+n:Nat):Int)=p.2.2.2.1->loop (λz=>bD b p z.1 z.2.1 z.2.2) ((i:Int),s.1,s.2)=some (zl b n s)
 | 0,i,s,hs,e=>by
  refine sm ?_;show bD b p (i:Int) s.1 s.2=_
  unfold bD;rw[sv (by omega),cF,rG,cF,rG,cF];rfl
 | n+1,i,s,hs,e=>by
  by_cases hc:0<s.2.length/\s.1.length<10
  · refine sd (y:=(((i+1:Nat):Int),(zP b s).1,(zP b s).2)) ?_ ?_
    · show bD b p (i:Int) s.1 s.2=_;unfold bD;rw[sG (by omega),cT,dT (by omega),rG,cT,sG (by omega),rG,cT,Qo h hs,rG,rW (by omega)]
    · have:=Mt h hB n (i+1) (KE h hs) (by omega);rw[this,show zl b (n+1) s=zl b n (zP b s)from if_pos hc]
  · refine sm ?_;show bD b p (i:Int) s.1 s.2=_
    have e2:zl b (n+1) s=s:=if_neg hc;rw[e2];unfold bD;rw[sG (by omega),cT];by_cases h1:0<s.2.length
    · rw[dT (by omega),rG,cT,sv (by omega),rG,cF]
    · rw[dF (by omega),rG,cF,rG,cF]
def tz (p:sj):Nat:=min p.2.2.1.toNat p.2.2.2.2.length
noncomputable def Jr (b:rI) (p:sj):List rK×List (List Int):=zl b p.2.2.2.1.toNat ((p.2.2.2.2.take (tz p)).map (λx=>tJ b x.1),(p.2.2.2.2.drop (tz p)).map (λx=>x.1))
noncomputable def vE (b:rI) (p:sj):List rK:=(Jr b p).1
theorem Mu {b:rI} (h:sT b) {p:sj} (hp:tZ p=true):CO ((p.2.2.2.2.take (tz p)).map (λx=>tJ b x.1),(p.2.2.2.2.drop (tz p)).map (λx=>x.1)):=by
 obtain⟨h1,h2,_⟩:=ur hp;refine⟨?_,?_,λx hx=>?_,λo ho=>?_⟩
 · rw[length_map,length_take];omega
 · rw[length_map,length_drop];omega
 · obtain⟨y,hy,rfl⟩:=mem_map.1 hx;exact BC h (ve (h1 y (mem_of_mem_take hy)))
 · obtain⟨y,hy,rfl⟩:=mem_map.1 ho;exact ve (h1 y (mem_of_mem_drop hy))
theorem Il {b:rI} (h:sT b) {p:sj} (hp:tZ p=true):CO (Jr b p):=Ik h _ (Mu h hp)
theorem Pk {b:rI} (h:sT b) {p:sj} (hp:tZ p=true):fO b p=some (vE b p):=by
 obtain⟨h1,h2,_,_,h5,h6⟩:=ur hp;have hmin:min2 p.2.2.1 (p.2.2.2.2.length:Int)=((tz p:Nat):Int):=by
  unfold min2 tz;split<;>omega
 have hon:tz p<=p.2.2.2.2.length:=Nat.min_le_right _ _;unfold fO;show ((cut p.2.2.2.2 0 (min2 p.2.2.1 (p.2.2.2.2.length:Int))).bind _)=_
 rw[hmin];have c1:cut p.2.2.2.2 0 ((tz p:Nat):Int)=some (p.2.2.2.2.take (tz p)):=by
  have:=vw (l:=p.2.2.2.2) (a:=0) (b:=tz p) (by omega) hon;simpa using this
 have c2:cut p.2.2.2.2 ((tz p:Nat):Int) (p.2.2.2.2.length:Int)=some (p.2.2.2.2.drop (tz p)):=by
  have:=vw (l:=p.2.2.2.2) (a:=tz p) (b:=p.2.2.2.2.length) hon (Nat.le_refl _);rw[take_length]at this;exact this
 have l1:loop (λz:Int×List rK=>dH b (p.2.2.2.2.take (tz p)) z.1 z.2) (0,[])=some ((p.2.2.2.2.take (tz p)).map (λx=>tJ b x.1)):=by
  refine Ay (by show _<=1048576;rw[length_take];omega) (λk hk out ho=>?_) (λout=>?_)
  · have hx:=h1 _ (mem_of_mem_take (getElem_mem hk));have hk':=hk
    rw[length_take]at hk';show dH b _ (k:Int) out=_
    unfold dH;rw[sG (by omega),cT,sa hk,rG,(Dj h (by have:=wH (ve hx);omega)).1,rG,rP (by rw[ho];show k+1<=_;omega),rG,rW (by omega)]
  · show dH b _ ((p.2.2.2.2.take (tz p)).length:Int) out=_;unfold dH;rw[sv (by omega),cF]
 have l2:loop (λz:Int×List (List Int)=>dJ (p.2.2.2.2.drop (tz p)) z.1 z.2) (0,[])=some ((p.2.2.2.2.drop (tz p)).map (λx=>x.1)):=by
  refine Ay (by show _<=1048576;rw[length_drop];omega) (λk hk out ho=>?_) (λout=>?_)
  · have hk':=hk;rw[length_drop]at hk';show dJ _ (k:Int) out=_
    unfold dJ;rw[sG (by omega),cT,sa hk,rG,rP (by rw[ho];show k+1<=_;omega),rG,rW (by omega)]
  · show dJ _ ((p.2.2.2.2.drop (tz p)).length:Int) out=_;unfold dJ;rw[sv (by omega),cF]
 rw[c1,rG,l1,rG,c2,rG,l2,rG];have:=Mt h (p:=p) (by omega) p.2.2.2.1.toNat 0 (Mu h hp) (by omega)
 have this:loop (λz=>bD b p z.1 z.2.1 z.2.2) (0,(p.2.2.2.2.take (tz p)).map (λx=>tJ b x.1),(p.2.2.2.2.drop (tz p)).map (λx=>x.1))=_:=this;rw[this,rG];rfl
def shr (f:List rK->Bool):Nat->List rK->Option (List rK)
 | 0,_=>none
 | n+1,l=>if f (l.take n)=true then some (l.take n)else shr f n (l.take n)
theorem DS {α β γ δ:Type} {step:α->Option (α⊕(β⊕δ))} {x:α} {F:β->Option γ} {G:δ->Option γ} {R:Option γ} (h:∃d,step x=some (.inr (.inl d))) (k:∀d,F d=R):(loop step x).bind (Sum.elim F G)=R:=by
 obtain⟨d,h⟩:=h;rw[sm h,rG,Sum.elim_inl,k]
abbrev QU:=Int×List UInt8×Int×Int×Int×Int×Int×Int×Int×Int×Int×Int×List UInt8×Int×Int×Int×Int×Int×Int×Int×Int×Int×List Pt×List rR×List s5×List Int×List rK×List Pt×List rR×List s5×List Int×List rK
theorem Oa {p:sj} (h165:(p.1==165)=true) (b:rI) (j0:Int) (j1:List UInt8) (j2 j3 j4 j5 j6 j7 j8 j9 j10:Int) (k i a c:Int) (j11:List Pt) (j12:List rR) (j13:List s5) (j14:List Int) (j15:List rK):∀(n:Nat) (l:List rK),l.length=n->n<=10->(∀x∈l,CS M x) ->
 ∃w,loop (λz:QU=>eT p z.1 z.2.1 z.2.2.1 z.2.2.2.1 z.2.2.2.2.1 z.2.2.2.2.2.1 z.2.2.2.2.2.2.1 z.2.2.2.2.2.2.2.1 z.2.2.2.2.2.2.2.2.1 z.2.2.2.2.2.2.2.2.2.1 z.2.2.2.2.2.2.2.2.2.2.1 z.2.2.2.2.2.2.2.2.2.2.2.1 z.2.2.2.2.2.2.2.2.2.2.2.2.1 z.2.2.2.2.2.2.2.2.2.2.2.2.2.1 z.2.2.2.2.2.2.2.2.2.2.2.2.2.2.1 z.2.2.2.2.2.2.2.2.2.2.2.2.2.2.2.1 z.2.2.2.2.2.2.2.2.2.2.2.2.2.2.2.2.1 z.2.2.2.2.2.2.2.2.2.2.2.2.2.2.2.2.2.1 z.2.2.2.2.2.2.2.2.2.2.2.2.2.2.2.2.2.2.1 z.2.2.2.2.2.2.2.2.2.2.2.2.2.2.2.2.2.2.2.1 z.2.2.2.2.2.2.2.2.2.2.2.2.2.2.2.2.2.2.2.2.1 z.2.2.2.2.2.2.2.2.2.2.2.2.2.2.2.2.2.2.2.2.2.1 z.2.2.2.2.2.2.2.2.2.2.2.2.2.2.2.2.2.2.2.2.2.2.1 z.2.2.2.2.2.2.2.2.2.2.2.2.2.2.2.2.2.2.2.2.2.2.2.1 z.2.2.2.2.2.2.2.2.2.2.2.2.2.2.2.2.2.2.2.2.2.2.2.2.1 z.2.2.2.2.2.2.2.2.2.2.2.2.2.2.2.2.2.2.2.2.2.2.2.2.2.1 z.2.2.2.2.2.2.2.2.2.2.2.2.2.2.2.2.2.2.2.2.2.2.2.2.2.2.1 z.2.2.2.2.2.2.2.2.2.2.2.2.2.2.2.2.2.2.2.2.2.2.2.2.2.2.2.1 z.2.2.2.2.2.2.2.2.2.2.2.2.2.2.2.2.2.2.2.2.2.2.2.2.2.2.2.2.1 z.2.2.2.2.2.2.2.2.2.2.2.2.2.2.2.2.2.2.2.2.2.2.2.2.2.2.2.2.2.1 z.2.2.2.2.2.2.2.2.2.2.2.2.2.2.2.2.2.2.2.2.2.2.2.2.2.2.2.2.2.2.1 z.2.2.2.2.2.2.2.2.2.2.2.2.2.2.2.2.2.2.2.2.2.2.2.2.2.2.2.2.2.2.2) (j0,j1,j2,j3,j4,j5,j6,j7,j8,j9,j10,b.1,b.2.1,b.2.2.2.2.2.2.1,b.2.2.2.2.2.2.2.1,b.2.2.2.2.2.2.2.2.1,b.2.2.2.2.2.2.2.2.2.1,b.2.2.2.2.2.2.2.2.2.2,k,i,a,c,j11,j12,j13,j14,j15,b.2.2.1,b.2.2.2.1,b.2.2.2.2.1,b.2.2.2.2.2.1,l)=some w/\(match shr (λt=>tV (k,i,a,c,t)) n l with|some t=>w=.inr (true,b.1,b.2.1,b.2.2.2.2.2.2.1,b.2.2.2.2.2.2.2.1,b.2.2.2.2.2.2.2.2.1,b.2.2.2.2.2.2.2.2.2.1,b.2.2.2.2.2.2.2.2.2.2,k,i,a,c,b.2.2.1,b.2.2.2.1,b.2.2.2.2.1,b.2.2.2.2.2.1,t)|none=>∃d,w=.inl d)
 | 0,l,hl,hn,hx=>by
  refine⟨_,sm (b:=Sum.inl (j0,j1,j2,j3,j4,j5,j6,j7,j8,j9,j10,b.1,b.2.1,b.2.2.2.2.2.2.1,b.2.2.2.2.2.2.2.1,b.2.2.2.2.2.2.2.2.1,b.2.2.2.2.2.2.2.2.2.1,b.2.2.2.2.2.2.2.2.2.2,k,i,a,c,j11,j12,j13,j14,j15,b.2.2.1,b.2.2.2.1,b.2.2.2.2.1,b.2.2.2.2.2.1,l)) ?_,⟨_,rfl⟩⟩;dsimp only;unfold eT;rw[h165,cT,dF (by omega),rG,cF]
 | n+1,l,hl,hn,hx=>by
  have hlt:(l.take n).length=n:=by rw[length_take];omega
  have hcut:tF l.length 0 (rJ ((l.length:Int)-1))=some (0,n):=by
   rw[sg (by omega) (by omega),show (l.length:Int)-1=(n:Int) by omega];unfold tF;rw[if_pos (by omega),if_pos (by omega),if_pos (by omega)];simp
  have hp:vM M (k,i,a,c,l.take n):=⟨by show (l.take n).length<=1048576;omega,λx h=>hx x (mem_of_mem_take h)⟩;have hstep:∀q:Bool,tV (k,i,a,c,l.take n)=q->eT p j0 j1 j2 j3 j4 j5 j6 j7 j8 j9 j10 b.1 b.2.1 b.2.2.2.2.2.2.1 b.2.2.2.2.2.2.2.1 b.2.2.2.2.2.2.2.2.1 b.2.2.2.2.2.2.2.2.2.1 b.2.2.2.2.2.2.2.2.2.2 k i a c j11 j12 j13 j14 j15 b.2.2.1 b.2.2.2.1 b.2.2.2.2.1 b.2.2.2.2.2.1 l=cond q (some (.inr (.inr (true,b.1,b.2.1,b.2.2.2.2.2.2.1,b.2.2.2.2.2.2.2.1,b.2.2.2.2.2.2.2.2.1,b.2.2.2.2.2.2.2.2.2.1,b.2.2.2.2.2.2.2.2.2.2,k,i,a,c,b.2.2.1,b.2.2.2.1,b.2.2.2.2.1,b.2.2.2.2.2.1,l.take n)))) (some (.inl (j0,j1,j2,j3,j4,j5,j6,j7,j8,j9,j10,b.1,b.2.1,b.2.2.2.2.2.2.1,b.2.2.2.2.2.2.2.1,b.2.2.2.2.2.2.2.2.1,b.2.2.2.2.2.2.2.2.2.1,b.2.2.2.2.2.2.2.2.2.2,k,i,a,c,j11,j12,j13,j14,j15,b.2.2.1,b.2.2.2.1,b.2.2.2.2.1,b.2.2.2.2.2.1,l.take n))):=by
   intro q hq;unfold eT;rw[h165,cT,dT (by omega),rG,cT,hcut,rG];simp only[drop_zero];rw[Di hp,rG,hq]
  by_cases hf:tV (k,i,a,c,l.take n)=true
  · have e:shr (λt=>tV (k,i,a,c,t)) (n+1) l=some (l.take n):=if_pos hf;rw[e];exact⟨_,sm (hstep true hf),rfl⟩
  · have e:shr (λt=>tV (k,i,a,c,t)) (n+1) l=shr (λt=>tV (k,i,a,c,t)) n (l.take n):=if_neg hf;rw[e];obtain⟨w,h1,h2⟩:=Oa h165 b j0 j1 j2 j3 j4 j5 j6 j7 j8 j9 j10 k i a c j11 j12 j13 j14 j15 n (l.take n) hlt (by omega) (λx h=>hx x (mem_of_mem_take h));exact⟨w,sd (hstep false (by simpa using hf)) h1,h2⟩
noncomputable def zN (b:rI) (l:List rK):rI×Int×Int:=(dM b l).getD (b,0,0)
noncomputable def wT (b:rI) (p:sj):rI×sj :=
 cond (p.1==160) (b,162,p.2.1,0,0,p.2.2.2.2.map λx=>(x.1,Az b x.1))
  (cond (p.1==161) (b,162,p.2.1,0,0,p.2.2.2.2.map λx=>tJ b x.1)
   (cond (p.1==165) (b,162,p.2.1,0,0,vE b p) ((zN b p.2.2.2.2).1,162,p.2.1,(zN b p.2.2.2.2).2.1,(zN b p.2.2.2.2).2.2,p.2.2.2.2)))
noncomputable def zx (b:rI) (p:sj):rI×sj :=
 match cond (p.1==165) (shr (λt=>tV (162,p.2.1,0,0,t)) (vE b p).length (vE b p)) none with
 | some t=>(b,162,p.2.1,0,0,t)
 | none=>(b,162,p.2.1,7,0,[])
noncomputable def wB (b:rI) (p:sj):rI×sj:=cond (tV (wT b p).2) (wT b p) (zx b p)
noncomputable def Bc (b:rI) (p:sj):Bool:=sO b&&(tZ p&&(p.1 != 162))
noncomputable def tS (b:rI) (p:sj):rI×sj×Bool:=cond (Bc b p) ((wB b p).1,(wB b p).2,true) (b,(0,0,0,0,[]),false)
theorem CP {p:sj} (hp:tZ p=true):zO M p.2.2.2.2:=by
 obtain⟨h1,h2,_⟩:=ur hp;exact⟨by show _<=1048576;omega,λx hx=>uR (h1 x hx)⟩
theorem KF {b:rI} (h:wI b) (hb:yb M b) {p:sj} (hp:vM M p):cB b p=some (tS b p):=by
 unfold cB tS Bc;rw[xg hb,rG,BE h,rG];cases hbr:sO b with
 | false=>rw[Bool.not_false,cT,rG,cT,rG,cT];rfl
 | true =>
 rw[Bool.not_true,cF,Mg hp,rG,rG];cases hpp:tZ p with
 | false=>rw[Bool.not_false,cT,rG,cT];rfl
 | true =>
 rw[Bool.not_true,cF,rG];cases h162:(p.1==162)with
 | true =>
  have:(p.1 != 162)=false:=by rw[bne,h162];rfl
  rw[cT,this];rfl
 | false =>
 have hne:(p.1 != 162)=true:=by rw[bne,h162];rfl
 have hBO:=G0 h hbr;obtain⟨x1,x2,x3,x4,x5,x6⟩:=ur hpp;have hxs:=CP hpp
 rw[cF,hne,Bool.true_and,Bool.true_and,cT];unfold wB wT zx;cases h160:(p.1==160)with
 | true =>
  have h165:(p.1==165)=false:=by simp only[beq_iff_eq]at h160;rw[h160];rfl
  have e:loop (λz:Int×Int×Int×Int×Int×List rK=>eR b p z.1 z.2.1 z.2.2.1 z.2.2.2.1 z.2.2.2.2.1 z.2.2.2.2.2) (0,162,p.2.1,0,0,[])=some (162,p.2.1,0,0,p.2.2.2.2.map λx=>(x.1,Az b x.1)):=by
   obtain⟨v,e1,rfl⟩:=se (step:=λz:Int×Int×Int×Int×Int×List rK=>eR b p z.1 z.2.1 z.2.2.1 z.2.2.2.1 z.2.2.2.2.1 z.2.2.2.2.2) (λk z=>z=((k:Int),162,p.2.1,0,0,(p.2.2.2.2.take k).map λx=>(x.1,Az b x.1))) p.2.2.2.2.length (λv=>v=(162,p.2.1,0,0,p.2.2.2.2.map λx=>(x.1,Az b x.1)))
    (λk z hk e=>by
     subst e;refine .inl ⟨_,?_,rfl⟩;have hx:=wH (ve (x1 _ (getElem_mem hk)))
     dsimp only;unfold eR;rw[sG (by omega),cT,sa hk,rG,C8 (by show _<=1048576;omega),rG,(LL hBO (by omega)).1,rG,rP (by rw[length_map,length_take];show min k _+1<=_;omega),rG,rW (by omega),
      take_add_one,List.getElem?_eq_getElem hk,map_append];rfl)
    (λz e=>by
     subst e;refine⟨_,?_,rfl⟩;dsimp only;unfold eR;rw[sv (by omega),cF,take_length]) (x:=(0,162,p.2.1,0,0,[])) rfl
   exact e1
  simp only[cT,cF];rw[e,rG,Di ⟨by show (p.2.2.2.2.map _).length<=1048576;rw[length_map];omega,λx hx=>by
   obtain⟨y,hy,rfl⟩:=mem_map.1 hx;exact uR (by unfold vN;rw[ve (x1 y hy),Ms hBO (by have:=wH (ve (x1 y hy));omega)];rfl)⟩,rG]
  cases tV (162,p.2.1,0,0,p.2.2.2.2.map λx=>(x.1,Az b x.1))with
  | true=>rfl
  | false =>
   simp only[cF];refine DS ?_ λd=>?_
   · dsimp only;unfold kC;rw[h165,cF,rG,cF];exact⟨_,rfl⟩
   · rw[rG];simp only[h165,cF]
 | false =>
 cases h161:(p.1==161)with
 | true =>
  have h165:(p.1==165)=false:=by simp only[beq_iff_eq]at h161;rw[h161];rfl
  have e:loop (λz:Int×Int×Int×Int×Int×List rK=>eS b p z.1 z.2.1 z.2.2.1 z.2.2.2.1 z.2.2.2.2.1 z.2.2.2.2.2) (0,162,p.2.1,0,0,[])=some (162,p.2.1,0,0,p.2.2.2.2.map λx=>tJ b x.1):=by
   obtain⟨v,e1,rfl⟩:=se (step:=λz:Int×Int×Int×Int×Int×List rK=>eS b p z.1 z.2.1 z.2.2.1 z.2.2.2.1 z.2.2.2.2.1 z.2.2.2.2.2) (λk z=>z=((k:Int),162,p.2.1,0,0,(p.2.2.2.2.take k).map λx=>tJ b x.1)) p.2.2.2.2.length (λv=>v=(162,p.2.1,0,0,p.2.2.2.2.map λx=>tJ b x.1))
    (λk z hk e=>by
     subst e;refine .inl ⟨_,?_,rfl⟩;have hx:=wH (ve (x1 _ (getElem_mem hk)))
     dsimp only;unfold eS;rw[sG (by omega),cT,sa hk,rG,(Dj hBO (by omega)).1,rG,rP (by rw[length_map,length_take];show min k _+1<=_;omega),rG,rW (by omega),
      take_add_one,List.getElem?_eq_getElem hk,map_append];rfl)
    (λz e=>by
     subst e;refine⟨_,?_,rfl⟩;dsimp only;unfold eS;rw[sv (by omega),cF,take_length]) (x:=(0,162,p.2.1,0,0,[])) rfl
   exact e1
  simp only[cT,cF];rw[e,rG,Di ⟨by show (p.2.2.2.2.map _).length<=1048576;rw[length_map];omega,λx hx=>by
   obtain⟨y,hy,rfl⟩:=mem_map.1 hx;exact uR (BC hBO (ve (x1 y hy)))⟩,rG]
  cases tV (162,p.2.1,0,0,p.2.2.2.2.map λx=>tJ b x.1)with
  | true=>rfl
  | false =>
   simp only[cF];refine DS ?_ λd=>?_
   · dsimp only;unfold kD;rw[h165,cF,rG,cF];exact⟨_,rfl⟩
   · rw[rG];simp only[h165,cF]
 | false =>
 cases h165:(p.1==165)with
 | true =>
  have hbk:=Il hBO hpp;have hbx:∀x∈vE b p,CS M x:=λx hx=>uR (hbk.oOk x hx)
  have hbn:(vE b p).length<=10:=hbk.o10;simp only[cT,cF];rw[Pk hBO hpp,rG,Di ⟨by show (vE b p).length<=1048576;omega,hbx⟩,rG];cases tV (162,p.2.1,0,0,vE b p)with
  | true=>rfl
  | false =>
   simp only[cF];obtain⟨w,e1,e2⟩:=Oa h165 b 0 [] 0 0 0 0 0 0 0 0 0 162 p.2.1 0 0 [] [] [] [] [] _ (vE b p) rfl hbn hbx;rw[e1,rG];cases hs:shr (λt=>tV (162,p.2.1,0,0,t)) (vE b p).length (vE b p)with
   | some t=>rw[hs]at e2;rw[e2];rfl
   | none =>
    rw[hs]at e2;obtain⟨d,rfl⟩:=e2;rw[Sum.elim_inl,rG];try rfl
 | false =>
  obtain⟨r,r1,_,_,_⟩:=Do h hb hxs;have hr:zN b p.2.2.2.2=r:=by unfold zN;rw[r1];rfl
  simp only[cF];rw[r1,rG,D2 hxs,rG,hr,Di (p:=(162,p.2.1,r.2.1,r.2.2,p.2.2.2.2)) ⟨hxs.1,hxs.2⟩,rG];cases tV (162,p.2.1,r.2.1,r.2.2,p.2.2.2.2)with
  | true=>rfl
  | false =>
   simp only[cF];refine DS ?_ λd=>?_
   · dsimp only;unfold kE;rw[h165,cF,rG,cF];exact⟨_,rfl⟩
   · rw[rG]

def aW (a:s9):List UInt8:=a.2.2.2.2.2.2.2.2.2.2.2.1
def sW (b:rI) (w:List UInt8) (l:List sY) (lo la:Int):s9:=(b.1,b.2.1,b.2.2.1,b.2.2.2.1,b.2.2.2.2.1,b.2.2.2.2.2.1,b.2.2.2.2.2.2.1,b.2.2.2.2.2.2.2.1,b.2.2.2.2.2.2.2.2.1,b.2.2.2.2.2.2.2.2.2.1,b.2.2.2.2.2.2.2.2.2.2,w,l,lo,la)
def vh (id:Int) (m:List Int) (ph:Int) (p:sj) (s:rI) (at' tr:Int):sY:=(id,m,ph,p.1,p.2.1,p.2.2.1,p.2.2.2.1,p.2.2.2.2,s.1,s.2.1,s.2.2.1,s.2.2.2.1,s.2.2.2.2.1,s.2.2.2.2.2.1,s.2.2.2.2.2.2.1,s.2.2.2.2.2.2.2.1,s.2.2.2.2.2.2.2.2.1,s.2.2.2.2.2.2.2.2.2.1,s.2.2.2.2.2.2.2.2.2.2,at',tr)
theorem Gl {b:rI} {w:List UInt8} {l:List sY} {lo la:Int} {k:Nat} (hk:k<l.length) (hl:l.length<=M):bT (sW b w l lo la) (k:Int)=some (sW b w (l.eraseIdx k) lo la):=by
 have hM:M=1048576:=rfl;have c1:tF l.length 0 (k:Int)=some (0,k):=by
  unfold tF;rw[if_pos (by omega),if_pos (by omega),if_pos (by omega)];simp
 have c2:tF l.length (rJ ((k:Int)+1)) (l.length:Int)=some (k+1,l.length):=by
  rw[rW (by omega)];unfold tF;rw[if_pos (by omega),if_pos (by omega),if_pos (by omega)];simp
 have c3:Cr l 0 k (k+1) l.length=some (l.eraseIdx k):=by
  unfold Cr;rw[if_pos (by omega),take_length,drop_zero,rP (by rw[length_take,length_drop];omega),←List.eraseIdx_eq_take_drop_succ]
 unfold bT sW;simp only[c1,rG,c2,c3]
def Fh (b:rI) (j:sY):sY:=vh j.1 j.2.1 1 (jP j) b 0 (sw j)
theorem KG {b:rI} (hb:yb M b) {w:List UInt8} {l:List sY} {lo la:Int} {k:Nat} (hk:k<l.length):eH (sW b w l lo la) (k:Int)=some (sW b w (l.set k (Fh b l[k])) lo la):=by
 have cb:=xg hb;unfold eH sW;simp only[vk hk,rG];have cb':ar (b.1,b.2.1,b.2.2.1,b.2.2.2.1,b.2.2.2.2.1,b.2.2.2.2.2.1,b.2.2.2.2.2.2.1,b.2.2.2.2.2.2.2.1,b.2.2.2.2.2.2.2.2.1,b.2.2.2.2.2.2.2.2.2.1,b.2.2.2.2.2.2.2.2.2.2)=some b:=cb
 simp only[cb',rG,List.getElem?_eq_getElem hk,List.getElem?_set_self hk,set_set];rfl
def vF (n:Int):Int:=min2 (rJ (n+1)) 1000000
theorem EB (n:Int):bn n=some (vF n):=rfl
def zy (b:rI):rI:=(b.1,b.2.1,b.2.2.1,b.2.2.2.1,b.2.2.2.2.1,b.2.2.2.2.2.1,b.2.2.2.2.2.2.1,b.2.2.2.2.2.2.2.1,vF b.2.2.2.2.2.2.2.2.1,b.2.2.2.2.2.2.2.2.2.1,b.2.2.2.2.2.2.2.2.2.2)
def yi (b:rI):rI:=(b.1,b.2.1,b.2.2.1,b.2.2.2.1,b.2.2.2.2.1,b.2.2.2.2.2.1,b.2.2.2.2.2.2.1,vF b.2.2.2.2.2.2.2.1,b.2.2.2.2.2.2.2.2.1,b.2.2.2.2.2.2.2.2.2.1,b.2.2.2.2.2.2.2.2.2.2)
noncomputable def sy (w:List UInt8) (m:List Int):sj×Int:=(cu w m).getD ((0,0,0,0,[]),0)
theorem Hm (w:List UInt8) {m:List Int} (hb:tT m) (hn:m.length<=M):cu w m=some (sy w m)/\fb w m=some (sy w m)/\vM M (sy w m).1/\((sy w m).2=0->tZ (sy w m).1=true):=by
 obtain⟨r,h1,h2,h3,h4⟩:=O9 w hb hn;unfold sy;rw[h1];exact⟨rfl,h2,h3,h4⟩
noncomputable def y9 (p:sj):sj:=cond (tV (162,p.2.1,6,1,p.2.2.2.2)) (162,p.2.1,6,1,p.2.2.2.2) (162,p.2.1,7,0,[])
theorem Pl {p:sj} (hp:vM M p):eU p=some (y9 p):=by
 unfold eU y9;rw[D2 hp,rG,Di (p:=(162,p.2.1,6,1,p.2.2.2.2)) hp,rG];cases tV (162,p.2.1,6,1,p.2.2.2.2)<;>rfl
inductive Ob where
 | stay (j:sY)|gone (d:List uV)
noncomputable def uj (w:List UInt8) (b:rI) (j:sY):rI×Ob :=
 cond (j.2.2.1==0)
  (cond ((sy w j.2.1).2==3) (zy b,.gone [])
   (cond ((sy w j.2.1).2 != 0||((sy w j.2.1).1.1==162)) (yi b,.gone [])
    (b,.stay (vh j.1 j.2.1 1 (sy w j.2.1).1 b 0 (sw j)))))
  (cond (j.2.2.1==2)
   (cond (j.2.2.2.1 != 163) (b,.gone [(j.1,(tS (jB j) (jP j)).2.1)])
    (cond (b.2.2.2.2.2.2.2.2.2.2==(jB j).2.2.2.2.2.2.2.2.2.2) ((tS b (jP j)).1,.gone [(j.1,(tS b (jP j)).2.1)])
     (cond (decide (sw j>=3)) (b,.gone [(j.1,y9 (jP j))])
      (b,.stay (vh j.1 j.2.1 1 (jP j) b 0 (rJ (sw j+1)))))))
   (cond (decide (vm j<((jP j).2.2.2.2.length:Int))) (b,.stay (vh j.1 j.2.1 j.2.2.1 (jP j) (jB j) (rJ (vm j+1)) (sw j)))
    (b,.stay (vh j.1 j.2.1 2 (jP j) (jB j) (vm j) (sw j)))))
noncomputable def th (a:s9) (k:Nat) (j:sY):s9×List uV :=
 match (uj (aW a) (aB a) j).2 with
 | .stay j'=>(sW (uj (aW a) (aB a) j).1 (aW a) ((rL a).set k j') (sD a) (rV a),[])
 | .gone d=>(sW (uj (aW a) (aB a) j).1 (aW a) ((rL a).eraseIdx k) (sD a) (rV a),d)
theorem Pm {b:rI} (hb:yb M b) {w:List UInt8} {l:List sY} {lo la:Int} {k:Nat} (hk:k<l.length) (hl:l.length<=M) (h1:tT l[k].2.1) (h2:l[k].2.1.length<=M) :
 eI (sW b w l lo la) (k:Int)=some (cond ((sy w l[k].2.1).2==3) (sW (zy b) w (l.eraseIdx k) lo la)
  (cond ((sy w l[k].2.1).2 != 0||((sy w l[k].2.1).1.1==162)) (sW (yi b) w (l.eraseIdx k) lo la) (sW b w (l.set k (vh l[k].1 l[k].2.1 1 (sy w l[k].2.1).1 b 0 (sw l[k]))) lo la))):=by
 obtain⟨m1,_,m3,_⟩:=Hm w h1 h2;unfold eI;have d1:=Gl (b:=zy b) (w:=w) (lo:=lo) (la:=la) hk hl
 have d2:=Gl (b:=yi b) (w:=w) (lo:=lo) (la:=la) hk hl;unfold zy sW at d1;unfold yi sW at d2;dsimp only[sW];simp only[vk hk,rG,List.getElem?_eq_getElem hk,m1,EB];rw[d1,d2];cases ((sy w l[k].2.1).2==3)with
 | true=>rfl
 | false =>
  simp only[cF,rG];cases ((sy w l[k].2.1).2 != 0)with
  | true=>rfl
  | false =>
   simp only[cF,rG,Bool.false_or];cases ((sy w l[k].2.1).1.1==162)with
   | true=>rfl
   | false =>
    simp only[cF,rG];have hs:k<(l.set k (vh l[k].1 l[k].2.1 l[k].2.2.1 (sy w l[k].2.1).1 (jB l[k]) (vm l[k]) (sw l[k]))).length:=by rw[length_set];exact hk
    have e:=KG hb (w:=w) (lo:=lo) (la:=la) hs;unfold sW at e;have e2:Fh b (l.set k (vh l[k].1 l[k].2.1 l[k].2.2.1 (sy w l[k].2.1).1 (jB l[k]) (vm l[k]) (sw l[k])))[k]=vh l[k].1 l[k].2.1 1 (sy w l[k].2.1).1 b 0 (sw l[k]):=by
     rw[getElem_set_self];rfl
    rw[e2,set_set]at e;refine (congrArg (λo=>Option.bind o λt=>some t) e).trans ?_;rfl
theorem N2 {b:rI} (hw:wI b) (hb:yb M b) {w:List UInt8} {l:List sY} {lo la:Int} {k:Nat} (hk:k<l.length) (hl:l.length<=M) (h1:IF l[k]) (h2:Oq M l[k]) :
 eV (sW b w l lo la) (k:Int)=some (cond (l[k].2.2.2.1 != 163) (sW b w (l.eraseIdx k) lo la,[(l[k].1,(tS (jB l[k]) (jP l[k])).2.1)])
  (cond (b.2.2.2.2.2.2.2.2.2.2==(jB l[k]).2.2.2.2.2.2.2.2.2.2) (sW (tS b (jP l[k])).1 w (l.eraseIdx k) lo la,[(l[k].1,(tS b (jP l[k])).2.1)])
   (cond (decide (sw l[k]>=3)) (sW b w (l.eraseIdx k) lo la,[(l[k].1,y9 (jP l[k]))])
    (sW b w (l.set k (vh l[k].1 l[k].2.1 1 (jP l[k]) b 0 (rJ (sw l[k]+1)))) lo la,[])))):=by
 have r1:=KF h1.b h2.2.2 h1.p;have r2:=KF hw hb h1.p
 have r3:=Pl h1.p;have d1:=Gl (b:=b) (w:=w) (lo:=lo) (la:=la) hk hl
 have d2:=Gl (b:=(tS b (jP l[k])).1) (w:=w) (lo:=lo) (la:=la) hk hl;unfold eV;dsimp only[sW];simp only[vk hk,rG,List.getElem?_eq_getElem hk];unfold sW at d1;cases hkind:(l[k].2.2.2.1 != 163)with
 | true =>
  simp only[cT];rw[show cB (l[k].2.2.2.2.2.2.2.2.1,l[k].2.2.2.2.2.2.2.2.2.1,l[k].2.2.2.2.2.2.2.2.2.2.1,l[k].2.2.2.2.2.2.2.2.2.2.2.1,l[k].2.2.2.2.2.2.2.2.2.2.2.2.1,l[k].2.2.2.2.2.2.2.2.2.2.2.2.2.1,l[k].2.2.2.2.2.2.2.2.2.2.2.2.2.2.1,l[k].2.2.2.2.2.2.2.2.2.2.2.2.2.2.2.1,l[k].2.2.2.2.2.2.2.2.2.2.2.2.2.2.2.2.1,l[k].2.2.2.2.2.2.2.2.2.2.2.2.2.2.2.2.2.1,l[k].2.2.2.2.2.2.2.2.2.2.2.2.2.2.2.2.2.2.1) (l[k].2.2.2.1,l[k].2.2.2.2.1,l[k].2.2.2.2.2.1,l[k].2.2.2.2.2.2.1,l[k].2.2.2.2.2.2.2.1)=some (tS (jB l[k]) (jP l[k]))from r1,rG,d1,rG]
 | false =>
  simp only[cF];show cond (b.2.2.2.2.2.2.2.2.2.2==(jB l[k]).2.2.2.2.2.2.2.2.2.2) _ _=_
  cases hv:(b.2.2.2.2.2.2.2.2.2.2==(jB l[k]).2.2.2.2.2.2.2.2.2.2)with
  | true =>
   simp only[cT];rw[show cB (b.1,b.2.1,b.2.2.1,b.2.2.2.1,b.2.2.2.2.1,b.2.2.2.2.2.1,b.2.2.2.2.2.2.1,b.2.2.2.2.2.2.2.1,b.2.2.2.2.2.2.2.2.1,b.2.2.2.2.2.2.2.2.2.1,b.2.2.2.2.2.2.2.2.2.2) (l[k].2.2.2.1,l[k].2.2.2.2.1,l[k].2.2.2.2.2.1,l[k].2.2.2.2.2.2.1,l[k].2.2.2.2.2.2.2.1)=some (tS b (jP l[k]))from r2,rG];unfold sW at d2;rw[d2,rG]
  | false =>
   simp only[cF];show cond (decide (sw l[k]>=3)) _ _=_
   cases hq:decide (sw l[k]>=3)with
   | true =>
    simp only[cT];rw[show eU (l[k].2.2.2.1,l[k].2.2.2.2.1,l[k].2.2.2.2.2.1,l[k].2.2.2.2.2.2.1,l[k].2.2.2.2.2.2.2.1)=some (y9 (jP l[k]))from r3,rG,d1,rG]
   | false =>
    simp only[cF];have hs:k<(l.set k (vh l[k].1 l[k].2.1 l[k].2.2.1 (jP l[k]) (jB l[k]) (vm l[k]) (rJ (sw l[k]+1)))).length:=by rw[length_set];exact hk
    have e:=KG hb (w:=w) (lo:=lo) (la:=la) hs;unfold sW at e;have e2:Fh b (l.set k (vh l[k].1 l[k].2.1 l[k].2.2.1 (jP l[k]) (jB l[k]) (vm l[k]) (rJ (sw l[k]+1))))[k]=vh l[k].1 l[k].2.1 1 (jP l[k]) b 0 (rJ (sw l[k]+1)):=by
     rw[getElem_set_self];rfl
    rw[e2,set_set]at e;refine (congrArg (λo=>Option.bind o λt=>some (t,([]:List uV))) e).trans ?_;rfl
theorem Pn {a:s9} (hw:wI (aB a)) (hl:Iw M a) {k:Nat} (hk:k<(rL a).length) (h1:IF (rL a)[k]) (h2:tT (rL a)[k].2.1):dN a (k:Int)=some (th a k (rL a)[k]):=by
 obtain⟨hb,_,hn,hj⟩:=hl;have hJ:=hj _ (getElem_mem hk)
 have hn:(rL a).length<=M:=hn;have e1:=Pm hb (w:=aW a) (l:=rL a) (lo:=sD a) (la:=rV a) hk hn h2 hJ.1
 have e2:=N2 hw hb (w:=aW a) (l:=rL a) (lo:=sD a) (la:=rV a) hk hn h1 hJ;have c0:ix a.2.2.2.2.2.2.2.2.2.2.2.2.1.length (k:Int)=some k:=vk hk
 have c1:a.2.2.2.2.2.2.2.2.2.2.2.2.1[k]?=some (rL a)[k]:=List.getElem?_eq_getElem hk;have e1:eI a (k:Int)=_:=e1
 have e2:eV a (k:Int)=_:=e2;unfold dN th uj;rw[c0,rG];simp only[c1,rG];cases hp0:((rL a)[k].2.2.1==0)with
 | true =>
  rw[cT,e1,rG];cases ((sy (aW a) (rL a)[k].2.1).2==3)with
  | true=>rfl
  | false =>
   cases ((sy (aW a) (rL a)[k].2.1).2 != 0||((sy (aW a) (rL a)[k].2.1).1.1==162))<;>rfl
 | false =>
  rw[cF];cases hp2:((rL a)[k].2.2.1==2)with
  | true =>
   rw[cT,e2,rG];cases ((rL a)[k].2.2.2.1 != 163)with
   | true=>rfl
   | false =>
    cases ((aB a).2.2.2.2.2.2.2.2.2.2==(jB (rL a)[k]).2.2.2.2.2.2.2.2.2.2)with
    | true=>rfl
    | false=>cases decide (sw (rL a)[k]>=3)<;>rfl
  | false =>
   simp only[cF];show cond (decide (vm (rL a)[k]<((jP (rL a)[k]).2.2.2.2.length:Int))) _ _=_
   cases decide (vm (rL a)[k]<((jP (rL a)[k]).2.2.2.2.length:Int))<;>rfl

theorem Dk {n:Int} (h:rM n 0 1000000=true):rM (vF n) 0 1000000=true:=by
 obtain⟨r,h1,_,h3⟩:=Gr h;rw[EB]at h1;cases h1;exact h3
theorem wC {b:rI} (h:sO b=true):ux b=true/\∀c,ux (b.1,b.2.1,b.2.2.1,b.2.2.2.1,b.2.2.2.2.1,b.2.2.2.2.2.1,c)=true->sO (b.1,b.2.1,b.2.2.1,b.2.2.2.1,b.2.2.2.2.1,b.2.2.2.2.2.1,c)=true:=by
 unfold sO at h ⊢;simp only[aT]at h ⊢;obtain⟨h1,h2,h3,h4,h5,h6,h7⟩:=h;exact⟨h7,λc hc=>⟨h1,h2,h3,h4,h5,h6,hc⟩⟩
theorem EC {b:rI} (h:sT b) {c:Int×Int×Int×Int×Int} (hc:ux (b.1,b.2.1,b.2.2.1,b.2.2.2.1,b.2.2.2.2.1,b.2.2.2.2.2.1,c)=true):sT (b.1,b.2.1,b.2.2.1,b.2.2.2.1,b.2.2.2.2.1,b.2.2.2.2.2.1,c) :=
 G0 ⟨h.w.p,h.w.f,h.w.v,h.w.q,h.w.r⟩ ((wC h.ok).2 c hc)
theorem vv {b:rI} (h:ux b=true):rM b.2.2.2.2.2.2.1 0 1000000=true/\rM b.2.2.2.2.2.2.2.1 0 1000000=true/\rM b.2.2.2.2.2.2.2.2.1 0 1000000=true/\rM b.2.2.2.2.2.2.2.2.2.1 0 1000000=true/\rM b.2.2.2.2.2.2.2.2.2.2 0 1000000=true:=by
 unfold ux at h;simpa only[aT]using h
theorem LM {b:rI} (h:sT b):sT (zy b):=by
 refine EC h ?_;obtain⟨h1,h2,h3,h4,h5⟩:=vv (wC h.ok).1;unfold ux;simp only[aT];exact⟨h1,h2,Dk h3,h4,h5⟩
theorem KH {b:rI} (h:sT b):sT (yi b):=by
 refine EC h ?_;obtain⟨h1,h2,h3,h4,h5⟩:=vv (wC h.ok).1;unfold ux;simp only[aT];exact⟨h1,Dk h2,h3,h4,h5⟩
theorem KI {b:rI} (h:wD b) (hl:yb M b):wI b:=by
 obtain⟨_,l2,l3,l4,l5⟩:=hl;have hM:M<9223372036854775807:=by decide
 exact⟨by omega,by omega,by omega,by omega,h.h⟩
theorem Qp {b:rI} (h:sT b) {l:List rK} (hl:zO M l):dM b l=some (zN b l)/\sT (zN b l).1:=by
 obtain⟨r,r1,_,r3,r4,_⟩:=Do h.w h.le hl;unfold zN;rw[r1];obtain⟨k1,k2⟩:=r4 h.ok;exact⟨rfl,G0 (KI k1 r3) k2⟩
theorem LN {b:rI} (h:sT b) {p:sj} (hp:tZ p=true):sT (wT b p).1:=by
 unfold wT;cases (p.1==160)<;>cases (p.1==161)<;>cases (p.1==165)<;>first|exact h|exact (Qp h (CP hp)).2
theorem Im (b:rI) (p:sj):(zx b p).1=b:=by
 unfold zx;split<;>rfl
theorem Js {b:rI} (h:sT b) (p:sj):sT (tS b p).1:=by
 unfold tS;cases hq:Bc b p with
 | false=>exact h
 | true =>
  unfold Bc at hq;simp only[aT]at hq;rw[cT];unfold wB;cases tV (wT b p).2 with
  | true=>exact LN h hq.2.1
  | false=>rw[cF,Im];exact h
theorem LO {p:sj} (hp:tZ p=true):p.1=160\/p.1=161\/p.1=162\/p.1=163\/p.1=165:=by
 unfold tZ at hp;by_cases h0:p.1=160;· exact .inl h0
 by_cases h1:p.1=161;· exact .inr (.inl h1)
 by_cases h2:p.1=162;· exact .inr (.inr (.inl h2))
 by_cases h3:p.1=163;· exact .inr (.inr (.inr (.inl h3)))
 by_cases h5:p.1=165;· exact .inr (.inr (.inr (.inr h5)))
 simp[h0,h1,h2,h3,h5]at hp
structure yu (j:sY):Prop where
 byt:tT j.2.1
 len:j.2.1.length<=M
 ph:rM j.2.2.1 0 2=true
 at':rM (vm j) 0 ((jP j).2.2.2.2.length:Int)=true
 tr:rM (sw j) 0 3=true
 ok:(j.2.2.1==0)=true\/(tZ (jP j)=true/\((jP j).1 != 162)=true/\sT (jB j))
 pl:vM M (jP j)
 bw:wI (jB j)
 bl:yb M (jB j)
theorem yu.jwf {j:sY} (h:yu j):IF j:=⟨h.pl,h.bw⟩
theorem yu.jle {j:sY} (h:yu j):Oq M j:=⟨h.len,h.pl,h.bl⟩
structure tE (a:s9):Prop where
 b:sT (aB a)
 w:(aW a).length<=20
 n:(rL a).length<=6
 lo:rM (sD a) 0 1000000=true
 la:rM (rV a) 0 1000000=true
 ids:∀j∈rL a,rM j.1 1 (rV a)=true
 up:(rL a).Pairwise λi j=>i.1<j.1
 j:∀j∈rL a,yu j
theorem tE.ale {a:s9} (h:tE a):Iw M a:=⟨h.b.le,by have:=h.w;show (aW a).length<=1048576;omega,by have:=h.n;show (rL a).length<=1048576;omega,λx hx=>(h.j x hx).jle⟩
theorem tE.awf {a:s9} (h:tE a):IG a:=⟨h.b.w,by have:=h.n;omega,λx hx=>(h.j x hx).jwf⟩
theorem tE.ok {a:s9} (h:tE a):zf a=true:=by
 have hn:=h.n;have hw:=h.w
 unfold zf;have h1:(List.range (rL a).length).any (Ca (rL a) (rV a))=false:=by
  rw[any_eq_false];intro k hk;have hk:=mem_range.1 hk
  unfold Ca;have hj:=h.j _ (getElem_mem hk)
  have hp:AD (rL a)[k]=true:=by
   unfold AD;simp only[aT,Bool.or_eq_true];refine⟨hj.ph,hj.at',hj.tr,hj.ok.imp (λe=>e) λ⟨k1,k2,k3⟩=>⟨k1,k2,k3.ok⟩⟩
  simp only[List.getElem?_eq_getElem hk,h.ids _ (getElem_mem hk),hp,Bool.and_self,Bool.not_true,Bool.false_or];by_cases h0:0<k
  · have:=List.pairwise_iff_getElem.1 h.up (k-1) k (by omega) hk (by omega);simp only[List.getElem?_eq_getElem (show k-1<(rL a).length by omega),aT,decide_eq_true_eq];omega
  · rw[dF h0];simp
 rw[h1];simp only[Bool.not_false,Bool.true_and,aT,decide_eq_true_eq];exact⟨h.b.ok,by show ((aW a).length:Int)<=20;omega,by omega,h.lo,h.la⟩
noncomputable def uY (b:rI) (j:sY):Nat:=if (jP j).1=163/\b.2.2.2.2.2.2.2.2.2.2≠(jB j).2.2.2.2.2.2.2.2.2.2/\sw j<3 then (jP j).2.2.2.2.length+3 else 1
noncomputable def zc (w:List UInt8) (m:List Int):Bool:=(sy w m).2==0&&((sy w m).1.1 != 162)
noncomputable def vQ (w:List UInt8) (j:sY):Bool:=zc w j.2.1||decide (j.2.2.1>0)
noncomputable def uf (w:List UInt8) (b:rI) (j:sY):Nat :=
 if j.2.2.1=2 then uY b j else if j.2.2.1=1 then (jP j).2.2.2.2.length-(vm j).toNat+1+uY b j
 else if zc w j.2.1=true then (sy w j.2.1).1.2.2.2.2.length+3 else 1
theorem zI {b:rI} (h:sT b) {p:sj} (hp:tZ p=true) (hk:(p.1 != 162)=true):Bc b p=true/\(tS b p).2.1=(wB b p).2/\(tS b p).1=(wB b p).1/\(wB b p).2.1=162/\(wB b p).2.2.1=p.2.1:=by
 have e:Bc b p=true:=by unfold Bc;rw[h.ok,hp,hk];rfl
 have e1:(wT b p).2.1=162/\(wT b p).2.2.1=p.2.1:=by
  unfold wT;cases (p.1==160)<;>cases (p.1==161)<;>cases (p.1==165)<;>exact⟨rfl,rfl⟩
 have e2:(zx b p).2.1=162/\(zx b p).2.2.1=p.2.1:=by
  unfold zx;split<;>exact⟨rfl,rfl⟩
 refine⟨e,?_,?_,?_⟩
 · unfold tS;rw[e,cT]
 · unfold tS;rw[e,cT]
 · unfold wB;cases tV (wT b p).2 with
   | true=>exact e1
   | false=>exact e2
theorem FV (p:sj):(y9 p).1=162/\(y9 p).2.1=p.2.1:=by
 unfold y9;cases tV (162,p.2.1,6,1,p.2.2.2.2)<;>exact⟨rfl,rfl⟩
theorem DT {j:sY} (h:yu j):j.2.2.1=0\/j.2.2.1=1\/j.2.2.1=2:=by
 obtain⟨h1,h2⟩:=sE h.ph;omega
theorem Jt {w:List UInt8} {b:rI} {j:sY} (h:j.2.2.1=1):uf w b j=(jP j).2.2.2.2.length-(vm j).toNat+1+uY b j:=by unfold uf;rw[if_neg (by omega),if_pos h]
theorem Mv {w:List UInt8} {b:rI} {j:sY} (h:j.2.2.1=2):uf w b j=uY b j:=by unfold uf;rw[if_pos h]
def Oc (w:List UInt8) (b b':rI) (j:sY):Ob->Prop
 | .stay j'=>b'=b/\yu j'/\j'.1=j.1/\uf w b j'+1=uf w b j/\vQ w j'=vQ w j
 | .gone d=>sT b'/\uf w b j=1/\(vQ w j=false->d=[])/\(vQ w j=true->∃p,d=[(j.1,p)]/\p.1=162)
theorem Fi (w:List UInt8) {b:rI} (hb:sT b) {j:sY} (h:yu j):Oc w b (uj w b j).1 j (uj w b j).2:=by
 obtain⟨m1,_,m3,m4⟩:=Hm w h.byt h.len;obtain⟨t1,t2⟩:=sE h.tr;obtain⟨a1,a2⟩:=sE h.at';rcases DT h with hp|hp|hp
 ·
   have hne2:¬j.2.2.1=2:=by omega
   have hne1:¬j.2.2.1=1:=by omega
   unfold uj;rw[show (j.2.2.1==0)=true by rw[hp];rfl,cT];have hgood:∀q,zc w j.2.1=q->vQ w j=q:=by
    intro q hq;unfold vQ;rw[hq,dF (by omega),Bool.or_false]
   have hneed:zc w j.2.1=false->uf w b j=1:=by
    intro hq;unfold uf;rw[if_neg hne2,if_neg hne1,if_neg (by rw[hq];simp)]
   cases h3:((sy w j.2.1).2==3)with
   | true =>
    have hg:zc w j.2.1=false:=by
     unfold zc;simp only[beq_iff_eq]at h3;rw[h3];rfl
    exact⟨LM hb,hneed hg,λ_=>rfl,λha=>by rw[hgood _ hg]at ha;cases ha⟩
   | false =>
    cases h4:((sy w j.2.1).2 != 0||((sy w j.2.1).1.1==162))with
    | true =>
     have hg:zc w j.2.1=false:=by
      unfold zc;rw[bne]at h4 ⊢;cases e1:((sy w j.2.1).2==0)<;>cases e2:((sy w j.2.1).1.1==162)<;>simp[e1,e2]at h4 ⊢
     exact⟨KH hb,hneed hg,λ_=>rfl,λha=>by rw[hgood _ hg]at ha;cases ha⟩
    | false =>
     simp only[Bool.or_eq_false_iff]at h4;have h0:(sy w j.2.1).2=0:=by simpa using h4.1
     have hk:((sy w j.2.1).1.1 != 162)=true:=by rw[bne,h4.2];rfl
     have hg:zc w j.2.1=true:=by unfold zc;rw[h0,hk];rfl
     refine⟨rfl,⟨h.byt,h.len,rfl,?_,h.tr,.inr ⟨m4 h0,hk,hb⟩,m3,hb.w,hb.le⟩,rfl,?_,?_⟩
     · unfold rM;rw[dT (by show (0:Int)<=0;omega),dT (by show (0:Int)<=_;omega)];rfl
     · have e1:uf w b j=(sy w j.2.1).1.2.2.2.2.length+3:=by unfold uf;rw[if_neg hne2,if_neg hne1,if_pos hg]
       rw[e1];show uf w b (vh j.1 j.2.1 1 (sy w j.2.1).1 b 0 (sw j))+1=_
       rw[Jt rfl];have e2:uY b (vh j.1 j.2.1 1 (sy w j.2.1).1 b 0 (sw j))=1:=by
        unfold uY;rw[if_neg (λhh=>hh.2.1 rfl)]
       rw[e2];show (sy w j.2.1).1.2.2.2.2.length-(0:Int).toNat+1+1+1=_
       simp
     · rw[hgood _ hg];unfold vQ;rw[show decide ((vh j.1 j.2.1 1 (sy w j.2.1).1 b 0 (sw j)).2.2.1>0)=true from rfl,Bool.or_true]
 ·
   have hok:=h.ok.resolve_left (by rw[hp];simp);unfold uj;rw[show (j.2.2.1==0)=false by rw[hp];rfl,show (j.2.2.1==2)=false by rw[hp];rfl,cF,cF];have hn:uf w b j=(jP j).2.2.2.2.length-(vm j).toNat+1+uY b j:=by unfold uf;rw[if_neg (by omega),if_pos hp]
   have ha:vQ w j=true:=by unfold vQ;rw[dT (show j.2.2.1>0 by omega),Bool.or_true]
   by_cases hlt:vm j<((jP j).2.2.2.2.length:Int)
   · have hw1:rJ (vm j+1)=vm j+1:=sg (by omega) (by
      have:=h.pl.1;have:(jP j).2.2.2.2.length<=1048576:=this
      omega)
     rw[dT hlt,cT,hw1];refine⟨rfl,⟨h.byt,h.len,h.ph,?_,h.tr,.inr hok,h.pl,h.bw,h.bl⟩,rfl,?_,?_⟩
     · show rM (vm j+1) 0 ((jP j).2.2.2.2.length:Int)=true;unfold rM;rw[dT (by omega),dT (by omega)];rfl
     · rw[hn];show uf w b (vh j.1 j.2.1 j.2.2.1 (jP j) (jB j) (vm j+1) (sw j))+1=_
       unfold uf;rw[show (vh j.1 j.2.1 j.2.2.1 (jP j) (jB j) (vm j+1) (sw j)).2.2.1=1 from hp,if_neg (by omega),if_pos rfl];have e2:uY b (vh j.1 j.2.1 j.2.2.1 (jP j) (jB j) (vm j+1) (sw j))=uY b j:=rfl
       rw[e2];show (jP j).2.2.2.2.length-(vm j+1).toNat+1+uY b j+1=_
       omega
     · rw[ha];unfold vQ;rw[show decide ((vh j.1 j.2.1 j.2.2.1 (jP j) (jB j) (vm j+1) (sw j)).2.2.1>0)=true from dT (by show j.2.2.1>0;omega),Bool.or_true]
   · rw[dF hlt,cF];refine⟨rfl,⟨h.byt,h.len,rfl,h.at',h.tr,.inr hok,h.pl,h.bw,h.bl⟩,rfl,?_,?_⟩
     · rw[hn];show uf w b (vh j.1 j.2.1 2 (jP j) (jB j) (vm j) (sw j))+1=_
       rw[Mv rfl];have e2:uY b (vh j.1 j.2.1 2 (jP j) (jB j) (vm j) (sw j))=uY b j:=rfl
       rw[e2];omega
     · rw[ha];unfold vQ;rw[show decide ((vh j.1 j.2.1 2 (jP j) (jB j) (vm j) (sw j)).2.2.1>0)=true from rfl,Bool.or_true]
 ·
   obtain⟨hpp,hk,hB⟩:=h.ok.resolve_left (by rw[hp];simp);unfold uj;rw[show (j.2.2.1==0)=false by rw[hp];rfl,show (j.2.2.1==2)=true by rw[hp];rfl,cF,cT];have hn:uf w b j=uY b j:=by unfold uf;rw[if_pos hp]
   have ha:vQ w j=true:=by unfold vQ;rw[dT (show j.2.2.1>0 by omega),Bool.or_true]
   cases h163:(j.2.2.2.1 != 163)with
   | true =>
    obtain⟨_,d2,_,d4,_⟩:=zI hB hpp hk;refine⟨hb,?_,(λhf=>by rw[ha]at hf;cases hf),λ_=>⟨_,rfl,by rw[d2];exact d4⟩⟩;rw[hn];unfold uY;rw[if_neg (λhh=>by have e:j.2.2.2.1=163:=hh.1;rw[e]at h163;cases h163)]
   | false =>
    have e163:(jP j).1=163:=by
     have:¬j.2.2.2.1≠163:=by simpa using h163
     exact Classical.not_not.1 this
    cases hv:(b.2.2.2.2.2.2.2.2.2.2==(jB j).2.2.2.2.2.2.2.2.2.2)with
    | true =>
     obtain⟨_,d2,_,d4,_⟩:=zI hb hpp hk;refine⟨Js hb _,?_,(λhf=>by rw[ha]at hf;cases hf),λ_=>⟨_,rfl,by rw[d2];exact d4⟩⟩;rw[hn];unfold uY;rw[if_neg (λhh=>hh.2.1 (by simpa using hv))]
    | false =>
     by_cases ht:sw j>=3
     · rw[dT ht];refine⟨hb,?_,(λhf=>by rw[ha]at hf;cases hf),λ_=>⟨_,rfl,(FV _).1⟩⟩;rw[hn];unfold uY;rw[if_neg (λhh=>by have:=hh.2.2;omega)]
     · rw[dF ht,sg (by omega) (by omega)];refine⟨rfl,⟨h.byt,h.len,rfl,?_,?_,.inr ⟨hpp,hk,hb⟩,h.pl,hb.w,hb.le⟩,rfl,?_,?_⟩
       · show rM 0 0 ((jP j).2.2.2.2.length:Int)=true;unfold rM;rw[dT (by omega),dT (by omega)];rfl
       · show rM (sw j+1) 0 3=true;unfold rM;rw[dT (by omega),dT (by omega)];rfl
       · rw[hn];have e1:uY b j=(jP j).2.2.2.2.length+3:=by
          unfold uY;rw[if_pos ⟨e163,by simpa using hv,by omega⟩]
         rw[e1];show uf w b (vh j.1 j.2.1 1 (jP j) b 0 (sw j+1))+1=_
         rw[Jt rfl];have e2:uY b (vh j.1 j.2.1 1 (jP j) b 0 (sw j+1))=1:=by
          unfold uY;rw[if_neg (λhh=>hh.2.1 rfl)]
         rw[e2];show (jP j).2.2.2.2.length-(0:Int).toNat+1+1+1=_
         simp
       · rw[ha];unfold vQ;rw[show decide ((vh j.1 j.2.1 1 (jP j) b 0 (sw j+1)).2.2.1>0)=true from rfl,Bool.or_true]

theorem Ju {a:s9} (h:tE a) {k:Nat} (hk:k<(rL a).length) :
 (∃j',th a k (rL a)[k]=(sW (aB a) (aW a) ((rL a).set k j') (sD a) (rV a),[])/\yu j'/\j'.1=(rL a)[k].1/\uf (aW a) (aB a) j'+1=uf (aW a) (aB a) (rL a)[k]/\vQ (aW a) j'=vQ (aW a) (rL a)[k]) \/
 (∃b' d,th a k (rL a)[k]=(sW b' (aW a) ((rL a).eraseIdx k) (sD a) (rV a),d)/\sT b'/\uf (aW a) (aB a) (rL a)[k]=1/\(vQ (aW a) (rL a)[k]=false->d=[])/\(vQ (aW a) (rL a)[k]=true->∃p,d=[((rL a)[k].1,p)]/\p.1=162)):=by
 have hs:=Fi (aW a) h.b (h.j _ (getElem_mem hk));unfold th;cases hf:(uj (aW a) (aB a) (rL a)[k]).2 with
 | stay j' =>
  rw[hf]at hs;obtain⟨k1,k2,k3,k4,k5⟩:=hs;exact .inl ⟨j',by simp only[k1],k2,k3,k4,k5⟩
 | gone d =>
  rw[hf]at hs;obtain⟨k1,k2,k3,k4⟩:=hs;exact .inr ⟨_,d,rfl,k1,k2,k3,k4⟩
theorem N3 {a:s9} (h:tE a) {k:Nat} (hk:k<(rL a).length) {j':sY} (hj:yu j') (hi:j'.1=(rL a)[k].1):tE (sW (aB a) (aW a) ((rL a).set k j') (sD a) (rV a)):=by
 have hm:∀x∈(rL a).set k j',x∈rL a\/x=j':=λx hx=>List.mem_or_eq_of_mem_set hx;have hmap:((rL a).set k j').map (λj=>j.1)=(rL a).map (λj=>j.1):=by
  rw[List.map_set,hi];apply List.ext_getElem
  · simp
  · intro i h1 h2;rw[List.getElem_set];split
    · rename_i e;subst e;simp
    · rfl
 refine⟨h.b,h.w,?_,h.lo,h.la,λj hj'=>?_,?_,λj hj'=>?_⟩
 · show ((rL a).set k j').length<=6;rw[length_set];exact h.n
 · rcases hm j hj' with hj'|rfl
   · exact h.ids j hj'
   · show rM j.1 1 (rV a)=true;rw[hi];exact h.ids _ (getElem_mem hk)
 · have:=h.up;show ((rL a).set k j').Pairwise λi j=>i.1<j.1
   rw[←List.pairwise_map (f:=λj:sY=>j.1) (R:=λx y=>x<y)]at this ⊢;rw[hmap];exact this
 · rcases hm j hj' with hj'|rfl
   · exact h.j j hj'
   · exact hj
theorem LP {a:s9} (h:tE a) (k:Nat) {b':rI} (hb:sT b'):tE (sW b' (aW a) ((rL a).eraseIdx k) (sD a) (rV a)):=by
 have hs:((rL a).eraseIdx k).Sublist (rL a):=List.eraseIdx_sublist _ _;refine⟨hb,h.w,Nat.le_trans hs.length_le h.n,h.lo,h.la,λj hj=>h.ids j (hs.subset hj),h.up.sublist hs,λj hj=>h.j j (hs.subset hj)⟩
theorem BZ {a:s9} (h:tE a) {k:Nat} (hk:k<(rL a).length):tE (th a k (rL a)[k]).1/\(th a k (rL a)[k]).2.length<=1:=by
 rcases Ju h hk with ⟨j',e,k1,k2,_⟩|⟨b',d,e,k1,_,k3,k4⟩
 · rw[e];exact⟨N3 h hk k1 k2,by simp⟩
 · rw[e];refine⟨LP h k k1,?_⟩;cases ha:vQ (aW a) (rL a)[k]with
   | false=>rw[k3 ha];simp
   | true=>obtain⟨p,rfl,_⟩:=k4 ha;simp
theorem Po {a:s9} (h:tE a) {k:Nat} (hk:k<(rL a).length):dN a (k:Int)=some (th a k (rL a)[k]) :=
 Pn h.b.w h.ale hk (h.j _ (getElem_mem hk)).jwf (h.j _ (getElem_mem hk)).byt
noncomputable def vR:Nat->s9->s9×List uV
 | 0,a=>(a,[])
 | n+1,a=>match rL a with
  | []=>(a,[])
  | j::_=>((vR n (th a 0 j).1).1,(th a 0 j).2++(vR n (th a 0 j).1).2)
abbrev Q8:=Int×Int×List UInt8×Int×Int×Int×Int×Int×List UInt8×Int×Int×List uV×List Pt×List rR×List s5×List Int×List sY
abbrev QV:=Int×List UInt8×Int×Int×Int×Int×Int×List UInt8×Int×Int×List uV×List Pt×List rR×List s5×List Int×List sY
def Hn (i:Int) (a:s9) (all:List uV):Q8:=(i,a.1,a.2.1,a.2.2.2.2.2.2.1,a.2.2.2.2.2.2.2.1,a.2.2.2.2.2.2.2.2.1,a.2.2.2.2.2.2.2.2.2.1,a.2.2.2.2.2.2.2.2.2.2.1,a.2.2.2.2.2.2.2.2.2.2.2.1,a.2.2.2.2.2.2.2.2.2.2.2.2.2.1,a.2.2.2.2.2.2.2.2.2.2.2.2.2.2,all,a.2.2.1,a.2.2.2.1,a.2.2.2.2.1,a.2.2.2.2.2.1,a.2.2.2.2.2.2.2.2.2.2.2.2.1)
def Qq (a:s9) (all:List uV):QV:=(a.1,a.2.1,a.2.2.2.2.2.2.1,a.2.2.2.2.2.2.2.1,a.2.2.2.2.2.2.2.2.1,a.2.2.2.2.2.2.2.2.2.1,a.2.2.2.2.2.2.2.2.2.2.1,a.2.2.2.2.2.2.2.2.2.2.2.1,a.2.2.2.2.2.2.2.2.2.2.2.2.2.1,a.2.2.2.2.2.2.2.2.2.2.2.2.2.2,all,a.2.2.1,a.2.2.2.1,a.2.2.2.2.1,a.2.2.2.2.2.1,a.2.2.2.2.2.2.2.2.2.2.2.2.1)
theorem Ho {n:Nat} (hn:n<=500):∀(m i:Nat) (a:s9) (all:List uV),tE a->i+m=n->all.length+m<=1000->loop (λz:Q8=>eW (n:Int) z.1 z.2.1 z.2.2.1 z.2.2.2.1 z.2.2.2.2.1 z.2.2.2.2.2.1 z.2.2.2.2.2.2.1 z.2.2.2.2.2.2.2.1 z.2.2.2.2.2.2.2.2.1 z.2.2.2.2.2.2.2.2.2.1 z.2.2.2.2.2.2.2.2.2.2.1 z.2.2.2.2.2.2.2.2.2.2.2.1 z.2.2.2.2.2.2.2.2.2.2.2.2.1 z.2.2.2.2.2.2.2.2.2.2.2.2.2.1 z.2.2.2.2.2.2.2.2.2.2.2.2.2.2.1 z.2.2.2.2.2.2.2.2.2.2.2.2.2.2.2.1 z.2.2.2.2.2.2.2.2.2.2.2.2.2.2.2.2) (Hn (i:Int) a all)=some (Qq (vR m a).1 (all++(vR m a).2))
 | 0,i,a,all,h,hi,hl=>by
  refine sm ?_;dsimp only[Hn];unfold eW;rw[sv (by omega),cF,rG,cF];simp only[vR,append_nil];rfl
 | m+1,i,a,all,h,hi,hl=>by
  by_cases hj:0<(rL a).length
  · obtain⟨j,r,hjr⟩:∃j r,rL a=j::r:=by
     cases he:rL a with
     | nil=>rw[he]at hj;simp at hj
     | cons j r=>exact⟨j,r,rfl⟩
    obtain⟨w1,w2⟩:=BZ h hj;have e0:(rL a)[0]=j:=by simp[hjr]
    rw[e0]at w1 w2;have hwk:=Po h hj
    rw[e0]at hwk;have er:vR (m+1) a=((vR m (th a 0 j).1).1,(th a 0 j).2++(vR m (th a 0 j).1).2):=by
     show (match rL a with | []=>(a,[])|j::_=>((vR m (th a 0 j).1).1,(th a 0 j).2++(vR m (th a 0 j).1).2))=_;rw[hjr]
    rw[er];refine sd (y:=Hn ((i+1:Nat):Int) (th a 0 j).1 (all++(th a 0 j).2)) ?_ ?_
    · dsimp only[Hn];unfold eW;have hjl:decide (((a.2.2.2.2.2.2.2.2.2.2.2.2.1.length:Nat):Int)>0)=true:=dT (by show ((rL a).length:Int)>0;omega)
      rw[sG (by omega),cT,hjl,rG,cT];have hwk':dN (a.1,a.2.1,a.2.2.1,a.2.2.2.1,a.2.2.2.2.1,a.2.2.2.2.2.1,a.2.2.2.2.2.2.1,a.2.2.2.2.2.2.2.1,a.2.2.2.2.2.2.2.2.1,a.2.2.2.2.2.2.2.2.2.1,a.2.2.2.2.2.2.2.2.2.2.1,a.2.2.2.2.2.2.2.2.2.2.2.1,a.2.2.2.2.2.2.2.2.2.2.2.2.1,a.2.2.2.2.2.2.2.2.2.2.2.2.2.1,a.2.2.2.2.2.2.2.2.2.2.2.2.2.2) 0=some (th a 0 j):=hwk
      rw[hwk',rG,rP (by omega),rG,rW (by omega)]
    · have:=Ho hn m (i+1) (th a 0 j).1 (all++(th a 0 j).2) w1 (by omega) (by rw[length_append];omega);rw[this,append_assoc]
  · have hj0:rL a=[]:=length_eq_zero_iff.1 (by omega);have er:vR (m+1) a=(a,[]):=by
     show (match rL a with | []=>(a,[])|j::_=>((vR m (th a 0 j).1).1,(th a 0 j).2++(vR m (th a 0 j).1).2))=_;rw[hj0]
    rw[er];refine sm ?_;dsimp only[Hn];unfold eW;have hjl:decide (((a.2.2.2.2.2.2.2.2.2.2.2.2.1.length:Nat):Int)>0)=false:=dF (by show ¬((rL a).length:Int)>0;omega)
    rw[sG (by omega),cT,hjl,rG,cF,append_nil];rfl
theorem LQ {a:s9} (h:tE a) {n:Nat} (hn:n<=500):eX a (n:Int)=some (vR n a):=by
 unfold eX;rw[AY h.ale,rG,EN h.awf,rG,h.ok,Bool.not_true,cF,vI,rG,ze (by omega) (by omega),rG,Bool.not_true,cF];have:=Ho hn n 0 a [] h (by omega) (by simp;omega)
 refine (congrArg (λo=>Option.bind o _) this).trans ?_;rfl
theorem LR (w:List UInt8) (b:rI) (j:sY):1<=uf w b j:=by
 have hl:1<=uY b j:=by unfold uY;split<;>omega
 unfold uf;split
 · exact hl
 · split
   · omega
   · split<;>omega
theorem N4 (w:List UInt8) (b:rI) {j:sY} (h:yu j):uf w b j<=26:=by
 rcases DT h with hp|hp|hp
 · unfold uf;rw[if_neg (by omega),if_neg (by omega)];split
   · rename_i hg;unfold zc at hg;simp only[aT,beq_iff_eq]at hg;obtain⟨_,_,_,m4⟩:=Hm w h.byt h.len;have:=(ur (m4 hg.1)).2.1
     omega
   · omega
 · obtain⟨hpp,_,_⟩:=h.ok.resolve_left (by rw[hp];simp);have:=(ur hpp).2.1
   rw[Jt hp];unfold uY;split<;>omega
 · obtain⟨hpp,_,_⟩:=h.ok.resolve_left (by rw[hp];simp);have:=(ur hpp).2.1
   rw[Mv hp];unfold uY;split<;>omega
theorem Pp {n:Int} (hn:-2147483648<=n/\n<=2147483647):∃x0 l,tA n=x0::l/\tT (x0::l)/\l.length<=3/\tL (uT x0) l=n:=by
 unfold tA;by_cases h1:rM n (-128) 127=true
 · rw[if_pos h1];obtain⟨a,b⟩:=sE h1;refine⟨n%256,[],rfl,λx hx=>?_,by simp,?_⟩
   · simp only[mem_singleton]at hx;subst hx;omega
   · show uT (n%256)=n;unfold uT;split<;>omega
 rw[if_neg h1];have h1':=B0 (Bool.eq_false_iff.2 h1)
 by_cases h2:rM n (-32768) 32767=true
 · rw[if_pos h2];obtain⟨a,b⟩:=sE h2;refine⟨n/256%256,[n%256],rfl,λx hx=>?_,by simp,?_⟩
   · simp only[mem_cons,not_mem_nil,or_false]at hx;rcases hx with rfl|rfl<;>omega
   · show uT (n/256%256)*256+n%256=n;unfold uT;split<;>omega
 rw[if_neg h2];by_cases h3:rM n (-8388608) 8388607=true
 · rw[if_pos h3];obtain⟨a,b⟩:=sE h3;refine⟨n/65536%256,[n/256%256,n%256],rfl,λx hx=>?_,by simp,?_⟩
   · simp only[mem_cons,not_mem_nil,or_false]at hx;rcases hx with rfl|rfl|rfl<;>omega
   · show (uT (n/65536%256)*256+n/256%256)*256+n%256=n;unfold uT;split<;>omega
 rw[if_neg h3];refine⟨n/16777216%256,[n/65536%256,n/256%256,n%256],rfl,λx hx=>?_,by simp,?_⟩
 · simp only[mem_cons,not_mem_nil,or_false]at hx;rcases hx with rfl|rfl|rfl|rfl<;>omega
 · show ((uT (n/16777216%256)*256+n/65536%256)*256+n/256%256)*256+n%256=n;unfold uT;split<;>omega
def AA (w:List UInt8):List Int:=sL 2 (tA 1)++sL 4 (uF w)
def CQ (w:List UInt8) (p:sj):List Int:=if (xe p).length=0\/20<w.length then []else if (AA w++xe p).length<=250 then sL 48 (AA w++xe p)else []
theorem Io (p:sj):(xe p).length<=260:=by
 unfold xe;split
 · rename_i h;have:=tY p.1 (body:=wA p)
   omega
 · simp
theorem N5 {p:sj} (hx:∀x∈p.2.2.2.2,vN x=true) (hn:p.2.2.2.2.length<=10) (hi:rM p.2.1 (-2147483648) 2147483647=true)
 (hk:(cond (p.1==162||p.1==165) (rM p.2.2.1 0 1000&&rM p.2.2.2.1 0 1000) (cond (p.1==160||(p.1==161||p.1==163)) (p.2.2.1==0&&p.2.2.2.1==0) false))=true):tZ p=true:=by
 unfold tZ;have h1:(List.range p.2.2.2.2.length).any (bX p.2.2.2.2)=false:=by
  rw[any_eq_false];intro k hk';have hk':=mem_range.1 hk'
  unfold bX;simp only[List.getElem?_eq_getElem hk',hx _ (getElem_mem hk')];simp
 rw[h1,dT (by omega),hk,hi];rfl

theorem xq {a b:List Int} (h:tT a) (k:tT b):tT (a++b):=λx hx=>(mem_append.1 hx).elim (h x) (k x)
theorem vG {t:Int} {body:List Int} (ht:rM t 0 255=true) (hb:tT body) (hn:body.length<=250):tT (sL t body):=by
 obtain⟨t0,t1⟩:=sE ht;intro x hx;unfold sL at hx;rcases mem_cons.1 hx with rfl|hx
 · omega
 · rcases mem_append.1 hx with hx|hx
   · split at hx
     · simp only[mem_cons,not_mem_nil,or_false]at hx;rcases hx with rfl|rfl<;>omega
     · simp only[mem_singleton]at hx;subst hx;omega
   · exact hb x hx
theorem A8 {n:Int} (hn:-2147483648<=n/\n<=2147483647):tT (tA n):=by
 obtain⟨x0,l,e,h,_⟩:=Pp hn;rw[e];exact h
theorem DU (s:List UInt8):tT (uF s):=by
 intro x hx;unfold uF at hx;obtain⟨b,_,rfl⟩:=mem_map.1 hx;have:=b.toNat_lt
 omega
theorem N6 {v:vl} (hv:vz v=true):tT (um v):=by
 unfold vz at hv;unfold um;by_cases h1:(v.1==5||(v.1==128||v.1==130))=true
 · simp only[Bool.or_eq_true,beq_iff_eq]at h1;rcases h1 with h|h|h<;>rw[h]<;>exact y8
 · rw[Bool.eq_false_iff.2 h1,cF]at hv;cases h2:(v.1==2)with
   | true =>
    rw[h2,cT,aT]at hv;rw[cT];exact A8 (sE hv.1)
   | false =>
    rw[h2,cF]at hv;rw[cF];cases h4:(v.1==4)with
    | true=>rw[cT];exact DU _
    | false =>
     rw[h4,cF]at hv;rw[cF];cases h6:(v.1==6)with
     | true =>
      rw[h6,cT,aT]at hv;rw[cT];exact DR (wS hv.1).2.2
     | false=>rw[cF];exact y8
theorem N7 {x:rK} (hx:vN x=true):tT (zM x):=by
 have hx':=hx;unfold vN at hx';rw[aT]at hx';obtain⟨o1,o2,o3⟩:=wS hx'.1;have hob:=xN (o:=x.1) λy hy=>(o3 y hy).2
 obtain⟨l1,l2,_,_⟩:=Ax hx'.2;exact xq (vG (by decide) (DR o3) (by omega)) (vG l2 (N6 hx'.2) (by omega))
theorem Ip:∀{l:List rK},(∀x∈l,vN x=true)->tT (sK l)
 | [],_=>y8
 | x::l,h=>by
  have hx:=h x (by simp);have hb:=(zH hx).1
  show tT (xx x++sK l);exact xq (vG (by decide) (N7 hx) (by omega)) (Ip λy hy=>h y (mem_cons_of_mem _ hy))
theorem Iq (p:sj):tT (xe p):=by
 unfold xe;split
 · rename_i h;obtain⟨h1,h2,h3⟩:=h;obtain⟨k1,k2,k3,k4,k5,k6⟩:=ur h1;have i1:=vb p.2.1
   have i2:=vb p.2.2.1;have i3:=vb p.2.2.2.1
   refine vG k3 ?_ h3;unfold wA;exact xq (xq (xq (vG (by decide) (A8 k4) (by omega)) (vG (by decide) (A8 ⟨by omega,by omega⟩) (by omega))) (vG (by decide) (A8 ⟨by omega,by omega⟩) (by omega))) (vG (by decide) (Ip k1) h2)
 · exact y8
theorem N8 (w:List UInt8) (p:sj):tT (CQ w p):=by
 unfold CQ;split
 · exact y8
 · rename_i h;simp only[not_or,Nat.not_lt]at h;split
   · rename_i hb;have hwl:(uF w).length=w.length:=by unfold uF;rw[length_map]
     have i1:=vb 1;refine vG (by decide) (xq ?_ (Iq p)) hb;unfold AA;exact xq (vG (by decide) (A8 ⟨by omega,by omega⟩) (by omega)) (vG (by decide) (DU w) (by omega))
   · exact y8
def xO (id:Int) (m:List Int):sY:=(id,m,0,0,0,0,0,[],0,[],[],[],[],[],0,0,0,0,0,0,0)
theorem LS (id:Int) {m:List Int} (hb:tT m) (hn:m.length<=M):yu (xO id m):=by
 have h0:(0:Nat)<=M:=by decide
 refine⟨hb,hn,rfl,rfl,rfl,.inl rfl,⟨h0,λx hx=>by cases hx⟩,⟨by show 0<9223372036854775807;decide,by show 0<9223372036854775807;decide,by show 0<9223372036854775807;decide,by show 0<9223372036854775807;decide,λr hr=>by cases hr⟩,⟨h0,h0,h0,h0,h0⟩⟩
theorem N9 {b:rI} (h:sT b) {w:List UInt8} (hw:w.length<=20):tE (sW b w [] 0 0) :=
 ⟨h,hw,(by show 0<=6;omega),rfl,rfl,(λj hj=>by cases hj),List.Pairwise.nil,(λj hj=>by cases hj)⟩
theorem Fj {a:s9} (h:tE a) {m:List Int} (hn:m.length<=M) (h6:(rL a).length<6) (hl:rV a<1000000):aQ a m=some (sW (aB a) (aW a) (rL a++[xO (rV a+1) m]) (sD a) (rV a+1)):=by
 have hla:=sE h.la;have e1:decide ((a.2.2.2.2.2.2.2.2.2.2.2.2.1.length:Int)>=6)=false:=dF (by show ¬((rL a).length:Int)>=6;omega)
 have e2:decide (a.2.2.2.2.2.2.2.2.2.2.2.2.2.2>=1000000)=false:=dF (by show ¬rV a>=1000000;omega);have e3:rJ (a.2.2.2.2.2.2.2.2.2.2.2.2.2.2+1)=rV a+1:=sg (by show -9223372036854775808<=rV a+1;omega) (by show rV a+1<=_;omega)
 unfold aQ;rw[AY h.ale,rG,EN h.awf,rG,h.ok,Bool.not_true,cF,e1,cF,e2,rG,cF,yJ hn,rG,e3];rw[rP (by show (rL a).length+1<=_;omega),rG];rfl
theorem Ir {a:s9} (h:tE a) {m:List Int} (hf:¬((rL a).length<6/\rV a<1000000)):aQ a m=some (sW (aB a) (aW a) (rL a) (vF (sD a)) (rV a)):=by
 unfold aQ;rw[AY h.ale,rG,EN h.awf,rG,h.ok,Bool.not_true,cF];have key:(cond (decide ((a.2.2.2.2.2.2.2.2.2.2.2.2.1.length:Int)>=6)) (some true) (some (decide (a.2.2.2.2.2.2.2.2.2.2.2.2.2.2>=1000000))))=some true:=by
  by_cases h6:(rL a).length<6
  · have h7:¬rV a<1000000:=λh7=>hf ⟨h6,h7⟩;rw[dF (by show ¬((rL a).length:Int)>=6;omega),cF,dT (by show rV a>=1000000;omega)]
  · rw[dT (by show ((rL a).length:Int)>=6;omega),cT]
 rw[key,rG,cT,EB,rG];rfl
theorem ED {a:s9} (h:tE a) {m:List Int} (hb:tT m) (hn:m.length<=M) (h6:(rL a).length<6) (hl:rV a<1000000):tE (sW (aB a) (aW a) (rL a++[xO (rV a+1) m]) (sD a) (rV a+1)):=by
 have hla:=sE h.la;refine⟨h.b,h.w,?_,h.lo,?_,λj hj=>?_,?_,λj hj=>?_⟩
 · show (rL a++[_]).length<=6;rw[length_append];show (rL a).length+1<=6;omega
 · exact ze (by show 0<=rV a+1;omega) (by show rV a+1<=1000000;omega)
 · rcases mem_append.1 hj with hj|hj
   · obtain⟨k1,k2⟩:=sE (h.ids j hj);exact ze k1 (by show j.1<=rV a+1;omega)
   · rw[mem_singleton]at hj;subst hj;exact ze (by show 1<=rV a+1;omega) (by show rV a+1<=rV a+1;omega)
 · show (rL a++[_]).Pairwise λi j:sY=>i.1<j.1;refine List.pairwise_append.2 ⟨h.up,List.pairwise_singleton _ _,λx hx y hy=>?_⟩;rw[mem_singleton]at hy;subst hy;have:=(sE (h.ids x hx)).2
   show x.1<rV a+1;omega
 · rcases mem_append.1 hj with hj|hj
   · exact h.j j hj
   · rw[mem_singleton]at hj;subst hj;exact LS _ hb hn
theorem LT {a:s9} (h:tE a):tE (sW (aB a) (aW a) (rL a) (vF (sD a)) (rV a)):=⟨h.b,h.w,h.n,Dk h.lo,h.la,h.ids,h.up,h.j⟩
structure C0 (p:sj):Prop where
 k:p.1=160\/p.1=161\/p.1=163\/p.1=165
 i:0<=p.2.1/\p.2.1<100
 ab:(p.1=165/\(0<=p.2.2.1/\p.2.2.1<=1000)/\(0<=p.2.2.2.1/\p.2.2.2.1<=1000))\/(p.1≠165/\p.2.2.1=0/\p.2.2.2.1=0)
 n:p.2.2.2.2.length<=3
 s:∀x∈p.2.2.2.2,xB x
 o:p.1≠163->∀x∈p.2.2.2.2,vN x=true
theorem C0.le {p:sj} (h:C0 p):vM M p:=⟨by have:=h.n;show _<=1048576;omega,λx hx=>(h.s x hx).le⟩
theorem C0.ok {p:sj} (h:C0 p) (hk:p.1≠163):tZ p=true:=by
 have hi:=h.i;refine N5 (h.o hk) (by have:=h.n;omega) (ze (by omega) (by omega)) ?_;rcases h.ab with ⟨e,⟨a1,a2⟩,b1,b2⟩|⟨e,a1,b1⟩
 · rw[e,ze a1 a2,ze b1 b2];rfl
 · rw[a1,b1];rcases h.k with k|k|k|k
   · rw[k];rfl
   · rw[k];rfl
   · exact absurd k hk
   · exact absurd k e
theorem Pq {c:sc} (h:CW c) {b:rI} (hb:wI b) (hn:∀c,CW c->Dr Nm (ay c b)):Dr C0 (cU c b):=by
 unfold cU;refine Dr.bind (Cd h (by decide)) λc x hc hx=>?_;refine Dr.bind (uy hc 100) λc i hc hi=>?_;have hi2:=hi.2 (by omega)
 have hx:x=160\/x=161\/x=163\/x=165:=by
  simp only[mem_cons,not_mem_nil,or_false]at hx;rcases hx with h|h|h|h|h
  · exact .inl h
  · exact .inr (.inl h)
  · exact .inr (.inr (.inl h))
  · exact .inr (.inr (.inl h))
  · exact .inr (.inr (.inr h))
 cases h3:(x==163)with
 | true =>
  have h3:x=163:=by simpa using h3
  subst h3;show Dr C0 ((fr c b).bind λt18=>some (t18.1,((163:Int),i,0,0,t18.2)))
  refine Dr.bind (NK hc hb hn) λc l hc hl=>?_;exact Dr.some hc ⟨.inr (.inr (.inl rfl)),⟨hi.1,hi2⟩,.inr ⟨by show (163:Int)≠165;omega,rfl,rfl⟩,hl.1,hl.2,λhk=>absurd rfl hk⟩
 | false =>
  have h3:x≠163:=by simpa using h3
  obtain⟨c1,k,e1,w1,hk⟩:=uI hc (n:=4) (by decide);have e1':aa c 4=some (c1,(k:Int)):=e1
  rw[cF];show Dr C0 ((aa c 4).bind _)
  rw[e1',rG];obtain⟨d,d1,d2,d3,d4,d5⟩:=se (step:=λz:Int×List Int×Int×Int×Int×Int×Int×Int×List rK=>cS b z.1 z.2.1 z.2.2.1 z.2.2.2.1 z.2.2.2.2.1 z.2.2.2.2.2.1 z.2.2.2.2.2.2.1 z.2.2.2.2.2.2.2.1 z.2.2.2.2.2.2.2.2)
   (λj z=>z.1=((k-j:Nat):Int)/\CW (z.2.1,z.2.2.1,z.2.2.2.1)/\(z.2.2.2.2.1=x/\z.2.2.2.2.2.1=i/\z.2.2.2.2.2.2.1=0/\z.2.2.2.2.2.2.2.1=0)/\z.2.2.2.2.2.2.2.2.length=j/\∀y∈z.2.2.2.2.2.2.2.2,xB y/\vN y=true) k
   (λd=>CW (d.1,d.2.1,d.2.2.1)/\(d.2.2.2.1=x/\d.2.2.2.2.1=i/\d.2.2.2.2.2.1=0/\d.2.2.2.2.2.2.1=0)/\d.2.2.2.2.2.2.2.length=k/\∀y∈d.2.2.2.2.2.2.2,xB y/\vN y=true)
   (λj z hj ⟨z1,z2,z3,z4,z5⟩=>by
    obtain⟨q,c0,c1,c2,r0,r1,r2,r3,out⟩:=z;simp only at z1 z2 z3 z4 z5;subst z1 z4;left;obtain⟨c',o,x1,x2,x3⟩:=hn _ z2;refine⟨_,by
     show cS b _ _ _ _ _ _ _ _ _=_;unfold cS;rw[dT (show ((k-out.length:Nat):Int)>0 by omega),cT,x1,rG,rP (by show _+1<=_;omega),rG],?_,x2,z3,by simp,?_⟩
    · show rJ (((k-out.length:Nat):Int)-1)=_;rw[sg (by omega) (by omega)];omega
    · intro y hy;rcases mem_append.1 hy with hy|hy
      · exact z5 y hy
      · rw[mem_singleton]at hy;subst hy;have:=x3.n10
        refine⟨⟨by show o.length<=1000;omega,by show (0:Nat)<=100;omega,by show (0:Nat)<=1000;omega,Mm 5⟩,?_⟩;unfold vN;rw[Ii x3];rfl)
   (λz ⟨z1,z2,z3,z4,z5⟩=>by
    obtain⟨q,c0,c1,c2,r0,r1,r2,r3,out⟩:=z;simp only at z1 z2 z3 z4 z5;rw[Nat.sub_self]at z1;subst z1;refine⟨(c0,c1,c2,r0,r1,r2,r3,out),?_,z2,z3,z4,z5⟩;show cS b _ _ _ _ _ _ _ _ _=_
    unfold cS;rw[dF (show ¬((0:Nat):Int)>0 by decide),cF]) (x:=((k:Int),c1.1,c1.2.1,c1.2.2,x,i,0,0,[])) ⟨rfl,w1,⟨rfl,rfl,rfl,rfl⟩,rfl,by simp⟩
  show Dr C0 ((loop (λz:Int×List Int×Int×Int×Int×Int×Int×Int×List rK=>cS b z.1 z.2.1 z.2.2.1 z.2.2.2.1 z.2.2.2.2.1 z.2.2.2.2.2.1 z.2.2.2.2.2.2.1 z.2.2.2.2.2.2.2.1 z.2.2.2.2.2.2.2.2) ((k:Int),c1.1,c1.2.1,c1.2.2,x,i,0,0,[])).bind _);rw[d1,rG];obtain⟨q0,q1,q2,r0,r1,r2,r3,l⟩:=d;simp only at d2 d3 d4 d5 ⊢;obtain⟨rfl,rfl,rfl,rfl⟩:=d3;cases h5:(r0==165)with
  | true =>
   have h5:r0=165:=by simpa using h5
   rw[cT];refine Dr.bind (uy d2 3) λc s hc hs=>?_;refine Dr.bind (uy hc 5) λc t hc ht=>?_;have hs2:=hs.2 (by omega)
   have ht2:=ht.2 (by omega);exact Dr.some hc ⟨hx,⟨hi.1,hi2⟩,.inl ⟨h5,⟨hs.1,by show s<=1000;omega⟩,ht.1,by show t<=1000;omega⟩,by show l.length<=3;omega,λy hy=>(d5 y hy).1,λ_ y hy=>(d5 y hy).2⟩
  | false =>
   have h5:r0≠165:=by simpa using h5
   rw[cF];exact Dr.some d2 ⟨hx,⟨hi.1,hi2⟩,.inr ⟨h5,rfl,rfl⟩,by show l.length<=3;omega,λy hy=>(d5 y hy).1,λ_ y hy=>(d5 y hy).2⟩
def wj (e:rR):Option rR:=cond e.2.2.2.2 (some e) (cond (decide (e.2.2.2.1>=4)) none (some (e.1,e.2.1,e.2.2.1,rJ (e.2.2.2.1+1),e.2.2.2.2)))
theorem DV {e y:rR} (h:wh e=true) (hy:wj e=some y):wh y=true/\y.1=e.1/\y.2.1=e.2.1:=by
 unfold wj at hy;cases hs:e.2.2.2.2 with
 | true=>rw[hs,cT]at hy;cases hy;exact⟨h,rfl,rfl⟩
 | false =>
  rw[hs,cF]at hy;by_cases h4:e.2.2.2.1>=4
  · rw[dT h4,cT]at hy;cases hy
  · rw[dF h4,cF]at hy;cases hy;unfold wh at h ⊢;simp only[aT]at h;obtain⟨f1,f2,f3,f4,f5⟩:=h;obtain⟨g1,g2⟩:=sE f4;refine⟨?_,rfl,rfl⟩;show (rM e.1 1 99&&(rM e.2.1 1 9999&&(rM e.2.2.1 0 7&&(rM (rJ (e.2.2.2.1+1)) 0 4&&(!false||_)))))=true
    rw[f1,f2,f3,sg (by omega) (by omega),ze (by omega) (by omega)];rfl
theorem Od {l:List rR} (h:FB l):FB (l.filterMap wj):=by
 refine⟨λx hx=>?_,?_,Nat.le_trans (List.length_filterMap_le _ _) h.n⟩
 · obtain⟨e,he,hy⟩:=List.mem_filterMap.1 hx;exact (DV (h.e e he) hy).1
 · refine List.pairwise_filterMap.2 ?_;refine List.Pairwise.imp_of_mem ?_ h.o;intro a b ha hb hab x hx y hy;obtain⟨_,a1,a2⟩:=DV (h.e a ha) hx;obtain⟨_,b1,b2⟩:=DV (h.e b hb) hy;unfold lt at hab ⊢;rw[a1,a2,b1,b2];exact hab
def Jv (b:rI):rI:=(b.1,b.2.1,b.2.2.1,b.2.2.2.1.filterMap wj,b.2.2.2.2.1,b.2.2.2.2.2.1,vF b.2.2.2.2.2.2.1,b.2.2.2.2.2.2.2.1,b.2.2.2.2.2.2.2.2.1,b.2.2.2.2.2.2.2.2.2.1,b.2.2.2.2.2.2.2.2.2.2)
noncomputable def xf (b:rI):rI:=(bE b).getD b
noncomputable def zz (b:rI):rI:=xf (Jv b)
theorem Pr {b:rI} (h:wD b) (hv:vc (b.2.2.2.2.1,b.2.2.2.2.2.1) (b.2.2.1.length:Int)=true):bE b=some (xf b)/\sT (xf b)/\(xf b).1=b.1/\(xf b).2.1=b.2.1/\(xf b).2.2.1=b.2.2.1/\(xf b).2.2.2.2.2.2.1=b.2.2.2.2.2.2.1/\(xf b).2.2.2.2.2.2.2.1=b.2.2.2.2.2.2.2.1/\(xf b).2.2.2.2.2.2.2.2.1=b.2.2.2.2.2.2.2.2.1/\(xf b).2.2.2.2.2.2.2.2.2.1=b.2.2.2.2.2.2.2.2.2.1/\(xf b).2.2.2.2.2.2.2.2.2.2=vF b.2.2.2.2.2.2.2.2.2.2:=by
 obtain⟨r,r1,r2,r3,r4,r5,r6,q1,q2,q3,q4,q5,q6,q7⟩:=JU h;have e:xf b=r:=by unfold xf;rw[r1];rfl
 rw[e];have hok:sO r=true:=r3.ok (by rw[r4,r5,r6];exact hv)
 refine⟨r1,G0 (KI r3 r3.le) hok,q1,q2,r4,q3,q4,q5,q6,?_⟩;rw[EB]at q7;exact (Option.some.inj q7).symm
theorem Hp {b:rI} (h:sT b):wD (Jv b):=by
 have s:=h.sok;refine⟨s.id,s.name,s.n1,s.n6,s.p,(Od (JT s.f)).ok,?_,s.q,s.v,s.s,s.i,s.h⟩;obtain⟨h1,h2,h3,h4,h5⟩:=vv (wC h.ok).1;unfold ux;simp only[aT];exact⟨Dk h1,h2,h3,h4,h5⟩
theorem Ps {b:rI} (h:sT b):sT (zz b)/\(zz b).2.1=b.2.1/\(zz b).2.2.2.2.2.2.2.1=b.2.2.2.2.2.2.2.1/\(zz b).2.2.2.2.2.2.2.2.1=b.2.2.2.2.2.2.2.2.1/\(zz b).2.2.2.2.2.2.2.2.2.2=vF b.2.2.2.2.2.2.2.2.2.2:=by
 obtain⟨t1,t2,t3,t4,t5,t6,t7,t8,t9,t10⟩:=Pr (Hp h) h.v;exact⟨t2,t4,t7,t8,t10⟩
theorem uH {α β:Type} {o:Option α} {a:α} {k:α->Option β} {r:Option β} (h:o=some a) (hk:k a=r):o.bind k=r:=by rw[h];exact hk
theorem Pu {a:s9} (h:tE a) {b:rI} (hb:sT b):tE (sW b (aW a) (rL a) (sD a) (rV a)):=⟨hb,h.w,h.n,h.lo,h.la,h.ids,h.up,h.j⟩
theorem vH {b:List Int} (t:Int) {body:List Int} (hb:b.length<=1200) (hn:body.length<=M):ak b t body=some (b++if rM t 0 255=true/\body.length<=250 then sL t body else []):=by
 have hM:M=1048576:=rfl;unfold ak;rw[vf (by omega),rG,xP,rG];cases hp:rM t 0 255 with
 | false=>rw[Bool.not_false,cT,rG,cT,if_neg (λh=>by cases h.1),append_nil]
 | true =>
  rw[Bool.not_true,cF,rG];by_cases h250:body.length<=250
  · have hw:IntKind.u8.wrap t=t:=by obtain⟨a,c⟩:=sE hp;rw[w8];omega
    have hl:IntKind.u8.wrap ((body.length:Int))=(body.length:Int):=by rw[w8];omega
    rw[dF (by omega),cF,hw,hl,if_pos ⟨rfl,h250⟩,rP (by show b.length+1<=_;omega),rG];by_cases h127:(body.length:Int)>127
    · rw[dT h127,cT,rP (by rw[length_append];show b.length+1+1<=_;omega),rG,rP (by simp only[length_append,length_singleton];omega),rG,rP (by simp only[length_append,length_singleton];omega),rG];unfold sL;rw[if_pos (by omega)];simp
    · rw[dF h127,cF,rP (by simp only[length_append,length_singleton];omega),rG,rP (by simp only[length_append,length_singleton];omega),rG];unfold sL;rw[if_neg (by omega)];simp
  · rw[dT (by omega),cT,if_neg (λh=>h250 h.2),append_nil]
theorem Is {o:List Int} (h:vd o=true):fe o=some (sA o):=by
 obtain⟨o1,o2,o3⟩:=wS h;have hM:M=1048576:=rfl
 unfold fe;rw[Hz,C9 (by omega),rG,h,Bool.not_true,cF];obtain⟨v,e1,rfl⟩:=se (step:=λz:Int×List Int=>cH o z.1 z.2) (λk z=>z=((k:Int),sA (o.take k))) o.length (λv=>v=sA o)
  (λk z hk e=>by
   subst e;have hx:=o3 _ (getElem_mem hk)
   have hl:(sA (o.take k)).length<=3*(o.take k).length:=xN λx hx=>(o3 x (mem_of_mem_take hx)).2;rw[length_take]at hl;have hg:=Fe o[k]
   refine .inl ⟨_,?_,rfl⟩;show cH o (k:Int) _=_
   unfold cH;rw[sG (by omega),cT,sa hk,rG,LI ⟨hx.1,by omega⟩,rG,rP (by show (sA (o.take k)).length+(grp o[k]).length<=_;omega),rG,rW (by omega),take_add_one,List.getElem?_eq_getElem hk];unfold sA;rw[flatMap_append];simp)
  (λz e=>by
   subst e;refine⟨_,?_,rfl⟩;show cH o (o.length:Int) _=_
   unfold cH;rw[sv (by omega),cF,take_length]) (x:=(0,[])) rfl
 have e1:loop (λz=>cH o z.1 z.2) (0,([]:List Int))=some (sA o):=e1;rw[e1];rfl
theorem Na {b:List Int} (hb:b.length<=1000) {v:vl} (h:vz v=true):ge b v=some (b++sL v.1 (um v)):=by
 have hM:M=1048576:=rfl;obtain⟨l1,l2⟩:=Ax h;have hk:rM v.1 0 255=true:=by
  unfold vz at h;by_cases c1:(v.1==5||(v.1==128||v.1==130))=true
  · simp only[Bool.or_eq_true,beq_iff_eq]at c1;rcases c1 with c|c|c<;>rw[c]<;>rfl
  · rw[show (v.1==5||(v.1==128||v.1==130))=false by simpa using c1,cF]at h;by_cases c2:v.1=2
    · rw[c2];rfl
    · rw[beq_eq_false_iff_ne.2 c2,cF]at h;by_cases c4:v.1=4
      · rw[c4];rfl
      · rw[beq_eq_false_iff_ne.2 c4,cF]at h;by_cases c6:v.1=6
        · rw[c6];rfl
        · rw[beq_eq_false_iff_ne.2 c6,cF]at h;cases h
 have fin:∀body,um v=body->ak b v.1 body=some (b++sL v.1 (um v)):=λbody e=>by
  subst e;rw[vH _ (by omega) (by omega),if_pos ⟨hk,by omega⟩]
 have ho6:v.2.2.2.length<=M:=by
  unfold vz at h;by_cases c6:v.1=6
  · rw[c6]at h;simp only[show ((6:Int)==5)=false from rfl,show ((6:Int)==128)=false from rfl,show ((6:Int)==130)=false from rfl,Bool.or_self,cF,show ((6:Int)==2)=false from rfl,show ((6:Int)==4)=false from rfl,show ((6:Int)==6)=true from rfl,cT,aT]at h;have:=Fg h.1
    omega
  · have:v.2.2.2.length=0:=by
     revert h
     cases (v.1==5||(v.1==128||v.1==130))with
     | true=>intro h;simp only[cT,aT,beq_iff_eq]at h;omega
     | false =>
      rw[cF];cases (v.1==2)with
      | true=>intro h;simp only[cT,aT,beq_iff_eq]at h;omega
      | false =>
       rw[cF];cases (v.1==4)with
       | true=>intro h;simp only[cT,aT,beq_iff_eq]at h;omega
       | false=>intro h;rw[cF,beq_eq_false_iff_ne.2 c6]at h;cases h
    omega
 unfold ge;rw[Fo ho6,rG,h,Bool.not_true,cF];by_cases h2:v.1=2
 · have e:um v=tA v.2.1:=by unfold um;rw[beq_iff_eq.2 h2];rfl
   have hr:-2147483648<=v.2.1/\v.2.1<=2147483647:=by
    unfold vz at h;rw[h2]at h;simp only[show ((2:Int)==5)=false from rfl,show ((2:Int)==128)=false from rfl,show ((2:Int)==130)=false from rfl,Bool.or_self,cF,show ((2:Int)==2)=true from rfl,cT,aT]at h;exact sE h.1
   rw[beq_iff_eq.2 h2,cT,zt,rG,y7 hr,fin _ e];rfl
 rw[beq_eq_false_iff_ne.2 h2,cF];by_cases h4:v.1=4
 · have e:um v=uF v.2.2.1:=by unfold um;rw[beq_eq_false_iff_ne.2 h2,beq_iff_eq.2 h4];rfl
   rw[beq_iff_eq.2 h4,cT,fin _ e];rfl
 rw[beq_eq_false_iff_ne.2 h4,cF];by_cases h6:v.1=6
 · have e:um v=sA v.2.2.2:=by unfold um;rw[beq_eq_false_iff_ne.2 h2,beq_eq_false_iff_ne.2 h4,beq_iff_eq.2 h6];rfl
   have ho:vd v.2.2.2=true:=by
    unfold vz at h;rw[h6]at h;simp only[show ((6:Int)==5)=false from rfl,show ((6:Int)==128)=false from rfl,show ((6:Int)==130)=false from rfl,Bool.or_self,cF,show ((6:Int)==2)=false from rfl,show ((6:Int)==4)=false from rfl,show ((6:Int)==6)=true from rfl,cT,aT]at h;exact h.1
   rw[beq_iff_eq.2 h6,cT,Is ho,rG,fin _ e];rfl
 · have e:um v=[]:=by unfold um;rw[beq_eq_false_iff_ne.2 h2,beq_eq_false_iff_ne.2 h4,beq_eq_false_iff_ne.2 h6];rfl
   rw[beq_eq_false_iff_ne.2 h6,cF,fin _ e];rfl
theorem Oe {l:List rK} (hx:∀x∈l,vN x=true) (hn:l.length<=10):gg l=some (sK l):=by
 have hM:M=1048576:=rfl;have hlen:∀k,(sK (l.take k)).length<=110*k:=λk=>by
  induction k with
  | zero=>simp[sK]
  | succ k ih =>
   rw[take_add_one];unfold sK at ih ⊢;rw[flatMap_append,length_append];cases hk:l[k]? with
   | none=>show (List.flatMap xx (l.take k)).length+0<=_;omega
   | some x =>
    have:=(zH (hx x (List.mem_of_getElem? hk))).2;show (List.flatMap xx (l.take k)).length+(xx x++[]).length<=_
    rw[append_nil];omega
 unfold gg;obtain⟨v,e1,rfl⟩:=se (step:=λz:Int×List Int=>cI l z.1 z.2) (λk z=>z=((k:Int),sK (l.take k))) l.length (λv=>v=sK l)
  (λk z hk e=>by
   subst e;have hxk:=hx _ (getElem_mem hk)
   have hl:=hlen k;obtain⟨b1,b2⟩:=zH hxk;have hxk':=hxk
   unfold vN at hxk';rw[aT]at hxk';obtain⟨o1,o2,o3⟩:=wS hxk'.1;have ho:=xN (o:=l[k].1) λy hy=>(o3 y hy).2
   have ht:=tY 6 (body:=sA l[k].1);refine .inl ⟨_,?_,rfl⟩;show cI l (k:Int) _=_
   unfold cI;rw[sG (by omega),cT,sa hk,rG,Is hxk'.1,rG,vH _ (by simp) (by omega),if_pos ⟨by decide,by omega⟩,rG,rG,nil_append,Na (by omega) hxk'.2,rG,vH _ (by show (sK (l.take k)).length<=1200;omega) (by show (zM l[k]).length<=_;omega),if_pos ⟨by decide,by show (zM l[k]).length<=250;omega⟩,rG,rW (by omega),take_add_one,List.getElem?_eq_getElem hk];unfold sK;rw[flatMap_append];simp[xx,zM])
  (λz e=>by
   subst e;refine⟨_,?_,rfl⟩;show cI l (l.length:Int) _=_
   unfold cI;rw[sv (by omega),cF,take_length]) (x:=(0,[])) rfl
 have e1:loop (λz=>cI l z.1 z.2) (0,([]:List Int))=some (sK l):=e1;rw[e1];rfl
theorem Fk {p:sj} (hp:vM M p):dj p=some (xe p):=by
 have hM:M=1048576:=rfl;unfold dj xe;rw[JO hp,rG];cases hk:tZ p with
 | false=>rw[Bool.not_false,cT,if_neg (λh=>by cases h.1)]
 | true =>
  obtain⟨k1,k2,k3,k4,k5,k6⟩:=ur hk;have i1:=vb p.2.1
  have i2:=vb p.2.2.1;have i3:=vb p.2.2.2.1
  have t1:=tY 2 (body:=tA p.2.1);have t2:=tY 2 (body:=tA p.2.2.1)
  have t3:=tY 2 (body:=tA p.2.2.2.1);rw[Bool.not_true,cF];unfold gQ;rw[Oe k1 k2,rG];by_cases ha:(sK p.2.2.2.2).length<=250
  · rw[dF (by omega),cF,zt,rG,y7 k4,vH _ (by simp) (by omega),if_pos ⟨by decide,by omega⟩,rG,zt,rG,y7 (by omega),vH _ (by simp only[nil_append];omega) (by omega),if_pos ⟨by decide,by omega⟩,rG,zt,rG,y7 (by omega),vH _ (by simp only[nil_append,length_append];omega) (by omega),if_pos ⟨by decide,by omega⟩,rG,vH _ (by simp only[nil_append,length_append];omega) (by omega),if_pos ⟨by decide,ha⟩,rG];have eb:([]++sL 2 (tA p.2.1)++sL 2 (tA p.2.2.1)++sL 2 (tA p.2.2.2.1)++sL 48 (sK p.2.2.2.2))=wA p:=by unfold wA;simp
    rw[eb];have t4:=tY 48 (body:=sK p.2.2.2.2)
    have hbl:(wA p).length<=400:=by unfold wA;simp only[length_append];omega
    by_cases hb:(wA p).length<=250
    · simp only[rG,dT (show ((wA p).length:Int)<=250 by omega),Bool.not_true,cF];rw[vH _ (by simp) (by omega),if_pos ⟨k3,hb⟩,if_pos ⟨trivial,ha,hb⟩,rG,nil_append]
    · simp only[rG,dF (show ¬((wA p).length:Int)<=250 by omega),Bool.not_false,cT];rw[if_neg (λh=>hb h.2.2)]
  · rw[dT (by omega),cT,rG,Bool.not_false,cT,if_neg (λh=>ha h.2.1)]
theorem BD (w:List UInt8) {p:sj} (hp:vM M p):bQ w p=some (CQ w p):=by
 have hM:M=1048576:=rfl;have hpl:=Io p
 unfold bQ CQ;rw[Fk hp,rG];by_cases h0:(xe p).length=0
 · rw[if_pos (Or.inl h0),show ((((xe p).length:Nat):Int)==0)=true by rw[h0];rfl];rfl
 · rw[beq_eq_false_iff_ne.2 (show (((xe p).length:Nat):Int)≠0 by omega),cF,rG];by_cases hw:20<w.length
   · rw[if_pos (Or.inr hw),dT (by omega)];rfl
   · have hwl:(uF w).length=w.length:=by unfold uF;rw[length_map]
     have hi1:=vb 1;have ht1:=tY 2 (body:=tA 1)
     have ht2:=tY 4 (body:=uF w);have hhd:(AA w).length<=40:=by unfold AA;rw[length_append];omega
     rw[if_neg (by omega),dF (by omega),cF,zt,rG,y7 (by omega),vH _ (by simp) (by omega),if_pos ⟨by decide,by omega⟩,rG,nil_append,vH _ (by omega) (by omega),if_pos ⟨by decide,by omega⟩,rG];show ((sf (AA w) (xe p)).bind _)=_
     rw[rP (by omega),rG];by_cases hb:(AA w++xe p).length<=250
     · rw[dF (by omega),cF,vH _ (by simp) (by omega),if_pos ⟨by decide,hb⟩,if_pos hb];rfl
     · rw[dT (by omega),cT,if_neg hb]

def KJ (m:List Int):Prop:=tT m/\m.length<=1000
theorem KK {c:sc} (h:CW c) {m:List Int} (hm:tT m) (hl:m.length<=900):Dr KJ (eu c m):=by
 have no:∀c,CW c->Dr KJ (some (c,m)):=λc hc=>Dr.some hc ⟨hm,by omega⟩;unfold eu;by_cases h0:(m.length:Int)=0
 · rw[beq_iff_eq.2 h0,cT];exact no c h
 rw[beq_eq_false_iff_ne.2 h0,cF];refine Dr.bind (uy h 5) λc t hc _=>?_;refine Dr.cond ?_ (Dr.cond ?_ (Dr.cond ?_ (no c hc)))
 · obtain⟨c1,k,e1,w1,hk⟩:=uI hc (n:=m.length) (by omega);rw[e1,rG];refine Dr.bind (Cd w1 (by decide)) λc x hc hx=>?_;rw[vk hk,rG,List.getElem?_eq_getElem hk,rG];refine Dr.some hc ⟨λy hy=>?_,by rw[length_set];omega⟩;rcases List.mem_or_eq_of_mem_set hy with hy|rfl
   · exact hm y hy
   · show 0<=IntKind.u8.wrap x/\IntKind.u8.wrap x<=255;rw[w8];omega
 · rw[rP (by show m.length+1<=_;omega),rG];refine Dr.some hc ⟨xq hm (λy hy=>by rw[mem_singleton.1 hy];decide),by rw[length_append];show m.length+1<=1000;omega⟩
 · obtain⟨c1,k,e1,w1,hk⟩:=uI hc (n:=m.length) (by omega);have hx:tF m.length 0 (k:Int)=some (0,k):=zq (a:=0) (Nat.zero_le _) (by omega)
   rw[e1,rG];simp only;rw[hx,rG];refine Dr.some w1 ⟨λy hy=>hm y (mem_of_mem_take (mem_of_mem_drop hy)),?_⟩;rw[length_drop,length_take];show min k m.length-0<=1000;omega
theorem Hq {c:sc} (h:CW c) {n:Nat} (hn:n<=1000) (k i a b:Int):Dr (λp:sj=>p.2.2.2.2.length=n/\∀x∈p.2.2.2.2,xB x) ((loop (λz:Int×List Int×Int×Int×Int×Int×Int×Int×List rK=>cP z.1 z.2.1 z.2.2.1 z.2.2.2.1 z.2.2.2.2.1 z.2.2.2.2.2.1 z.2.2.2.2.2.2.1 z.2.2.2.2.2.2.2.1 z.2.2.2.2.2.2.2.2) ((n:Int),c.1,c.2.1,c.2.2,k,i,a,b,[])).bind λd=>some ((d.1,d.2.1,d.2.2.1),d.2.2.2)):=by
 obtain⟨d,d1,d2,d3,d4⟩:=se (step:=λz:Int×List Int×Int×Int×Int×Int×Int×Int×List rK=>cP z.1 z.2.1 z.2.2.1 z.2.2.2.1 z.2.2.2.2.1 z.2.2.2.2.2.1 z.2.2.2.2.2.2.1 z.2.2.2.2.2.2.2.1 z.2.2.2.2.2.2.2.2)
  (λj z=>z.1=((n-j:Nat):Int)/\CW (z.2.1,z.2.2.1,z.2.2.2.1)/\z.2.2.2.2.2.2.2.2.length=j/\∀y∈z.2.2.2.2.2.2.2.2,xB y) n
  (λd=>CW (d.1,d.2.1,d.2.2.1)/\d.2.2.2.2.2.2.2.length=n/\∀y∈d.2.2.2.2.2.2.2,xB y)
  (λj z hj ⟨z1,z2,z3,z4⟩=>by
   obtain⟨q,c0,c1,c2,r0,r1,r2,r3,out⟩:=z;simp only at z1 z2 z3 z4;subst z1 z3;obtain⟨c',o,x1,x2,x3⟩:=JV z2;obtain⟨c'',v,y1,y2,y3⟩:=JY x2;refine .inl ⟨_,by
    show cP _ _ _ _ _ _ _ _ _=_;unfold cP;rw[dT (show ((n-out.length:Nat):Int)>0 by omega),cT,x1,rG,y1,rG,rP (by show _+1<=_;omega),rG],?_,y2,by simp,?_⟩
   · show rJ (((n-out.length:Nat):Int)-1)=_;rw[sg (by omega) (by omega)];omega
   · intro y hy;rcases mem_append.1 hy with hy|hy
     · exact z4 y hy
     · rw[mem_singleton]at hy;subst hy;have:=x3.n10
       exact⟨by show o.length<=1000;omega,y3⟩)
  (λz ⟨z1,z2,z3,z4⟩=>by
   obtain⟨q,c0,c1,c2,r0,r1,r2,r3,out⟩:=z;simp only at z1 z2 z3 z4;rw[Nat.sub_self]at z1;subst z1;refine⟨(c0,c1,c2,r0,r1,r2,r3,out),?_,z2,z3,z4⟩;show cP _ _ _ _ _ _ _ _ _=_
   unfold cP;rw[dF (show ¬((0:Nat):Int)>0 by decide),cF]) (x:=((n:Int),c.1,c.2.1,c.2.2,k,i,a,b,[])) ⟨rfl,h,rfl,by simp⟩
 refine⟨_,_,uH d1 rfl,d2,d3,d4⟩
theorem Hr {c:sc} (h:CW c) {n:Nat} (hn:n<=1000) (k i a b:Int):Dr (λp:sj=>p.2.2.2.2.length=n/\∀x∈p.2.2.2.2,xB x) ((loop (λz:Int×List Int×Int×Int×Int×Int×Int×Int×List rK=>cQ z.1 z.2.1 z.2.2.1 z.2.2.2.1 z.2.2.2.2.1 z.2.2.2.2.2.1 z.2.2.2.2.2.2.1 z.2.2.2.2.2.2.2.1 z.2.2.2.2.2.2.2.2) ((n:Int),c.1,c.2.1,c.2.2,k,i,a,b,[])).bind λd=>some ((d.1,d.2.1,d.2.2.1),d.2.2.2)):=by
 obtain⟨d,d1,d2,d3,d4⟩:=se (step:=λz:Int×List Int×Int×Int×Int×Int×Int×Int×List rK=>cQ z.1 z.2.1 z.2.2.1 z.2.2.2.1 z.2.2.2.2.1 z.2.2.2.2.2.1 z.2.2.2.2.2.2.1 z.2.2.2.2.2.2.2.1 z.2.2.2.2.2.2.2.2)
  (λj z=>z.1=((n-j:Nat):Int)/\CW (z.2.1,z.2.2.1,z.2.2.2.1)/\z.2.2.2.2.2.2.2.2.length=j/\∀y∈z.2.2.2.2.2.2.2.2,xB y) n
  (λd=>CW (d.1,d.2.1,d.2.2.1)/\d.2.2.2.2.2.2.2.length=n/\∀y∈d.2.2.2.2.2.2.2,xB y)
  (λj z hj ⟨z1,z2,z3,z4⟩=>by
   obtain⟨q,c0,c1,c2,r0,r1,r2,r3,out⟩:=z;simp only at z1 z2 z3 z4;subst z1 z3;obtain⟨c',o,x1,x2,x3⟩:=JV z2;obtain⟨c'',v,y1,y2,y3⟩:=JY x2;refine .inl ⟨_,by
    show cQ _ _ _ _ _ _ _ _ _=_;unfold cQ;rw[dT (show ((n-out.length:Nat):Int)>0 by omega),cT,x1,rG,y1,rG,rP (by show _+1<=_;omega),rG],?_,y2,by simp,?_⟩
   · show rJ (((n-out.length:Nat):Int)-1)=_;rw[sg (by omega) (by omega)];omega
   · intro y hy;rcases mem_append.1 hy with hy|hy
     · exact z4 y hy
     · rw[mem_singleton]at hy;subst hy;have:=x3.n10
       exact⟨by show o.length<=1000;omega,y3⟩)
  (λz ⟨z1,z2,z3,z4⟩=>by
   obtain⟨q,c0,c1,c2,r0,r1,r2,r3,out⟩:=z;simp only at z1 z2 z3 z4;rw[Nat.sub_self]at z1;subst z1;refine⟨(c0,c1,c2,r0,r1,r2,r3,out),?_,z2,z3,z4⟩;show cQ _ _ _ _ _ _ _ _ _=_
   unfold cQ;rw[dF (show ¬((0:Nat):Int)>0 by decide),cF]) (x:=((n:Int),c.1,c.2.1,c.2.2,k,i,a,b,[])) ⟨rfl,h,rfl,by simp⟩
 refine⟨_,_,uH d1 rfl,d2,d3,d4⟩
theorem LU {c:sc} (h:CW c):Dr (λp:sj=>vM M p) (cm c):=by
 have hM:M=1048576:=rfl;have le:∀{n:Nat},n<=3->∀p:sj,(p.2.2.2.2.length=n/\∀x∈p.2.2.2.2,xB x)->vM M p:=λhn p hp=>⟨by show p.2.2.2.2.length<=1048576;omega,λx hx=>(hp.2 x hx).le⟩
 have up:∀{n:Nat} {o:Option (sc×sj)},n<=3->Dr (λp:sj=>p.2.2.2.2.length=n/\∀x∈p.2.2.2.2,xB x) o->Dr (λp:sj=>vM M p) o:=λhn ⟨c,p,e,w,hp⟩=>⟨c,p,e,w,le hn p hp⟩;unfold cm;refine Dr.bind (Cd h (by decide)) λc k hc _=>?_;refine Dr.bind (JW hc) λc x hc _=>?_;obtain⟨r,hr⟩:=JX x;rw[hr,rG];have hkk:∃t,(cond (k==162) (some true) (some (k==165)))=some t:=by cases k==162<;>exact⟨_,rfl⟩
 obtain⟨t,ht⟩:=hkk;simp only;rw[ht,rG];refine Dr.cond ?_ ?_
 · refine Dr.bind (uy hc 4) λc a hc _=>?_;refine Dr.bind (uy hc 5) λc b hc _=>?_;obtain⟨c1,n,e1,w1,hn⟩:=uI hc (n:=4) (by decide);have e1':aa c 4=some (c1,(n:Int)):=e1
   simp only;rw[e1',rG];exact up (by omega) (Hq w1 (by omega) k r a b)
 · obtain⟨c1,n,e1,w1,hn⟩:=uI hc (n:=4) (by decide);have e1':aa c 4=some (c1,(n:Int)):=e1
   rw[e1',rG];exact up (by omega) (Hr w1 (by omega) k r 0 0)
theorem CR (w:List UInt8) (p:sj):KJ (CQ w p)/\(CQ w p).length<=900:=by
 have h:(CQ w p).length<=300:=by
  unfold CQ;split
  · simp
  · split
    · have:=tY 48 (body:=AA w++xe p);omega
    · simp
 exact⟨⟨N8 w p,by omega⟩,by omega⟩
theorem Mw {c:sc} (h:CW c) {b:rI} (hb:sT b):Dr KJ (ck c b):=by
 have hq:∀c,CW c->Dr C0 (cU c b):=λc hc=>Pq hc hb.w λc hc=>by obtain⟨c',o,e,w,h⟩:=Q0 hc hb;exact⟨c',o,e,w,h⟩
 unfold ck;refine Dr.bind (uy h 10) λc t hc _=>?_;refine Dr.cond ?_ (Dr.cond ?_ (Dr.cond ?_ ?_))
 · refine Dr.bind (hq c hc) λc p hc hp=>?_;simp only;rw[BD _ hp.le,rG];obtain⟨m1,m2⟩:=CR [121,97,114,100] p;exact Dr.bind (KK hc m1.1 m2) λc m hc hm=>Dr.some hc hm
 · refine Dr.bind (hq c hc) λc p hc hp=>?_;simp only;rw[BD _ hp.le,rG];exact Dr.some hc (CR _ p).1
 · refine Dr.bind (LU hc) λc p hc hp=>?_;simp only;rw[BD _ hp,rG];exact Dr.some hc (CR _ p).1
 · refine Dr.bind (hq c hc) λc p hc hp=>?_;simp only;rw[BD _ hp.le,rG];exact Dr.some hc (CR _ p).1
theorem xw {code:List Int} (h:code.length<=1048576):∃k:Nat,cl code 36=some (k:Int)/\k<=36:=by
 unfold cl;have e:rJ (3+(rJ ((code.length:Int).tdiv 12)))=3+(code.length:Int)/12:=by
  rw[Int.tdiv_eq_ediv_of_nonneg (by omega),sg (n:=(code.length:Int)/12) (by omega) (by omega),sg (by omega) (by omega)]
 simp only[e];by_cases hk:3+(code.length:Int)/12>36
 · rw[dT hk,cT];exact⟨36,rfl,Nat.le_refl _⟩
 · rw[dF hk,cF];exact⟨(3+(code.length:Int)/12).toNat,by rw[Int.toNat_of_nonneg (by omega)],by omega⟩
theorem Mx {α β:Type} (l:List α) (i:Int) (f:α->Option β):((ix l.length i).bind λj=>(l[j]?).bind f)=(at? l i).bind f:=by
 unfold ix at?;by_cases h0:0<=i
 · rw[if_pos h0,if_pos h0];by_cases h1:i<(l.length:Int)
   · rw[if_pos h1,rG]
   · rw[if_neg h1,List.getElem?_eq_none (by omega)];rfl
 · rw[if_neg h0,if_neg h0];rfl
theorem Of:hU=eM:=rfl
theorem LV:cK=aE:=rfl
theorem Pv {b:rI} (h:wI b) (o:List Int):gx b o=aZ b o:=by
 unfold gx aZ;rw[DX h];cases bC b with
 | none=>rfl
 | some l =>
  have hs:(λz:Int×Int×Int×List UInt8×List Int×List Int=>hZ o l z.1 z.2.1 z.2.2.1 z.2.2.2.1 z.2.2.2.2.1 z.2.2.2.2.2)=λz=>bZ o l z.1 z.2.1 z.2.2.1 z.2.2.2.1 z.2.2.2.2.1 z.2.2.2.2.2:=by
   funext z
   unfold hZ bZ;simp only[Mx,Of];cases at? l z.1<;>rfl
  rw[rG,rG,hs];unfold aX;simp only[Option.bind_assoc,rG]
theorem Qr {b:rI} (h:wI b) (o:List Int):gz b o=bY b o:=by
 unfold gz bY;rw[DX h];cases bC b with
 | none=>rfl
 | some l =>
  have hs:(λz:Int×Int×Int×List UInt8×List Int=>ia o l z.1 z.2.1 z.2.2.1 z.2.2.2.1 z.2.2.2.2)=λz=>bp o l z.1 z.2.1 z.2.2.1 z.2.2.2.1 z.2.2.2.2:=by
   funext z
   unfold ia bp;simp only[Mx,LV];cases at? l z.1<;>rfl
  rw[rG,rG,hs]
def C1 (b:rI) (x:rK):Prop:=vd x.1=true/\(x.2.1=130->tJ b x.1=x)
theorem KL {b:rI} (h:sT b) {o:List Int} (ho:vd o=true):C1 b (tJ b o):=by
 refine⟨ve (BC h ho),λhk=>?_⟩;obtain⟨_,h1⟩:=Dj h (o:=o) (by have:=wH ho;omega);rcases h1 with ⟨h1,_⟩|⟨h1,h2⟩
 · exfalso;have hv:∀v:vl,Vl v->v.1≠130:=λv hv=>by cases hv<;>simp
   exact hv _ (zo h _ h1).2 hk
 · rw[h1];exact h1
theorem EE {b:rI} {o:List Int} (ho:vd o=true):C1 b (o,5,0,[],[]):=⟨ho,λhk=>by have hk:(5:Int)=130:=hk;omega⟩
noncomputable def to (b:rI) (l:List rK):List rK:=l.map λx=>tJ b x.1
theorem KM {b:rI} {x:rK} (h:C1 b x):(cond (x.2.1==130) x (tJ b x.1))=tJ b x.1:=by
 cases hk:x.2.1==130 with
 | true=>rw[cT];exact (h.2 (by simpa using hk)).symm
 | false=>rfl
noncomputable def wL (b:rI):Nat->List rK×List rK->List rK×List rK
 | 0,s=>s
 | n+1,s=>if 0<s.2.length/\s.1.length<10 then wL b n (s.1++to b s.2,to b s.2)else s
theorem Jw {b:rI}:∀(n:Nat) {s:List rK×List rK},10<=s.1.length->wL b n s=s
 | 0,s,_=>rfl
 | n+1,s,h=>if_neg (by omega)
theorem KN {b:rI}:∀(n:Nat) {s:List rK×List (List Int)},10<=s.1.length->zl b n s=s
 | 0,s,_=>rfl
 | n+1,s,h=>if_neg (by omega)
theorem EF {b:rI}:∀(n:Nat) (out T:List rK),out.length<=10->(zl b n (out,T.map λx=>x.1)).1=(wL b n (out,T)).1.take 10
 | 0,out,T,h=>(take_of_length_le h).symm
 | n+1,out,T,h=>by
  by_cases hc:0<T.length/\out.length<10
  · have e1:zl b (n+1) (out,T.map λx=>x.1)=zl b n (zP b (out,T.map λx=>x.1)):=if_pos (by simpa using hc);have e2:wL b (n+1) (out,T)=wL b n (out++to b T,to b T):=if_pos hc
    rw[e1,e2];by_cases hle:out.length+T.length<=10
    · have hm:xt (out,T.map λx=>x.1)=T.length:=by unfold xt;simp only[length_map];omega
      have e3:zP b (out,T.map λx=>x.1)=(out++to b T,(to b T).map λx=>x.1):=by
       unfold zP to;simp only[hm];rw[take_of_length_le (by simp),List.drop_of_length_le (by simp),append_nil,map_map,map_map,map_map];rfl
      rw[e3];exact EF n _ _ (by rw[length_append];unfold to;rw[length_map];omega)
    · have hm:xt (out,T.map λx=>x.1)=10-out.length:=by unfold xt;simp only[length_map];omega
      have hl1:(zP b (out,T.map λx=>x.1)).1.length=10:=by
       show (out++((T.map λx=>x.1).take (xt (out,T.map λx=>x.1))).map (tJ b)).length=10;rw[hm,length_append,length_map,length_take,length_map];omega
      rw[KN n (by omega),Jw n (by show 10<=(out++to b T).length;rw[length_append];unfold to;rw[length_map];omega)];show out++((T.map λx=>x.1).take (xt (out,T.map λx=>x.1))).map (tJ b)=(out++to b T).take 10
      rw[hm,List.take_append,take_of_length_le h];unfold to;rw[←List.map_take,←List.map_take,map_map];rfl
  · have e1:zl b (n+1) (out,T.map λx=>x.1)=(out,T.map λx=>x.1):=if_neg (by simpa using hc);have e2:wL b (n+1) (out,T)=(out,T):=if_neg hc
    rw[e1,e2];exact (take_of_length_le h).symm

theorem Jx {p:sj} (hp:vM M p):dY p=some (tV p):=by
 unfold dY;rw[Fk hp,rG];show (ae ((xe p).length:Int) 1 120).bind _=_
 rw[xP,rG];rfl
def named (l:List rK):List rK:=l.map λx=>(x.1,5,0,[],[])
theorem KO {l:List rK} (hn:l.length<=M):cM l=some (named l):=by
 have hM:M=1048576:=rfl;unfold cM named;refine uH (Ay (g:=λx:rK=>((x.1,5,0,[],[]):rK)) hn (λk hk out ho=>?_) (λout=>?_)) rfl
 · show fq l (k:Int) out=_;unfold fq;rw[sG (by omega),cT,sa hk,rG,rP (by rw[ho];show k+1<=_;omega),rG,rW (by omega)]
 · show fq l (l.length:Int) out=_;unfold fq;rw[sv (by omega),cF]
theorem Hs {b:rI} (h:sT b) {l:List rK} (hn:l.length<=1000) (hT:∀x∈l,C1 b x):br b l=some (to b l):=by
 unfold br to;refine uH (Ay (g:=λx:rK=>tJ b x.1) (by show _<=1048576;omega) (λk hk out ho=>?_) (λout=>?_)) rfl
 · have hx:=hT _ (getElem_mem hk);have e:=KM hx
   show fp b l (k:Int) out=_;unfold fp;rw[sG (by omega),cT,sa hk,rG,rG,rG,Pv h.w,(Dj h (by have:=wH hx.1;omega)).1,rG,rW (by omega)];cases hk':l[k].2.1==130 with
   | true =>
    rw[hk',cT]at e;rw[cT,rP (by rw[ho];show k+1<=_;omega),rG,←e]
   | false=>rw[cF,rP (by rw[ho];show k+1<=_;omega),rG]
 · show fp b l (l.length:Int) out=_;unfold fp;rw[sv (by omega),cF]
theorem Jy {b:rI} (h:sT b) {l:List rK} (hT:∀x∈l,C1 b x):∀x∈to b l,C1 b x:=by
 intro x hx;obtain⟨y,hy,rfl⟩:=mem_map.1 hx;exact KL h (hT y hy).1
theorem My {b:rI} (h:sT b) {p:sj} (hB:p.2.2.2.1<=1000):∀(n i:Nat) (out T:List rK),T.length<=10->out.length<=10+10*i->(∀x∈T,C1 b x)->((i+n:Nat):Int)=p.2.2.2.1->loop (λz=>bL b p z.1 z.2.1 z.2.2) (T,(i:Int),out)=some (wL b n (out,T)).1
 | 0,i,out,T,h1,h2,hT,e=>by
  refine sm ?_;show bL b p T (i:Int) out=_
  unfold bL;rw[sv (by omega),cF,rG,cF,rG,cF];rfl
 | n+1,i,out,T,h1,h2,hT,e=>by
  by_cases hc:0<T.length/\out.length<10
  · have hnl:(to b T).length=T.length:=by unfold to;rw[length_map]
    refine sd (y:=(to b T,((i+1:Nat):Int),out++to b T)) ?_ ?_
    · show bL b p T (i:Int) out=_;unfold bL;rw[sG (by omega),cT,dT (by omega),rG,cT,sG (by omega),rG,cT,Hs h (by omega) hT,rG,rP (by rw[hnl];omega),rG,rW (by omega)]
    · rw[My h hB n (i+1) _ _ (by rw[hnl];exact h1) (by rw[length_append,hnl];omega) (Jy h hT) (by omega),show wL b (n+1) (out,T)=wL b n (out++to b T,to b T)from if_pos hc]
  · refine sm ?_;show bL b p T (i:Int) out=_
    have e2:wL b (n+1) (out,T)=(out,T):=if_neg hc;rw[e2];unfold bL;rw[sG (by omega),cT];by_cases h1:0<T.length
    · rw[dT (by omega),rG,cT,sv (by omega),rG,cF]
    · rw[dF (by omega),rG,cF,rG,cF]
theorem FW {b:rI}:∀(n:Nat) (out T:List rK),T.length<=10->out.length<=20->(wL b n (out,T)).1.length<=20
 | 0,out,T,_,h=>h
 | n+1,out,T,hT,h=>by
  by_cases hc:0<T.length/\out.length<10
  · rw[show wL b (n+1) (out,T)=wL b n (out++to b T,to b T)from if_pos hc];have hnl:(to b T).length=T.length:=by unfold to;rw[length_map]
    exact FW n _ _ (by omega) (by rw[length_append,hnl];omega)
  · rw[show wL b (n+1) (out,T)=(out,T)from if_neg hc];exact h
theorem Og {b:rI} (h:sT b) {p:sj} (hp:tZ p=true):gy b p=some (vE b p):=by
 obtain⟨x1,x2,_,_,x5,x6⟩:=ur hp;have hM:M=1048576:=rfl
 have hnl:(named p.2.2.2.2).length=p.2.2.2.2.length:=by unfold named;rw[length_map]
 have hTold:∀x∈named p.2.2.2.2,C1 b x:=by
  intro x hx;obtain⟨y,hy,rfl⟩:=mem_map.1 hx;exact EE (ve (x1 y hy))
 have hon:tz p<=p.2.2.2.2.length:=Nat.min_le_right _ _;have hout:to b ((named p.2.2.2.2).take (tz p))=(p.2.2.2.2.take (tz p)).map (λx=>tJ b x.1):=by
  unfold to named;rw[←List.map_take,map_map];rfl
 have hlast:((named p.2.2.2.2).drop (tz p)).map (λx=>x.1)=(p.2.2.2.2.drop (tz p)).map (λx=>x.1):=by
  unfold named;rw[←List.map_drop,map_map];rfl
 have hol:(to b ((named p.2.2.2.2).take (tz p))).length<=10:=by rw[hout,length_map,length_take];omega
 have hTl:((named p.2.2.2.2).drop (tz p)).length<=10:=by rw[length_drop];omega
 have hrun:=My h (p:=p) (by omega) p.2.2.2.1.toNat 0 (to b ((named p.2.2.2.2).take (tz p))) ((named p.2.2.2.2).drop (tz p)) hTl (by omega) (λx hx=>hTold x (mem_of_mem_drop hx)) (by omega);have hv:vE b p=(wL b p.2.2.2.1.toNat (to b ((named p.2.2.2.2).take (tz p)),(named p.2.2.2.2).drop (tz p))).1.take 10:=by
  unfold vE Jr;rw[←hout,←hlast];exact EF _ _ _ hol
 have hlen:=FW (b:=b) p.2.2.2.1.toNat _ _ hTl (show (to b ((named p.2.2.2.2).take (tz p))).length<=20 by omega);have fin:∀k:Int,k=((tz p:Nat):Int)->((cM p.2.2.2.2).bind λt22 =>
  (tF t22.length 0 k).bind λq =>
  (br b ((t22.take q.2).drop q.1)).bind λt27 =>
  (cut t22 k (t22.length:Int)).bind λt30 =>
  (loop (λz=>bL b p z.1 z.2.1 z.2.2) (t30,0,t27)).bind λd =>
  cond (decide ((d.length:Int)>10))
   ((tF d.length 0 10).bind λp_1 =>
   some ((d.take p_1.2).drop p_1.1))
   (some d))=some (vE b p):=by
  rintro k rfl;rw[KO (by omega),rG,show (0:Int)=((0:Nat):Int)from rfl,zq (by omega) (by rw[hnl];exact hon),rG];show (br b (((named p.2.2.2.2).take (tz p)).drop 0)).bind _=_
  rw[drop_zero,Hs h (by rw[length_take];omega) (λx hx=>hTold x (mem_of_mem_take hx)),rG,vw (by rw[hnl];exact hon) (Nat.le_refl _),rG,take_length];refine uH hrun ?_;rw[hv];generalize (wL b p.2.2.2.1.toNat (to b ((named p.2.2.2.2).take (tz p)),(named p.2.2.2.2).drop (tz p))).1=d at hlen;by_cases hd:(d.length:Int)>10
  · rw[dT hd,cT,show (10:Int)=((10:Nat):Int)from rfl,zq (by omega) (by omega),rG];rfl
  · rw[dF hd,cF,take_of_length_le (by omega)]
 unfold gy;by_cases hc:p.2.2.1>(p.2.2.2.2.length:Int)
 · rw[dT hc,cT];exact fin _ (by unfold tz;omega)
 · rw[dF hc,cF];exact fin _ (by unfold tz;omega)
theorem KP (k i a c:Int) (bulk:Bool):∀(n:Nat) (l:List rK),l.length=n->n<=10->(∀x∈l,CS M x) ->
 ∃t,loop (λz:sj=>cg bulk z.1 z.2.1 z.2.2.1 z.2.2.2.1 z.2.2.2.2) (k,i,a,c,l)=some (k,i,a,c,t)/\vM M (k,i,a,c,t) /\
  ((tV (k,i,a,c,l)=true/\t=l)\/(tV (k,i,a,c,l)=false/\((bulk=true/\tV (k,i,a,c,t)=true/\shr (λt=>tV (k,i,a,c,t)) n l=some t)\/(tV (k,i,a,c,t)=false/\(bulk=true->shr (λt=>tV (k,i,a,c,t)) n l=none)))))
 | n,l,hl,hn,hx=>by
  have hp:vM M (k,i,a,c,l):=⟨by show l.length<=1048576;omega,hx⟩;have hstep:∀q:Bool,tV (k,i,a,c,l)=q->cg bulk k i a c l=cond (bulk&&(!q&&decide ((l.length:Int)>0))) ((tF l.length 0 (rJ ((l.length:Int)-1))).bind λp=>some (.inl (k,i,a,c,(l.take p.2).drop p.1))) (some (.inr (k,i,a,c,l))):=by
   intro q hq;unfold cg;rw[Jx hp,hq];cases bulk<;>cases q<;>rfl
  cases hf:tV (k,i,a,c,l)with
  | true =>
   refine⟨l,sm ?_,hp,.inl ⟨rfl,rfl⟩⟩;show cg bulk k i a c l=_
   rw[hstep true hf];cases bulk<;>rfl
  | false =>
   cases hb:bulk with
   | false =>
    subst hb;refine⟨l,sm ?_,hp,.inr ⟨rfl,.inr ⟨hf,(λh=>by cases h)⟩⟩⟩;show cg false k i a c l=_
    rw[hstep false hf];rfl
   | true =>
    subst hb
    match n,hl,hn with
    | 0,hl,hn =>
     refine⟨l,sm ?_,hp,.inr ⟨rfl,.inr ⟨hf,λ_=>rfl⟩⟩⟩;show cg true k i a c l=_
     rw[hstep false hf,dF (by omega)];rfl
    | n+1,hl,hn =>
     have hlt:(l.take n).length=n:=by rw[length_take];omega
     have hs:cg true k i a c l=some (.inl (k,i,a,c,l.take n)):=by
      rw[hstep false hf,dT (by omega)];show ((tF l.length 0 (rJ ((l.length:Int)-1))).bind _)=_
      rw[sg (by omega) (by omega),show (l.length:Int)-1=((n:Nat):Int) by omega,show (0:Int)=((0:Nat):Int)from rfl,zq (by omega) (by omega),rG];rfl
     obtain⟨t,t1,t2,t3⟩:=KP k i a c true n (l.take n) hlt (by omega) (λx h=>hx x (mem_of_mem_take h));refine⟨t,sd hs t1,t2,.inr ⟨rfl,?_⟩⟩;rcases t3 with ⟨u1,rfl⟩|⟨u1,⟨_,u2,u3⟩|⟨u2,u3⟩⟩
     · exact .inl ⟨rfl,u1,if_pos u1⟩
     · exact .inl ⟨rfl,u2,by rw[show shr (λt=>tV (k,i,a,c,t)) (n+1) l=shr (λt=>tV (k,i,a,c,t)) n (l.take n)from if_neg (show ¬tV (k,i,a,c,l.take n)=true by rw[u1];simp)];exact u3⟩
     · exact .inr ⟨u2,λ_=>by rw[show shr (λt=>tV (k,i,a,c,t)) (n+1) l=shr (λt=>tV (k,i,a,c,t)) n (l.take n)from if_neg (show ¬tV (k,i,a,c,l.take n)=true by rw[u1];simp)];exact u3 rfl⟩
noncomputable def AB (i a c:Int) (bulk:Bool) (l:List rK):sj :=
 cond (tV (162,i,a,c,l)) (162,i,a,c,l) (match cond bulk (shr (λt=>tV (162,i,a,c,t)) l.length l) none with|some t=>(162,i,a,c,t)|none=>(162,i,7,0,[]))
theorem Ht (i a c:Int) (bulk:Bool) {l:List rK} (hn:l.length<=10) (hx:∀x∈l,CS M x):cJ (162,i,a,c,l) bulk=some (AB i a c bulk l):=by
 obtain⟨t,t1,t2,t3⟩:=KP 162 i a c bulk l.length l rfl hn hx;unfold cJ AB;refine uH t1 ?_;rw[Jx t2,rG];rcases t3 with ⟨u1,rfl⟩|⟨u1,⟨rfl,u2,u3⟩|⟨u2,u3⟩⟩
 · rw[u1,cT,cT]
 · rw[u1,u2,cT,cF,cT,u3]
 · rw[u1,u2,cF,cF];cases bulk with
   | true=>rw[cT,u3 rfl]
   | false=>rfl
theorem Pw {b:rI} (h:sT b) {p:sj} (hp:tZ p=true) (h163:(p.1==163)=false) (hk:(p.1 != 162)=true):∃l,gA b p=some l/\wT b p=(b,162,p.2.1,0,0,l)/\l.length<=10/\∀x∈l,CS M x:=by
 obtain⟨x1,x2,_⟩:=ur hp;have hM:M=1048576:=rfl
 unfold gA wT;cases h161:(p.1==161)with
 | true =>
  have h160:(p.1==160)=false:=by simp only[beq_iff_eq]at h161;rw[h161];rfl
  have hTold:∀x∈named p.2.2.2.2,C1 b x:=by
   intro x hx;obtain⟨y,hy,rfl⟩:=mem_map.1 hx;exact EE (ve (x1 y hy))
  have he:to b (named p.2.2.2.2)=p.2.2.2.2.map λx=>tJ b x.1:=by unfold to named;rw[map_map];rfl
  simp only[cT,cF,h160];rw[KO (by omega),rG,Hs h (by unfold named;rw[length_map];omega) hTold,rG,he];refine⟨_,rfl,rfl,by rw[length_map];exact x2,λx hx=>?_⟩;obtain⟨y,hy,rfl⟩:=mem_map.1 hx;exact uR (BC h (ve (x1 y hy)))
 | false =>
 cases h165:(p.1==165)with
 | true =>
  have h160:(p.1==160)=false:=by simp only[beq_iff_eq]at h165;rw[h165];rfl
  have hbk:=Il h hp;simp only[cT,cF,h160];rw[Og h hp,rG];exact⟨_,rfl,rfl,hbk.o10,λx hx=>uR (hbk.oOk x hx)⟩
 | false =>
  have h160:(p.1==160)=true:=by
   rcases LO hp with e|e|e|e|e
   · rw[e];rfl
   · rw[e]at h161;cases h161
   · rw[e]at hk;cases hk
   · rw[e]at h163;cases h163
   · rw[e]at h165;cases h165
  simp only[cT,cF,h160];have e:loop (λz:Int×List rK=>e9 b p z.1 z.2) (0,[])=some (p.2.2.2.2.map λx=>((x.1,Az b x.1):rK)):=by
   refine Ay (by omega) (λk hk' out ho=>?_) (λout=>?_)
   · have hx:=wH (ve (x1 _ (getElem_mem hk')));show e9 b p (k:Int) out=_
     unfold e9;rw[sG (by omega),cT,sa hk',rG,rP (by show 0+_<=_;omega),rG,rG,Qr h.w,(LL h (by omega)).1,rG,rP (by rw[ho];show k+1<=_;omega),rG,rW (by omega)];rfl
   · show e9 b p (p.2.2.2.2.length:Int) out=_;unfold e9;rw[sv (by omega),cF]
  rw[e,rG];refine⟨_,rfl,rfl,by rw[length_map];exact x2,λx hx=>?_⟩;obtain⟨y,hy,rfl⟩:=mem_map.1 hx;exact uR (by unfold vN;rw[ve (x1 y hy),Ms h (by have:=wH (ve (x1 y hy));omega)];rfl)
theorem HW {b:rI} {p:sj} {l:List rK} (ha:wT b p=(b,162,p.2.1,0,0,l)) (hl:(p.1==165)=true->l=vE b p):wB b p=(b,AB p.2.1 0 0 (p.1==165) l):=by
 unfold wB zx AB;rw[ha];simp only;cases tV (162,p.2.1,0,0,l)with
 | true=>rfl
 | false =>
  rw[cF,cF];cases h165:(p.1==165)with
  | true=>rw[cT,cT,hl h165];cases shr (λt=>tV (162,p.2.1,0,0,t)) (vE b p).length (vE b p)<;>rfl
  | false=>rfl
theorem Oh {b:rI} (h:sT b) {p:sj} (hp:tZ p=true) (h163:(p.1==163)=true):fm b p=some (wB b p):=by
 have hxs:=CP hp;have hM:M=1048576:=rfl
 have h10:=(ur hp).2.1;obtain⟨r,r1,r2,_,_,r5⟩:=Do h.w h.le hxs;have hr:zN b p.2.2.2.2=r:=by unfold zN;rw[r1];rfl
 have h160:(p.1==160)=false:=by simp only[beq_iff_eq]at h163;rw[h163];rfl
 have h161:(p.1==161)=false:=by simp only[beq_iff_eq]at h163;rw[h163];rfl
 have h165:(p.1==165)=false:=by simp only[beq_iff_eq]at h163;rw[h163];rfl
 have ha:wT b p=(r.1,162,p.2.1,r.2.1,r.2.2,p.2.2.2.2):=by unfold wT;rw[h160,h161,h165,hr];rfl
 have hless:zx b p=(b,162,p.2.1,7,0,[]):=by unfold zx;rw[h165];rfl
 unfold fm wB;rw[A3 hxs,rG,r2,rG,Jx (p:=(162,p.2.1,r.2.1,r.2.2,p.2.2.2.2)) ⟨hxs.1,hxs.2⟩,rG,ha,hless];simp only;have hb:∀q:Bool,tV (162,p.2.1,r.2.1,r.2.2,p.2.2.2.2)=q->((ap b).bind λt36=>(cJ (162,p.2.1,r.2.1,r.2.2,p.2.2.2.2) false).bind λt38=>some (t36,t38))=some (b,cond q (162,p.2.1,r.2.1,r.2.2,p.2.2.2.2) (162,p.2.1,7,0,[])):=by
  intro q hq;rw[uP h.le,rG,Ht _ _ _ _ h10 hxs.2,rG];unfold AB;rw[hq];rfl
 cases hf:tV (162,p.2.1,r.2.1,r.2.2,p.2.2.2.2)with
 | false=>rw[Bool.not_false,cT,rG,cT,hb false hf];rfl
 | true =>
  rw[Bool.not_true,cF,rG];cases hc:(r.2.1 != 0)with
  | false=>rfl
  | true =>
   rw[cT,hb true hf];rcases r5 with ⟨r6,_⟩|⟨r6,_⟩
   · rw[r6]at hc;cases hc
   · rw[r6];rfl
theorem Oi {b:rI} (h:wI b) (hb:yb M b) {p:sj} (hp:vM M p):gB b p=some (tS b p):=by
 unfold gB gW tS Bc;rw[zm h,rG,uP hb];cases hbr:sO b with
 | false=>rfl
 | true =>
 rw[cT,JO hp,rG,rG];cases hpp:tZ p with
 | false=>rfl
 | true =>
 cases hk:(p.1 != 162)with
 | false=>rfl
 | true =>
 have hBO:=G0 h hbr;simp only[Bool.and_true,cT,rG,Bool.not_true,cF];cases h163:(p.1==163)with
 | true=>rw[cT,Oh hBO hpp h163,rG]
 | false =>
  obtain⟨l,e1,e2,e3,e4⟩:=Pw hBO hpp h163 hk;have hl:(p.1==165)=true->l=vE b p:=by
   intro h165;have h160:(p.1==160)=false:=by simp only[beq_iff_eq]at h165;rw[h165];rfl
   have h161:(p.1==161)=false:=by simp only[beq_iff_eq]at h165;rw[h165];rfl
   have:wT b p=(b,162,p.2.1,0,0,vE b p):=by unfold wT;rw[h160,h161,h165];rfl
   rw[e2]at this;simpa using this
  rw[cF,e1,rG,A3 ⟨by show l.length<=1048576;omega,e4⟩,rG,Ht _ _ _ _ e3 e4,rG,HW e2 hl]

theorem Jz {b:rI} {w:List UInt8} {l:List sY} {lo la:Int} {k:Nat} (hk:k<l.length) (hl:l.length<=M):dV (sW b w l lo la) (k:Int)=some (sW b w (l.eraseIdx k) lo la):=by
 have hM:M=1048576:=rfl;have c1:tF l.length 0 (k:Int)=some (0,k):=by
  unfold tF;rw[if_pos (by omega),if_pos (by omega),if_pos (by omega)];simp
 have c2:tF l.length (rJ ((k:Int)+1)) (l.length:Int)=some (k+1,l.length):=by
  rw[rW (by omega)];unfold tF;rw[if_pos (by omega),if_pos (by omega),if_pos (by omega)];simp
 have c3:sf ([]:List sY) ((l.take k).drop 0)=some (l.take k):=by
  rw[drop_zero,rP (by rw[length_take];show 0+_<=_;omega)];rfl
 have c4:sf (l.take k) ((l.take l.length).drop (k+1))=some (l.eraseIdx k):=by
  rw[take_length,rP (by rw[length_take,length_drop];omega),←List.eraseIdx_eq_take_drop_succ]
 unfold dV sW;simp only[c1,rG,c2,c3,c4]
theorem KQ {b:rI} (hb:yb M b) {w:List UInt8} {l:List sY} {lo la:Int} {k:Nat} (hk:k<l.length):fc (sW b w l lo la) (k:Int)=some (sW b w (l.set k (Fh b l[k])) lo la):=by
 have cb:=uP hb;unfold fc sW;simp only[vk hk,rG];have cb':ap (b.1,b.2.1,b.2.2.1,b.2.2.2.1,b.2.2.2.2.1,b.2.2.2.2.2.1,b.2.2.2.2.2.2.1,b.2.2.2.2.2.2.2.1,b.2.2.2.2.2.2.2.2.1,b.2.2.2.2.2.2.2.2.2.1,b.2.2.2.2.2.2.2.2.2.2)=some b:=cb
 simp only[cb',rG,List.getElem?_eq_getElem hk,length_set,vk hk,List.getElem?_set_self hk,set_set];rfl
theorem LW {n:Int} (h:rM n 0 1000000=true):bg n=some (vF n):=by
 obtain⟨r,r1,r2,_⟩:=Gr h;rw[r2,←r1,EB]
theorem LX {b:rI} (hb:yb M b) (hc:ux b=true) {w:List UInt8} {l:List sY} {lo la:Int} {k:Nat} (hk:k<l.length) (hl:l.length<=M) (h1:tT l[k].2.1) (h2:l[k].2.1.length<=M) :
 dW (sW b w l lo la) (k:Int)=some (cond ((sy w l[k].2.1).2==3) (sW (zy b) w (l.eraseIdx k) lo la)
  (cond ((sy w l[k].2.1).2 != 0||((sy w l[k].2.1).1.1==162)) (sW (yi b) w (l.eraseIdx k) lo la) (sW b w (l.set k (vh l[k].1 l[k].2.1 1 (sy w l[k].2.1).1 b 0 (sw l[k]))) lo la))):=by
 obtain⟨_,m1,m3,_⟩:=Hm w h1 h2;obtain⟨_,hp,hw,_⟩:=vv hc;unfold dW;have d1:=Jz (b:=zy b) (w:=w) (lo:=lo) (la:=la) hk hl
 have d2:=Jz (b:=yi b) (w:=w) (lo:=lo) (la:=la) hk hl;unfold zy sW at d1;unfold yi sW at d2;dsimp only[sW];simp only[vk hk,rG,List.getElem?_eq_getElem hk,m1,LW hp,LW hw];rw[d1,d2];have hs:k<(l.set k (vh l[k].1 l[k].2.1 l[k].2.2.1 (sy w l[k].2.1).1 (jB l[k]) (vm l[k]) (sw l[k]))).length:=by rw[length_set];exact hk
 have e:=KQ hb (w:=w) (lo:=lo) (la:=la) hs;unfold sW at e;have e2:Fh b (l.set k (vh l[k].1 l[k].2.1 l[k].2.2.1 (sy w l[k].2.1).1 (jB l[k]) (vm l[k]) (sw l[k])))[k]=vh l[k].1 l[k].2.1 1 (sy w l[k].2.1).1 b 0 (sw l[k]):=by
  rw[getElem_set_self];rfl
 rw[e2,set_set]at e;cases h0:((sy w l[k].2.1).2==0)with
 | true =>
  have h3:((sy w l[k].2.1).2==3)=false:=by
   have:(sy w l[k].2.1).2=0:=by simpa using h0
   rw[this];rfl
  have hn:((sy w l[k].2.1).2 != 0)=false:=by rw[bne,h0];rfl
  rw[h3,hn];simp only[cT,cF,rG,Bool.false_or,bne];cases ((sy w l[k].2.1).1.1==162)with
  | true=>rfl
  | false =>
   simp only[Bool.not_false,cT,cF];refine (congrArg (λo=>Option.bind o λt=>some t) e).trans ?_;rfl
 | false =>
  have hn:((sy w l[k].2.1).2 != 0)=true:=by rw[bne,h0];rfl
  rw[hn];simp only[cT,cF,rG,Bool.true_or];cases ((sy w l[k].2.1).2==3)<;>rfl
theorem LY {b:rI} {w:List UInt8} {l:List sY} {lo la:Int} {k:Nat} (hk:k<l.length) (hl:l.length<=M) (p:sj):dX (sW b w l lo la) (k:Int) p=some (sW b w (l.eraseIdx k) lo la,[(l[k].1,p)]):=by
 have d:=Jz (b:=b) (w:=w) (lo:=lo) (la:=la) hk hl;have c0:ix (sW b w l lo la).2.2.2.2.2.2.2.2.2.2.2.2.1.length (k:Int)=some k:=vk hk
 have c1:(sW b w l lo la).2.2.2.2.2.2.2.2.2.2.2.2.1[k]?=some l[k]:=List.getElem?_eq_getElem hk;unfold dX;rw[c0,rG,c1,rG,d];rfl
theorem JA (p:sj):AB p.2.1 6 1 false p.2.2.2.2=y9 p:=by
 unfold AB y9;cases tV (162,p.2.1,6,1,p.2.2.2.2)<;>rfl
theorem Px {b:rI} (hB:sT b) {w:List UInt8} {l:List sY} {lo la:Int} {k:Nat} (hk:k<l.length) (hl:l.length<=M) (hp:tZ (jP l[k])=true) (h163:((jP l[k]).1==163)=true) :
 gv (sW b w l lo la) (k:Int)=some (cond (b.2.2.2.2.2.2.2.2.2.2==(jB l[k]).2.2.2.2.2.2.2.2.2.2) (sW (tS b (jP l[k])).1 w (l.eraseIdx k) lo la,[(l[k].1,(tS b (jP l[k])).2.1)])
  (cond (decide (sw l[k]>=3)) (sW b w (l.eraseIdx k) lo la,[(l[k].1,y9 (jP l[k]))])
   (sW b w (l.set k (vh l[k].1 l[k].2.1 1 (jP l[k]) b 0 (rJ (sw l[k]+1)))) lo la,[]))):=by
 have hk162:((jP l[k]).1 != 162)=true:=by
  have:(jP l[k]).1=163:=by simpa using h163
  rw[this];rfl
 obtain⟨_,r1,r2,_⟩:=zI hB hp hk162;have hxs:=CP hp
 have h10:=(ur hp).2.1;have s1:=Oh hB hp h163
 have c0:ix (sW b w l lo la).2.2.2.2.2.2.2.2.2.2.2.2.1.length (k:Int)=some k:=vk hk;have c1:(sW b w l lo la).2.2.2.2.2.2.2.2.2.2.2.2.1[k]?=some l[k]:=List.getElem?_eq_getElem hk
 unfold gv;rw[c0,rG];simp only[c1,rG];show cond (b.2.2.2.2.2.2.2.2.2.2==(jB l[k]).2.2.2.2.2.2.2.2.2.2) _ _=_
 cases hv:(b.2.2.2.2.2.2.2.2.2.2==(jB l[k]).2.2.2.2.2.2.2.2.2.2)with
 | true =>
  rw[cT,cT];refine uH (a:=wB b (jP l[k])) s1 ?_;have e:=LY (b:=(wB b (jP l[k])).1) (w:=w) (lo:=lo) (la:=la) hk hl (wB b (jP l[k])).2
  rw[r1,r2];exact uH e rfl
 | false =>
  rw[cF,cF];show cond (decide (sw l[k]>=3)) _ _=_
  cases hq:decide (sw l[k]>=3)with
  | true =>
   rw[cT,cT];refine uH (A3 hxs) ?_;refine uH (a:=y9 (jP l[k])) ?_ ?_
   · have e:=Ht (jP l[k]).2.1 6 1 false h10 hxs.2;rw[JA]at e;exact e
   · exact uH (LY (b:=b) (w:=w) (lo:=lo) (la:=la) hk hl (y9 (jP l[k]))) rfl
  | false =>
   simp only[cF];have hs:k<(l.set k (vh l[k].1 l[k].2.1 l[k].2.2.1 (jP l[k]) (jB l[k]) (vm l[k]) (rJ (sw l[k]+1)))).length:=by rw[length_set];exact hk
   have e:=KQ hB.le (w:=w) (lo:=lo) (la:=la) hs;unfold sW at e;have e2:Fh b (l.set k (vh l[k].1 l[k].2.1 l[k].2.2.1 (jP l[k]) (jB l[k]) (vm l[k]) (rJ (sw l[k]+1))))[k]=vh l[k].1 l[k].2.1 1 (jP l[k]) b 0 (rJ (sw l[k]+1)):=by
    rw[getElem_set_self];rfl
   rw[e2,set_set]at e;refine (congrArg (λo=>Option.bind o λt=>some (t,([]:List uV))) e).trans ?_;rfl
theorem Py {a:s9} (h:tE a) {k:Nat} (hk:k<(rL a).length):gC a (k:Int)=some (th a k (rL a)[k]):=by
 have hJ:=h.j _ (getElem_mem hk);have hn:(rL a).length<=M:=by have:=h.n;show _<=1048576;omega
 have e1:=LX h.b.le (wC h.b.ok).1 (w:=aW a) (l:=rL a) (lo:=sD a) (la:=rV a) hk hn hJ.byt hJ.len;have c0:ix a.2.2.2.2.2.2.2.2.2.2.2.2.1.length (k:Int)=some k:=vk hk
 have c1:a.2.2.2.2.2.2.2.2.2.2.2.2.1[k]?=some (rL a)[k]:=List.getElem?_eq_getElem hk;have e1:dW a (k:Int)=_:=e1
 unfold gC th uj;rw[c0,rG];simp only[c1,rG];rcases DT hJ with hp|hp|hp
 · rw[hp];show ((dW a (k:Int)).bind _)=_
   rw[e1,rG];cases ((sy (aW a) (rL a)[k].2.1).2==3)with
   | true=>rfl
   | false=>cases ((sy (aW a) (rL a)[k].2.1).2 != 0||((sy (aW a) (rL a)[k].2.1).1.1==162))<;>rfl
 · rw[hp];simp only[show ((1:Int)==0)=false from rfl,show ((1:Int)==1)=true from rfl,show ((1:Int)==2)=false from rfl,cT,cF,rG];show cond (decide (vm (rL a)[k]<((jP (rL a)[k]).2.2.2.2.length:Int))) _ _=_
   cases hd:decide (vm (rL a)[k]<((jP (rL a)[k]).2.2.2.2.length:Int))with
   | true=>rw[cT];exact congrArg some (by simp only[cT];rfl)
   | false=>rw[cF];exact congrArg some (by simp only[cF];rfl)
 · obtain⟨q1,q2,q3⟩:=hJ.ok.resolve_left (by rw[hp];decide);rw[hp];simp only[show ((2:Int)==0)=false from rfl,show ((2:Int)==1)=false from rfl,show ((2:Int)==2)=true from rfl,cT,cF,rG];show cond ((jP (rL a)[k]).1==163) _ _=_
   cases h163:((jP (rL a)[k]).1==163)with
   | true =>
    have hb:((rL a)[k].2.2.2.1 != 163)=false:=by rw[bne,show ((rL a)[k].2.2.2.1==163)=true from h163];rfl
    simp only[hb,cT,cF];refine uH (Px (b:=aB a) h.b (w:=aW a) (lo:=sD a) (la:=rV a) hk hn q1 h163) ?_;cases ((aB a).2.2.2.2.2.2.2.2.2.2==(jB (rL a)[k]).2.2.2.2.2.2.2.2.2.2)with
    | true=>rfl
    | false=>cases decide (sw (rL a)[k]>=3)<;>rfl
   | false =>
    have hb:((rL a)[k].2.2.2.1 != 163)=true:=by rw[bne,show ((rL a)[k].2.2.2.1==163)=false from h163];rfl
    simp only[hb,cT,cF];refine uH (a:=tS (jB (rL a)[k]) (jP (rL a)[k])) (Oi hJ.bw hJ.bl hJ.pl) ?_;exact uH (LY (b:=aB a) (w:=aW a) (lo:=sD a) (la:=rV a) hk hn (tS (jB (rL a)[k]) (jP (rL a)[k])).2.1) rfl
theorem Oj {a:s9} (h:tE a) {k:Nat} (hk:k<(rL a).length):bt a (k:Int)=some (th a k (rL a)[k]):=by
 have hn:=h.n;unfold bt;rw[Cb h.ale,rG,HA h.awf,rG,h.ok,Bool.not_true,cF];have hw:rJ ((a.2.2.2.2.2.2.2.2.2.2.2.2.1.length:Int)-1)=((rL a).length:Int)-1:=sg (by show -9223372036854775808<=((rL a).length:Int)-1;omega) (by show ((rL a).length:Int)-1<=_;omega)
 rw[hw,xP,rG,ze (by omega) (by omega),rG,Bool.not_true,cF,Py h hk,rG]
theorem Nb {a:s9} (h:tE a) {k:Int} (hk:k<0\/((rL a).length:Int)<=k):bt a k=some (a,[]):=by
 have hn:=h.n;unfold bt;rw[Cb h.ale,rG,HA h.awf,rG,h.ok,Bool.not_true,cF];have hw:rJ ((a.2.2.2.2.2.2.2.2.2.2.2.2.1.length:Int)-1)=((rL a).length:Int)-1:=sg (by show -9223372036854775808<=((rL a).length:Int)-1;omega) (by show ((rL a).length:Int)-1<=_;omega)
 have hp:rM k 0 (((rL a).length:Int)-1)=false:=by
  unfold rM;rcases hk with hk|hk
  · rw[dF (by omega)];rfl
  · rw[dF (show ¬k<=((rL a).length:Int)-1 by omega),Bool.and_false]
 rw[hw,xP,rG,hp,rG,Bool.not_false,cT]
theorem Hu {a:s9} (h:zf a=true):(rL a).length<=6/\rM (sD a) 0 1000000=true/\rM (rV a) 0 1000000=true:=by
 unfold zf at h;simp only[aT,decide_eq_true_eq]at h;obtain⟨_,_,_,h4,h5,h6⟩:=h;exact⟨by omega,h5,h6⟩
theorem Nd {a:s9} (ha:IG a) (hl:Iw M a) {b:List Int} (hb:b.length<=M):∃r,aQ a b=some r/\bP a b=some r/\Iw M r:=by
 have hM:M=1048576:=rfl;unfold aQ bP;rw[AY hl,Cb hl,EN ha,HA ha];simp only[rG];cases hp:zf a with
 | false=>exact⟨_,rfl,rfl,hl⟩
 | true =>
  obtain⟨h1,h2,h3⟩:=Hu hp;obtain⟨m,m1,m2,_⟩:=Gr h2;have m1':bn a.2.2.2.2.2.2.2.2.2.2.2.2.2.1=some m:=m1
  have m2':bg a.2.2.2.2.2.2.2.2.2.2.2.2.2.1=some m:=m2;simp only[Bool.not_true,cF,rG,m1',m2',yJ hb,vf hb];have hn:(rL a).length<=1048576:=ha.n
  by_cases h6:((rL a).length:Int)>=6
  · have h6':decide ((a.2.2.2.2.2.2.2.2.2.2.2.2.1.length:Int)>=6)=true:=dT h6;rw[h6',cT,rG,cT];exact⟨_,rfl,rfl,hl⟩
  · have h6':decide ((a.2.2.2.2.2.2.2.2.2.2.2.2.1.length:Int)>=6)=false:=dF h6;rw[h6',cF,rG];cases decide (a.2.2.2.2.2.2.2.2.2.2.2.2.2.2>=1000000)with
    | true=>exact⟨_,rfl,rfl,hl⟩
    | false =>
     have hap:∀j:sY,sf a.2.2.2.2.2.2.2.2.2.2.2.2.1 [j]=some (a.2.2.2.2.2.2.2.2.2.2.2.2.1++[j]):=λj=>rP (by show (rL a).length+1<=_;omega);simp only[cF,hap,rG];refine⟨_,rfl,rfl,hl.1,hl.2.1,?_,?_⟩
     · show (rL a++[_]).length<=1048576;rw[length_append];show (rL a).length+1<=_;omega
     · intro j hj;rcases mem_append.1 hj with hj|hj
       · exact hl.2.2.2 j hj
       · simp only[mem_singleton]at hj;subst hj;exact⟨hb,⟨by show 0<=1048576;decide,λx hx=>by cases hx⟩,by show 0<=1048576;decide,by show 0<=1048576;decide,by show 0<=1048576;decide,by show 0<=1048576;decide,by show 0<=1048576;decide⟩
theorem It {a:s9} (h:tE a) {m:List Int} (hm:m.length<=M):bP a m=aQ a m:=by
 obtain⟨r,r1,r2,_⟩:=Nd h.awf h.ale hm;rw[r1,r2]
theorem Nf {a:s9} (h:tE a) {m:List Int} (hb:tT m) (hm:m.length<=M):∃r,aQ a m=some r/\bP a m=some r/\tE r/\sD r+rV r<=sD a+rV a+1:=by
 by_cases hc:(rL a).length<6/\rV a<1000000
 · have e:=Fj h hm hc.1 hc.2;exact⟨_,e,(It h hm).trans e,ED h hb hm hc.1 hc.2,by show sD a+(rV a+1)<=_;omega⟩
 · have e:=Ir h (m:=m) hc;refine⟨_,e,(It h hm).trans e,LT h,?_⟩;obtain⟨l1,l2⟩:=sE h.lo;show vF (sD a)+rV a<=_
   unfold vF min2;rw[sg (by omega) (by omega)];split<;>omega
theorem KS {b:rI} (h:sT b) {w:List UInt8} (hw:w.length<=20):fB b w=some (sW b w [] 0 0):=by
 unfold fB;rw[zm h.w,rG,h.ok,Bool.not_true,cF,rG,dF (by omega),cF,uP h.le,rG];rfl
theorem Qs {l:List rR} (hn:l.length<=1000):fx l=some (l.filterMap wj):=by
 unfold fx;obtain⟨v,e1,rfl⟩:=se (step:=λz:Int×List rR=>cj l z.1 z.2) (λk z=>z=((k:Int),(l.take k).filterMap wj)) l.length (λv=>v=l.filterMap wj)
  (λk z hk e=>by
   subst e;refine .inl ⟨_,?_,rfl⟩;have hfl:((l.take k).filterMap wj).length<=k:=Nat.le_trans (List.length_filterMap_le _ _) (by rw[length_take];omega)
   have t1:l.take (k+1)=l.take k++[l[k]]:=by rw[take_add_one,List.getElem?_eq_getElem hk];rfl
   have t2:(l.take (k+1)).filterMap wj=(l.take k).filterMap wj++(match wj l[k]with|some y=>[y]|none=>[]):=by
    rw[t1,List.filterMap_append]
    congr 1
    cases hq:wj l[k]with
    | none=>rw[List.filterMap_cons_none hq];rfl
    | some y=>rw[List.filterMap_cons_some hq];rfl
   have ha:∀y:rR,sf ((l.take k).filterMap wj) [y]=some ((l.take k).filterMap wj++[y]):=λy=>rP (by show _+1<=_;omega);show cj l (k:Int) _=_
   unfold cj;rw[sG (by omega),cT,sa hk,rG,rW (by omega),t2];cases hs:l[k].2.2.2.2 with
   | true =>
    have hq:wj l[k]=some l[k]:=by unfold wj;rw[hs];rfl
    rw[hq];simp only[cT,ha,rG]
   | false =>
    simp only[cF];by_cases h4:l[k].2.2.2.1>=4
    · have hq:wj l[k]=none:=by unfold wj;rw[hs,dT h4];rfl
      rw[hq,sv (by omega)];simp only[cF,append_nil]
    · have hq:wj l[k]=some (l[k].1,l[k].2.1,l[k].2.2.1,rJ (l[k].2.2.2.1+1),false):=by unfold wj;rw[hs,dF h4];rfl
      rw[hq,sG (by omega)];simp only[cT,ha,rG])
  (λz e=>by
   subst e;refine⟨_,?_,rfl⟩;show cj l (l.length:Int) _=_
   unfold cj;rw[sv (by omega),cF,take_length]) (x:=(0,[])) rfl
 have e1:loop (λz=>cj l z.1 z.2) (0,[])=some (l.filterMap wj):=e1;rw[e1,rG]
theorem Ok {b:rI} (h:sT b):dh b=some (zz b):=by
 have hf:=JT h.f;obtain⟨r,r1,r2,_⟩:=MI (Hp h);obtain⟨c1,_⟩:=vv (wC h.ok).1;have e:xf (Jv b)=r:=by unfold xf;rw[r1];rfl
 unfold dh zz;rw[uP h.le,rG,zm h.w,rG,h.ok,Bool.not_true,cF,LW c1,rG,Qs (by have:=hf.n;omega),rG,e];have r2':bO (b.1,b.2.1,b.2.2.1,b.2.2.2.1.filterMap wj,b.2.2.2.2.1,b.2.2.2.2.2.1,vF b.2.2.2.2.2.2.1,b.2.2.2.2.2.2.2.1,b.2.2.2.2.2.2.2.2.1,b.2.2.2.2.2.2.2.2.2.1,b.2.2.2.2.2.2.2.2.2.2)=some r:=r2
 rw[r2',rG]
abbrev Q9:=Int×List Int×Int×Int×Int×List UInt8×Int×Int×Int×Int×Int×List UInt8×Int×Int×List Pt×List rR×List s5×List Int×List sY
def Bd (i:Int) (c:sc) (a:s9):Q9:=(i,c.1,c.2.1,c.2.2,a.1,a.2.1,a.2.2.2.2.2.2.1,a.2.2.2.2.2.2.2.1,a.2.2.2.2.2.2.2.2.1,a.2.2.2.2.2.2.2.2.2.1,a.2.2.2.2.2.2.2.2.2.2.1,a.2.2.2.2.2.2.2.2.2.2.2.1,a.2.2.2.2.2.2.2.2.2.2.2.2.2.1,a.2.2.2.2.2.2.2.2.2.2.2.2.2.2,a.2.2.1,a.2.2.2.1,a.2.2.2.2.1,a.2.2.2.2.2.1,a.2.2.2.2.2.2.2.2.2.2.2.2.1)
noncomputable def C2 (z:Q9):=fy z.1 z.2.1 z.2.2.1 z.2.2.2.1 z.2.2.2.2.1 z.2.2.2.2.2.1 z.2.2.2.2.2.2.1 z.2.2.2.2.2.2.2.1 z.2.2.2.2.2.2.2.2.1 z.2.2.2.2.2.2.2.2.2.1 z.2.2.2.2.2.2.2.2.2.2.1 z.2.2.2.2.2.2.2.2.2.2.2.1 z.2.2.2.2.2.2.2.2.2.2.2.2.1 z.2.2.2.2.2.2.2.2.2.2.2.2.2.1 z.2.2.2.2.2.2.2.2.2.2.2.2.2.2.1 z.2.2.2.2.2.2.2.2.2.2.2.2.2.2.2.1 z.2.2.2.2.2.2.2.2.2.2.2.2.2.2.2.2.1 z.2.2.2.2.2.2.2.2.2.2.2.2.2.2.2.2.2.1 z.2.2.2.2.2.2.2.2.2.2.2.2.2.2.2.2.2.2
theorem Pz {code:List Int} (h:code.length<=1048576) {m:Nat} (hm:m<=1000):∃k:Nat,cl code (m:Int)=some (k:Int)/\k<=m:=by
 unfold cl;have e:rJ (3+(rJ ((code.length:Int).tdiv 12)))=3+(code.length:Int)/12:=by
  rw[Int.tdiv_eq_ediv_of_nonneg (by omega),sg (n:=(code.length:Int)/12) (by omega) (by omega),sg (by omega) (by omega)]
 simp only[e];by_cases hk:3+(code.length:Int)/12>(m:Int)
 · rw[dT hk,cT];exact⟨m,rfl,Nat.le_refl _⟩
 · rw[dF hk,cF];exact⟨(3+(code.length:Int)/12).toNat,by rw[Int.toNat_of_nonneg (by omega)],by omega⟩
theorem Dr.mono {α:Type} {P Q:α->Prop} {o:Option (sc×α)} (h:Dr P o) (k:∀x,P x->Q x):Dr Q o:=by
 obtain⟨c,x,e,w,hx⟩:=h;exact⟨c,x,e,w,k x hx⟩
def Hv (n:Nat) (p:sj):Prop:=p.2.2.2.2.length<=n/\∀x∈p.2.2.2.2,CS M x
theorem Hv.le {n:Nat} {p:sj} (h:Hv n p) (hn:n<=1000):vM M p:=⟨by have:=h.1;show _<=1048576;omega,h.2⟩
theorem Hv.up {n m:Nat} {p:sj} (h:Hv n p) (hn:n<=m):Hv m p:=⟨Nat.le_trans h.1 hn,h.2⟩
theorem Ol {c:sc} (h:CW c):Dr (Hv 3) (cm c):=by
 have up:∀{n:Nat} {o:Option (sc×sj)},n<=3->Dr (λp:sj=>p.2.2.2.2.length=n/\∀x∈p.2.2.2.2,xB x) o->Dr (Hv 3) o:=λhn h=>h.mono λp hp=>⟨by rw[hp.1];exact hn,λx hx=>(hp.2 x hx).le⟩;unfold cm;refine Dr.bind (Cd h (by decide)) λc k hc _=>?_;refine Dr.bind (JW hc) λc x hc _=>?_;obtain⟨r,hr⟩:=JX x;rw[hr,rG];have hkk:∃t,(cond (k==162) (some true) (some (k==165)))=some t:=by cases k==162<;>exact⟨_,rfl⟩
 obtain⟨t,ht⟩:=hkk;simp only;rw[ht,rG];refine Dr.cond ?_ ?_
 · refine Dr.bind (uy hc 4) λc a hc _=>?_;refine Dr.bind (uy hc 5) λc b hc _=>?_;obtain⟨c1,n,e1,w1,hn⟩:=uI hc (n:=4) (by decide);have e1':aa c 4=some (c1,(n:Int)):=e1
   simp only;rw[e1',rG];exact up (by omega) (Hq w1 (by omega) k r a b)
 · obtain⟨c1,n,e1,w1,hn⟩:=uI hc (n:=4) (by decide);have e1':aa c 4=some (c1,(n:Int)):=e1
   rw[e1',rG];exact up (by omega) (Hr w1 (by omega) k r 0 0)
def wZ (b b':rI):Prop:=b'.2.2.2.2.2.2.2.1=b.2.2.2.2.2.2.2.1/\b'.2.2.2.2.2.2.2.2.1=b.2.2.2.2.2.2.2.2.1
theorem wZ.rfl' {b:rI}:wZ b b:=⟨rfl,rfl⟩
theorem wZ.tr {a b c:rI} (h:wZ a b) (k:wZ b c):wZ a c:=⟨k.1.trans h.1,k.2.trans h.2⟩
def Kp (b:rI) (o:Option (rI×Int)):Prop:=∀r,o=some r->wZ b r.1
theorem Kp.ok {b:rI} {r:rI×Int} (h:wZ b r.1):Kp b (some r):=λ_ e=>by cases e;exact h
theorem Kp.bnd {α:Type} {b:rI} {o:Option α} {f:α->Option (rI×Int)} (h:∀a,Kp b (f a)):Kp b (o.bind f):=λr e=>by
 cases o with
 | none=>cases e
 | some a=>exact h a r e
theorem Kp.cnd {b:rI} {c:Bool} {x y:Option (rI×Int)} (h1:Kp b x) (h2:Kp b y):Kp b (cond c x y):=by cases c<;>assumption
theorem Kp.via {b:rI} {o:Option (rI×Int)} (h:Kp b o):Kp b (o.bind λt=>some t):=λr e=>by
 cases o with
 | none=>cases e
 | some a=>exact h r e
theorem PA (b:rI) (c id n:Int):Kp b (dL b c id n):=by
 unfold dL
 repeat (first|exact Kp.ok ⟨rfl,rfl⟩|refine Kp.cnd ?_ ?_|refine Kp.bnd λ_=>?_)
theorem Ng (b:rI) (o:List Int) (v:vl):Kp b (eP b o v):=by
 unfold eP
 repeat (first|exact Kp.ok ⟨rfl,rfl⟩|exact Kp.via (PA _ _ _ _)|refine Kp.cnd ?_ ?_|refine Kp.bnd λ_=>?_)
theorem PB (b:rI) (x:rK):Kp b (bG b x):=by
 unfold bG
 repeat (first|exact Kp.ok ⟨rfl,rfl⟩|exact Kp.via (Ng _ _ _)|refine Kp.cnd ?_ ?_|refine Kp.bnd λ_=>?_)
theorem Om {b y:rI} {l:List rK} (h:A5 b l y):wZ b y:=by
 induction h with
 | nil=>exact wZ.rfl'
 | snoc _ _ h ih=>exact ih.tr (PB _ _ _ h)
theorem PC {b:rI} (h:sT b) {l:List rK} (hl:zO M l):wZ b (zN b l).1:=by
 obtain⟨r,r1,_,_,_,r5⟩:=Do h.w h.le hl;unfold zN;rw[r1];show wZ b r.1
 rcases r5 with ⟨_,_,⟨_,e⟩|⟨y,y1,y2,_,y4⟩⟩|⟨e,_⟩
 · rw[e];exact wZ.rfl'
 · obtain⟨t,t1,_,_,_,_,_,_,_,_,t7,t8,_⟩:=JU y2;rw[y4]at t1;cases t1;exact (Om y1).tr ⟨t7,t8⟩
 · rw[e];exact wZ.rfl'
theorem KT {b:rI} (h:sT b) (p:sj):wZ b (tS b p).1:=by
 unfold tS;cases hq:Bc b p with
 | false=>exact wZ.rfl'
 | true =>
  unfold Bc at hq;simp only[aT]at hq;rw[cT];unfold wB;cases tV (wT b p).2 with
  | true =>
   show wZ b (wT b p).1;unfold wT;cases (p.1==160)<;>cases (p.1==161)<;>cases (p.1==165)<;>first|exact wZ.rfl'|exact PC h (CP hq.2.1)
  | false=>rw[cF,Im];exact wZ.rfl'
def pw (b:rI):Int:=b.2.2.2.2.2.2.2.1+b.2.2.2.2.2.2.2.2.1
theorem wZ.pw {b b':rI} (h:wZ b b'):Go.V.W.pw b'=Go.V.W.pw b:=by unfold Go.V.W.pw;rw[h.1,h.2]
theorem C3 {n:Int} (h:0<=n/\n<=1000000):vF n<=n+1/\(n<1000000->vF n=n+1):=by
 unfold vF min2;rw[sg (by omega) (by omega)];split<;>omega
theorem On (w:List UInt8) {b:rI} (hb:sT b) (j:sY):pw (uj w b j).1<=pw b+1:=by
 obtain⟨_,q2,q3,_⟩:=vv (wC hb.ok).1;have m2:=(C3 (sE q2)).1
 have m3:=(C3 (sE q3)).1;have hw:pw (zy b)<=pw b+1:=by show b.2.2.2.2.2.2.2.1+vF b.2.2.2.2.2.2.2.2.1<=b.2.2.2.2.2.2.2.1+b.2.2.2.2.2.2.2.2.1+1;omega
 have hp:pw (yi b)<=pw b+1:=by show vF b.2.2.2.2.2.2.2.1+b.2.2.2.2.2.2.2.2.1<=b.2.2.2.2.2.2.2.1+b.2.2.2.2.2.2.2.2.1+1;omega
 have h0:pw b<=pw b+1:=by omega
 have hr:∀p,pw (tS b p).1<=pw b+1:=λp=>by rw[(KT hb p).pw];omega
 unfold uj;cases (j.2.2.1==0)with
 | true =>
  cases ((sy w j.2.1).2==3)with
  | true=>exact hw
  | false=>cases ((sy w j.2.1).2 != 0||((sy w j.2.1).1.1==162))<;>first|exact hp|exact h0
 | false =>
  cases (j.2.2.1==2)with
  | true =>
   cases (j.2.2.2.1 != 163)with
   | true=>exact h0
   | false =>
    cases (b.2.2.2.2.2.2.2.2.2.2==(jB j).2.2.2.2.2.2.2.2.2.2)with
    | true=>exact hr _
    | false=>cases decide (sw j>=3)<;>exact h0
  | false =>
   simp only[cF];cases decide (vm j<((jP j).2.2.2.2.length:Int))<;>exact h0
theorem Oo {a:s9} (h:tE a) (k:Int):∃r,bt a k=some r/\tE r.1/\sD r.1=sD a/\rV r.1=rV a/\pw (aB r.1)<=pw (aB a)+1:=by
 by_cases hk:k<0\/((rL a).length:Int)<=k
 · exact⟨(a,[]),Nb h hk,h,rfl,rfl,by show pw (aB a)<=_;omega⟩
 · obtain⟨n,rfl⟩:∃n:Nat,k=(n:Int):=⟨k.toNat,by omega⟩;have hn:n<(rL a).length:=by omega
   obtain⟨w1,_⟩:=BZ h hn;have hs:=On (aW a) h.b (rL a)[n]
   refine⟨_,Oj h hn,w1,?_,?_,?_⟩
   · unfold th;split<;>rfl
   · unfold th;split<;>rfl
   · unfold th;split
     · exact hs
     · exact hs
theorem Nh {a r:s9} (h:tE a) {m:List Int} (hm:m.length<=M) (hr:aQ a m=some r):aB r=aB a:=by
 by_cases hc:(rL a).length<6/\rV a<1000000
 · rw[Fj h hm hc.1 hc.2]at hr;cases hr;rfl
 · rw[Ir h (m:=m) hc]at hr;cases hr;rfl
theorem LZ {i:Int} (hi:i>0) {c:sc} (hc:CW c) {a:s9} (h:tE a):∃c' a',C2 (Bd i c a)=some (.inl (Bd (rJ (i-1)) c' a'))/\CW c'/\tE a'/\sD a'+rV a'<=sD a+rV a+1/\pw (aB a')<=pw (aB a)+1:=by
 dsimp only[C2,Bd];unfold fy;rw[dT hi,cT];obtain⟨c1,r,e1,w1,_⟩:=uy hc 6;have e1':aa (c.1,c.2.1,c.2.2) 6=some (c1,r):=e1
 rw[e1',rG];simp only;obtain⟨c2,m,e2,w2,hm⟩:=Mw w1 h.b;have hml:m.length<=M:=by have:=hm.2;show _<=1048576;omega
 obtain⟨x,x1,x2,x3,x4⟩:=Nf h hm.1 hml;have msg:∃c' a',((ck c1 (a.1,a.2.1,a.2.2.1,a.2.2.2.1,a.2.2.2.2.1,a.2.2.2.2.2.1,a.2.2.2.2.2.2.1,a.2.2.2.2.2.2.2.1,a.2.2.2.2.2.2.2.2.1,a.2.2.2.2.2.2.2.2.2.1,a.2.2.2.2.2.2.2.2.2.2.1)).bind λt38 =>
  (bP (a.1,a.2.1,a.2.2.1,a.2.2.2.1,a.2.2.2.2.1,a.2.2.2.2.2.1,a.2.2.2.2.2.2.1,a.2.2.2.2.2.2.2.1,a.2.2.2.2.2.2.2.2.1,a.2.2.2.2.2.2.2.2.2.1,a.2.2.2.2.2.2.2.2.2.2.1,a.2.2.2.2.2.2.2.2.2.2.2.1,a.2.2.2.2.2.2.2.2.2.2.2.2.1,a.2.2.2.2.2.2.2.2.2.2.2.2.2.1,a.2.2.2.2.2.2.2.2.2.2.2.2.2.2) t38.2).bind λt39 =>
  some (Sum.inl (β:=List Int×Int×Int×Int×List UInt8×Int×Int×Int×Int×Int×List UInt8×Int×Int×List Pt×List rR×List s5×List Int×List sY) (rJ (i-1),t38.1.1,t38.1.2.1,t38.1.2.2,t39.1,t39.2.1,t39.2.2.2.2.2.2.1,t39.2.2.2.2.2.2.2.1,t39.2.2.2.2.2.2.2.2.1,t39.2.2.2.2.2.2.2.2.2.1,t39.2.2.2.2.2.2.2.2.2.2.1,t39.2.2.2.2.2.2.2.2.2.2.2.1,t39.2.2.2.2.2.2.2.2.2.2.2.2.2.1,t39.2.2.2.2.2.2.2.2.2.2.2.2.2.2,t39.2.2.1,t39.2.2.2.1,t39.2.2.2.2.1,t39.2.2.2.2.2.1,t39.2.2.2.2.2.2.2.2.2.2.2.2.1)))=some (.inl (Bd (rJ (i-1)) c' a'))/\CW c'/\tE a'/\sD a'+rV a'<=sD a+rV a+1/\pw (aB a')<=pw (aB a)+1:=by
  refine⟨c2,x,uH (a:=(c2,m)) e2 (uH (a:=x) x2 rfl),w2,x3,x4,by rw[Nh h hml x1];omega⟩
 have tick : ∃c' a', ((dh (a.1, a.2.1, a.2.2.1, a.2.2.2.1, a.2.2.2.2.1, a.2.2.2.2.2.1, a.2.2.2.2.2.2.1, a.2.2.2.2.2.2.2.1, a.2.2.2.2.2.2.2.2.1, a.2.2.2.2.2.2.2.2.2.1, a.2.2.2.2.2.2.2.2.2.2.1)).bind λt44 =>
         some (Sum.inl (β:=List Int×Int×Int×Int×List UInt8×Int×Int×Int×Int×Int×List UInt8×Int×Int×List Pt×List rR×List s5×List Int×List sY) (rJ (i-1),c1.1,c1.2.1,c1.2.2,t44.1,t44.2.1,t44.2.2.2.2.2.2.1,t44.2.2.2.2.2.2.2.1,t44.2.2.2.2.2.2.2.2.1,t44.2.2.2.2.2.2.2.2.2.1,t44.2.2.2.2.2.2.2.2.2.2,a.2.2.2.2.2.2.2.2.2.2.2.1,a.2.2.2.2.2.2.2.2.2.2.2.2.2.1,a.2.2.2.2.2.2.2.2.2.2.2.2.2.2,t44.2.2.1,t44.2.2.2.1,t44.2.2.2.2.1,t44.2.2.2.2.2.1,a.2.2.2.2.2.2.2.2.2.2.2.2.1)))=some (.inl (Bd (rJ (i-1)) c' a'))/\CW c'/\tE a'/\sD a'+rV a'<=sD a+rV a+1/\pw (aB a')<=pw (aB a)+1:=by
  obtain⟨t2,_,t4,t5,_⟩:=Ps h.b;exact⟨c1,_,uH (a:=zz (aB a)) (Ok h.b) rfl,w1,Pu h t2,by show sD a+rV a<=_;omega,by show (zz (aB a)).2.2.2.2.2.2.2.1+(zz (aB a)).2.2.2.2.2.2.2.2.1<=pw (aB a)+1;rw[t4,t5];show pw (aB a)<=_;omega⟩
 have hn:=h.n;have work : ∃c' a', ((aa c1 (rJ ((a.2.2.2.2.2.2.2.2.2.2.2.2.1.length : Int)+1))).bind λt27 =>
         (bt (a.1,a.2.1,a.2.2.1,a.2.2.2.1,a.2.2.2.2.1,a.2.2.2.2.2.1,a.2.2.2.2.2.2.1,a.2.2.2.2.2.2.2.1,a.2.2.2.2.2.2.2.2.1,a.2.2.2.2.2.2.2.2.2.1,a.2.2.2.2.2.2.2.2.2.2.1,a.2.2.2.2.2.2.2.2.2.2.2.1,a.2.2.2.2.2.2.2.2.2.2.2.2.1,a.2.2.2.2.2.2.2.2.2.2.2.2.2.1,a.2.2.2.2.2.2.2.2.2.2.2.2.2.2) t27.2).bind λt28 =>
         some (Sum.inl (β:=List Int×Int×Int×Int×List UInt8×Int×Int×Int×Int×Int×List UInt8×Int×Int×List Pt×List rR×List s5×List Int×List sY) (rJ (i-1),t27.1.1,t27.1.2.1,t27.1.2.2,t28.1.1,t28.1.2.1,t28.1.2.2.2.2.2.2.1,t28.1.2.2.2.2.2.2.2.1,t28.1.2.2.2.2.2.2.2.2.1,t28.1.2.2.2.2.2.2.2.2.2.1,t28.1.2.2.2.2.2.2.2.2.2.2.1,t28.1.2.2.2.2.2.2.2.2.2.2.2.1,t28.1.2.2.2.2.2.2.2.2.2.2.2.2.2.1,t28.1.2.2.2.2.2.2.2.2.2.2.2.2.2.2,t28.1.2.2.1,t28.1.2.2.2.1,t28.1.2.2.2.2.1,t28.1.2.2.2.2.2.1,t28.1.2.2.2.2.2.2.2.2.2.2.2.2.1)))=some (.inl (Bd (rJ (i-1)) c' a'))/\CW c'/\tE a'/\sD a'+rV a'<=sD a+rV a+1/\pw (aB a')<=pw (aB a)+1:=by
  obtain⟨c3,k,e3,w3,_⟩:=uy w1 (rJ ((a.2.2.2.2.2.2.2.2.2.2.2.2.1.length:Int)+1));obtain⟨y,y2,y3,y4,y5,y6⟩:=Oo h k;exact⟨c3,y.1,uH (a:=(c3,k)) e3 (uH (a:=y) y2 rfl),w3,y3,by rw[y4,y5];omega,y6⟩
 cases r==0 with
 | true=>exact msg
 | false =>
  cases r==1 with
  | true=>exact msg
  | false =>
   cases r==2 with
   | true=>exact tick
   | false=>exact work
theorem M0 {c:sc} (hc:CW c) {most:Nat} (hm:most<=900):Dr (λa=>tE a/\sD a+rV a<=(most:Int)/\pw (aB a)<=(most:Int)) (fA c (most:Int)):=by
 unfold fA;obtain⟨c1,b,e1,w1,hb,hp,hz⟩:=Ns hc;have hB:=G0 hb hp
 rw[e1,rG];simp only;rw[KS hB (by decide),rG,rW (by omega)];obtain⟨c2,k,e2,w2,hk⟩:=uI w1 (n:=most+1) (by omega);have e2':aa c1 ((most+1:Nat):Int)=some (c2,(k:Int)):=e2
 rw[e2',rG];obtain⟨d,d1,c3,a3,d2,d3,rfl⟩:=se (step:=C2) (λj z=>∃c a,z=Bd ((k-j:Nat):Int) c a/\CW c/\tE a/\sD a+rV a<=(j:Int)/\pw (aB a)<=(j:Int)) k (λd=>∃c a,CW c/\(tE a/\sD a+rV a<=(k:Int)/\pw (aB a)<=(k:Int))/\d=(Bd 0 c a).2)
  (λj z hj ⟨c,a,e,w,h,hbd,hpw⟩=>by
   subst e;left;obtain⟨c',a',f1,f2,f3,f4,f5⟩:=LZ (i:=((k-j:Nat):Int)) (by omega) w h;refine⟨_,f1,c',a',?_,f2,f3,by omega,by omega⟩;rw[sg (by omega) (by omega),show ((k-j:Nat):Int)-1=((k-(j+1):Nat):Int) by omega])
  (λz ⟨c,a,e,w,h,hbd,hpw⟩=>by
   subst e;refine⟨_,?_,c,a,w,⟨h,hbd,hpw⟩,rfl⟩;dsimp only[C2,Bd];unfold fy;rw[Nat.sub_self,dF (show ¬((0:Nat):Int)>0 by decide),cF]) (x:=Bd (k:Int) c2 (sW b [121,97,114,100] [] 0 0)) ⟨c2,_,rfl,w2,N9 hB (by decide),by show (0:Int)+0<=_;omega,by show b.2.2.2.2.2.2.2.1+b.2.2.2.2.2.2.2.2.1<=_;rw[hz.1,hz.2.1];omega⟩
 exact⟨c3,a3,uH d1 rfl,d2,d3.1,by have:=d3.2.1;omega,by have:=d3.2.2;omega⟩
theorem Ni {code:List Int} (h:code.length<=1048576):∃a m,fC code=some (a,m)/\tE a/\KJ m/\sD a+rV a<=900/\pw (aB a)<=900:=by
 obtain⟨c0,e0,w0⟩:=OD (code:=code) h;obtain⟨k,e1,hk⟩:=Pz h (m:=14) (by omega);have e1:cl code 14=some (k:Int):=e1
 obtain⟨c2,a,e2,w2,ha⟩:=M0 w0 (most:=6+k) (by omega);obtain⟨c3,m,e3,w3,hm⟩:=Mw w2 ha.1.b;refine⟨a,m,?_,ha.1,hm,by have:=ha.2.1;omega,by have:=ha.2.2;omega⟩;unfold fC;have ew:rJ (6+(k:Int))=((6+k:Nat):Int):=by rw[sg (by omega) (by omega)];omega
 rw[e0,rG,e1,rG,ew,e2,rG];exact uH (a:=(c3,m)) e3 rfl
theorem M1 {w:List UInt8} {b:rI} {j j':sY} (hp:j.2.2.1≠0) (h:(uj w b j).2=.stay j'):jP j'=jP j/\(j'.2.2.1=1\/j'.2.2.1=2\/j'.2.2.1=j.2.2.1):=by
 unfold uj at h;rw[beq_eq_false_iff_ne.2 hp,cF]at h;cases h2:(j.2.2.1==2)with
 | true =>
  rw[h2,cT]at h;cases h3:(j.2.2.2.1 != 163)with
  | true=>rw[h3]at h;cases h
  | false =>
   rw[h3,cF]at h;cases h4:(b.2.2.2.2.2.2.2.2.2.2==(jB j).2.2.2.2.2.2.2.2.2.2)with
   | true=>rw[h4]at h;cases h
   | false =>
    rw[h4,cF]at h;cases h5:decide (sw j>=3)with
    | true=>rw[h5]at h;cases h
    | false=>rw[h5]at h;cases h;exact⟨rfl,.inl rfl⟩
 | false =>
  rw[h2,cF]at h;cases h3:decide (vm j<((jP j).2.2.2.2.length:Int))with
  | true=>rw[h3]at h;cases h;exact⟨rfl,.inr (.inr rfl)⟩
  | false=>rw[h3]at h;cases h;exact⟨rfl,.inr (.inl rfl)⟩
theorem M2 {w:List UInt8} {b:rI} (hb:sT b) {j:sY} (hj:yu j) (hp:j.2.2.1≠0) {d:List uV} (h:(uj w b j).2=.gone d):wZ b (uj w b j).1/\∃q,d=[(j.1,q)]/\q.2.1=(jP j).2.1:=by
 obtain⟨hpp,hkind,hB⟩:=hj.ok.resolve_left (by simpa using hp);have hk:((jP j).1 != 162)=true:=hkind
 have hBk:sT (jB j):=hB;obtain⟨_,r1,_,_,r4⟩:=zI hBk hpp hk;obtain⟨_,s1,_,_,s4⟩:=zI hb hpp hk;have i1:(tS (jB j) (jP j)).2.1.2.1=(jP j).2.1:=by rw[r1];exact r4
 have i2:(tS b (jP j)).2.1.2.1=(jP j).2.1:=by rw[s1];exact s4
 have i3:=(FV (jP j)).2
 revert h
 unfold uj;rw[beq_eq_false_iff_ne.2 hp,cF];cases (j.2.2.1==2)with
 | true =>
  rw[cT];cases (j.2.2.2.1 != 163)with
  | true=>intro h;cases h;exact⟨wZ.rfl',_,rfl,i1⟩
  | false =>
   rw[cF];cases (b.2.2.2.2.2.2.2.2.2.2==(jB j).2.2.2.2.2.2.2.2.2.2)with
   | true=>intro h;cases h;exact⟨KT hb _,_,rfl,i2⟩
   | false =>
    rw[cF];cases decide (sw j>=3)with
    | true=>intro h;cases h;exact⟨wZ.rfl',_,rfl,i3⟩
    | false=>intro h;cases h
 | false =>
  rw[cF];cases decide (vm j<((jP j).2.2.2.2.length:Int))<;>(intro h;cases h)
theorem Fl {n:Nat} {a:s9} (h:rL a=[]):vR n a=(a,[]):=by
 cases n with
 | zero=>rfl
 | succ n =>
  show (match rL a with | []=>(a,[])|j::_=>((vR n (th a 0 j).1).1,(th a 0 j).2++(vR n (th a 0 j).1).2))=_;rw[h]
theorem Iu {n:Nat} {a:s9} {j:sY} {r:List sY} (h:rL a=j::r):vR (n+1) a=((vR n (th a 0 j).1).1,(th a 0 j).2++(vR n (th a 0 j).1).2):=by
 show (match rL a with | []=>(a,[])|j::_=>((vR n (th a 0 j).1).1,(th a 0 j).2++(vR n (th a 0 j).1).2))=_;rw[h]
theorem Iv:∀(n:Nat) (a:s9) (j:sY),tE a->rL a=[j]->j.2.2.1≠0->uf (aW a) (aB a) j<=n->∃b' q,vR n a=(sW b' (aW a) [] (sD a) (rV a),[(j.1,q)])/\wZ (aB a) b'/\q.2.1=(jP j).2.1
 | 0,a,j,h,hj,hp,hn=>absurd hn (by have:=LR (aW a) (aB a) j;omega)
 | n+1,a,j,h,hj,hp,hn=>by
  have h0:0<(rL a).length:=by rw[hj];simp
  have e0:(rL a)[0]=j:=by simp[hj]
  have hJ:yu j:=h.j j (by rw[hj];simp);obtain⟨w1,_⟩:=BZ h h0;have hs:=Fi (aW a) h.b hJ
  rw[e0]at w1;rw[Iu hj];unfold th at w1 ⊢;cases hf:(uj (aW a) (aB a) j).2 with
  | stay j' =>
   rw[hf]at hs w1;obtain⟨k1,k2,k3,k4,k5⟩:=hs;obtain⟨p1,p2⟩:=M1 hp hf;simp only[k1]at w1 ⊢;have hj':rL (sW (aB a) (aW a) ((rL a).set 0 j') (sD a) (rV a))=[j']:=by show (rL a).set 0 j'=_;rw[hj];rfl
   have hp':j'.2.2.1≠0:=by rcases p2 with p2|p2|p2<;>omega
   obtain⟨b',q,q1,q2,q3⟩:=Iv n (sW (aB a) (aW a) ((rL a).set 0 j') (sD a) (rV a)) j' w1 hj' hp' (by show uf (aW a) (aB a) j'<=n;omega);refine⟨b',q,?_,q2,by rw[q3,p1]⟩;rw[q1,k3];rfl
  | gone d =>
   rw[hf]at w1;obtain⟨g1,q,g2,g3⟩:=M2 h.b hJ hp hf;simp only;have hj':rL (sW (uj (aW a) (aB a) j).1 (aW a) ((rL a).eraseIdx 0) (sD a) (rV a))=[]:=by show (rL a).eraseIdx 0=_;rw[hj];rfl
   rw[Fl hj'];refine⟨_,q,?_,g1,g3⟩;rw[g2,hj];rfl
theorem Nj {a:s9} (h:tE a) {w:List UInt8} (hw:w.length<=20) {m:List Int} (hb:tT m) (hm:m.length<=M) (hl:rV a<1000000) (hpw:pw (aB a)<=900):∃r d,aQ (sW (aB a) w [] (sD a) (rV a)) m=some r/\eX r 500=some d /\
 ((((sy w m).2=0/\(sy w m).1.1≠162)/\∃q:uV,d.2=[q]/\q.2.2.1=(sy w m).1.2.1/\wZ (aB a) (aB d.1)) \/
  ((sy w m).2=3/\d.2=[]/\(aB d.1).2.2.2.2.2.2.2.2.1=(aB a).2.2.2.2.2.2.2.2.1+1/\(aB d.1).2.2.2.2.2.2.2.1=(aB a).2.2.2.2.2.2.2.1) \/
  (¬((sy w m).2=0/\(sy w m).1.1≠162)/\(sy w m).2≠3/\d.2=[]/\(aB d.1).2.2.2.2.2.2.2.1=(aB a).2.2.2.2.2.2.2.1+1/\(aB d.1).2.2.2.2.2.2.2.2.1=(aB a).2.2.2.2.2.2.2.2.1)):=by
 have hA:tE (sW (aB a) w [] (sD a) (rV a)):=⟨h.b,hw,by show 0<=6;omega,h.lo,h.la,(λj hj=>by cases hj),List.Pairwise.nil,(λj hj=>by cases hj)⟩;have ha1:=Fj hA hm (by show 0<6;omega) hl
 have hI:=ED hA hb hm (by show 0<6;omega) hl;obtain⟨_,q2,q3,_⟩:=vv (wC h.b.ok).1;have hq2:=sE q2
 have hq3:=sE q3;have hpw':(aB a).2.2.2.2.2.2.2.1+(aB a).2.2.2.2.2.2.2.2.1<=900:=hpw
 have e2:vF (aB a).2.2.2.2.2.2.2.1=(aB a).2.2.2.2.2.2.2.1+1:=(C3 hq2).2 (by omega);have e3:vF (aB a).2.2.2.2.2.2.2.2.1=(aB a).2.2.2.2.2.2.2.2.1+1:=(C3 hq3).2 (by omega)
 refine⟨_,vR 500 (sW (aB a) w [xO (rV a+1) m] (sD a) (rV a+1)),ha1,LQ hI (n:=500) (by omega),?_⟩;have hI:tE (sW (aB a) w [xO (rV a+1) m] (sD a) (rV a+1)):=hI
 have hjob:rL (sW (aB a) w [xO (rV a+1) m] (sD a) (rV a+1))=[xO (rV a+1) m]:=rfl;have h0:0<(rL (sW (aB a) w [xO (rV a+1) m] (sD a) (rV a+1))).length:=by show 0<1;omega
 obtain⟨w1,_⟩:=BZ hI h0;have hJ:yu (xO (rV a+1) m):=hI.j _ (by rw[hjob];simp)
 have hso:=Fi w h.b hJ;have hneed:=N4 w (aB a) hJ
 rw[show (500:Nat)=499+1 from rfl,Iu hjob];have w1:tE (th (sW (aB a) w [xO (rV a+1) m] (sD a) (rV a+1)) 0 (xO (rV a+1) m)).1:=w1
 unfold th at w1 ⊢;have hstep:uj w (aB a) (xO (rV a+1) m)=cond ((sy w m).2==3) (zy (aB a),.gone []) (cond ((sy w m).2 != 0||((sy w m).1.1==162)) (yi (aB a),.gone []) (aB a,.stay (vh (rV a+1) m 1 (sy w m).1 (aB a) 0 0))):=rfl
 have hW:aW (sW (aB a) w [xO (rV a+1) m] (sD a) (rV a+1))=w:=rfl;have hBB:aB (sW (aB a) w [xO (rV a+1) m] (sD a) (rV a+1))=aB a:=rfl
 rw[hW,hBB]at w1 ⊢;cases h3:((sy w m).2==3)with
 | true =>
  rw[hstep,h3,cT];simp only;rw[Fl (by rfl)];exact .inr (.inl ⟨by simpa using h3,rfl,e3,rfl⟩)
 | false =>
  have h3':(sy w m).2≠3:=by simpa using h3
  cases h4:((sy w m).2 != 0||((sy w m).1.1==162))with
  | true =>
   rw[hstep,h3,cF,h4,cT];simp only;rw[Fl (by rfl)];refine .inr (.inr ⟨?_,h3',rfl,e2,rfl⟩);simp only[Bool.or_eq_true,bne_iff_ne,beq_iff_eq]at h4;rintro⟨g1,g2⟩;exact h4.elim (λh=>h g1) g2
  | false =>
   rw[hstep,h3,cF,h4,cF]at w1 hso ⊢;obtain⟨_,s2,_,s4,_⟩:=hso;simp only at w1 ⊢;have hj':rL (sW (aB a) w ((rL (sW (aB a) w [xO (rV a+1) m] (sD a) (rV a+1))).set 0 (vh (rV a+1) m 1 (sy w m).1 (aB a) 0 0)) (sD (sW (aB a) w [xO (rV a+1) m] (sD a) (rV a+1))) (rV (sW (aB a) w [xO (rV a+1) m] (sD a) (rV a+1))))=[vh (rV a+1) m 1 (sy w m).1 (aB a) 0 0]:=rfl
   obtain⟨b',q,r1,r2,r3⟩:=Iv 499 _ _ w1 hj' (by show (1:Int)≠0;omega) (by show uf w (aB a) (vh (rV a+1) m 1 (sy w m).1 (aB a) 0 0)<=499;omega);rw[r1];simp only[Bool.or_eq_false_iff,bne_eq_false_iff_eq,bF]at h4;exact .inl ⟨h4,_,rfl,r3,r2⟩

end Go.V.W

