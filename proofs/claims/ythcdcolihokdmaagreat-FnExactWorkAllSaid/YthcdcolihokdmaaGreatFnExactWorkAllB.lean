/- The law FnExactWorkAll: part of the proof that for every input it returns true. No condition. -/
import Derived.Test.YthcdcolihokdmaaGreatFnExactWorkAllBP1
open List (any_eq_false append_assoc append_nil drop_eq_getElem_cons drop_zero flatMap_append getElem_cons_succ getElem_cons_zero getElem_mem getElem_of_mem getElem_set_self length_append length_cons length_drop length_eq_zero_iff length_map length_set length_singleton length_take map_append map_cons map_map mem_append mem_cons_of_mem mem_map mem_of_mem_drop mem_of_mem_take mem_range mem_singleton nil_append set_set take_add_one take_length take_nil take_of_length_le take_succ_cons take_zero)
set_option linter.unusedVariables false
set_option linter.unusedSimpArgs false
namespace Go.V.W
theorem TE {m x:Int} (hm:-1099511627776<=m/\m<=1099511627776) (hx:0<=x/\x<=255):Bf .i64 (tR (m*2^8)) (tR x)=m*256+x:=by
 rw[show m*2^8=m*256 from rfl,uS (show -9223372036854775808<=m*256 by omega) (by omega),uS (show -9223372036854775808<=x by omega) (by omega)];show IntKind.i64.wrap (((BitVec.ofInt 64 (m*256)|||BitVec.ofInt 64 x).toNat:Nat):Int)=_
 rw[BitVec.toNat_or,BitVec.toNat_ofInt,BitVec.toNat_ofInt];have h1:((m*256)%((2^64:Nat):Int)).toNat=2^8*(m%72057594037927936).toNat:=by
  have:((2^64:Nat):Int)=18446744073709551616:=by decide
  rw[this];omega
 have h2:(x%((2^64:Nat):Int)).toNat=x.toNat:=by
  have:((2^64:Nat):Int)=18446744073709551616:=by decide
  rw[this];omega
 rw[h1,h2,←Nat.two_pow_add_eq_or_of_lt (by show x.toNat<2^8;omega)];show (let z:=((2^8*(m%72057594037927936).toNat+x.toNat:Nat):Int)%18446744073709551616;if (true&&decide (z>=9223372036854775808))=true then z-18446744073709551616 else z)=_
 simp only[Bool.true_and,decide_eq_true_eq];split<;>omega
def xR (x:Int):Int:=if x>127 then x-256 else x
def vK (n:Int) (l:List Int):Int:=l.foldl (λn x=>n*256+x) n
theorem OO {n:Int} {l:List Int} (hn:-256<=n/\n<=256) (hl:xi l) (h3:l.length<=3):∀k,k<=l.length -> -1099511627776<=vK n (l.take k)/\vK n (l.take k)<=1099511627776:=by
 match l,h3 with
 | [],_=>intro k hk;simp only[take_nil,vK,List.foldl];omega
 | [a],_ =>
  have ha:=hl a (by simp);intro k hk
  match k with
  | 0=>simp only[take_zero,vK,List.foldl];omega
  | k+1=>simp only[take_succ_cons,take_nil,vK,List.foldl];omega
 | [a,b],_ =>
  have ha:=hl a (by simp);have hb:=hl b (by simp)
  intro k hk
  match k with
  | 0=>simp only[take_zero,vK,List.foldl];omega
  | 1=>simp only[take_succ_cons,take_zero,vK,List.foldl];omega
  | k+2=>simp only[take_succ_cons,take_nil,vK,List.foldl];omega
 | [a,b,c],_ =>
  have ha:=hl a (by simp);have hb:=hl b (by simp)
  have hc:=hl c (by simp);intro k hk
  match k with
  | 0=>simp only[take_zero,vK,List.foldl];omega
  | 1=>simp only[take_succ_cons,take_zero,vK,List.foldl];omega
  | 2=>simp only[take_succ_cons,take_zero,vK,List.foldl];omega
  | k+3=>simp only[take_succ_cons,take_nil,vK,List.foldl];omega
theorem GO {n:Int} {l:List Int} (hn:-256<=n/\n<=256) (hl:xi l) (h3:l.length<=3) {off:Nat} (step:Int×Int->Option ((Int×Int)⊕Int)) (ho:off<=1000)
 (hs:∀k (hk:k<l.length) m,step (m,((off+k:Nat):Int))=some (.inl (Bf .i64 (tR (m*2^8)) (tR l[k]),((off+(k+1):Nat):Int))))
 (he:∀m,step (m,((off+l.length:Nat):Int))=some (.inr m)):loop step (n,(off:Int))=some (vK n l):=by
 obtain⟨b,h1,rfl⟩:=uz (step:=step) (λk z=>z=(vK n (l.take k),((off+k:Nat):Int))) l.length (λb=>b=vK n l)
  (λk z hk e=>by
   subst e;left;refine⟨_,hs k hk _,?_⟩;have ht:l.take (k+1)=l.take k++[l[k]]:=by rw[take_add_one,List.getElem?_eq_getElem hk];rfl
   rw[TE (OO hn hl h3 k (by omega)) (hl _ (getElem_mem hk)),ht];unfold vK;rw[List.foldl_append];rfl)
  (λz e=>by
   subst e;exact⟨_,he _,by rw[take_length]⟩) (x:=(n,(off:Int))) rfl
 exact h1
theorem NR {x0:Int} {l:List Int} (hb:xi (x0::l)) (h3:l.length<=3):-2147483648<=vK (xR x0) l/\vK (xR x0) l<=2147483647/\((vA (vK (xR x0) l)).length=(x0::l).length->x0::l=vA (vK (xR x0) l)):=by
 have h0:=hb x0 (by simp);have hs:(xR x0=x0/\x0<=127)\/(xR x0=x0-256/\128<=x0):=by unfold xR;split<;>omega
 generalize xR x0=s at hs
 match l,h3 with
 | [],_ =>
  simp only[vK,List.foldl];refine⟨by omega,by omega,λ_=>?_⟩;have:tX s (-128) 127=true:=by unfold tX;rw[dT (by omega),dT (by omega)];rfl
  unfold vA;rw[if_pos this,show s%256=x0 by omega]
 | [a],_ =>
  have ha:=hb a (by simp);simp only[vK,List.foldl];refine⟨by omega,by omega,λh=>?_⟩;unfold vA at h ⊢;split at h
  · simp at h
  · split at h
    · next h1 h2=>rw[if_neg h1,if_pos h2,show (s*256+a)/256%256=x0 by omega,show (s*256+a)%256=a by omega]
    · split at h<;>simp at h
 | [a,b],_ =>
  have ha:=hb a (by simp);have hb':=hb b (by simp)
  simp only[vK,List.foldl];refine⟨by omega,by omega,λh=>?_⟩;unfold vA at h ⊢;split at h
  · simp at h
  · split at h
    · simp at h
    · split at h
      · next h1 h2 h3=>rw[if_neg h1,if_neg h2,if_pos h3,show ((s*256+a)*256+b)/65536%256=x0 by omega,show ((s*256+a)*256+b)/256%256=a by omega,show ((s*256+a)*256+b)%256=b by omega]
      · simp at h
 | [a,b,c],_ =>
  have ha:=hb a (by simp);have hb':=hb b (by simp)
  have hc:=hb c (by simp);simp only[vK,List.foldl];refine⟨by omega,by omega,λh=>?_⟩;unfold vA at h ⊢;split at h
  · simp at h
  · split at h
    · simp at h
    · split at h
      · simp at h
      · next h1 h2 h3=>rw[if_neg h1,if_neg h2,if_neg h3,show (((s*256+a)*256+b)*256+c)/16777216%256=x0 by omega,show (((s*256+a)*256+b)*256+c)/65536%256=a by omega,show (((s*256+a)*256+b)*256+c)/256%256=b by omega,show (((s*256+a)*256+b)*256+c)%256=c by omega]
theorem B1 {n:Int} (h:-2147483648<=n/\n<=2147483647):B6 n=n:=by unfold B6;split<;>(try split)<;>omega
theorem i8 {x:Int} (hx:0<=x/\x<=255):tR (IntKind.i8.wrap x)=xR x:=by
 have:IntKind.i8.wrap x=xR x:=by
  show (let m:=x%256;if (true&&decide (m>=128))=true then m-256 else m)=_;unfold xR;simp only[Bool.true_and,decide_eq_true_eq];split<;>split<;>omega
 rw[this];unfold xR;split<;>exact uS (by omega) (by omega)
theorem NS {b:List Int} (hb:xi b) (hn:b.length<=M):∃r,eu b=some r/\dN b=some r/\(r=(0,false)\/∃n,r=(n,true)/\b=vA n /\ -2147483648<=n/\n<=2147483647):=by
 have hn':b.length<=1048576:=hn;unfold eu dN;rw[xx,AP,tP,tP];cases h14:tX (b.length:Int) 1 4 with
 | false=>exact⟨_,rfl,rfl,.inl rfl⟩
 | true =>
  obtain⟨k1,k4⟩:=wi h14
  match b,k1,k4,hb,hn' with
  | x0::l,k1,k4,hb,hn' =>
   have h3:l.length<=3:=by rw[length_cons]at k4;omega
   have h0:=hb x0 (by simp);have hl:xi l:=λx hx=>hb x (mem_cons_of_mem _ hx)
   obtain⟨d1,d2,d3⟩:=NR hb h3;have hsg:-256<=xR x0/\xR x0<=256:=by unfold xR;split<;>omega
   have w0:tR x0=x0:=uS (by omega) (by omega);have hcut:cut (x0::l) 1 ((x0::l).length:Int)=some l:=by
    rw[show (1:Int)=((1:Nat):Int)from rfl,yh (by simp) (Nat.le_refl _),take_length];rfl
   have hfin:∀d:Int×Bool,True:=λ_=>trivial;have li:loop (λz:Int×Int=>cW l z.1 z.2) (xR x0,0)=some (vK (xR x0) l):=GO hsg hl h3 (off:=0) _ (by omega) (λk hk m=>by
    show cW l m ((0+k:Nat):Int)=_;rw[Nat.zero_add];unfold cW;rw[ux (by omega),cT,ug hk,tP,ua (by omega),Nat.zero_add]) (λm=>by
    show cW l m ((0+l.length:Nat):Int)=_;rw[Nat.zero_add];unfold cW;rw[uj (by omega),cF])
   have hat:∀k (hk:k<l.length),at? (x0::l) ((1+k:Nat):Int)=some l[k]:=λk hk=>by
    rw[ug (by simp;omega)]
    congr 1
    rw[List.getElem_cons,dif_neg (by omega)]
    congr 1;omega
   have ls:loop (λz:Int×Int=>ct (x0::l) z.1 z.2) (xR x0,1)=some (vK (xR x0) l):=GO hsg hl h3 (off:=1) _ (by omega) (λk hk m=>by
    show ct (x0::l) m ((1+k:Nat):Int)=_;unfold ct;rw[ux (show ((1+k:Nat):Int)<((x0::l).length:Int) by rw[length_cons];omega),cT,hat k hk,tP,ua (by omega)];rfl) (λm=>by
    show ct (x0::l) m ((1+l.length:Nat):Int)=_;unfold ct;rw[uj (show ¬((1+l.length:Nat):Int)<((x0::l).length:Int) by rw[length_cons];omega),cF])
   have ls1:loop (λz:Int×Int=>cu (x0::l) z.1 z.2) (xR x0,1)=some (vK (xR x0) l):=GO hsg hl h3 (off:=1) _ (by omega) (λk hk m=>by
    show cu (x0::l) m ((1+k:Nat):Int)=_;unfold cu;rw[ux (show ((1+k:Nat):Int)<((x0::l).length:Int) by rw[length_cons];omega),cT,hat k hk,tP,ua (by omega)];rfl) (λm=>by
    show cu (x0::l) m ((1+l.length:Nat):Int)=_;unfold cu;rw[uj (show ¬((1+l.length:Nat):Int)<((x0::l).length:Int) by rw[length_cons];omega),cF])
   have fin1:∀(g:Option (List Int)),g=some (vA (vK (xR x0) l))->∃r,(g.bind λt30=>cond ((t30.length:Int) != ((x0::l).length:Int)) (some ((0:Int),false)) (some (vK (xR x0) l,true)))=some r/\(r=(0,false)\/∃n,r=(n,true)/\x0::l=vA n /\ -2147483648<=n/\n<=2147483647):=λg hg=>by
    rw[hg,tP];cases he:(((vA (vK (xR x0) l)).length:Int) != ((x0::l).length:Int))with
    | true=>exact⟨_,rfl,.inl rfl⟩
    | false =>
     have he':((vA (vK (xR x0) l)).length:Int)=((x0::l).length:Int):=by simpa using he
     exact⟨_,rfl,.inr ⟨_,rfl,d3 (by omega),d1,d2⟩⟩
   have p1:=Ky (n:=vK (xR x0) l) ⟨by omega,by omega⟩;have p2:=DW (n:=vK (xR x0) l)
   rw[B1 ⟨d1,d2⟩]at p1 p2;obtain⟨r,f1,f2⟩:=fin1 _ p1;have f3:((aO (vK (xR x0) l)).bind λt30=>cond ((t30.length:Int) != ((x0::l).length:Int)) (some ((0:Int),false)) (some (vK (xR x0) l,true)))=some r:=by rw[p2,←p1];exact f1
   refine⟨r,?_,?_,f2⟩
   · rw[Bool.not_true,cF,show at? (x0::l) 0=some x0 from rfl,tP];simp only;rw[hcut,tP,i8 h0,li,tP];exact f1
   · rw[Bool.not_true,cF,show at? (x0::l) 0=some x0 from rfl,tP,w0];by_cases h7:x0>127
     · have hsx:tR (x0-256)=xR x0:=by unfold xR;rw[if_pos h7];exact uS (by omega) (by omega)
       rw[dT h7,cT,hsx,ls,tP];exact f3
     · have hsx:xR x0=x0:=by unfold xR;rw[if_neg h7]
       rw[hsx]at ls1 f3;rw[dF h7,cF,ls1,tP];exact f3

theorem Mz:((2^64:Nat):Int)=18446744073709551616:=by decide
theorem DS {x:Int} (hx:0<=x/\x<9223372036854775808):yK .i64 x 127=x%128:=by
 show IntKind.i64.wrap (((BitVec.ofInt 64 x&&&BitVec.ofInt 64 127).toNat:Nat):Int)=_;rw[BitVec.toNat_and,BitVec.toNat_ofInt,BitVec.toNat_ofInt,Mz];have h2:((127:Int)%18446744073709551616).toNat=2^7-1:=by decide
 have h1:(x%18446744073709551616).toNat=x.toNat:=by omega
 rw[h1,h2,Nat.and_two_pow_sub_one_eq_mod];show (let z:=((x.toNat%2^7:Nat):Int)%18446744073709551616;if (true&&decide (z>=9223372036854775808))=true then z-18446744073709551616 else z)=_
 simp only[Bool.true_and,decide_eq_true_eq];split<;>omega
theorem El {x:Int} (hx:0<=x/\x<=255):yK .u8 x 127=x%128:=by
 show IntKind.u8.wrap (((BitVec.ofInt 8 x&&&BitVec.ofInt 8 127).toNat:Nat):Int)=_;rw[BitVec.toNat_and,BitVec.toNat_ofInt,BitVec.toNat_ofInt,show ((2^8:Nat):Int)=256 by decide];have h2:((127:Int)%256).toNat=2^7-1:=by decide
 have h1:(x%256).toNat=x.toNat:=by omega
 rw[h1,h2,Nat.and_two_pow_sub_one_eq_mod];show (((x.toNat%2^7:Nat):Int)%256)=_
 omega
theorem Rl {x:Int} (hx:0<=x/\x<128):Bf .i64 x 128=x+128:=by
 show IntKind.i64.wrap (((BitVec.ofInt 64 x|||BitVec.ofInt 64 128).toNat:Nat):Int)=_;rw[BitVec.toNat_or,BitVec.toNat_ofInt,BitVec.toNat_ofInt,Mz];have h2:((128:Int)%18446744073709551616).toNat=2^7*1:=by decide
 have h1:(x%18446744073709551616).toNat=x.toNat:=by omega
 rw[h1,h2,Nat.or_comm,←Nat.two_pow_add_eq_or_of_lt (by show x.toNat<2^7;omega)];show (let z:=((2^7*1+x.toNat:Nat):Int)%18446744073709551616;if (true&&decide (z>=9223372036854775808))=true then z-18446744073709551616 else z)=_
 simp only[Bool.true_and,decide_eq_true_eq];split<;>omega
theorem MA {m x:Int} (hm:0<=m/\m<=1099511627776) (hx:0<=x/\x<128):Bf .i64 (tR (m*2^7)) (tR x)=m*128+x:=by
 rw[show m*2^7=m*128 from rfl,uS (show -9223372036854775808<=m*128 by omega) (by omega),uS (show -9223372036854775808<=x by omega) (by omega)];show IntKind.i64.wrap (((BitVec.ofInt 64 (m*128)|||BitVec.ofInt 64 x).toNat:Nat):Int)=_
 rw[BitVec.toNat_or,BitVec.toNat_ofInt,BitVec.toNat_ofInt,Mz];have h1:((m*128)%18446744073709551616).toNat=2^7*m.toNat:=by omega
 have h2:(x%18446744073709551616).toNat=x.toNat:=by omega
 rw[h1,h2,←Nat.two_pow_add_eq_or_of_lt (by show x.toNat<2^7;omega)];show (let z:=((2^7*m.toNat+x.toNat:Nat):Int)%18446744073709551616;if (true&&decide (z>=9223372036854775808))=true then z-18446744073709551616 else z)=_
 simp only[Bool.true_and,decide_eq_true_eq];split<;>omega
def grp (n:Int):List Int:=if n<=127 then [n]else if n<=16383 then [n/128+128,n%128]else if n<=2097151 then [n/16384+128,n/128%128+128,n%128]else [n/2097152+128,n/16384%128+128,n/128%128+128,n%128]
def uB (o:List Int):List Int:=o.flatMap grp
theorem OP {n:Int} (hn:0<=n/\n<268435456):cw n=some (grp n):=by
 unfold cw;have st:∀(x:Int) (out:List Int),0<=x/\x<268435456->out.length<=10->br x out=cond (decide (x>127)) (some (.inl (x/128,(x/128%128+128)::out))) (some (.inr out)):=λx out hx ho=>by
  unfold br;rw[fd x (by decide),show (2:Int)^7=128 from rfl,DS (by omega),Rl (by omega),w8,u7 (by simp;omega),tP,show (x/128%128+128)%256=x/128%128+128 by omega];rfl
 have goes:∀(x:Int) (out:List Int),0<=x/\x<268435456->out.length<=9->x<=127->loop (λz:Int×List Int=>br z.1 z.2) (x,out)=some out:=λx out hx ho h=>un (by show br x out=_;rw[st x out hx (by omega),dF (by omega)];rfl);have more:∀(x:Int) (out r:List Int),0<=x/\x<268435456->out.length<=9->127<x->loop (λz:Int×List Int=>br z.1 z.2) (x/128,(x/128%128+128)::out)=some r->loop (λz:Int×List Int=>br z.1 z.2) (x,out)=some r:=λx out r hx ho h k=>uh (by show br x out=_;rw[st x out hx (by omega),dT (by omega)];rfl) k
 rw[DS (by omega),w8,show n%128%256=n%128 by omega];unfold grp;by_cases h1:n<=127
 · rw[if_pos h1,goes n _ hn (by simp) h1,show n%128=n by omega];rfl
 rw[if_neg h1];by_cases h2:n<=16383
 · rw[if_pos h2,more n _ _ hn (by simp) (by omega) (goes (n/128) _ (by omega) (by simp) (by omega)),show n/128%128=n/128 by omega];rfl
 rw[if_neg h2];by_cases h3:n<=2097151
 · rw[if_pos h3,more n _ _ hn (by simp) (by omega) (more (n/128) _ _ (by omega) (by simp) (by omega) (goes (n/128/128) _ (by omega) (by simp) (by omega))),show n/128/128=n/16384 by omega,show n/16384%128=n/16384 by omega];rfl
 rw[if_neg h3,more n _ _ hn (by simp) (by omega) (more (n/128) _ _ (by omega) (by simp) (by omega) (more (n/128/128) _ _ (by omega) (by simp) (by omega) (goes (n/128/128/128) _ (by omega) (by simp) (by omega)))),show n/128/128=n/16384 by omega,show n/16384/128=n/2097152 by omega,show n/2097152%128=n/2097152 by omega];rfl
theorem Ij (n:Int):(grp n).length<=4:=by unfold grp;split<;>(try split)<;>(try split)<;>simp
theorem Ly (n:Int):1<=(grp n).length:=by unfold grp;split<;>(try split)<;>(try split)<;>simp
theorem OQ {n:Int} (h:n<=100000):(grp n).length<=3:=by unfold grp;split<;>(try split)<;>(try split)<;>simp<;>omega
theorem A9 {o:List Int} (h:∀x∈o,x<=100000):(uB o).length<=3*o.length:=by
 induction o with
 | nil=>simp[uB]
 | cons x t ih =>
  have h1:=ih λy hy=>h y (mem_cons_of_mem _ hy);have h2:=OQ (h x (by simp))
  unfold uB at h1 ⊢;rw[List.flatMap_cons,length_append,length_cons];omega
theorem TF {n:Int} (hn:0<=n/\n<=100000) {out:List Int} (ho:out.length<=100):∃d,loop (λz=>bB n z) 0=some d/\∃e,loop (λz:Int×List Int=>cj n z.1 z.2) (d,out)=some e/\e.length<=104/\e++[IntKind.u8.wrap (yK .i64 n 127)]=out++grp n:=by
 have s0:bB n 0=cond (decide (n>127)) (some (.inl 1)) (some (.inr 0)):=by
  unfold bB;rw[show shr .i64 n (tR (7*0))=some (n.fdiv (2^0))from rfl,tP,fd n (by decide),show n/2^0=n by simp];rfl
 have s1:bB n 1=cond (decide (n/128>127)) (some (.inl 2)) (some (.inr 1)):=by
  unfold bB;rw[show shr .i64 n (tR (7*1))=some (n.fdiv (2^7))from rfl,tP,fd n (by decide),show (2:Int)^7=128 from rfl];rfl
 have s2:bB n 2=some (.inr 2):=by
  unfold bB;rw[show shr .i64 n (tR (7*2))=some (n.fdiv (2^14))from rfl,tP,fd n (by decide),show (2:Int)^14=16384 from rfl,dF (by omega)];rfl
 have t0:∀o:List Int,cj n 0 o=some (.inr o):=λo=>rfl;have t1:∀o:List Int,o.length<=110->cj n 1 o=some (.inl (0,o++[n/128%128+128])):=λo ho=>by
  unfold cj;rw[show shr .i64 n (tR (7*1))=some (n.fdiv (2^7))from rfl,tP,fd n (by decide),show (2:Int)^7=128 from rfl,DS (by omega),uS (by omega) (by omega),w8,u7 (by simp;omega),tP,show (n/128%128+128)%256=n/128%128+128 by omega];rfl
 have t2:∀o:List Int,o.length<=110->cj n 2 o=some (.inl (1,o++[n/16384%128+128])):=λo ho=>by
  unfold cj;rw[show shr .i64 n (tR (7*2))=some (n.fdiv (2^14))from rfl,tP,fd n (by decide),show (2:Int)^14=16384 from rfl,DS (by omega),uS (by omega) (by omega),w8,u7 (by simp;omega),tP,show (n/16384%128+128)%256=n/16384%128+128 by omega];rfl
 rw[DS (by omega),w8,show n%128%256=n%128 by omega];unfold grp;by_cases h1:n<=127
 · rw[dF (by omega)]at s0;refine⟨0,un s0,out,un (t0 out),by omega,?_⟩;rw[if_pos h1,show n%128=n by omega]
 rw[dT (by omega)]at s0;by_cases h2:n<=16383
 · rw[dF (by omega)]at s1;refine⟨1,uh s0 (un s1),_,uh (t1 out (by omega)) (un (t0 _)),by simp;omega,?_⟩;rw[if_neg h1,if_pos h2,show n/128%128=n/128 by omega];simp
 rw[dT (by omega)]at s1;refine⟨2,uh s0 (uh s1 (un s2)),_,uh (t2 out (by omega)) (uh (t1 _ (by simp;omega)) (un (t0 _))),by simp;omega,?_⟩;rw[if_neg h1,if_neg h2,if_pos (by omega),show n/16384%128=n/16384 by omega];simp
theorem Rm {o:List Int} (hn:o.length<=M):∃v,ah o=some v/\(v=true->1<=o.length/\o.length<=10/\∀x∈o,0<=x/\x<=100000)/\ck o=some (cond v (uB o) []):=by
 have hn':o.length<=1048576:=hn;obtain⟨v,hv,hv2⟩:∃v,ah o=some v/\(v=true->1<=o.length/\o.length<=10/\∀x∈o,0<=x/\x<=100000):=by
  unfold ah;obtain⟨b,h1,h2⟩:=uz (β:=Unit⊕Bool) (step:=λz=>aD o z) (λk i=>i=(k:Int)/\∀x∈o.take k,0<=x/\x<=100000) o.length (λb=>(b=.inl ()/\∀x∈o,0<=x/\x<=100000)\/b=.inr false)
   (λk i hk ⟨e,hx⟩=>by
    subst e;have hs:aD o (k:Int)=cond (!(tX o[k] 0 100000)) (some (.inr (.inr false))) (some (.inl ((k+1:Nat):Int))):=by
     unfold aD;rw[ux (by omega),cT,ug hk,tP,xx,tP,ua (by omega)]
    cases hp:tX o[k] 0 100000 with
    | false=>exact .inr ⟨_,by rw[hs,hp];rfl,.inr rfl⟩
    | true =>
     refine .inl ⟨_,by rw[hs,hp];rfl,rfl,λx hx'=>?_⟩;rw[take_add_one,List.getElem?_eq_getElem hk,mem_append]at hx';rcases hx' with hx'|hx'
     · exact hx x hx'
     · simp at hx';subst hx';exact wi hp)
   (λi ⟨e,hx⟩=>by
    subst e;rw[take_length]at hx;refine⟨.inl (),?_,.inl ⟨rfl,hx⟩⟩;unfold aD;rw[uj (by omega),cF]) (x:=0) ⟨rfl,by simp⟩
  rw[h1,tP];rcases h2 with ⟨rfl,hx⟩|rfl
  · simp only[Sum.elim_inl,xx,tP];refine⟨_,rfl,λh=>?_⟩;have:=wi h
    exact⟨by omega,by omega,hx⟩
  · exact⟨false,rfl,λh=>by cases h⟩
 refine⟨v,hv,hv2,?_⟩;unfold ck;rw[hv,tP];cases v with
 | false=>rfl
 | true =>
  obtain⟨h1,h10,hx⟩:=hv2 rfl;obtain⟨b,e1,rfl⟩:=uz (step:=λz:Int×List Int=>cX o z.1 z.2) (λk z=>z=((k:Int),uB (o.take k))) o.length (λb=>b=uB o)
   (λk z hk e=>by
    subst e;left;have hl:(uB (o.take k)).length<=30:=by
     have:=A9 (o:=o.take k) λx hx'=>(hx x (mem_of_mem_take hx')).2;rw[length_take]at this;omega
    obtain⟨d,d1,e,e1,e2,e3⟩:=TF (hx _ (getElem_mem hk)) (out:=uB (o.take k)) (by omega);have ht:uB (o.take (k+1))=uB (o.take k)++grp o[k]:=by
     unfold uB;rw[take_add_one,List.getElem?_eq_getElem hk,flatMap_append];simp
    refine⟨_,?_,rfl⟩;show cX o (k:Int) (uB (o.take k))=_
    unfold cX;rw[ux (by omega),cT,ug hk,tP,d1,tP,e1,tP,u7 (by simp;omega),tP,ua (by omega),ht,←e3])
   (λz e=>by
    subst e;refine⟨uB o,?_,rfl⟩;show cX o (o.length:Int) (uB (o.take o.length))=_
    unfold cX;rw[uj (by omega),cF,take_length]) (x:=(0,[])) rfl
  rw[e1];rfl

theorem Ik {n:Int} (h:0<=n/\n<268435456):xi (grp n):=by
 unfold grp;intro x hx;split at hx
 · simp at hx;omega
 · split at hx
   · simp at hx;omega
   · split at hx
     · simp at hx;omega
     · simp at hx;omega
theorem SD {pre rest out:List Int} {n:Int} (hn:0<=n/\n<=100000) (hp:pre.length<=30) (ho:out.length<=100) {r:List Int⊕(Bool×List Int)}
 (k:loop (λz:Int×Int×List Int=>ar (pre++(grp n++rest)) z.1 z.2.1 z.2.2) (0,((pre.length+(grp n).length:Nat):Int),out++[n])=some r) :
 loop (λz:Int×Int×List Int=>ar (pre++(grp n++rest)) z.1 z.2.1 z.2.2) (0,(pre.length:Int),out)=some r:=by
 have hg:=Ik (n:=n) (by omega);have st:∀(m:Int) (j:Nat) (o:List Int) (hj:j<(grp n).length),0<=m/\m<=1048576->o.length<=100->ar (pre++(grp n++rest)) m ((pre.length+j:Nat):Int) o=cond (decide ((grp n)[j]<128)) (some (.inl (0,((pre.length+(j+1):Nat):Int),o++[m*128+(grp n)[j]%128]))) (some (.inl (m*128+(grp n)[j]%128,((pre.length+(j+1):Nat):Int),o))):=λm j o hj hm ho=>by
  have h4:=Ij n;have hx:=hg _ (getElem_mem hj)
  have hat:at? (pre++(grp n++rest)) ((pre.length+j:Nat):Int)=some (grp n)[j]:=by
   rw[DX,ug (by rw[length_append];omega),List.getElem_append_left hj]
  unfold ar;rw[ux (show ((pre.length+j:Nat):Int)<((pre++(grp n++rest)).length:Int) by rw[length_append,length_append];omega),cT,hat,tP,dF (show ¬((pre.length+j:Nat):Int)>=40 by omega),cF,El hx,ua (by omega)];have hmin:min2 m 1048576=m:=by unfold min2;split<;>omega
  rw[hmin,MA (by omega) (by omega)];simp only;rw[u7 (by simp;omega),tP];rfl
 have h4:=Ij n;have hz:(0:Int)*128=0:=rfl
 unfold grp at k st ⊢;by_cases h1:n<=127
 · rw[if_pos h1]at k st ⊢;have s0:=st 0 0 out (by simp) (by omega) ho
   simp only[getElem_cons_zero,Nat.add_zero]at s0;rw[dT (by omega),cT,show (0:Int)*128+n%128=n by omega]at s0;exact uh s0 k
 rw[if_neg h1]at k st ⊢;by_cases h2:n<=16383
 · rw[if_pos h2]at k st ⊢;have s0:=st 0 0 out (by simp) (by omega) ho
   have s1:=st (n/128) 1 out (by simp) (by omega) ho;simp only[getElem_cons_zero,getElem_cons_succ,Nat.add_zero,Nat.zero_add,Nat.reduceAdd]at s0 s1;rw[dF (by omega),cF,show (0:Int)*128+(n/128+128)%128=n/128 by omega]at s0;rw[dT (by omega),cT,show n/128*128+n%128%128=n by omega]at s1;exact uh s0 (uh s1 k)
 rw[if_neg h2]at k st ⊢;rw[if_pos (show n<=2097151 by omega)]at k st ⊢;have s0:=st 0 0 out (by simp) (by omega) ho
 have s1:=st (n/16384) 1 out (by simp) (by omega) ho;have s2:=st (n/128) 2 out (by simp) (by omega) ho
 simp only[getElem_cons_zero,getElem_cons_succ,Nat.add_zero,Nat.zero_add,Nat.reduceAdd]at s0 s1 s2;rw[dF (by omega),cF,show (0:Int)*128+(n/16384+128)%128=n/16384 by omega]at s0;rw[dF (by omega),cF,show n/16384*128+(n/128%128+128)%128=n/128 by omega]at s1;rw[dT (by omega),cT,show n/128*128+n%128%128=n by omega]at s2;exact uh s0 (uh s1 (uh s2 k))
theorem K6 {b:List Int}:∀(o pre out:List Int),b=pre++uB o->(∀x∈o,0<=x/\x<=100000)->b.length<=30->out.length+o.length<=20->loop (λz:Int×Int×List Int=>ar b z.1 z.2.1 z.2.2) (0,(pre.length:Int),out)=some (.inl (out++o))
 | [],pre,out,e,_,hb,_=>by
  have:b.length=pre.length:=by rw[e];simp[uB]
  refine un ?_;show ar b 0 (pre.length:Int) out=_
  unfold ar;rw[uj (by omega),cF,append_nil]
 | n::o,pre,out,e,hx,hb,hl=>by
  have e1:b=pre++(grp n++uB o):=by rw[e];rfl
  have e2:b=(pre++grp n)++uB o:=by rw[e1,append_assoc]
  have ih:=K6 o (pre++grp n) (out++[n]) e2 (λx h=>hx x (mem_cons_of_mem _ h)) hb (by simp at hl ⊢;omega);rw[length_append,append_assoc]at ih;have hpl:pre.length<=30:=by rw[e1,length_append]at hb;omega
  rw[length_cons]at hl;rw[e1]at ih ⊢;exact SD (hx n (by simp)) hpl (by omega) ih
theorem SE {b pre s:List Int} (e:b=pre++s) (hb:xi b) (hn:b.length<=M):∃d:Int×Int×Int×Bool,loop (λz:Int×Int×Int×Bool=>ay b z.1 z.2.1 z.2.2.1 z.2.2.2) ((pre.length:Int),0,0,true)=some d /\
 (d.2.2.2=true\/∃l rest:List Int,s=l++rest/\1<=l.length/\d=(((pre.length+l.length:Nat):Int),d.2.1,(l.length:Int),false)/\0<=d.2.1/\d.2.1<268435456/\((grp d.2.1).length=l.length->l=grp d.2.1))/\0<=d.2.1/\d.2.1<268435456/\0<=d.1/\d.1<=(b.length:Int):=by
 have hn':b.length<=1048576:=hn;have hlen:b.length=pre.length+s.length:=by rw[e,length_append]
 have st:∀(m:Int) (j:Nat) (hj:j<s.length),j<4->0<=m/\m<=2097152->ay b ((pre.length+j:Nat):Int) m (j:Int) true=some (.inl (((pre.length+(j+1):Nat):Int),m*128+s[j]%128,((j+1:Nat):Int),decide (s[j]>127))):=λm j hj h4 hm=>by
  have hx:0<=s[j]/\s[j]<=255:=hb _ (by rw[e];exact List.mem_append_right _ (getElem_mem hj));have hat:at? b ((pre.length+j:Nat):Int)=some s[j]:=by rw[e,DX,ug hj]
  unfold ay;rw[ux (show ((pre.length+j:Nat):Int)<(b.length:Int) by omega),cT,tP,cT,ux (show (j:Int)<4 by omega),tP,cT,hat,tP,tP,El hx,MA (by omega) (by omega),ua (by omega),ua (by omega)];rfl
 have stop:∀(m:Int) (j:Nat),ay b ((pre.length+j:Nat):Int) m (j:Int) false=some (.inr (((pre.length+j:Nat):Int),m,(j:Int),false)):=λm j=>by
  unfold ay;rfl
 have endd:∀(m:Int) (j:Nat),(s.length<=j\/4<=j)->ay b ((pre.length+j:Nat):Int) m (j:Int) true=some (.inr (((pre.length+j:Nat):Int),m,(j:Int),true)):=λm j h=>by
  unfold ay;rw[cT,tP];by_cases h1:((pre.length+j:Nat):Int)<(b.length:Int)
  · rw[ux h1,cT,uj (show ¬(j:Int)<4 by omega)];rfl
  · rw[uj h1,cF];rfl
 have hsx:∀j (hj:j<s.length),0<=s[j]/\s[j]<=255:=λj hj=>hb _ (by rw[e];exact List.mem_append_right _ (getElem_mem hj));by_cases l0:s.length<=0
 · exact⟨_,un (endd 0 0 (.inl l0)),.inl rfl,by show (0:Int)<=0/\(0:Int)<_/\_;omega⟩
 have a0:=st 0 0 (by omega) (by omega) (by omega);have x0:=hsx 0 (by omega)
 generalize g0:s[0]=y0 at a0 x0;by_cases m0:y0>127
 · rw[dT m0]at a0;by_cases l1:s.length<=1
   · exact⟨_,uh a0 (un (endd _ 1 (.inl l1))),.inl rfl,by show 0<=(0:Int)*128+y0%128/\(0:Int)*128+y0%128<_/\(0:Int)<=((pre.length+1:Nat):Int)/\((pre.length+1:Nat):Int)<=_;omega⟩
   have a1:=st (0*128+y0%128) 1 (by omega) (by omega) (by omega);have x1:=hsx 1 (by omega)
   generalize g1:s[1]=y1 at a1 x1;by_cases m1:y1>127
   · rw[dT m1]at a1;by_cases l2:s.length<=2
     · exact⟨_,uh a0 (uh a1 (un (endd _ 2 (.inl l2)))),.inl rfl,by show 0<=((0:Int)*128+y0%128)*128+y1%128/\((0:Int)*128+y0%128)*128+y1%128<_/\(0:Int)<=((pre.length+2:Nat):Int)/\((pre.length+2:Nat):Int)<=_;omega⟩
     have a2:=st ((0*128+y0%128)*128+y1%128) 2 (by omega) (by omega) (by omega);have x2:=hsx 2 (by omega)
     generalize g2:s[2]=y2 at a2 x2;by_cases m2:y2>127
     · rw[dT m2]at a2;by_cases l3:s.length<=3
       · exact⟨_,uh a0 (uh a1 (uh a2 (un (endd _ 3 (.inl l3))))),.inl rfl,by show 0<=(((0:Int)*128+y0%128)*128+y1%128)*128+y2%128/\(((0:Int)*128+y0%128)*128+y1%128)*128+y2%128<_/\(0:Int)<=((pre.length+3:Nat):Int)/\((pre.length+3:Nat):Int)<=_;omega⟩
       have a3:=st (((0*128+y0%128)*128+y1%128)*128+y2%128) 3 (by omega) (by omega) (by omega);have x3:=hsx 3 (by omega)
       generalize g3:s[3]=y3 at a3 x3;by_cases m3:y3>127
       · rw[dT m3]at a3;exact⟨_,uh a0 (uh a1 (uh a2 (uh a3 (un (endd _ 4 (.inr (by omega))))))),.inl rfl,by show 0<=((((0:Int)*128+y0%128)*128+y1%128)*128+y2%128)*128+y3%128/\((((0:Int)*128+y0%128)*128+y1%128)*128+y2%128)*128+y3%128<_/\(0:Int)<=((pre.length+4:Nat):Int)/\((pre.length+4:Nat):Int)<=_;omega⟩
       · rw[dF m3]at a3;have d0:s.drop 0=s[0]::s.drop 1:=drop_eq_getElem_cons (by omega)
         have d1:s.drop 1=s[1]::s.drop 2:=drop_eq_getElem_cons (by omega);have d2:s.drop 2=s[2]::s.drop 3:=drop_eq_getElem_cons (by omega)
         have d3:s.drop 3=s[3]::s.drop 4:=drop_eq_getElem_cons (by omega);have hs:s=y0::y1::y2::y3::s.drop 4:=by
          rw[drop_zero]at d0;exact d0.trans (by rw[g0,d1,g1,d2,g2,d3,g3])
         refine⟨_,uh a0 (uh a1 (uh a2 (uh a3 (un (stop _ 4))))),.inr ⟨[y0,y1,y2,y3],s.drop 4,hs,by simp,rfl,?_,?_,?_⟩,?_⟩
         · show 0<=((((0:Int)*128+y0%128)*128+y1%128)*128+y2%128)*128+y3%128;omega
         · show ((((0:Int)*128+y0%128)*128+y1%128)*128+y2%128)*128+y3%128<_;omega
         · show (grp (((((0:Int)*128+y0%128)*128+y1%128)*128+y2%128)*128+y3%128)).length=_->_=grp (((((0:Int)*128+y0%128)*128+y1%128)*128+y2%128)*128+y3%128);intro h;generalize hv:((((0:Int)*128+y0%128)*128+y1%128)*128+y2%128)*128+y3%128=v at h ⊢;unfold grp at h ⊢;split at h
           · simp at h
           · split at h
             · simp at h
             · split at h
               · simp at h
               · next q1 q2 q3=>rw[if_neg q1,if_neg q2,if_neg q3,show v/2097152+128=y0 by omega,show v/16384%128+128=y1 by omega,show v/128%128+128=y2 by omega,show v%128=y3 by omega]
         · show 0<=((((0:Int)*128+y0%128)*128+y1%128)*128+y2%128)*128+y3%128/\((((0:Int)*128+y0%128)*128+y1%128)*128+y2%128)*128+y3%128<_/\(0:Int)<=((pre.length+4:Nat):Int)/\((pre.length+4:Nat):Int)<=_;omega
     · rw[dF m2]at a2;have d0:s.drop 0=s[0]::s.drop 1:=drop_eq_getElem_cons (by omega)
       have d1:s.drop 1=s[1]::s.drop 2:=drop_eq_getElem_cons (by omega);have d2:s.drop 2=s[2]::s.drop 3:=drop_eq_getElem_cons (by omega)
       have hs:s=y0::y1::y2::s.drop 3:=by
        rw[drop_zero]at d0;exact d0.trans (by rw[g0,d1,g1,d2,g2])
       refine⟨_,uh a0 (uh a1 (uh a2 (un (stop _ 3)))),.inr ⟨[y0,y1,y2],s.drop 3,hs,by simp,rfl,?_,?_,?_⟩,?_⟩
       · show 0<=(((0:Int)*128+y0%128)*128+y1%128)*128+y2%128;omega
       · show (((0:Int)*128+y0%128)*128+y1%128)*128+y2%128<_;omega
       · show (grp ((((0:Int)*128+y0%128)*128+y1%128)*128+y2%128)).length=_->_=grp ((((0:Int)*128+y0%128)*128+y1%128)*128+y2%128);intro h;generalize hv:(((0:Int)*128+y0%128)*128+y1%128)*128+y2%128=v at h ⊢;unfold grp at h ⊢;split at h
         · simp at h
         · split at h
           · simp at h
           · split at h
             · next q1 q2 q3=>rw[if_neg q1,if_neg q2,if_pos q3,show v/16384+128=y0 by omega,show v/128%128+128=y1 by omega,show v%128=y2 by omega]
             · simp at h
       · show 0<=(((0:Int)*128+y0%128)*128+y1%128)*128+y2%128/\(((0:Int)*128+y0%128)*128+y1%128)*128+y2%128<_/\(0:Int)<=((pre.length+3:Nat):Int)/\((pre.length+3:Nat):Int)<=_;omega
   · rw[dF m1]at a1;have d0:s.drop 0=s[0]::s.drop 1:=drop_eq_getElem_cons (by omega)
     have d1:s.drop 1=s[1]::s.drop 2:=drop_eq_getElem_cons (by omega);have hs:s=y0::y1::s.drop 2:=by
      rw[drop_zero]at d0;exact d0.trans (by rw[g0,d1,g1])
     refine⟨_,uh a0 (uh a1 (un (stop _ 2))),.inr ⟨[y0,y1],s.drop 2,hs,by simp,rfl,?_,?_,?_⟩,?_⟩
     · show 0<=((0:Int)*128+y0%128)*128+y1%128;omega
     · show ((0:Int)*128+y0%128)*128+y1%128<_;omega
     · show (grp (((0:Int)*128+y0%128)*128+y1%128)).length=_->_=grp (((0:Int)*128+y0%128)*128+y1%128);intro h;generalize hv:((0:Int)*128+y0%128)*128+y1%128=v at h ⊢;unfold grp at h ⊢;split at h
       · simp at h
       · split at h
         · next q1 q2=>rw[if_neg q1,if_pos q2,show v/128+128=y0 by omega,show v%128=y1 by omega]
         · split at h<;>simp at h
     · show 0<=((0:Int)*128+y0%128)*128+y1%128/\((0:Int)*128+y0%128)*128+y1%128<_/\(0:Int)<=((pre.length+2:Nat):Int)/\((pre.length+2:Nat):Int)<=_;omega
 · rw[dF m0]at a0;have d0:s.drop 0=s[0]::s.drop 1:=drop_eq_getElem_cons (by omega)
   have hs:s=y0::s.drop 1:=by
    rw[drop_zero]at d0;exact d0.trans (by rw[g0])
   refine⟨_,uh a0 (un (stop _ 1)),.inr ⟨[y0],s.drop 1,hs,by simp,rfl,?_,?_,?_⟩,?_⟩
   · show 0<=(0:Int)*128+y0%128;omega
   · show (0:Int)*128+y0%128<_;omega
   · show (grp ((0:Int)*128+y0%128)).length=_->_=grp ((0:Int)*128+y0%128);intro h;generalize hv:(0:Int)*128+y0%128=v at h ⊢;unfold grp at h ⊢;split at h
     · next q1=>rw[if_pos q1,show v=y0 by omega]
     · split at h
       · simp at h
       · split at h<;>simp at h
   · show 0<=(0:Int)*128+y0%128/\(0:Int)*128+y0%128<_/\(0:Int)<=((pre.length+1:Nat):Int)/\((pre.length+1:Nat):Int)<=_;omega

def TG (o:List Int):Prop:=1<=o.length/\o.length<=10/\∀x∈o,0<=x/\x<=100000
theorem SF {pre rest:List Int} {n:Int} (hn:0<=n/\n<=100000) (hp:pre.length<=1000):loop (λz:Int×Int×Int×Bool=>ay (pre++(grp n++rest)) z.1 z.2.1 z.2.2.1 z.2.2.2) ((pre.length:Int),0,0,true)=some (((pre.length+(grp n).length:Nat):Int),n,((grp n).length:Int),false):=by
 have hg:=Ik (n:=n) (by omega);have st:∀(m:Int) (j:Nat) (hj:j<(grp n).length),j<4->0<=m/\m<=2097152->ay (pre++(grp n++rest)) ((pre.length+j:Nat):Int) m (j:Int) true=some (.inl (((pre.length+(j+1):Nat):Int),m*128+(grp n)[j]%128,((j+1:Nat):Int),decide ((grp n)[j]>127))):=λm j hj h4 hm=>by
  have hx:=hg _ (getElem_mem hj);have hat:at? (pre++(grp n++rest)) ((pre.length+j:Nat):Int)=some (grp n)[j]:=by rw[DX,ug (by rw[length_append];omega),List.getElem_append_left hj]
  unfold ay;rw[ux (show ((pre.length+j:Nat):Int)<((pre++(grp n++rest)).length:Int) by rw[length_append,length_append];omega),cT,tP,cT,ux (show (j:Int)<4 by omega),tP,cT,hat,tP,tP,El hx,MA (by omega) (by omega),ua (by omega),ua (by omega)];rfl
 have stop:∀(m:Int) (j:Nat),ay (pre++(grp n++rest)) ((pre.length+j:Nat):Int) m (j:Int) false=some (.inr (((pre.length+j:Nat):Int),m,(j:Int),false)):=λm j=>by
  unfold ay;rfl
 unfold grp at st stop ⊢;by_cases h1:n<=127
 · rw[if_pos h1]at st stop ⊢;have s0:=st 0 0 (by simp) (by omega) (by omega)
   simp only[getElem_cons_zero]at s0;rw[dF (by omega),show (0:Int)*128+n%128=n by omega]at s0;exact uh s0 (un (stop n 1))
 rw[if_neg h1]at st stop ⊢;by_cases h2:n<=16383
 · rw[if_pos h2]at st stop ⊢;have s0:=st 0 0 (by simp) (by omega) (by omega)
   have s1:=st (n/128) 1 (by simp) (by omega) (by omega);simp only[getElem_cons_zero,getElem_cons_succ]at s0 s1;rw[dT (by omega),show (0:Int)*128+(n/128+128)%128=n/128 by omega]at s0;rw[dF (by omega),show n/128*128+n%128%128=n by omega]at s1;exact uh s0 (uh s1 (un (stop n 2)))
 rw[if_neg h2]at st stop ⊢;rw[if_pos (show n<=2097151 by omega)]at st stop ⊢;have s0:=st 0 0 (by simp) (by omega) (by omega)
 have s1:=st (n/16384) 1 (by simp) (by omega) (by omega);have s2:=st (n/128) 2 (by simp) (by omega) (by omega)
 simp only[getElem_cons_zero,getElem_cons_succ]at s0 s1 s2;rw[dT (by omega),show (0:Int)*128+(n/16384+128)%128=n/16384 by omega]at s0;rw[dT (by omega),show n/16384*128+(n/128%128+128)%128=n/128 by omega]at s1;rw[dF (by omega),show n/128*128+n%128%128=n by omega]at s2;exact uh s0 (uh s1 (uh s2 (un (stop n 3))))
theorem K7 {b:List Int}:∀(o pre out:List Int),b=pre++uB o->(∀x∈o,0<=x/\x<=100000)->b.length<=30->out.length+o.length<=10->loop (λz:Int×List Int=>ao b z.1 z.2) ((pre.length:Int),out)=some (.inl ((b.length:Int),out++o))
 | [],pre,out,e,_,hb,_=>by
  have hbl:b.length=pre.length:=by rw[e];simp[uB]
  refine un ?_;show ao b (pre.length:Int) out=_
  unfold ao;rw[uj (by omega),cF,tP,cF,append_nil,hbl]
 | n::o,pre,out,e,hx,hb,hl=>by
  have e1:b=pre++(grp n++uB o):=by rw[e];rfl
  have e2:b=(pre++grp n)++uB o:=by rw[e1,append_assoc]
  rw[length_cons]at hl;have ih:=K7 o (pre++grp n) (out++[n]) e2 (λx h=>hx x (mem_cons_of_mem _ h)) hb (by simp;omega)
  rw[length_append,append_assoc]at ih;have hpl:pre.length<=30:=by rw[e1,length_append]at hb;omega
  have hg1:=Ly n;have hbl:b.length=pre.length+(grp n).length+(uB o).length:=by rw[e2,length_append,length_append]
  have hr:=SF (pre:=pre) (rest:=uB o) (hx n (by simp)) (by omega);rw[←e1]at hr;refine uh ?_ ih;show ao b (pre.length:Int) out=_
  unfold ao;rw[ux (show (pre.length:Int)<(b.length:Int) by omega),cT,dT (show (out.length:Int)<=10 by omega),tP,cT,hr,tP];have hx':=hx n (by simp)
  simp only[cF];rw[OP (by omega),tP,tP];simp only[bne_self_eq_false,cF];rw[u7 (by simp;omega),tP]
theorem K8 (a:List Int) (n:Int):uB (a++[n])=uB a++grp n:=by unfold uB;rw[flatMap_append];simp
theorem Rn {b:List Int} (hb:xi b) (hn:b.length<=M):∃v,loop (λz:Int×List Int=>ao b z.1 z.2) (0,[])=some v/\(v=.inr (false,[])\/∃out s,v=.inl (((uB out).length:Int),out)/\b=uB out++s/\out.length<=11):=by
 have hn':b.length<=1048576:=hn;exact uz (step:=λz:Int×List Int=>ao b z.1 z.2) (λk z=>z.2.length=k/\z.1=((uB z.2).length:Int)/\∃s,b=uB z.2++s) 11 (λv=>v=.inr (false,[])\/∃out s,v=.inl (((uB out).length:Int),out)/\b=uB out++s/\out.length<=11)
  (λk z hk ⟨z1,z2,s,z3⟩=>by
   obtain⟨i,out⟩:=z;simp only at z1 z2 z3;subst z2;have hbl:b.length=(uB out).length+s.length:=by rw[←length_append,←z3]
   by_cases hlt:((uB out).length:Int)<(b.length:Int)
   · obtain⟨d,d1,d2,d3,d4,d5,d6⟩:=SE z3 hb hn;have hs:ao b ((uB out).length:Int) out=(cond d.2.2.2 (some true) ((cw d.2.1).bind λt51=>some ((t51.length:Int) != d.2.2.1))).bind λt55=>cond t55 (some (.inr (.inr (false,([]:List Int))))) ((uv out [d.2.1]).bind λzs60=>some (.inl (d.1,zs60))):=by
      unfold ao;rw[ux hlt,cT,dT (show (out.length:Int)<=10 by omega),tP,cT,d1,tP]
     show (∃y,ao b ((uB out).length:Int) out=some (.inl y)/\_)\/∃v,ao b ((uB out).length:Int) out=some (.inr v)/\_;rw[hs];rcases d2 with d2|⟨l,rest,q1,q2,q3,q4,q5,q6⟩
     · rw[d2];exact .inr ⟨_,rfl,.inl rfl⟩
     · have qb:d.2.2.2=false:=by rw[q3]
       have ql:d.2.2.1=(l.length:Int):=by rw[q3]
       have qa:d.1=(((uB out).length+l.length:Nat):Int):=by rw[q3]
       rw[qb,cF,OP ⟨q4,q5⟩,tP,tP,ql];cases hne:(((grp d.2.1).length:Int) != (l.length:Int))with
       | true=>exact .inr ⟨_,rfl,.inl rfl⟩
       | false =>
        have he:((grp d.2.1).length:Int)=(l.length:Int):=by simpa using hne
        have hl:=q6 (by omega);refine .inl ⟨_,by rw[cF,u7 (by simp;omega),tP],by simp;omega,?_,rest,?_⟩
        · show d.1=((uB (out++[d.2.1])).length:Int);rw[K8,length_append,qa,←hl]
        · show b=uB (out++[d.2.1])++rest;rw[K8,←hl,append_assoc,←q1];exact z3
   · refine .inr ⟨.inl (((uB out).length:Int),out),?_,.inr ⟨out,s,rfl,z3,by omega⟩⟩;show ao b ((uB out).length:Int) out=_
     unfold ao;rw[uj hlt];rfl)
  (λz ⟨z1,z2,s,z3⟩=>by
   obtain⟨i,out⟩:=z;simp only at z1 z2 z3;subst z2;refine⟨.inl (((uB out).length:Int),out),?_,.inr ⟨out,s,rfl,z3,by omega⟩⟩;show ao b ((uB out).length:Int) out=_
   unfold ao;by_cases hlt:((uB out).length:Int)<(b.length:Int)
   · rw[ux hlt,cT,dF (by omega)];rfl
   · rw[uj hlt];rfl) (x:=(0,[])) ⟨rfl,rfl,b,rfl⟩
theorem IX:∀{a b:List Int},xi a->xi b->uX a=uX b->a=b
 | [],[],_,_,_=>rfl
 | [],_::_,_,_,h=>by simp[uX]at h
 | _::_,[],_,_,h=>by simp[uX]at h
 | x::a,y::b,ha,hb,h=>by
  unfold uX at h;rw[map_cons,map_cons,List.cons.injEq]at h;have hx:=ha x (by simp)
  have hy:=hb y (by simp);have h1:=congrArg UInt8.toNat h.1
  rw[UInt8.toNat_ofNat_of_lt' (by show x.toNat<256;omega),UInt8.toNat_ofNat_of_lt' (by show y.toNat<256;omega)]at h1;rw[IX (λz hz=>ha z (mem_cons_of_mem _ hz)) (λz hz=>hb z (mem_cons_of_mem _ hz)) h.2,show x=y by omega]
theorem OR {o:List Int} (h:∀x∈o,0<=x/\x<=100000):xi (uB o):=by
 intro x hx;obtain⟨n,hn,hx⟩:=List.mem_flatMap.1 hx;have:=h n hn
 exact Ik (by omega) x hx
theorem K9 {o:List Int} (h:1<=o.length):1<=(uB o).length:=by
 cases o with
 | nil=>simp at h
 | cons n o =>
  have:=Ly n;unfold uB;rw[List.flatMap_cons,length_append];omega
theorem Ro {b:List Int} (hb:xi b) (hn:b.length<=M):∃v,loop (λz:Int×Int×List Int=>ar b z.1 z.2.1 z.2.2) (0,0,[])=some v/\(v=.inr (false,[])\/∃out,v=.inl out/\out.length<=M):=by
 have hn':b.length<=1048576:=hn;exact uz (step:=λz:Int×Int×List Int=>ar b z.1 z.2.1 z.2.2) (λk z=>z.2.1=(k:Int)/\0<=z.1/\z.2.2.length<=k) b.length (λv=>v=.inr (false,[])\/∃out,v=.inl out/\out.length<=M)
  (λk z hk ⟨z1,z2,z3⟩=>by
   obtain⟨n,i,out⟩:=z;simp only at z1 z2 z3;subst z1;have hx:=hb _ (getElem_mem hk)
   have hm:0<=min2 n 1048576/\min2 n 1048576<=1048576:=by unfold min2;split<;>omega
   show (∃y,ar b n (k:Int) out=some (.inl y)/\_)\/∃v,ar b n (k:Int) out=some (.inr v)/\_;unfold ar;rw[ux (by omega),cT,ug hk,tP];by_cases h40:(k:Int)>=40
   · rw[dT h40];exact .inr ⟨_,rfl,.inl rfl⟩
   rw[dF h40,cF,El hx,MA (by omega) (by omega),ua (by omega)];simp only;by_cases h:b[k]<128
   · rw[dT h,cT,u7 (by simp;omega),tP];exact .inl ⟨_,rfl,rfl,by show (0:Int)<=0;omega,by simp;omega⟩
   · rw[dF h,cF];exact .inl ⟨_,rfl,rfl,by show 0<=min2 n 1048576*128+b[k]%128;omega,by show out.length<=k+1;omega⟩)
  (λz ⟨z1,z2,z3⟩=>by
   obtain⟨n,i,out⟩:=z;simp only at z1 z2 z3;subst z1;refine⟨.inl out,?_,.inr ⟨out,rfl,by show _<=1048576;omega⟩⟩;show ar b n (b.length:Int) out=_
   unfold ar;rw[uj (by omega),cF]) (x:=(0,0,[])) ⟨rfl,by show (0:Int)<=0;omega,by simp⟩

theorem zP {o:List Int} (h:xd o=true):TG o:=by
 unfold xd at h;rw[aT,Bool.not_eq_true']at h;have h1:=wi h.2
 refine⟨by omega,by omega,λx hx=>?_⟩;obtain⟨k,hk,rfl⟩:=getElem_of_mem hx;have:=any_eq_false.1 h.1 k (mem_range.2 hk)
 unfold Ip at this;simp only[List.getElem?_eq_getElem hk]at this;cases hp:tX o[k] 0 100000 with
 | true=>exact wi hp
 | false=>rw[hp]at this;exact absurd rfl this
theorem FP {o:List Int} (hn:o.length<=M):ck o=some (cond (xd o) (uB o) []):=by
 obtain⟨v,h1,h2,h3⟩:=Rm hn;rw[Eu (by have:o.length<=1048576:=hn;omega)]at h1;cases h1;exact h3
theorem NT {b:List Int} (hb:xi b) (hn:b.length<=M):∃r,bC b=some r/\bt b=some r/\(r=([],false)\/∃o,r=(o,true)/\b=uB o/\xd o=true):=by
 have hn':b.length<=1048576:=hn;have both:∀o,xd o=true->b=uB o->bC b=some (o,true)/\bt b=some (o,true):=by
  intro o ho e;obtain⟨o1,o2,o3⟩:=zP ho;have hbl:b.length<=30:=by rw[e];have:=A9 (o:=o) λx hx=>(o3 x hx).2;omega
  have hpos:=K9 o1;constructor
  · unfold bC;have:=K6 (b:=b) o [] [] (by rw[e];rfl) o3 hbl (by simp;omega)
    simp only[List.length_nil,Int.natCast_zero,nil_append]at this;have this':loop (λz:Int×Int×List Int=>ar b z.1 z.2.1 z.2.2) (0,0,[])=some (.inl o):=this
    rw[this',tP,Sum.elim_inl,FP (by show _<=1048576;omega),tP,ho,cT,←e,beq_eq_false_iff_ne.2 (show ((b.length:Int))≠0 by rw[e];omega),cF,beq_self_eq_true];rfl
  · unfold bt;have:=K7 (b:=b) o [] [] (by rw[e];rfl) o3 hbl (by simp;omega)
    simp only[List.length_nil,nil_append]at this;have this':loop (λz:Int×List Int=>ao b z.1 z.2) (0,[])=some (.inl ((b.length:Int),o)):=this
    rw[this',tP,Sum.elim_inl];simp only[bne_self_eq_false,cF];rw[Kt,Eu (by omega),tP,ho];rfl
 obtain⟨v,v1,v2⟩:=Rn hb hn;have sp:bt b=some ([],false)\/∃o,xd o=true/\b=uB o:=by
  unfold bt;rw[v1,tP];rcases v2 with rfl|⟨out,s,rfl,q1,q2⟩
  · exact .inl rfl
  · simp only[Sum.elim_inl];cases hne:(((uB out).length:Int) != (b.length:Int))with
    | true=>exact .inl rfl
    | false =>
     rw[cF,Kt,Eu (by omega),tP];cases ho:xd out with
     | false=>exact .inl rfl
     | true =>
      have he:((uB out).length:Int)=(b.length:Int):=by simpa using hne
      have:s=[]:=by
       have:=congrArg List.length q1;rw[length_append]at this;exact length_eq_zero_iff.1 (by omega)
      subst this;exact .inr ⟨out,ho,by rw[q1,append_nil]⟩
 rcases sp with sp|⟨o,ho,e⟩
 · obtain⟨u,u1,u2⟩:=Ro hb hn;have im:bC b=some ([],false)\/∃o,xd o=true/\b=uB o:=by
    unfold bC;rw[u1,tP];rcases u2 with rfl|⟨out,rfl,hl⟩
    · exact .inl rfl
    · rw[Sum.elim_inl,FP hl,tP];cases ho:xd out with
      | false=>exact .inl rfl
      | true =>
       obtain⟨o1,o2,o3⟩:=zP ho;have hpos:=K9 o1
       rw[cT,beq_eq_false_iff_ne.2 (show (((uB out).length:Int))≠0 by omega),cF];cases hq:(uX (uB out)==uX b)with
       | false=>exact .inl rfl
       | true=>exact .inr ⟨out,ho,(IX (OR o3) hb (eq_of_beq hq)).symm⟩
   rcases im with im|⟨o,ho,e⟩
   · exact⟨_,im,sp,.inl rfl⟩
   · obtain⟨b1,b2⟩:=both o ho e;exact⟨_,b1,b2,.inr ⟨o,rfl,e,ho⟩⟩
 · obtain⟨b1,b2⟩:=both o ho e;exact⟨_,b1,b2,.inr ⟨o,rfl,e,ho⟩⟩

theorem HL:∀{b:List Int},xi b->yr (uX b)=b
 | [],_=>rfl
 | x::b,h=>by
  have hx:=h x (by simp);have ih:=HL (b:=b) λy hy=>h y (mem_cons_of_mem _ hy)
  unfold yr uX at ih ⊢;rw[map_cons,map_cons,ih]
  congr 1
  show ((UInt8.ofNat x.toNat).toNat:Int)=x;rw[UInt8.toNat_ofNat_of_lt' (by show x.toNat<256;omega)];omega
def wy (v:wN):List Int:=cond (v.1==2) (vA v.2.1) (cond (v.1==4) (yr v.2.2.1) (cond (v.1==6) (uB v.2.2.2) []))
theorem Il {o:List Int} (h:xd o=true):o.length<=10:=(zP h).2.1
theorem Rp {b:List Int} (hb:xi b) (hn:b.length<=M) {i:Int} (hi:-9223372036854775808<=i/\i<=9223372036854775807):∃r,gn b i=some r/\fr b i=some r/\(r=((0,0,[],[]),0,false)\/∃v next,r=(v,next,true)/\xY v=true/\zC b i v.1 (wy v) next):=by
 have hM:M=1048576:=rfl;obtain⟨r,r1,r2,r3⟩:=I0 hb hn hi;unfold gn fr;rw[r1,r2,tP,tP];have hrl:r.2.1.length<=250/\xi r.2.1:=by
  rcases r3 with rfl|⟨t,body,next,rfl,h⟩
  · exact⟨by simp,λx hx=>by simp at hx⟩
  · exact⟨h.n,h.b⟩
 have hlM:r.2.1.length<=M:=by omega
 rcases r3 with rfl|⟨t,body,next,rfl,h⟩
 · exact⟨_,rfl,rfl,.inl rfl⟩
 simp only at hrl hlM;simp only[Bool.not_true,cF];by_cases t2:t=2
 · subst t2;obtain⟨g,g1,g2,g3⟩:=NS hrl.2 hlM;simp only[show ((2:Int)==2)=true from rfl,cT,g1,g2,tP];rcases g3 with rfl|⟨n,rfl,q1,q2,q3⟩
   · exact⟨_,rfl,rfl,.inl rfl⟩
   · simp only[Bool.not_true,cF,tP,GX (v:=(2,n,[],[])) (by simp),Iq (v:=(2,n,[],[])) (by simp)];cases hv:xY (2,n,[],[])with
     | false=>exact⟨_,rfl,rfl,.inl rfl⟩
     | true=>exact⟨_,rfl,rfl,.inr ⟨_,_,rfl,hv,by have:wy (2,n,[],[])=body:=q1.symm;rw[this];exact h⟩⟩
 rw[beq_eq_false_iff_ne.2 t2];simp only[cF];by_cases t4:t=4
 · subst t4;simp only[show ((4:Int)==4)=true from rfl,cT,Bool.not_true,tP,cF,GX (v:=(4,0,uX body,[])) (by simp),Iq (v:=(4,0,uX body,[])) (by simp)];cases hv:xY (4,0,uX body,[])with
   | false=>exact⟨_,rfl,rfl,.inl rfl⟩
   | true=>exact⟨_,rfl,rfl,.inr ⟨_,_,rfl,hv,by have:wy (4,0,uX body,[])=body:=HL h.b;rw[this];exact h⟩⟩
 rw[beq_eq_false_iff_ne.2 t4];simp only[cF];by_cases t6:t=6
 · subst t6;obtain⟨g,g1,g2,g3⟩:=NT hrl.2 hlM;simp only[show ((6:Int)==6)=true from rfl,cT,g1,g2,tP];rcases g3 with rfl|⟨o,rfl,q1,q2⟩
   · exact⟨_,rfl,rfl,.inl rfl⟩
   · have ol:=Il q2;simp only[Bool.not_true,cF,tP,GX (v:=(6,0,[],o)) (by show o.length<=M;omega),Iq (v:=(6,0,[],o)) (by show o.length<=M;omega)];cases hv:xY (6,0,[],o)with
     | false=>exact⟨_,rfl,rfl,.inl rfl⟩
     | true=>exact⟨_,rfl,rfl,.inr ⟨_,_,rfl,hv,by have:wy (6,0,[],o)=body:=q1.symm;rw[this];exact h⟩⟩
 rw[beq_eq_false_iff_ne.2 t6];simp only[cF];cases hz:((body.length:Int)==0)with
 | false=>exact⟨_,rfl,rfl,.inl rfl⟩
 | true =>
  have hb0:body=[]:=length_eq_zero_iff.1 (by have:(body.length:Int)=0:=eq_of_beq hz;omega);simp only[Bool.not_true,cF,tP,GX (v:=(t,0,[],[])) (by simp),Iq (v:=(t,0,[],[])) (by simp)];cases hv:xY (t,0,[],[])with
  | false=>exact⟨_,rfl,rfl,.inl rfl⟩
  | true =>
   refine⟨_,rfl,rfl,.inr ⟨_,_,rfl,hv,?_⟩⟩;have:wy (t,0,[],[])=body:=by
    unfold wy;simp only[beq_eq_false_iff_ne.2 t2,beq_eq_false_iff_ne.2 t4,beq_eq_false_iff_ne.2 t6,cF];exact hb0.symm
   rw[this];exact h
theorem SG {r:zA} (hb:xi r.1) (hn:r.1.length<=M) (hi:-9223372036854775808<=r.2.1/\r.2.1<=9223372036854775807) (tag:Int):∃d,bh r tag=some d/\bc r tag=some d/\d.1.1=r.1/\(d.1.2.2=true->d.2=[])/\(r.2.2=true->d.1.2.2=true)/\(d.1.2.2=false->r.2.2=false/\zC r.1 r.2.1 tag d.2 d.1.2.1)/\(d.1.2.2=true->d.1.2.1=r.2.1):=by
 obtain⟨g,g1,g2,g3⟩:=I0 hb hn hi;unfold bh bc;rw[g1,g2,tP];rcases g3 with rfl|⟨t,body,next,rfl,h⟩
 · cases hr:r.2.2 with
   | true=>exact⟨_,rfl,rfl,rfl,λ_=>rfl,λ_=>rfl,λe=>(by cases e),λ_=>rfl⟩
   | false=>exact⟨_,rfl,rfl,rfl,λ_=>rfl,λ_=>rfl,λe=>(by cases e),λ_=>rfl⟩
 · cases hr:r.2.2 with
   | true=>exact⟨_,rfl,rfl,rfl,λ_=>rfl,λ_=>rfl,λe=>(by cases e),λ_=>rfl⟩
   | false =>
    simp only[cF,Bool.not_true,tP];cases ht:(t != tag)with
    | true=>exact⟨_,rfl,rfl,rfl,λ_=>rfl,λ_=>rfl,λe=>(by cases e),λ_=>rfl⟩
    | false =>
     have:t=tag:=by simpa using ht
     subst this;exact⟨_,rfl,rfl,rfl,λe=>(by cases e),λe=>(by cases e),λ_=>⟨by first|rfl|trivial,h⟩,λe=>(by cases e)⟩

structure Cn (r:zA):Prop where
 b:xi r.1
 n:r.1.length<=M
 lo:0<=r.2.1
 hi:r.2.1<=(r.1.length:Int)
theorem zC.next {b:List Int} {i t:Int} {body:List Int} {next:Int} (h:zC b i t body next):0<=next/\next<=(b.length:Int):=by
 obtain⟨pre,rest,e1,e2,e3⟩:=h.ex;have:=congrArg List.length e1
 rw[length_append,length_append]at this;omega
theorem Cn.rg {r:zA} (h:Cn r):-9223372036854775808<=r.2.1/\r.2.1<=9223372036854775807:=by
 have h1:=h.lo;have h2:=h.hi
 have h3:r.1.length<=1048576:=h.n;omega
theorem Im:xi []:=λx hx=>by simp at hx
theorem FQ {r:zA} (h:Cn r) (tag:Int):∃d,bh r tag=some d/\bc r tag=some d/\Cn d.1/\d.1.1=r.1/\xi d.2/\d.2.length<=250/\(d.1.2.2=true->d.2=[])/\(r.2.2=true->d.1.2.2=true)/\(d.1.2.2=false->r.2.2=false/\zC r.1 r.2.1 tag d.2 d.1.2.1):=by
 obtain⟨d,d1,d2,d3,d4,d5,d6,d7⟩:=SG h.b h.n h.rg tag;refine⟨d,d1,d2,?_,d3,?_,?_,d4,d5,d6⟩
 · cases hb:d.1.2.2 with
   | true=>exact⟨by rw[d3];exact h.b,by rw[d3];exact h.n,by rw[d7 hb];exact h.lo,by rw[d7 hb,d3];exact h.hi⟩
   | false =>
    have:=(d6 hb).2.next
    exact⟨by rw[d3];exact h.b,by rw[d3];exact h.n,this.1,by rw[d3];exact this.2⟩
 · cases hb:d.1.2.2 with
   | true=>rw[d4 hb];exact Im
   | false=>exact (d6 hb).2.b
 · cases hb:d.1.2.2 with
   | true=>rw[d4 hb];simp
   | false=>exact (d6 hb).2.n
theorem MB {r:zA} (h:Cn r):∃d,ci r 2=some d/\bR r=some d/\Cn d.1/\d.1.1=r.1/\(r.2.2=true->d.1.2.2=true)/\(d.1.2.2=false->r.2.2=false/\zC r.1 r.2.1 2 (vA d.2) d.1.2.1 /\ -2147483648<=d.2/\d.2<=2147483647):=by
 obtain⟨d,d1,d2,d3,d4,d5,d6,d7,d8,d9⟩:=FQ h 2;have hM:M=1048576:=rfl
 obtain⟨g,g1,g2,g3⟩:=NS d5 (by omega);unfold ci bR;rw[d1,d2,tP,tP,g1,g2,tP];cases hb:d.1.2.2 with
 | true =>
  refine⟨_,rfl,rfl,⟨d3.b,d3.n,d3.lo,d3.hi⟩,d4,λ_=>rfl,λe=>(by cases e)⟩
 | false =>
  obtain⟨q1,q2⟩:=d9 hb;rcases g3 with rfl|⟨n,rfl,e,n1,n2⟩
  · exact⟨_,rfl,rfl,⟨d3.b,d3.n,d3.lo,d3.hi⟩,d4,λ_=>rfl,λe=>(by cases e)⟩
  · refine⟨_,rfl,rfl,⟨d3.b,d3.n,d3.lo,d3.hi⟩,d4,λe=>?_,λ_=>⟨q1,?_,n1,n2⟩⟩
    · rw[q1]at e;cases e
    · rw[←e];exact q2
theorem Pu {b:List Int} (hb:xi b) (hn:b.length<=M):∃r,gp b=some r/\ft b=some r/\(r=(([],0,0,[],[]),false)\/∃x,r=(x,true)/\yT x=true/\b=uV 6 (uB x.1)++uV x.2.1 (wy x.2)):=by
 have hM:M=1048576:=rfl;have h0:Cn (b,0,false):=⟨hb,hn,by show (0:Int)<=0;omega,by show (0:Int)<=(b.length:Int);omega⟩
 obtain⟨d,d1,d2,d3,d4,d5,d6,d7,d8,d9⟩:=FQ h0 6;obtain⟨g,g1,g2,g3⟩:=NT d5 (by omega);obtain⟨v,v1,v2,v3⟩:=Rp hb hn d3.rg;unfold gp ft;simp only[d1,d2,g1,g2,v1,v2,tP];cases hbad:d.1.2.2 with
 | true=>exact⟨_,rfl,rfl,.inl rfl⟩
 | false =>
  simp only[cF,tP];obtain⟨_,hp⟩:=d9 hbad;rcases g3 with rfl|⟨o,rfl,go,ho⟩
  · exact⟨_,rfl,rfl,.inl rfl⟩
  simp only[Bool.not_true,cF,tP];rcases v3 with rfl|⟨w,next,rfl,hw,hp2⟩
  · exact⟨_,rfl,rfl,.inl rfl⟩
  simp only[Bool.not_true,cF,tP];cases hne:(next != (b.length:Int))with
  | true=>exact⟨_,rfl,rfl,.inl rfl⟩
  | false =>
   have hnx:next=(b.length:Int):=by simpa using hne
   refine⟨_,rfl,rfl,.inr ⟨(o,w),rfl,by unfold yT;rw[ho,hw];rfl,?_⟩⟩;obtain⟨p1,r1,e1,e2,e3⟩:=hp.ex;obtain⟨p2,r2,f1,f2,f3⟩:=hp2.ex;have hp1:p1=[]:=by
    have e2':(0:Int)=(p1.length:Int):=e2;exact length_eq_zero_iff.1 (by omega)
   subst hp1;have e1':b=uV 6 d.2++r1:=by simpa using e1
   have hl:p2.length=(uV 6 d.2).length:=by
    rw[e3]at f2;simp at f2;omega
   obtain⟨q1,q2⟩:=List.append_inj (f1.symm.trans e1') hl;have hr2:r2=[]:=by
    have:=congrArg List.length f1;rw[length_append,length_append]at this;exact length_eq_zero_iff.1 (by omega)
   show b=uV 6 (uB o)++uV w.1 (wy w);rw[f1,q1,go,hr2,append_nil]

theorem yg (n:Int):(vA n).length<=4:=by unfold vA;split<;>(try split)<;>(try split)<;>simp
theorem wg (t:Int) {body:List Int}:(uV t body).length<=body.length+3:=by unfold uV;split<;>simp<;>omega
theorem Em {v:wN} (h:xY v=true):(wy v).length<=30/\tX v.1 0 255=true/\v.2.2.2.length<=10/\v.2.2.1.length<=20:=by
 obtain⟨k,n,s,o⟩:=v;have Bt:∀{x:Int},0<=x->x<=255->tX x 0 255=true:=λh1 h2=>by unfold tX;rw[dT h1,dT h2];rfl
 unfold xY at h;simp only at h;unfold wy;simp only;by_cases h1:(k==5||(k==128||k==130))=true
 · rw[h1,cT]at h;simp only[aT,beq_iff_eq]at h;simp only[Bool.or_eq_true,beq_iff_eq]at h1;obtain⟨_,rfl,ho⟩:=h;rcases h1 with rfl|rfl|rfl<;>exact⟨by simp,by decide,by omega,by simp⟩
 · have h1':(k==5||(k==128||k==130))=false:=by simpa using h1
   rw[h1',cF]at h;by_cases h2:k=2
   · subst h2;simp only[show ((2:Int)==2)=true from rfl,cT,aT,beq_iff_eq]at h ⊢;obtain⟨_,rfl,ho⟩:=h;have:=yg n
     exact⟨by omega,by decide,by omega,by simp⟩
   rw[beq_eq_false_iff_ne.2 h2,cF]at h ⊢;by_cases h4:k=4
   · subst h4;simp only[show ((4:Int)==4)=true from rfl,cT,aT,beq_iff_eq,decide_eq_true_eq]at h ⊢;obtain⟨h5,_,ho⟩:=h;exact⟨by unfold yr;rw[length_map];omega,by decide,by omega,by omega⟩
   rw[beq_eq_false_iff_ne.2 h4,cF]at h ⊢;by_cases h6:k=6
   · subst h6;simp only[show ((6:Int)==6)=true from rfl,cT,aT,beq_iff_eq]at h ⊢;obtain⟨ho,_,rfl⟩:=h;obtain⟨o1,o2,o3⟩:=zP ho;have:=A9 (o:=o) λx hx=>(o3 x hx).2
     exact⟨by omega,by decide,by omega,by simp⟩
   · rw[beq_eq_false_iff_ne.2 h6,cF]at h;cases h
theorem Rq {b:List Int} (hb:b.length<=1000) {v:wN} (h:xY v=true):gq b v=some (b++uV v.1 (wy v)):=by
 obtain⟨l1,l2,l3,l4⟩:=Em h;have hM:M=1048576:=rfl
 have fin:∀body:List Int,wy v=body->aV b v.1 body=some (b++uV v.1 (wy v)):=λbody e=>by
  subst e;rw[Kz _ hb (by omega),if_pos ⟨l2,by omega⟩]
 unfold gq;rw[GX (by omega),h,tP];simp only[Bool.not_true,cF];by_cases h2:v.1=2
 · have e:wy v=vA v.2.1:=by unfold wy;rw[beq_iff_eq.2 h2];rfl
   have hr:-2147483648<=v.2.1/\v.2.1<=2147483647:=by
    unfold xY at h;rw[h2]at h;simp only[show ((2:Int)==5)=false from rfl,show ((2:Int)==128)=false from rfl,show ((2:Int)==130)=false from rfl,Bool.or_self,cF,show ((2:Int)==2)=true from rfl,cT,aT]at h;exact wi h.1
   rw[beq_iff_eq.2 h2,cT,Ky (by omega),tP,B1 hr,fin _ e];rfl
 rw[beq_eq_false_iff_ne.2 h2,cF];by_cases h4:v.1=4
 · have e:wy v=yr v.2.2.1:=by unfold wy;rw[beq_eq_false_iff_ne.2 h2,beq_iff_eq.2 h4];rfl
   rw[beq_iff_eq.2 h4,cT,fin _ e];rfl
 rw[beq_eq_false_iff_ne.2 h4,cF];by_cases h6:v.1=6
 · have e:wy v=uB v.2.2.2:=by unfold wy;rw[beq_eq_false_iff_ne.2 h2,beq_eq_false_iff_ne.2 h4,beq_iff_eq.2 h6];rfl
   have ho:xd v.2.2.2=true:=by
    unfold xY at h;rw[h6]at h;simp only[show ((6:Int)==5)=false from rfl,show ((6:Int)==128)=false from rfl,show ((6:Int)==130)=false from rfl,Bool.or_self,cF,show ((6:Int)==2)=false from rfl,show ((6:Int)==4)=false from rfl,show ((6:Int)==6)=true from rfl,cT,aT]at h;exact h.1
   rw[beq_iff_eq.2 h6,cT,FP (by omega),ho,cT,tP,fin _ e];rfl
 · have e:wy v=[]:=by unfold wy;rw[beq_eq_false_iff_ne.2 h2,beq_eq_false_iff_ne.2 h4,beq_eq_false_iff_ne.2 h6];rfl
   rw[beq_eq_false_iff_ne.2 h6,cF,fin _ e];rfl
def Co (x:tS):List Int:=uV 6 (uB x.1)++uV x.2.1 (wy x.2)
def zQ (x:tS):List Int:=uV 48 (Co x)
def uU (l:List tS):List Int:=l.flatMap zQ
def xp (p:uq):List Int:=uV 2 (vA p.2.1)++uV 2 (vA p.2.2.1)++uV 2 (vA p.2.2.2.1)++uV 48 (uU p.2.2.2.2)
theorem xb {p:uq} (h:vM p=true):(∀x∈p.2.2.2.2,yT x=true)/\p.2.2.2.2.length<=10/\tX p.1 0 255=true/\(-2147483648<=p.2.1/\p.2.1<=2147483647)/\(0<=p.2.2.1/\p.2.2.1<=1000)/\(0<=p.2.2.2.1/\p.2.2.2.1<=1000):=by
 obtain⟨k,id,a,b,l⟩:=p;unfold vM at h;simp only[aT,Bool.not_eq_true',decide_eq_true_eq]at h;obtain⟨⟨h1,h2⟩,h3,h4⟩:=h;refine⟨λx hx=>?_,by show l.length<=10;omega,?_⟩
 · obtain⟨j,hj,rfl⟩:=getElem_of_mem hx;have hj':j<l.length:=hj
   have:=any_eq_false.1 h1 j (mem_range.2 hj');unfold bX at this;simp only[List.getElem?_eq_getElem hj']at this;simpa using this
 · have h4:=wi h4;by_cases c1:(k==162||k==165)=true
   · rw[c1,cT,aT]at h3;have q1:=wi h3.1
     have q2:=wi h3.2;simp only[Bool.or_eq_true,beq_iff_eq]at c1;refine⟨?_,h4,q1,q2⟩;rcases c1 with rfl|rfl<;>rfl
   · have c1':(k==162||k==165)=false:=by simpa using c1
     rw[c1',cF]at h3;by_cases c2:(k==160||(k==161||k==163))=true
     · rw[c2,cT,aT]at h3;simp only[beq_iff_eq]at h3;simp only[Bool.or_eq_true,beq_iff_eq]at c2;obtain⟨rfl,rfl⟩:=h3;refine⟨?_,h4,by show (0:Int)<=0/\(0:Int)<=1000;omega,by show (0:Int)<=0/\(0:Int)<=1000;omega⟩;rcases c2 with rfl|rfl|rfl<;>rfl
     · have c2':(k==160||(k==161||k==163))=false:=by simpa using c2
       rw[c2',cF]at h3;cases h3
theorem D4 {x:tS} (h:yT x=true):(Co x).length<=100/\(zQ x).length<=110:=by
 unfold yT at h;rw[aT]at h;obtain⟨l1,_⟩:=Em h.2;obtain⟨o1,o2,o3⟩:=zP h.1;have h3:=A9 (o:=x.1) λy hy=>(o3 y hy).2
 have h4:=wg 6 (body:=uB x.1);have h5:=wg x.2.1 (body:=wy x.2)
 have h6:(Co x).length<=100:=by unfold Co;rw[length_append];omega
 have h7:=wg 48 (body:=Co x);exact⟨h6,by unfold zQ;omega⟩
theorem Ka {b:List Int} (hb:b.length<=900) {n:Int} (hn:-2147483648<=n/\n<=2147483647):cY b 2 n=some (b++uV 2 (vA n)):=by
 unfold cY;have h4:=yg n
 rw[Ky (by omega),tP,B1 hn,Kz _ (by omega) (by show _<=1048576;omega),tP,if_pos ⟨by decide,by omega⟩]
theorem NU {p:uq} (hp:wo M p):ev p=some (if vM p=true/\(uU p.2.2.2.2).length<=250/\(xp p).length<=250 then uV p.1 (xp p)else []):=by
 unfold ev;rw[Ph hp,tP];cases h:vM p with
 | false=>rw[if_neg (by simp)];rfl
 | true =>
  obtain⟨h1,h2,h3,h4,h5,h6⟩:=xb h;have hl:∀k,(uU (p.2.2.2.2.take k)).length<=110*k:=by
   intro k
   induction k with
   | zero=>simp[uU]
   | succ k ih =>
    by_cases hk:k<p.2.2.2.2.length
    · have ht:uU (p.2.2.2.2.take (k+1))=uU (p.2.2.2.2.take k)++zQ p.2.2.2.2[k]:=by
       unfold uU;rw[take_add_one,List.getElem?_eq_getElem hk,flatMap_append];simp
      have:=(D4 (h1 _ (getElem_mem hk))).2;rw[ht,length_append];omega
    · rw[take_of_length_le (by omega)]at ih ⊢;omega
  obtain⟨b,e1,rfl⟩:=uz (step:=λz:Int×List Int=>cZ p z.1 z.2) (λk z=>z=((k:Int),uU (p.2.2.2.2.take k))) p.2.2.2.2.length (λb=>b=.inl (uU p.2.2.2.2))
   (λk z hk e=>by
    subst e;left;have hx:=h1 _ (getElem_mem hk)
    have hx':=hx;unfold yT at hx';rw[aT]at hx';obtain⟨o1,o2,o3⟩:=zP hx'.1;have hob:=A9 (o:=p.2.2.2.2[k].1) λy hy=>(o3 y hy).2
    have hlk:=hl k;obtain⟨b1,b2⟩:=D4 hx;have ht:uU (p.2.2.2.2.take (k+1))=uU (p.2.2.2.2.take k)++zQ p.2.2.2.2[k]:=by
     unfold uU;rw[take_add_one,List.getElem?_eq_getElem hk,flatMap_append];simp
    have ht6:=wg 6 (body:=uB p.2.2.2.2[k].1);refine⟨_,?_,rfl⟩;show cZ p (k:Int) (uU (p.2.2.2.2.take k))=_
    unfold cZ;rw[ux (by omega),cT,ug hk,tP,FP (by show _<=1048576;omega),hx'.1,cT,tP,Kz _ (by simp) (by show _<=1048576;omega),if_pos ⟨by decide,by omega⟩,tP,nil_append,Rq (by omega) hx'.2,tP];have hone:uV 6 (uB p.2.2.2.2[k].1)++uV p.2.2.2.2[k].2.1 (wy p.2.2.2.2[k].2)=Co p.2.2.2.2[k]:=rfl
    rw[hone,N0 _ (by show _<=1048576;omega),if_pos ⟨by decide,by omega⟩,tP];simp only[Bool.not_true,cF];have hbb:uV 48 (Co p.2.2.2.2[k])=zQ p.2.2.2.2[k]:=rfl
    rw[hbb,u7 (by omega),tP,ua (by omega),ht])
   (λz e=>by
    subst e;refine⟨_,?_,rfl⟩;show cZ p (p.2.2.2.2.length:Int) (uU (p.2.2.2.2.take p.2.2.2.2.length))=_
    unfold cZ;rw[uj (by omega),cF,take_length]) (x:=(0,[])) rfl
  have hal:(uU p.2.2.2.2).length<=1100:=by
   have:=hl p.2.2.2.2.length;rw[take_length]at this;omega
  rw[Bool.not_true,cF,e1,tP,Sum.elim_inl,N0 _ (by show _<=1048576;omega)];by_cases ha:(uU p.2.2.2.2).length<=250
  · rw[if_pos ⟨by decide,ha⟩,tP];simp only[Bool.not_true,cF];have t1:=wg 2 (body:=vA p.2.1)
    have t2:=wg 2 (body:=vA p.2.2.1);have t3:=wg 2 (body:=vA p.2.2.2.1)
    have t4:=wg 48 (body:=uU p.2.2.2.2);have i1:=yg p.2.1
    have i2:=yg p.2.2.1;have i3:=yg p.2.2.2.1
    rw[Ka (by simp) h4,tP,nil_append,Ka (by omega) ⟨by omega,by omega⟩,tP,Ka (by rw[length_append];omega) ⟨by omega,by omega⟩,tP,u7 (by simp only[length_append];omega),tP];have hbody:uV 2 (vA p.2.1)++uV 2 (vA p.2.2.1)++uV 2 (vA p.2.2.2.1)++uV 48 (uU p.2.2.2.2)=xp p:=rfl
    rw[hbody,N0 _ (by show _<=1048576;unfold xp;simp only[length_append];omega)];by_cases hb:(xp p).length<=250
    · rw[if_pos ⟨h3,hb⟩,if_pos ⟨by first|rfl|trivial,ha,hb⟩];rfl
    · rw[if_neg (λe=>hb e.2),if_neg (λe=>hb e.2.2)];rfl
  · rw[if_neg (λe=>ha e.2),if_neg (λe=>ha e.2.1)];rfl

theorem zC.cons {b P s:List Int} {i t:Int} {x:List Int} {next:Int} (h:zC b i t x next) (e:b=P++s) (hi:i=(P.length:Int)):∃s',b=(P++uV t x)++s'/\next=((P++uV t x).length:Int):=by
 obtain⟨pre,rest,e1,e2,e3⟩:=h.ex;have hl:pre.length=P.length:=by omega
 obtain⟨q1,q2⟩:=List.append_inj (e1.symm.trans e) hl;subst q1;exact⟨rest,by rw[e1,append_assoc],by rw[e3,length_append]⟩
theorem GP (t:Int) (b:List Int):1<=(uV t b).length:=by unfold uV;simp
theorem wL {x:tS} (h:yT x=true):Bm M x:=by
 unfold yT at h;rw[aT]at h;obtain⟨_,_,l3,l4⟩:=Em h.2;have:=Il h.1
 have hM:M=1048576:=rfl;exact⟨by omega,by omega,by omega⟩
theorem OS (l:List tS) (x:tS):uU (l++[x])=uU l++zQ x:=by unfold uU;rw[flatMap_append];simp
noncomputable abbrev Pv (K I A B:Int) (c:List Int) (i:Int) (l:List tS):=loop (λz:Int×Int×Int×Int×Int×Int×Int×Int×List Int×Int×Bool×List tS×List tS=>ax z.1 z.2.1 z.2.2.1 z.2.2.2.1 z.2.2.2.2.1 z.2.2.2.2.2.1 z.2.2.2.2.2.2.1 z.2.2.2.2.2.2.2.1 z.2.2.2.2.2.2.2.2.1 z.2.2.2.2.2.2.2.2.2.1 z.2.2.2.2.2.2.2.2.2.2.1 z.2.2.2.2.2.2.2.2.2.2.2.1 z.2.2.2.2.2.2.2.2.2.2.2.2) (0,0,0,0,K,I,A,B,c,i,false,[],l)
noncomputable abbrev Jh (r:zA) (K I A B:Int) (c:List Int) (i:Int) (l:List tS):=loop (λz:List Int×Int×Bool×Int×Int×Int×Int×List Int×Int×Bool×List tS=>ap z.1 z.2.1 z.2.2.1 z.2.2.2.1 z.2.2.2.2.1 z.2.2.2.2.2.1 z.2.2.2.2.2.2.1 z.2.2.2.2.2.2.2.1 z.2.2.2.2.2.2.2.2.1 z.2.2.2.2.2.2.2.2.2.1 z.2.2.2.2.2.2.2.2.2.2) (r.1,r.2.1,r.2.2,K,I,A,B,c,i,false,l)
theorem Rr (r:zA) (hr:r.2.2=false) (K I A B:Int) {c:List Int} (hc:xi c) (hn:c.length<=M):∀(n:Nat) (l:List tS) (s:List Int),n+l.length=10->c=uU l++s->(∀x∈l,yT x=true) ->
 (Pv K I A B c ((uU l).length:Int) l=some (.inr (false,0,0,0,0,[]))/\∃d,Jh r K I A B c ((uU l).length:Int) l=some d/\(d.2.2.1=true\/d.2.2.2.2.2.2.2.2.2.2.length=11)/\d.2.1=r.2.1/\Aa M d.2.2.2.2.2.2.2.2.2.2) \/
 (∃l',c=uU l'/\(∀x∈l',yT x=true)/\l'.length<=10/\Pv K I A B c ((uU l).length:Int) l=some (.inl (0,0,0,0,K,I,A,B,c,(c.length:Int),false,[],l'))/\Jh r K I A B c ((uU l).length:Int) l=some (r.1,r.2.1,false,K,I,A,B,c,(c.length:Int),false,l')):=by
 have hM:M=1048576:=rfl;intro n
 induction n with
 | zero =>
  intro l s hl e hx;have hcl:c.length=(uU l).length+s.length:=by rw[e,length_append]
  by_cases hlt:((uU l).length:Int)<(c.length:Int)
  · have h0:Cn (c,((uU l).length:Int),false):=⟨hc,hn,by show (0:Int)<=((uU l).length:Int);omega,by show ((uU l).length:Int)<=(c.length:Int);omega⟩;obtain⟨d,d1,d2,d3,d4,d5,d6,d7,d8,d9⟩:=FQ h0 48;obtain⟨g,g1,g2,g3⟩:=Pu d5 (by omega);have hs:ap r.1 r.2.1 r.2.2 K I A B c ((uU l).length:Int) false l=some (.inl (r.1,r.2.1,cond d.1.2.2 true (!g.2),K,I,A,B,d.1.1,d.1.2.1,d.1.2.2,l++[g.1])):=by
     unfold ap;rw[hr];simp only[Bool.not_false,cT,ux hlt,tP,dT (show (l.length:Int)<=10 by omega),d1,d2,g2];rw[show (cond d.1.2.2 (some true) (some (!g.2)))=some (cond d.1.2.2 true (!g.2)) by cases d.1.2.2<;>rfl,tP,u7 (by show l.length+1<=_;omega),tP]
    have hs2:∀(bd:Bool) (c':List Int) (i':Int) (qb:Bool) (l':List tS),(bd=true\/l'.length=11)->ap r.1 r.2.1 bd K I A B c' i' qb l'=some (.inr (r.1,r.2.1,bd,K,I,A,B,c',i',qb,l')):=by
     intro bd c' i' qb l' h;unfold ap;rcases h with rfl|h
     · rfl
     · rw[dF (show ¬(l'.length:Int)<=10 by omega)];cases bd with
       | true=>rfl
       | false=>cases h1:decide (i'<(c'.length:Int))<;>simp
    left;refine⟨un ?_,_,uh hs (un (hs2 _ _ _ _ _ (.inr (by rw[length_append];show l.length+1=11;omega)))),.inr (by show (l++[g.1]).length=11;rw[length_append];show l.length+1=11;omega),rfl,?_⟩
    · show ax 0 0 0 0 K I A B c ((uU l).length:Int) false [] l=_;unfold ax;simp only[ux hlt,cT,d1,g1,tP,dT (show (l.length:Int)>=10 by omega)];cases g.2<;>rfl
    · refine⟨by show (l++[g.1]).length<=1048576;rw[length_append];show l.length+1<=_;omega,λx hx'=>?_⟩;rcases mem_append.1 hx' with h|h
      · exact wL (hx x h)
      · rw[mem_singleton]at h;subst h;rcases g3 with rfl|⟨x,rfl,q,_⟩
        · exact⟨by show 0<=1048576;decide,by show 0<=1048576;decide,by show 0<=1048576;decide⟩
        · exact wL q
  · have hs0:s=[]:=length_eq_zero_iff.1 (by omega);subst hs0;rw[append_nil]at e;right;refine⟨l,e,hx,by omega,un ?_,un ?_⟩
    · show ax 0 0 0 0 K I A B c ((uU l).length:Int) false [] l=_;unfold ax;rw[uj hlt,cF,e]
    · show ap r.1 r.2.1 r.2.2 K I A B c ((uU l).length:Int) false l=_;unfold ap;rw[hr,uj hlt,e];rfl
 | succ n ih =>
  intro l s hl e hx;have hcl:c.length=(uU l).length+s.length:=by rw[e,length_append]
  by_cases hlt:((uU l).length:Int)<(c.length:Int)
  · have h0:Cn (c,((uU l).length:Int),false):=⟨hc,hn,by show (0:Int)<=((uU l).length:Int);omega,by show ((uU l).length:Int)<=(c.length:Int);omega⟩;obtain⟨d,d1,d2,d3,d4,d5,d6,d7,d8,d9⟩:=FQ h0 48;obtain⟨g,g1,g2,g3⟩:=Pu d5 (by omega);have hs:ap r.1 r.2.1 r.2.2 K I A B c ((uU l).length:Int) false l=some (.inl (r.1,r.2.1,cond d.1.2.2 true (!g.2),K,I,A,B,d.1.1,d.1.2.1,d.1.2.2,l++[g.1])):=by
     unfold ap;rw[hr];simp only[Bool.not_false,cT,ux hlt,tP,dT (show (l.length:Int)<=10 by omega),d1,d2,g2];rw[show (cond d.1.2.2 (some true) (some (!g.2)))=some (cond d.1.2.2 true (!g.2)) by cases d.1.2.2<;>rfl,tP,u7 (by show l.length+1<=_;omega),tP]
    rcases g3 with rfl|⟨x,rfl,hxo,hxe⟩
    · left;have hbd:(cond d.1.2.2 true (!false))=true:=by cases d.1.2.2<;>rfl
      refine⟨un ?_,_,uh hs (un (b:=(r.1,r.2.1,true,K,I,A,B,d.1.1,d.1.2.1,d.1.2.2,l++[([],0,0,[],[])])) ?_),.inl rfl,rfl,?_⟩
      · show ax 0 0 0 0 K I A B c ((uU l).length:Int) false [] l=_;unfold ax;simp only[ux hlt,cT,d1,g1,tP];rfl
      · show ap r.1 r.2.1 (cond d.1.2.2 true (!false)) K I A B d.1.1 d.1.2.1 d.1.2.2 (l++[([],0,0,[],[])])=_;rw[hbd];rfl
      · refine⟨by show (l++[_]).length<=1048576;rw[length_append];show l.length+1<=_;omega,λy hy=>?_⟩;rcases mem_append.1 hy with h|h
        · exact wL (hx y h)
        · rw[mem_singleton]at h;subst h;exact⟨by show 0<=1048576;decide,by show 0<=1048576;decide,by show 0<=1048576;decide⟩
    · have hbad:d.1.2.2=false:=by
       cases hb:d.1.2.2 with
       | false=>rfl
       | true =>
        rw[d7 hb]at hxe;have:=congrArg List.length hxe
        have h1:=GP 6 (uB x.1);rw[length_append]at this;simp at this;omega
      obtain⟨_,hp⟩:=d9 hbad;obtain⟨s',e1,e2⟩:=hp.cons (P:=uU l) (s:=s) e rfl;have hb:uV 48 d.2=zQ x:=by unfold zQ Co;rw[←hxe]
      rw[hb,←OS]at e1 e2;have hdc:d.1.1=c:=d4
      have:=ih (l++[x]) s' (by rw[length_append];show n+(l.length+1)=10;omega) e1 (λy hy=>by
       rcases mem_append.1 hy with h|h
       · exact hx y h
       · rw[mem_singleton]at h;subst h;exact hxo)
      have hi:ax 0 0 0 0 K I A B c ((uU l).length:Int) false [] l=some (.inl (0,0,0,0,K,I,A,B,c,((uU (l++[x])).length:Int),false,[],l++[x])):=by
       unfold ax;simp only[ux hlt,cT,d1,g1,tP,dF (show ¬(l.length:Int)>=10 by omega),Bool.not_true,cF];rw[u7 (by show l.length+1<=_;omega),tP,hdc,hbad,e2]
      have hs':ap r.1 r.2.1 r.2.2 K I A B c ((uU l).length:Int) false l=some (.inl (r.1,r.2.1,r.2.2,K,I,A,B,c,((uU (l++[x])).length:Int),false,l++[x])):=by
       rw[hs,hdc,hbad,e2,hr];rfl
      rcases this with ⟨i1,dd,i2,i3⟩|⟨l',q1,q2,q3,i1,i2⟩
      · exact .inl ⟨uh hi i1,dd,uh hs' i2,i3⟩
      · exact .inr ⟨l',q1,q2,q3,uh hi i1,uh hs' i2⟩
  · have hs0:s=[]:=length_eq_zero_iff.1 (by omega);subst hs0;rw[append_nil]at e;right;refine⟨l,e,hx,by omega,un ?_,un ?_⟩
    · show ax 0 0 0 0 K I A B c ((uU l).length:Int) false [] l=_;unfold ax;rw[uj hlt,cF,e]
    · show ap r.1 r.2.1 r.2.2 K I A B c ((uU l).length:Int) false l=_;unfold ap;rw[hr,uj hlt,e];rfl

theorem TH (r:zA) (hr:r.2.2=true) (K I A B:Int) (c:List Int):Jh r K I A B c 0 []=some (r.1,r.2.1,true,K,I,A,B,c,0,false,[]):=by
 refine un ?_;show ap r.1 r.2.1 r.2.2 K I A B c 0 false []=_
 unfold ap;rw[hr];rfl
theorem wo.of {p:uq} (h:∀x∈p.2.2.2.2,yT x=true) (h2:p.2.2.2.2.length<=11):wo M p:=⟨by show _<=1048576;omega,λx hx=>wL (h x hx)⟩
theorem Rs {b:List Int} (hb:xi b) (hn:b.length<=M):∃r,gt b=some r/\fu b=some r/\(r=((0,0,0,0,[]),false)\/∃p,r=(p,true)/\vM p=true/\wo M p):=by
 have hM:M=1048576:=rfl;obtain⟨t,t1,t2,t3⟩:=I0 hb hn (i:=0) (by omega);have htb:t.2.1.length<=250/\xi t.2.1:=by
  rcases t3 with rfl|⟨k,body,next,rfl,h⟩
  · exact⟨by simp,Im⟩
  · exact⟨h.n,h.b⟩
 have h0:Cn (t.2.1,0,false):=⟨htb.2,by show t.2.1.length<=M;omega,by show (0:Int)<=0;omega,by show (0:Int)<=(t.2.1.length:Int);omega⟩;obtain⟨d1,a1,b1,c1,e1,f1,g1⟩:=MB h0;obtain⟨d2,a2,b2,c2,e2,f2,g2⟩:=MB c1;obtain⟨d3,a3,b3,c3,e3,f3,g3⟩:=MB c2;obtain⟨d4,a4,b4,c4,e4,m4,n4,k4,f4,g4⟩:=FQ c3 48;unfold gt fu;simp only[t1,t2,a1,b1,a2,b2,a3,b3,a4,b4,tP];have sp:∃d,Jh d4.1 t.1 d1.2 d2.2 d3.2 d4.2 0 []=some d/\d.2.1=d4.1.2.1/\(d4.1.2.2=true->d.2.2.1=true)/\Aa M d.2.2.2.2.2.2.2.2.2.2:=by
  cases hbad:d4.1.2.2 with
  | true=>exact⟨_,TH d4.1 hbad _ _ _ _ _,rfl,λ_=>rfl,⟨by show 0<=1048576;decide,λx hx=>by simp at hx⟩⟩
  | false =>
   rcases Rr d4.1 hbad t.1 d1.2 d2.2 d3.2 m4 (by omega) 10 [] d4.2 rfl rfl (by simp)with ⟨_,d,q1,_,q3,q4⟩|⟨l',q1,q2,q3,_,q4⟩
   · exact⟨d,q1,q3,λe=>(by cases e),q4⟩
   · exact⟨_,q4,rfl,λe=>(by cases e),⟨by show l'.length<=1048576;omega,λx hx=>wL (q2 x hx)⟩⟩
 obtain⟨d,s1,s2,s3,s4⟩:=sp;have s1':loop (λz:List Int×Int×Bool×Int×Int×Int×Int×List Int×Int×Bool×List tS=>ap z.1 z.2.1 z.2.2.1 z.2.2.2.1 z.2.2.2.2.1 z.2.2.2.2.2.1 z.2.2.2.2.2.2.1 z.2.2.2.2.2.2.2.1 z.2.2.2.2.2.2.2.2.1 z.2.2.2.2.2.2.2.2.2.1 z.2.2.2.2.2.2.2.2.2.2) (d4.1.1,d4.1.2.1,d4.1.2.2,t.1,d1.2,d2.2,d3.2,d4.2,0,false,[])=some d:=s1
 rw[s1',tP];have pd:bb (d.2.2.2.1,d.2.2.2.2.1,d.2.2.2.2.2.1,d.2.2.2.2.2.2.1,d.2.2.2.2.2.2.2.2.2.2)=some (vM (d.2.2.2.1,d.2.2.2.2.1,d.2.2.2.2.2.1,d.2.2.2.2.2.2.1,d.2.2.2.2.2.2.2.2.2.2)):=MU (p:=(d.2.2.2.1,d.2.2.2.2.1,d.2.2.2.2.2.1,d.2.2.2.2.2.2.1,d.2.2.2.2.2.2.2.2.2.2)) s4
 simp only[pd,tP];cases hok:t.2.2.2 with
 | false=>exact⟨_,rfl,rfl,.inl rfl⟩
 | true =>
 simp only[Bool.not_true,cF,tP];cases hnx:(t.2.2.1 != (b.length:Int))with
 | true=>exact⟨_,rfl,rfl,.inl rfl⟩
 | false =>
 simp only[cF,tP];unfold iv;cases hbad:d4.1.2.2 with
 | true =>
  rw[s3 hbad];exact⟨_,rfl,rfl,.inl rfl⟩
 | false =>
 simp only[Bool.not_false,cT,tP];have hlen:d4.1.1=t.2.1:=by rw[e4,e3,e2,e1]
 rw[s2,hlen];cases hat:(d4.1.2.1==(t.2.1.length:Int))with
 | false =>
  have:(d4.1.2.1 != (t.2.1.length:Int))=true:=by rw[bne,hat];rfl
  rw[this];refine⟨((0,0,0,0,[]),false),rfl,?_,.inl rfl⟩;cases d.2.2.1<;>rfl
 | true =>
 have hat':(d4.1.2.1 != (t.2.1.length:Int))=false:=by rw[bne,hat];rfl
 rw[hat'];simp only[Bool.not_true,cF];obtain⟨x3,p4⟩:=g4 hbad;obtain⟨x2,p3,i3⟩:=g3 x3;obtain⟨x1,p2,i2⟩:=g2 x2;obtain⟨_,p1,i1⟩:=g1 x1;rcases t3 with rfl|⟨k,body,next,rfl,hp⟩
 · cases hok
 simp only at p1 hat hnx hlen;have p1':zC body 0 2 (vA d1.2) d1.1.2.1:=p1
 have p2':zC body d1.1.2.1 2 (vA d2.2) d2.1.2.1:=by rw[e1]at p2;exact p2
 have p3':zC body d2.1.2.1 2 (vA d3.2) d3.1.2.1:=by rw[e2,e1]at p3;exact p3
 have p4':zC body d3.1.2.1 48 d4.2 d4.1.2.1:=by rw[e3,e2,e1]at p4;exact p4
 obtain⟨s1x,y1,z1⟩:=p1'.cons (P:=[]) (s:=body) rfl rfl;obtain⟨s2x,y2,z2⟩:=p2'.cons y1 z1;obtain⟨s3x,y3,z3⟩:=p3'.cons y2 z2;obtain⟨s4x,y4,z4⟩:=p4'.cons y3 z3;have hs4:s4x=[]:=by
  have h1:=congrArg List.length y4;rw[length_append]at h1;have h2:d4.1.2.1=(body.length:Int):=eq_of_beq hat
  exact length_eq_zero_iff.1 (by omega)
 subst hs4;rw[append_nil,nil_append]at y4;obtain⟨u1,u2,u3⟩:∃rest,b=uV k body++rest/\rest=[]:=by
  obtain⟨s',w1,w2⟩:=hp.cons (P:=[]) (s:=b) rfl rfl;refine⟨s',by simpa using w1,?_⟩;have h1:=congrArg List.length w1
  rw[length_append]at h1;have h2:next=(b.length:Int):=by simpa using hnx
  exact length_eq_zero_iff.1 (by omega)
 subst u3;rw[append_nil]at u2;rcases Rr d4.1 hbad k d1.2 d2.2 d3.2 m4 (by omega) 10 [] d4.2 rfl rfl (by simp)with ⟨j1,dd,j2,j3,_,_⟩|⟨l',w1,w2,w3,j1,j2⟩
 · have hdd:dd=d:=by
    have:some dd=some d:=j2.symm.trans s1;exact Option.some.inj this
   subst hdd;have j1':loop (λz:Int×Int×Int×Int×Int×Int×Int×Int×List Int×Int×Bool×List tS×List tS=>ax z.1 z.2.1 z.2.2.1 z.2.2.2.1 z.2.2.2.2.1 z.2.2.2.2.2.1 z.2.2.2.2.2.2.1 z.2.2.2.2.2.2.2.1 z.2.2.2.2.2.2.2.2.1 z.2.2.2.2.2.2.2.2.2.1 z.2.2.2.2.2.2.2.2.2.2.1 z.2.2.2.2.2.2.2.2.2.2.2.1 z.2.2.2.2.2.2.2.2.2.2.2.2) (0,0,0,0,k,d1.2,d2.2,d3.2,d4.2,0,false,[],[])=some (.inr (false,0,0,0,0,[])):=j1
   rw[j1',tP,Sum.elim_inr];refine⟨((0,0,0,0,[]),false),rfl,?_,.inl rfl⟩;cases hd:dd.2.2.1 with
   | true=>rfl
   | false =>
    have h11:dd.2.2.2.2.2.2.2.2.2.2.length=11:=by
     rcases j3 with h|h
     · rw[hd]at h;cases h
     · exact h
    have hpf:vM (dd.2.2.2.1,dd.2.2.2.2.1,dd.2.2.2.2.2.1,dd.2.2.2.2.2.2.1,dd.2.2.2.2.2.2.2.2.2.2)=false:=by
     unfold vM;rw[dF (show ¬((dd.2.2.2.2.2.2.2.2.2.2.length:Nat):Int)<=10 by omega),Bool.and_false,Bool.false_and]
    rw[hpf];simp only[cF,tP];cases (dd.2.2.2.2.2.2.2.2.1 != (dd.2.2.2.2.2.2.2.1.length:Int))<;>rfl
 · have hdd:d=(d4.1.1,d4.1.2.1,false,k,d1.2,d2.2,d3.2,d4.2,(d4.2.length:Int),false,l'):=by
    have:some d=some (d4.1.1,d4.1.2.1,false,k,d1.2,d2.2,d3.2,d4.2,(d4.2.length:Int),false,l'):=s1.symm.trans j2;exact Option.some.inj this
   subst hdd;have j1':loop (λz:Int×Int×Int×Int×Int×Int×Int×Int×List Int×Int×Bool×List tS×List tS=>ax z.1 z.2.1 z.2.2.1 z.2.2.2.1 z.2.2.2.2.1 z.2.2.2.2.2.1 z.2.2.2.2.2.2.1 z.2.2.2.2.2.2.2.1 z.2.2.2.2.2.2.2.2.1 z.2.2.2.2.2.2.2.2.2.1 z.2.2.2.2.2.2.2.2.2.2.1 z.2.2.2.2.2.2.2.2.2.2.2.1 z.2.2.2.2.2.2.2.2.2.2.2.2) (0,0,0,0,k,d1.2,d2.2,d3.2,d4.2,0,false,[],[])=some (.inl (0,0,0,0,k,d1.2,d2.2,d3.2,d4.2,(d4.2.length:Int),false,[],l')):=j1
   rw[j1',tP,Sum.elim_inl];have hpl:wo M (k,d1.2,d2.2,d3.2,l'):=wo.of (p:=(k,d1.2,d2.2,d3.2,l')) w2 (by show l'.length<=11;omega)
   have hbody:body=xp (k,d1.2,d2.2,d3.2,l'):=by
    rw[y4,w1];rfl
   simp only[NU hpl,tP,bne_self_eq_false,cF];cases hpp:vM (k,d1.2,d2.2,d3.2,l')with
   | false =>
    rw[if_neg (by simp)];exact⟨_,rfl,rfl,.inl rfl⟩
   | true =>
    have hal:(uU l').length<=250:=by rw[←w1];exact n4
    rw[if_pos ⟨rfl,hal,by rw[←hbody];exact hp.n⟩,←hbody,←u2];have hb1:((b.length:Int)==0)=false:=beq_eq_false_iff_ne.2 (by
     have:=GP k body;rw[←u2]at this;omega)
    rw[hb1,beq_self_eq_true];exact⟨_,rfl,rfl,.inr ⟨_,rfl,hpp,hpl⟩⟩

theorem Rt (w:List UInt8) {b:List Int} (hb:xi b) (hn:b.length<=M):∃r,da w b=some r/\dO w b=some r/\wo M r.1/\(r.2=0->vM r.1=true):=by
 have hM:M=1048576:=rfl;have nil:wo M ((0,0,0,0,[]):uq):=⟨by show 0<=1048576;decide,λx hx=>by simp at hx⟩
 obtain⟨t,t1,t2,t3⟩:=I0 hb hn (i:=0) (by omega);have htb:t.2.1.length<=250/\xi t.2.1:=by
  rcases t3 with rfl|⟨k,body,next,rfl,h⟩
  · exact⟨by simp,Im⟩
  · exact⟨h.n,h.b⟩
 have h0:Cn (t.2.1,0,false):=⟨htb.2,by show t.2.1.length<=M;omega,by show (0:Int)<=0;omega,by show (0:Int)<=(t.2.1.length:Int);omega⟩;obtain⟨d1,a1,b1,c1,e1,f1,g1⟩:=MB h0;obtain⟨d2,a2,b2,c2,e2,m2,n2,k2,f2,g2⟩:=FQ c1 4;have hlen:d2.1.1=t.2.1:=by rw[e2,e1]
 have hlo:=c2.lo;have hhi:=c2.hi
 rw[hlen]at hhi;obtain⟨j,hj⟩:∃j:Nat,d2.1.2.1=(j:Int):=⟨d2.1.2.1.toNat,by omega⟩;have hcut:cut t.2.1 d2.1.2.1 (t.2.1.length:Int)=some (t.2.1.drop j):=by
  rw[hj,yh (by omega) (Nat.le_refl _),take_length]
 obtain⟨g,p1,p2,p3⟩:=Rs (b:=t.2.1.drop j) (λx hx=>htb.2 x (mem_of_mem_drop hx)) (by rw[length_drop];omega);unfold da dO;simp only[t1,t2,a1,b1,a2,b2,tP,hcut,p1,p2];cases (!t.2.2.2)with
 | true=>exact⟨_,rfl,rfl,nil,λe=>(by cases e)⟩
 | false =>
 simp only[cF,tP];cases (t.1 != 48)with
 | true=>exact⟨_,rfl,rfl,nil,λe=>(by cases e)⟩
 | false =>
 simp only[cF,tP];cases (t.2.2.1 != (b.length:Int))with
 | true=>exact⟨_,rfl,rfl,nil,λe=>(by cases e)⟩
 | false =>
 simp only[cF,tP];cases d2.1.2.2 with
 | true=>exact⟨_,rfl,rfl,nil,λe=>(by cases e)⟩
 | false =>
 simp only[cF,tP];cases (d1.2 != 1)with
 | true=>exact⟨_,rfl,rfl,nil,λe=>(by cases e)⟩
 | false =>
 simp only[cF,tP];cases (uX d2.2==w)with
 | false=>exact⟨_,rfl,rfl,nil,λe=>(by cases e)⟩
 | true =>
 simp only[Bool.not_true,cF];rcases p3 with rfl|⟨p,rfl,q1,q2⟩
 · exact⟨_,rfl,rfl,nil,λe=>(by cases e)⟩
 · exact⟨_,rfl,rfl,q2,λ_=>q1⟩

def GQ (p:uq):List Int:=if vM p=true/\(uU p.2.2.2.2).length<=250/\(xp p).length<=250 then uV p.1 (xp p)else []
def vu (p:uq):Bool:=tX ((GQ p).length:Int) 1 120
theorem FR {p:uq} (hp:wo M p):aH p=some (vu p):=by
 unfold aH;rw[NU hp,tP];show (aa ((GQ p).length:Int) 1 120).bind _=_
 rw[xx,tP];rfl
theorem Q8 {p:uq} (h:vu p=true):vM p=true:=by
 unfold vu GQ at h;split at h
 · rename_i hh;exact hh.1
 · obtain⟨h1,_⟩:=wi h;simp at h1
theorem Cp {α β:Type} {l:List α} {g:α->β} {step:Int×List β->Option ((Int×List β)⊕List β)} (hn:l.length<=M)
 (h1:∀k (hk:k<l.length) (out:List β),out.length=k->step ((k:Int),out)=some (.inl (((k+1:Nat):Int),out++[g l[k]]))) (h2:∀out,step ((l.length:Int),out)=some (.inr out)):loop step (0,[])=some (l.map g):=by
 obtain⟨b,e1,rfl⟩:=uz (step:=step) (λk z=>z=((k:Int),(l.take k).map g)) l.length (λb=>b=l.map g)
  (λk z hk e=>by
   subst e;refine .inl ⟨_,h1 k hk _ (by rw[length_map,length_take];omega),?_⟩;rw[take_add_one,List.getElem?_eq_getElem hk,map_append];rfl)
  (λz e=>by
   subst e;exact⟨_,h2 _,by rw[take_length]⟩) (x:=(0,[])) rfl
 exact e1
noncomputable def vB (b:tQ) (o:List Int):tS:=(aK b o).getD ([],0,0,[],[])
noncomputable def Cq (b:tQ) (o:List Int):wN:=(bI b o).getD (0,0,[],[])
theorem FS {b:tQ} (h:vn b) {o:List Int} (ho:o.length<=1000):aK b o=some (vB b o)/\((vB b o∈wO b/\o<(vB b o).1)\/(vB b o=(o,130,0,[],[])/\∀x∈wO b,¬o<x.1)):=by
 obtain⟨j,hj⟩:=Tm (Pb h) o;have e:=Tn h ho hj
 unfold vB;rw[e];refine⟨rfl,?_⟩;by_cases hl:j<(wO b).length
 · rw[dif_pos hl];exact .inl ⟨getElem_mem hl,hj.yes j hl (Nat.le_refl _)⟩
 · rw[dif_neg hl];refine .inr ⟨rfl,λx hx=>?_⟩;obtain⟨i,hi,rfl⟩:=getElem_of_mem hx;exact hj.no i hi (by omega)
theorem OT {b:tQ} (h:vn b) {o:List Int} (ho:o.length<9223372036854775807):bI b o=some (Cq b o)/\((∃x∈wO b,x.1=o/\Cq b o=x.2)\/((∀x∈wO b,x.1≠o)/\Cq b o=(128,0,[],[]))):=by
 obtain⟨v,e,hv⟩:=TX h ho;unfold Cq;rw[e];exact⟨rfl,hv⟩
theorem Q9 {o:List Int} (h:Nm o):xd o=true:=by
 have h1:=h.ok;rw[Eu (by have:=h.n10;omega)]at h1;exact Option.some.inj h1
theorem Lz {v:wN} (h:Vl v):xY v=true:=by
 have h1:=h.ok;rw[GX (by rw[h.o];show 0<=1048576;omega)]at h1;exact Option.some.inj h1
theorem yG {o:List Int} (h:xd o=true):o.length<=10:=(zP h).2.1
theorem SH {b:tQ} (h:vn b) {x:tS} (hx:x∈wO b):yT x=true:=by
 obtain⟨h1,h2⟩:=Cw h x hx;unfold yT;rw[Q9 h1,Lz h2];rfl
theorem DT {b:tQ} (h:vn b) {o:List Int} (ho:xd o=true):yT (vB b o)=true:=by
 obtain⟨_,h1⟩:=FS h (o:=o) (by have:=yG ho;omega);rcases h1 with ⟨h1,_⟩|⟨h1,_⟩
 · exact SH h h1
 · rw[h1];unfold yT;rw[ho];rfl
theorem xf {x:tS} (h:yT x=true):xd x.1=true:=by
 unfold yT at h;rw[aT]at h;exact h.1
theorem Pw {b:tQ} (h:vn b) {o:List Int} (ho:o.length<9223372036854775807):xY (Cq b o)=true:=by
 obtain⟨_,h1⟩:=OT h ho;rcases h1 with ⟨x,hx,_,e⟩|⟨_,e⟩
 · rw[e];exact Lz (Cw h x hx).2
 · rw[e];rfl
def zh (s:List tS×List (List Int)):Nat:=min s.2.length (10-s.1.length)
noncomputable def Bt (b:tQ) (s:List tS×List (List Int)):List tS×List (List Int):=(s.1++(s.2.take (zh s)).map (vB b),(s.2.take (zh s)).map (λo=>(vB b o).1)++s.2.drop (zh s))
noncomputable def B2 (b:tQ):Nat->List tS×List (List Int)->List tS×List (List Int)
 | 0,s=>s
 | k+1,s=>if 0<s.2.length/\s.1.length<10 then B2 b k (Bt b s)else s
structure Fo (s:List tS×List (List Int)):Prop where
 o10:s.1.length<=10
 l10:s.2.length<=10
 oOk:∀x∈s.1,yT x=true
 lOk:∀o∈s.2,xd o=true
theorem NV {b:tQ} (h:vn b) {s:List tS×List (List Int)} (hs:Fo s):Fo (Bt b s):=by
 obtain⟨h1,h2,h3,h4⟩:=hs;refine⟨?_,?_,λx hx=>?_,λo ho=>?_⟩
 · show (s.1++_).length<=10;rw[length_append,length_map,length_take];unfold zh;omega
 · show (_++s.2.drop (zh s)).length<=10;rw[length_append,length_map,length_take,length_drop];unfold zh;omega
 · rcases mem_append.1 hx with hx|hx
   · exact h3 x hx
   · obtain⟨o,ho,rfl⟩:=mem_map.1 hx;exact DT h (h4 o (mem_of_mem_take ho))
 · rcases mem_append.1 ho with ho|ho
   · obtain⟨q,hq,rfl⟩:=mem_map.1 ho;exact xf (DT h (h4 q (mem_of_mem_take hq)))
   · exact h4 o (mem_of_mem_drop ho)
theorem TI {b:tQ} (h:vn b) {s:List tS×List (List Int)} (hs:Fo s):loop (λz=>cm b s.2 z.1 z.2.1 z.2.2) (0,s.1,s.2)=some (Bt b s):=by
 obtain⟨out,l⟩:=s;obtain⟨h1,h2,h3,h4⟩:=hs;simp only at h1 h2 h3 h4;have hm:zh (out,l)=min l.length (10-out.length):=rfl
 obtain⟨v,e1,rfl⟩:=uz (step:=λz:Int×List tS×List (List Int)=>cm b l z.1 z.2.1 z.2.2) (λk z=>z=((k:Int),out++(l.take k).map (vB b),(l.take k).map (λo=>(vB b o).1)++l.drop k)) (zh (out,l)) (λv=>v=Bt b (out,l))
  (λk z hk e=>by
   subst e;left;have hkl:k<l.length:=by omega
   have hlen:((l.take k).map (λo=>(vB b o).1)++l.drop k).length=l.length:=by rw[length_append,length_map,length_take,length_drop];omega
   have hol:(out++(l.take k).map (vB b)).length=out.length+k:=by rw[length_append,length_map,length_take];omega
   have hA:((l.take k).map (λo=>(vB b o).1)).length=k:=by rw[length_map,length_take];omega
   have hget:((l.take k).map (λo=>(vB b o).1)++l.drop k)[k]?=some l[k]:=by
    rw[List.getElem?_append_right (by omega),hA,Nat.sub_self,List.getElem?_drop,Nat.add_zero,List.getElem?_eq_getElem hkl]
   have hn:=(FS h (o:=l[k]) (by have:=yG (h4 _ (getElem_mem hkl));omega)).1;refine⟨_,?_,rfl⟩;show cm b l (k:Int) _ _=_
   unfold cm;rw[ux (by omega),cT,hol,dF (by omega),cF,hlen,wl hkl];simp only[tP,hget,hn];rw[u7 (by rw[hol];show out.length+k+1<=_;omega),tP,ua (by omega)];have t1:(l.take (k+1))=l.take k++[l[k]]:=by rw[take_add_one,List.getElem?_eq_getElem hkl];rfl
   have t2:((l.take k).map (λo=>(vB b o).1)++l.drop k).set k (vB b l[k]).1=(l.take (k+1)).map (λo=>(vB b o).1)++l.drop (k+1):=by
    rw[List.set_append_right _ _ (by omega),hA,Nat.sub_self,drop_eq_getElem_cons hkl,List.set_cons_zero,t1,map_append,append_assoc];rfl
   rw[t2,t1];simp only[map_append,map_cons,List.map_nil,append_assoc])
  (λz e=>by
   subst e;refine⟨_,?_,rfl⟩;show cm b l ((zh (out,l):Nat):Int) _ _=_
   have hol:(out++(l.take (zh (out,l))).map (vB b)).length=out.length+zh (out,l):=by rw[length_append,length_map,length_take];omega
   unfold cm;rw[hol];by_cases hlt:((zh (out,l):Nat):Int)<(l.length:Int)
   · rw[ux hlt,cT,dT (by omega),cT];rfl
   · rw[uj hlt,cF];rfl) (x:=(0,out,l)) (by simp)
 exact e1
theorem LA {b:tQ} (h:vn b):∀(n:Nat) {s:List tS×List (List Int)},Fo s->Fo (B2 b n s)
 | 0,s,hs=>hs
 | n+1,s,hs=>by
  unfold B2;split
  · exact LA h n (NV h hs)
  · exact hs
theorem Px {b:tQ} (h:vn b) {p:uq} (hB:p.2.2.2.1<=1000):∀(n i:Nat) {s:List tS×List (List Int)},Fo s->((i+n:Nat):Int)=p.2.2.2.1->loop (λz=>bp b p z.1 z.2.1 z.2.2) ((i:Int),s.1,s.2)=some (B2 b n s)
 | 0,i,s,hs,e=>by
  refine un ?_;show bp b p (i:Int) s.1 s.2=_
  unfold bp;rw[uj (by omega),cF,tP,cF,tP,cF];rfl
 | n+1,i,s,hs,e=>by
  by_cases hc:0<s.2.length/\s.1.length<10
  · refine uh (y:=(((i+1:Nat):Int),(Bt b s).1,(Bt b s).2)) ?_ ?_
    · show bp b p (i:Int) s.1 s.2=_;unfold bp;rw[ux (by omega),cT,dT (by omega),tP,cT,ux (by omega),tP,cT,TI h hs,tP,ua (by omega)]
    · have:=Px h hB n (i+1) (NV h hs) (by omega);rw[this,show B2 b (n+1) s=B2 b n (Bt b s)from if_pos hc]
  · refine un ?_;show bp b p (i:Int) s.1 s.2=_
    have e2:B2 b (n+1) s=s:=if_neg hc;rw[e2];unfold bp;rw[ux (by omega),cT];by_cases h1:0<s.2.length
    · rw[dT (by omega),tP,cT,uj (by omega),tP,cF]
    · rw[dF (by omega),tP,cF,tP,cF]
def vp (p:uq):Nat:=min p.2.2.1.toNat p.2.2.2.2.length
noncomputable def MC (b:tQ) (p:uq):List tS×List (List Int):=B2 b p.2.2.2.1.toNat ((p.2.2.2.2.take (vp p)).map (λx=>vB b x.1),(p.2.2.2.2.drop (vp p)).map (λx=>x.1))
noncomputable def xI (b:tQ) (p:uq):List tS:=(MC b p).1
theorem Py {b:tQ} (h:vn b) {p:uq} (hp:vM p=true):Fo ((p.2.2.2.2.take (vp p)).map (λx=>vB b x.1),(p.2.2.2.2.drop (vp p)).map (λx=>x.1)):=by
 obtain⟨h1,h2,_⟩:=xb hp;refine⟨?_,?_,λx hx=>?_,λo ho=>?_⟩
 · rw[length_map,length_take];omega
 · rw[length_map,length_drop];omega
 · obtain⟨y,hy,rfl⟩:=mem_map.1 hx;exact DT h (xf (h1 y (mem_of_mem_take hy)))
 · obtain⟨y,hy,rfl⟩:=mem_map.1 ho;exact xf (h1 y (mem_of_mem_drop hy))
theorem LB {b:tQ} (h:vn b) {p:uq} (hp:vM p=true):Fo (MC b p):=LA h _ (Py h hp)
theorem SI {b:tQ} (h:vn b) {p:uq} (hp:vM p=true):gu b p=some (xI b p):=by
 obtain⟨h1,h2,_,_,h5,h6⟩:=xb hp;have hmin:min2 p.2.2.1 (p.2.2.2.2.length:Int)=((vp p:Nat):Int):=by
  unfold min2 vp;split<;>omega
 have hon:vp p<=p.2.2.2.2.length:=Nat.min_le_right _ _;unfold gu;show ((cut p.2.2.2.2 0 (min2 p.2.2.1 (p.2.2.2.2.length:Int))).bind _)=_
 rw[hmin];have c1:cut p.2.2.2.2 0 ((vp p:Nat):Int)=some (p.2.2.2.2.take (vp p)):=by
  have:=yh (l:=p.2.2.2.2) (a:=0) (b:=vp p) (by omega) hon;simpa using this
 have c2:cut p.2.2.2.2 ((vp p:Nat):Int) (p.2.2.2.2.length:Int)=some (p.2.2.2.2.drop (vp p)):=by
  have:=yh (l:=p.2.2.2.2) (a:=vp p) (b:=p.2.2.2.2.length) hon (Nat.le_refl _);rw[take_length]at this;exact this
 have l1:loop (λz:Int×List tS=>dg b (p.2.2.2.2.take (vp p)) z.1 z.2) (0,[])=some ((p.2.2.2.2.take (vp p)).map (λx=>vB b x.1)):=by
  refine Cp (by show _<=1048576;rw[length_take];omega) (λk hk out ho=>?_) (λout=>?_)
  · have hx:=h1 _ (mem_of_mem_take (getElem_mem hk));have hk':=hk
    rw[length_take]at hk';show dg b _ (k:Int) out=_
    unfold dg;rw[ux (by omega),cT,ug hk,tP,(FS h (by have:=yG (xf hx);omega)).1,tP,u7 (by rw[ho];show k+1<=_;omega),tP,ua (by omega)]
  · show dg b _ ((p.2.2.2.2.take (vp p)).length:Int) out=_;unfold dg;rw[uj (by omega),cF]
 have l2:loop (λz:Int×List (List Int)=>dh (p.2.2.2.2.drop (vp p)) z.1 z.2) (0,[])=some ((p.2.2.2.2.drop (vp p)).map (λx=>x.1)):=by
  refine Cp (by show _<=1048576;rw[length_drop];omega) (λk hk out ho=>?_) (λout=>?_)
  · have hk':=hk;rw[length_drop]at hk';show dh _ (k:Int) out=_
    unfold dh;rw[ux (by omega),cT,ug hk,tP,u7 (by rw[ho];show k+1<=_;omega),tP,ua (by omega)]
  · show dh _ ((p.2.2.2.2.drop (vp p)).length:Int) out=_;unfold dh;rw[uj (by omega),cF]
 rw[c1,tP,l1,tP,c2,tP,l2,tP];have:=Px h (p:=p) (by omega) p.2.2.2.1.toNat 0 (Py h hp) (by omega)
 have this:loop (λz=>bp b p z.1 z.2.1 z.2.2) (0,(p.2.2.2.2.take (vp p)).map (λx=>vB b x.1),(p.2.2.2.2.drop (vp p)).map (λx=>x.1))=_:=this;rw[this,tP];rfl
def shr (f:List tS->Bool):Nat->List tS->Option (List tS)
 | 0,_=>none
 | n+1,l=>if f (l.take n)=true then some (l.take n)else shr f n (l.take n)
theorem Kb {f:List tS->Bool}:∀{n:Nat} {l t:List tS},shr f n l=some t->f t=true/\∃m,m<n/\t=l.take m
 | 0,l,t,h=>by cases h
 | n+1,l,t,h=>by
  unfold shr at h;split at h
  · rename_i hf;cases h;exact⟨hf,n,by omega,rfl⟩
  · obtain⟨h1,m,h2,h3⟩:=Kb h;refine⟨h1,m,by omega,?_⟩;rw[h3,List.take_take,Nat.min_eq_left (by omega)]
theorem GR {α β γ δ:Type} {step:α->Option (α⊕(β⊕δ))} {x:α} {F:β->Option γ} {G:δ->Option γ} {R:Option γ} (h:∃d,step x=some (.inr (.inl d))) (k:∀d,F d=R):(loop step x).bind (Sum.elim F G)=R:=by
 obtain⟨d,h⟩:=h;rw[un h,tP,Sum.elim_inl,k]
abbrev U7:=Int×List UInt8×Int×Int×Int×Int×Int×Int×Int×Int×Int×Int×List UInt8×Int×Int×Int×Int×Int×Int×Int×Int×Int×List Pt×List u0×List ub×List Int×List tS×List Pt×List u0×List ub×List Int×List tS
theorem Ru {p:uq} (h165:(p.1==165)=true) (b:tQ) (j0:Int) (j1:List UInt8) (j2 j3 j4 j5 j6 j7 j8 j9 j10:Int) (k i a c:Int) (j11:List Pt) (j12:List u0) (j13:List ub) (j14:List Int) (j15:List tS):∀(n:Nat) (l:List tS),l.length=n->n<=10->(∀x∈l,Bm M x) ->
 ∃w,loop (λz:U7=>eJ p z.1 z.2.1 z.2.2.1 z.2.2.2.1 z.2.2.2.2.1 z.2.2.2.2.2.1 z.2.2.2.2.2.2.1 z.2.2.2.2.2.2.2.1 z.2.2.2.2.2.2.2.2.1 z.2.2.2.2.2.2.2.2.2.1 z.2.2.2.2.2.2.2.2.2.2.1 z.2.2.2.2.2.2.2.2.2.2.2.1 z.2.2.2.2.2.2.2.2.2.2.2.2.1 z.2.2.2.2.2.2.2.2.2.2.2.2.2.1 z.2.2.2.2.2.2.2.2.2.2.2.2.2.2.1 z.2.2.2.2.2.2.2.2.2.2.2.2.2.2.2.1 z.2.2.2.2.2.2.2.2.2.2.2.2.2.2.2.2.1 z.2.2.2.2.2.2.2.2.2.2.2.2.2.2.2.2.2.1 z.2.2.2.2.2.2.2.2.2.2.2.2.2.2.2.2.2.2.1 z.2.2.2.2.2.2.2.2.2.2.2.2.2.2.2.2.2.2.2.1 z.2.2.2.2.2.2.2.2.2.2.2.2.2.2.2.2.2.2.2.2.1 z.2.2.2.2.2.2.2.2.2.2.2.2.2.2.2.2.2.2.2.2.2.1 z.2.2.2.2.2.2.2.2.2.2.2.2.2.2.2.2.2.2.2.2.2.2.1 z.2.2.2.2.2.2.2.2.2.2.2.2.2.2.2.2.2.2.2.2.2.2.2.1 z.2.2.2.2.2.2.2.2.2.2.2.2.2.2.2.2.2.2.2.2.2.2.2.2.1 z.2.2.2.2.2.2.2.2.2.2.2.2.2.2.2.2.2.2.2.2.2.2.2.2.2.1 z.2.2.2.2.2.2.2.2.2.2.2.2.2.2.2.2.2.2.2.2.2.2.2.2.2.2.1 z.2.2.2.2.2.2.2.2.2.2.2.2.2.2.2.2.2.2.2.2.2.2.2.2.2.2.2.1 z.2.2.2.2.2.2.2.2.2.2.2.2.2.2.2.2.2.2.2.2.2.2.2.2.2.2.2.2.1 z.2.2.2.2.2.2.2.2.2.2.2.2.2.2.2.2.2.2.2.2.2.2.2.2.2.2.2.2.2.1 z.2.2.2.2.2.2.2.2.2.2.2.2.2.2.2.2.2.2.2.2.2.2.2.2.2.2.2.2.2.2.1 z.2.2.2.2.2.2.2.2.2.2.2.2.2.2.2.2.2.2.2.2.2.2.2.2.2.2.2.2.2.2.2) (j0,j1,j2,j3,j4,j5,j6,j7,j8,j9,j10,b.1,b.2.1,b.2.2.2.2.2.2.1,b.2.2.2.2.2.2.2.1,b.2.2.2.2.2.2.2.2.1,b.2.2.2.2.2.2.2.2.2.1,b.2.2.2.2.2.2.2.2.2.2,k,i,a,c,j11,j12,j13,j14,j15,b.2.2.1,b.2.2.2.1,b.2.2.2.2.1,b.2.2.2.2.2.1,l)=some w/\(match shr (λt=>vu (k,i,a,c,t)) n l with|some t=>w=.inr (true,b.1,b.2.1,b.2.2.2.2.2.2.1,b.2.2.2.2.2.2.2.1,b.2.2.2.2.2.2.2.2.1,b.2.2.2.2.2.2.2.2.2.1,b.2.2.2.2.2.2.2.2.2.2,k,i,a,c,b.2.2.1,b.2.2.2.1,b.2.2.2.2.1,b.2.2.2.2.2.1,t)|none=>∃d,w=.inl d)
 | 0,l,hl,hn,hx=>by
  refine⟨_,un (b:=Sum.inl (j0,j1,j2,j3,j4,j5,j6,j7,j8,j9,j10,b.1,b.2.1,b.2.2.2.2.2.2.1,b.2.2.2.2.2.2.2.1,b.2.2.2.2.2.2.2.2.1,b.2.2.2.2.2.2.2.2.2.1,b.2.2.2.2.2.2.2.2.2.2,k,i,a,c,j11,j12,j13,j14,j15,b.2.2.1,b.2.2.2.1,b.2.2.2.2.1,b.2.2.2.2.2.1,l)) ?_,⟨_,rfl⟩⟩;dsimp only;unfold eJ;rw[h165,cT,dF (by omega),tP,cF]
 | n+1,l,hl,hn,hx=>by
  have hlt:(l.take n).length=n:=by rw[length_take];omega
  have hcut:vE l.length 0 (tR ((l.length:Int)-1))=some (0,n):=by
   rw[uS (by omega) (by omega),show (l.length:Int)-1=(n:Int) by omega];unfold vE;rw[if_pos (by omega),if_pos (by omega),if_pos (by omega)];simp
  have hp:wo M (k,i,a,c,l.take n):=⟨by show (l.take n).length<=1048576;omega,λx h=>hx x (mem_of_mem_take h)⟩;have hstep:∀q:Bool,vu (k,i,a,c,l.take n)=q->eJ p j0 j1 j2 j3 j4 j5 j6 j7 j8 j9 j10 b.1 b.2.1 b.2.2.2.2.2.2.1 b.2.2.2.2.2.2.2.1 b.2.2.2.2.2.2.2.2.1 b.2.2.2.2.2.2.2.2.2.1 b.2.2.2.2.2.2.2.2.2.2 k i a c j11 j12 j13 j14 j15 b.2.2.1 b.2.2.2.1 b.2.2.2.2.1 b.2.2.2.2.2.1 l=cond q (some (.inr (.inr (true,b.1,b.2.1,b.2.2.2.2.2.2.1,b.2.2.2.2.2.2.2.1,b.2.2.2.2.2.2.2.2.1,b.2.2.2.2.2.2.2.2.2.1,b.2.2.2.2.2.2.2.2.2.2,k,i,a,c,b.2.2.1,b.2.2.2.1,b.2.2.2.2.1,b.2.2.2.2.2.1,l.take n)))) (some (.inl (j0,j1,j2,j3,j4,j5,j6,j7,j8,j9,j10,b.1,b.2.1,b.2.2.2.2.2.2.1,b.2.2.2.2.2.2.2.1,b.2.2.2.2.2.2.2.2.1,b.2.2.2.2.2.2.2.2.2.1,b.2.2.2.2.2.2.2.2.2.2,k,i,a,c,j11,j12,j13,j14,j15,b.2.2.1,b.2.2.2.1,b.2.2.2.2.1,b.2.2.2.2.2.1,l.take n))):=by
   intro q hq;unfold eJ;rw[h165,cT,dT (by omega),tP,cT,hcut,tP];simp only[drop_zero];rw[FR hp,tP,hq]
  by_cases hf:vu (k,i,a,c,l.take n)=true
  · have e:shr (λt=>vu (k,i,a,c,t)) (n+1) l=some (l.take n):=if_pos hf;rw[e];exact⟨_,un (hstep true hf),rfl⟩
  · have e:shr (λt=>vu (k,i,a,c,t)) (n+1) l=shr (λt=>vu (k,i,a,c,t)) n (l.take n):=if_neg hf;rw[e];obtain⟨w,h1,h2⟩:=Ru h165 b j0 j1 j2 j3 j4 j5 j6 j7 j8 j9 j10 k i a c j11 j12 j13 j14 j15 n (l.take n) hlt (by omega) (λx h=>hx x (mem_of_mem_take h));exact⟨w,uh (hstep false (by simpa using hf)) h1,h2⟩
noncomputable def Dm (b:tQ) (l:List tS):tQ×Int×Int:=(dk b l).getD (b,0,0)
noncomputable def zi (b:tQ) (p:uq):tQ×uq :=
 cond (p.1==160) (b,162,p.2.1,0,0,p.2.2.2.2.map λx=>(x.1,Cq b x.1))
  (cond (p.1==161) (b,162,p.2.1,0,0,p.2.2.2.2.map λx=>vB b x.1)
   (cond (p.1==165) (b,162,p.2.1,0,0,xI b p) ((Dm b p.2.2.2.2).1,162,p.2.1,(Dm b p.2.2.2.2).2.1,(Dm b p.2.2.2.2).2.2,p.2.2.2.2)))
noncomputable def AO (b:tQ) (p:uq):tQ×uq :=
 match cond (p.1==165) (shr (λt=>vu (162,p.2.1,0,0,t)) (xI b p).length (xI b p)) none with
 | some t=>(b,162,p.2.1,0,0,t)
 | none=>(b,162,p.2.1,7,0,[])
noncomputable def xV (b:tQ) (p:uq):tQ×uq:=cond (vu (zi b p).2) (zi b p) (AO b p)
noncomputable def Cr (b:tQ) (p:uq):Bool:=vc b&&(vM p&&(p.1 != 162))
noncomputable def vL (b:tQ) (p:uq):tQ×uq×Bool:=cond (Cr b p) ((xV b p).1,(xV b p).2,true) (b,(0,0,0,0,[]),false)
theorem Fp {p:uq} (hp:vM p=true):Aa M p.2.2.2.2:=by
 obtain⟨h1,h2,_⟩:=xb hp;exact⟨by show _<=1048576;omega,λx hx=>wL (h1 x hx)⟩
theorem NW {b:tQ} (h:zl b) (hb:yH M b) {p:uq} (hp:wo M p):cp b p=some (vL b p):=by
 unfold cp vL Cr;rw[z9 hb,tP,DU h,tP];cases hbr:vc b with
 | false=>rw[Bool.not_false,cT,tP,cT,tP,cT];rfl
 | true =>
 rw[Bool.not_true,cF,Ph hp,tP,tP];cases hpp:vM p with
 | false=>rw[Bool.not_false,cT,tP,cT];rfl
 | true =>
 rw[Bool.not_true,cF,tP];cases h162:(p.1==162)with
 | true =>
  have:(p.1 != 162)=false:=by rw[bne,h162];rfl
  rw[cT,this];rfl
 | false =>
 have hne:(p.1 != 162)=true:=by rw[bne,h162];rfl
 have hBO:=HV h hbr;obtain⟨x1,x2,x3,x4,x5,x6⟩:=xb hpp;have hxs:=Fp hpp
 rw[cF,hne,Bool.true_and,Bool.true_and,cT];unfold xV zi AO;cases h160:(p.1==160)with
 | true =>
  have h165:(p.1==165)=false:=by simp only[beq_iff_eq]at h160;rw[h160];rfl
  have e:loop (λz:Int×Int×Int×Int×Int×List tS=>eH b p z.1 z.2.1 z.2.2.1 z.2.2.2.1 z.2.2.2.2.1 z.2.2.2.2.2) (0,162,p.2.1,0,0,[])=some (162,p.2.1,0,0,p.2.2.2.2.map λx=>(x.1,Cq b x.1)):=by
   obtain⟨v,e1,rfl⟩:=uz (step:=λz:Int×Int×Int×Int×Int×List tS=>eH b p z.1 z.2.1 z.2.2.1 z.2.2.2.1 z.2.2.2.2.1 z.2.2.2.2.2) (λk z=>z=((k:Int),162,p.2.1,0,0,(p.2.2.2.2.take k).map λx=>(x.1,Cq b x.1))) p.2.2.2.2.length (λv=>v=(162,p.2.1,0,0,p.2.2.2.2.map λx=>(x.1,Cq b x.1)))
    (λk z hk e=>by
     subst e;refine .inl ⟨_,?_,rfl⟩;have hx:=yG (xf (x1 _ (getElem_mem hk)))
     dsimp only;unfold eH;rw[ux (by omega),cT,ug hk,tP,Et (by show _<=1048576;omega),tP,(OT hBO (by omega)).1,tP,u7 (by rw[length_map,length_take];show min k _+1<=_;omega),tP,ua (by omega),
      take_add_one,List.getElem?_eq_getElem hk,map_append];rfl)
    (λz e=>by
     subst e;refine⟨_,?_,rfl⟩;dsimp only;unfold eH;rw[uj (by omega),cF,take_length]) (x:=(0,162,p.2.1,0,0,[])) rfl
   exact e1
  simp only[cT,cF];rw[e,tP,FR ⟨by show (p.2.2.2.2.map _).length<=1048576;rw[length_map];omega,λx hx=>by
   obtain⟨y,hy,rfl⟩:=mem_map.1 hx;exact wL (by unfold yT;rw[xf (x1 y hy),Pw hBO (by have:=yG (xf (x1 y hy));omega)];rfl)⟩,tP]
  cases vu (162,p.2.1,0,0,p.2.2.2.2.map λx=>(x.1,Cq b x.1))with
  | true=>rfl
  | false =>
   simp only[cF];refine GR ?_ λd=>?_
   · dsimp only;unfold nh;rw[h165,cF,tP,cF];exact⟨_,rfl⟩
   · rw[tP];simp only[h165,cF]
 | false =>
 cases h161:(p.1==161)with
 | true =>
  have h165:(p.1==165)=false:=by simp only[beq_iff_eq]at h161;rw[h161];rfl
  have e:loop (λz:Int×Int×Int×Int×Int×List tS=>eI b p z.1 z.2.1 z.2.2.1 z.2.2.2.1 z.2.2.2.2.1 z.2.2.2.2.2) (0,162,p.2.1,0,0,[])=some (162,p.2.1,0,0,p.2.2.2.2.map λx=>vB b x.1):=by
   obtain⟨v,e1,rfl⟩:=uz (step:=λz:Int×Int×Int×Int×Int×List tS=>eI b p z.1 z.2.1 z.2.2.1 z.2.2.2.1 z.2.2.2.2.1 z.2.2.2.2.2) (λk z=>z=((k:Int),162,p.2.1,0,0,(p.2.2.2.2.take k).map λx=>vB b x.1)) p.2.2.2.2.length (λv=>v=(162,p.2.1,0,0,p.2.2.2.2.map λx=>vB b x.1))
    (λk z hk e=>by
     subst e;refine .inl ⟨_,?_,rfl⟩;have hx:=yG (xf (x1 _ (getElem_mem hk)))
     dsimp only;unfold eI;rw[ux (by omega),cT,ug hk,tP,(FS hBO (by omega)).1,tP,u7 (by rw[length_map,length_take];show min k _+1<=_;omega),tP,ua (by omega),
      take_add_one,List.getElem?_eq_getElem hk,map_append];rfl)
    (λz e=>by
     subst e;refine⟨_,?_,rfl⟩;dsimp only;unfold eI;rw[uj (by omega),cF,take_length]) (x:=(0,162,p.2.1,0,0,[])) rfl
   exact e1
  simp only[cT,cF];rw[e,tP,FR ⟨by show (p.2.2.2.2.map _).length<=1048576;rw[length_map];omega,λx hx=>by
   obtain⟨y,hy,rfl⟩:=mem_map.1 hx;exact wL (DT hBO (xf (x1 y hy)))⟩,tP]
  cases vu (162,p.2.1,0,0,p.2.2.2.2.map λx=>vB b x.1)with
  | true=>rfl
  | false =>
   simp only[cF];refine GR ?_ λd=>?_
   · dsimp only;unfold ni;rw[h165,cF,tP,cF];exact⟨_,rfl⟩
   · rw[tP];simp only[h165,cF]
 | false =>
 cases h165:(p.1==165)with
 | true =>
  have hbk:=LB hBO hpp;have hbx:∀x∈xI b p,Bm M x:=λx hx=>wL (hbk.oOk x hx)
  have hbn:(xI b p).length<=10:=hbk.o10;simp only[cT,cF];rw[SI hBO hpp,tP,FR ⟨by show (xI b p).length<=1048576;omega,hbx⟩,tP];cases vu (162,p.2.1,0,0,xI b p)with
  | true=>rfl
  | false =>
   simp only[cF];obtain⟨w,e1,e2⟩:=Ru h165 b 0 [] 0 0 0 0 0 0 0 0 0 162 p.2.1 0 0 [] [] [] [] [] _ (xI b p) rfl hbn hbx;rw[e1,tP];cases hs:shr (λt=>vu (162,p.2.1,0,0,t)) (xI b p).length (xI b p)with
   | some t=>rw[hs]at e2;rw[e2];rfl
   | none =>
    rw[hs]at e2;obtain⟨d,rfl⟩:=e2;rw[Sum.elim_inl,tP];try rfl
 | false =>
  obtain⟨r,r1,_,_,_⟩:=Is h hb hxs;have hr:Dm b p.2.2.2.2=r:=by unfold Dm;rw[r1];rfl
  simp only[cF];rw[r1,tP,Fx hxs,tP,hr,FR (p:=(162,p.2.1,r.2.1,r.2.2,p.2.2.2.2)) ⟨hxs.1,hxs.2⟩,tP];cases vu (162,p.2.1,r.2.1,r.2.2,p.2.2.2.2)with
  | true=>rfl
  | false =>
   simp only[cF];refine GR ?_ λd=>?_
   · dsimp only;unfold nj;rw[h165,cF,tP,cF];exact⟨_,rfl⟩
   · rw[tP]

def aW (a:ue):List UInt8:=a.2.2.2.2.2.2.2.2.2.2.2.1
def vX (b:tQ) (w:List UInt8) (l:List ut) (lo la:Int):ue:=(b.1,b.2.1,b.2.2.1,b.2.2.2.1,b.2.2.2.2.1,b.2.2.2.2.2.1,b.2.2.2.2.2.2.1,b.2.2.2.2.2.2.2.1,b.2.2.2.2.2.2.2.2.1,b.2.2.2.2.2.2.2.2.2.1,b.2.2.2.2.2.2.2.2.2.2,w,l,lo,la)
def xJ (id:Int) (m:List Int) (ph:Int) (p:uq) (s:tQ) (at' tr:Int):ut:=(id,m,ph,p.1,p.2.1,p.2.2.1,p.2.2.2.1,p.2.2.2.2,s.1,s.2.1,s.2.2.1,s.2.2.2.1,s.2.2.2.2.1,s.2.2.2.2.2.1,s.2.2.2.2.2.2.1,s.2.2.2.2.2.2.2.1,s.2.2.2.2.2.2.2.2.1,s.2.2.2.2.2.2.2.2.2.1,s.2.2.2.2.2.2.2.2.2.2,at',tr)
theorem Ji {b:tQ} {w:List UInt8} {l:List ut} {lo la:Int} {k:Nat} (hk:k<l.length) (hl:l.length<=M):bD (vX b w l lo la) (k:Int)=some (vX b w (l.eraseIdx k) lo la):=by
 have hM:M=1048576:=rfl;have c1:vE l.length 0 (k:Int)=some (0,k):=by
  unfold vE;rw[if_pos (by omega),if_pos (by omega),if_pos (by omega)];simp
 have c2:vE l.length (tR ((k:Int)+1)) (l.length:Int)=some (k+1,l.length):=by
  rw[ua (by omega)];unfold vE;rw[if_pos (by omega),if_pos (by omega),if_pos (by omega)];simp
 have c3:EO l 0 k (k+1) l.length=some (l.eraseIdx k):=by
  unfold EO;rw[if_pos (by omega),take_length,drop_zero,u7 (by rw[length_take,length_drop];omega),←List.eraseIdx_eq_take_drop_succ]
 unfold bD vX;simp only[c1,tP,c2,c3]
def Io (b:tQ) (j:ut):ut:=xJ j.1 j.2.1 1 (jP j) b 0 (uA j)
theorem NX {b:tQ} (hb:yH M b) {w:List UInt8} {l:List ut} {lo la:Int} {k:Nat} (hk:k<l.length):ew (vX b w l lo la) (k:Int)=some (vX b w (l.set k (Io b l[k])) lo la):=by
 have cb:=z9 hb;unfold ew vX;simp only[wl hk,tP];have cb':aj (b.1,b.2.1,b.2.2.1,b.2.2.2.1,b.2.2.2.2.1,b.2.2.2.2.2.1,b.2.2.2.2.2.2.1,b.2.2.2.2.2.2.2.1,b.2.2.2.2.2.2.2.2.1,b.2.2.2.2.2.2.2.2.2.1,b.2.2.2.2.2.2.2.2.2.2)=some b:=cb
 simp only[cb',tP,List.getElem?_eq_getElem hk,List.getElem?_set_self hk,set_set];rfl
def HM (n:Int):Int:=min2 (tR (n+1)) 1000000
theorem MD (n:Int):bg n=some (HM n):=rfl
def D5 (b:tQ):tQ:=(b.1,b.2.1,b.2.2.1,b.2.2.2.1,b.2.2.2.2.1,b.2.2.2.2.2.1,b.2.2.2.2.2.2.1,b.2.2.2.2.2.2.2.1,HM b.2.2.2.2.2.2.2.2.1,b.2.2.2.2.2.2.2.2.2.1,b.2.2.2.2.2.2.2.2.2.2)
def Bl (b:tQ):tQ:=(b.1,b.2.1,b.2.2.1,b.2.2.2.1,b.2.2.2.2.1,b.2.2.2.2.2.1,b.2.2.2.2.2.2.1,HM b.2.2.2.2.2.2.2.1,b.2.2.2.2.2.2.2.2.1,b.2.2.2.2.2.2.2.2.2.1,b.2.2.2.2.2.2.2.2.2.2)
noncomputable def v7 (w:List UInt8) (m:List Int):uq×Int:=(da w m).getD ((0,0,0,0,[]),0)
theorem OU (w:List UInt8) {m:List Int} (hb:xi m) (hn:m.length<=M):da w m=some (v7 w m)/\dO w m=some (v7 w m)/\wo M (v7 w m).1/\((v7 w m).2=0->vM (v7 w m).1=true):=by
 obtain⟨r,h1,h2,h3,h4⟩:=Rt w hb hn;unfold v7;rw[h1];exact⟨rfl,h2,h3,h4⟩
noncomputable def z8 (p:uq):uq:=cond (vu (162,p.2.1,6,1,p.2.2.2.2)) (162,p.2.1,6,1,p.2.2.2.2) (162,p.2.1,7,0,[])
theorem SJ {p:uq} (hp:wo M p):eK p=some (z8 p):=by
 unfold eK z8;rw[Fx hp,tP,FR (p:=(162,p.2.1,6,1,p.2.2.2.2)) hp,tP];cases vu (162,p.2.1,6,1,p.2.2.2.2)<;>rfl
inductive Rv where
 | stay (j:ut)|gone (d:List uY)
noncomputable def xK (w:List UInt8) (b:tQ) (j:ut):tQ×Rv :=
 cond (j.2.2.1==0)
  (cond ((v7 w j.2.1).2==3) (D5 b,.gone [])
   (cond ((v7 w j.2.1).2 != 0||((v7 w j.2.1).1.1==162)) (Bl b,.gone [])
    (b,.stay (xJ j.1 j.2.1 1 (v7 w j.2.1).1 b 0 (uA j)))))
  (cond (j.2.2.1==2)
   (cond (j.2.2.2.1 != 163) (b,.gone [(j.1,(vL (jB j) (jP j)).2.1)])
    (cond (b.2.2.2.2.2.2.2.2.2.2==(jB j).2.2.2.2.2.2.2.2.2.2) ((vL b (jP j)).1,.gone [(j.1,(vL b (jP j)).2.1)])
     (cond (decide (uA j>=3)) (b,.gone [(j.1,z8 (jP j))])
      (b,.stay (xJ j.1 j.2.1 1 (jP j) b 0 (tR (uA j+1)))))))
   (cond (decide (xz j<((jP j).2.2.2.2.length:Int))) (b,.stay (xJ j.1 j.2.1 j.2.2.1 (jP j) (jB j) (tR (xz j+1)) (uA j)))
    (b,.stay (xJ j.1 j.2.1 2 (jP j) (jB j) (xz j) (uA j)))))
noncomputable def uN (a:ue) (k:Nat) (j:ut):ue×List uY :=
 match (xK (aW a) (aB a) j).2 with
 | .stay j'=>(vX (xK (aW a) (aB a) j).1 (aW a) ((tU a).set k j') (za a) (vO a),[])
 | .gone d=>(vX (xK (aW a) (aB a) j).1 (aW a) ((tU a).eraseIdx k) (za a) (vO a),d)
theorem SK {b:tQ} (hb:yH M b) {w:List UInt8} {l:List ut} {lo la:Int} {k:Nat} (hk:k<l.length) (hl:l.length<=M) (h1:xi l[k].2.1) (h2:l[k].2.1.length<=M) :
 ez (vX b w l lo la) (k:Int)=some (cond ((v7 w l[k].2.1).2==3) (vX (D5 b) w (l.eraseIdx k) lo la)
  (cond ((v7 w l[k].2.1).2 != 0||((v7 w l[k].2.1).1.1==162)) (vX (Bl b) w (l.eraseIdx k) lo la) (vX b w (l.set k (xJ l[k].1 l[k].2.1 1 (v7 w l[k].2.1).1 b 0 (uA l[k]))) lo la))):=by
 obtain⟨m1,_,m3,_⟩:=OU w h1 h2;unfold ez;have d1:=Ji (b:=D5 b) (w:=w) (lo:=lo) (la:=la) hk hl
 have d2:=Ji (b:=Bl b) (w:=w) (lo:=lo) (la:=la) hk hl;unfold D5 vX at d1;unfold Bl vX at d2;dsimp only[vX];simp only[wl hk,tP,List.getElem?_eq_getElem hk,m1,MD];rw[d1,d2];cases ((v7 w l[k].2.1).2==3)with
 | true=>rfl
 | false =>
  simp only[cF,tP];cases ((v7 w l[k].2.1).2 != 0)with
  | true=>rfl
  | false =>
   simp only[cF,tP,Bool.false_or];cases ((v7 w l[k].2.1).1.1==162)with
   | true=>rfl
   | false =>
    simp only[cF,tP];have hs:k<(l.set k (xJ l[k].1 l[k].2.1 l[k].2.2.1 (v7 w l[k].2.1).1 (jB l[k]) (xz l[k]) (uA l[k]))).length:=by rw[length_set];exact hk
    have e:=NX hb (w:=w) (lo:=lo) (la:=la) hs;unfold vX at e;have e2:Io b (l.set k (xJ l[k].1 l[k].2.1 l[k].2.2.1 (v7 w l[k].2.1).1 (jB l[k]) (xz l[k]) (uA l[k])))[k]=xJ l[k].1 l[k].2.1 1 (v7 w l[k].2.1).1 b 0 (uA l[k]):=by
     rw[getElem_set_self];rfl
    rw[e2,set_set]at e;refine (congrArg (λo=>Option.bind o λt=>some t) e).trans ?_;rfl
theorem Qa {b:tQ} (hw:zl b) (hb:yH M b) {w:List UInt8} {l:List ut} {lo la:Int} {k:Nat} (hk:k<l.length) (hl:l.length<=M) (h1:Ku l[k]) (h2:Gq M l[k]) :
 eL (vX b w l lo la) (k:Int)=some (cond (l[k].2.2.2.1 != 163) (vX b w (l.eraseIdx k) lo la,[(l[k].1,(vL (jB l[k]) (jP l[k])).2.1)])
  (cond (b.2.2.2.2.2.2.2.2.2.2==(jB l[k]).2.2.2.2.2.2.2.2.2.2) (vX (vL b (jP l[k])).1 w (l.eraseIdx k) lo la,[(l[k].1,(vL b (jP l[k])).2.1)])
   (cond (decide (uA l[k]>=3)) (vX b w (l.eraseIdx k) lo la,[(l[k].1,z8 (jP l[k]))])
    (vX b w (l.set k (xJ l[k].1 l[k].2.1 1 (jP l[k]) b 0 (tR (uA l[k]+1)))) lo la,[])))):=by
 have r1:=NW h1.b h2.2.2 h1.p;have r2:=NW hw hb h1.p
 have r3:=SJ h1.p;have d1:=Ji (b:=b) (w:=w) (lo:=lo) (la:=la) hk hl
 have d2:=Ji (b:=(vL b (jP l[k])).1) (w:=w) (lo:=lo) (la:=la) hk hl;unfold eL;dsimp only[vX];simp only[wl hk,tP,List.getElem?_eq_getElem hk];unfold vX at d1;cases hkind:(l[k].2.2.2.1 != 163)with
 | true =>
  simp only[cT];rw[show cp (l[k].2.2.2.2.2.2.2.2.1,l[k].2.2.2.2.2.2.2.2.2.1,l[k].2.2.2.2.2.2.2.2.2.2.1,l[k].2.2.2.2.2.2.2.2.2.2.2.1,l[k].2.2.2.2.2.2.2.2.2.2.2.2.1,l[k].2.2.2.2.2.2.2.2.2.2.2.2.2.1,l[k].2.2.2.2.2.2.2.2.2.2.2.2.2.2.1,l[k].2.2.2.2.2.2.2.2.2.2.2.2.2.2.2.1,l[k].2.2.2.2.2.2.2.2.2.2.2.2.2.2.2.2.1,l[k].2.2.2.2.2.2.2.2.2.2.2.2.2.2.2.2.2.1,l[k].2.2.2.2.2.2.2.2.2.2.2.2.2.2.2.2.2.2.1) (l[k].2.2.2.1,l[k].2.2.2.2.1,l[k].2.2.2.2.2.1,l[k].2.2.2.2.2.2.1,l[k].2.2.2.2.2.2.2.1)=some (vL (jB l[k]) (jP l[k]))from r1,tP,d1,tP]
 | false =>
  simp only[cF];show cond (b.2.2.2.2.2.2.2.2.2.2==(jB l[k]).2.2.2.2.2.2.2.2.2.2) _ _=_
  cases hv:(b.2.2.2.2.2.2.2.2.2.2==(jB l[k]).2.2.2.2.2.2.2.2.2.2)with
  | true =>
   simp only[cT];rw[show cp (b.1,b.2.1,b.2.2.1,b.2.2.2.1,b.2.2.2.2.1,b.2.2.2.2.2.1,b.2.2.2.2.2.2.1,b.2.2.2.2.2.2.2.1,b.2.2.2.2.2.2.2.2.1,b.2.2.2.2.2.2.2.2.2.1,b.2.2.2.2.2.2.2.2.2.2) (l[k].2.2.2.1,l[k].2.2.2.2.1,l[k].2.2.2.2.2.1,l[k].2.2.2.2.2.2.1,l[k].2.2.2.2.2.2.2.1)=some (vL b (jP l[k]))from r2,tP];unfold vX at d2;rw[d2,tP]
  | false =>
   simp only[cF];show cond (decide (uA l[k]>=3)) _ _=_
   cases hq:decide (uA l[k]>=3)with
   | true =>
    simp only[cT];rw[show eK (l[k].2.2.2.1,l[k].2.2.2.2.1,l[k].2.2.2.2.2.1,l[k].2.2.2.2.2.2.1,l[k].2.2.2.2.2.2.2.1)=some (z8 (jP l[k]))from r3,tP,d1,tP]
   | false =>
    simp only[cF];have hs:k<(l.set k (xJ l[k].1 l[k].2.1 l[k].2.2.1 (jP l[k]) (jB l[k]) (xz l[k]) (tR (uA l[k]+1)))).length:=by rw[length_set];exact hk
    have e:=NX hb (w:=w) (lo:=lo) (la:=la) hs;unfold vX at e;have e2:Io b (l.set k (xJ l[k].1 l[k].2.1 l[k].2.2.1 (jP l[k]) (jB l[k]) (xz l[k]) (tR (uA l[k]+1))))[k]=xJ l[k].1 l[k].2.1 1 (jP l[k]) b 0 (tR (uA l[k]+1)):=by
     rw[getElem_set_self];rfl
    rw[e2,set_set]at e;refine (congrArg (λo=>Option.bind o λt=>some (t,([]:List uY))) e).trans ?_;rfl
theorem SL {a:ue} (hw:zl (aB a)) (hl:Bu M a) {k:Nat} (hk:k<(tU a).length) (h1:Ku (tU a)[k]) (h2:xi (tU a)[k].2.1):dl a (k:Int)=some (uN a k (tU a)[k]):=by
 obtain⟨hb,_,hn,hj⟩:=hl;have hJ:=hj _ (getElem_mem hk)
 have hn:(tU a).length<=M:=hn;have e1:=SK hb (w:=aW a) (l:=tU a) (lo:=za a) (la:=vO a) hk hn h2 hJ.1
 have e2:=Qa hw hb (w:=aW a) (l:=tU a) (lo:=za a) (la:=vO a) hk hn h1 hJ;have c0:ix a.2.2.2.2.2.2.2.2.2.2.2.2.1.length (k:Int)=some k:=wl hk
 have c1:a.2.2.2.2.2.2.2.2.2.2.2.2.1[k]?=some (tU a)[k]:=List.getElem?_eq_getElem hk;have e1:ez a (k:Int)=_:=e1
 have e2:eL a (k:Int)=_:=e2;unfold dl uN xK;rw[c0,tP];simp only[c1,tP];cases hp0:((tU a)[k].2.2.1==0)with
 | true =>
  rw[cT,e1,tP];cases ((v7 (aW a) (tU a)[k].2.1).2==3)with
  | true=>rfl
  | false =>
   cases ((v7 (aW a) (tU a)[k].2.1).2 != 0||((v7 (aW a) (tU a)[k].2.1).1.1==162))<;>rfl
 | false =>
  rw[cF];cases hp2:((tU a)[k].2.2.1==2)with
  | true =>
   rw[cT,e2,tP];cases ((tU a)[k].2.2.2.1 != 163)with
   | true=>rfl
   | false =>
    cases ((aB a).2.2.2.2.2.2.2.2.2.2==(jB (tU a)[k]).2.2.2.2.2.2.2.2.2.2)with
    | true=>rfl
    | false=>cases decide (uA (tU a)[k]>=3)<;>rfl
  | false =>
   simp only[cF];show cond (decide (xz (tU a)[k]<((jP (tU a)[k]).2.2.2.2.length:Int))) _ _=_
   cases decide (xz (tU a)[k]<((jP (tU a)[k]).2.2.2.2.length:Int))<;>rfl

theorem LC {n:Int} (h:tX n 0 1000000=true):tX (HM n) 0 1000000=true:=by
 obtain⟨r,h1,_,h3⟩:=MZ h;rw[MD]at h1;cases h1;exact h3
theorem D6 {b:tQ} (h:vc b=true):wF b=true/\∀c,wF (b.1,b.2.1,b.2.2.1,b.2.2.2.1,b.2.2.2.2.1,b.2.2.2.2.2.1,c)=true->vc (b.1,b.2.1,b.2.2.1,b.2.2.2.1,b.2.2.2.2.1,b.2.2.2.2.2.1,c)=true:=by
 unfold vc at h ⊢;simp only[aT]at h ⊢;obtain⟨h1,h2,h3,h4,h5,h6,h7⟩:=h;exact⟨h7,λc hc=>⟨h1,h2,h3,h4,h5,h6,hc⟩⟩
theorem HN {b:tQ} (h:vn b) {c:Int×Int×Int×Int×Int} (hc:wF (b.1,b.2.1,b.2.2.1,b.2.2.2.1,b.2.2.2.2.1,b.2.2.2.2.2.1,c)=true):vn (b.1,b.2.1,b.2.2.1,b.2.2.2.1,b.2.2.2.2.1,b.2.2.2.2.2.1,c) :=
 HV ⟨h.w.p,h.w.f,h.w.v,h.w.q,h.w.r⟩ ((D6 h.ok).2 c hc)
theorem Ct {b:tQ} (h:wF b=true):tX b.2.2.2.2.2.2.1 0 1000000=true/\tX b.2.2.2.2.2.2.2.1 0 1000000=true/\tX b.2.2.2.2.2.2.2.2.1 0 1000000=true/\tX b.2.2.2.2.2.2.2.2.2.1 0 1000000=true/\tX b.2.2.2.2.2.2.2.2.2.2 0 1000000=true:=by
 unfold wF at h;simpa only[aT]using h
theorem OV {b:tQ} (h:vn b):vn (D5 b):=by
 refine HN h ?_;obtain⟨h1,h2,h3,h4,h5⟩:=Ct (D6 h.ok).1;unfold wF;simp only[aT];exact⟨h1,h2,LC h3,h4,h5⟩
theorem NY {b:tQ} (h:vn b):vn (Bl b):=by
 refine HN h ?_;obtain⟨h1,h2,h3,h4,h5⟩:=Ct (D6 h.ok).1;unfold wF;simp only[aT];exact⟨h1,LC h2,h3,h4,h5⟩
theorem Rw {b:tQ} (h:yU b) (hl:yH M b):zl b:=by
 obtain⟨_,l2,l3,l4,l5⟩:=hl;have hM:M<9223372036854775807:=by decide
 exact⟨by omega,by omega,by omega,by omega,h.h⟩
theorem TJ {b:tQ} (h:vn b) {l:List tS} (hl:Aa M l):dk b l=some (Dm b l)/\vn (Dm b l).1:=by
 obtain⟨r,r1,_,r3,r4,_⟩:=Is h.w h.le hl;unfold Dm;rw[r1];obtain⟨k1,k2⟩:=r4 h.ok;exact⟨rfl,HV (Rw k1 r3) k2⟩
theorem OW {b:tQ} (h:vn b) {p:uq} (hp:vM p=true):vn (zi b p).1:=by
 unfold zi;cases (p.1==160)<;>cases (p.1==161)<;>cases (p.1==165)<;>first|exact h|exact (TJ h (Fp hp)).2
theorem Qb (b:tQ) (p:uq):(AO b p).1=b:=by
 unfold AO;split<;>rfl
theorem HO {b:tQ} (h:vn b) (p:uq):vn (vL b p).1:=by
 unfold vL;cases hq:Cr b p with
 | false=>exact h
 | true =>
  unfold Cr at hq;simp only[aT]at hq;rw[cT];unfold xV;cases vu (zi b p).2 with
  | true=>exact OW h hq.2.1
  | false=>rw[cF,Qb];exact h
theorem OX {p:uq} (hp:vM p=true):p.1=160\/p.1=161\/p.1=162\/p.1=163\/p.1=165:=by
 unfold vM at hp;by_cases h0:p.1=160;· exact .inl h0
 by_cases h1:p.1=161;· exact .inr (.inl h1)
 by_cases h2:p.1=162;· exact .inr (.inr (.inl h2))
 by_cases h3:p.1=163;· exact .inr (.inr (.inr (.inl h3)))
 by_cases h5:p.1=165;· exact .inr (.inr (.inr (.inr h5)))
 simp[h0,h1,h2,h3,h5]at hp
structure Cu (j:ut):Prop where
 byt:xi j.2.1
 len:j.2.1.length<=M
 ph:tX j.2.2.1 0 2=true
 at':tX (xz j) 0 ((jP j).2.2.2.2.length:Int)=true
 tr:tX (uA j) 0 3=true
 ok:(j.2.2.1==0)=true\/(vM (jP j)=true/\((jP j).1 != 162)=true/\vn (jB j))
 pl:wo M (jP j)
 bw:zl (jB j)
 bl:yH M (jB j)
theorem Cu.jwf {j:ut} (h:Cu j):Ku j:=⟨h.pl,h.bw⟩
theorem Cu.jle {j:ut} (h:Cu j):Gq M j:=⟨h.len,h.pl,h.bl⟩
structure xN (a:ue):Prop where
 b:vn (aB a)
 w:(aW a).length<=20
 n:(tU a).length<=6
 lo:tX (za a) 0 1000000=true
 la:tX (vO a) 0 1000000=true
 ids:∀j∈tU a,tX j.1 1 (vO a)=true
 up:(tU a).Pairwise λi j=>i.1<j.1
 j:∀j∈tU a,Cu j
theorem xN.ale {a:ue} (h:xN a):Bu M a:=⟨h.b.le,by have:=h.w;show (aW a).length<=1048576;omega,by have:=h.n;show (tU a).length<=1048576;omega,λx hx=>(h.j x hx).jle⟩
theorem xN.awf {a:ue} (h:xN a):J4 a:=⟨h.b.w,by have:=h.n;omega,λx hx=>(h.j x hx).jwf⟩
theorem xN.ok {a:ue} (h:xN a):AQ a=true:=by
 have hn:=h.n;have hw:=h.w
 unfold AQ;have h1:(List.range (tU a).length).any (Dp (tU a) (vO a))=false:=by
  rw[any_eq_false];intro k hk;have hk:=mem_range.1 hk
  unfold Dp;have hj:=h.j _ (getElem_mem hk)
  have hp:Ac (tU a)[k]=true:=by
   unfold Ac;simp only[aT,Bool.or_eq_true];refine⟨hj.ph,hj.at',hj.tr,hj.ok.imp (λe=>e) λ⟨k1,k2,k3⟩=>⟨k1,k2,k3.ok⟩⟩
  simp only[List.getElem?_eq_getElem hk,h.ids _ (getElem_mem hk),hp,Bool.and_self,Bool.not_true,Bool.false_or];by_cases h0:0<k
  · have:=List.pairwise_iff_getElem.1 h.up (k-1) k (by omega) hk (by omega);simp only[List.getElem?_eq_getElem (show k-1<(tU a).length by omega),aT,decide_eq_true_eq];omega
  · rw[dF h0];simp
 rw[h1];simp only[Bool.not_false,Bool.true_and,aT,decide_eq_true_eq];exact⟨h.b.ok,by show ((aW a).length:Int)<=20;omega,by omega,h.lo,h.la⟩
theorem Qc {a:ue} (h:J4 a) (hl:Bu M a) (hb:∀j∈tU a,xi j.2.1) (hp:AQ a=true):xN a:=by
 unfold AQ at hp;simp only[aT,Bool.not_eq_true',decide_eq_true_eq]at hp;obtain⟨h1,h2,h3,h4,h5,h6⟩:=hp;have key:∀k (hk:k<(tU a).length),tX (tU a)[k].1 1 (vO a)=true/\Ac (tU a)[k]=true/\(∀h0:0<k,(tU a)[k-1].1<(tU a)[k].1):=by
  intro k hk;have:=any_eq_false.1 h1 k (mem_range.2 hk)
  unfold Dp at this;simp only[List.getElem?_eq_getElem hk,Bool.or_eq_true,Bool.not_eq_true',Bool.and_eq_false_iff,not_or]at this;obtain⟨t1,t2⟩:=this;have e1:tX (tU a)[k].1 1 (vO a)=true:=by
   cases e:tX (tU a)[k].1 1 (vO a)with
   | true=>rfl
   | false=>exact absurd e t1.1
  have e2:Ac (tU a)[k]=true:=by
   cases e:Ac (tU a)[k]with
   | true=>rfl
   | false=>exact absurd e t1.2
  refine⟨e1,e2,λh0=>?_⟩;rw[dT h0]at t2;simp only[List.getElem?_eq_getElem (show k-1<(tU a).length by omega),Bool.true_and,decide_eq_true_eq]at t2;omega
 refine⟨HV h.b h2,by have:((aW a).length:Int)<=20:=h3;omega,by omega,h5,h6,λj hj=>?_,?_,λj hj=>?_⟩
 · obtain⟨k,hk,rfl⟩:=getElem_of_mem hj;exact (key k hk).1
 · exact Es (λa b c h k=>by omega) λk hk=>by
    have:=(key (k+1) hk).2.2 (by omega);simpa using this
 · have hjw:=h.j j hj;have hjl:=hl.2.2.2 j hj
   have hjb:=hb j hj;obtain⟨k,hk,rfl⟩:=getElem_of_mem hj;have hp:=(key k hk).2.1
   unfold Ac at hp;simp only[aT,Bool.or_eq_true]at hp;obtain⟨p1,p2,p3,p4⟩:=hp;exact⟨hjb,hjl.1,p1,p2,p3,p4.imp (λe=>e) λ⟨q1,q2,q3⟩=>⟨q1,q2,HV hjw.b q3⟩,hjw.p,hjw.b,hjl.2.2⟩
noncomputable def xL (b:tQ) (j:ut):Nat:=if (jP j).1=163/\b.2.2.2.2.2.2.2.2.2.2≠(jB j).2.2.2.2.2.2.2.2.2.2/\uA j<3 then (jP j).2.2.2.2.length+3 else 1
noncomputable def Bc (w:List UInt8) (m:List Int):Bool:=(v7 w m).2==0&&((v7 w m).1.1 != 162)
noncomputable def xW (w:List UInt8) (j:ut):Bool:=Bc w j.2.1||decide (j.2.2.1>0)
noncomputable def xc (w:List UInt8) (b:tQ) (j:ut):Nat :=
 if j.2.2.1=2 then xL b j else if j.2.2.1=1 then (jP j).2.2.2.2.length-(xz j).toNat+1+xL b j
 else if Bc w j.2.1=true then (v7 w j.2.1).1.2.2.2.2.length+3 else 1
theorem Fq {b:tQ} (h:vn b) {p:uq} (hp:vM p=true) (hk:(p.1 != 162)=true):Cr b p=true/\(vL b p).2.1=(xV b p).2/\(vL b p).1=(xV b p).1/\(xV b p).2.1=162/\(xV b p).2.2.1=p.2.1:=by
 have e:Cr b p=true:=by unfold Cr;rw[h.ok,hp,hk];rfl
 have e1:(zi b p).2.1=162/\(zi b p).2.2.1=p.2.1:=by
  unfold zi;cases (p.1==160)<;>cases (p.1==161)<;>cases (p.1==165)<;>exact⟨rfl,rfl⟩
 have e2:(AO b p).2.1=162/\(AO b p).2.2.1=p.2.1:=by
  unfold AO;split<;>exact⟨rfl,rfl⟩
 refine⟨e,?_,?_,?_⟩
 · unfold vL;rw[e,cT]
 · unfold vL;rw[e,cT]
 · unfold xV;cases vu (zi b p).2 with
   | true=>exact e1
   | false=>exact e2
theorem NZ (p:uq):(z8 p).1=162/\(z8 p).2.1=p.2.1:=by
 unfold z8;cases vu (162,p.2.1,6,1,p.2.2.2.2)<;>exact⟨rfl,rfl⟩
theorem Kc {j:ut} (h:Cu j):j.2.2.1=0\/j.2.2.1=1\/j.2.2.1=2:=by
 obtain⟨h1,h2⟩:=wi h.ph;omega
theorem Pz {w:List UInt8} {b:tQ} {j:ut} (h:j.2.2.1=1):xc w b j=(jP j).2.2.2.2.length-(xz j).toNat+1+xL b j:=by unfold xc;rw[if_neg (by omega),if_pos h]
theorem SM {w:List UInt8} {b:tQ} {j:ut} (h:j.2.2.1=2):xc w b j=xL b j:=by unfold xc;rw[if_pos h]
def Rx (w:List UInt8) (b b':tQ) (j:ut):Rv->Prop
 | .stay j'=>b'=b/\Cu j'/\j'.1=j.1/\xc w b j'+1=xc w b j/\xW w j'=xW w j
 | .gone d=>vn b'/\xc w b j=1/\(xW w j=false->d=[])/\(xW w j=true->∃p,d=[(j.1,p)]/\p.1=162)
theorem Qd (w:List UInt8) {b:tQ} (hb:vn b) {j:ut} (h:Cu j):Rx w b (xK w b j).1 j (xK w b j).2:=by
 obtain⟨m1,_,m3,m4⟩:=OU w h.byt h.len;obtain⟨t1,t2⟩:=wi h.tr;obtain⟨a1,a2⟩:=wi h.at';rcases Kc h with hp|hp|hp
 ·
   have hne2:¬j.2.2.1=2:=by omega
   have hne1:¬j.2.2.1=1:=by omega
   unfold xK;rw[show (j.2.2.1==0)=true by rw[hp];rfl,cT];have hgood:∀q,Bc w j.2.1=q->xW w j=q:=by
    intro q hq;unfold xW;rw[hq,dF (by omega),Bool.or_false]
   have hneed:Bc w j.2.1=false->xc w b j=1:=by
    intro hq;unfold xc;rw[if_neg hne2,if_neg hne1,if_neg (by rw[hq];simp)]
   cases h3:((v7 w j.2.1).2==3)with
   | true =>
    have hg:Bc w j.2.1=false:=by
     unfold Bc;simp only[beq_iff_eq]at h3;rw[h3];rfl
    exact⟨OV hb,hneed hg,λ_=>rfl,λha=>by rw[hgood _ hg]at ha;cases ha⟩
   | false =>
    cases h4:((v7 w j.2.1).2 != 0||((v7 w j.2.1).1.1==162))with
    | true =>
     have hg:Bc w j.2.1=false:=by
      unfold Bc;rw[bne]at h4 ⊢;cases e1:((v7 w j.2.1).2==0)<;>cases e2:((v7 w j.2.1).1.1==162)<;>simp[e1,e2]at h4 ⊢
     exact⟨NY hb,hneed hg,λ_=>rfl,λha=>by rw[hgood _ hg]at ha;cases ha⟩
    | false =>
     simp only[Bool.or_eq_false_iff]at h4;have h0:(v7 w j.2.1).2=0:=by simpa using h4.1
     have hk:((v7 w j.2.1).1.1 != 162)=true:=by rw[bne,h4.2];rfl
     have hg:Bc w j.2.1=true:=by unfold Bc;rw[h0,hk];rfl
     refine⟨rfl,⟨h.byt,h.len,rfl,?_,h.tr,.inr ⟨m4 h0,hk,hb⟩,m3,hb.w,hb.le⟩,rfl,?_,?_⟩
     · unfold tX;rw[dT (by show (0:Int)<=0;omega),dT (by show (0:Int)<=_;omega)];rfl
     · have e1:xc w b j=(v7 w j.2.1).1.2.2.2.2.length+3:=by unfold xc;rw[if_neg hne2,if_neg hne1,if_pos hg]
       rw[e1];show xc w b (xJ j.1 j.2.1 1 (v7 w j.2.1).1 b 0 (uA j))+1=_
       rw[Pz rfl];have e2:xL b (xJ j.1 j.2.1 1 (v7 w j.2.1).1 b 0 (uA j))=1:=by
        unfold xL;rw[if_neg (λhh=>hh.2.1 rfl)]
       rw[e2];show (v7 w j.2.1).1.2.2.2.2.length-(0:Int).toNat+1+1+1=_
       simp
     · rw[hgood _ hg];unfold xW;rw[show decide ((xJ j.1 j.2.1 1 (v7 w j.2.1).1 b 0 (uA j)).2.2.1>0)=true from rfl,Bool.or_true]
 ·
   have hok:=h.ok.resolve_left (by rw[hp];simp);unfold xK;rw[show (j.2.2.1==0)=false by rw[hp];rfl,show (j.2.2.1==2)=false by rw[hp];rfl,cF,cF];have hn:xc w b j=(jP j).2.2.2.2.length-(xz j).toNat+1+xL b j:=by unfold xc;rw[if_neg (by omega),if_pos hp]
   have ha:xW w j=true:=by unfold xW;rw[dT (show j.2.2.1>0 by omega),Bool.or_true]
   by_cases hlt:xz j<((jP j).2.2.2.2.length:Int)
   · have hw1:tR (xz j+1)=xz j+1:=uS (by omega) (by
      have:=h.pl.1;have:(jP j).2.2.2.2.length<=1048576:=this
      omega)
     rw[dT hlt,cT,hw1];refine⟨rfl,⟨h.byt,h.len,h.ph,?_,h.tr,.inr hok,h.pl,h.bw,h.bl⟩,rfl,?_,?_⟩
     · show tX (xz j+1) 0 ((jP j).2.2.2.2.length:Int)=true;unfold tX;rw[dT (by omega),dT (by omega)];rfl
     · rw[hn];show xc w b (xJ j.1 j.2.1 j.2.2.1 (jP j) (jB j) (xz j+1) (uA j))+1=_
       unfold xc;rw[show (xJ j.1 j.2.1 j.2.2.1 (jP j) (jB j) (xz j+1) (uA j)).2.2.1=1 from hp,if_neg (by omega),if_pos rfl];have e2:xL b (xJ j.1 j.2.1 j.2.2.1 (jP j) (jB j) (xz j+1) (uA j))=xL b j:=rfl
       rw[e2];show (jP j).2.2.2.2.length-(xz j+1).toNat+1+xL b j+1=_
       omega
     · rw[ha];unfold xW;rw[show decide ((xJ j.1 j.2.1 j.2.2.1 (jP j) (jB j) (xz j+1) (uA j)).2.2.1>0)=true from dT (by show j.2.2.1>0;omega),Bool.or_true]
   · rw[dF hlt,cF];refine⟨rfl,⟨h.byt,h.len,rfl,h.at',h.tr,.inr hok,h.pl,h.bw,h.bl⟩,rfl,?_,?_⟩
     · rw[hn];show xc w b (xJ j.1 j.2.1 2 (jP j) (jB j) (xz j) (uA j))+1=_
       rw[SM rfl];have e2:xL b (xJ j.1 j.2.1 2 (jP j) (jB j) (xz j) (uA j))=xL b j:=rfl
       rw[e2];omega
     · rw[ha];unfold xW;rw[show decide ((xJ j.1 j.2.1 2 (jP j) (jB j) (xz j) (uA j)).2.2.1>0)=true from rfl,Bool.or_true]
 ·
   obtain⟨hpp,hk,hB⟩:=h.ok.resolve_left (by rw[hp];simp);unfold xK;rw[show (j.2.2.1==0)=false by rw[hp];rfl,show (j.2.2.1==2)=true by rw[hp];rfl,cF,cT];have hn:xc w b j=xL b j:=by unfold xc;rw[if_pos hp]
   have ha:xW w j=true:=by unfold xW;rw[dT (show j.2.2.1>0 by omega),Bool.or_true]
   cases h163:(j.2.2.2.1 != 163)with
   | true =>
    obtain⟨_,d2,_,d4,_⟩:=Fq hB hpp hk;refine⟨hb,?_,(λhf=>by rw[ha]at hf;cases hf),λ_=>⟨_,rfl,by rw[d2];exact d4⟩⟩;rw[hn];unfold xL;rw[if_neg (λhh=>by have e:j.2.2.2.1=163:=hh.1;rw[e]at h163;cases h163)]
   | false =>
    have e163:(jP j).1=163:=by
     have:¬j.2.2.2.1≠163:=by simpa using h163
     exact Classical.not_not.1 this
    cases hv:(b.2.2.2.2.2.2.2.2.2.2==(jB j).2.2.2.2.2.2.2.2.2.2)with
    | true =>
     obtain⟨_,d2,_,d4,_⟩:=Fq hb hpp hk;refine⟨HO hb _,?_,(λhf=>by rw[ha]at hf;cases hf),λ_=>⟨_,rfl,by rw[d2];exact d4⟩⟩;rw[hn];unfold xL;rw[if_neg (λhh=>hh.2.1 (by simpa using hv))]
    | false =>
     by_cases ht:uA j>=3
     · rw[dT ht];refine⟨hb,?_,(λhf=>by rw[ha]at hf;cases hf),λ_=>⟨_,rfl,(NZ _).1⟩⟩;rw[hn];unfold xL;rw[if_neg (λhh=>by have:=hh.2.2;omega)]
     · rw[dF ht,uS (by omega) (by omega)];refine⟨rfl,⟨h.byt,h.len,rfl,?_,?_,.inr ⟨hpp,hk,hb⟩,h.pl,hb.w,hb.le⟩,rfl,?_,?_⟩
       · show tX 0 0 ((jP j).2.2.2.2.length:Int)=true;unfold tX;rw[dT (by omega),dT (by omega)];rfl
       · show tX (uA j+1) 0 3=true;unfold tX;rw[dT (by omega),dT (by omega)];rfl
       · rw[hn];have e1:xL b j=(jP j).2.2.2.2.length+3:=by
          unfold xL;rw[if_pos ⟨e163,by simpa using hv,by omega⟩]
         rw[e1];show xc w b (xJ j.1 j.2.1 1 (jP j) b 0 (uA j+1))+1=_
         rw[Pz rfl];have e2:xL b (xJ j.1 j.2.1 1 (jP j) b 0 (uA j+1))=1:=by
          unfold xL;rw[if_neg (λhh=>hh.2.1 rfl)]
         rw[e2];show (jP j).2.2.2.2.length-(0:Int).toNat+1+1+1=_
         simp
       · rw[ha];unfold xW;rw[show decide ((xJ j.1 j.2.1 1 (jP j) b 0 (uA j+1)).2.2.1>0)=true from rfl,Bool.or_true]

theorem ME {a:ue} (h:xN a) {k:Nat} (hk:k<(tU a).length) :
 (∃j',uN a k (tU a)[k]=(vX (aB a) (aW a) ((tU a).set k j') (za a) (vO a),[])/\Cu j'/\j'.1=(tU a)[k].1/\xc (aW a) (aB a) j'+1=xc (aW a) (aB a) (tU a)[k]/\xW (aW a) j'=xW (aW a) (tU a)[k]) \/
 (∃b' d,uN a k (tU a)[k]=(vX b' (aW a) ((tU a).eraseIdx k) (za a) (vO a),d)/\vn b'/\xc (aW a) (aB a) (tU a)[k]=1/\(xW (aW a) (tU a)[k]=false->d=[])/\(xW (aW a) (tU a)[k]=true->∃p,d=[((tU a)[k].1,p)]/\p.1=162)):=by
 have hs:=Qd (aW a) h.b (h.j _ (getElem_mem hk));unfold uN;cases hf:(xK (aW a) (aB a) (tU a)[k]).2 with
 | stay j' =>
  rw[hf]at hs;obtain⟨k1,k2,k3,k4,k5⟩:=hs;exact .inl ⟨j',by simp only[k1],k2,k3,k4,k5⟩
 | gone d =>
  rw[hf]at hs;obtain⟨k1,k2,k3,k4⟩:=hs;exact .inr ⟨_,d,rfl,k1,k2,k3,k4⟩
theorem Qe {a:ue} (h:xN a) {k:Nat} (hk:k<(tU a).length) {j':ut} (hj:Cu j') (hi:j'.1=(tU a)[k].1):xN (vX (aB a) (aW a) ((tU a).set k j') (za a) (vO a)):=by
 have hm:∀x∈(tU a).set k j',x∈tU a\/x=j':=λx hx=>List.mem_or_eq_of_mem_set hx;have hmap:((tU a).set k j').map (λj=>j.1)=(tU a).map (λj=>j.1):=by
  rw[List.map_set,hi];apply List.ext_getElem
  · simp
  · intro i h1 h2;rw[List.getElem_set];split
    · rename_i e;subst e;simp
    · rfl
 refine⟨h.b,h.w,?_,h.lo,h.la,λj hj'=>?_,?_,λj hj'=>?_⟩
 · show ((tU a).set k j').length<=6;rw[length_set];exact h.n
 · rcases hm j hj' with hj'|rfl
   · exact h.ids j hj'
   · show tX j.1 1 (vO a)=true;rw[hi];exact h.ids _ (getElem_mem hk)
 · have:=h.up;show ((tU a).set k j').Pairwise λi j=>i.1<j.1
   rw[←List.pairwise_map (f:=λj:ut=>j.1) (R:=λx y=>x<y)]at this ⊢;rw[hmap];exact this
 · rcases hm j hj' with hj'|rfl
   · exact h.j j hj'
   · exact hj
theorem OY {a:ue} (h:xN a) (k:Nat) {b':tQ} (hb:vn b'):xN (vX b' (aW a) ((tU a).eraseIdx k) (za a) (vO a)):=by
 have hs:((tU a).eraseIdx k).Sublist (tU a):=List.eraseIdx_sublist _ _;refine⟨hb,h.w,Nat.le_trans hs.length_le h.n,h.lo,h.la,λj hj=>h.ids j (hs.subset hj),h.up.sublist hs,λj hj=>h.j j (hs.subset hj)⟩
theorem GS {a:ue} (h:xN a) {k:Nat} (hk:k<(tU a).length):xN (uN a k (tU a)[k]).1/\(uN a k (tU a)[k]).2.length<=1:=by
 rcases ME h hk with ⟨j',e,k1,k2,_⟩|⟨b',d,e,k1,_,k3,k4⟩
 · rw[e];exact⟨Qe h hk k1 k2,by simp⟩
 · rw[e];refine⟨OY h k k1,?_⟩;cases ha:xW (aW a) (tU a)[k]with
   | false=>rw[k3 ha];simp
   | true=>obtain⟨p,rfl,_⟩:=k4 ha;simp
theorem SN {a:ue} (h:xN a) {k:Nat} (hk:k<(tU a).length):dl a (k:Int)=some (uN a k (tU a)[k]) :=
 SL h.b.w h.ale hk (h.j _ (getElem_mem hk)).jwf (h.j _ (getElem_mem hk)).byt
noncomputable def w7:Nat->ue->ue×List uY
 | 0,a=>(a,[])
 | n+1,a=>match tU a with
  | []=>(a,[])
  | j::_=>((w7 n (uN a 0 j).1).1,(uN a 0 j).2++(w7 n (uN a 0 j).1).2)
abbrev Ry:=Int×Int×List UInt8×Int×Int×Int×Int×Int×List UInt8×Int×Int×List uY×List Pt×List u0×List ub×List Int×List ut
abbrev U8:=Int×List UInt8×Int×Int×Int×Int×Int×List UInt8×Int×Int×List uY×List Pt×List u0×List ub×List Int×List ut
def Dn (i:Int) (a:ue) (all:List uY):Ry:=(i,a.1,a.2.1,a.2.2.2.2.2.2.1,a.2.2.2.2.2.2.2.1,a.2.2.2.2.2.2.2.2.1,a.2.2.2.2.2.2.2.2.2.1,a.2.2.2.2.2.2.2.2.2.2.1,a.2.2.2.2.2.2.2.2.2.2.2.1,a.2.2.2.2.2.2.2.2.2.2.2.2.2.1,a.2.2.2.2.2.2.2.2.2.2.2.2.2.2,all,a.2.2.1,a.2.2.2.1,a.2.2.2.2.1,a.2.2.2.2.2.1,a.2.2.2.2.2.2.2.2.2.2.2.2.1)
def Rz (a:ue) (all:List uY):U8:=(a.1,a.2.1,a.2.2.2.2.2.2.1,a.2.2.2.2.2.2.2.1,a.2.2.2.2.2.2.2.2.1,a.2.2.2.2.2.2.2.2.2.1,a.2.2.2.2.2.2.2.2.2.2.1,a.2.2.2.2.2.2.2.2.2.2.2.1,a.2.2.2.2.2.2.2.2.2.2.2.2.2.1,a.2.2.2.2.2.2.2.2.2.2.2.2.2.2,all,a.2.2.1,a.2.2.2.1,a.2.2.2.2.1,a.2.2.2.2.2.1,a.2.2.2.2.2.2.2.2.2.2.2.2.1)
theorem Kd {n:Nat} (hn:n<=500):∀(m i:Nat) (a:ue) (all:List uY),xN a->i+m=n->all.length+m<=1000->loop (λz:Ry=>eM (n:Int) z.1 z.2.1 z.2.2.1 z.2.2.2.1 z.2.2.2.2.1 z.2.2.2.2.2.1 z.2.2.2.2.2.2.1 z.2.2.2.2.2.2.2.1 z.2.2.2.2.2.2.2.2.1 z.2.2.2.2.2.2.2.2.2.1 z.2.2.2.2.2.2.2.2.2.2.1 z.2.2.2.2.2.2.2.2.2.2.2.1 z.2.2.2.2.2.2.2.2.2.2.2.2.1 z.2.2.2.2.2.2.2.2.2.2.2.2.2.1 z.2.2.2.2.2.2.2.2.2.2.2.2.2.2.1 z.2.2.2.2.2.2.2.2.2.2.2.2.2.2.2.1 z.2.2.2.2.2.2.2.2.2.2.2.2.2.2.2.2) (Dn (i:Int) a all)=some (Rz (w7 m a).1 (all++(w7 m a).2))
 | 0,i,a,all,h,hi,hl=>by
  refine un ?_;dsimp only[Dn];unfold eM;rw[uj (by omega),cF,tP,cF];simp only[w7,append_nil];rfl
 | m+1,i,a,all,h,hi,hl=>by
  by_cases hj:0<(tU a).length
  · obtain⟨j,r,hjr⟩:∃j r,tU a=j::r:=by
     cases he:tU a with
     | nil=>rw[he]at hj;simp at hj
     | cons j r=>exact⟨j,r,rfl⟩
    obtain⟨w1,w2⟩:=GS h hj;have e0:(tU a)[0]=j:=by simp[hjr]
    rw[e0]at w1 w2;have hwk:=SN h hj
    rw[e0]at hwk;have er:w7 (m+1) a=((w7 m (uN a 0 j).1).1,(uN a 0 j).2++(w7 m (uN a 0 j).1).2):=by
     show (match tU a with | []=>(a,[])|j::_=>((w7 m (uN a 0 j).1).1,(uN a 0 j).2++(w7 m (uN a 0 j).1).2))=_;rw[hjr]
    rw[er];refine uh (y:=Dn ((i+1:Nat):Int) (uN a 0 j).1 (all++(uN a 0 j).2)) ?_ ?_
    · dsimp only[Dn];unfold eM;have hjl:decide (((a.2.2.2.2.2.2.2.2.2.2.2.2.1.length:Nat):Int)>0)=true:=dT (by show ((tU a).length:Int)>0;omega)
      rw[ux (by omega),cT,hjl,tP,cT];have hwk':dl (a.1,a.2.1,a.2.2.1,a.2.2.2.1,a.2.2.2.2.1,a.2.2.2.2.2.1,a.2.2.2.2.2.2.1,a.2.2.2.2.2.2.2.1,a.2.2.2.2.2.2.2.2.1,a.2.2.2.2.2.2.2.2.2.1,a.2.2.2.2.2.2.2.2.2.2.1,a.2.2.2.2.2.2.2.2.2.2.2.1,a.2.2.2.2.2.2.2.2.2.2.2.2.1,a.2.2.2.2.2.2.2.2.2.2.2.2.2.1,a.2.2.2.2.2.2.2.2.2.2.2.2.2.2) 0=some (uN a 0 j):=hwk
      rw[hwk',tP,u7 (by omega),tP,ua (by omega)]
    · have:=Kd hn m (i+1) (uN a 0 j).1 (all++(uN a 0 j).2) w1 (by omega) (by rw[length_append];omega);rw[this,append_assoc]
  · have hj0:tU a=[]:=length_eq_zero_iff.1 (by omega);have er:w7 (m+1) a=(a,[]):=by
     show (match tU a with | []=>(a,[])|j::_=>((w7 m (uN a 0 j).1).1,(uN a 0 j).2++(w7 m (uN a 0 j).1).2))=_;rw[hj0]
    rw[er];refine un ?_;dsimp only[Dn];unfold eM;have hjl:decide (((a.2.2.2.2.2.2.2.2.2.2.2.2.1.length:Nat):Int)>0)=false:=dF (by show ¬((tU a).length:Int)>0;omega)
    rw[ux (by omega),cT,hjl,tP,cF,append_nil];rfl
theorem OZ {a:ue} (h:xN a) {n:Nat} (hn:n<=500):bz a (n:Int)=some (w7 n a):=by
 unfold bz;rw[Fy h.ale,tP,Kv h.awf,tP,h.ok,Bool.not_true,cF,xx,tP,Bv (by omega) (by omega),tP,Bool.not_true,cF];have:=Kd hn n 0 a [] h (by omega) (by simp;omega)
 refine (congrArg (λo=>Option.bind o _) this).trans ?_;rfl
def Ke (w:List UInt8):List Int:=uV 2 (vA 1)++uV 4 (yr w)
theorem LD {p:uq} (hx:∀x∈p.2.2.2.2,yT x=true) (hn:p.2.2.2.2.length<=10) (hi:tX p.2.1 (-2147483648) 2147483647=true)
 (hk:(cond (p.1==162||p.1==165) (tX p.2.2.1 0 1000&&tX p.2.2.2.1 0 1000) (cond (p.1==160||(p.1==161||p.1==163)) (p.2.2.1==0&&p.2.2.2.1==0) false))=true):vM p=true:=by
 unfold vM;have h1:(List.range p.2.2.2.2.length).any (bX p.2.2.2.2)=false:=by
  rw[any_eq_false];intro k hk';have hk':=mem_range.1 hk'
  unfold bX;simp only[List.getElem?_eq_getElem hk',hx _ (getElem_mem hk')];simp
 rw[h1,dT (by omega),hk,hi];rfl

theorem Qf {i:Int} (hi:-2147483648<=i/\i<=2147483647):vu (162,i,7,0,[])=true:=by
 have hp:vM (162,i,7,0,[])=true:=LD (by intro x hx;cases hx) (Nat.zero_le _) (Bv hi.1 hi.2) rfl;have t1:=wg 2 (body:=vA i)
 have t2:=wg 2 (body:=vA 7);have t3:=wg 2 (body:=vA 0)
 have t4:=wg 48 (body:=[]);have i1:=yg i
 have i2:=yg 7;have i3:=yg 0
 have hb:(xp (162,i,7,0,[])).length<=30:=by
  unfold xp;show (uV 2 (vA i)++uV 2 (vA 7)++uV 2 (vA 0)++uV 48 []).length<=30
  simp only[length_append];simp only[List.length_nil]at t4;omega
 have ht:=wg 162 (body:=xp (162,i,7,0,[]));have hpos:=GP 162 (xp (162,i,7,0,[]))
 unfold vu GQ;rw[if_pos ⟨hp,by show (0:Nat)<=250;omega,by omega⟩];exact Bv (by show (1:Int)<=((uV 162 (xp (162,i,7,0,[]))).length:Int);omega) (by show ((uV 162 (xp (162,i,7,0,[]))).length:Int)<=120;omega)
theorem O0 {b:tQ} {p:uq} (hp:vM p=true):vu (xV b p).2=true:=by
 have hi:=(xb hp).2.2.2.1;unfold xV;cases hf:vu (zi b p).2 with
 | true=>exact hf
 | false =>
  rw[cF];unfold AO;split
  · rename_i t ht;cases h5:(p.1==165)with
    | false=>rw[h5]at ht;cases ht
    | true =>
     rw[h5]at ht;exact (Kb ht).1
  · exact Qf hi
structure MF (p:uq):Prop where
 k:p.1=160\/p.1=161\/p.1=163\/p.1=165
 i:0<=p.2.1/\p.2.1<100
 ab:(p.1=165/\(0<=p.2.2.1/\p.2.2.1<=1000)/\(0<=p.2.2.2.1/\p.2.2.2.1<=1000))\/(p.1≠165/\p.2.2.1=0/\p.2.2.2.1=0)
 n:p.2.2.2.2.length<=3
 s:∀x∈p.2.2.2.2,Su x
 o:p.1≠163->∀x∈p.2.2.2.2,yT x=true
theorem MF.le {p:uq} (h:MF p):wo M p:=⟨by have:=h.n;show _<=1048576;omega,λx hx=>(h.s x hx).le⟩
theorem MF.ok {p:uq} (h:MF p) (hk:p.1≠163):vM p=true:=by
 have hi:=h.i;refine LD (h.o hk) (by have:=h.n;omega) (Bv (by omega) (by omega)) ?_;rcases h.ab with ⟨e,⟨a1,a2⟩,b1,b2⟩|⟨e,a1,b1⟩
 · rw[e,Bv a1 a2,Bv b1 b2];rfl
 · rw[a1,b1];rcases h.k with k|k|k|k
   · rw[k];rfl
   · rw[k];rfl
   · exact absurd k hk
   · exact absurd k e
theorem zc {α β:Type} {o:Option α} {a:α} {k:α->Option β} {r:Option β} (h:o=some a) (hk:k a=r):o.bind k=r:=by rw[h];exact hk
theorem Am {b:List Int} (t:Int) {body:List Int} (hb:b.length<=1200) (hn:body.length<=M):au b t body=some (b++if tX t 0 255=true/\body.length<=250 then uV t body else []):=by
 have hM:M=1048576:=rfl;unfold au;rw[xo (by omega),tP,AP,tP];cases hp:tX t 0 255 with
 | false=>rw[Bool.not_false,cT,tP,cT,if_neg (λh=>by cases h.1),append_nil]
 | true =>
  rw[Bool.not_true,cF,tP];by_cases h250:body.length<=250
  · have hw:IntKind.u8.wrap t=t:=by obtain⟨a,c⟩:=wi hp;rw[w8];omega
    have hl:IntKind.u8.wrap ((body.length:Int))=(body.length:Int):=by rw[w8];omega
    rw[dF (by omega),cF,hw,hl,if_pos ⟨rfl,h250⟩,u7 (by show b.length+1<=_;omega),tP];by_cases h127:(body.length:Int)>127
    · rw[dT h127,cT,u7 (by rw[length_append];show b.length+1+1<=_;omega),tP,u7 (by simp only[length_append,length_singleton];omega),tP,u7 (by simp only[length_append,length_singleton];omega),tP];unfold uV;rw[if_pos (by omega)];simp
    · rw[dF h127,cF,u7 (by simp only[length_append,length_singleton];omega),tP,u7 (by simp only[length_append,length_singleton];omega),tP];unfold uV;rw[if_neg (by omega)];simp
  · rw[dT (by omega),cT,if_neg (λh=>h250 h.2),append_nil]
theorem LE {o:List Int} (h:xd o=true):dQ o=some (uB o):=by
 obtain⟨o1,o2,o3⟩:=zP h;have hM:M=1048576:=rfl
 unfold dQ;rw[Kt,Eu (by omega),tP,h,Bool.not_true,cF];obtain⟨v,e1,rfl⟩:=uz (step:=λz:Int×List Int=>bS o z.1 z.2) (λk z=>z=((k:Int),uB (o.take k))) o.length (λv=>v=uB o)
  (λk z hk e=>by
   subst e;have hx:=o3 _ (getElem_mem hk)
   have hl:(uB (o.take k)).length<=3*(o.take k).length:=A9 λx hx=>(o3 x (mem_of_mem_take hx)).2;rw[length_take]at hl;have hg:=Ij o[k]
   refine .inl ⟨_,?_,rfl⟩;show bS o (k:Int) _=_
   unfold bS;rw[ux (by omega),cT,ug hk,tP,OP ⟨hx.1,by omega⟩,tP,u7 (by show (uB (o.take k)).length+(grp o[k]).length<=_;omega),tP,ua (by omega),take_add_one,List.getElem?_eq_getElem hk];unfold uB;rw[flatMap_append];simp)
  (λz e=>by
   subst e;refine⟨_,?_,rfl⟩;show bS o (o.length:Int) _=_
   unfold bS;rw[uj (by omega),cF,take_length]) (x:=(0,[])) rfl
 have e1:loop (λz=>bS o z.1 z.2) (0,([]:List Int))=some (uB o):=e1;rw[e1];rfl
theorem Qg {b:List Int} (hb:b.length<=1000) {v:wN} (h:xY v=true):fv b v=some (b++uV v.1 (wy v)):=by
 have hM:M=1048576:=rfl;obtain⟨l1,l2⟩:=Em h;have hk:tX v.1 0 255=true:=by
  unfold xY at h;by_cases c1:(v.1==5||(v.1==128||v.1==130))=true
  · simp only[Bool.or_eq_true,beq_iff_eq]at c1;rcases c1 with c|c|c<;>rw[c]<;>rfl
  · rw[show (v.1==5||(v.1==128||v.1==130))=false by simpa using c1,cF]at h;by_cases c2:v.1=2
    · rw[c2];rfl
    · rw[beq_eq_false_iff_ne.2 c2,cF]at h;by_cases c4:v.1=4
      · rw[c4];rfl
      · rw[beq_eq_false_iff_ne.2 c4,cF]at h;by_cases c6:v.1=6
        · rw[c6];rfl
        · rw[beq_eq_false_iff_ne.2 c6,cF]at h;cases h
 have fin:∀body,wy v=body->au b v.1 body=some (b++uV v.1 (wy v)):=λbody e=>by
  subst e;rw[Am _ (by omega) (by omega),if_pos ⟨hk,by omega⟩]
 have ho6:v.2.2.2.length<=M:=by
  unfold xY at h;by_cases c6:v.1=6
  · rw[c6]at h;simp only[show ((6:Int)==5)=false from rfl,show ((6:Int)==128)=false from rfl,show ((6:Int)==130)=false from rfl,Bool.or_self,cF,show ((6:Int)==2)=false from rfl,show ((6:Int)==4)=false from rfl,show ((6:Int)==6)=true from rfl,cT,aT]at h;have:=Il h.1
    omega
  · have:v.2.2.2.length=0:=by
     revert h
     cases (v.1==5||(v.1==128||v.1==130))with
     | true=>intro h;simp only[cT,aT,beq_iff_eq]at h;omega
     | false =>
      rw[cF];cases (v.1==2)with
      | true=>intro h;simp only[cT,aT,beq_iff_eq]at h;omega
      | false =>
       rw[cF];cases (v.1==4)with
       | true=>intro h;simp only[cT,aT,beq_iff_eq]at h;omega
       | false=>intro h;rw[cF,beq_eq_false_iff_ne.2 c6]at h;cases h
    omega
 unfold fv;rw[Iq ho6,tP,h,Bool.not_true,cF];by_cases h2:v.1=2
 · have e:wy v=vA v.2.1:=by unfold wy;rw[beq_iff_eq.2 h2];rfl
   have hr:-2147483648<=v.2.1/\v.2.1<=2147483647:=by
    unfold xY at h;rw[h2]at h;simp only[show ((2:Int)==5)=false from rfl,show ((2:Int)==128)=false from rfl,show ((2:Int)==130)=false from rfl,Bool.or_self,cF,show ((2:Int)==2)=true from rfl,cT,aT]at h;exact wi h.1
   rw[beq_iff_eq.2 h2,cT,DW,tP,B1 hr,fin _ e];rfl
 rw[beq_eq_false_iff_ne.2 h2,cF];by_cases h4:v.1=4
 · have e:wy v=yr v.2.2.1:=by unfold wy;rw[beq_eq_false_iff_ne.2 h2,beq_iff_eq.2 h4];rfl
   rw[beq_iff_eq.2 h4,cT,fin _ e];rfl
 rw[beq_eq_false_iff_ne.2 h4,cF];by_cases h6:v.1=6
 · have e:wy v=uB v.2.2.2:=by unfold wy;rw[beq_eq_false_iff_ne.2 h2,beq_eq_false_iff_ne.2 h4,beq_iff_eq.2 h6];rfl
   have ho:xd v.2.2.2=true:=by
    unfold xY at h;rw[h6]at h;simp only[show ((6:Int)==5)=false from rfl,show ((6:Int)==128)=false from rfl,show ((6:Int)==130)=false from rfl,Bool.or_self,cF,show ((6:Int)==2)=false from rfl,show ((6:Int)==4)=false from rfl,show ((6:Int)==6)=true from rfl,cT,aT]at h;exact h.1
   rw[beq_iff_eq.2 h6,cT,LE ho,tP,fin _ e];rfl
 · have e:wy v=[]:=by unfold wy;rw[beq_eq_false_iff_ne.2 h2,beq_eq_false_iff_ne.2 h4,beq_eq_false_iff_ne.2 h6];rfl
   rw[beq_eq_false_iff_ne.2 h6,cF,fin _ e];rfl
theorem RA {l:List tS} (hx:∀x∈l,yT x=true) (hn:l.length<=10):fw l=some (uU l):=by
 have hM:M=1048576:=rfl;have hlen:∀k,(uU (l.take k)).length<=110*k:=λk=>by
  induction k with
  | zero=>simp[uU]
  | succ k ih =>
   rw[take_add_one];unfold uU at ih ⊢;rw[flatMap_append,length_append];cases hk:l[k]? with
   | none=>show (List.flatMap zQ (l.take k)).length+0<=_;omega
   | some x =>
    have:=(D4 (hx x (List.mem_of_getElem? hk))).2;show (List.flatMap zQ (l.take k)).length+(zQ x++[]).length<=_
    rw[append_nil];omega
 unfold fw;obtain⟨v,e1,rfl⟩:=uz (step:=λz:Int×List Int=>bT l z.1 z.2) (λk z=>z=((k:Int),uU (l.take k))) l.length (λv=>v=uU l)
  (λk z hk e=>by
   subst e;have hxk:=hx _ (getElem_mem hk)
   have hl:=hlen k;obtain⟨b1,b2⟩:=D4 hxk;have hxk':=hxk
   unfold yT at hxk';rw[aT]at hxk';obtain⟨o1,o2,o3⟩:=zP hxk'.1;have ho:=A9 (o:=l[k].1) λy hy=>(o3 y hy).2
   have ht:=wg 6 (body:=uB l[k].1);refine .inl ⟨_,?_,rfl⟩;show bT l (k:Int) _=_
   unfold bT;rw[ux (by omega),cT,ug hk,tP,LE hxk'.1,tP,Am _ (by simp) (by omega),if_pos ⟨by decide,by omega⟩,tP,tP,nil_append,Qg (by omega) hxk'.2,tP,Am _ (by show (uU (l.take k)).length<=1200;omega) (by show (Co l[k]).length<=_;omega),if_pos ⟨by decide,by show (Co l[k]).length<=250;omega⟩,tP,ua (by omega),take_add_one,List.getElem?_eq_getElem hk];unfold uU;rw[flatMap_append];simp[zQ,Co])
  (λz e=>by
   subst e;refine⟨_,?_,rfl⟩;show bT l (l.length:Int) _=_
   unfold bT;rw[uj (by omega),cF,take_length]) (x:=(0,[])) rfl
 have e1:loop (λz=>bT l z.1 z.2) (0,([]:List Int))=some (uU l):=e1;rw[e1];rfl
theorem Qh {p:uq} (hp:wo M p):fx p=some (GQ p):=by
 have hM:M=1048576:=rfl;unfold fx GQ;rw[MU hp,tP];cases hk:vM p with
 | false=>rw[Bool.not_false,cT,if_neg (λh=>by cases h.1)]
 | true =>
  obtain⟨k1,k2,k3,k4,k5,k6⟩:=xb hk;have i1:=yg p.2.1
  have i2:=yg p.2.2.1;have i3:=yg p.2.2.2.1
  have t1:=wg 2 (body:=vA p.2.1);have t2:=wg 2 (body:=vA p.2.2.1)
  have t3:=wg 2 (body:=vA p.2.2.2.1);rw[Bool.not_true,cF];unfold gX;rw[RA k1 k2,tP];by_cases ha:(uU p.2.2.2.2).length<=250
  · rw[dF (by omega),cF,DW,tP,B1 k4,Am _ (by simp) (by omega),if_pos ⟨by decide,by omega⟩,tP,DW,tP,B1 (by omega),Am _ (by simp only[nil_append];omega) (by omega),if_pos ⟨by decide,by omega⟩,tP,DW,tP,B1 (by omega),Am _ (by simp only[nil_append,length_append];omega) (by omega),if_pos ⟨by decide,by omega⟩,tP,Am _ (by simp only[nil_append,length_append];omega) (by omega),if_pos ⟨by decide,ha⟩,tP];have eb:([]++uV 2 (vA p.2.1)++uV 2 (vA p.2.2.1)++uV 2 (vA p.2.2.2.1)++uV 48 (uU p.2.2.2.2))=xp p:=by unfold xp;simp
    rw[eb];have t4:=wg 48 (body:=uU p.2.2.2.2)
    have hbl:(xp p).length<=400:=by unfold xp;simp only[length_append];omega
    by_cases hb:(xp p).length<=250
    · simp only[tP,dT (show ((xp p).length:Int)<=250 by omega),Bool.not_true,cF];rw[Am _ (by simp) (by omega),if_pos ⟨k3,hb⟩,if_pos ⟨trivial,ha,hb⟩,tP,nil_append]
    · simp only[tP,dF (show ¬((xp p).length:Int)<=250 by omega),Bool.not_false,cT];rw[if_neg (λh=>hb h.2.2)]
  · rw[dT (by omega),cT,tP,Bool.not_false,cT,if_neg (λh=>ha h.2.1)]
theorem PA {α β:Type} (l:List α) (i:Int) (f:α->Option β):((ix l.length i).bind λj=>(l[j]?).bind f)=(at? l i).bind f:=by
 unfold ix at?;by_cases h0:0<=i
 · rw[if_pos h0,if_pos h0];by_cases h1:i<(l.length:Int)
   · rw[if_pos h1,tP]
   · rw[if_neg h1,List.getElem?_eq_none (by omega)];rfl
 · rw[if_neg h0,if_neg h0];rfl
theorem RB:ig=eD:=rfl
theorem P0:bV=az:=rfl
theorem SO {b:tQ} (h:zl b) (o:List Int):fP b o=aK b o:=by
 unfold fP aK;rw[Kq h];cases bo b with
 | none=>rfl
 | some l =>
  have hs:(λz:Int×Int×Int×List UInt8×List Int×List Int=>ii o l z.1 z.2.1 z.2.2.1 z.2.2.2.1 z.2.2.2.2.1 z.2.2.2.2.2)=λz=>bJ o l z.1 z.2.1 z.2.2.1 z.2.2.2.1 z.2.2.2.2.1 z.2.2.2.2.2:=by
   funext z
   unfold ii bJ;simp only[PA,RB];cases at? l z.1<;>rfl
  rw[tP,tP,hs];unfold aI;simp only[Option.bind_assoc,tP]
theorem TK {b:tQ} (h:zl b) (o:List Int):fR b o=bI b o:=by
 unfold fR bI;rw[Kq h];cases bo b with
 | none=>rfl
 | some l =>
  have hs:(λz:Int×Int×Int×List UInt8×List Int=>ij o l z.1 z.2.1 z.2.2.1 z.2.2.2.1 z.2.2.2.2)=λz=>aY o l z.1 z.2.1 z.2.2.1 z.2.2.2.1 z.2.2.2.2:=by
   funext z
   unfold ij aY;simp only[PA,P0];cases at? l z.1<;>rfl
  rw[tP,tP,hs]
def En (b:tQ) (x:tS):Prop:=xd x.1=true/\(x.2.1=130->vB b x.1=x)
theorem O1 {b:tQ} (h:vn b) {o:List Int} (ho:xd o=true):En b (vB b o):=by
 refine⟨xf (DT h ho),λhk=>?_⟩;obtain⟨_,h1⟩:=FS h (o:=o) (by have:=yG ho;omega);rcases h1 with ⟨h1,_⟩|⟨h1,h2⟩
 · exfalso;have hv:∀v:wN,Vl v->v.1≠130:=λv hv=>by cases hv<;>simp
   exact hv _ (Cw h _ h1).2 hk
 · rw[h1];exact h1
theorem HP {b:tQ} {o:List Int} (ho:xd o=true):En b (o,5,0,[],[]):=⟨ho,λhk=>by have hk:(5:Int)=130:=hk;omega⟩
noncomputable def vk (b:tQ) (l:List tS):List tS:=l.map λx=>vB b x.1
theorem O2 {b:tQ} {x:tS} (h:En b x):(cond (x.2.1==130) x (vB b x.1))=vB b x.1:=by
 cases hk:x.2.1==130 with
 | true=>rw[cT];exact (h.2 (by simpa using hk)).symm
 | false=>rfl
noncomputable def yJ (b:tQ):Nat->List tS×List tS->List tS×List tS
 | 0,s=>s
 | n+1,s=>if 0<s.2.length/\s.1.length<10 then yJ b n (s.1++vk b s.2,vk b s.2)else s
theorem MG {b:tQ}:∀(n:Nat) {s:List tS×List tS},10<=s.1.length->yJ b n s=s
 | 0,s,_=>rfl
 | n+1,s,h=>if_neg (by omega)
theorem O3 {b:tQ}:∀(n:Nat) {s:List tS×List (List Int)},10<=s.1.length->B2 b n s=s
 | 0,s,_=>rfl
 | n+1,s,h=>if_neg (by omega)
theorem HQ {b:tQ}:∀(n:Nat) (out T:List tS),out.length<=10->(B2 b n (out,T.map λx=>x.1)).1=(yJ b n (out,T)).1.take 10
 | 0,out,T,h=>(take_of_length_le h).symm
 | n+1,out,T,h=>by
  by_cases hc:0<T.length/\out.length<10
  · have e1:B2 b (n+1) (out,T.map λx=>x.1)=B2 b n (Bt b (out,T.map λx=>x.1)):=if_pos (by simpa using hc);have e2:yJ b (n+1) (out,T)=yJ b n (out++vk b T,vk b T):=if_pos hc
    rw[e1,e2];by_cases hle:out.length+T.length<=10
    · have hm:zh (out,T.map λx=>x.1)=T.length:=by unfold zh;simp only[length_map];omega
      have e3:Bt b (out,T.map λx=>x.1)=(out++vk b T,(vk b T).map λx=>x.1):=by
       unfold Bt vk;simp only[hm];rw[take_of_length_le (by simp),List.drop_of_length_le (by simp),append_nil,map_map,map_map,map_map];rfl
      rw[e3];exact HQ n _ _ (by rw[length_append];unfold vk;rw[length_map];omega)
    · have hm:zh (out,T.map λx=>x.1)=10-out.length:=by unfold zh;simp only[length_map];omega
      have hl1:(Bt b (out,T.map λx=>x.1)).1.length=10:=by
       show (out++((T.map λx=>x.1).take (zh (out,T.map λx=>x.1))).map (vB b)).length=10;rw[hm,length_append,length_map,length_take,length_map];omega
      rw[O3 n (by omega),MG n (by show 10<=(out++vk b T).length;rw[length_append];unfold vk;rw[length_map];omega)];show out++((T.map λx=>x.1).take (zh (out,T.map λx=>x.1))).map (vB b)=(out++vk b T).take 10
      rw[hm,List.take_append,take_of_length_le h];unfold vk;rw[←List.map_take,←List.map_take,map_map];rfl
  · have e1:B2 b (n+1) (out,T.map λx=>x.1)=(out,T.map λx=>x.1):=if_neg (by simpa using hc);have e2:yJ b (n+1) (out,T)=(out,T):=if_neg hc
    rw[e1,e2];exact (take_of_length_le h).symm

theorem MH {p:uq} (hp:wo M p):cC p=some (vu p):=by
 unfold cC;rw[Qh hp,tP];show (ac ((GQ p).length:Int) 1 120).bind _=_
 rw[AP,tP];rfl
def named (l:List tS):List tS:=l.map λx=>(x.1,5,0,[],[])
theorem O4 {l:List tS} (hn:l.length<=M):ca l=some (named l):=by
 have hM:M=1048576:=rfl;unfold ca named;refine zc (Cp (g:=λx:tS=>((x.1,5,0,[],[]):tS)) hn (λk hk out ho=>?_) (λout=>?_)) rfl
 · show ed l (k:Int) out=_;unfold ed;rw[ux (by omega),cT,ug hk,tP,u7 (by rw[ho];show k+1<=_;omega),tP,ua (by omega)]
 · show ed l (l.length:Int) out=_;unfold ed;rw[uj (by omega),cF]
theorem Kf {b:tQ} (h:vn b) {l:List tS} (hn:l.length<=1000) (hT:∀x∈l,En b x):aP b l=some (vk b l):=by
 unfold aP vk;refine zc (Cp (g:=λx:tS=>vB b x.1) (by show _<=1048576;omega) (λk hk out ho=>?_) (λout=>?_)) rfl
 · have hx:=hT _ (getElem_mem hk);have e:=O2 hx
   show ea b l (k:Int) out=_;unfold ea;rw[ux (by omega),cT,ug hk,tP,tP,tP,SO h.w,(FS h (by have:=yG hx.1;omega)).1,tP,ua (by omega)];cases hk':l[k].2.1==130 with
   | true =>
    rw[hk',cT]at e;rw[cT,u7 (by rw[ho];show k+1<=_;omega),tP,←e]
   | false=>rw[cF,u7 (by rw[ho];show k+1<=_;omega),tP]
 · show ea b l (l.length:Int) out=_;unfold ea;rw[uj (by omega),cF]
theorem MI {b:tQ} (h:vn b) {l:List tS} (hT:∀x∈l,En b x):∀x∈vk b l,En b x:=by
 intro x hx;obtain⟨y,hy,rfl⟩:=mem_map.1 hx;exact O1 h (hT y hy).1
theorem PB {b:tQ} (h:vn b) {p:uq} (hB:p.2.2.2.1<=1000):∀(n i:Nat) (out T:List tS),T.length<=10->out.length<=10+10*i->(∀x∈T,En b x)->((i+n:Nat):Int)=p.2.2.2.1->loop (λz=>bf b p z.1 z.2.1 z.2.2) (T,(i:Int),out)=some (yJ b n (out,T)).1
 | 0,i,out,T,h1,h2,hT,e=>by
  refine un ?_;show bf b p T (i:Int) out=_
  unfold bf;rw[uj (by omega),cF,tP,cF,tP,cF];rfl
 | n+1,i,out,T,h1,h2,hT,e=>by
  by_cases hc:0<T.length/\out.length<10
  · have hnl:(vk b T).length=T.length:=by unfold vk;rw[length_map]
    refine uh (y:=(vk b T,((i+1:Nat):Int),out++vk b T)) ?_ ?_
    · show bf b p T (i:Int) out=_;unfold bf;rw[ux (by omega),cT,dT (by omega),tP,cT,ux (by omega),tP,cT,Kf h (by omega) hT,tP,u7 (by rw[hnl];omega),tP,ua (by omega)]
    · rw[PB h hB n (i+1) _ _ (by rw[hnl];exact h1) (by rw[length_append,hnl];omega) (MI h hT) (by omega),show yJ b (n+1) (out,T)=yJ b n (out++vk b T,vk b T)from if_pos hc]
  · refine un ?_;show bf b p T (i:Int) out=_
    have e2:yJ b (n+1) (out,T)=(out,T):=if_neg hc;rw[e2];unfold bf;rw[ux (by omega),cT];by_cases h1:0<T.length
    · rw[dT (by omega),tP,cT,uj (by omega),tP,cF]
    · rw[dF (by omega),tP,cF,tP,cF]
theorem IY {b:tQ}:∀(n:Nat) (out T:List tS),T.length<=10->out.length<=20->(yJ b n (out,T)).1.length<=20
 | 0,out,T,_,h=>h
 | n+1,out,T,hT,h=>by
  by_cases hc:0<T.length/\out.length<10
  · rw[show yJ b (n+1) (out,T)=yJ b n (out++vk b T,vk b T)from if_pos hc];have hnl:(vk b T).length=T.length:=by unfold vk;rw[length_map]
    exact IY n _ _ (by omega) (by rw[length_append,hnl];omega)
  · rw[show yJ b (n+1) (out,T)=(out,T)from if_neg hc];exact h
theorem RC {b:tQ} (h:vn b) {p:uq} (hp:vM p=true):fQ b p=some (xI b p):=by
 obtain⟨x1,x2,_,_,x5,x6⟩:=xb hp;have hM:M=1048576:=rfl
 have hnl:(named p.2.2.2.2).length=p.2.2.2.2.length:=by unfold named;rw[length_map]
 have hTold:∀x∈named p.2.2.2.2,En b x:=by
  intro x hx;obtain⟨y,hy,rfl⟩:=mem_map.1 hx;exact HP (xf (x1 y hy))
 have hon:vp p<=p.2.2.2.2.length:=Nat.min_le_right _ _;have hout:vk b ((named p.2.2.2.2).take (vp p))=(p.2.2.2.2.take (vp p)).map (λx=>vB b x.1):=by
  unfold vk named;rw[←List.map_take,map_map];rfl
 have hlast:((named p.2.2.2.2).drop (vp p)).map (λx=>x.1)=(p.2.2.2.2.drop (vp p)).map (λx=>x.1):=by
  unfold named;rw[←List.map_drop,map_map];rfl
 have hol:(vk b ((named p.2.2.2.2).take (vp p))).length<=10:=by rw[hout,length_map,length_take];omega
 have hTl:((named p.2.2.2.2).drop (vp p)).length<=10:=by rw[length_drop];omega
 have hrun:=PB h (p:=p) (by omega) p.2.2.2.1.toNat 0 (vk b ((named p.2.2.2.2).take (vp p))) ((named p.2.2.2.2).drop (vp p)) hTl (by omega) (λx hx=>hTold x (mem_of_mem_drop hx)) (by omega);have hv:xI b p=(yJ b p.2.2.2.1.toNat (vk b ((named p.2.2.2.2).take (vp p)),(named p.2.2.2.2).drop (vp p))).1.take 10:=by
  unfold xI MC;rw[←hout,←hlast];exact HQ _ _ _ hol
 have hlen:=IY (b:=b) p.2.2.2.1.toNat _ _ hTl (show (vk b ((named p.2.2.2.2).take (vp p))).length<=20 by omega);have fin:∀k:Int,k=((vp p:Nat):Int)->((ca p.2.2.2.2).bind λt22 =>
  (vE t22.length 0 k).bind λq =>
  (aP b ((t22.take q.2).drop q.1)).bind λt27 =>
  (cut t22 k (t22.length:Int)).bind λt30 =>
  (loop (λz=>bf b p z.1 z.2.1 z.2.2) (t30,0,t27)).bind λd =>
  cond (decide ((d.length:Int)>10))
   ((vE d.length 0 10).bind λp_1 =>
   some ((d.take p_1.2).drop p_1.1))
   (some d))=some (xI b p):=by
  rintro k rfl;rw[O4 (by omega),tP,show (0:Int)=((0:Nat):Int)from rfl,Cx (by omega) (by rw[hnl];exact hon),tP];show (aP b (((named p.2.2.2.2).take (vp p)).drop 0)).bind _=_
  rw[drop_zero,Kf h (by rw[length_take];omega) (λx hx=>hTold x (mem_of_mem_take hx)),tP,yh (by rw[hnl];exact hon) (Nat.le_refl _),tP,take_length];refine zc hrun ?_;rw[hv];generalize (yJ b p.2.2.2.1.toNat (vk b ((named p.2.2.2.2).take (vp p)),(named p.2.2.2.2).drop (vp p))).1=d at hlen;by_cases hd:(d.length:Int)>10
  · rw[dT hd,cT,show (10:Int)=((10:Nat):Int)from rfl,Cx (by omega) (by omega),tP];rfl
  · rw[dF hd,cF,take_of_length_le (by omega)]
 unfold fQ;by_cases hc:p.2.2.1>(p.2.2.2.2.length:Int)
 · rw[dT hc,cT];exact fin _ (by unfold vp;omega)
 · rw[dF hc,cF];exact fin _ (by unfold vp;omega)
theorem O5 (k i a c:Int) (bulk:Bool):∀(n:Nat) (l:List tS),l.length=n->n<=10->(∀x∈l,Bm M x) ->
 ∃t,loop (λz:uq=>bu bulk z.1 z.2.1 z.2.2.1 z.2.2.2.1 z.2.2.2.2) (k,i,a,c,l)=some (k,i,a,c,t)/\wo M (k,i,a,c,t) /\
  ((vu (k,i,a,c,l)=true/\t=l)\/(vu (k,i,a,c,l)=false/\((bulk=true/\vu (k,i,a,c,t)=true/\shr (λt=>vu (k,i,a,c,t)) n l=some t)\/(vu (k,i,a,c,t)=false/\(bulk=true->shr (λt=>vu (k,i,a,c,t)) n l=none)))))
 | n,l,hl,hn,hx=>by
  have hp:wo M (k,i,a,c,l):=⟨by show l.length<=1048576;omega,hx⟩;have hstep:∀q:Bool,vu (k,i,a,c,l)=q->bu bulk k i a c l=cond (bulk&&(!q&&decide ((l.length:Int)>0))) ((vE l.length 0 (tR ((l.length:Int)-1))).bind λp=>some (.inl (k,i,a,c,(l.take p.2).drop p.1))) (some (.inr (k,i,a,c,l))):=by
   intro q hq;unfold bu;rw[MH hp,hq];cases bulk<;>cases q<;>rfl
  cases hf:vu (k,i,a,c,l)with
  | true =>
   refine⟨l,un ?_,hp,.inl ⟨rfl,rfl⟩⟩;show bu bulk k i a c l=_
   rw[hstep true hf];cases bulk<;>rfl
  | false =>
   cases hb:bulk with
   | false =>
    subst hb;refine⟨l,un ?_,hp,.inr ⟨rfl,.inr ⟨hf,(λh=>by cases h)⟩⟩⟩;show bu false k i a c l=_
    rw[hstep false hf];rfl
   | true =>
    subst hb
    match n,hl,hn with
    | 0,hl,hn =>
     refine⟨l,un ?_,hp,.inr ⟨rfl,.inr ⟨hf,λ_=>rfl⟩⟩⟩;show bu true k i a c l=_
     rw[hstep false hf,dF (by omega)];rfl
    | n+1,hl,hn =>
     have hlt:(l.take n).length=n:=by rw[length_take];omega
     have hs:bu true k i a c l=some (.inl (k,i,a,c,l.take n)):=by
      rw[hstep false hf,dT (by omega)];show ((vE l.length 0 (tR ((l.length:Int)-1))).bind _)=_
      rw[uS (by omega) (by omega),show (l.length:Int)-1=((n:Nat):Int) by omega,show (0:Int)=((0:Nat):Int)from rfl,Cx (by omega) (by omega),tP];rfl
     obtain⟨t,t1,t2,t3⟩:=O5 k i a c true n (l.take n) hlt (by omega) (λx h=>hx x (mem_of_mem_take h));refine⟨t,uh hs t1,t2,.inr ⟨rfl,?_⟩⟩;rcases t3 with ⟨u1,rfl⟩|⟨u1,⟨_,u2,u3⟩|⟨u2,u3⟩⟩
     · exact .inl ⟨rfl,u1,if_pos u1⟩
     · exact .inl ⟨rfl,u2,by rw[show shr (λt=>vu (k,i,a,c,t)) (n+1) l=shr (λt=>vu (k,i,a,c,t)) n (l.take n)from if_neg (show ¬vu (k,i,a,c,l.take n)=true by rw[u1];simp)];exact u3⟩
     · exact .inr ⟨u2,λ_=>by rw[show shr (λt=>vu (k,i,a,c,t)) (n+1) l=shr (λt=>vu (k,i,a,c,t)) n (l.take n)from if_neg (show ¬vu (k,i,a,c,l.take n)=true by rw[u1];simp)];exact u3 rfl⟩
noncomputable def Cv (i a c:Int) (bulk:Bool) (l:List tS):uq :=
 cond (vu (162,i,a,c,l)) (162,i,a,c,l) (match cond bulk (shr (λt=>vu (162,i,a,c,t)) l.length l) none with|some t=>(162,i,a,c,t)|none=>(162,i,7,0,[]))
theorem Kg (i a c:Int) (bulk:Bool) {l:List tS} (hn:l.length<=10) (hx:∀x∈l,Bm M x):bU (162,i,a,c,l) bulk=some (Cv i a c bulk l):=by
 obtain⟨t,t1,t2,t3⟩:=O5 162 i a c bulk l.length l rfl hn hx;unfold bU Cv;refine zc t1 ?_;rw[MH t2,tP];rcases t3 with ⟨u1,rfl⟩|⟨u1,⟨rfl,u2,u3⟩|⟨u2,u3⟩⟩
 · rw[u1,cT,cT]
 · rw[u1,u2,cT,cF,cT,u3]
 · rw[u1,u2,cF,cF];cases bulk with
   | true=>rw[cT,u3 rfl]
   | false=>rfl
theorem SP {b:tQ} (h:vn b) {p:uq} (hp:vM p=true) (h163:(p.1==163)=false) (hk:(p.1 != 162)=true):∃l,fS b p=some l/\zi b p=(b,162,p.2.1,0,0,l)/\l.length<=10/\∀x∈l,Bm M x:=by
 obtain⟨x1,x2,_⟩:=xb hp;have hM:M=1048576:=rfl
 unfold fS zi;cases h161:(p.1==161)with
 | true =>
  have h160:(p.1==160)=false:=by simp only[beq_iff_eq]at h161;rw[h161];rfl
  have hTold:∀x∈named p.2.2.2.2,En b x:=by
   intro x hx;obtain⟨y,hy,rfl⟩:=mem_map.1 hx;exact HP (xf (x1 y hy))
  have he:vk b (named p.2.2.2.2)=p.2.2.2.2.map λx=>vB b x.1:=by unfold vk named;rw[map_map];rfl
  simp only[cT,cF,h160];rw[O4 (by omega),tP,Kf h (by unfold named;rw[length_map];omega) hTold,tP,he];refine⟨_,rfl,rfl,by rw[length_map];exact x2,λx hx=>?_⟩;obtain⟨y,hy,rfl⟩:=mem_map.1 hx;exact wL (DT h (xf (x1 y hy)))
 | false =>
 cases h165:(p.1==165)with
 | true =>
  have h160:(p.1==160)=false:=by simp only[beq_iff_eq]at h165;rw[h165];rfl
  have hbk:=LB h hp;simp only[cT,cF,h160];rw[RC h hp,tP];exact⟨_,rfl,rfl,hbk.o10,λx hx=>wL (hbk.oOk x hx)⟩
 | false =>
  have h160:(p.1==160)=true:=by
   rcases OX hp with e|e|e|e|e
   · rw[e];rfl
   · rw[e]at h161;cases h161
   · rw[e]at hk;cases hk
   · rw[e]at h163;cases h163
   · rw[e]at h165;cases h165
  simp only[cT,cF,h160];have e:loop (λz:Int×List tS=>cH b p z.1 z.2) (0,[])=some (p.2.2.2.2.map λx=>((x.1,Cq b x.1):tS)):=by
   refine Cp (by omega) (λk hk' out ho=>?_) (λout=>?_)
   · have hx:=yG (xf (x1 _ (getElem_mem hk')));show cH b p (k:Int) out=_
     unfold cH;rw[ux (by omega),cT,ug hk',tP,u7 (by show 0+_<=_;omega),tP,tP,TK h.w,(OT h (by omega)).1,tP,u7 (by rw[ho];show k+1<=_;omega),tP,ua (by omega)];rfl
   · show cH b p (p.2.2.2.2.length:Int) out=_;unfold cH;rw[uj (by omega),cF]
  rw[e,tP];refine⟨_,rfl,rfl,by rw[length_map];exact x2,λx hx=>?_⟩;obtain⟨y,hy,rfl⟩:=mem_map.1 hx;exact wL (by unfold yT;rw[xf (x1 y hy),Pw h (by have:=yG (xf (x1 y hy));omega)];rfl)
theorem KZ {b:tQ} {p:uq} {l:List tS} (ha:zi b p=(b,162,p.2.1,0,0,l)) (hl:(p.1==165)=true->l=xI b p):xV b p=(b,Cv p.2.1 0 0 (p.1==165) l):=by
 unfold xV AO Cv;rw[ha];simp only;cases vu (162,p.2.1,0,0,l)with
 | true=>rfl
 | false =>
  rw[cF,cF];cases h165:(p.1==165)with
  | true=>rw[cT,cT,hl h165];cases shr (λt=>vu (162,p.2.1,0,0,t)) (xI b p).length (xI b p)<;>rfl
  | false=>rfl
theorem RD {b:tQ} (h:vn b) {p:uq} (hp:vM p=true) (h163:(p.1==163)=true):dZ b p=some (xV b p):=by
 have hxs:=Fp hp;have hM:M=1048576:=rfl
 have h10:=(xb hp).2.1;obtain⟨r,r1,r2,_,_,r5⟩:=Is h.w h.le hxs;have hr:Dm b p.2.2.2.2=r:=by unfold Dm;rw[r1];rfl
 have h160:(p.1==160)=false:=by simp only[beq_iff_eq]at h163;rw[h163];rfl
 have h161:(p.1==161)=false:=by simp only[beq_iff_eq]at h163;rw[h163];rfl
 have h165:(p.1==165)=false:=by simp only[beq_iff_eq]at h163;rw[h163];rfl
 have ha:zi b p=(r.1,162,p.2.1,r.2.1,r.2.2,p.2.2.2.2):=by unfold zi;rw[h160,h161,h165,hr];rfl
 have hless:AO b p=(b,162,p.2.1,7,0,[]):=by unfold AO;rw[h165];rfl
 unfold dZ xV;rw[BI hxs,tP,r2,tP,MH (p:=(162,p.2.1,r.2.1,r.2.2,p.2.2.2.2)) ⟨hxs.1,hxs.2⟩,tP,ha,hless];simp only;have hb:∀q:Bool,vu (162,p.2.1,r.2.1,r.2.2,p.2.2.2.2)=q->((ak b).bind λt36=>(bU (162,p.2.1,r.2.1,r.2.2,p.2.2.2.2) false).bind λt38=>some (t36,t38))=some (b,cond q (162,p.2.1,r.2.1,r.2.2,p.2.2.2.2) (162,p.2.1,7,0,[])):=by
  intro q hq;rw[xq h.le,tP,Kg _ _ _ _ h10 hxs.2,tP];unfold Cv;rw[hq];rfl
 cases hf:vu (162,p.2.1,r.2.1,r.2.2,p.2.2.2.2)with
 | false=>rw[Bool.not_false,cT,tP,cT,hb false hf];rfl
 | true =>
  rw[Bool.not_true,cF,tP];cases hc:(r.2.1 != 0)with
  | false=>rfl
  | true =>
   rw[cT,hb true hf];rcases r5 with ⟨r6,_⟩|⟨r6,_⟩
   · rw[r6]at hc;cases hc
   · rw[r6];rfl
theorem RE {b:tQ} (h:zl b) (hb:yH M b) {p:uq} (hp:wo M p):fT b p=some (vL b p):=by
 unfold fT hU vL Cr;rw[DV h,tP,xq hb];cases hbr:vc b with
 | false=>rfl
 | true =>
 rw[cT,MU hp,tP,tP];cases hpp:vM p with
 | false=>rfl
 | true =>
 cases hk:(p.1 != 162)with
 | false=>rfl
 | true =>
 have hBO:=HV h hbr;simp only[Bool.and_true,cT,tP,Bool.not_true,cF];cases h163:(p.1==163)with
 | true=>rw[cT,RD hBO hpp h163,tP]
 | false =>
  obtain⟨l,e1,e2,e3,e4⟩:=SP hBO hpp h163 hk;have hl:(p.1==165)=true->l=xI b p:=by
   intro h165;have h160:(p.1==160)=false:=by simp only[beq_iff_eq]at h165;rw[h165];rfl
   have h161:(p.1==161)=false:=by simp only[beq_iff_eq]at h165;rw[h165];rfl
   have:zi b p=(b,162,p.2.1,0,0,xI b p):=by unfold zi;rw[h160,h161,h165];rfl
   rw[e2]at this;simpa using this
  rw[cF,e1,tP,BI ⟨by show l.length<=1048576;omega,e4⟩,tP,Kg _ _ _ _ e3 e4,tP,KZ e2 hl]

theorem MJ {b:tQ} {w:List UInt8} {l:List ut} {lo la:Int} {k:Nat} (hk:k<l.length) (hl:l.length<=M):cz (vX b w l lo la) (k:Int)=some (vX b w (l.eraseIdx k) lo la):=by
 have hM:M=1048576:=rfl;have c1:vE l.length 0 (k:Int)=some (0,k):=by
  unfold vE;rw[if_pos (by omega),if_pos (by omega),if_pos (by omega)];simp
 have c2:vE l.length (tR ((k:Int)+1)) (l.length:Int)=some (k+1,l.length):=by
  rw[ua (by omega)];unfold vE;rw[if_pos (by omega),if_pos (by omega),if_pos (by omega)];simp
 have c3:uv ([]:List ut) ((l.take k).drop 0)=some (l.take k):=by
  rw[drop_zero,u7 (by rw[length_take];show 0+_<=_;omega)];rfl
 have c4:uv (l.take k) ((l.take l.length).drop (k+1))=some (l.eraseIdx k):=by
  rw[take_length,u7 (by rw[length_take,length_drop];omega),←List.eraseIdx_eq_take_drop_succ]
 unfold cz vX;simp only[c1,tP,c2,c3,c4]
theorem O6 {b:tQ} (hb:yH M b) {w:List UInt8} {l:List ut} {lo la:Int} {k:Nat} (hk:k<l.length):dP (vX b w l lo la) (k:Int)=some (vX b w (l.set k (Io b l[k])) lo la):=by
 have cb:=xq hb;unfold dP vX;simp only[wl hk,tP];have cb':ak (b.1,b.2.1,b.2.2.1,b.2.2.2.1,b.2.2.2.2.1,b.2.2.2.2.2.1,b.2.2.2.2.2.2.1,b.2.2.2.2.2.2.2.1,b.2.2.2.2.2.2.2.2.1,b.2.2.2.2.2.2.2.2.2.1,b.2.2.2.2.2.2.2.2.2.2)=some b:=cb
 simp only[cb',tP,List.getElem?_eq_getElem hk,length_set,wl hk,List.getElem?_set_self hk,set_set];rfl
theorem RF {n:Int} (h:tX n 0 1000000=true):bP n=some (HM n):=by
 obtain⟨r,r1,r2,_⟩:=MZ h;rw[r2,←r1,MD]
theorem P3 {b:tQ} (hb:yH M b) (hc:wF b=true) {w:List UInt8} {l:List ut} {lo la:Int} {k:Nat} (hk:k<l.length) (hl:l.length<=M) (h1:xi l[k].2.1) (h2:l[k].2.1.length<=M) :
 cA (vX b w l lo la) (k:Int)=some (cond ((v7 w l[k].2.1).2==3) (vX (D5 b) w (l.eraseIdx k) lo la)
  (cond ((v7 w l[k].2.1).2 != 0||((v7 w l[k].2.1).1.1==162)) (vX (Bl b) w (l.eraseIdx k) lo la) (vX b w (l.set k (xJ l[k].1 l[k].2.1 1 (v7 w l[k].2.1).1 b 0 (uA l[k]))) lo la))):=by
 obtain⟨_,m1,m3,_⟩:=OU w h1 h2;obtain⟨_,hp,hw,_⟩:=Ct hc;unfold cA;have d1:=MJ (b:=D5 b) (w:=w) (lo:=lo) (la:=la) hk hl
 have d2:=MJ (b:=Bl b) (w:=w) (lo:=lo) (la:=la) hk hl;unfold D5 vX at d1;unfold Bl vX at d2;dsimp only[vX];simp only[wl hk,tP,List.getElem?_eq_getElem hk,m1,RF hp,RF hw];rw[d1,d2];have hs:k<(l.set k (xJ l[k].1 l[k].2.1 l[k].2.2.1 (v7 w l[k].2.1).1 (jB l[k]) (xz l[k]) (uA l[k]))).length:=by rw[length_set];exact hk
 have e:=O6 hb (w:=w) (lo:=lo) (la:=la) hs;unfold vX at e;have e2:Io b (l.set k (xJ l[k].1 l[k].2.1 l[k].2.2.1 (v7 w l[k].2.1).1 (jB l[k]) (xz l[k]) (uA l[k])))[k]=xJ l[k].1 l[k].2.1 1 (v7 w l[k].2.1).1 b 0 (uA l[k]):=by
  rw[getElem_set_self];rfl
 rw[e2,set_set]at e;cases h0:((v7 w l[k].2.1).2==0)with
 | true =>
  have h3:((v7 w l[k].2.1).2==3)=false:=by
   have:(v7 w l[k].2.1).2=0:=by simpa using h0
   rw[this];rfl
  have hn:((v7 w l[k].2.1).2 != 0)=false:=by rw[bne,h0];rfl
  rw[h3,hn];simp only[cT,cF,tP,Bool.false_or,bne];cases ((v7 w l[k].2.1).1.1==162)with
  | true=>rfl
  | false =>
   simp only[Bool.not_false,cT,cF];refine (congrArg (λo=>Option.bind o λt=>some t) e).trans ?_;rfl
 | false =>
  have hn:((v7 w l[k].2.1).2 != 0)=true:=by rw[bne,h0];rfl
  rw[hn];simp only[cT,cF,tP,Bool.true_or];cases ((v7 w l[k].2.1).2==3)<;>rfl
theorem P4 {b:tQ} {w:List UInt8} {l:List ut} {lo la:Int} {k:Nat} (hk:k<l.length) (hl:l.length<=M) (p:uq):cB (vX b w l lo la) (k:Int) p=some (vX b w (l.eraseIdx k) lo la,[(l[k].1,p)]):=by
 have d:=MJ (b:=b) (w:=w) (lo:=lo) (la:=la) hk hl;have c0:ix (vX b w l lo la).2.2.2.2.2.2.2.2.2.2.2.2.1.length (k:Int)=some k:=wl hk
 have c1:(vX b w l lo la).2.2.2.2.2.2.2.2.2.2.2.2.1[k]?=some l[k]:=List.getElem?_eq_getElem hk;unfold cB;rw[c0,tP,c1,tP,d];rfl
theorem MK (p:uq):Cv p.2.1 6 1 false p.2.2.2.2=z8 p:=by
 unfold Cv z8;cases vu (162,p.2.1,6,1,p.2.2.2.2)<;>rfl
theorem SQ {b:tQ} (hB:vn b) {w:List UInt8} {l:List ut} {lo la:Int} {k:Nat} (hk:k<l.length) (hl:l.length<=M) (hp:vM (jP l[k])=true) (h163:((jP l[k]).1==163)=true) :
 fN (vX b w l lo la) (k:Int)=some (cond (b.2.2.2.2.2.2.2.2.2.2==(jB l[k]).2.2.2.2.2.2.2.2.2.2) (vX (vL b (jP l[k])).1 w (l.eraseIdx k) lo la,[(l[k].1,(vL b (jP l[k])).2.1)])
  (cond (decide (uA l[k]>=3)) (vX b w (l.eraseIdx k) lo la,[(l[k].1,z8 (jP l[k]))])
   (vX b w (l.set k (xJ l[k].1 l[k].2.1 1 (jP l[k]) b 0 (tR (uA l[k]+1)))) lo la,[]))):=by
 have hk162:((jP l[k]).1 != 162)=true:=by
  have:(jP l[k]).1=163:=by simpa using h163
  rw[this];rfl
 obtain⟨_,r1,r2,_⟩:=Fq hB hp hk162;have hxs:=Fp hp
 have h10:=(xb hp).2.1;have s1:=RD hB hp h163
 have c0:ix (vX b w l lo la).2.2.2.2.2.2.2.2.2.2.2.2.1.length (k:Int)=some k:=wl hk;have c1:(vX b w l lo la).2.2.2.2.2.2.2.2.2.2.2.2.1[k]?=some l[k]:=List.getElem?_eq_getElem hk
 unfold fN;rw[c0,tP];simp only[c1,tP];show cond (b.2.2.2.2.2.2.2.2.2.2==(jB l[k]).2.2.2.2.2.2.2.2.2.2) _ _=_
 cases hv:(b.2.2.2.2.2.2.2.2.2.2==(jB l[k]).2.2.2.2.2.2.2.2.2.2)with
 | true =>
  rw[cT,cT];refine zc (a:=xV b (jP l[k])) s1 ?_;have e:=P4 (b:=(xV b (jP l[k])).1) (w:=w) (lo:=lo) (la:=la) hk hl (xV b (jP l[k])).2
  rw[r1,r2];exact zc e rfl
 | false =>
  rw[cF,cF];show cond (decide (uA l[k]>=3)) _ _=_
  cases hq:decide (uA l[k]>=3)with
  | true =>
   rw[cT,cT];refine zc (BI hxs) ?_;refine zc (a:=z8 (jP l[k])) ?_ ?_
   · have e:=Kg (jP l[k]).2.1 6 1 false h10 hxs.2;rw[MK]at e;exact e
   · exact zc (P4 (b:=b) (w:=w) (lo:=lo) (la:=la) hk hl (z8 (jP l[k]))) rfl
  | false =>
   simp only[cF];have hs:k<(l.set k (xJ l[k].1 l[k].2.1 l[k].2.2.1 (jP l[k]) (jB l[k]) (xz l[k]) (tR (uA l[k]+1)))).length:=by rw[length_set];exact hk
   have e:=O6 hB.le (w:=w) (lo:=lo) (la:=la) hs;unfold vX at e;have e2:Io b (l.set k (xJ l[k].1 l[k].2.1 l[k].2.2.1 (jP l[k]) (jB l[k]) (xz l[k]) (tR (uA l[k]+1))))[k]=xJ l[k].1 l[k].2.1 1 (jP l[k]) b 0 (tR (uA l[k]+1)):=by
    rw[getElem_set_self];rfl
   rw[e2,set_set]at e;refine (congrArg (λo=>Option.bind o λt=>some (t,([]:List uY))) e).trans ?_;rfl
theorem SR {a:ue} (h:xN a) {k:Nat} (hk:k<(tU a).length):ee a (k:Int)=some (uN a k (tU a)[k]):=by
 have hJ:=h.j _ (getElem_mem hk);have hn:(tU a).length<=M:=by have:=h.n;show _<=1048576;omega
 have e1:=P3 h.b.le (D6 h.b.ok).1 (w:=aW a) (l:=tU a) (lo:=za a) (la:=vO a) hk hn hJ.byt hJ.len;have c0:ix a.2.2.2.2.2.2.2.2.2.2.2.2.1.length (k:Int)=some k:=wl hk
 have c1:a.2.2.2.2.2.2.2.2.2.2.2.2.1[k]?=some (tU a)[k]:=List.getElem?_eq_getElem hk;have e1:cA a (k:Int)=_:=e1
 unfold ee uN xK;rw[c0,tP];simp only[c1,tP];rcases Kc hJ with hp|hp|hp
 · rw[hp];show ((cA a (k:Int)).bind _)=_
   rw[e1,tP];cases ((v7 (aW a) (tU a)[k].2.1).2==3)with
   | true=>rfl
   | false=>cases ((v7 (aW a) (tU a)[k].2.1).2 != 0||((v7 (aW a) (tU a)[k].2.1).1.1==162))<;>rfl
 · rw[hp];simp only[show ((1:Int)==0)=false from rfl,show ((1:Int)==1)=true from rfl,show ((1:Int)==2)=false from rfl,cT,cF,tP];show cond (decide (xz (tU a)[k]<((jP (tU a)[k]).2.2.2.2.length:Int))) _ _=_
   cases hd:decide (xz (tU a)[k]<((jP (tU a)[k]).2.2.2.2.length:Int))with
   | true=>rw[cT];exact congrArg some (by simp only[cT];rfl)
   | false=>rw[cF];exact congrArg some (by simp only[cF];rfl)
 · obtain⟨q1,q2,q3⟩:=hJ.ok.resolve_left (by rw[hp];decide);rw[hp];simp only[show ((2:Int)==0)=false from rfl,show ((2:Int)==1)=false from rfl,show ((2:Int)==2)=true from rfl,cT,cF,tP];show cond ((jP (tU a)[k]).1==163) _ _=_
   cases h163:((jP (tU a)[k]).1==163)with
   | true =>
    have hb:((tU a)[k].2.2.2.1 != 163)=false:=by rw[bne,show ((tU a)[k].2.2.2.1==163)=true from h163];rfl
    simp only[hb,cT,cF];refine zc (SQ (b:=aB a) h.b (w:=aW a) (lo:=za a) (la:=vO a) hk hn q1 h163) ?_;cases ((aB a).2.2.2.2.2.2.2.2.2.2==(jB (tU a)[k]).2.2.2.2.2.2.2.2.2.2)with
    | true=>rfl
    | false=>cases decide (uA (tU a)[k]>=3)<;>rfl
   | false =>
    have hb:((tU a)[k].2.2.2.1 != 163)=true:=by rw[bne,show ((tU a)[k].2.2.2.1==163)=false from h163];rfl
    simp only[hb,cT,cF];refine zc (a:=vL (jB (tU a)[k]) (jP (tU a)[k])) (RE hJ.bw hJ.bl hJ.pl) ?_;exact zc (P4 (b:=aB a) (w:=aW a) (lo:=za a) (la:=vO a) hk hn (vL (jB (tU a)[k]) (jP (tU a)[k])).2.1) rfl
def RG (a:ue):Prop:=J4 a/\Bu M a/\∀j∈tU a,xi j.2.1
theorem xN.any {a:ue} (h:xN a):RG a:=⟨h.awf,h.ale,λj hj=>(h.j j hj).byt⟩
def O7 (n:Nat) (p:uq):Prop:=p.2.2.2.2.length<=n/\∀x∈p.2.2.2.2,Bm M x
theorem O7.le {n:Nat} {p:uq} (h:O7 n p) (hn:n<=1000):wo M p:=⟨by have:=h.1;show _<=1048576;omega,h.2⟩
theorem O7.up {n m:Nat} {p:uq} (h:O7 n p) (hn:n<=m):O7 m p:=⟨Nat.le_trans h.1 hn,h.2⟩
theorem LF {b:tQ} (h:zl b) (hb:yH M b) {p:uq} (hp:wo M p):yH M (vL b p).1/\wo M (vL b p).2.1/\((vL b p).2.2=false->(vL b p).1=b):=by
 have h0:wo M (0,0,0,0,[]):=⟨by show 0<=1048576;decide,λx hx=>by cases hx⟩;unfold vL;cases he:Cr b p with
 | false=>exact⟨hb,h0,λ_=>rfl⟩
 | true =>
  unfold Cr at he;simp only[aT]at he;obtain⟨e1,e2,e3⟩:=he;have hdn:vn (xV b p).1:=by
   have:=HO (HV h e1) p;unfold vL Cr at this;rw[e1,e2,e3]at this;exact this
  exact⟨hdn.le,Fp (Q8 (O0 e2)),λhc=>by cases hc⟩
theorem RH {p:uq} (hp:wo M p):wo M (z8 p):=by
 unfold z8;cases vu (162,p.2.1,6,1,p.2.2.2.2)with
 | true=>exact hp
 | false=>exact⟨by show 0<=1048576;decide,λx hx=>by cases hx⟩
theorem RI (w:List UInt8) {b:tQ} (hb:vn b) {j:ut} (h:Cu j) {d:List uY} (hd:(xK w b j).2=.gone d):∀x∈d,wo M x.2:=by
 have one:∀{y:uY} {x:uY},wo M y.2->x∈[y]->wo M x.2:=λhy hx=>by rw[mem_singleton.1 hx];exact hy
 unfold xK at hd;cases h0:(j.2.2.1==0)with
 | true =>
  rw[h0,cT]at hd;cases h1:((v7 w j.2.1).2==3)with
  | true=>rw[h1]at hd;cases hd;intro x hx;cases hx
  | false =>
   rw[h1,cF]at hd;cases h2:((v7 w j.2.1).2 != 0||((v7 w j.2.1).1.1==162))with
   | true=>rw[h2]at hd;cases hd;intro x hx;cases hx
   | false=>rw[h2]at hd;cases hd
 | false =>
  rw[h0,cF]at hd;cases h1:(j.2.2.1==2)with
  | true =>
   rw[h1,cT]at hd;cases h2:(j.2.2.2.1 != 163)with
   | true=>rw[h2]at hd;cases hd;exact λx hx=>one (LF h.bw h.bl h.pl).2.1 hx
   | false =>
    rw[h2,cF]at hd;cases h3:(b.2.2.2.2.2.2.2.2.2.2==(jB j).2.2.2.2.2.2.2.2.2.2)with
    | true=>rw[h3]at hd;cases hd;exact λx hx=>one (LF hb.w hb.le h.pl).2.1 hx
    | false =>
     rw[h3,cF]at hd;cases h4:decide (uA j>=3)with
     | true=>rw[h4]at hd;cases hd;exact λx hx=>one (RH h.pl) hx
     | false=>rw[h4]at hd;cases hd
  | false =>
   rw[h1,cF]at hd;cases h2:decide (xz j<((jP j).2.2.2.2.length:Int))with
   | true=>rw[h2]at hd;cases hd
   | false=>rw[h2]at hd;cases hd
theorem RJ {a:ue} (h:xN a) {k:Nat} (hk:k<(tU a).length):∀x∈(uN a k (tU a)[k]).2,wo M x.2:=by
 have hs:=λd=>RI (aW a) h.b (h.j _ (getElem_mem hk)) (d:=d);unfold uN;cases hf:(xK (aW a) (aB a) (tU a)[k]).2 with
 | stay j'=>intro x hx;cases hx
 | gone d=>exact hs d hf
theorem PC:∀(n:Nat) (a:ue),xN a->xN (w7 n a).1/\(w7 n a).2.length<=n/\∀x∈(w7 n a).2,wo M x.2
 | 0,a,h=>⟨h,Nat.le_refl _,λx hx=>by cases hx⟩
 | n+1,a,h=>by
  cases he:tU a with
  | nil =>
   have er:w7 (n+1) a=(a,[]):=by
    show (match tU a with | []=>(a,[])|j::_=>((w7 n (uN a 0 j).1).1,(uN a 0 j).2++(w7 n (uN a 0 j).1).2))=_;rw[he]
   rw[er];exact⟨h,by simp,λx hx=>by cases hx⟩
  | cons j r =>
   have er:w7 (n+1) a=((w7 n (uN a 0 j).1).1,(uN a 0 j).2++(w7 n (uN a 0 j).1).2):=by
    show (match tU a with | []=>(a,[])|j::_=>((w7 n (uN a 0 j).1).1,(uN a 0 j).2++(w7 n (uN a 0 j).1).2))=_;rw[he]
   have h0:0<(tU a).length:=by rw[he];simp
   have e0:(tU a)[0]=j:=by simp[he]
   obtain⟨w1,w2⟩:=GS h h0;have w3:=RJ h h0
   rw[e0]at w1 w2 w3;obtain⟨i1,i2,i3⟩:=PC n _ w1;rw[er];refine⟨i1,?_,λx hx=>?_⟩
   · show ((uN a 0 j).2++(w7 n (uN a 0 j).1).2).length<=n+1;rw[length_append];omega
   · rcases mem_append.1 hx with hx|hx
     · exact w3 x hx
     · exact i3 x hx
theorem IZ {n:Nat} (hn:n<=500):∀(m i:Nat) (a:ue) (all:List uY),xN a->i+m=n->all.length+m<=1000->loop (λz:Ry=>ef (n:Int) z.1 z.2.1 z.2.2.1 z.2.2.2.1 z.2.2.2.2.1 z.2.2.2.2.2.1 z.2.2.2.2.2.2.1 z.2.2.2.2.2.2.2.1 z.2.2.2.2.2.2.2.2.1 z.2.2.2.2.2.2.2.2.2.1 z.2.2.2.2.2.2.2.2.2.2.1 z.2.2.2.2.2.2.2.2.2.2.2.1 z.2.2.2.2.2.2.2.2.2.2.2.2.1 z.2.2.2.2.2.2.2.2.2.2.2.2.2.1 z.2.2.2.2.2.2.2.2.2.2.2.2.2.2.1 z.2.2.2.2.2.2.2.2.2.2.2.2.2.2.2.1 z.2.2.2.2.2.2.2.2.2.2.2.2.2.2.2.2) (Dn (i:Int) a all)=some (Rz (w7 m a).1 (all++(w7 m a).2))
 | 0,i,a,all,h,hi,hl=>by
  refine un ?_;dsimp only[Dn];unfold ef;rw[uj (by omega),cF,tP,cF];simp only[w7,append_nil];rfl
 | m+1,i,a,all,h,hi,hl=>by
  by_cases hj:0<(tU a).length
  · obtain⟨j,r,hjr⟩:∃j r,tU a=j::r:=by
     cases he:tU a with
     | nil=>rw[he]at hj;simp at hj
     | cons j r=>exact⟨j,r,rfl⟩
    obtain⟨w1,w2⟩:=GS h hj;have e0:(tU a)[0]=j:=by simp[hjr]
    rw[e0]at w1 w2;have hwk:=SR h hj
    rw[e0]at hwk;have er:w7 (m+1) a=((w7 m (uN a 0 j).1).1,(uN a 0 j).2++(w7 m (uN a 0 j).1).2):=by
     show (match tU a with | []=>(a,[])|j::_=>((w7 m (uN a 0 j).1).1,(uN a 0 j).2++(w7 m (uN a 0 j).1).2))=_;rw[hjr]
    rw[er];refine uh (y:=Dn ((i+1:Nat):Int) (uN a 0 j).1 (all++(uN a 0 j).2)) ?_ ?_
    · dsimp only[Dn];unfold ef;have hjl:decide (((a.2.2.2.2.2.2.2.2.2.2.2.2.1.length:Nat):Int)>0)=true:=dT (by show ((tU a).length:Int)>0;omega)
      rw[ux (by omega),cT,hjl,tP,cT];have hwk':ee (a.1,a.2.1,a.2.2.1,a.2.2.2.1,a.2.2.2.2.1,a.2.2.2.2.2.1,a.2.2.2.2.2.2.1,a.2.2.2.2.2.2.2.1,a.2.2.2.2.2.2.2.2.1,a.2.2.2.2.2.2.2.2.2.1,a.2.2.2.2.2.2.2.2.2.2.1,a.2.2.2.2.2.2.2.2.2.2.2.1,a.2.2.2.2.2.2.2.2.2.2.2.2.1,a.2.2.2.2.2.2.2.2.2.2.2.2.2.1,a.2.2.2.2.2.2.2.2.2.2.2.2.2.2) 0=some (uN a 0 j):=hwk
      rw[hwk',tP,u7 (by omega),tP,ua (by omega)]
    · have:=IZ hn m (i+1) (uN a 0 j).1 (all++(uN a 0 j).2) w1 (by omega) (by rw[length_append];omega);rw[this,append_assoc]
  · have hj0:tU a=[]:=length_eq_zero_iff.1 (by omega);have er:w7 (m+1) a=(a,[]):=by
     show (match tU a with | []=>(a,[])|j::_=>((w7 m (uN a 0 j).1).1,(uN a 0 j).2++(w7 m (uN a 0 j).1).2))=_;rw[hj0]
    rw[er];refine un ?_;dsimp only[Dn];unfold ef;have hjl:decide (((a.2.2.2.2.2.2.2.2.2.2.2.2.1.length:Nat):Int)>0)=false:=dF (by show ¬((tU a).length:Int)>0;omega)
    rw[ux (by omega),cT,hjl,tP,cF,append_nil];rfl
theorem P5 {a:ue} (h:xN a) {n:Nat} (hn:n<=500):cc a (n:Int)=some (w7 n a):=by
 unfold cc;rw[Ew h.ale,tP,Kw h.awf,tP,h.ok,Bool.not_true,cF,AP,tP,Bv (by omega) (by omega),tP,Bool.not_true,cF];have:=IZ hn n 0 a [] h (by omega) (by simp;omega)
 refine (congrArg (λo=>Option.bind o _) this).trans ?_;rfl
def U9 (a:ue) (o q:Option (ue×List uY)):Prop:=∃r,o=some r/\q=some r/\Bu M r.1/\r.2.length<=M/\∀x∈r.2,wo M x.2
theorem LG {a:ue} (h:Bu M a):Bu M a/\([]:List uY).length<=M/\∀x∈([]:List uY),wo M x.2:=⟨h,by show 0<=1048576;decide,λx hx=>by cases hx⟩
theorem RK {a:ue} (h:RG a) (n:Int):U9 a (bz a n) (cc a n):=by
 obtain⟨hw,hl,hb⟩:=h;cases hp:AQ a with
 | false =>
  refine⟨(a,[]),?_,?_,LG hl⟩
  · unfold bz;rw[Fy hl,tP,Kv hw,tP,hp];rfl
  · unfold cc;rw[Ew hl,tP,Kw hw,tP,hp];rfl
 | true =>
  have h:=Qc hw hl hb hp;by_cases hn:0<=n/\n<=500
  · obtain⟨m,rfl⟩:∃m:Nat,n=(m:Int):=⟨n.toNat,by omega⟩;obtain⟨i1,i2,i3⟩:=PC m a h;exact⟨_,OZ h (by omega),P5 h (by omega),i1.ale,by show _<=1048576;omega,i3⟩
  · have hf:tX n 0 500=false:=by
     unfold tX;by_cases h0:0<=n
     · rw[dF (show ¬n<=500 by omega),Bool.and_false]
     · rw[dF h0];rfl
    refine⟨(a,[]),?_,?_,LG hl⟩
    · unfold bz;rw[Fy hl,tP,Kv hw,tP,hp,Bool.not_true,cF,xx,tP,hf];rfl
    · unfold cc;rw[Ew hl,tP,Kw hw,tP,hp,Bool.not_true,cF,AP,tP,hf];rfl
end Go.V.W

