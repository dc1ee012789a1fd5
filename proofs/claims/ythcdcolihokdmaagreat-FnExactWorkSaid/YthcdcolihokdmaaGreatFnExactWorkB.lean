/- The law FnExactWork: part of the proof that for every input it returns true. No condition. -/
import Derived.Test.YthcdcolihokdmaaGreatFnExactWorkBP1
open List (any_eq_false append_assoc append_nil drop_eq_getElem_cons drop_zero flatMap_append getElem_cons_succ getElem_cons_zero getElem_mem getElem_of_mem getElem_set_self length_append length_cons length_drop length_eq_zero_iff length_map length_set length_singleton length_take map_append map_cons map_map mem_append mem_cons_of_mem mem_map mem_of_mem_drop mem_of_mem_take mem_range mem_singleton nil_append set_set take_add_one take_length take_nil take_of_length_le take_succ_cons take_zero)
set_option linter.unusedVariables false
set_option linter.unusedSimpArgs false
namespace Go.V.W
theorem Tu {m x:Int} (hm:-1099511627776<=m/\m<=1099511627776) (hx:0<=x/\x<=255):B9 .i64 (tP (m*2^8)) (tP x)=m*256+x:=by
 rw[show m*2^8=m*256 from rfl,uE (show -9223372036854775808<=m*256 by omega) (by omega),uE (show -9223372036854775808<=x by omega) (by omega)];show IntKind.i64.wrap (((BitVec.ofInt 64 (m*256)|||BitVec.ofInt 64 x).toNat:Nat):Int)=_
 rw[BitVec.toNat_or,BitVec.toNat_ofInt,BitVec.toNat_ofInt];have h1:((m*256)%((2^64:Nat):Int)).toNat=2^8*(m%72057594037927936).toNat:=by
  have:((2^64:Nat):Int)=18446744073709551616:=by decide
  rw[this];omega
 have h2:(x%((2^64:Nat):Int)).toNat=x.toNat:=by
  have:((2^64:Nat):Int)=18446744073709551616:=by decide
  rw[this];omega
 rw[h1,h2,←Nat.two_pow_add_eq_or_of_lt (by show x.toNat<2^8;omega)];show (let z:=((2^8*(m%72057594037927936).toNat+x.toNat:Nat):Int)%18446744073709551616;if (true&&decide (z>=9223372036854775808))=true then z-18446744073709551616 else z)=_
 simp only[Bool.true_and,decide_eq_true_eq];split<;>omega
def xN (x:Int):Int:=if x>127 then x-256 else x
def vH (n:Int) (l:List Int):Int:=l.foldl (λn x=>n*256+x) n
theorem OK {n:Int} {l:List Int} (hn:-256<=n/\n<=256) (hl:xa l) (h3:l.length<=3):∀k,k<=l.length -> -1099511627776<=vH n (l.take k)/\vH n (l.take k)<=1099511627776:=by
 match l,h3 with
 | [],_=>intro k hk;simp only[take_nil,vH,List.foldl];omega
 | [a],_ =>
  have ha:=hl a (by simp);intro k hk
  match k with
  | 0=>simp only[take_zero,vH,List.foldl];omega
  | k+1=>simp only[take_succ_cons,take_nil,vH,List.foldl];omega
 | [a,b],_ =>
  have ha:=hl a (by simp);have hb:=hl b (by simp)
  intro k hk
  match k with
  | 0=>simp only[take_zero,vH,List.foldl];omega
  | 1=>simp only[take_succ_cons,take_zero,vH,List.foldl];omega
  | k+2=>simp only[take_succ_cons,take_nil,vH,List.foldl];omega
 | [a,b,c],_ =>
  have ha:=hl a (by simp);have hb:=hl b (by simp)
  have hc:=hl c (by simp);intro k hk
  match k with
  | 0=>simp only[take_zero,vH,List.foldl];omega
  | 1=>simp only[take_succ_cons,take_zero,vH,List.foldl];omega
  | 2=>simp only[take_succ_cons,take_zero,vH,List.foldl];omega
  | k+3=>simp only[take_succ_cons,take_nil,vH,List.foldl];omega
theorem GI {n:Int} {l:List Int} (hn:-256<=n/\n<=256) (hl:xa l) (h3:l.length<=3) {off:Nat} (step:Int×Int->Option ((Int×Int)⊕Int)) (ho:off<=1000)
 (hs:∀k (hk:k<l.length) m,step (m,((off+k:Nat):Int))=some (.inl (B9 .i64 (tP (m*2^8)) (tP l[k]),((off+(k+1):Nat):Int))))
 (he:∀m,step (m,((off+l.length:Nat):Int))=some (.inr m)):loop step (n,(off:Int))=some (vH n l):=by
 obtain⟨b,h1,rfl⟩:=uw (step:=step) (λk z=>z=(vH n (l.take k),((off+k:Nat):Int))) l.length (λb=>b=vH n l)
  (λk z hk e=>by
   subst e;left;refine⟨_,hs k hk _,?_⟩;have ht:l.take (k+1)=l.take k++[l[k]]:=by rw[take_add_one,List.getElem?_eq_getElem hk];rfl
   rw[Tu (OK hn hl h3 k (by omega)) (hl _ (getElem_mem hk)),ht];unfold vH;rw[List.foldl_append];rfl)
  (λz e=>by
   subst e;exact⟨_,he _,by rw[take_length]⟩) (x:=(n,(off:Int))) rfl
 exact h1
theorem NK {x0:Int} {l:List Int} (hb:xa (x0::l)) (h3:l.length<=3):-2147483648<=vH (xN x0) l/\vH (xN x0) l<=2147483647/\((vv (vH (xN x0) l)).length=(x0::l).length->x0::l=vv (vH (xN x0) l)):=by
 have h0:=hb x0 (by simp);have hs:(xN x0=x0/\x0<=127)\/(xN x0=x0-256/\128<=x0):=by unfold xN;split<;>omega
 generalize xN x0=s at hs
 match l,h3 with
 | [],_ =>
  simp only[vH,List.foldl];refine⟨by omega,by omega,λ_=>?_⟩;have:tV s (-128) 127=true:=by unfold tV;rw[dT (by omega),dT (by omega)];rfl
  unfold vv;rw[if_pos this,show s%256=x0 by omega]
 | [a],_ =>
  have ha:=hb a (by simp);simp only[vH,List.foldl];refine⟨by omega,by omega,λh=>?_⟩;unfold vv at h ⊢;split at h
  · simp at h
  · split at h
    · next h1 h2=>rw[if_neg h1,if_pos h2,show (s*256+a)/256%256=x0 by omega,show (s*256+a)%256=a by omega]
    · split at h<;>simp at h
 | [a,b],_ =>
  have ha:=hb a (by simp);have hb':=hb b (by simp)
  simp only[vH,List.foldl];refine⟨by omega,by omega,λh=>?_⟩;unfold vv at h ⊢;split at h
  · simp at h
  · split at h
    · simp at h
    · split at h
      · next h1 h2 h3=>rw[if_neg h1,if_neg h2,if_pos h3,show ((s*256+a)*256+b)/65536%256=x0 by omega,show ((s*256+a)*256+b)/256%256=a by omega,show ((s*256+a)*256+b)%256=b by omega]
      · simp at h
 | [a,b,c],_ =>
  have ha:=hb a (by simp);have hb':=hb b (by simp)
  have hc:=hb c (by simp);simp only[vH,List.foldl];refine⟨by omega,by omega,λh=>?_⟩;unfold vv at h ⊢;split at h
  · simp at h
  · split at h
    · simp at h
    · split at h
      · simp at h
      · next h1 h2 h3=>rw[if_neg h1,if_neg h2,if_neg h3,show (((s*256+a)*256+b)*256+c)/16777216%256=x0 by omega,show (((s*256+a)*256+b)*256+c)/65536%256=a by omega,show (((s*256+a)*256+b)*256+c)/256%256=b by omega,show (((s*256+a)*256+b)*256+c)%256=c by omega]
theorem AW {n:Int} (h:-2147483648<=n/\n<=2147483647):B1 n=n:=by unfold B1;split<;>(try split)<;>omega
theorem i8 {x:Int} (hx:0<=x/\x<=255):tP (IntKind.i8.wrap x)=xN x:=by
 have:IntKind.i8.wrap x=xN x:=by
  show (let m:=x%256;if (true&&decide (m>=128))=true then m-256 else m)=_;unfold xN;simp only[Bool.true_and,decide_eq_true_eq];split<;>split<;>omega
 rw[this];unfold xN;split<;>exact uE (by omega) (by omega)
theorem NL {b:List Int} (hb:xa b) (hn:b.length<=M):∃r,dp b=some r/\ev b=some r/\(r=(0,false)\/∃n,r=(n,true)/\b=vv n /\ -2147483648<=n/\n<=2147483647):=by
 have hn':b.length<=1048576:=hn;unfold dp ev;rw[xt,AL,tN,tN];cases h14:tV (b.length:Int) 1 4 with
 | false=>exact⟨_,rfl,rfl,.inl rfl⟩
 | true =>
  obtain⟨k1,k4⟩:=we h14
  match b,k1,k4,hb,hn' with
  | x0::l,k1,k4,hb,hn' =>
   have h3:l.length<=3:=by rw[length_cons]at k4;omega
   have h0:=hb x0 (by simp);have hl:xa l:=λx hx=>hb x (mem_cons_of_mem _ hx)
   obtain⟨d1,d2,d3⟩:=NK hb h3;have hsg:-256<=xN x0/\xN x0<=256:=by unfold xN;split<;>omega
   have w0:tP x0=x0:=uE (by omega) (by omega);have hcut:cut (x0::l) 1 ((x0::l).length:Int)=some l:=by
    rw[show (1:Int)=((1:Nat):Int)from rfl,yf (by simp) (Nat.le_refl _),take_length];rfl
   have hfin:∀d:Int×Bool,True:=λ_=>trivial;have li:loop (λz:Int×Int=>cr l z.1 z.2) (xN x0,0)=some (vH (xN x0) l):=GI hsg hl h3 (off:=0) _ (by omega) (λk hk m=>by
    show cr l m ((0+k:Nat):Int)=_;rw[Nat.zero_add];unfold cr;rw[ux (by omega),cT,ud hk,tN,u7 (by omega),Nat.zero_add]) (λm=>by
    show cr l m ((0+l.length:Nat):Int)=_;rw[Nat.zero_add];unfold cr;rw[ui (by omega),cF])
   have hat:∀k (hk:k<l.length),at? (x0::l) ((1+k:Nat):Int)=some l[k]:=λk hk=>by
    rw[ud (by simp;omega)]
    congr 1
    rw[List.getElem_cons,dif_neg (by omega)]
    congr 1;omega
   have ls:loop (λz:Int×Int=>cS (x0::l) z.1 z.2) (xN x0,1)=some (vH (xN x0) l):=GI hsg hl h3 (off:=1) _ (by omega) (λk hk m=>by
    show cS (x0::l) m ((1+k:Nat):Int)=_;unfold cS;rw[ux (show ((1+k:Nat):Int)<((x0::l).length:Int) by rw[length_cons];omega),cT,hat k hk,tN,u7 (by omega)];rfl) (λm=>by
    show cS (x0::l) m ((1+l.length:Nat):Int)=_;unfold cS;rw[ui (show ¬((1+l.length:Nat):Int)<((x0::l).length:Int) by rw[length_cons];omega),cF])
   have ls1:loop (λz:Int×Int=>cU (x0::l) z.1 z.2) (xN x0,1)=some (vH (xN x0) l):=GI hsg hl h3 (off:=1) _ (by omega) (λk hk m=>by
    show cU (x0::l) m ((1+k:Nat):Int)=_;unfold cU;rw[ux (show ((1+k:Nat):Int)<((x0::l).length:Int) by rw[length_cons];omega),cT,hat k hk,tN,u7 (by omega)];rfl) (λm=>by
    show cU (x0::l) m ((1+l.length:Nat):Int)=_;unfold cU;rw[ui (show ¬((1+l.length:Nat):Int)<((x0::l).length:Int) by rw[length_cons];omega),cF])
   have fin1:∀(g:Option (List Int)),g=some (vv (vH (xN x0) l))->∃r,(g.bind λt30=>cond ((t30.length:Int) != ((x0::l).length:Int)) (some ((0:Int),false)) (some (vH (xN x0) l,true)))=some r/\(r=(0,false)\/∃n,r=(n,true)/\x0::l=vv n /\ -2147483648<=n/\n<=2147483647):=λg hg=>by
    rw[hg,tN];cases he:(((vv (vH (xN x0) l)).length:Int) != ((x0::l).length:Int))with
    | true=>exact⟨_,rfl,.inl rfl⟩
    | false =>
     have he':((vv (vH (xN x0) l)).length:Int)=((x0::l).length:Int):=by simpa using he
     exact⟨_,rfl,.inr ⟨_,rfl,d3 (by omega),d1,d2⟩⟩
   have p1:=Kq (n:=vH (xN x0) l) ⟨by omega,by omega⟩;have p2:=DO (n:=vH (xN x0) l)
   rw[AW ⟨d1,d2⟩]at p1 p2;obtain⟨r,f1,f2⟩:=fin1 _ p1;have f3:((aV (vH (xN x0) l)).bind λt30=>cond ((t30.length:Int) != ((x0::l).length:Int)) (some ((0:Int),false)) (some (vH (xN x0) l,true)))=some r:=by rw[p2,←p1];exact f1
   refine⟨r,?_,?_,f2⟩
   · rw[Bool.not_true,cF,show at? (x0::l) 0=some x0 from rfl,tN];simp only;rw[hcut,tN,i8 h0,li,tN];exact f1
   · rw[Bool.not_true,cF,show at? (x0::l) 0=some x0 from rfl,tN,w0];by_cases h7:x0>127
     · have hsx:tP (x0-256)=xN x0:=by unfold xN;rw[if_pos h7];exact uE (by omega) (by omega)
       rw[dT h7,cT,hsx,ls,tN];exact f3
     · have hsx:xN x0=x0:=by unfold xN;rw[if_neg h7]
       rw[hsx]at ls1 f3;rw[dF h7,cF,ls1,tN];exact f3

theorem Mt:((2^64:Nat):Int)=18446744073709551616:=by decide
theorem DK {x:Int} (hx:0<=x/\x<9223372036854775808):yJ .i64 x 127=x%128:=by
 show IntKind.i64.wrap (((BitVec.ofInt 64 x&&&BitVec.ofInt 64 127).toNat:Nat):Int)=_;rw[BitVec.toNat_and,BitVec.toNat_ofInt,BitVec.toNat_ofInt,Mt];have h2:((127:Int)%18446744073709551616).toNat=2^7-1:=by decide
 have h1:(x%18446744073709551616).toNat=x.toNat:=by omega
 rw[h1,h2,Nat.and_two_pow_sub_one_eq_mod];show (let z:=((x.toNat%2^7:Nat):Int)%18446744073709551616;if (true&&decide (z>=9223372036854775808))=true then z-18446744073709551616 else z)=_
 simp only[Bool.true_and,decide_eq_true_eq];split<;>omega
theorem Ed {x:Int} (hx:0<=x/\x<=255):yJ .u8 x 127=x%128:=by
 show IntKind.u8.wrap (((BitVec.ofInt 8 x&&&BitVec.ofInt 8 127).toNat:Nat):Int)=_;rw[BitVec.toNat_and,BitVec.toNat_ofInt,BitVec.toNat_ofInt,show ((2^8:Nat):Int)=256 by decide];have h2:((127:Int)%256).toNat=2^7-1:=by decide
 have h1:(x%256).toNat=x.toNat:=by omega
 rw[h1,h2,Nat.and_two_pow_sub_one_eq_mod];show (((x.toNat%2^7:Nat):Int)%256)=_
 omega
theorem Rf {x:Int} (hx:0<=x/\x<128):B9 .i64 x 128=x+128:=by
 show IntKind.i64.wrap (((BitVec.ofInt 64 x|||BitVec.ofInt 64 128).toNat:Nat):Int)=_;rw[BitVec.toNat_or,BitVec.toNat_ofInt,BitVec.toNat_ofInt,Mt];have h2:((128:Int)%18446744073709551616).toNat=2^7*1:=by decide
 have h1:(x%18446744073709551616).toNat=x.toNat:=by omega
 rw[h1,h2,Nat.or_comm,←Nat.two_pow_add_eq_or_of_lt (by show x.toNat<2^7;omega)];show (let z:=((2^7*1+x.toNat:Nat):Int)%18446744073709551616;if (true&&decide (z>=9223372036854775808))=true then z-18446744073709551616 else z)=_
 simp only[Bool.true_and,decide_eq_true_eq];split<;>omega
theorem Mu {m x:Int} (hm:0<=m/\m<=1099511627776) (hx:0<=x/\x<128):B9 .i64 (tP (m*2^7)) (tP x)=m*128+x:=by
 rw[show m*2^7=m*128 from rfl,uE (show -9223372036854775808<=m*128 by omega) (by omega),uE (show -9223372036854775808<=x by omega) (by omega)];show IntKind.i64.wrap (((BitVec.ofInt 64 (m*128)|||BitVec.ofInt 64 x).toNat:Nat):Int)=_
 rw[BitVec.toNat_or,BitVec.toNat_ofInt,BitVec.toNat_ofInt,Mt];have h1:((m*128)%18446744073709551616).toNat=2^7*m.toNat:=by omega
 have h2:(x%18446744073709551616).toNat=x.toNat:=by omega
 rw[h1,h2,←Nat.two_pow_add_eq_or_of_lt (by show x.toNat<2^7;omega)];show (let z:=((2^7*m.toNat+x.toNat:Nat):Int)%18446744073709551616;if (true&&decide (z>=9223372036854775808))=true then z-18446744073709551616 else z)=_
 simp only[Bool.true_and,decide_eq_true_eq];split<;>omega
def grp (n:Int):List Int:=if n<=127 then [n]else if n<=16383 then [n/128+128,n%128]else if n<=2097151 then [n/16384+128,n/128%128+128,n%128]else [n/2097152+128,n/16384%128+128,n/128%128+128,n%128]
def uz (o:List Int):List Int:=o.flatMap grp
theorem OL {n:Int} (hn:0<=n/\n<268435456):cV n=some (grp n):=by
 unfold cV;have st:∀(x:Int) (out:List Int),0<=x/\x<268435456->out.length<=10->bI x out=cond (decide (x>127)) (some (.inl (x/128,(x/128%128+128)::out))) (some (.inr out)):=λx out hx ho=>by
  unfold bI;rw[fd x (by decide),show (2:Int)^7=128 from rfl,DK (by omega),Rf (by omega),w8,u6 (by simp;omega),tN,show (x/128%128+128)%256=x/128%128+128 by omega];rfl
 have goes:∀(x:Int) (out:List Int),0<=x/\x<268435456->out.length<=9->x<=127->loop (λz:Int×List Int=>bI z.1 z.2) (x,out)=some out:=λx out hx ho h=>un (by show bI x out=_;rw[st x out hx (by omega),dF (by omega)];rfl);have more:∀(x:Int) (out r:List Int),0<=x/\x<268435456->out.length<=9->127<x->loop (λz:Int×List Int=>bI z.1 z.2) (x/128,(x/128%128+128)::out)=some r->loop (λz:Int×List Int=>bI z.1 z.2) (x,out)=some r:=λx out r hx ho h k=>ug (by show bI x out=_;rw[st x out hx (by omega),dT (by omega)];rfl) k
 rw[DK (by omega),w8,show n%128%256=n%128 by omega];unfold grp;by_cases h1:n<=127
 · rw[if_pos h1,goes n _ hn (by simp) h1,show n%128=n by omega];rfl
 rw[if_neg h1];by_cases h2:n<=16383
 · rw[if_pos h2,more n _ _ hn (by simp) (by omega) (goes (n/128) _ (by omega) (by simp) (by omega)),show n/128%128=n/128 by omega];rfl
 rw[if_neg h2];by_cases h3:n<=2097151
 · rw[if_pos h3,more n _ _ hn (by simp) (by omega) (more (n/128) _ _ (by omega) (by simp) (by omega) (goes (n/128/128) _ (by omega) (by simp) (by omega))),show n/128/128=n/16384 by omega,show n/16384%128=n/16384 by omega];rfl
 rw[if_neg h3,more n _ _ hn (by simp) (by omega) (more (n/128) _ _ (by omega) (by simp) (by omega) (more (n/128/128) _ _ (by omega) (by simp) (by omega) (goes (n/128/128/128) _ (by omega) (by simp) (by omega)))),show n/128/128=n/16384 by omega,show n/16384/128=n/2097152 by omega,show n/2097152%128=n/2097152 by omega];rfl
theorem Id (n:Int):(grp n).length<=4:=by unfold grp;split<;>(try split)<;>(try split)<;>simp
theorem Lp (n:Int):1<=(grp n).length:=by unfold grp;split<;>(try split)<;>(try split)<;>simp
theorem OM {n:Int} (h:n<=100000):(grp n).length<=3:=by unfold grp;split<;>(try split)<;>(try split)<;>simp<;>omega
theorem A8 {o:List Int} (h:∀x∈o,x<=100000):(uz o).length<=3*o.length:=by
 induction o with
 | nil=>simp[uz]
 | cons x t ih =>
  have h1:=ih λy hy=>h y (mem_cons_of_mem _ hy);have h2:=OM (h x (by simp))
  unfold uz at h1 ⊢;rw[List.flatMap_cons,length_append,length_cons];omega
theorem Tv {n:Int} (hn:0<=n/\n<=100000) {out:List Int} (ho:out.length<=100):∃d,loop (λz=>bu n z) 0=some d/\∃e,loop (λz:Int×List Int=>bO n z.1 z.2) (d,out)=some e/\e.length<=104/\e++[IntKind.u8.wrap (yJ .i64 n 127)]=out++grp n:=by
 have s0:bu n 0=cond (decide (n>127)) (some (.inl 1)) (some (.inr 0)):=by
  unfold bu;rw[show shr .i64 n (tP (7*0))=some (n.fdiv (2^0))from rfl,tN,fd n (by decide),show n/2^0=n by simp];rfl
 have s1:bu n 1=cond (decide (n/128>127)) (some (.inl 2)) (some (.inr 1)):=by
  unfold bu;rw[show shr .i64 n (tP (7*1))=some (n.fdiv (2^7))from rfl,tN,fd n (by decide),show (2:Int)^7=128 from rfl];rfl
 have s2:bu n 2=some (.inr 2):=by
  unfold bu;rw[show shr .i64 n (tP (7*2))=some (n.fdiv (2^14))from rfl,tN,fd n (by decide),show (2:Int)^14=16384 from rfl,dF (by omega)];rfl
 have t0:∀o:List Int,bO n 0 o=some (.inr o):=λo=>rfl;have t1:∀o:List Int,o.length<=110->bO n 1 o=some (.inl (0,o++[n/128%128+128])):=λo ho=>by
  unfold bO;rw[show shr .i64 n (tP (7*1))=some (n.fdiv (2^7))from rfl,tN,fd n (by decide),show (2:Int)^7=128 from rfl,DK (by omega),uE (by omega) (by omega),w8,u6 (by simp;omega),tN,show (n/128%128+128)%256=n/128%128+128 by omega];rfl
 have t2:∀o:List Int,o.length<=110->bO n 2 o=some (.inl (1,o++[n/16384%128+128])):=λo ho=>by
  unfold bO;rw[show shr .i64 n (tP (7*2))=some (n.fdiv (2^14))from rfl,tN,fd n (by decide),show (2:Int)^14=16384 from rfl,DK (by omega),uE (by omega) (by omega),w8,u6 (by simp;omega),tN,show (n/16384%128+128)%256=n/16384%128+128 by omega];rfl
 rw[DK (by omega),w8,show n%128%256=n%128 by omega];unfold grp;by_cases h1:n<=127
 · rw[dF (by omega)]at s0;refine⟨0,un s0,out,un (t0 out),by omega,?_⟩;rw[if_pos h1,show n%128=n by omega]
 rw[dT (by omega)]at s0;by_cases h2:n<=16383
 · rw[dF (by omega)]at s1;refine⟨1,ug s0 (un s1),_,ug (t1 out (by omega)) (un (t0 _)),by simp;omega,?_⟩;rw[if_neg h1,if_pos h2,show n/128%128=n/128 by omega];simp
 rw[dT (by omega)]at s1;refine⟨2,ug s0 (ug s1 (un s2)),_,ug (t2 out (by omega)) (ug (t1 _ (by simp;omega)) (un (t0 _))),by simp;omega,?_⟩;rw[if_neg h1,if_neg h2,if_pos (by omega),show n/16384%128=n/16384 by omega];simp
theorem Rg {o:List Int} (hn:o.length<=M):∃v,ah o=some v/\(v=true->1<=o.length/\o.length<=10/\∀x∈o,0<=x/\x<=100000)/\bP o=some (cond v (uz o) []):=by
 have hn':o.length<=1048576:=hn;obtain⟨v,hv,hv2⟩:∃v,ah o=some v/\(v=true->1<=o.length/\o.length<=10/\∀x∈o,0<=x/\x<=100000):=by
  unfold ah;obtain⟨b,h1,h2⟩:=uw (β:=Unit⊕Bool) (step:=λz=>aH o z) (λk i=>i=(k:Int)/\∀x∈o.take k,0<=x/\x<=100000) o.length (λb=>(b=.inl ()/\∀x∈o,0<=x/\x<=100000)\/b=.inr false)
   (λk i hk ⟨e,hx⟩=>by
    subst e;have hs:aH o (k:Int)=cond (!(tV o[k] 0 100000)) (some (.inr (.inr false))) (some (.inl ((k+1:Nat):Int))):=by
     unfold aH;rw[ux (by omega),cT,ud hk,tN,xt,tN,u7 (by omega)]
    cases hp:tV o[k] 0 100000 with
    | false=>exact .inr ⟨_,by rw[hs,hp];rfl,.inr rfl⟩
    | true =>
     refine .inl ⟨_,by rw[hs,hp];rfl,rfl,λx hx'=>?_⟩;rw[take_add_one,List.getElem?_eq_getElem hk,mem_append]at hx';rcases hx' with hx'|hx'
     · exact hx x hx'
     · simp at hx';subst hx';exact we hp)
   (λi ⟨e,hx⟩=>by
    subst e;rw[take_length]at hx;refine⟨.inl (),?_,.inl ⟨rfl,hx⟩⟩;unfold aH;rw[ui (by omega),cF]) (x:=0) ⟨rfl,by simp⟩
  rw[h1,tN];rcases h2 with ⟨rfl,hx⟩|rfl
  · simp only[Sum.elim_inl,xt,tN];refine⟨_,rfl,λh=>?_⟩;have:=we h
    exact⟨by omega,by omega,hx⟩
  · exact⟨false,rfl,λh=>by cases h⟩
 refine⟨v,hv,hv2,?_⟩;unfold bP;rw[hv,tN];cases v with
 | false=>rfl
 | true =>
  obtain⟨h1,h10,hx⟩:=hv2 rfl;obtain⟨b,e1,rfl⟩:=uw (step:=λz:Int×List Int=>ct o z.1 z.2) (λk z=>z=((k:Int),uz (o.take k))) o.length (λb=>b=uz o)
   (λk z hk e=>by
    subst e;left;have hl:(uz (o.take k)).length<=30:=by
     have:=A8 (o:=o.take k) λx hx'=>(hx x (mem_of_mem_take hx')).2;rw[length_take]at this;omega
    obtain⟨d,d1,e,e1,e2,e3⟩:=Tv (hx _ (getElem_mem hk)) (out:=uz (o.take k)) (by omega);have ht:uz (o.take (k+1))=uz (o.take k)++grp o[k]:=by
     unfold uz;rw[take_add_one,List.getElem?_eq_getElem hk,flatMap_append];simp
    refine⟨_,?_,rfl⟩;show ct o (k:Int) (uz (o.take k))=_
    unfold ct;rw[ux (by omega),cT,ud hk,tN,d1,tN,e1,tN,u6 (by simp;omega),tN,u7 (by omega),ht,←e3])
   (λz e=>by
    subst e;refine⟨uz o,?_,rfl⟩;show ct o (o.length:Int) (uz (o.take o.length))=_
    unfold ct;rw[ui (by omega),cF,take_length]) (x:=(0,[])) rfl
  rw[e1];rfl

theorem Ie {n:Int} (h:0<=n/\n<268435456):xa (grp n):=by
 unfold grp;intro x hx;split at hx
 · simp at hx;omega
 · split at hx
   · simp at hx;omega
   · split at hx
     · simp at hx;omega
     · simp at hx;omega
theorem Su {pre rest out:List Int} {n:Int} (hn:0<=n/\n<=100000) (hp:pre.length<=30) (ho:out.length<=100) {r:List Int⊕(Bool×List Int)}
 (k:loop (λz:Int×Int×List Int=>aq (pre++(grp n++rest)) z.1 z.2.1 z.2.2) (0,((pre.length+(grp n).length:Nat):Int),out++[n])=some r) :
 loop (λz:Int×Int×List Int=>aq (pre++(grp n++rest)) z.1 z.2.1 z.2.2) (0,(pre.length:Int),out)=some r:=by
 have hg:=Ie (n:=n) (by omega);have st:∀(m:Int) (j:Nat) (o:List Int) (hj:j<(grp n).length),0<=m/\m<=1048576->o.length<=100->aq (pre++(grp n++rest)) m ((pre.length+j:Nat):Int) o=cond (decide ((grp n)[j]<128)) (some (.inl (0,((pre.length+(j+1):Nat):Int),o++[m*128+(grp n)[j]%128]))) (some (.inl (m*128+(grp n)[j]%128,((pre.length+(j+1):Nat):Int),o))):=λm j o hj hm ho=>by
  have h4:=Id n;have hx:=hg _ (getElem_mem hj)
  have hat:at? (pre++(grp n++rest)) ((pre.length+j:Nat):Int)=some (grp n)[j]:=by
   rw[DP,ud (by rw[length_append];omega),List.getElem_append_left hj]
  unfold aq;rw[ux (show ((pre.length+j:Nat):Int)<((pre++(grp n++rest)).length:Int) by rw[length_append,length_append];omega),cT,hat,tN,dF (show ¬((pre.length+j:Nat):Int)>=40 by omega),cF,Ed hx,u7 (by omega)];have hmin:min2 m 1048576=m:=by unfold min2;split<;>omega
  rw[hmin,Mu (by omega) (by omega)];simp only;rw[u6 (by simp;omega),tN];rfl
 have h4:=Id n;have hz:(0:Int)*128=0:=rfl
 unfold grp at k st ⊢;by_cases h1:n<=127
 · rw[if_pos h1]at k st ⊢;have s0:=st 0 0 out (by simp) (by omega) ho
   simp only[getElem_cons_zero,Nat.add_zero]at s0;rw[dT (by omega),cT,show (0:Int)*128+n%128=n by omega]at s0;exact ug s0 k
 rw[if_neg h1]at k st ⊢;by_cases h2:n<=16383
 · rw[if_pos h2]at k st ⊢;have s0:=st 0 0 out (by simp) (by omega) ho
   have s1:=st (n/128) 1 out (by simp) (by omega) ho;simp only[getElem_cons_zero,getElem_cons_succ,Nat.add_zero,Nat.zero_add,Nat.reduceAdd]at s0 s1;rw[dF (by omega),cF,show (0:Int)*128+(n/128+128)%128=n/128 by omega]at s0;rw[dT (by omega),cT,show n/128*128+n%128%128=n by omega]at s1;exact ug s0 (ug s1 k)
 rw[if_neg h2]at k st ⊢;rw[if_pos (show n<=2097151 by omega)]at k st ⊢;have s0:=st 0 0 out (by simp) (by omega) ho
 have s1:=st (n/16384) 1 out (by simp) (by omega) ho;have s2:=st (n/128) 2 out (by simp) (by omega) ho
 simp only[getElem_cons_zero,getElem_cons_succ,Nat.add_zero,Nat.zero_add,Nat.reduceAdd]at s0 s1 s2;rw[dF (by omega),cF,show (0:Int)*128+(n/16384+128)%128=n/16384 by omega]at s0;rw[dF (by omega),cF,show n/16384*128+(n/128%128+128)%128=n/128 by omega]at s1;rw[dT (by omega),cT,show n/128*128+n%128%128=n by omega]at s2;exact ug s0 (ug s1 (ug s2 k))
theorem JY {b:List Int}:∀(o pre out:List Int),b=pre++uz o->(∀x∈o,0<=x/\x<=100000)->b.length<=30->out.length+o.length<=20->loop (λz:Int×Int×List Int=>aq b z.1 z.2.1 z.2.2) (0,(pre.length:Int),out)=some (.inl (out++o))
 | [],pre,out,e,_,hb,_=>by
  have:b.length=pre.length:=by rw[e];simp[uz]
  refine un ?_;show aq b 0 (pre.length:Int) out=_
  unfold aq;rw[ui (by omega),cF,append_nil]
 | n::o,pre,out,e,hx,hb,hl=>by
  have e1:b=pre++(grp n++uz o):=by rw[e];rfl
  have e2:b=(pre++grp n)++uz o:=by rw[e1,append_assoc]
  have ih:=JY o (pre++grp n) (out++[n]) e2 (λx h=>hx x (mem_cons_of_mem _ h)) hb (by simp at hl ⊢;omega);rw[length_append,append_assoc]at ih;have hpl:pre.length<=30:=by rw[e1,length_append]at hb;omega
  rw[length_cons]at hl;rw[e1]at ih ⊢;exact Su (hx n (by simp)) hpl (by omega) ih
theorem Sv {b pre s:List Int} (e:b=pre++s) (hb:xa b) (hn:b.length<=M):∃d:Int×Int×Int×Bool,loop (λz:Int×Int×Int×Bool=>aA b z.1 z.2.1 z.2.2.1 z.2.2.2) ((pre.length:Int),0,0,true)=some d /\
 (d.2.2.2=true\/∃l rest:List Int,s=l++rest/\1<=l.length/\d=(((pre.length+l.length:Nat):Int),d.2.1,(l.length:Int),false)/\0<=d.2.1/\d.2.1<268435456/\((grp d.2.1).length=l.length->l=grp d.2.1))/\0<=d.2.1/\d.2.1<268435456/\0<=d.1/\d.1<=(b.length:Int):=by
 have hn':b.length<=1048576:=hn;have hlen:b.length=pre.length+s.length:=by rw[e,length_append]
 have st:∀(m:Int) (j:Nat) (hj:j<s.length),j<4->0<=m/\m<=2097152->aA b ((pre.length+j:Nat):Int) m (j:Int) true=some (.inl (((pre.length+(j+1):Nat):Int),m*128+s[j]%128,((j+1:Nat):Int),decide (s[j]>127))):=λm j hj h4 hm=>by
  have hx:0<=s[j]/\s[j]<=255:=hb _ (by rw[e];exact List.mem_append_right _ (getElem_mem hj));have hat:at? b ((pre.length+j:Nat):Int)=some s[j]:=by rw[e,DP,ud hj]
  unfold aA;rw[ux (show ((pre.length+j:Nat):Int)<(b.length:Int) by omega),cT,tN,cT,ux (show (j:Int)<4 by omega),tN,cT,hat,tN,tN,Ed hx,Mu (by omega) (by omega),u7 (by omega),u7 (by omega)];rfl
 have stop:∀(m:Int) (j:Nat),aA b ((pre.length+j:Nat):Int) m (j:Int) false=some (.inr (((pre.length+j:Nat):Int),m,(j:Int),false)):=λm j=>by
  unfold aA;rfl
 have endd:∀(m:Int) (j:Nat),(s.length<=j\/4<=j)->aA b ((pre.length+j:Nat):Int) m (j:Int) true=some (.inr (((pre.length+j:Nat):Int),m,(j:Int),true)):=λm j h=>by
  unfold aA;rw[cT,tN];by_cases h1:((pre.length+j:Nat):Int)<(b.length:Int)
  · rw[ux h1,cT,ui (show ¬(j:Int)<4 by omega)];rfl
  · rw[ui h1,cF];rfl
 have hsx:∀j (hj:j<s.length),0<=s[j]/\s[j]<=255:=λj hj=>hb _ (by rw[e];exact List.mem_append_right _ (getElem_mem hj));by_cases l0:s.length<=0
 · exact⟨_,un (endd 0 0 (.inl l0)),.inl rfl,by show (0:Int)<=0/\(0:Int)<_/\_;omega⟩
 have a0:=st 0 0 (by omega) (by omega) (by omega);have x0:=hsx 0 (by omega)
 generalize g0:s[0]=y0 at a0 x0;by_cases m0:y0>127
 · rw[dT m0]at a0;by_cases l1:s.length<=1
   · exact⟨_,ug a0 (un (endd _ 1 (.inl l1))),.inl rfl,by show 0<=(0:Int)*128+y0%128/\(0:Int)*128+y0%128<_/\(0:Int)<=((pre.length+1:Nat):Int)/\((pre.length+1:Nat):Int)<=_;omega⟩
   have a1:=st (0*128+y0%128) 1 (by omega) (by omega) (by omega);have x1:=hsx 1 (by omega)
   generalize g1:s[1]=y1 at a1 x1;by_cases m1:y1>127
   · rw[dT m1]at a1;by_cases l2:s.length<=2
     · exact⟨_,ug a0 (ug a1 (un (endd _ 2 (.inl l2)))),.inl rfl,by show 0<=((0:Int)*128+y0%128)*128+y1%128/\((0:Int)*128+y0%128)*128+y1%128<_/\(0:Int)<=((pre.length+2:Nat):Int)/\((pre.length+2:Nat):Int)<=_;omega⟩
     have a2:=st ((0*128+y0%128)*128+y1%128) 2 (by omega) (by omega) (by omega);have x2:=hsx 2 (by omega)
     generalize g2:s[2]=y2 at a2 x2;by_cases m2:y2>127
     · rw[dT m2]at a2;by_cases l3:s.length<=3
       · exact⟨_,ug a0 (ug a1 (ug a2 (un (endd _ 3 (.inl l3))))),.inl rfl,by show 0<=(((0:Int)*128+y0%128)*128+y1%128)*128+y2%128/\(((0:Int)*128+y0%128)*128+y1%128)*128+y2%128<_/\(0:Int)<=((pre.length+3:Nat):Int)/\((pre.length+3:Nat):Int)<=_;omega⟩
       have a3:=st (((0*128+y0%128)*128+y1%128)*128+y2%128) 3 (by omega) (by omega) (by omega);have x3:=hsx 3 (by omega)
       generalize g3:s[3]=y3 at a3 x3;by_cases m3:y3>127
       · rw[dT m3]at a3;exact⟨_,ug a0 (ug a1 (ug a2 (ug a3 (un (endd _ 4 (.inr (by omega))))))),.inl rfl,by show 0<=((((0:Int)*128+y0%128)*128+y1%128)*128+y2%128)*128+y3%128/\((((0:Int)*128+y0%128)*128+y1%128)*128+y2%128)*128+y3%128<_/\(0:Int)<=((pre.length+4:Nat):Int)/\((pre.length+4:Nat):Int)<=_;omega⟩
       · rw[dF m3]at a3;have d0:s.drop 0=s[0]::s.drop 1:=drop_eq_getElem_cons (by omega)
         have d1:s.drop 1=s[1]::s.drop 2:=drop_eq_getElem_cons (by omega);have d2:s.drop 2=s[2]::s.drop 3:=drop_eq_getElem_cons (by omega)
         have d3:s.drop 3=s[3]::s.drop 4:=drop_eq_getElem_cons (by omega);have hs:s=y0::y1::y2::y3::s.drop 4:=by
          rw[drop_zero]at d0;exact d0.trans (by rw[g0,d1,g1,d2,g2,d3,g3])
         refine⟨_,ug a0 (ug a1 (ug a2 (ug a3 (un (stop _ 4))))),.inr ⟨[y0,y1,y2,y3],s.drop 4,hs,by simp,rfl,?_,?_,?_⟩,?_⟩
         · show 0<=((((0:Int)*128+y0%128)*128+y1%128)*128+y2%128)*128+y3%128;omega
         · show ((((0:Int)*128+y0%128)*128+y1%128)*128+y2%128)*128+y3%128<_;omega
         · show (grp (((((0:Int)*128+y0%128)*128+y1%128)*128+y2%128)*128+y3%128)).length=_->_=grp (((((0:Int)*128+y0%128)*128+y1%128)*128+y2%128)*128+y3%128);intro h;generalize hv:((((0:Int)*128+y0%128)*128+y1%128)*128+y2%128)*128+y3%128=v at h ⊢;unfold grp at h ⊢;split at h
           · simp at h
           · split at h
             · simp at h
             · split at h
               · simp at h
               · next q1 q2 q3=>rw[if_neg q1,if_neg q2,if_neg q3,show v/2097152+128=y0 by omega,show v/16384%128+128=y1 by omega,show v/128%128+128=y2 by omega,show v%128=y3 by omega]
         · show 0<=((((0:Int)*128+y0%128)*128+y1%128)*128+y2%128)*128+y3%128/\((((0:Int)*128+y0%128)*128+y1%128)*128+y2%128)*128+y3%128<_/\(0:Int)<=((pre.length+4:Nat):Int)/\((pre.length+4:Nat):Int)<=_;omega
     · rw[dF m2]at a2;have d0:s.drop 0=s[0]::s.drop 1:=drop_eq_getElem_cons (by omega)
       have d1:s.drop 1=s[1]::s.drop 2:=drop_eq_getElem_cons (by omega);have d2:s.drop 2=s[2]::s.drop 3:=drop_eq_getElem_cons (by omega)
       have hs:s=y0::y1::y2::s.drop 3:=by
        rw[drop_zero]at d0;exact d0.trans (by rw[g0,d1,g1,d2,g2])
       refine⟨_,ug a0 (ug a1 (ug a2 (un (stop _ 3)))),.inr ⟨[y0,y1,y2],s.drop 3,hs,by simp,rfl,?_,?_,?_⟩,?_⟩
       · show 0<=(((0:Int)*128+y0%128)*128+y1%128)*128+y2%128;omega
       · show (((0:Int)*128+y0%128)*128+y1%128)*128+y2%128<_;omega
       · show (grp ((((0:Int)*128+y0%128)*128+y1%128)*128+y2%128)).length=_->_=grp ((((0:Int)*128+y0%128)*128+y1%128)*128+y2%128);intro h;generalize hv:(((0:Int)*128+y0%128)*128+y1%128)*128+y2%128=v at h ⊢;unfold grp at h ⊢;split at h
         · simp at h
         · split at h
           · simp at h
           · split at h
             · next q1 q2 q3=>rw[if_neg q1,if_neg q2,if_pos q3,show v/16384+128=y0 by omega,show v/128%128+128=y1 by omega,show v%128=y2 by omega]
             · simp at h
       · show 0<=(((0:Int)*128+y0%128)*128+y1%128)*128+y2%128/\(((0:Int)*128+y0%128)*128+y1%128)*128+y2%128<_/\(0:Int)<=((pre.length+3:Nat):Int)/\((pre.length+3:Nat):Int)<=_;omega
   · rw[dF m1]at a1;have d0:s.drop 0=s[0]::s.drop 1:=drop_eq_getElem_cons (by omega)
     have d1:s.drop 1=s[1]::s.drop 2:=drop_eq_getElem_cons (by omega);have hs:s=y0::y1::s.drop 2:=by
      rw[drop_zero]at d0;exact d0.trans (by rw[g0,d1,g1])
     refine⟨_,ug a0 (ug a1 (un (stop _ 2))),.inr ⟨[y0,y1],s.drop 2,hs,by simp,rfl,?_,?_,?_⟩,?_⟩
     · show 0<=((0:Int)*128+y0%128)*128+y1%128;omega
     · show ((0:Int)*128+y0%128)*128+y1%128<_;omega
     · show (grp (((0:Int)*128+y0%128)*128+y1%128)).length=_->_=grp (((0:Int)*128+y0%128)*128+y1%128);intro h;generalize hv:((0:Int)*128+y0%128)*128+y1%128=v at h ⊢;unfold grp at h ⊢;split at h
       · simp at h
       · split at h
         · next q1 q2=>rw[if_neg q1,if_pos q2,show v/128+128=y0 by omega,show v%128=y1 by omega]
         · split at h<;>simp at h
     · show 0<=((0:Int)*128+y0%128)*128+y1%128/\((0:Int)*128+y0%128)*128+y1%128<_/\(0:Int)<=((pre.length+2:Nat):Int)/\((pre.length+2:Nat):Int)<=_;omega
 · rw[dF m0]at a0;have d0:s.drop 0=s[0]::s.drop 1:=drop_eq_getElem_cons (by omega)
   have hs:s=y0::s.drop 1:=by
    rw[drop_zero]at d0;exact d0.trans (by rw[g0])
   refine⟨_,ug a0 (un (stop _ 1)),.inr ⟨[y0],s.drop 1,hs,by simp,rfl,?_,?_,?_⟩,?_⟩
   · show 0<=(0:Int)*128+y0%128;omega
   · show (0:Int)*128+y0%128<_;omega
   · show (grp ((0:Int)*128+y0%128)).length=_->_=grp ((0:Int)*128+y0%128);intro h;generalize hv:(0:Int)*128+y0%128=v at h ⊢;unfold grp at h ⊢;split at h
     · next q1=>rw[if_pos q1,show v=y0 by omega]
     · split at h
       · simp at h
       · split at h<;>simp at h
   · show 0<=(0:Int)*128+y0%128/\(0:Int)*128+y0%128<_/\(0:Int)<=((pre.length+1:Nat):Int)/\((pre.length+1:Nat):Int)<=_;omega

def Tw (o:List Int):Prop:=1<=o.length/\o.length<=10/\∀x∈o,0<=x/\x<=100000
theorem Sw {pre rest:List Int} {n:Int} (hn:0<=n/\n<=100000) (hp:pre.length<=1000):loop (λz:Int×Int×Int×Bool=>aA (pre++(grp n++rest)) z.1 z.2.1 z.2.2.1 z.2.2.2) ((pre.length:Int),0,0,true)=some (((pre.length+(grp n).length:Nat):Int),n,((grp n).length:Int),false):=by
 have hg:=Ie (n:=n) (by omega);have st:∀(m:Int) (j:Nat) (hj:j<(grp n).length),j<4->0<=m/\m<=2097152->aA (pre++(grp n++rest)) ((pre.length+j:Nat):Int) m (j:Int) true=some (.inl (((pre.length+(j+1):Nat):Int),m*128+(grp n)[j]%128,((j+1:Nat):Int),decide ((grp n)[j]>127))):=λm j hj h4 hm=>by
  have hx:=hg _ (getElem_mem hj);have hat:at? (pre++(grp n++rest)) ((pre.length+j:Nat):Int)=some (grp n)[j]:=by rw[DP,ud (by rw[length_append];omega),List.getElem_append_left hj]
  unfold aA;rw[ux (show ((pre.length+j:Nat):Int)<((pre++(grp n++rest)).length:Int) by rw[length_append,length_append];omega),cT,tN,cT,ux (show (j:Int)<4 by omega),tN,cT,hat,tN,tN,Ed hx,Mu (by omega) (by omega),u7 (by omega),u7 (by omega)];rfl
 have stop:∀(m:Int) (j:Nat),aA (pre++(grp n++rest)) ((pre.length+j:Nat):Int) m (j:Int) false=some (.inr (((pre.length+j:Nat):Int),m,(j:Int),false)):=λm j=>by
  unfold aA;rfl
 unfold grp at st stop ⊢;by_cases h1:n<=127
 · rw[if_pos h1]at st stop ⊢;have s0:=st 0 0 (by simp) (by omega) (by omega)
   simp only[getElem_cons_zero]at s0;rw[dF (by omega),show (0:Int)*128+n%128=n by omega]at s0;exact ug s0 (un (stop n 1))
 rw[if_neg h1]at st stop ⊢;by_cases h2:n<=16383
 · rw[if_pos h2]at st stop ⊢;have s0:=st 0 0 (by simp) (by omega) (by omega)
   have s1:=st (n/128) 1 (by simp) (by omega) (by omega);simp only[getElem_cons_zero,getElem_cons_succ]at s0 s1;rw[dT (by omega),show (0:Int)*128+(n/128+128)%128=n/128 by omega]at s0;rw[dF (by omega),show n/128*128+n%128%128=n by omega]at s1;exact ug s0 (ug s1 (un (stop n 2)))
 rw[if_neg h2]at st stop ⊢;rw[if_pos (show n<=2097151 by omega)]at st stop ⊢;have s0:=st 0 0 (by simp) (by omega) (by omega)
 have s1:=st (n/16384) 1 (by simp) (by omega) (by omega);have s2:=st (n/128) 2 (by simp) (by omega) (by omega)
 simp only[getElem_cons_zero,getElem_cons_succ]at s0 s1 s2;rw[dT (by omega),show (0:Int)*128+(n/16384+128)%128=n/16384 by omega]at s0;rw[dT (by omega),show n/16384*128+(n/128%128+128)%128=n/128 by omega]at s1;rw[dF (by omega),show n/128*128+n%128%128=n by omega]at s2;exact ug s0 (ug s1 (ug s2 (un (stop n 3))))
theorem JZ {b:List Int}:∀(o pre out:List Int),b=pre++uz o->(∀x∈o,0<=x/\x<=100000)->b.length<=30->out.length+o.length<=10->loop (λz:Int×List Int=>ao b z.1 z.2) ((pre.length:Int),out)=some (.inl ((b.length:Int),out++o))
 | [],pre,out,e,_,hb,_=>by
  have hbl:b.length=pre.length:=by rw[e];simp[uz]
  refine un ?_;show ao b (pre.length:Int) out=_
  unfold ao;rw[ui (by omega),cF,tN,cF,append_nil,hbl]
 | n::o,pre,out,e,hx,hb,hl=>by
  have e1:b=pre++(grp n++uz o):=by rw[e];rfl
  have e2:b=(pre++grp n)++uz o:=by rw[e1,append_assoc]
  rw[length_cons]at hl;have ih:=JZ o (pre++grp n) (out++[n]) e2 (λx h=>hx x (mem_cons_of_mem _ h)) hb (by simp;omega)
  rw[length_append,append_assoc]at ih;have hpl:pre.length<=30:=by rw[e1,length_append]at hb;omega
  have hg1:=Lp n;have hbl:b.length=pre.length+(grp n).length+(uz o).length:=by rw[e2,length_append,length_append]
  have hr:=Sw (pre:=pre) (rest:=uz o) (hx n (by simp)) (by omega);rw[←e1]at hr;refine ug ?_ ih;show ao b (pre.length:Int) out=_
  unfold ao;rw[ux (show (pre.length:Int)<(b.length:Int) by omega),cT,dT (show (out.length:Int)<=10 by omega),tN,cT,hr,tN];have hx':=hx n (by simp)
  simp only[cF];rw[OL (by omega),tN,tN];simp only[bne_self_eq_false,cF];rw[u6 (by simp;omega),tN]
theorem K0 (a:List Int) (n:Int):uz (a++[n])=uz a++grp n:=by unfold uz;rw[flatMap_append];simp
theorem Rh {b:List Int} (hb:xa b) (hn:b.length<=M):∃v,loop (λz:Int×List Int=>ao b z.1 z.2) (0,[])=some v/\(v=.inr (false,[])\/∃out s,v=.inl (((uz out).length:Int),out)/\b=uz out++s/\out.length<=11):=by
 have hn':b.length<=1048576:=hn;exact uw (step:=λz:Int×List Int=>ao b z.1 z.2) (λk z=>z.2.length=k/\z.1=((uz z.2).length:Int)/\∃s,b=uz z.2++s) 11 (λv=>v=.inr (false,[])\/∃out s,v=.inl (((uz out).length:Int),out)/\b=uz out++s/\out.length<=11)
  (λk z hk ⟨z1,z2,s,z3⟩=>by
   obtain⟨i,out⟩:=z;simp only at z1 z2 z3;subst z2;have hbl:b.length=(uz out).length+s.length:=by rw[←length_append,←z3]
   by_cases hlt:((uz out).length:Int)<(b.length:Int)
   · obtain⟨d,d1,d2,d3,d4,d5,d6⟩:=Sv z3 hb hn;have hs:ao b ((uz out).length:Int) out=(cond d.2.2.2 (some true) ((cV d.2.1).bind λt51=>some ((t51.length:Int) != d.2.2.1))).bind λt55=>cond t55 (some (.inr (.inr (false,([]:List Int))))) ((ut out [d.2.1]).bind λzs60=>some (.inl (d.1,zs60))):=by
      unfold ao;rw[ux hlt,cT,dT (show (out.length:Int)<=10 by omega),tN,cT,d1,tN]
     show (∃y,ao b ((uz out).length:Int) out=some (.inl y)/\_)\/∃v,ao b ((uz out).length:Int) out=some (.inr v)/\_;rw[hs];rcases d2 with d2|⟨l,rest,q1,q2,q3,q4,q5,q6⟩
     · rw[d2];exact .inr ⟨_,rfl,.inl rfl⟩
     · have qb:d.2.2.2=false:=by rw[q3]
       have ql:d.2.2.1=(l.length:Int):=by rw[q3]
       have qa:d.1=(((uz out).length+l.length:Nat):Int):=by rw[q3]
       rw[qb,cF,OL ⟨q4,q5⟩,tN,tN,ql];cases hne:(((grp d.2.1).length:Int) != (l.length:Int))with
       | true=>exact .inr ⟨_,rfl,.inl rfl⟩
       | false =>
        have he:((grp d.2.1).length:Int)=(l.length:Int):=by simpa using hne
        have hl:=q6 (by omega);refine .inl ⟨_,by rw[cF,u6 (by simp;omega),tN],by simp;omega,?_,rest,?_⟩
        · show d.1=((uz (out++[d.2.1])).length:Int);rw[K0,length_append,qa,←hl]
        · show b=uz (out++[d.2.1])++rest;rw[K0,←hl,append_assoc,←q1];exact z3
   · refine .inr ⟨.inl (((uz out).length:Int),out),?_,.inr ⟨out,s,rfl,z3,by omega⟩⟩;show ao b ((uz out).length:Int) out=_
     unfold ao;rw[ui hlt];rfl)
  (λz ⟨z1,z2,s,z3⟩=>by
   obtain⟨i,out⟩:=z;simp only at z1 z2 z3;subst z2;refine⟨.inl (((uz out).length:Int),out),?_,.inr ⟨out,s,rfl,z3,by omega⟩⟩;show ao b ((uz out).length:Int) out=_
   unfold ao;by_cases hlt:((uz out).length:Int)<(b.length:Int)
   · rw[ux hlt,cT,dF (by omega)];rfl
   · rw[ui hlt];rfl) (x:=(0,[])) ⟨rfl,rfl,b,rfl⟩
theorem IR:∀{a b:List Int},xa a->xa b->uT a=uT b->a=b
 | [],[],_,_,_=>rfl
 | [],_::_,_,_,h=>by simp[uT]at h
 | _::_,[],_,_,h=>by simp[uT]at h
 | x::a,y::b,ha,hb,h=>by
  unfold uT at h;rw[map_cons,map_cons,List.cons.injEq]at h;have hx:=ha x (by simp)
  have hy:=hb y (by simp);have h1:=congrArg UInt8.toNat h.1
  rw[UInt8.toNat_ofNat_of_lt' (by show x.toNat<256;omega),UInt8.toNat_ofNat_of_lt' (by show y.toNat<256;omega)]at h1;rw[IR (λz hz=>ha z (mem_cons_of_mem _ hz)) (λz hz=>hb z (mem_cons_of_mem _ hz)) h.2,show x=y by omega]
theorem ON {o:List Int} (h:∀x∈o,0<=x/\x<=100000):xa (uz o):=by
 intro x hx;obtain⟨n,hn,hx⟩:=List.mem_flatMap.1 hx;have:=h n hn
 exact Ie (by omega) x hx
theorem K1 {o:List Int} (h:1<=o.length):1<=(uz o).length:=by
 cases o with
 | nil=>simp at h
 | cons n o =>
  have:=Lp n;unfold uz;rw[List.flatMap_cons,length_append];omega
theorem Ri {b:List Int} (hb:xa b) (hn:b.length<=M):∃v,loop (λz:Int×Int×List Int=>aq b z.1 z.2.1 z.2.2) (0,0,[])=some v/\(v=.inr (false,[])\/∃out,v=.inl out/\out.length<=M):=by
 have hn':b.length<=1048576:=hn;exact uw (step:=λz:Int×Int×List Int=>aq b z.1 z.2.1 z.2.2) (λk z=>z.2.1=(k:Int)/\0<=z.1/\z.2.2.length<=k) b.length (λv=>v=.inr (false,[])\/∃out,v=.inl out/\out.length<=M)
  (λk z hk ⟨z1,z2,z3⟩=>by
   obtain⟨n,i,out⟩:=z;simp only at z1 z2 z3;subst z1;have hx:=hb _ (getElem_mem hk)
   have hm:0<=min2 n 1048576/\min2 n 1048576<=1048576:=by unfold min2;split<;>omega
   show (∃y,aq b n (k:Int) out=some (.inl y)/\_)\/∃v,aq b n (k:Int) out=some (.inr v)/\_;unfold aq;rw[ux (by omega),cT,ud hk,tN];by_cases h40:(k:Int)>=40
   · rw[dT h40];exact .inr ⟨_,rfl,.inl rfl⟩
   rw[dF h40,cF,Ed hx,Mu (by omega) (by omega),u7 (by omega)];simp only;by_cases h:b[k]<128
   · rw[dT h,cT,u6 (by simp;omega),tN];exact .inl ⟨_,rfl,rfl,by show (0:Int)<=0;omega,by simp;omega⟩
   · rw[dF h,cF];exact .inl ⟨_,rfl,rfl,by show 0<=min2 n 1048576*128+b[k]%128;omega,by show out.length<=k+1;omega⟩)
  (λz ⟨z1,z2,z3⟩=>by
   obtain⟨n,i,out⟩:=z;simp only at z1 z2 z3;subst z1;refine⟨.inl out,?_,.inr ⟨out,rfl,by show _<=1048576;omega⟩⟩;show aq b n (b.length:Int) out=_
   unfold aq;rw[ui (by omega),cF]) (x:=(0,0,[])) ⟨rfl,by show (0:Int)<=0;omega,by simp⟩

theorem zO {o:List Int} (h:x8 o=true):Tw o:=by
 unfold x8 at h;rw[aT,Bool.not_eq_true']at h;have h1:=we h.2
 refine⟨by omega,by omega,λx hx=>?_⟩;obtain⟨k,hk,rfl⟩:=getElem_of_mem hx;have:=any_eq_false.1 h.1 k (mem_range.2 hk)
 unfold Ii at this;simp only[List.getElem?_eq_getElem hk]at this;cases hp:tV o[k] 0 100000 with
 | true=>exact we hp
 | false=>rw[hp]at this;exact absurd rfl this
theorem FH {o:List Int} (hn:o.length<=M):bP o=some (cond (x8 o) (uz o) []):=by
 obtain⟨v,h1,h2,h3⟩:=Rg hn;rw[Em (by have:o.length<=1048576:=hn;omega)]at h1;cases h1;exact h3
theorem NM {b:List Int} (hb:xa b) (hn:b.length<=M):∃r,bv b=some r/\bJ b=some r/\(r=([],false)\/∃o,r=(o,true)/\b=uz o/\x8 o=true):=by
 have hn':b.length<=1048576:=hn;have both:∀o,x8 o=true->b=uz o->bv b=some (o,true)/\bJ b=some (o,true):=by
  intro o ho e;obtain⟨o1,o2,o3⟩:=zO ho;have hbl:b.length<=30:=by rw[e];have:=A8 (o:=o) λx hx=>(o3 x hx).2;omega
  have hpos:=K1 o1;constructor
  · unfold bv;have:=JY (b:=b) o [] [] (by rw[e];rfl) o3 hbl (by simp;omega)
    simp only[List.length_nil,Int.natCast_zero,nil_append]at this;have this':loop (λz:Int×Int×List Int=>aq b z.1 z.2.1 z.2.2) (0,0,[])=some (.inl o):=this
    rw[this',tN,Sum.elim_inl,FH (by show _<=1048576;omega),tN,ho,cT,←e,beq_eq_false_iff_ne.2 (show ((b.length:Int))≠0 by rw[e];omega),cF,beq_self_eq_true];rfl
  · unfold bJ;have:=JZ (b:=b) o [] [] (by rw[e];rfl) o3 hbl (by simp;omega)
    simp only[List.length_nil,nil_append]at this;have this':loop (λz:Int×List Int=>ao b z.1 z.2) (0,[])=some (.inl ((b.length:Int),o)):=this
    rw[this',tN,Sum.elim_inl];simp only[bne_self_eq_false,cF];rw[Kl,Em (by omega),tN,ho];rfl
 obtain⟨v,v1,v2⟩:=Rh hb hn;have sp:bJ b=some ([],false)\/∃o,x8 o=true/\b=uz o:=by
  unfold bJ;rw[v1,tN];rcases v2 with rfl|⟨out,s,rfl,q1,q2⟩
  · exact .inl rfl
  · simp only[Sum.elim_inl];cases hne:(((uz out).length:Int) != (b.length:Int))with
    | true=>exact .inl rfl
    | false =>
     rw[cF,Kl,Em (by omega),tN];cases ho:x8 out with
     | false=>exact .inl rfl
     | true =>
      have he:((uz out).length:Int)=(b.length:Int):=by simpa using hne
      have:s=[]:=by
       have:=congrArg List.length q1;rw[length_append]at this;exact length_eq_zero_iff.1 (by omega)
      subst this;exact .inr ⟨out,ho,by rw[q1,append_nil]⟩
 rcases sp with sp|⟨o,ho,e⟩
 · obtain⟨u,u1,u2⟩:=Ri hb hn;have im:bv b=some ([],false)\/∃o,x8 o=true/\b=uz o:=by
    unfold bv;rw[u1,tN];rcases u2 with rfl|⟨out,rfl,hl⟩
    · exact .inl rfl
    · rw[Sum.elim_inl,FH hl,tN];cases ho:x8 out with
      | false=>exact .inl rfl
      | true =>
       obtain⟨o1,o2,o3⟩:=zO ho;have hpos:=K1 o1
       rw[cT,beq_eq_false_iff_ne.2 (show (((uz out).length:Int))≠0 by omega),cF];cases hq:(uT (uz out)==uT b)with
       | false=>exact .inl rfl
       | true=>exact .inr ⟨out,ho,(IR (ON o3) hb (eq_of_beq hq)).symm⟩
   rcases im with im|⟨o,ho,e⟩
   · exact⟨_,im,sp,.inl rfl⟩
   · obtain⟨b1,b2⟩:=both o ho e;exact⟨_,b1,b2,.inr ⟨o,rfl,e,ho⟩⟩
 · obtain⟨b1,b2⟩:=both o ho e;exact⟨_,b1,b2,.inr ⟨o,rfl,e,ho⟩⟩

theorem HD:∀{b:List Int},xa b->yo (uT b)=b
 | [],_=>rfl
 | x::b,h=>by
  have hx:=h x (by simp);have ih:=HD (b:=b) λy hy=>h y (mem_cons_of_mem _ hy)
  unfold yo uT at ih ⊢;rw[map_cons,map_cons,ih]
  congr 1
  show ((UInt8.ofNat x.toNat).toNat:Int)=x;rw[UInt8.toNat_ofNat_of_lt' (by show x.toNat<256;omega)];omega
def wq (v:wJ):List Int:=cond (v.1==2) (vv v.2.1) (cond (v.1==4) (yo v.2.2.1) (cond (v.1==6) (uz v.2.2.2) []))
theorem If {o:List Int} (h:x8 o=true):o.length<=10:=(zO h).2.1
theorem Rj {b:List Int} (hb:xa b) (hn:b.length<=M) {i:Int} (hi:-9223372036854775808<=i/\i<=9223372036854775807):∃r,eV b i=some r/\fY b i=some r/\(r=((0,0,[],[]),0,false)\/∃v next,r=(v,next,true)/\xV v=true/\zB b i v.1 (wq v) next):=by
 have hM:M=1048576:=rfl;obtain⟨r,r1,r2,r3⟩:=HU hb hn hi;unfold eV fY;rw[r1,r2,tN,tN];have hrl:r.2.1.length<=250/\xa r.2.1:=by
  rcases r3 with rfl|⟨t,body,next,rfl,h⟩
  · exact⟨by simp,λx hx=>by simp at hx⟩
  · exact⟨h.n,h.b⟩
 have hlM:r.2.1.length<=M:=by omega
 rcases r3 with rfl|⟨t,body,next,rfl,h⟩
 · exact⟨_,rfl,rfl,.inl rfl⟩
 simp only at hrl hlM;simp only[Bool.not_true,cF];by_cases t2:t=2
 · subst t2;obtain⟨g,g1,g2,g3⟩:=NL hrl.2 hlM;simp only[show ((2:Int)==2)=true from rfl,cT,g1,g2,tN];rcases g3 with rfl|⟨n,rfl,q1,q2,q3⟩
   · exact⟨_,rfl,rfl,.inl rfl⟩
   · simp only[Bool.not_true,cF,tN,GQ (v:=(2,n,[],[])) (by simp),Ij (v:=(2,n,[],[])) (by simp)];cases hv:xV (2,n,[],[])with
     | false=>exact⟨_,rfl,rfl,.inl rfl⟩
     | true=>exact⟨_,rfl,rfl,.inr ⟨_,_,rfl,hv,by have:wq (2,n,[],[])=body:=q1.symm;rw[this];exact h⟩⟩
 rw[beq_eq_false_iff_ne.2 t2];simp only[cF];by_cases t4:t=4
 · subst t4;simp only[show ((4:Int)==4)=true from rfl,cT,Bool.not_true,tN,cF,GQ (v:=(4,0,uT body,[])) (by simp),Ij (v:=(4,0,uT body,[])) (by simp)];cases hv:xV (4,0,uT body,[])with
   | false=>exact⟨_,rfl,rfl,.inl rfl⟩
   | true=>exact⟨_,rfl,rfl,.inr ⟨_,_,rfl,hv,by have:wq (4,0,uT body,[])=body:=HD h.b;rw[this];exact h⟩⟩
 rw[beq_eq_false_iff_ne.2 t4];simp only[cF];by_cases t6:t=6
 · subst t6;obtain⟨g,g1,g2,g3⟩:=NM hrl.2 hlM;simp only[show ((6:Int)==6)=true from rfl,cT,g1,g2,tN];rcases g3 with rfl|⟨o,rfl,q1,q2⟩
   · exact⟨_,rfl,rfl,.inl rfl⟩
   · have ol:=If q2;simp only[Bool.not_true,cF,tN,GQ (v:=(6,0,[],o)) (by show o.length<=M;omega),Ij (v:=(6,0,[],o)) (by show o.length<=M;omega)];cases hv:xV (6,0,[],o)with
     | false=>exact⟨_,rfl,rfl,.inl rfl⟩
     | true=>exact⟨_,rfl,rfl,.inr ⟨_,_,rfl,hv,by have:wq (6,0,[],o)=body:=q1.symm;rw[this];exact h⟩⟩
 rw[beq_eq_false_iff_ne.2 t6];simp only[cF];cases hz:((body.length:Int)==0)with
 | false=>exact⟨_,rfl,rfl,.inl rfl⟩
 | true =>
  have hb0:body=[]:=length_eq_zero_iff.1 (by have:(body.length:Int)=0:=eq_of_beq hz;omega);simp only[Bool.not_true,cF,tN,GQ (v:=(t,0,[],[])) (by simp),Ij (v:=(t,0,[],[])) (by simp)];cases hv:xV (t,0,[],[])with
  | false=>exact⟨_,rfl,rfl,.inl rfl⟩
  | true =>
   refine⟨_,rfl,rfl,.inr ⟨_,_,rfl,hv,?_⟩⟩;have:wq (t,0,[],[])=body:=by
    unfold wq;simp only[beq_eq_false_iff_ne.2 t2,beq_eq_false_iff_ne.2 t4,beq_eq_false_iff_ne.2 t6,cF];exact hb0.symm
   rw[this];exact h
theorem Sx {r:wa} (hb:xa r.1) (hn:r.1.length<=M) (hi:-9223372036854775808<=r.2.1/\r.2.1<=9223372036854775807) (tag:Int):∃d,ba r tag=some d/\bq r tag=some d/\d.1.1=r.1/\(d.1.2.2=true->d.2=[])/\(r.2.2=true->d.1.2.2=true)/\(d.1.2.2=false->r.2.2=false/\zB r.1 r.2.1 tag d.2 d.1.2.1)/\(d.1.2.2=true->d.1.2.1=r.2.1):=by
 obtain⟨g,g1,g2,g3⟩:=HU hb hn hi;unfold ba bq;rw[g1,g2,tN];rcases g3 with rfl|⟨t,body,next,rfl,h⟩
 · cases hr:r.2.2 with
   | true=>exact⟨_,rfl,rfl,rfl,λ_=>rfl,λ_=>rfl,λe=>(by cases e),λ_=>rfl⟩
   | false=>exact⟨_,rfl,rfl,rfl,λ_=>rfl,λ_=>rfl,λe=>(by cases e),λ_=>rfl⟩
 · cases hr:r.2.2 with
   | true=>exact⟨_,rfl,rfl,rfl,λ_=>rfl,λ_=>rfl,λe=>(by cases e),λ_=>rfl⟩
   | false =>
    simp only[cF,Bool.not_true,tN];cases ht:(t != tag)with
    | true=>exact⟨_,rfl,rfl,rfl,λ_=>rfl,λ_=>rfl,λe=>(by cases e),λ_=>rfl⟩
    | false =>
     have:t=tag:=by simpa using ht
     subst this;exact⟨_,rfl,rfl,rfl,λe=>(by cases e),λe=>(by cases e),λ_=>⟨by first|rfl|trivial,h⟩,λe=>(by cases e)⟩

structure Ci (r:wa):Prop where
 b:xa r.1
 n:r.1.length<=M
 lo:0<=r.2.1
 hi:r.2.1<=(r.1.length:Int)
theorem zB.next {b:List Int} {i t:Int} {body:List Int} {next:Int} (h:zB b i t body next):0<=next/\next<=(b.length:Int):=by
 obtain⟨pre,rest,e1,e2,e3⟩:=h.ex;have:=congrArg List.length e1
 rw[length_append,length_append]at this;omega
theorem Ci.rg {r:wa} (h:Ci r):-9223372036854775808<=r.2.1/\r.2.1<=9223372036854775807:=by
 have h1:=h.lo;have h2:=h.hi
 have h3:r.1.length<=1048576:=h.n;omega
theorem Ig:xa []:=λx hx=>by simp at hx
theorem FI {r:wa} (h:Ci r) (tag:Int):∃d,ba r tag=some d/\bq r tag=some d/\Ci d.1/\d.1.1=r.1/\xa d.2/\d.2.length<=250/\(d.1.2.2=true->d.2=[])/\(r.2.2=true->d.1.2.2=true)/\(d.1.2.2=false->r.2.2=false/\zB r.1 r.2.1 tag d.2 d.1.2.1):=by
 obtain⟨d,d1,d2,d3,d4,d5,d6,d7⟩:=Sx h.b h.n h.rg tag;refine⟨d,d1,d2,?_,d3,?_,?_,d4,d5,d6⟩
 · cases hb:d.1.2.2 with
   | true=>exact⟨by rw[d3];exact h.b,by rw[d3];exact h.n,by rw[d7 hb];exact h.lo,by rw[d7 hb,d3];exact h.hi⟩
   | false =>
    have:=(d6 hb).2.next
    exact⟨by rw[d3];exact h.b,by rw[d3];exact h.n,this.1,by rw[d3];exact this.2⟩
 · cases hb:d.1.2.2 with
   | true=>rw[d4 hb];exact Ig
   | false=>exact (d6 hb).2.b
 · cases hb:d.1.2.2 with
   | true=>rw[d4 hb];simp
   | false=>exact (d6 hb).2.n
theorem Mv {r:wa} (h:Ci r):∃d,bN r 2=some d/\ch r=some d/\Ci d.1/\d.1.1=r.1/\(r.2.2=true->d.1.2.2=true)/\(d.1.2.2=false->r.2.2=false/\zB r.1 r.2.1 2 (vv d.2) d.1.2.1 /\ -2147483648<=d.2/\d.2<=2147483647):=by
 obtain⟨d,d1,d2,d3,d4,d5,d6,d7,d8,d9⟩:=FI h 2;have hM:M=1048576:=rfl
 obtain⟨g,g1,g2,g3⟩:=NL d5 (by omega);unfold bN ch;rw[d1,d2,tN,tN,g1,g2,tN];cases hb:d.1.2.2 with
 | true =>
  refine⟨_,rfl,rfl,⟨d3.b,d3.n,d3.lo,d3.hi⟩,d4,λ_=>rfl,λe=>(by cases e)⟩
 | false =>
  obtain⟨q1,q2⟩:=d9 hb;rcases g3 with rfl|⟨n,rfl,e,n1,n2⟩
  · exact⟨_,rfl,rfl,⟨d3.b,d3.n,d3.lo,d3.hi⟩,d4,λ_=>rfl,λe=>(by cases e)⟩
  · refine⟨_,rfl,rfl,⟨d3.b,d3.n,d3.lo,d3.hi⟩,d4,λe=>?_,λ_=>⟨q1,?_,n1,n2⟩⟩
    · rw[q1]at e;cases e
    · rw[←e];exact q2
theorem Pn {b:List Int} (hb:xa b) (hn:b.length<=M):∃r,eW b=some r/\fZ b=some r/\(r=(([],0,0,[],[]),false)\/∃x,r=(x,true)/\yS x=true/\b=uR 6 (uz x.1)++uR x.2.1 (wq x.2)):=by
 have hM:M=1048576:=rfl;have h0:Ci (b,0,false):=⟨hb,hn,by show (0:Int)<=0;omega,by show (0:Int)<=(b.length:Int);omega⟩
 obtain⟨d,d1,d2,d3,d4,d5,d6,d7,d8,d9⟩:=FI h0 6;obtain⟨g,g1,g2,g3⟩:=NM d5 (by omega);obtain⟨v,v1,v2,v3⟩:=Rj hb hn d3.rg;unfold eW fZ;simp only[d1,d2,g1,g2,v1,v2,tN];cases hbad:d.1.2.2 with
 | true=>exact⟨_,rfl,rfl,.inl rfl⟩
 | false =>
  simp only[cF,tN];obtain⟨_,hp⟩:=d9 hbad;rcases g3 with rfl|⟨o,rfl,go,ho⟩
  · exact⟨_,rfl,rfl,.inl rfl⟩
  simp only[Bool.not_true,cF,tN];rcases v3 with rfl|⟨w,next,rfl,hw,hp2⟩
  · exact⟨_,rfl,rfl,.inl rfl⟩
  simp only[Bool.not_true,cF,tN];cases hne:(next != (b.length:Int))with
  | true=>exact⟨_,rfl,rfl,.inl rfl⟩
  | false =>
   have hnx:next=(b.length:Int):=by simpa using hne
   refine⟨_,rfl,rfl,.inr ⟨(o,w),rfl,by unfold yS;rw[ho,hw];rfl,?_⟩⟩;obtain⟨p1,r1,e1,e2,e3⟩:=hp.ex;obtain⟨p2,r2,f1,f2,f3⟩:=hp2.ex;have hp1:p1=[]:=by
    have e2':(0:Int)=(p1.length:Int):=e2;exact length_eq_zero_iff.1 (by omega)
   subst hp1;have e1':b=uR 6 d.2++r1:=by simpa using e1
   have hl:p2.length=(uR 6 d.2).length:=by
    rw[e3]at f2;simp at f2;omega
   obtain⟨q1,q2⟩:=List.append_inj (f1.symm.trans e1') hl;have hr2:r2=[]:=by
    have:=congrArg List.length f1;rw[length_append,length_append]at this;exact length_eq_zero_iff.1 (by omega)
   show b=uR 6 (uz o)++uR w.1 (wq w);rw[f1,q1,go,hr2,append_nil]

theorem ye (n:Int):(vv n).length<=4:=by unfold vv;split<;>(try split)<;>(try split)<;>simp
theorem wb (t:Int) {body:List Int}:(uR t body).length<=body.length+3:=by unfold uR;split<;>simp<;>omega
theorem Ee {v:wJ} (h:xV v=true):(wq v).length<=30/\tV v.1 0 255=true/\v.2.2.2.length<=10/\v.2.2.1.length<=20:=by
 obtain⟨k,n,s,o⟩:=v;have Bo:∀{x:Int},0<=x->x<=255->tV x 0 255=true:=λh1 h2=>by unfold tV;rw[dT h1,dT h2];rfl
 unfold xV at h;simp only at h;unfold wq;simp only;by_cases h1:(k==5||(k==128||k==130))=true
 · rw[h1,cT]at h;simp only[aT,beq_iff_eq]at h;simp only[Bool.or_eq_true,beq_iff_eq]at h1;obtain⟨_,rfl,ho⟩:=h;rcases h1 with rfl|rfl|rfl<;>exact⟨by simp,by decide,by omega,by simp⟩
 · have h1':(k==5||(k==128||k==130))=false:=by simpa using h1
   rw[h1',cF]at h;by_cases h2:k=2
   · subst h2;simp only[show ((2:Int)==2)=true from rfl,cT,aT,beq_iff_eq]at h ⊢;obtain⟨_,rfl,ho⟩:=h;have:=ye n
     exact⟨by omega,by decide,by omega,by simp⟩
   rw[beq_eq_false_iff_ne.2 h2,cF]at h ⊢;by_cases h4:k=4
   · subst h4;simp only[show ((4:Int)==4)=true from rfl,cT,aT,beq_iff_eq,decide_eq_true_eq]at h ⊢;obtain⟨h5,_,ho⟩:=h;exact⟨by unfold yo;rw[length_map];omega,by decide,by omega,by omega⟩
   rw[beq_eq_false_iff_ne.2 h4,cF]at h ⊢;by_cases h6:k=6
   · subst h6;simp only[show ((6:Int)==6)=true from rfl,cT,aT,beq_iff_eq]at h ⊢;obtain⟨ho,_,rfl⟩:=h;obtain⟨o1,o2,o3⟩:=zO ho;have:=A8 (o:=o) λx hx=>(o3 x hx).2
     exact⟨by omega,by decide,by omega,by simp⟩
   · rw[beq_eq_false_iff_ne.2 h6,cF]at h;cases h
theorem Rk {b:List Int} (hb:b.length<=1000) {v:wJ} (h:xV v=true):eX b v=some (b++uR v.1 (wq v)):=by
 obtain⟨l1,l2,l3,l4⟩:=Ee h;have hM:M=1048576:=rfl
 have fin:∀body:List Int,wq v=body->aO b v.1 body=some (b++uR v.1 (wq v)):=λbody e=>by
  subst e;rw[Kr _ hb (by omega),if_pos ⟨l2,by omega⟩]
 unfold eX;rw[GQ (by omega),h,tN];simp only[Bool.not_true,cF];by_cases h2:v.1=2
 · have e:wq v=vv v.2.1:=by unfold wq;rw[beq_iff_eq.2 h2];rfl
   have hr:-2147483648<=v.2.1/\v.2.1<=2147483647:=by
    unfold xV at h;rw[h2]at h;simp only[show ((2:Int)==5)=false from rfl,show ((2:Int)==128)=false from rfl,show ((2:Int)==130)=false from rfl,Bool.or_self,cF,show ((2:Int)==2)=true from rfl,cT,aT]at h;exact we h.1
   rw[beq_iff_eq.2 h2,cT,Kq (by omega),tN,AW hr,fin _ e];rfl
 rw[beq_eq_false_iff_ne.2 h2,cF];by_cases h4:v.1=4
 · have e:wq v=yo v.2.2.1:=by unfold wq;rw[beq_eq_false_iff_ne.2 h2,beq_iff_eq.2 h4];rfl
   rw[beq_iff_eq.2 h4,cT,fin _ e];rfl
 rw[beq_eq_false_iff_ne.2 h4,cF];by_cases h6:v.1=6
 · have e:wq v=uz v.2.2.2:=by unfold wq;rw[beq_eq_false_iff_ne.2 h2,beq_eq_false_iff_ne.2 h4,beq_iff_eq.2 h6];rfl
   have ho:x8 v.2.2.2=true:=by
    unfold xV at h;rw[h6]at h;simp only[show ((6:Int)==5)=false from rfl,show ((6:Int)==128)=false from rfl,show ((6:Int)==130)=false from rfl,Bool.or_self,cF,show ((6:Int)==2)=false from rfl,show ((6:Int)==4)=false from rfl,show ((6:Int)==6)=true from rfl,cT,aT]at h;exact h.1
   rw[beq_iff_eq.2 h6,cT,FH (by omega),ho,cT,tN,fin _ e];rfl
 · have e:wq v=[]:=by unfold wq;rw[beq_eq_false_iff_ne.2 h2,beq_eq_false_iff_ne.2 h4,beq_eq_false_iff_ne.2 h6];rfl
   rw[beq_eq_false_iff_ne.2 h6,cF,fin _ e];rfl
def Cj (x:tQ):List Int:=uR 6 (uz x.1)++uR x.2.1 (wq x.2)
def zP (x:tQ):List Int:=uR 48 (Cj x)
def uQ (l:List tQ):List Int:=l.flatMap zP
def xl (p:um):List Int:=uR 2 (vv p.2.1)++uR 2 (vv p.2.2.1)++uR 2 (vv p.2.2.2.1)++uR 48 (uQ p.2.2.2.2)
theorem wZ {p:um} (h:vJ p=true):(∀x∈p.2.2.2.2,yS x=true)/\p.2.2.2.2.length<=10/\tV p.1 0 255=true/\(-2147483648<=p.2.1/\p.2.1<=2147483647)/\(0<=p.2.2.1/\p.2.2.1<=1000)/\(0<=p.2.2.2.1/\p.2.2.2.1<=1000):=by
 obtain⟨k,id,a,b,l⟩:=p;unfold vJ at h;simp only[aT,Bool.not_eq_true',decide_eq_true_eq]at h;obtain⟨⟨h1,h2⟩,h3,h4⟩:=h;refine⟨λx hx=>?_,by show l.length<=10;omega,?_⟩
 · obtain⟨j,hj,rfl⟩:=getElem_of_mem hx;have hj':j<l.length:=hj
   have:=any_eq_false.1 h1 j (mem_range.2 hj');unfold bX at this;simp only[List.getElem?_eq_getElem hj']at this;simpa using this
 · have h4:=we h4;by_cases c1:(k==162||k==165)=true
   · rw[c1,cT,aT]at h3;have q1:=we h3.1
     have q2:=we h3.2;simp only[Bool.or_eq_true,beq_iff_eq]at c1;refine⟨?_,h4,q1,q2⟩;rcases c1 with rfl|rfl<;>rfl
   · have c1':(k==162||k==165)=false:=by simpa using c1
     rw[c1',cF]at h3;by_cases c2:(k==160||(k==161||k==163))=true
     · rw[c2,cT,aT]at h3;simp only[beq_iff_eq]at h3;simp only[Bool.or_eq_true,beq_iff_eq]at c2;obtain⟨rfl,rfl⟩:=h3;refine⟨?_,h4,by show (0:Int)<=0/\(0:Int)<=1000;omega,by show (0:Int)<=0/\(0:Int)<=1000;omega⟩;rcases c2 with rfl|rfl|rfl<;>rfl
     · have c2':(k==160||(k==161||k==163))=false:=by simpa using c2
       rw[c2',cF]at h3;cases h3
theorem CY {x:tQ} (h:yS x=true):(Cj x).length<=100/\(zP x).length<=110:=by
 unfold yS at h;rw[aT]at h;obtain⟨l1,_⟩:=Ee h.2;obtain⟨o1,o2,o3⟩:=zO h.1;have h3:=A8 (o:=x.1) λy hy=>(o3 y hy).2
 have h4:=wb 6 (body:=uz x.1);have h5:=wb x.2.1 (body:=wq x.2)
 have h6:(Cj x).length<=100:=by unfold Cj;rw[length_append];omega
 have h7:=wb 48 (body:=Cj x);exact⟨h6,by unfold zP;omega⟩
theorem K2 {b:List Int} (hb:b.length<=900) {n:Int} (hn:-2147483648<=n/\n<=2147483647):cu b 2 n=some (b++uR 2 (vv n)):=by
 unfold cu;have h4:=ye n
 rw[Kq (by omega),tN,AW hn,Kr _ (by omega) (by show _<=1048576;omega),tN,if_pos ⟨by decide,by omega⟩]
theorem NN {p:um} (hp:wu M p):dq p=some (if vJ p=true/\(uQ p.2.2.2.2).length<=250/\(xl p).length<=250 then uR p.1 (xl p)else []):=by
 unfold dq;rw[Pb hp,tN];cases h:vJ p with
 | false=>rw[if_neg (by simp)];rfl
 | true =>
  obtain⟨h1,h2,h3,h4,h5,h6⟩:=wZ h;have hl:∀k,(uQ (p.2.2.2.2.take k)).length<=110*k:=by
   intro k
   induction k with
   | zero=>simp[uQ]
   | succ k ih =>
    by_cases hk:k<p.2.2.2.2.length
    · have ht:uQ (p.2.2.2.2.take (k+1))=uQ (p.2.2.2.2.take k)++zP p.2.2.2.2[k]:=by
       unfold uQ;rw[take_add_one,List.getElem?_eq_getElem hk,flatMap_append];simp
      have:=(CY (h1 _ (getElem_mem hk))).2;rw[ht,length_append];omega
    · rw[take_of_length_le (by omega)]at ih ⊢;omega
  obtain⟨b,e1,rfl⟩:=uw (step:=λz:Int×List Int=>cw p z.1 z.2) (λk z=>z=((k:Int),uQ (p.2.2.2.2.take k))) p.2.2.2.2.length (λb=>b=.inl (uQ p.2.2.2.2))
   (λk z hk e=>by
    subst e;left;have hx:=h1 _ (getElem_mem hk)
    have hx':=hx;unfold yS at hx';rw[aT]at hx';obtain⟨o1,o2,o3⟩:=zO hx'.1;have hob:=A8 (o:=p.2.2.2.2[k].1) λy hy=>(o3 y hy).2
    have hlk:=hl k;obtain⟨b1,b2⟩:=CY hx;have ht:uQ (p.2.2.2.2.take (k+1))=uQ (p.2.2.2.2.take k)++zP p.2.2.2.2[k]:=by
     unfold uQ;rw[take_add_one,List.getElem?_eq_getElem hk,flatMap_append];simp
    have ht6:=wb 6 (body:=uz p.2.2.2.2[k].1);refine⟨_,?_,rfl⟩;show cw p (k:Int) (uQ (p.2.2.2.2.take k))=_
    unfold cw;rw[ux (by omega),cT,ud hk,tN,FH (by show _<=1048576;omega),hx'.1,cT,tN,Kr _ (by simp) (by show _<=1048576;omega),if_pos ⟨by decide,by omega⟩,tN,nil_append,Rk (by omega) hx'.2,tN];have hone:uR 6 (uz p.2.2.2.2[k].1)++uR p.2.2.2.2[k].2.1 (wq p.2.2.2.2[k].2)=Cj p.2.2.2.2[k]:=rfl
    rw[hone,MT _ (by show _<=1048576;omega),if_pos ⟨by decide,by omega⟩,tN];simp only[Bool.not_true,cF];have hbb:uR 48 (Cj p.2.2.2.2[k])=zP p.2.2.2.2[k]:=rfl
    rw[hbb,u6 (by omega),tN,u7 (by omega),ht])
   (λz e=>by
    subst e;refine⟨_,?_,rfl⟩;show cw p (p.2.2.2.2.length:Int) (uQ (p.2.2.2.2.take p.2.2.2.2.length))=_
    unfold cw;rw[ui (by omega),cF,take_length]) (x:=(0,[])) rfl
  have hal:(uQ p.2.2.2.2).length<=1100:=by
   have:=hl p.2.2.2.2.length;rw[take_length]at this;omega
  rw[Bool.not_true,cF,e1,tN,Sum.elim_inl,MT _ (by show _<=1048576;omega)];by_cases ha:(uQ p.2.2.2.2).length<=250
  · rw[if_pos ⟨by decide,ha⟩,tN];simp only[Bool.not_true,cF];have t1:=wb 2 (body:=vv p.2.1)
    have t2:=wb 2 (body:=vv p.2.2.1);have t3:=wb 2 (body:=vv p.2.2.2.1)
    have t4:=wb 48 (body:=uQ p.2.2.2.2);have i1:=ye p.2.1
    have i2:=ye p.2.2.1;have i3:=ye p.2.2.2.1
    rw[K2 (by simp) h4,tN,nil_append,K2 (by omega) ⟨by omega,by omega⟩,tN,K2 (by rw[length_append];omega) ⟨by omega,by omega⟩,tN,u6 (by simp only[length_append];omega),tN];have hbody:uR 2 (vv p.2.1)++uR 2 (vv p.2.2.1)++uR 2 (vv p.2.2.2.1)++uR 48 (uQ p.2.2.2.2)=xl p:=rfl
    rw[hbody,MT _ (by show _<=1048576;unfold xl;simp only[length_append];omega)];by_cases hb:(xl p).length<=250
    · rw[if_pos ⟨h3,hb⟩,if_pos ⟨by first|rfl|trivial,ha,hb⟩];rfl
    · rw[if_neg (λe=>hb e.2),if_neg (λe=>hb e.2.2)];rfl
  · rw[if_neg (λe=>ha e.2),if_neg (λe=>ha e.2.1)];rfl

theorem zB.cons {b P s:List Int} {i t:Int} {x:List Int} {next:Int} (h:zB b i t x next) (e:b=P++s) (hi:i=(P.length:Int)):∃s',b=(P++uR t x)++s'/\next=((P++uR t x).length:Int):=by
 obtain⟨pre,rest,e1,e2,e3⟩:=h.ex;have hl:pre.length=P.length:=by omega
 obtain⟨q1,q2⟩:=List.append_inj (e1.symm.trans e) hl;subst q1;exact⟨rest,by rw[e1,append_assoc],by rw[e3,length_append]⟩
theorem GJ (t:Int) (b:List Int):1<=(uR t b).length:=by unfold uR;simp
theorem wH {x:tQ} (h:yS x=true):Bg M x:=by
 unfold yS at h;rw[aT]at h;obtain⟨_,_,l3,l4⟩:=Ee h.2;have:=If h.1
 have hM:M=1048576:=rfl;exact⟨by omega,by omega,by omega⟩
theorem OO (l:List tQ) (x:tQ):uQ (l++[x])=uQ l++zP x:=by unfold uQ;rw[flatMap_append];simp
noncomputable abbrev Po (K I A B:Int) (c:List Int) (i:Int) (l:List tQ):=loop (λz:Int×Int×Int×Int×Int×Int×Int×Int×List Int×Int×Bool×List tQ×List tQ=>ax z.1 z.2.1 z.2.2.1 z.2.2.2.1 z.2.2.2.2.1 z.2.2.2.2.2.1 z.2.2.2.2.2.2.1 z.2.2.2.2.2.2.2.1 z.2.2.2.2.2.2.2.2.1 z.2.2.2.2.2.2.2.2.2.1 z.2.2.2.2.2.2.2.2.2.2.1 z.2.2.2.2.2.2.2.2.2.2.2.1 z.2.2.2.2.2.2.2.2.2.2.2.2) (0,0,0,0,K,I,A,B,c,i,false,[],l)
noncomputable abbrev J9 (r:wa) (K I A B:Int) (c:List Int) (i:Int) (l:List tQ):=loop (λz:List Int×Int×Bool×Int×Int×Int×Int×List Int×Int×Bool×List tQ=>ap z.1 z.2.1 z.2.2.1 z.2.2.2.1 z.2.2.2.2.1 z.2.2.2.2.2.1 z.2.2.2.2.2.2.1 z.2.2.2.2.2.2.2.1 z.2.2.2.2.2.2.2.2.1 z.2.2.2.2.2.2.2.2.2.1 z.2.2.2.2.2.2.2.2.2.2) (r.1,r.2.1,r.2.2,K,I,A,B,c,i,false,l)
theorem Rl (r:wa) (hr:r.2.2=false) (K I A B:Int) {c:List Int} (hc:xa c) (hn:c.length<=M):∀(n:Nat) (l:List tQ) (s:List Int),n+l.length=10->c=uQ l++s->(∀x∈l,yS x=true) ->
 (Po K I A B c ((uQ l).length:Int) l=some (.inr (false,0,0,0,0,[]))/\∃d,J9 r K I A B c ((uQ l).length:Int) l=some d/\(d.2.2.1=true\/d.2.2.2.2.2.2.2.2.2.2.length=11)/\d.2.1=r.2.1/\A9 M d.2.2.2.2.2.2.2.2.2.2) \/
 (∃l',c=uQ l'/\(∀x∈l',yS x=true)/\l'.length<=10/\Po K I A B c ((uQ l).length:Int) l=some (.inl (0,0,0,0,K,I,A,B,c,(c.length:Int),false,[],l'))/\J9 r K I A B c ((uQ l).length:Int) l=some (r.1,r.2.1,false,K,I,A,B,c,(c.length:Int),false,l')):=by
 have hM:M=1048576:=rfl;intro n
 induction n with
 | zero =>
  intro l s hl e hx;have hcl:c.length=(uQ l).length+s.length:=by rw[e,length_append]
  by_cases hlt:((uQ l).length:Int)<(c.length:Int)
  · have h0:Ci (c,((uQ l).length:Int),false):=⟨hc,hn,by show (0:Int)<=((uQ l).length:Int);omega,by show ((uQ l).length:Int)<=(c.length:Int);omega⟩;obtain⟨d,d1,d2,d3,d4,d5,d6,d7,d8,d9⟩:=FI h0 48;obtain⟨g,g1,g2,g3⟩:=Pn d5 (by omega);have hs:ap r.1 r.2.1 r.2.2 K I A B c ((uQ l).length:Int) false l=some (.inl (r.1,r.2.1,cond d.1.2.2 true (!g.2),K,I,A,B,d.1.1,d.1.2.1,d.1.2.2,l++[g.1])):=by
     unfold ap;rw[hr];simp only[Bool.not_false,cT,ux hlt,tN,dT (show (l.length:Int)<=10 by omega),d1,d2,g2];rw[show (cond d.1.2.2 (some true) (some (!g.2)))=some (cond d.1.2.2 true (!g.2)) by cases d.1.2.2<;>rfl,tN,u6 (by show l.length+1<=_;omega),tN]
    have hs2:∀(bd:Bool) (c':List Int) (i':Int) (qb:Bool) (l':List tQ),(bd=true\/l'.length=11)->ap r.1 r.2.1 bd K I A B c' i' qb l'=some (.inr (r.1,r.2.1,bd,K,I,A,B,c',i',qb,l')):=by
     intro bd c' i' qb l' h;unfold ap;rcases h with rfl|h
     · rfl
     · rw[dF (show ¬(l'.length:Int)<=10 by omega)];cases bd with
       | true=>rfl
       | false=>cases h1:decide (i'<(c'.length:Int))<;>simp
    left;refine⟨un ?_,_,ug hs (un (hs2 _ _ _ _ _ (.inr (by rw[length_append];show l.length+1=11;omega)))),.inr (by show (l++[g.1]).length=11;rw[length_append];show l.length+1=11;omega),rfl,?_⟩
    · show ax 0 0 0 0 K I A B c ((uQ l).length:Int) false [] l=_;unfold ax;simp only[ux hlt,cT,d1,g1,tN,dT (show (l.length:Int)>=10 by omega)];cases g.2<;>rfl
    · refine⟨by show (l++[g.1]).length<=1048576;rw[length_append];show l.length+1<=_;omega,λx hx'=>?_⟩;rcases mem_append.1 hx' with h|h
      · exact wH (hx x h)
      · rw[mem_singleton]at h;subst h;rcases g3 with rfl|⟨x,rfl,q,_⟩
        · exact⟨by show 0<=1048576;decide,by show 0<=1048576;decide,by show 0<=1048576;decide⟩
        · exact wH q
  · have hs0:s=[]:=length_eq_zero_iff.1 (by omega);subst hs0;rw[append_nil]at e;right;refine⟨l,e,hx,by omega,un ?_,un ?_⟩
    · show ax 0 0 0 0 K I A B c ((uQ l).length:Int) false [] l=_;unfold ax;rw[ui hlt,cF,e]
    · show ap r.1 r.2.1 r.2.2 K I A B c ((uQ l).length:Int) false l=_;unfold ap;rw[hr,ui hlt,e];rfl
 | succ n ih =>
  intro l s hl e hx;have hcl:c.length=(uQ l).length+s.length:=by rw[e,length_append]
  by_cases hlt:((uQ l).length:Int)<(c.length:Int)
  · have h0:Ci (c,((uQ l).length:Int),false):=⟨hc,hn,by show (0:Int)<=((uQ l).length:Int);omega,by show ((uQ l).length:Int)<=(c.length:Int);omega⟩;obtain⟨d,d1,d2,d3,d4,d5,d6,d7,d8,d9⟩:=FI h0 48;obtain⟨g,g1,g2,g3⟩:=Pn d5 (by omega);have hs:ap r.1 r.2.1 r.2.2 K I A B c ((uQ l).length:Int) false l=some (.inl (r.1,r.2.1,cond d.1.2.2 true (!g.2),K,I,A,B,d.1.1,d.1.2.1,d.1.2.2,l++[g.1])):=by
     unfold ap;rw[hr];simp only[Bool.not_false,cT,ux hlt,tN,dT (show (l.length:Int)<=10 by omega),d1,d2,g2];rw[show (cond d.1.2.2 (some true) (some (!g.2)))=some (cond d.1.2.2 true (!g.2)) by cases d.1.2.2<;>rfl,tN,u6 (by show l.length+1<=_;omega),tN]
    rcases g3 with rfl|⟨x,rfl,hxo,hxe⟩
    · left;have hbd:(cond d.1.2.2 true (!false))=true:=by cases d.1.2.2<;>rfl
      refine⟨un ?_,_,ug hs (un (b:=(r.1,r.2.1,true,K,I,A,B,d.1.1,d.1.2.1,d.1.2.2,l++[([],0,0,[],[])])) ?_),.inl rfl,rfl,?_⟩
      · show ax 0 0 0 0 K I A B c ((uQ l).length:Int) false [] l=_;unfold ax;simp only[ux hlt,cT,d1,g1,tN];rfl
      · show ap r.1 r.2.1 (cond d.1.2.2 true (!false)) K I A B d.1.1 d.1.2.1 d.1.2.2 (l++[([],0,0,[],[])])=_;rw[hbd];rfl
      · refine⟨by show (l++[_]).length<=1048576;rw[length_append];show l.length+1<=_;omega,λy hy=>?_⟩;rcases mem_append.1 hy with h|h
        · exact wH (hx y h)
        · rw[mem_singleton]at h;subst h;exact⟨by show 0<=1048576;decide,by show 0<=1048576;decide,by show 0<=1048576;decide⟩
    · have hbad:d.1.2.2=false:=by
       cases hb:d.1.2.2 with
       | false=>rfl
       | true =>
        rw[d7 hb]at hxe;have:=congrArg List.length hxe
        have h1:=GJ 6 (uz x.1);rw[length_append]at this;simp at this;omega
      obtain⟨_,hp⟩:=d9 hbad;obtain⟨s',e1,e2⟩:=hp.cons (P:=uQ l) (s:=s) e rfl;have hb:uR 48 d.2=zP x:=by unfold zP Cj;rw[←hxe]
      rw[hb,←OO]at e1 e2;have hdc:d.1.1=c:=d4
      have:=ih (l++[x]) s' (by rw[length_append];show n+(l.length+1)=10;omega) e1 (λy hy=>by
       rcases mem_append.1 hy with h|h
       · exact hx y h
       · rw[mem_singleton]at h;subst h;exact hxo)
      have hi:ax 0 0 0 0 K I A B c ((uQ l).length:Int) false [] l=some (.inl (0,0,0,0,K,I,A,B,c,((uQ (l++[x])).length:Int),false,[],l++[x])):=by
       unfold ax;simp only[ux hlt,cT,d1,g1,tN,dF (show ¬(l.length:Int)>=10 by omega),Bool.not_true,cF];rw[u6 (by show l.length+1<=_;omega),tN,hdc,hbad,e2]
      have hs':ap r.1 r.2.1 r.2.2 K I A B c ((uQ l).length:Int) false l=some (.inl (r.1,r.2.1,r.2.2,K,I,A,B,c,((uQ (l++[x])).length:Int),false,l++[x])):=by
       rw[hs,hdc,hbad,e2,hr];rfl
      rcases this with ⟨i1,dd,i2,i3⟩|⟨l',q1,q2,q3,i1,i2⟩
      · exact .inl ⟨ug hi i1,dd,ug hs' i2,i3⟩
      · exact .inr ⟨l',q1,q2,q3,ug hi i1,ug hs' i2⟩
  · have hs0:s=[]:=length_eq_zero_iff.1 (by omega);subst hs0;rw[append_nil]at e;right;refine⟨l,e,hx,by omega,un ?_,un ?_⟩
    · show ax 0 0 0 0 K I A B c ((uQ l).length:Int) false [] l=_;unfold ax;rw[ui hlt,cF,e]
    · show ap r.1 r.2.1 r.2.2 K I A B c ((uQ l).length:Int) false l=_;unfold ap;rw[hr,ui hlt,e];rfl

theorem Tx (r:wa) (hr:r.2.2=true) (K I A B:Int) (c:List Int):J9 r K I A B c 0 []=some (r.1,r.2.1,true,K,I,A,B,c,0,false,[]):=by
 refine un ?_;show ap r.1 r.2.1 r.2.2 K I A B c 0 false []=_
 unfold ap;rw[hr];rfl
theorem wu.of {p:um} (h:∀x∈p.2.2.2.2,yS x=true) (h2:p.2.2.2.2.length<=11):wu M p:=⟨by show _<=1048576;omega,λx hx=>wH (h x hx)⟩
theorem Rm {b:List Int} (hb:xa b) (hn:b.length<=M):∃r,eY b=some r/\ga b=some r/\(r=((0,0,0,0,[]),false)\/∃p,r=(p,true)/\vJ p=true/\wu M p):=by
 have hM:M=1048576:=rfl;obtain⟨t,t1,t2,t3⟩:=HU hb hn (i:=0) (by omega);have htb:t.2.1.length<=250/\xa t.2.1:=by
  rcases t3 with rfl|⟨k,body,next,rfl,h⟩
  · exact⟨by simp,Ig⟩
  · exact⟨h.n,h.b⟩
 have h0:Ci (t.2.1,0,false):=⟨htb.2,by show t.2.1.length<=M;omega,by show (0:Int)<=0;omega,by show (0:Int)<=(t.2.1.length:Int);omega⟩;obtain⟨d1,a1,b1,c1,e1,f1,g1⟩:=Mv h0;obtain⟨d2,a2,b2,c2,e2,f2,g2⟩:=Mv c1;obtain⟨d3,a3,b3,c3,e3,f3,g3⟩:=Mv c2;obtain⟨d4,a4,b4,c4,e4,m4,n4,k4,f4,g4⟩:=FI c3 48;unfold eY ga;simp only[t1,t2,a1,b1,a2,b2,a3,b3,a4,b4,tN];have sp:∃d,J9 d4.1 t.1 d1.2 d2.2 d3.2 d4.2 0 []=some d/\d.2.1=d4.1.2.1/\(d4.1.2.2=true->d.2.2.1=true)/\A9 M d.2.2.2.2.2.2.2.2.2.2:=by
  cases hbad:d4.1.2.2 with
  | true=>exact⟨_,Tx d4.1 hbad _ _ _ _ _,rfl,λ_=>rfl,⟨by show 0<=1048576;decide,λx hx=>by simp at hx⟩⟩
  | false =>
   rcases Rl d4.1 hbad t.1 d1.2 d2.2 d3.2 m4 (by omega) 10 [] d4.2 rfl rfl (by simp)with ⟨_,d,q1,_,q3,q4⟩|⟨l',q1,q2,q3,_,q4⟩
   · exact⟨d,q1,q3,λe=>(by cases e),q4⟩
   · exact⟨_,q4,rfl,λe=>(by cases e),⟨by show l'.length<=1048576;omega,λx hx=>wH (q2 x hx)⟩⟩
 obtain⟨d,s1,s2,s3,s4⟩:=sp;have s1':loop (λz:List Int×Int×Bool×Int×Int×Int×Int×List Int×Int×Bool×List tQ=>ap z.1 z.2.1 z.2.2.1 z.2.2.2.1 z.2.2.2.2.1 z.2.2.2.2.2.1 z.2.2.2.2.2.2.1 z.2.2.2.2.2.2.2.1 z.2.2.2.2.2.2.2.2.1 z.2.2.2.2.2.2.2.2.2.1 z.2.2.2.2.2.2.2.2.2.2) (d4.1.1,d4.1.2.1,d4.1.2.2,t.1,d1.2,d2.2,d3.2,d4.2,0,false,[])=some d:=s1
 rw[s1',tN];have pd:bp (d.2.2.2.1,d.2.2.2.2.1,d.2.2.2.2.2.1,d.2.2.2.2.2.2.1,d.2.2.2.2.2.2.2.2.2.2)=some (vJ (d.2.2.2.1,d.2.2.2.2.1,d.2.2.2.2.2.1,d.2.2.2.2.2.2.1,d.2.2.2.2.2.2.2.2.2.2)):=MM (p:=(d.2.2.2.1,d.2.2.2.2.1,d.2.2.2.2.2.1,d.2.2.2.2.2.2.1,d.2.2.2.2.2.2.2.2.2.2)) s4
 simp only[pd,tN];cases hok:t.2.2.2 with
 | false=>exact⟨_,rfl,rfl,.inl rfl⟩
 | true =>
 simp only[Bool.not_true,cF,tN];cases hnx:(t.2.2.1 != (b.length:Int))with
 | true=>exact⟨_,rfl,rfl,.inl rfl⟩
 | false =>
 simp only[cF,tN];unfold gL;cases hbad:d4.1.2.2 with
 | true =>
  rw[s3 hbad];exact⟨_,rfl,rfl,.inl rfl⟩
 | false =>
 simp only[Bool.not_false,cT,tN];have hlen:d4.1.1=t.2.1:=by rw[e4,e3,e2,e1]
 rw[s2,hlen];cases hat:(d4.1.2.1==(t.2.1.length:Int))with
 | false =>
  have:(d4.1.2.1 != (t.2.1.length:Int))=true:=by rw[bne,hat];rfl
  rw[this];refine⟨((0,0,0,0,[]),false),rfl,?_,.inl rfl⟩;cases d.2.2.1<;>rfl
 | true =>
 have hat':(d4.1.2.1 != (t.2.1.length:Int))=false:=by rw[bne,hat];rfl
 rw[hat'];simp only[Bool.not_true,cF];obtain⟨x3,p4⟩:=g4 hbad;obtain⟨x2,p3,i3⟩:=g3 x3;obtain⟨x1,p2,i2⟩:=g2 x2;obtain⟨_,p1,i1⟩:=g1 x1;rcases t3 with rfl|⟨k,body,next,rfl,hp⟩
 · cases hok
 simp only at p1 hat hnx hlen;have p1':zB body 0 2 (vv d1.2) d1.1.2.1:=p1
 have p2':zB body d1.1.2.1 2 (vv d2.2) d2.1.2.1:=by rw[e1]at p2;exact p2
 have p3':zB body d2.1.2.1 2 (vv d3.2) d3.1.2.1:=by rw[e2,e1]at p3;exact p3
 have p4':zB body d3.1.2.1 48 d4.2 d4.1.2.1:=by rw[e3,e2,e1]at p4;exact p4
 obtain⟨s1x,y1,z1⟩:=p1'.cons (P:=[]) (s:=body) rfl rfl;obtain⟨s2x,y2,z2⟩:=p2'.cons y1 z1;obtain⟨s3x,y3,z3⟩:=p3'.cons y2 z2;obtain⟨s4x,y4,z4⟩:=p4'.cons y3 z3;have hs4:s4x=[]:=by
  have h1:=congrArg List.length y4;rw[length_append]at h1;have h2:d4.1.2.1=(body.length:Int):=eq_of_beq hat
  exact length_eq_zero_iff.1 (by omega)
 subst hs4;rw[append_nil,nil_append]at y4;obtain⟨u1,u2,u3⟩:∃rest,b=uR k body++rest/\rest=[]:=by
  obtain⟨s',w1,w2⟩:=hp.cons (P:=[]) (s:=b) rfl rfl;refine⟨s',by simpa using w1,?_⟩;have h1:=congrArg List.length w1
  rw[length_append]at h1;have h2:next=(b.length:Int):=by simpa using hnx
  exact length_eq_zero_iff.1 (by omega)
 subst u3;rw[append_nil]at u2;rcases Rl d4.1 hbad k d1.2 d2.2 d3.2 m4 (by omega) 10 [] d4.2 rfl rfl (by simp)with ⟨j1,dd,j2,j3,_,_⟩|⟨l',w1,w2,w3,j1,j2⟩
 · have hdd:dd=d:=by
    have:some dd=some d:=j2.symm.trans s1;exact Option.some.inj this
   subst hdd;have j1':loop (λz:Int×Int×Int×Int×Int×Int×Int×Int×List Int×Int×Bool×List tQ×List tQ=>ax z.1 z.2.1 z.2.2.1 z.2.2.2.1 z.2.2.2.2.1 z.2.2.2.2.2.1 z.2.2.2.2.2.2.1 z.2.2.2.2.2.2.2.1 z.2.2.2.2.2.2.2.2.1 z.2.2.2.2.2.2.2.2.2.1 z.2.2.2.2.2.2.2.2.2.2.1 z.2.2.2.2.2.2.2.2.2.2.2.1 z.2.2.2.2.2.2.2.2.2.2.2.2) (0,0,0,0,k,d1.2,d2.2,d3.2,d4.2,0,false,[],[])=some (.inr (false,0,0,0,0,[])):=j1
   rw[j1',tN,Sum.elim_inr];refine⟨((0,0,0,0,[]),false),rfl,?_,.inl rfl⟩;cases hd:dd.2.2.1 with
   | true=>rfl
   | false =>
    have h11:dd.2.2.2.2.2.2.2.2.2.2.length=11:=by
     rcases j3 with h|h
     · rw[hd]at h;cases h
     · exact h
    have hpf:vJ (dd.2.2.2.1,dd.2.2.2.2.1,dd.2.2.2.2.2.1,dd.2.2.2.2.2.2.1,dd.2.2.2.2.2.2.2.2.2.2)=false:=by
     unfold vJ;rw[dF (show ¬((dd.2.2.2.2.2.2.2.2.2.2.length:Nat):Int)<=10 by omega),Bool.and_false,Bool.false_and]
    rw[hpf];simp only[cF,tN];cases (dd.2.2.2.2.2.2.2.2.1 != (dd.2.2.2.2.2.2.2.1.length:Int))<;>rfl
 · have hdd:d=(d4.1.1,d4.1.2.1,false,k,d1.2,d2.2,d3.2,d4.2,(d4.2.length:Int),false,l'):=by
    have:some d=some (d4.1.1,d4.1.2.1,false,k,d1.2,d2.2,d3.2,d4.2,(d4.2.length:Int),false,l'):=s1.symm.trans j2;exact Option.some.inj this
   subst hdd;have j1':loop (λz:Int×Int×Int×Int×Int×Int×Int×Int×List Int×Int×Bool×List tQ×List tQ=>ax z.1 z.2.1 z.2.2.1 z.2.2.2.1 z.2.2.2.2.1 z.2.2.2.2.2.1 z.2.2.2.2.2.2.1 z.2.2.2.2.2.2.2.1 z.2.2.2.2.2.2.2.2.1 z.2.2.2.2.2.2.2.2.2.1 z.2.2.2.2.2.2.2.2.2.2.1 z.2.2.2.2.2.2.2.2.2.2.2.1 z.2.2.2.2.2.2.2.2.2.2.2.2) (0,0,0,0,k,d1.2,d2.2,d3.2,d4.2,0,false,[],[])=some (.inl (0,0,0,0,k,d1.2,d2.2,d3.2,d4.2,(d4.2.length:Int),false,[],l')):=j1
   rw[j1',tN,Sum.elim_inl];have hpl:wu M (k,d1.2,d2.2,d3.2,l'):=wu.of (p:=(k,d1.2,d2.2,d3.2,l')) w2 (by show l'.length<=11;omega)
   have hbody:body=xl (k,d1.2,d2.2,d3.2,l'):=by
    rw[y4,w1];rfl
   simp only[NN hpl,tN,bne_self_eq_false,cF];cases hpp:vJ (k,d1.2,d2.2,d3.2,l')with
   | false =>
    rw[if_neg (by simp)];exact⟨_,rfl,rfl,.inl rfl⟩
   | true =>
    have hal:(uQ l').length<=250:=by rw[←w1];exact n4
    rw[if_pos ⟨rfl,hal,by rw[←hbody];exact hp.n⟩,←hbody,←u2];have hb1:((b.length:Int)==0)=false:=beq_eq_false_iff_ne.2 (by
     have:=GJ k body;rw[←u2]at this;omega)
    rw[hb1,beq_self_eq_true];exact⟨_,rfl,rfl,.inr ⟨_,rfl,hpp,hpl⟩⟩

theorem Rn (w:List UInt8) {b:List Int} (hb:xa b) (hn:b.length<=M):∃r,cz w b=some r/\ew w b=some r/\wu M r.1/\(r.2=0->vJ r.1=true):=by
 have hM:M=1048576:=rfl;have nil:wu M ((0,0,0,0,[]):um):=⟨by show 0<=1048576;decide,λx hx=>by simp at hx⟩
 obtain⟨t,t1,t2,t3⟩:=HU hb hn (i:=0) (by omega);have htb:t.2.1.length<=250/\xa t.2.1:=by
  rcases t3 with rfl|⟨k,body,next,rfl,h⟩
  · exact⟨by simp,Ig⟩
  · exact⟨h.n,h.b⟩
 have h0:Ci (t.2.1,0,false):=⟨htb.2,by show t.2.1.length<=M;omega,by show (0:Int)<=0;omega,by show (0:Int)<=(t.2.1.length:Int);omega⟩;obtain⟨d1,a1,b1,c1,e1,f1,g1⟩:=Mv h0;obtain⟨d2,a2,b2,c2,e2,m2,n2,k2,f2,g2⟩:=FI c1 4;have hlen:d2.1.1=t.2.1:=by rw[e2,e1]
 have hlo:=c2.lo;have hhi:=c2.hi
 rw[hlen]at hhi;obtain⟨j,hj⟩:∃j:Nat,d2.1.2.1=(j:Int):=⟨d2.1.2.1.toNat,by omega⟩;have hcut:cut t.2.1 d2.1.2.1 (t.2.1.length:Int)=some (t.2.1.drop j):=by
  rw[hj,yf (by omega) (Nat.le_refl _),take_length]
 obtain⟨g,p1,p2,p3⟩:=Rm (b:=t.2.1.drop j) (λx hx=>htb.2 x (mem_of_mem_drop hx)) (by rw[length_drop];omega);unfold cz ew;simp only[t1,t2,a1,b1,a2,b2,tN,hcut,p1,p2];cases (!t.2.2.2)with
 | true=>exact⟨_,rfl,rfl,nil,λe=>(by cases e)⟩
 | false =>
 simp only[cF,tN];cases (t.1 != 48)with
 | true=>exact⟨_,rfl,rfl,nil,λe=>(by cases e)⟩
 | false =>
 simp only[cF,tN];cases (t.2.2.1 != (b.length:Int))with
 | true=>exact⟨_,rfl,rfl,nil,λe=>(by cases e)⟩
 | false =>
 simp only[cF,tN];cases d2.1.2.2 with
 | true=>exact⟨_,rfl,rfl,nil,λe=>(by cases e)⟩
 | false =>
 simp only[cF,tN];cases (d1.2 != 1)with
 | true=>exact⟨_,rfl,rfl,nil,λe=>(by cases e)⟩
 | false =>
 simp only[cF,tN];cases (uT d2.2==w)with
 | false=>exact⟨_,rfl,rfl,nil,λe=>(by cases e)⟩
 | true =>
 simp only[Bool.not_true,cF];rcases p3 with rfl|⟨p,rfl,q1,q2⟩
 · exact⟨_,rfl,rfl,nil,λe=>(by cases e)⟩
 · exact⟨_,rfl,rfl,q2,λ_=>q1⟩

def GK (p:um):List Int:=if vJ p=true/\(uQ p.2.2.2.2).length<=250/\(xl p).length<=250 then uR p.1 (xl p)else []
def vn (p:um):Bool:=tV ((GK p).length:Int) 1 120
theorem FJ {p:um} (hp:wu M p):aF p=some (vn p):=by
 unfold aF;rw[NN hp,tN];show (aa ((GK p).length:Int) 1 120).bind _=_
 rw[xt,tN];rfl
theorem Q2 {p:um} (h:vn p=true):vJ p=true:=by
 unfold vn GK at h;split at h
 · rename_i hh;exact hh.1
 · obtain⟨h1,_⟩:=we h;simp at h1
theorem Ck {α β:Type} {l:List α} {g:α->β} {step:Int×List β->Option ((Int×List β)⊕List β)} (hn:l.length<=M)
 (h1:∀k (hk:k<l.length) (out:List β),out.length=k->step ((k:Int),out)=some (.inl (((k+1:Nat):Int),out++[g l[k]]))) (h2:∀out,step ((l.length:Int),out)=some (.inr out)):loop step (0,[])=some (l.map g):=by
 obtain⟨b,e1,rfl⟩:=uw (step:=step) (λk z=>z=((k:Int),(l.take k).map g)) l.length (λb=>b=l.map g)
  (λk z hk e=>by
   subst e;refine .inl ⟨_,h1 k hk _ (by rw[length_map,length_take];omega),?_⟩;rw[take_add_one,List.getElem?_eq_getElem hk,map_append];rfl)
  (λz e=>by
   subst e;exact⟨_,h2 _,by rw[take_length]⟩) (x:=(0,[])) rfl
 exact e1
noncomputable def vw (b:tO) (o:List Int):tQ:=(aJ b o).getD ([],0,0,[],[])
noncomputable def Cl (b:tO) (o:List Int):wJ:=(bC b o).getD (0,0,[],[])
theorem FK {b:tO} (h:vj b) {o:List Int} (ho:o.length<=1000):aJ b o=some (vw b o)/\((vw b o∈wK b/\o<(vw b o).1)\/(vw b o=(o,130,0,[],[])/\∀x∈wK b,¬o<x.1)):=by
 obtain⟨j,hj⟩:=Td (P5 h) o;have e:=Te h ho hj
 unfold vw;rw[e];refine⟨rfl,?_⟩;by_cases hl:j<(wK b).length
 · rw[dif_pos hl];exact .inl ⟨getElem_mem hl,hj.yes j hl (Nat.le_refl _)⟩
 · rw[dif_neg hl];refine .inr ⟨rfl,λx hx=>?_⟩;obtain⟨i,hi,rfl⟩:=getElem_of_mem hx;exact hj.no i hi (by omega)
theorem OP {b:tO} (h:vj b) {o:List Int} (ho:o.length<9223372036854775807):bC b o=some (Cl b o)/\((∃x∈wK b,x.1=o/\Cl b o=x.2)\/((∀x∈wK b,x.1≠o)/\Cl b o=(128,0,[],[]))):=by
 obtain⟨v,e,hv⟩:=TN h ho;unfold Cl;rw[e];exact⟨rfl,hv⟩
theorem Q3 {o:List Int} (h:Nm o):x8 o=true:=by
 have h1:=h.ok;rw[Em (by have:=h.n10;omega)]at h1;exact Option.some.inj h1
theorem Lr {v:wJ} (h:Vl v):xV v=true:=by
 have h1:=h.ok;rw[GQ (by rw[h.o];show 0<=1048576;omega)]at h1;exact Option.some.inj h1
theorem yE {o:List Int} (h:x8 o=true):o.length<=10:=(zO h).2.1
theorem Sy {b:tO} (h:vj b) {x:tQ} (hx:x∈wK b):yS x=true:=by
 obtain⟨h1,h2⟩:=Cq h x hx;unfold yS;rw[Q3 h1,Lr h2];rfl
theorem DL {b:tO} (h:vj b) {o:List Int} (ho:x8 o=true):yS (vw b o)=true:=by
 obtain⟨_,h1⟩:=FK h (o:=o) (by have:=yE ho;omega);rcases h1 with ⟨h1,_⟩|⟨h1,_⟩
 · exact Sy h h1
 · rw[h1];unfold yS;rw[ho];rfl
theorem xc {x:tQ} (h:yS x=true):x8 x.1=true:=by
 unfold yS at h;rw[aT]at h;exact h.1
theorem Pp {b:tO} (h:vj b) {o:List Int} (ho:o.length<9223372036854775807):xV (Cl b o)=true:=by
 obtain⟨_,h1⟩:=OP h ho;rcases h1 with ⟨x,hx,_,e⟩|⟨_,e⟩
 · rw[e];exact Lr (Cq h x hx).2
 · rw[e];rfl
def zh (s:List tQ×List (List Int)):Nat:=min s.2.length (10-s.1.length)
noncomputable def Bo (b:tO) (s:List tQ×List (List Int)):List tQ×List (List Int):=(s.1++(s.2.take (zh s)).map (vw b),(s.2.take (zh s)).map (λo=>(vw b o).1)++s.2.drop (zh s))
noncomputable def AX (b:tO):Nat->List tQ×List (List Int)->List tQ×List (List Int)
 | 0,s=>s
 | k+1,s=>if 0<s.2.length/\s.1.length<10 then AX b k (Bo b s)else s
structure Fh (s:List tQ×List (List Int)):Prop where
 o10:s.1.length<=10
 l10:s.2.length<=10
 oOk:∀x∈s.1,yS x=true
 lOk:∀o∈s.2,x8 o=true
theorem NO {b:tO} (h:vj b) {s:List tQ×List (List Int)} (hs:Fh s):Fh (Bo b s):=by
 obtain⟨h1,h2,h3,h4⟩:=hs;refine⟨?_,?_,λx hx=>?_,λo ho=>?_⟩
 · show (s.1++_).length<=10;rw[length_append,length_map,length_take];unfold zh;omega
 · show (_++s.2.drop (zh s)).length<=10;rw[length_append,length_map,length_take,length_drop];unfold zh;omega
 · rcases mem_append.1 hx with hx|hx
   · exact h3 x hx
   · obtain⟨o,ho,rfl⟩:=mem_map.1 hx;exact DL h (h4 o (mem_of_mem_take ho))
 · rcases mem_append.1 ho with ho|ho
   · obtain⟨q,hq,rfl⟩:=mem_map.1 ho;exact xc (DL h (h4 q (mem_of_mem_take hq)))
   · exact h4 o (mem_of_mem_drop ho)
theorem Ty {b:tO} (h:vj b) {s:List tQ×List (List Int)} (hs:Fh s):loop (λz=>bS b s.2 z.1 z.2.1 z.2.2) (0,s.1,s.2)=some (Bo b s):=by
 obtain⟨out,l⟩:=s;obtain⟨h1,h2,h3,h4⟩:=hs;simp only at h1 h2 h3 h4;have hm:zh (out,l)=min l.length (10-out.length):=rfl
 obtain⟨v,e1,rfl⟩:=uw (step:=λz:Int×List tQ×List (List Int)=>bS b l z.1 z.2.1 z.2.2) (λk z=>z=((k:Int),out++(l.take k).map (vw b),(l.take k).map (λo=>(vw b o).1)++l.drop k)) (zh (out,l)) (λv=>v=Bo b (out,l))
  (λk z hk e=>by
   subst e;left;have hkl:k<l.length:=by omega
   have hlen:((l.take k).map (λo=>(vw b o).1)++l.drop k).length=l.length:=by rw[length_append,length_map,length_take,length_drop];omega
   have hol:(out++(l.take k).map (vw b)).length=out.length+k:=by rw[length_append,length_map,length_take];omega
   have hA:((l.take k).map (λo=>(vw b o).1)).length=k:=by rw[length_map,length_take];omega
   have hget:((l.take k).map (λo=>(vw b o).1)++l.drop k)[k]?=some l[k]:=by
    rw[List.getElem?_append_right (by omega),hA,Nat.sub_self,List.getElem?_drop,Nat.add_zero,List.getElem?_eq_getElem hkl]
   have hn:=(FK h (o:=l[k]) (by have:=yE (h4 _ (getElem_mem hkl));omega)).1;refine⟨_,?_,rfl⟩;show bS b l (k:Int) _ _=_
   unfold bS;rw[ux (by omega),cT,hol,dF (by omega),cF,hlen,wi hkl];simp only[tN,hget,hn];rw[u6 (by rw[hol];show out.length+k+1<=_;omega),tN,u7 (by omega)];have t1:(l.take (k+1))=l.take k++[l[k]]:=by rw[take_add_one,List.getElem?_eq_getElem hkl];rfl
   have t2:((l.take k).map (λo=>(vw b o).1)++l.drop k).set k (vw b l[k]).1=(l.take (k+1)).map (λo=>(vw b o).1)++l.drop (k+1):=by
    rw[List.set_append_right _ _ (by omega),hA,Nat.sub_self,drop_eq_getElem_cons hkl,List.set_cons_zero,t1,map_append,append_assoc];rfl
   rw[t2,t1];simp only[map_append,map_cons,List.map_nil,append_assoc])
  (λz e=>by
   subst e;refine⟨_,?_,rfl⟩;show bS b l ((zh (out,l):Nat):Int) _ _=_
   have hol:(out++(l.take (zh (out,l))).map (vw b)).length=out.length+zh (out,l):=by rw[length_append,length_map,length_take];omega
   unfold bS;rw[hol];by_cases hlt:((zh (out,l):Nat):Int)<(l.length:Int)
   · rw[ux hlt,cT,dT (by omega),cT];rfl
   · rw[ui hlt,cF];rfl) (x:=(0,out,l)) (by simp)
 exact e1
theorem Ls {b:tO} (h:vj b):∀(n:Nat) {s:List tQ×List (List Int)},Fh s->Fh (AX b n s)
 | 0,s,hs=>hs
 | n+1,s,hs=>by
  unfold AX;split
  · exact Ls h n (NO h hs)
  · exact hs
theorem Pq {b:tO} (h:vj b) {p:um} (hB:p.2.2.2.1<=1000):∀(n i:Nat) {s:List tQ×List (List Int)},Fh s->((i+n:Nat):Int)=p.2.2.2.1->loop (λz=>bj b p z.1 z.2.1 z.2.2) ((i:Int),s.1,s.2)=some (AX b n s)
 | 0,i,s,hs,e=>by
  refine un ?_;show bj b p (i:Int) s.1 s.2=_
  unfold bj;rw[ui (by omega),cF,tN,cF,tN,cF];rfl
 | n+1,i,s,hs,e=>by
  by_cases hc:0<s.2.length/\s.1.length<10
  · refine ug (y:=(((i+1:Nat):Int),(Bo b s).1,(Bo b s).2)) ?_ ?_
    · show bj b p (i:Int) s.1 s.2=_;unfold bj;rw[ux (by omega),cT,dT (by omega),tN,cT,ux (by omega),tN,cT,Ty h hs,tN,u7 (by omega)]
    · have:=Pq h hB n (i+1) (NO h hs) (by omega);rw[this,show AX b (n+1) s=AX b n (Bo b s)from if_pos hc]
  · refine un ?_;show bj b p (i:Int) s.1 s.2=_
    have e2:AX b (n+1) s=s:=if_neg hc;rw[e2];unfold bj;rw[ux (by omega),cT];by_cases h1:0<s.2.length
    · rw[dT (by omega),tN,cT,ui (by omega),tN,cF]
    · rw[dF (by omega),tN,cF,tN,cF]
def vk (p:um):Nat:=min p.2.2.1.toNat p.2.2.2.2.length
noncomputable def Mw (b:tO) (p:um):List tQ×List (List Int):=AX b p.2.2.2.1.toNat ((p.2.2.2.2.take (vk p)).map (λx=>vw b x.1),(p.2.2.2.2.drop (vk p)).map (λx=>x.1))
noncomputable def xF (b:tO) (p:um):List tQ:=(Mw b p).1
theorem Pr {b:tO} (h:vj b) {p:um} (hp:vJ p=true):Fh ((p.2.2.2.2.take (vk p)).map (λx=>vw b x.1),(p.2.2.2.2.drop (vk p)).map (λx=>x.1)):=by
 obtain⟨h1,h2,_⟩:=wZ hp;refine⟨?_,?_,λx hx=>?_,λo ho=>?_⟩
 · rw[length_map,length_take];omega
 · rw[length_map,length_drop];omega
 · obtain⟨y,hy,rfl⟩:=mem_map.1 hx;exact DL h (xc (h1 y (mem_of_mem_take hy)))
 · obtain⟨y,hy,rfl⟩:=mem_map.1 ho;exact xc (h1 y (mem_of_mem_drop hy))
theorem Lt {b:tO} (h:vj b) {p:um} (hp:vJ p=true):Fh (Mw b p):=Ls h _ (Pr h hp)
theorem Sz {b:tO} (h:vj b) {p:um} (hp:vJ p=true):eZ b p=some (xF b p):=by
 obtain⟨h1,h2,_,_,h5,h6⟩:=wZ hp;have hmin:min2 p.2.2.1 (p.2.2.2.2.length:Int)=((vk p:Nat):Int):=by
  unfold min2 vk;split<;>omega
 have hon:vk p<=p.2.2.2.2.length:=Nat.min_le_right _ _;unfold eZ;show ((cut p.2.2.2.2 0 (min2 p.2.2.1 (p.2.2.2.2.length:Int))).bind _)=_
 rw[hmin];have c1:cut p.2.2.2.2 0 ((vk p:Nat):Int)=some (p.2.2.2.2.take (vk p)):=by
  have:=yf (l:=p.2.2.2.2) (a:=0) (b:=vk p) (by omega) hon;simpa using this
 have c2:cut p.2.2.2.2 ((vk p:Nat):Int) (p.2.2.2.2.length:Int)=some (p.2.2.2.2.drop (vk p)):=by
  have:=yf (l:=p.2.2.2.2) (a:=vk p) (b:=p.2.2.2.2.length) hon (Nat.le_refl _);rw[take_length]at this;exact this
 have l1:loop (λz:Int×List tQ=>cD b (p.2.2.2.2.take (vk p)) z.1 z.2) (0,[])=some ((p.2.2.2.2.take (vk p)).map (λx=>vw b x.1)):=by
  refine Ck (by show _<=1048576;rw[length_take];omega) (λk hk out ho=>?_) (λout=>?_)
  · have hx:=h1 _ (mem_of_mem_take (getElem_mem hk));have hk':=hk
    rw[length_take]at hk';show cD b _ (k:Int) out=_
    unfold cD;rw[ux (by omega),cT,ud hk,tN,(FK h (by have:=yE (xc hx);omega)).1,tN,u6 (by rw[ho];show k+1<=_;omega),tN,u7 (by omega)]
  · show cD b _ ((p.2.2.2.2.take (vk p)).length:Int) out=_;unfold cD;rw[ui (by omega),cF]
 have l2:loop (λz:Int×List (List Int)=>cE (p.2.2.2.2.drop (vk p)) z.1 z.2) (0,[])=some ((p.2.2.2.2.drop (vk p)).map (λx=>x.1)):=by
  refine Ck (by show _<=1048576;rw[length_drop];omega) (λk hk out ho=>?_) (λout=>?_)
  · have hk':=hk;rw[length_drop]at hk';show cE _ (k:Int) out=_
    unfold cE;rw[ux (by omega),cT,ud hk,tN,u6 (by rw[ho];show k+1<=_;omega),tN,u7 (by omega)]
  · show cE _ ((p.2.2.2.2.drop (vk p)).length:Int) out=_;unfold cE;rw[ui (by omega),cF]
 rw[c1,tN,l1,tN,c2,tN,l2,tN];have:=Pq h (p:=p) (by omega) p.2.2.2.1.toNat 0 (Pr h hp) (by omega)
 have this:loop (λz=>bj b p z.1 z.2.1 z.2.2) (0,(p.2.2.2.2.take (vk p)).map (λx=>vw b x.1),(p.2.2.2.2.drop (vk p)).map (λx=>x.1))=_:=this;rw[this,tN];rfl
def shr (f:List tQ->Bool):Nat->List tQ->Option (List tQ)
 | 0,_=>none
 | n+1,l=>if f (l.take n)=true then some (l.take n)else shr f n (l.take n)
theorem K3 {f:List tQ->Bool}:∀{n:Nat} {l t:List tQ},shr f n l=some t->f t=true/\∃m,m<n/\t=l.take m
 | 0,l,t,h=>by cases h
 | n+1,l,t,h=>by
  unfold shr at h;split at h
  · rename_i hf;cases h;exact⟨hf,n,by omega,rfl⟩
  · obtain⟨h1,m,h2,h3⟩:=K3 h;refine⟨h1,m,by omega,?_⟩;rw[h3,List.take_take,Nat.min_eq_left (by omega)]
theorem GL {α β γ δ:Type} {step:α->Option (α⊕(β⊕δ))} {x:α} {F:β->Option γ} {G:δ->Option γ} {R:Option γ} (h:∃d,step x=some (.inr (.inl d))) (k:∀d,F d=R):(loop step x).bind (Sum.elim F G)=R:=by
 obtain⟨d,h⟩:=h;rw[un h,tN,Sum.elim_inl,k]
abbrev TY:=Int×List UInt8×Int×Int×Int×Int×Int×Int×Int×Int×Int×Int×List UInt8×Int×Int×Int×Int×Int×Int×Int×Int×Int×List Pt×List tZ×List ua×List Int×List tQ×List Pt×List tZ×List ua×List Int×List tQ
theorem Ro {p:um} (h165:(p.1==165)=true) (b:tO) (j0:Int) (j1:List UInt8) (j2 j3 j4 j5 j6 j7 j8 j9 j10:Int) (k i a c:Int) (j11:List Pt) (j12:List tZ) (j13:List ua) (j14:List Int) (j15:List tQ):∀(n:Nat) (l:List tQ),l.length=n->n<=10->(∀x∈l,Bg M x) ->
 ∃w,loop (λz:TY=>dH p z.1 z.2.1 z.2.2.1 z.2.2.2.1 z.2.2.2.2.1 z.2.2.2.2.2.1 z.2.2.2.2.2.2.1 z.2.2.2.2.2.2.2.1 z.2.2.2.2.2.2.2.2.1 z.2.2.2.2.2.2.2.2.2.1 z.2.2.2.2.2.2.2.2.2.2.1 z.2.2.2.2.2.2.2.2.2.2.2.1 z.2.2.2.2.2.2.2.2.2.2.2.2.1 z.2.2.2.2.2.2.2.2.2.2.2.2.2.1 z.2.2.2.2.2.2.2.2.2.2.2.2.2.2.1 z.2.2.2.2.2.2.2.2.2.2.2.2.2.2.2.1 z.2.2.2.2.2.2.2.2.2.2.2.2.2.2.2.2.1 z.2.2.2.2.2.2.2.2.2.2.2.2.2.2.2.2.2.1 z.2.2.2.2.2.2.2.2.2.2.2.2.2.2.2.2.2.2.1 z.2.2.2.2.2.2.2.2.2.2.2.2.2.2.2.2.2.2.2.1 z.2.2.2.2.2.2.2.2.2.2.2.2.2.2.2.2.2.2.2.2.1 z.2.2.2.2.2.2.2.2.2.2.2.2.2.2.2.2.2.2.2.2.2.1 z.2.2.2.2.2.2.2.2.2.2.2.2.2.2.2.2.2.2.2.2.2.2.1 z.2.2.2.2.2.2.2.2.2.2.2.2.2.2.2.2.2.2.2.2.2.2.2.1 z.2.2.2.2.2.2.2.2.2.2.2.2.2.2.2.2.2.2.2.2.2.2.2.2.1 z.2.2.2.2.2.2.2.2.2.2.2.2.2.2.2.2.2.2.2.2.2.2.2.2.2.1 z.2.2.2.2.2.2.2.2.2.2.2.2.2.2.2.2.2.2.2.2.2.2.2.2.2.2.1 z.2.2.2.2.2.2.2.2.2.2.2.2.2.2.2.2.2.2.2.2.2.2.2.2.2.2.2.1 z.2.2.2.2.2.2.2.2.2.2.2.2.2.2.2.2.2.2.2.2.2.2.2.2.2.2.2.2.1 z.2.2.2.2.2.2.2.2.2.2.2.2.2.2.2.2.2.2.2.2.2.2.2.2.2.2.2.2.2.1 z.2.2.2.2.2.2.2.2.2.2.2.2.2.2.2.2.2.2.2.2.2.2.2.2.2.2.2.2.2.2.1 z.2.2.2.2.2.2.2.2.2.2.2.2.2.2.2.2.2.2.2.2.2.2.2.2.2.2.2.2.2.2.2) (j0,j1,j2,j3,j4,j5,j6,j7,j8,j9,j10,b.1,b.2.1,b.2.2.2.2.2.2.1,b.2.2.2.2.2.2.2.1,b.2.2.2.2.2.2.2.2.1,b.2.2.2.2.2.2.2.2.2.1,b.2.2.2.2.2.2.2.2.2.2,k,i,a,c,j11,j12,j13,j14,j15,b.2.2.1,b.2.2.2.1,b.2.2.2.2.1,b.2.2.2.2.2.1,l)=some w/\(match shr (λt=>vn (k,i,a,c,t)) n l with|some t=>w=.inr (true,b.1,b.2.1,b.2.2.2.2.2.2.1,b.2.2.2.2.2.2.2.1,b.2.2.2.2.2.2.2.2.1,b.2.2.2.2.2.2.2.2.2.1,b.2.2.2.2.2.2.2.2.2.2,k,i,a,c,b.2.2.1,b.2.2.2.1,b.2.2.2.2.1,b.2.2.2.2.2.1,t)|none=>∃d,w=.inl d)
 | 0,l,hl,hn,hx=>by
  refine⟨_,un (b:=Sum.inl (j0,j1,j2,j3,j4,j5,j6,j7,j8,j9,j10,b.1,b.2.1,b.2.2.2.2.2.2.1,b.2.2.2.2.2.2.2.1,b.2.2.2.2.2.2.2.2.1,b.2.2.2.2.2.2.2.2.2.1,b.2.2.2.2.2.2.2.2.2.2,k,i,a,c,j11,j12,j13,j14,j15,b.2.2.1,b.2.2.2.1,b.2.2.2.2.1,b.2.2.2.2.2.1,l)) ?_,⟨_,rfl⟩⟩;dsimp only;unfold dH;rw[h165,cT,dF (by omega),tN,cF]
 | n+1,l,hl,hn,hx=>by
  have hlt:(l.take n).length=n:=by rw[length_take];omega
  have hcut:vC l.length 0 (tP ((l.length:Int)-1))=some (0,n):=by
   rw[uE (by omega) (by omega),show (l.length:Int)-1=(n:Int) by omega];unfold vC;rw[if_pos (by omega),if_pos (by omega),if_pos (by omega)];simp
  have hp:wu M (k,i,a,c,l.take n):=⟨by show (l.take n).length<=1048576;omega,λx h=>hx x (mem_of_mem_take h)⟩;have hstep:∀q:Bool,vn (k,i,a,c,l.take n)=q->dH p j0 j1 j2 j3 j4 j5 j6 j7 j8 j9 j10 b.1 b.2.1 b.2.2.2.2.2.2.1 b.2.2.2.2.2.2.2.1 b.2.2.2.2.2.2.2.2.1 b.2.2.2.2.2.2.2.2.2.1 b.2.2.2.2.2.2.2.2.2.2 k i a c j11 j12 j13 j14 j15 b.2.2.1 b.2.2.2.1 b.2.2.2.2.1 b.2.2.2.2.2.1 l=cond q (some (.inr (.inr (true,b.1,b.2.1,b.2.2.2.2.2.2.1,b.2.2.2.2.2.2.2.1,b.2.2.2.2.2.2.2.2.1,b.2.2.2.2.2.2.2.2.2.1,b.2.2.2.2.2.2.2.2.2.2,k,i,a,c,b.2.2.1,b.2.2.2.1,b.2.2.2.2.1,b.2.2.2.2.2.1,l.take n)))) (some (.inl (j0,j1,j2,j3,j4,j5,j6,j7,j8,j9,j10,b.1,b.2.1,b.2.2.2.2.2.2.1,b.2.2.2.2.2.2.2.1,b.2.2.2.2.2.2.2.2.1,b.2.2.2.2.2.2.2.2.2.1,b.2.2.2.2.2.2.2.2.2.2,k,i,a,c,j11,j12,j13,j14,j15,b.2.2.1,b.2.2.2.1,b.2.2.2.2.1,b.2.2.2.2.2.1,l.take n))):=by
   intro q hq;unfold dH;rw[h165,cT,dT (by omega),tN,cT,hcut,tN];simp only[drop_zero];rw[FJ hp,tN,hq]
  by_cases hf:vn (k,i,a,c,l.take n)=true
  · have e:shr (λt=>vn (k,i,a,c,t)) (n+1) l=some (l.take n):=if_pos hf;rw[e];exact⟨_,un (hstep true hf),rfl⟩
  · have e:shr (λt=>vn (k,i,a,c,t)) (n+1) l=shr (λt=>vn (k,i,a,c,t)) n (l.take n):=if_neg hf;rw[e];obtain⟨w,h1,h2⟩:=Ro h165 b j0 j1 j2 j3 j4 j5 j6 j7 j8 j9 j10 k i a c j11 j12 j13 j14 j15 n (l.take n) hlt (by omega) (λx h=>hx x (mem_of_mem_take h));exact⟨w,ug (hstep false (by simpa using hf)) h1,h2⟩
noncomputable def Dh (b:tO) (l:List tQ):tO×Int×Int:=(cI b l).getD (b,0,0)
noncomputable def zi (b:tO) (p:um):tO×um :=
 cond (p.1==160) (b,162,p.2.1,0,0,p.2.2.2.2.map λx=>(x.1,Cl b x.1))
  (cond (p.1==161) (b,162,p.2.1,0,0,p.2.2.2.2.map λx=>vw b x.1)
   (cond (p.1==165) (b,162,p.2.1,0,0,xF b p) ((Dh b p.2.2.2.2).1,162,p.2.1,(Dh b p.2.2.2.2).2.1,(Dh b p.2.2.2.2).2.2,p.2.2.2.2)))
noncomputable def AK (b:tO) (p:um):tO×um :=
 match cond (p.1==165) (shr (λt=>vn (162,p.2.1,0,0,t)) (xF b p).length (xF b p)) none with
 | some t=>(b,162,p.2.1,0,0,t)
 | none=>(b,162,p.2.1,7,0,[])
noncomputable def xR (b:tO) (p:um):tO×um:=cond (vn (zi b p).2) (zi b p) (AK b p)
noncomputable def Cm (b:tO) (p:um):Bool:=v8 b&&(vJ p&&(p.1 != 162))
noncomputable def vI (b:tO) (p:um):tO×um×Bool:=cond (Cm b p) ((xR b p).1,(xR b p).2,true) (b,(0,0,0,0,[]),false)
theorem Fi {p:um} (hp:vJ p=true):A9 M p.2.2.2.2:=by
 obtain⟨h1,h2,_⟩:=wZ hp;exact⟨by show _<=1048576;omega,λx hx=>wH (h1 x hx)⟩
theorem NP {b:tO} (h:zl b) (hb:yF M b) {p:um} (hp:wu M p):bV b p=some (vI b p):=by
 unfold bV vI Cm;rw[z9 hb,tN,DM h,tN];cases hbr:v8 b with
 | false=>rw[Bool.not_false,cT,tN,cT,tN,cT];rfl
 | true =>
 rw[Bool.not_true,cF,Pb hp,tN,tN];cases hpp:vJ p with
 | false=>rw[Bool.not_false,cT,tN,cT];rfl
 | true =>
 rw[Bool.not_true,cF,tN];cases h162:(p.1==162)with
 | true =>
  have:(p.1 != 162)=false:=by rw[bne,h162];rfl
  rw[cT,this];rfl
 | false =>
 have hne:(p.1 != 162)=true:=by rw[bne,h162];rfl
 have hBO:=HO h hbr;obtain⟨x1,x2,x3,x4,x5,x6⟩:=wZ hpp;have hxs:=Fi hpp
 rw[cF,hne,Bool.true_and,Bool.true_and,cT];unfold xR zi AK;cases h160:(p.1==160)with
 | true =>
  have h165:(p.1==165)=false:=by simp only[beq_iff_eq]at h160;rw[h160];rfl
  have e:loop (λz:Int×Int×Int×Int×Int×List tQ=>dE b p z.1 z.2.1 z.2.2.1 z.2.2.2.1 z.2.2.2.2.1 z.2.2.2.2.2) (0,162,p.2.1,0,0,[])=some (162,p.2.1,0,0,p.2.2.2.2.map λx=>(x.1,Cl b x.1)):=by
   obtain⟨v,e1,rfl⟩:=uw (step:=λz:Int×Int×Int×Int×Int×List tQ=>dE b p z.1 z.2.1 z.2.2.1 z.2.2.2.1 z.2.2.2.2.1 z.2.2.2.2.2) (λk z=>z=((k:Int),162,p.2.1,0,0,(p.2.2.2.2.take k).map λx=>(x.1,Cl b x.1))) p.2.2.2.2.length (λv=>v=(162,p.2.1,0,0,p.2.2.2.2.map λx=>(x.1,Cl b x.1)))
    (λk z hk e=>by
     subst e;refine .inl ⟨_,?_,rfl⟩;have hx:=yE (xc (x1 _ (getElem_mem hk)))
     dsimp only;unfold dE;rw[ux (by omega),cT,ud hk,tN,El (by show _<=1048576;omega),tN,(OP hBO (by omega)).1,tN,u6 (by rw[length_map,length_take];show min k _+1<=_;omega),tN,u7 (by omega),
      take_add_one,List.getElem?_eq_getElem hk,map_append];rfl)
    (λz e=>by
     subst e;refine⟨_,?_,rfl⟩;dsimp only;unfold dE;rw[ui (by omega),cF,take_length]) (x:=(0,162,p.2.1,0,0,[])) rfl
   exact e1
  simp only[cT,cF];rw[e,tN,FJ ⟨by show (p.2.2.2.2.map _).length<=1048576;rw[length_map];omega,λx hx=>by
   obtain⟨y,hy,rfl⟩:=mem_map.1 hx;exact wH (by unfold yS;rw[xc (x1 y hy),Pp hBO (by have:=yE (xc (x1 y hy));omega)];rfl)⟩,tN]
  cases vn (162,p.2.1,0,0,p.2.2.2.2.map λx=>(x.1,Cl b x.1))with
  | true=>rfl
  | false =>
   simp only[cF];refine GL ?_ λd=>?_
   · dsimp only;unfold kh;rw[h165,cF,tN,cF];exact⟨_,rfl⟩
   · rw[tN];simp only[h165,cF]
 | false =>
 cases h161:(p.1==161)with
 | true =>
  have h165:(p.1==165)=false:=by simp only[beq_iff_eq]at h161;rw[h161];rfl
  have e:loop (λz:Int×Int×Int×Int×Int×List tQ=>dG b p z.1 z.2.1 z.2.2.1 z.2.2.2.1 z.2.2.2.2.1 z.2.2.2.2.2) (0,162,p.2.1,0,0,[])=some (162,p.2.1,0,0,p.2.2.2.2.map λx=>vw b x.1):=by
   obtain⟨v,e1,rfl⟩:=uw (step:=λz:Int×Int×Int×Int×Int×List tQ=>dG b p z.1 z.2.1 z.2.2.1 z.2.2.2.1 z.2.2.2.2.1 z.2.2.2.2.2) (λk z=>z=((k:Int),162,p.2.1,0,0,(p.2.2.2.2.take k).map λx=>vw b x.1)) p.2.2.2.2.length (λv=>v=(162,p.2.1,0,0,p.2.2.2.2.map λx=>vw b x.1))
    (λk z hk e=>by
     subst e;refine .inl ⟨_,?_,rfl⟩;have hx:=yE (xc (x1 _ (getElem_mem hk)))
     dsimp only;unfold dG;rw[ux (by omega),cT,ud hk,tN,(FK hBO (by omega)).1,tN,u6 (by rw[length_map,length_take];show min k _+1<=_;omega),tN,u7 (by omega),
      take_add_one,List.getElem?_eq_getElem hk,map_append];rfl)
    (λz e=>by
     subst e;refine⟨_,?_,rfl⟩;dsimp only;unfold dG;rw[ui (by omega),cF,take_length]) (x:=(0,162,p.2.1,0,0,[])) rfl
   exact e1
  simp only[cT,cF];rw[e,tN,FJ ⟨by show (p.2.2.2.2.map _).length<=1048576;rw[length_map];omega,λx hx=>by
   obtain⟨y,hy,rfl⟩:=mem_map.1 hx;exact wH (DL hBO (xc (x1 y hy)))⟩,tN]
  cases vn (162,p.2.1,0,0,p.2.2.2.2.map λx=>vw b x.1)with
  | true=>rfl
  | false =>
   simp only[cF];refine GL ?_ λd=>?_
   · dsimp only;unfold ki;rw[h165,cF,tN,cF];exact⟨_,rfl⟩
   · rw[tN];simp only[h165,cF]
 | false =>
 cases h165:(p.1==165)with
 | true =>
  have hbk:=Lt hBO hpp;have hbx:∀x∈xF b p,Bg M x:=λx hx=>wH (hbk.oOk x hx)
  have hbn:(xF b p).length<=10:=hbk.o10;simp only[cT,cF];rw[Sz hBO hpp,tN,FJ ⟨by show (xF b p).length<=1048576;omega,hbx⟩,tN];cases vn (162,p.2.1,0,0,xF b p)with
  | true=>rfl
  | false =>
   simp only[cF];obtain⟨w,e1,e2⟩:=Ro h165 b 0 [] 0 0 0 0 0 0 0 0 0 162 p.2.1 0 0 [] [] [] [] [] _ (xF b p) rfl hbn hbx;rw[e1,tN];cases hs:shr (λt=>vn (162,p.2.1,0,0,t)) (xF b p).length (xF b p)with
   | some t=>rw[hs]at e2;rw[e2];rfl
   | none =>
    rw[hs]at e2;obtain⟨d,rfl⟩:=e2;rw[Sum.elim_inl,tN];try rfl
 | false =>
  obtain⟨r,r1,_,_,_⟩:=Il h hb hxs;have hr:Dh b p.2.2.2.2=r:=by unfold Dh;rw[r1];rfl
  simp only[cF];rw[r1,tN,Fq hxs,tN,hr,FJ (p:=(162,p.2.1,r.2.1,r.2.2,p.2.2.2.2)) ⟨hxs.1,hxs.2⟩,tN];cases vn (162,p.2.1,r.2.1,r.2.2,p.2.2.2.2)with
  | true=>rfl
  | false =>
   simp only[cF];refine GL ?_ λd=>?_
   · dsimp only;unfold kj;rw[h165,cF,tN,cF];exact⟨_,rfl⟩
   · rw[tN]

def aW (a:ue):List UInt8:=a.2.2.2.2.2.2.2.2.2.2.2.1
def vS (b:tO) (w:List UInt8) (l:List ur) (lo la:Int):ue:=(b.1,b.2.1,b.2.2.1,b.2.2.2.1,b.2.2.2.2.1,b.2.2.2.2.2.1,b.2.2.2.2.2.2.1,b.2.2.2.2.2.2.2.1,b.2.2.2.2.2.2.2.2.1,b.2.2.2.2.2.2.2.2.2.1,b.2.2.2.2.2.2.2.2.2.2,w,l,lo,la)
def xG (id:Int) (m:List Int) (ph:Int) (p:um) (s:tO) (at' tr:Int):ur:=(id,m,ph,p.1,p.2.1,p.2.2.1,p.2.2.2.1,p.2.2.2.2,s.1,s.2.1,s.2.2.1,s.2.2.2.1,s.2.2.2.2.1,s.2.2.2.2.2.1,s.2.2.2.2.2.2.1,s.2.2.2.2.2.2.2.1,s.2.2.2.2.2.2.2.2.1,s.2.2.2.2.2.2.2.2.2.1,s.2.2.2.2.2.2.2.2.2.2,at',tr)
theorem Ja {b:tO} {w:List UInt8} {l:List ur} {lo la:Int} {k:Nat} (hk:k<l.length) (hl:l.length<=M):bx (vS b w l lo la) (k:Int)=some (vS b w (l.eraseIdx k) lo la):=by
 have hM:M=1048576:=rfl;have c1:vC l.length 0 (k:Int)=some (0,k):=by
  unfold vC;rw[if_pos (by omega),if_pos (by omega),if_pos (by omega)];simp
 have c2:vC l.length (tP ((k:Int)+1)) (l.length:Int)=some (k+1,l.length):=by
  rw[u7 (by omega)];unfold vC;rw[if_pos (by omega),if_pos (by omega),if_pos (by omega)];simp
 have c3:EG l 0 k (k+1) l.length=some (l.eraseIdx k):=by
  unfold EG;rw[if_pos (by omega),take_length,drop_zero,u6 (by rw[length_take,length_drop];omega),←List.eraseIdx_eq_take_drop_succ]
 unfold bx vS;simp only[c1,tN,c2,c3]
def Ih (b:tO) (j:ur):ur:=xG j.1 j.2.1 1 (jP j) b 0 (uy j)
theorem NQ {b:tO} (hb:yF M b) {w:List UInt8} {l:List ur} {lo la:Int} {k:Nat} (hk:k<l.length):dt (vS b w l lo la) (k:Int)=some (vS b w (l.set k (Ih b l[k])) lo la):=by
 have cb:=z9 hb;unfold dt vS;simp only[wi hk,tN];have cb':aj (b.1,b.2.1,b.2.2.1,b.2.2.2.1,b.2.2.2.2.1,b.2.2.2.2.2.1,b.2.2.2.2.2.2.1,b.2.2.2.2.2.2.2.1,b.2.2.2.2.2.2.2.2.1,b.2.2.2.2.2.2.2.2.2.1,b.2.2.2.2.2.2.2.2.2.2)=some b:=cb
 simp only[cb',tN,List.getElem?_eq_getElem hk,List.getElem?_set_self hk,set_set];rfl
def HE (n:Int):Int:=min2 (tP (n+1)) 1000000
theorem Mx (n:Int):bb n=some (HE n):=rfl
def CZ (b:tO):tO:=(b.1,b.2.1,b.2.2.1,b.2.2.2.1,b.2.2.2.2.1,b.2.2.2.2.2.1,b.2.2.2.2.2.2.1,b.2.2.2.2.2.2.2.1,HE b.2.2.2.2.2.2.2.2.1,b.2.2.2.2.2.2.2.2.2.1,b.2.2.2.2.2.2.2.2.2.2)
def Bf (b:tO):tO:=(b.1,b.2.1,b.2.2.1,b.2.2.2.1,b.2.2.2.2.1,b.2.2.2.2.2.1,b.2.2.2.2.2.2.1,HE b.2.2.2.2.2.2.2.1,b.2.2.2.2.2.2.2.2.1,b.2.2.2.2.2.2.2.2.2.1,b.2.2.2.2.2.2.2.2.2.2)
noncomputable def uX (w:List UInt8) (m:List Int):um×Int:=(cz w m).getD ((0,0,0,0,[]),0)
theorem OQ (w:List UInt8) {m:List Int} (hb:xa m) (hn:m.length<=M):cz w m=some (uX w m)/\ew w m=some (uX w m)/\wu M (uX w m).1/\((uX w m).2=0->vJ (uX w m).1=true):=by
 obtain⟨r,h1,h2,h3,h4⟩:=Rn w hb hn;unfold uX;rw[h1];exact⟨rfl,h2,h3,h4⟩
noncomputable def z8 (p:um):um:=cond (vn (162,p.2.1,6,1,p.2.2.2.2)) (162,p.2.1,6,1,p.2.2.2.2) (162,p.2.1,7,0,[])
theorem SA {p:um} (hp:wu M p):dJ p=some (z8 p):=by
 unfold dJ z8;rw[Fq hp,tN,FJ (p:=(162,p.2.1,6,1,p.2.2.2.2)) hp,tN];cases vn (162,p.2.1,6,1,p.2.2.2.2)<;>rfl
inductive Rp where
 | stay (j:ur)|gone (d:List vB)
noncomputable def xH (w:List UInt8) (b:tO) (j:ur):tO×Rp :=
 cond (j.2.2.1==0)
  (cond ((uX w j.2.1).2==3) (CZ b,.gone [])
   (cond ((uX w j.2.1).2 != 0||((uX w j.2.1).1.1==162)) (Bf b,.gone [])
    (b,.stay (xG j.1 j.2.1 1 (uX w j.2.1).1 b 0 (uy j)))))
  (cond (j.2.2.1==2)
   (cond (j.2.2.2.1 != 163) (b,.gone [(j.1,(vI (jB j) (jP j)).2.1)])
    (cond (b.2.2.2.2.2.2.2.2.2.2==(jB j).2.2.2.2.2.2.2.2.2.2) ((vI b (jP j)).1,.gone [(j.1,(vI b (jP j)).2.1)])
     (cond (decide (uy j>=3)) (b,.gone [(j.1,z8 (jP j))])
      (b,.stay (xG j.1 j.2.1 1 (jP j) b 0 (tP (uy j+1)))))))
   (cond (decide (xu j<((jP j).2.2.2.2.length:Int))) (b,.stay (xG j.1 j.2.1 j.2.2.1 (jP j) (jB j) (tP (xu j+1)) (uy j)))
    (b,.stay (xG j.1 j.2.1 2 (jP j) (jB j) (xu j) (uy j)))))
noncomputable def yH (a:ue) (k:Nat) (j:ur):ue×List vB :=
 match (xH (aW a) (aB a) j).2 with
 | .stay j'=>(vS (xH (aW a) (aB a) j).1 (aW a) ((tS a).set k j') (xW a) (vr a),[])
 | .gone d=>(vS (xH (aW a) (aB a) j).1 (aW a) ((tS a).eraseIdx k) (xW a) (vr a),d)
theorem SB {b:tO} (hb:yF M b) {w:List UInt8} {l:List ur} {lo la:Int} {k:Nat} (hk:k<l.length) (hl:l.length<=M) (h1:xa l[k].2.1) (h2:l[k].2.1.length<=M) :
 du (vS b w l lo la) (k:Int)=some (cond ((uX w l[k].2.1).2==3) (vS (CZ b) w (l.eraseIdx k) lo la)
  (cond ((uX w l[k].2.1).2 != 0||((uX w l[k].2.1).1.1==162)) (vS (Bf b) w (l.eraseIdx k) lo la) (vS b w (l.set k (xG l[k].1 l[k].2.1 1 (uX w l[k].2.1).1 b 0 (uy l[k]))) lo la))):=by
 obtain⟨m1,_,m3,_⟩:=OQ w h1 h2;unfold du;have d1:=Ja (b:=CZ b) (w:=w) (lo:=lo) (la:=la) hk hl
 have d2:=Ja (b:=Bf b) (w:=w) (lo:=lo) (la:=la) hk hl;unfold CZ vS at d1;unfold Bf vS at d2;dsimp only[vS];simp only[wi hk,tN,List.getElem?_eq_getElem hk,m1,Mx];rw[d1,d2];cases ((uX w l[k].2.1).2==3)with
 | true=>rfl
 | false =>
  simp only[cF,tN];cases ((uX w l[k].2.1).2 != 0)with
  | true=>rfl
  | false =>
   simp only[cF,tN,Bool.false_or];cases ((uX w l[k].2.1).1.1==162)with
   | true=>rfl
   | false =>
    simp only[cF,tN];have hs:k<(l.set k (xG l[k].1 l[k].2.1 l[k].2.2.1 (uX w l[k].2.1).1 (jB l[k]) (xu l[k]) (uy l[k]))).length:=by rw[length_set];exact hk
    have e:=NQ hb (w:=w) (lo:=lo) (la:=la) hs;unfold vS at e;have e2:Ih b (l.set k (xG l[k].1 l[k].2.1 l[k].2.2.1 (uX w l[k].2.1).1 (jB l[k]) (xu l[k]) (uy l[k])))[k]=xG l[k].1 l[k].2.1 1 (uX w l[k].2.1).1 b 0 (uy l[k]):=by
     rw[getElem_set_self];rfl
    rw[e2,set_set]at e;refine (congrArg (λo=>Option.bind o λt=>some t) e).trans ?_;rfl
theorem Q4 {b:tO} (hw:zl b) (hb:yF M b) {w:List UInt8} {l:List ur} {lo la:Int} {k:Nat} (hk:k<l.length) (hl:l.length<=M) (h1:Km l[k]) (h2:Gg M l[k]) :
 dK (vS b w l lo la) (k:Int)=some (cond (l[k].2.2.2.1 != 163) (vS b w (l.eraseIdx k) lo la,[(l[k].1,(vI (jB l[k]) (jP l[k])).2.1)])
  (cond (b.2.2.2.2.2.2.2.2.2.2==(jB l[k]).2.2.2.2.2.2.2.2.2.2) (vS (vI b (jP l[k])).1 w (l.eraseIdx k) lo la,[(l[k].1,(vI b (jP l[k])).2.1)])
   (cond (decide (uy l[k]>=3)) (vS b w (l.eraseIdx k) lo la,[(l[k].1,z8 (jP l[k]))])
    (vS b w (l.set k (xG l[k].1 l[k].2.1 1 (jP l[k]) b 0 (tP (uy l[k]+1)))) lo la,[])))):=by
 have r1:=NP h1.b h2.2.2 h1.p;have r2:=NP hw hb h1.p
 have r3:=SA h1.p;have d1:=Ja (b:=b) (w:=w) (lo:=lo) (la:=la) hk hl
 have d2:=Ja (b:=(vI b (jP l[k])).1) (w:=w) (lo:=lo) (la:=la) hk hl;unfold dK;dsimp only[vS];simp only[wi hk,tN,List.getElem?_eq_getElem hk];unfold vS at d1;cases hkind:(l[k].2.2.2.1 != 163)with
 | true =>
  simp only[cT];rw[show bV (l[k].2.2.2.2.2.2.2.2.1,l[k].2.2.2.2.2.2.2.2.2.1,l[k].2.2.2.2.2.2.2.2.2.2.1,l[k].2.2.2.2.2.2.2.2.2.2.2.1,l[k].2.2.2.2.2.2.2.2.2.2.2.2.1,l[k].2.2.2.2.2.2.2.2.2.2.2.2.2.1,l[k].2.2.2.2.2.2.2.2.2.2.2.2.2.2.1,l[k].2.2.2.2.2.2.2.2.2.2.2.2.2.2.2.1,l[k].2.2.2.2.2.2.2.2.2.2.2.2.2.2.2.2.1,l[k].2.2.2.2.2.2.2.2.2.2.2.2.2.2.2.2.2.1,l[k].2.2.2.2.2.2.2.2.2.2.2.2.2.2.2.2.2.2.1) (l[k].2.2.2.1,l[k].2.2.2.2.1,l[k].2.2.2.2.2.1,l[k].2.2.2.2.2.2.1,l[k].2.2.2.2.2.2.2.1)=some (vI (jB l[k]) (jP l[k]))from r1,tN,d1,tN]
 | false =>
  simp only[cF];show cond (b.2.2.2.2.2.2.2.2.2.2==(jB l[k]).2.2.2.2.2.2.2.2.2.2) _ _=_
  cases hv:(b.2.2.2.2.2.2.2.2.2.2==(jB l[k]).2.2.2.2.2.2.2.2.2.2)with
  | true =>
   simp only[cT];rw[show bV (b.1,b.2.1,b.2.2.1,b.2.2.2.1,b.2.2.2.2.1,b.2.2.2.2.2.1,b.2.2.2.2.2.2.1,b.2.2.2.2.2.2.2.1,b.2.2.2.2.2.2.2.2.1,b.2.2.2.2.2.2.2.2.2.1,b.2.2.2.2.2.2.2.2.2.2) (l[k].2.2.2.1,l[k].2.2.2.2.1,l[k].2.2.2.2.2.1,l[k].2.2.2.2.2.2.1,l[k].2.2.2.2.2.2.2.1)=some (vI b (jP l[k]))from r2,tN];unfold vS at d2;rw[d2,tN]
  | false =>
   simp only[cF];show cond (decide (uy l[k]>=3)) _ _=_
   cases hq:decide (uy l[k]>=3)with
   | true =>
    simp only[cT];rw[show dJ (l[k].2.2.2.1,l[k].2.2.2.2.1,l[k].2.2.2.2.2.1,l[k].2.2.2.2.2.2.1,l[k].2.2.2.2.2.2.2.1)=some (z8 (jP l[k]))from r3,tN,d1,tN]
   | false =>
    simp only[cF];have hs:k<(l.set k (xG l[k].1 l[k].2.1 l[k].2.2.1 (jP l[k]) (jB l[k]) (xu l[k]) (tP (uy l[k]+1)))).length:=by rw[length_set];exact hk
    have e:=NQ hb (w:=w) (lo:=lo) (la:=la) hs;unfold vS at e;have e2:Ih b (l.set k (xG l[k].1 l[k].2.1 l[k].2.2.1 (jP l[k]) (jB l[k]) (xu l[k]) (tP (uy l[k]+1))))[k]=xG l[k].1 l[k].2.1 1 (jP l[k]) b 0 (tP (uy l[k]+1)):=by
     rw[getElem_set_self];rfl
    rw[e2,set_set]at e;refine (congrArg (λo=>Option.bind o λt=>some (t,([]:List vB))) e).trans ?_;rfl
theorem SC {a:ue} (hw:zl (aB a)) (hl:Bh M a) {k:Nat} (hk:k<(tS a).length) (h1:Km (tS a)[k]) (h2:xa (tS a)[k].2.1):dL a (k:Int)=some (yH a k (tS a)[k]):=by
 obtain⟨hb,_,hn,hj⟩:=hl;have hJ:=hj _ (getElem_mem hk)
 have hn:(tS a).length<=M:=hn;have e1:=SB hb (w:=aW a) (l:=tS a) (lo:=xW a) (la:=vr a) hk hn h2 hJ.1
 have e2:=Q4 hw hb (w:=aW a) (l:=tS a) (lo:=xW a) (la:=vr a) hk hn h1 hJ;have c0:ix a.2.2.2.2.2.2.2.2.2.2.2.2.1.length (k:Int)=some k:=wi hk
 have c1:a.2.2.2.2.2.2.2.2.2.2.2.2.1[k]?=some (tS a)[k]:=List.getElem?_eq_getElem hk;have e1:du a (k:Int)=_:=e1
 have e2:dK a (k:Int)=_:=e2;unfold dL yH xH;rw[c0,tN];simp only[c1,tN];cases hp0:((tS a)[k].2.2.1==0)with
 | true =>
  rw[cT,e1,tN];cases ((uX (aW a) (tS a)[k].2.1).2==3)with
  | true=>rfl
  | false =>
   cases ((uX (aW a) (tS a)[k].2.1).2 != 0||((uX (aW a) (tS a)[k].2.1).1.1==162))<;>rfl
 | false =>
  rw[cF];cases hp2:((tS a)[k].2.2.1==2)with
  | true =>
   rw[cT,e2,tN];cases ((tS a)[k].2.2.2.1 != 163)with
   | true=>rfl
   | false =>
    cases ((aB a).2.2.2.2.2.2.2.2.2.2==(jB (tS a)[k]).2.2.2.2.2.2.2.2.2.2)with
    | true=>rfl
    | false=>cases decide (uy (tS a)[k]>=3)<;>rfl
  | false =>
   simp only[cF];show cond (decide (xu (tS a)[k]<((jP (tS a)[k]).2.2.2.2.length:Int))) _ _=_
   cases decide (xu (tS a)[k]<((jP (tS a)[k]).2.2.2.2.length:Int))<;>rfl

theorem Lu {n:Int} (h:tV n 0 1000000=true):tV (HE n) 0 1000000=true:=by
 obtain⟨r,h1,_,h3⟩:=MR h;rw[Mx]at h1;cases h1;exact h3
theorem D1 {b:tO} (h:v8 b=true):wC b=true/\∀c,wC (b.1,b.2.1,b.2.2.1,b.2.2.2.1,b.2.2.2.2.1,b.2.2.2.2.2.1,c)=true->v8 (b.1,b.2.1,b.2.2.1,b.2.2.2.1,b.2.2.2.2.1,b.2.2.2.2.2.1,c)=true:=by
 unfold v8 at h ⊢;simp only[aT]at h ⊢;obtain⟨h1,h2,h3,h4,h5,h6,h7⟩:=h;exact⟨h7,λc hc=>⟨h1,h2,h3,h4,h5,h6,hc⟩⟩
theorem HF {b:tO} (h:vj b) {c:Int×Int×Int×Int×Int} (hc:wC (b.1,b.2.1,b.2.2.1,b.2.2.2.1,b.2.2.2.2.1,b.2.2.2.2.2.1,c)=true):vj (b.1,b.2.1,b.2.2.1,b.2.2.2.1,b.2.2.2.2.1,b.2.2.2.2.2.1,c) :=
 HO ⟨h.w.p,h.w.f,h.w.v,h.w.q,h.w.r⟩ ((D1 h.ok).2 c hc)
theorem Cn {b:tO} (h:wC b=true):tV b.2.2.2.2.2.2.1 0 1000000=true/\tV b.2.2.2.2.2.2.2.1 0 1000000=true/\tV b.2.2.2.2.2.2.2.2.1 0 1000000=true/\tV b.2.2.2.2.2.2.2.2.2.1 0 1000000=true/\tV b.2.2.2.2.2.2.2.2.2.2 0 1000000=true:=by
 unfold wC at h;simpa only[aT]using h
theorem OR {b:tO} (h:vj b):vj (CZ b):=by
 refine HF h ?_;obtain⟨h1,h2,h3,h4,h5⟩:=Cn (D1 h.ok).1;unfold wC;simp only[aT];exact⟨h1,h2,Lu h3,h4,h5⟩
theorem NR {b:tO} (h:vj b):vj (Bf b):=by
 refine HF h ?_;obtain⟨h1,h2,h3,h4,h5⟩:=Cn (D1 h.ok).1;unfold wC;simp only[aT];exact⟨h1,Lu h2,h3,h4,h5⟩
theorem Rq {b:tO} (h:yT b) (hl:yF M b):zl b:=by
 obtain⟨_,l2,l3,l4,l5⟩:=hl;have hM:M<9223372036854775807:=by decide
 exact⟨by omega,by omega,by omega,by omega,h.h⟩
theorem Tz {b:tO} (h:vj b) {l:List tQ} (hl:A9 M l):cI b l=some (Dh b l)/\vj (Dh b l).1:=by
 obtain⟨r,r1,_,r3,r4,_⟩:=Il h.w h.le hl;unfold Dh;rw[r1];obtain⟨k1,k2⟩:=r4 h.ok;exact⟨rfl,HO (Rq k1 r3) k2⟩
theorem OS {b:tO} (h:vj b) {p:um} (hp:vJ p=true):vj (zi b p).1:=by
 unfold zi;cases (p.1==160)<;>cases (p.1==161)<;>cases (p.1==165)<;>first|exact h|exact (Tz h (Fi hp)).2
theorem Q5 (b:tO) (p:um):(AK b p).1=b:=by
 unfold AK;split<;>rfl
theorem HG {b:tO} (h:vj b) (p:um):vj (vI b p).1:=by
 unfold vI;cases hq:Cm b p with
 | false=>exact h
 | true =>
  unfold Cm at hq;simp only[aT]at hq;rw[cT];unfold xR;cases vn (zi b p).2 with
  | true=>exact OS h hq.2.1
  | false=>rw[cF,Q5];exact h
theorem OT {p:um} (hp:vJ p=true):p.1=160\/p.1=161\/p.1=162\/p.1=163\/p.1=165:=by
 unfold vJ at hp;by_cases h0:p.1=160;· exact .inl h0
 by_cases h1:p.1=161;· exact .inr (.inl h1)
 by_cases h2:p.1=162;· exact .inr (.inr (.inl h2))
 by_cases h3:p.1=163;· exact .inr (.inr (.inr (.inl h3)))
 by_cases h5:p.1=165;· exact .inr (.inr (.inr (.inr h5)))
 simp[h0,h1,h2,h3,h5]at hp
structure Co (j:ur):Prop where
 byt:xa j.2.1
 len:j.2.1.length<=M
 ph:tV j.2.2.1 0 2=true
 at':tV (xu j) 0 ((jP j).2.2.2.2.length:Int)=true
 tr:tV (uy j) 0 3=true
 ok:(j.2.2.1==0)=true\/(vJ (jP j)=true/\((jP j).1 != 162)=true/\vj (jB j))
 pl:wu M (jP j)
 bw:zl (jB j)
 bl:yF M (jB j)
theorem Co.jwf {j:ur} (h:Co j):Km j:=⟨h.pl,h.bw⟩
theorem Co.jle {j:ur} (h:Co j):Gg M j:=⟨h.len,h.pl,h.bl⟩
structure xS (a:ue):Prop where
 b:vj (aB a)
 w:(aW a).length<=20
 n:(tS a).length<=6
 lo:tV (xW a) 0 1000000=true
 la:tV (vr a) 0 1000000=true
 ids:∀j∈tS a,tV j.1 1 (vr a)=true
 up:(tS a).Pairwise λi j=>i.1<j.1
 j:∀j∈tS a,Co j
theorem xS.ale {a:ue} (h:xS a):Bh M a:=⟨h.b.le,by have:=h.w;show (aW a).length<=1048576;omega,by have:=h.n;show (tS a).length<=1048576;omega,λx hx=>(h.j x hx).jle⟩
theorem xS.awf {a:ue} (h:xS a):HQ a:=⟨h.b.w,by have:=h.n;omega,λx hx=>(h.j x hx).jwf⟩
theorem xS.ok {a:ue} (h:xS a):zc a=true:=by
 have hn:=h.n;have hw:=h.w
 unfold zc;have h1:(List.range (tS a).length).any (Dj (tS a) (vr a))=false:=by
  rw[any_eq_false];intro k hk;have hk:=mem_range.1 hk
  unfold Dj;have hj:=h.j _ (getElem_mem hk)
  have hp:Ab (tS a)[k]=true:=by
   unfold Ab;simp only[aT,Bool.or_eq_true];refine⟨hj.ph,hj.at',hj.tr,hj.ok.imp (λe=>e) λ⟨k1,k2,k3⟩=>⟨k1,k2,k3.ok⟩⟩
  simp only[List.getElem?_eq_getElem hk,h.ids _ (getElem_mem hk),hp,Bool.and_self,Bool.not_true,Bool.false_or];by_cases h0:0<k
  · have:=List.pairwise_iff_getElem.1 h.up (k-1) k (by omega) hk (by omega);simp only[List.getElem?_eq_getElem (show k-1<(tS a).length by omega),aT,decide_eq_true_eq];omega
  · rw[dF h0];simp
 rw[h1];simp only[Bool.not_false,Bool.true_and,aT,decide_eq_true_eq];exact⟨h.b.ok,by show ((aW a).length:Int)<=20;omega,by omega,h.lo,h.la⟩
theorem Lv {a:ue} (h:HQ a) (hl:Bh M a) (hb:∀j∈tS a,xa j.2.1) (hp:zc a=true):xS a:=by
 unfold zc at hp;simp only[aT,Bool.not_eq_true',decide_eq_true_eq]at hp;obtain⟨h1,h2,h3,h4,h5,h6⟩:=hp;have key:∀k (hk:k<(tS a).length),tV (tS a)[k].1 1 (vr a)=true/\Ab (tS a)[k]=true/\(∀h0:0<k,(tS a)[k-1].1<(tS a)[k].1):=by
  intro k hk;have:=any_eq_false.1 h1 k (mem_range.2 hk)
  unfold Dj at this;simp only[List.getElem?_eq_getElem hk,Bool.or_eq_true,Bool.not_eq_true',Bool.and_eq_false_iff,not_or]at this;obtain⟨t1,t2⟩:=this;have e1:tV (tS a)[k].1 1 (vr a)=true:=by
   cases e:tV (tS a)[k].1 1 (vr a)with
   | true=>rfl
   | false=>exact absurd e t1.1
  have e2:Ab (tS a)[k]=true:=by
   cases e:Ab (tS a)[k]with
   | true=>rfl
   | false=>exact absurd e t1.2
  refine⟨e1,e2,λh0=>?_⟩;rw[dT h0]at t2;simp only[List.getElem?_eq_getElem (show k-1<(tS a).length by omega),Bool.true_and,decide_eq_true_eq]at t2;omega
 refine⟨HO h.b h2,by have:((aW a).length:Int)<=20:=h3;omega,by omega,h5,h6,λj hj=>?_,?_,λj hj=>?_⟩
 · obtain⟨k,hk,rfl⟩:=getElem_of_mem hj;exact (key k hk).1
 · exact Ek (λa b c h k=>by omega) λk hk=>by
    have:=(key (k+1) hk).2.2 (by omega);simpa using this
 · have hjw:=h.j j hj;have hjl:=hl.2.2.2 j hj
   have hjb:=hb j hj;obtain⟨k,hk,rfl⟩:=getElem_of_mem hj;have hp:=(key k hk).2.1
   unfold Ab at hp;simp only[aT,Bool.or_eq_true]at hp;obtain⟨p1,p2,p3,p4⟩:=hp;exact⟨hjb,hjl.1,p1,p2,p3,p4.imp (λe=>e) λ⟨q1,q2,q3⟩=>⟨q1,q2,HO hjw.b q3⟩,hjw.p,hjw.b,hjl.2.2⟩
noncomputable def xI (b:tO) (j:ur):Nat:=if (jP j).1=163/\b.2.2.2.2.2.2.2.2.2.2≠(jB j).2.2.2.2.2.2.2.2.2.2/\uy j<3 then (jP j).2.2.2.2.length+3 else 1
noncomputable def B6 (w:List UInt8) (m:List Int):Bool:=(uX w m).2==0&&((uX w m).1.1 != 162)
noncomputable def xT (w:List UInt8) (j:ur):Bool:=B6 w j.2.1||decide (j.2.2.1>0)
noncomputable def x7 (w:List UInt8) (b:tO) (j:ur):Nat :=
 if j.2.2.1=2 then xI b j else if j.2.2.1=1 then (jP j).2.2.2.2.length-(xu j).toNat+1+xI b j
 else if B6 w j.2.1=true then (uX w j.2.1).1.2.2.2.2.length+3 else 1
theorem Fj {b:tO} (h:vj b) {p:um} (hp:vJ p=true) (hk:(p.1 != 162)=true):Cm b p=true/\(vI b p).2.1=(xR b p).2/\(vI b p).1=(xR b p).1/\(xR b p).2.1=162/\(xR b p).2.2.1=p.2.1:=by
 have e:Cm b p=true:=by unfold Cm;rw[h.ok,hp,hk];rfl
 have e1:(zi b p).2.1=162/\(zi b p).2.2.1=p.2.1:=by
  unfold zi;cases (p.1==160)<;>cases (p.1==161)<;>cases (p.1==165)<;>exact⟨rfl,rfl⟩
 have e2:(AK b p).2.1=162/\(AK b p).2.2.1=p.2.1:=by
  unfold AK;split<;>exact⟨rfl,rfl⟩
 refine⟨e,?_,?_,?_⟩
 · unfold vI;rw[e,cT]
 · unfold vI;rw[e,cT]
 · unfold xR;cases vn (zi b p).2 with
   | true=>exact e1
   | false=>exact e2
theorem NS (p:um):(z8 p).1=162/\(z8 p).2.1=p.2.1:=by
 unfold z8;cases vn (162,p.2.1,6,1,p.2.2.2.2)<;>exact⟨rfl,rfl⟩
theorem K4 {j:ur} (h:Co j):j.2.2.1=0\/j.2.2.1=1\/j.2.2.1=2:=by
 obtain⟨h1,h2⟩:=we h.ph;omega
theorem Ps {w:List UInt8} {b:tO} {j:ur} (h:j.2.2.1=1):x7 w b j=(jP j).2.2.2.2.length-(xu j).toNat+1+xI b j:=by unfold x7;rw[if_neg (by omega),if_pos h]
theorem SD {w:List UInt8} {b:tO} {j:ur} (h:j.2.2.1=2):x7 w b j=xI b j:=by unfold x7;rw[if_pos h]
def Rr (w:List UInt8) (b b':tO) (j:ur):Rp->Prop
 | .stay j'=>b'=b/\Co j'/\j'.1=j.1/\x7 w b j'+1=x7 w b j/\xT w j'=xT w j
 | .gone d=>vj b'/\x7 w b j=1/\(xT w j=false->d=[])/\(xT w j=true->∃p,d=[(j.1,p)]/\p.1=162)
theorem Q6 (w:List UInt8) {b:tO} (hb:vj b) {j:ur} (h:Co j):Rr w b (xH w b j).1 j (xH w b j).2:=by
 obtain⟨m1,_,m3,m4⟩:=OQ w h.byt h.len;obtain⟨t1,t2⟩:=we h.tr;obtain⟨a1,a2⟩:=we h.at';rcases K4 h with hp|hp|hp
 ·
   have hne2:¬j.2.2.1=2:=by omega
   have hne1:¬j.2.2.1=1:=by omega
   unfold xH;rw[show (j.2.2.1==0)=true by rw[hp];rfl,cT];have hgood:∀q,B6 w j.2.1=q->xT w j=q:=by
    intro q hq;unfold xT;rw[hq,dF (by omega),Bool.or_false]
   have hneed:B6 w j.2.1=false->x7 w b j=1:=by
    intro hq;unfold x7;rw[if_neg hne2,if_neg hne1,if_neg (by rw[hq];simp)]
   cases h3:((uX w j.2.1).2==3)with
   | true =>
    have hg:B6 w j.2.1=false:=by
     unfold B6;simp only[beq_iff_eq]at h3;rw[h3];rfl
    exact⟨OR hb,hneed hg,λ_=>rfl,λha=>by rw[hgood _ hg]at ha;cases ha⟩
   | false =>
    cases h4:((uX w j.2.1).2 != 0||((uX w j.2.1).1.1==162))with
    | true =>
     have hg:B6 w j.2.1=false:=by
      unfold B6;rw[bne]at h4 ⊢;cases e1:((uX w j.2.1).2==0)<;>cases e2:((uX w j.2.1).1.1==162)<;>simp[e1,e2]at h4 ⊢
     exact⟨NR hb,hneed hg,λ_=>rfl,λha=>by rw[hgood _ hg]at ha;cases ha⟩
    | false =>
     simp only[Bool.or_eq_false_iff]at h4;have h0:(uX w j.2.1).2=0:=by simpa using h4.1
     have hk:((uX w j.2.1).1.1 != 162)=true:=by rw[bne,h4.2];rfl
     have hg:B6 w j.2.1=true:=by unfold B6;rw[h0,hk];rfl
     refine⟨rfl,⟨h.byt,h.len,rfl,?_,h.tr,.inr ⟨m4 h0,hk,hb⟩,m3,hb.w,hb.le⟩,rfl,?_,?_⟩
     · unfold tV;rw[dT (by show (0:Int)<=0;omega),dT (by show (0:Int)<=_;omega)];rfl
     · have e1:x7 w b j=(uX w j.2.1).1.2.2.2.2.length+3:=by unfold x7;rw[if_neg hne2,if_neg hne1,if_pos hg]
       rw[e1];show x7 w b (xG j.1 j.2.1 1 (uX w j.2.1).1 b 0 (uy j))+1=_
       rw[Ps rfl];have e2:xI b (xG j.1 j.2.1 1 (uX w j.2.1).1 b 0 (uy j))=1:=by
        unfold xI;rw[if_neg (λhh=>hh.2.1 rfl)]
       rw[e2];show (uX w j.2.1).1.2.2.2.2.length-(0:Int).toNat+1+1+1=_
       simp
     · rw[hgood _ hg];unfold xT;rw[show decide ((xG j.1 j.2.1 1 (uX w j.2.1).1 b 0 (uy j)).2.2.1>0)=true from rfl,Bool.or_true]
 ·
   have hok:=h.ok.resolve_left (by rw[hp];simp);unfold xH;rw[show (j.2.2.1==0)=false by rw[hp];rfl,show (j.2.2.1==2)=false by rw[hp];rfl,cF,cF];have hn:x7 w b j=(jP j).2.2.2.2.length-(xu j).toNat+1+xI b j:=by unfold x7;rw[if_neg (by omega),if_pos hp]
   have ha:xT w j=true:=by unfold xT;rw[dT (show j.2.2.1>0 by omega),Bool.or_true]
   by_cases hlt:xu j<((jP j).2.2.2.2.length:Int)
   · have hw1:tP (xu j+1)=xu j+1:=uE (by omega) (by
      have:=h.pl.1;have:(jP j).2.2.2.2.length<=1048576:=this
      omega)
     rw[dT hlt,cT,hw1];refine⟨rfl,⟨h.byt,h.len,h.ph,?_,h.tr,.inr hok,h.pl,h.bw,h.bl⟩,rfl,?_,?_⟩
     · show tV (xu j+1) 0 ((jP j).2.2.2.2.length:Int)=true;unfold tV;rw[dT (by omega),dT (by omega)];rfl
     · rw[hn];show x7 w b (xG j.1 j.2.1 j.2.2.1 (jP j) (jB j) (xu j+1) (uy j))+1=_
       unfold x7;rw[show (xG j.1 j.2.1 j.2.2.1 (jP j) (jB j) (xu j+1) (uy j)).2.2.1=1 from hp,if_neg (by omega),if_pos rfl];have e2:xI b (xG j.1 j.2.1 j.2.2.1 (jP j) (jB j) (xu j+1) (uy j))=xI b j:=rfl
       rw[e2];show (jP j).2.2.2.2.length-(xu j+1).toNat+1+xI b j+1=_
       omega
     · rw[ha];unfold xT;rw[show decide ((xG j.1 j.2.1 j.2.2.1 (jP j) (jB j) (xu j+1) (uy j)).2.2.1>0)=true from dT (by show j.2.2.1>0;omega),Bool.or_true]
   · rw[dF hlt,cF];refine⟨rfl,⟨h.byt,h.len,rfl,h.at',h.tr,.inr hok,h.pl,h.bw,h.bl⟩,rfl,?_,?_⟩
     · rw[hn];show x7 w b (xG j.1 j.2.1 2 (jP j) (jB j) (xu j) (uy j))+1=_
       rw[SD rfl];have e2:xI b (xG j.1 j.2.1 2 (jP j) (jB j) (xu j) (uy j))=xI b j:=rfl
       rw[e2];omega
     · rw[ha];unfold xT;rw[show decide ((xG j.1 j.2.1 2 (jP j) (jB j) (xu j) (uy j)).2.2.1>0)=true from rfl,Bool.or_true]
 ·
   obtain⟨hpp,hk,hB⟩:=h.ok.resolve_left (by rw[hp];simp);unfold xH;rw[show (j.2.2.1==0)=false by rw[hp];rfl,show (j.2.2.1==2)=true by rw[hp];rfl,cF,cT];have hn:x7 w b j=xI b j:=by unfold x7;rw[if_pos hp]
   have ha:xT w j=true:=by unfold xT;rw[dT (show j.2.2.1>0 by omega),Bool.or_true]
   cases h163:(j.2.2.2.1 != 163)with
   | true =>
    obtain⟨_,d2,_,d4,_⟩:=Fj hB hpp hk;refine⟨hb,?_,(λhf=>by rw[ha]at hf;cases hf),λ_=>⟨_,rfl,by rw[d2];exact d4⟩⟩;rw[hn];unfold xI;rw[if_neg (λhh=>by have e:j.2.2.2.1=163:=hh.1;rw[e]at h163;cases h163)]
   | false =>
    have e163:(jP j).1=163:=by
     have:¬j.2.2.2.1≠163:=by simpa using h163
     exact Classical.not_not.1 this
    cases hv:(b.2.2.2.2.2.2.2.2.2.2==(jB j).2.2.2.2.2.2.2.2.2.2)with
    | true =>
     obtain⟨_,d2,_,d4,_⟩:=Fj hb hpp hk;refine⟨HG hb _,?_,(λhf=>by rw[ha]at hf;cases hf),λ_=>⟨_,rfl,by rw[d2];exact d4⟩⟩;rw[hn];unfold xI;rw[if_neg (λhh=>hh.2.1 (by simpa using hv))]
    | false =>
     by_cases ht:uy j>=3
     · rw[dT ht];refine⟨hb,?_,(λhf=>by rw[ha]at hf;cases hf),λ_=>⟨_,rfl,(NS _).1⟩⟩;rw[hn];unfold xI;rw[if_neg (λhh=>by have:=hh.2.2;omega)]
     · rw[dF ht,uE (by omega) (by omega)];refine⟨rfl,⟨h.byt,h.len,rfl,?_,?_,.inr ⟨hpp,hk,hb⟩,h.pl,hb.w,hb.le⟩,rfl,?_,?_⟩
       · show tV 0 0 ((jP j).2.2.2.2.length:Int)=true;unfold tV;rw[dT (by omega),dT (by omega)];rfl
       · show tV (uy j+1) 0 3=true;unfold tV;rw[dT (by omega),dT (by omega)];rfl
       · rw[hn];have e1:xI b j=(jP j).2.2.2.2.length+3:=by
          unfold xI;rw[if_pos ⟨e163,by simpa using hv,by omega⟩]
         rw[e1];show x7 w b (xG j.1 j.2.1 1 (jP j) b 0 (uy j+1))+1=_
         rw[Ps rfl];have e2:xI b (xG j.1 j.2.1 1 (jP j) b 0 (uy j+1))=1:=by
          unfold xI;rw[if_neg (λhh=>hh.2.1 rfl)]
         rw[e2];show (jP j).2.2.2.2.length-(0:Int).toNat+1+1+1=_
         simp
       · rw[ha];unfold xT;rw[show decide ((xG j.1 j.2.1 1 (jP j) b 0 (uy j+1)).2.2.1>0)=true from rfl,Bool.or_true]

theorem HH {a:ue} (h:xS a) {k:Nat} (hk:k<(tS a).length) :
 (∃j',yH a k (tS a)[k]=(vS (aB a) (aW a) ((tS a).set k j') (xW a) (vr a),[])/\Co j'/\j'.1=(tS a)[k].1/\x7 (aW a) (aB a) j'+1=x7 (aW a) (aB a) (tS a)[k]/\xT (aW a) j'=xT (aW a) (tS a)[k]) \/
 (∃b' d,yH a k (tS a)[k]=(vS b' (aW a) ((tS a).eraseIdx k) (xW a) (vr a),d)/\vj b'/\x7 (aW a) (aB a) (tS a)[k]=1/\(xT (aW a) (tS a)[k]=false->d=[])/\(xT (aW a) (tS a)[k]=true->∃p,d=[((tS a)[k].1,p)]/\p.1=162)):=by
 have hs:=Q6 (aW a) h.b (h.j _ (getElem_mem hk));unfold yH;cases hf:(xH (aW a) (aB a) (tS a)[k]).2 with
 | stay j' =>
  rw[hf]at hs;obtain⟨k1,k2,k3,k4,k5⟩:=hs;exact .inl ⟨j',by simp only[k1],k2,k3,k4,k5⟩
 | gone d =>
  rw[hf]at hs;obtain⟨k1,k2,k3,k4⟩:=hs;exact .inr ⟨_,d,rfl,k1,k2,k3,k4⟩
theorem Q7 {a:ue} (h:xS a) {k:Nat} (hk:k<(tS a).length) {j':ur} (hj:Co j') (hi:j'.1=(tS a)[k].1):xS (vS (aB a) (aW a) ((tS a).set k j') (xW a) (vr a)):=by
 have hm:∀x∈(tS a).set k j',x∈tS a\/x=j':=λx hx=>List.mem_or_eq_of_mem_set hx;have hmap:((tS a).set k j').map (λj=>j.1)=(tS a).map (λj=>j.1):=by
  rw[List.map_set,hi];apply List.ext_getElem
  · simp
  · intro i h1 h2;rw[List.getElem_set];split
    · rename_i e;subst e;simp
    · rfl
 refine⟨h.b,h.w,?_,h.lo,h.la,λj hj'=>?_,?_,λj hj'=>?_⟩
 · show ((tS a).set k j').length<=6;rw[length_set];exact h.n
 · rcases hm j hj' with hj'|rfl
   · exact h.ids j hj'
   · show tV j.1 1 (vr a)=true;rw[hi];exact h.ids _ (getElem_mem hk)
 · have:=h.up;show ((tS a).set k j').Pairwise λi j=>i.1<j.1
   rw[←List.pairwise_map (f:=λj:ur=>j.1) (R:=λx y=>x<y)]at this ⊢;rw[hmap];exact this
 · rcases hm j hj' with hj'|rfl
   · exact h.j j hj'
   · exact hj
theorem OU {a:ue} (h:xS a) (k:Nat) {b':tO} (hb:vj b'):xS (vS b' (aW a) ((tS a).eraseIdx k) (xW a) (vr a)):=by
 have hs:((tS a).eraseIdx k).Sublist (tS a):=List.eraseIdx_sublist _ _;refine⟨hb,h.w,Nat.le_trans hs.length_le h.n,h.lo,h.la,λj hj=>h.ids j (hs.subset hj),h.up.sublist hs,λj hj=>h.j j (hs.subset hj)⟩
theorem K5 {a:ue} (h:xS a) {k:Nat} (hk:k<(tS a).length):xS (yH a k (tS a)[k]).1/\(yH a k (tS a)[k]).2.length<=1:=by
 rcases HH h hk with ⟨j',e,k1,k2,_⟩|⟨b',d,e,k1,_,k3,k4⟩
 · rw[e];exact⟨Q7 h hk k1 k2,by simp⟩
 · rw[e];refine⟨OU h k k1,?_⟩;cases ha:xT (aW a) (tS a)[k]with
   | false=>rw[k3 ha];simp
   | true=>obtain⟨p,rfl,_⟩:=k4 ha;simp
theorem SE {a:ue} (h:xS a) {k:Nat} (hk:k<(tS a).length):dL a (k:Int)=some (yH a k (tS a)[k]) :=
 SC h.b.w h.ale hk (h.j _ (getElem_mem hk)).jwf (h.j _ (getElem_mem hk)).byt
theorem Pu {a:ue} (h:xS a) {k:Nat} (hk:k<(tS a).length):aR a (k:Int)=some (yH a k (tS a)[k]):=by
 have hn:=h.n;unfold aR;rw[Fr h.ale,tN,Kn h.awf,tN,h.ok,Bool.not_true,cF];have hw:tP ((a.2.2.2.2.2.2.2.2.2.2.2.2.1.length:Int)-1)=((tS a).length:Int)-1:=uE (by show -9223372036854775808<=((tS a).length:Int)-1;omega) (by show ((tS a).length:Int)-1<=_;omega)
 rw[hw,xt,tN,Bp (by omega) (by omega),tN,Bool.not_true,cF,SE h hk,tN]
theorem NT {a:ue} (h:xS a) {k:Int} (hk:k<0\/((tS a).length:Int)<=k):aR a k=some (a,[]):=by
 have hn:=h.n;unfold aR;rw[Fr h.ale,tN,Kn h.awf,tN,h.ok,Bool.not_true,cF];have hw:tP ((a.2.2.2.2.2.2.2.2.2.2.2.2.1.length:Int)-1)=((tS a).length:Int)-1:=uE (by show -9223372036854775808<=((tS a).length:Int)-1;omega) (by show ((tS a).length:Int)-1<=_;omega)
 have hp:tV k 0 (((tS a).length:Int)-1)=false:=by
  unfold tV;rcases hk with hk|hk
  · rw[dF (by omega)];rfl
  · rw[dF (show ¬k<=((tS a).length:Int)-1 by omega),Bool.and_false]
 rw[hw,xt,tN,hp,tN,Bool.not_false,cT]
def K6 (w:List UInt8):List Int:=uR 2 (vv 1)++uR 4 (yo w)
theorem Lw {p:um} (hx:∀x∈p.2.2.2.2,yS x=true) (hn:p.2.2.2.2.length<=10) (hi:tV p.2.1 (-2147483648) 2147483647=true)
 (hk:(cond (p.1==162||p.1==165) (tV p.2.2.1 0 1000&&tV p.2.2.2.1 0 1000) (cond (p.1==160||(p.1==161||p.1==163)) (p.2.2.1==0&&p.2.2.2.1==0) false))=true):vJ p=true:=by
 unfold vJ;have h1:(List.range p.2.2.2.2.length).any (bX p.2.2.2.2)=false:=by
  rw[any_eq_false];intro k hk';have hk':=mem_range.1 hk'
  unfold bX;simp only[List.getElem?_eq_getElem hk',hx _ (getElem_mem hk')];simp
 rw[h1,dT (by omega),hk,hi];rfl

theorem Q8 {i:Int} (hi:-2147483648<=i/\i<=2147483647):vn (162,i,7,0,[])=true:=by
 have hp:vJ (162,i,7,0,[])=true:=Lw (by intro x hx;cases hx) (Nat.zero_le _) (Bp hi.1 hi.2) rfl;have t1:=wb 2 (body:=vv i)
 have t2:=wb 2 (body:=vv 7);have t3:=wb 2 (body:=vv 0)
 have t4:=wb 48 (body:=[]);have i1:=ye i
 have i2:=ye 7;have i3:=ye 0
 have hb:(xl (162,i,7,0,[])).length<=30:=by
  unfold xl;show (uR 2 (vv i)++uR 2 (vv 7)++uR 2 (vv 0)++uR 48 []).length<=30
  simp only[length_append];simp only[List.length_nil]at t4;omega
 have ht:=wb 162 (body:=xl (162,i,7,0,[]));have hpos:=GJ 162 (xl (162,i,7,0,[]))
 unfold vn GK;rw[if_pos ⟨hp,by show (0:Nat)<=250;omega,by omega⟩];exact Bp (by show (1:Int)<=((uR 162 (xl (162,i,7,0,[]))).length:Int);omega) (by show ((uR 162 (xl (162,i,7,0,[]))).length:Int)<=120;omega)
theorem NU {b:tO} {p:um} (hp:vJ p=true):vn (xR b p).2=true:=by
 have hi:=(wZ hp).2.2.2.1;unfold xR;cases hf:vn (zi b p).2 with
 | true=>exact hf
 | false =>
  rw[cF];unfold AK;split
  · rename_i t ht;cases h5:(p.1==165)with
    | false=>rw[h5]at ht;cases ht
    | true =>
     rw[h5]at ht;exact (K3 ht).1
  · exact Q8 hi
structure My (p:um):Prop where
 k:p.1=160\/p.1=161\/p.1=163\/p.1=165
 i:0<=p.2.1/\p.2.1<100
 ab:(p.1=165/\(0<=p.2.2.1/\p.2.2.1<=1000)/\(0<=p.2.2.2.1/\p.2.2.2.1<=1000))\/(p.1≠165/\p.2.2.1=0/\p.2.2.2.1=0)
 n:p.2.2.2.2.length<=3
 s:∀x∈p.2.2.2.2,Sj x
 o:p.1≠163->∀x∈p.2.2.2.2,yS x=true
theorem My.le {p:um} (h:My p):wu M p:=⟨by have:=h.n;show _<=1048576;omega,λx hx=>(h.s x hx).le⟩
theorem My.ok {p:um} (h:My p) (hk:p.1≠163):vJ p=true:=by
 have hi:=h.i;refine Lw (h.o hk) (by have:=h.n;omega) (Bp (by omega) (by omega)) ?_;rcases h.ab with ⟨e,⟨a1,a2⟩,b1,b2⟩|⟨e,a1,b1⟩
 · rw[e,Bp a1 a2,Bp b1 b2];rfl
 · rw[a1,b1];rcases h.k with k|k|k|k
   · rw[k];rfl
   · rw[k];rfl
   · exact absurd k hk
   · exact absurd k e
theorem zb {α β:Type} {o:Option α} {a:α} {k:α->Option β} {r:Option β} (h:o=some a) (hk:k a=r):o.bind k=r:=by rw[h];exact hk
theorem Al {b:List Int} (t:Int) {body:List Int} (hb:b.length<=1200) (hn:body.length<=M):au b t body=some (b++if tV t 0 255=true/\body.length<=250 then uR t body else []):=by
 have hM:M=1048576:=rfl;unfold au;rw[xk (by omega),tN,AL,tN];cases hp:tV t 0 255 with
 | false=>rw[Bool.not_false,cT,tN,cT,if_neg (λh=>by cases h.1),append_nil]
 | true =>
  rw[Bool.not_true,cF,tN];by_cases h250:body.length<=250
  · have hw:IntKind.u8.wrap t=t:=by obtain⟨a,c⟩:=we hp;rw[w8];omega
    have hl:IntKind.u8.wrap ((body.length:Int))=(body.length:Int):=by rw[w8];omega
    rw[dF (by omega),cF,hw,hl,if_pos ⟨rfl,h250⟩,u6 (by show b.length+1<=_;omega),tN];by_cases h127:(body.length:Int)>127
    · rw[dT h127,cT,u6 (by rw[length_append];show b.length+1+1<=_;omega),tN,u6 (by simp only[length_append,length_singleton];omega),tN,u6 (by simp only[length_append,length_singleton];omega),tN];unfold uR;rw[if_pos (by omega)];simp
    · rw[dF h127,cF,u6 (by simp only[length_append,length_singleton];omega),tN,u6 (by simp only[length_append,length_singleton];omega),tN];unfold uR;rw[if_neg (by omega)];simp
  · rw[dT (by omega),cT,if_neg (λh=>h250 h.2),append_nil]
theorem Lx {o:List Int} (h:x8 o=true):eA o=some (uz o):=by
 obtain⟨o1,o2,o3⟩:=zO h;have hM:M=1048576:=rfl
 unfold eA;rw[Kl,Em (by omega),tN,h,Bool.not_true,cF];obtain⟨v,e1,rfl⟩:=uw (step:=λz:Int×List Int=>ci o z.1 z.2) (λk z=>z=((k:Int),uz (o.take k))) o.length (λv=>v=uz o)
  (λk z hk e=>by
   subst e;have hx:=o3 _ (getElem_mem hk)
   have hl:(uz (o.take k)).length<=3*(o.take k).length:=A8 λx hx=>(o3 x (mem_of_mem_take hx)).2;rw[length_take]at hl;have hg:=Id o[k]
   refine .inl ⟨_,?_,rfl⟩;show ci o (k:Int) _=_
   unfold ci;rw[ux (by omega),cT,ud hk,tN,OL ⟨hx.1,by omega⟩,tN,u6 (by show (uz (o.take k)).length+(grp o[k]).length<=_;omega),tN,u7 (by omega),take_add_one,List.getElem?_eq_getElem hk];unfold uz;rw[flatMap_append];simp)
  (λz e=>by
   subst e;refine⟨_,?_,rfl⟩;show ci o (o.length:Int) _=_
   unfold ci;rw[ui (by omega),cF,take_length]) (x:=(0,[])) rfl
 have e1:loop (λz=>ci o z.1 z.2) (0,([]:List Int))=some (uz o):=e1;rw[e1];rfl
theorem Q9 {b:List Int} (hb:b.length<=1000) {v:wJ} (h:xV v=true):gb b v=some (b++uR v.1 (wq v)):=by
 have hM:M=1048576:=rfl;obtain⟨l1,l2⟩:=Ee h;have hk:tV v.1 0 255=true:=by
  unfold xV at h;by_cases c1:(v.1==5||(v.1==128||v.1==130))=true
  · simp only[Bool.or_eq_true,beq_iff_eq]at c1;rcases c1 with c|c|c<;>rw[c]<;>rfl
  · rw[show (v.1==5||(v.1==128||v.1==130))=false by simpa using c1,cF]at h;by_cases c2:v.1=2
    · rw[c2];rfl
    · rw[beq_eq_false_iff_ne.2 c2,cF]at h;by_cases c4:v.1=4
      · rw[c4];rfl
      · rw[beq_eq_false_iff_ne.2 c4,cF]at h;by_cases c6:v.1=6
        · rw[c6];rfl
        · rw[beq_eq_false_iff_ne.2 c6,cF]at h;cases h
 have fin:∀body,wq v=body->au b v.1 body=some (b++uR v.1 (wq v)):=λbody e=>by
  subst e;rw[Al _ (by omega) (by omega),if_pos ⟨hk,by omega⟩]
 have ho6:v.2.2.2.length<=M:=by
  unfold xV at h;by_cases c6:v.1=6
  · rw[c6]at h;simp only[show ((6:Int)==5)=false from rfl,show ((6:Int)==128)=false from rfl,show ((6:Int)==130)=false from rfl,Bool.or_self,cF,show ((6:Int)==2)=false from rfl,show ((6:Int)==4)=false from rfl,show ((6:Int)==6)=true from rfl,cT,aT]at h;have:=If h.1
    omega
  · have:v.2.2.2.length=0:=by
     revert h
     cases (v.1==5||(v.1==128||v.1==130))with
     | true=>intro h;simp only[cT,aT,beq_iff_eq]at h;omega
     | false =>
      rw[cF];cases (v.1==2)with
      | true=>intro h;simp only[cT,aT,beq_iff_eq]at h;omega
      | false =>
       rw[cF];cases (v.1==4)with
       | true=>intro h;simp only[cT,aT,beq_iff_eq]at h;omega
       | false=>intro h;rw[cF,beq_eq_false_iff_ne.2 c6]at h;cases h
    omega
 unfold gb;rw[Ij ho6,tN,h,Bool.not_true,cF];by_cases h2:v.1=2
 · have e:wq v=vv v.2.1:=by unfold wq;rw[beq_iff_eq.2 h2];rfl
   have hr:-2147483648<=v.2.1/\v.2.1<=2147483647:=by
    unfold xV at h;rw[h2]at h;simp only[show ((2:Int)==5)=false from rfl,show ((2:Int)==128)=false from rfl,show ((2:Int)==130)=false from rfl,Bool.or_self,cF,show ((2:Int)==2)=true from rfl,cT,aT]at h;exact we h.1
   rw[beq_iff_eq.2 h2,cT,DO,tN,AW hr,fin _ e];rfl
 rw[beq_eq_false_iff_ne.2 h2,cF];by_cases h4:v.1=4
 · have e:wq v=yo v.2.2.1:=by unfold wq;rw[beq_eq_false_iff_ne.2 h2,beq_iff_eq.2 h4];rfl
   rw[beq_iff_eq.2 h4,cT,fin _ e];rfl
 rw[beq_eq_false_iff_ne.2 h4,cF];by_cases h6:v.1=6
 · have e:wq v=uz v.2.2.2:=by unfold wq;rw[beq_eq_false_iff_ne.2 h2,beq_eq_false_iff_ne.2 h4,beq_iff_eq.2 h6];rfl
   have ho:x8 v.2.2.2=true:=by
    unfold xV at h;rw[h6]at h;simp only[show ((6:Int)==5)=false from rfl,show ((6:Int)==128)=false from rfl,show ((6:Int)==130)=false from rfl,Bool.or_self,cF,show ((6:Int)==2)=false from rfl,show ((6:Int)==4)=false from rfl,show ((6:Int)==6)=true from rfl,cT,aT]at h;exact h.1
   rw[beq_iff_eq.2 h6,cT,Lx ho,tN,fin _ e];rfl
 · have e:wq v=[]:=by unfold wq;rw[beq_eq_false_iff_ne.2 h2,beq_eq_false_iff_ne.2 h4,beq_eq_false_iff_ne.2 h6];rfl
   rw[beq_eq_false_iff_ne.2 h6,cF,fin _ e];rfl
theorem Rs {l:List tQ} (hx:∀x∈l,yS x=true) (hn:l.length<=10):gd l=some (uQ l):=by
 have hM:M=1048576:=rfl;have hlen:∀k,(uQ (l.take k)).length<=110*k:=λk=>by
  induction k with
  | zero=>simp[uQ]
  | succ k ih =>
   rw[take_add_one];unfold uQ at ih ⊢;rw[flatMap_append,length_append];cases hk:l[k]? with
   | none=>show (List.flatMap zP (l.take k)).length+0<=_;omega
   | some x =>
    have:=(CY (hx x (List.mem_of_getElem? hk))).2;show (List.flatMap zP (l.take k)).length+(zP x++[]).length<=_
    rw[append_nil];omega
 unfold gd;obtain⟨v,e1,rfl⟩:=uw (step:=λz:Int×List Int=>cj l z.1 z.2) (λk z=>z=((k:Int),uQ (l.take k))) l.length (λv=>v=uQ l)
  (λk z hk e=>by
   subst e;have hxk:=hx _ (getElem_mem hk)
   have hl:=hlen k;obtain⟨b1,b2⟩:=CY hxk;have hxk':=hxk
   unfold yS at hxk';rw[aT]at hxk';obtain⟨o1,o2,o3⟩:=zO hxk'.1;have ho:=A8 (o:=l[k].1) λy hy=>(o3 y hy).2
   have ht:=wb 6 (body:=uz l[k].1);refine .inl ⟨_,?_,rfl⟩;show cj l (k:Int) _=_
   unfold cj;rw[ux (by omega),cT,ud hk,tN,Lx hxk'.1,tN,Al _ (by simp) (by omega),if_pos ⟨by decide,by omega⟩,tN,tN,nil_append,Q9 (by omega) hxk'.2,tN,Al _ (by show (uQ (l.take k)).length<=1200;omega) (by show (Cj l[k]).length<=_;omega),if_pos ⟨by decide,by show (Cj l[k]).length<=250;omega⟩,tN,u7 (by omega),take_add_one,List.getElem?_eq_getElem hk];unfold uQ;rw[flatMap_append];simp[zP,Cj])
  (λz e=>by
   subst e;refine⟨_,?_,rfl⟩;show cj l (l.length:Int) _=_
   unfold cj;rw[ui (by omega),cF,take_length]) (x:=(0,[])) rfl
 have e1:loop (λz=>cj l z.1 z.2) (0,([]:List Int))=some (uQ l):=e1;rw[e1];rfl
theorem Qa {p:um} (hp:wu M p):ge p=some (GK p):=by
 have hM:M=1048576:=rfl;unfold ge GK;rw[MM hp,tN];cases hk:vJ p with
 | false=>rw[Bool.not_false,cT,if_neg (λh=>by cases h.1)]
 | true =>
  obtain⟨k1,k2,k3,k4,k5,k6⟩:=wZ hk;have i1:=ye p.2.1
  have i2:=ye p.2.2.1;have i3:=ye p.2.2.2.1
  have t1:=wb 2 (body:=vv p.2.1);have t2:=wb 2 (body:=vv p.2.2.1)
  have t3:=wb 2 (body:=vv p.2.2.2.1);rw[Bool.not_true,cF];unfold ii;rw[Rs k1 k2,tN];by_cases ha:(uQ p.2.2.2.2).length<=250
  · rw[dF (by omega),cF,DO,tN,AW k4,Al _ (by simp) (by omega),if_pos ⟨by decide,by omega⟩,tN,DO,tN,AW (by omega),Al _ (by simp only[nil_append];omega) (by omega),if_pos ⟨by decide,by omega⟩,tN,DO,tN,AW (by omega),Al _ (by simp only[nil_append,length_append];omega) (by omega),if_pos ⟨by decide,by omega⟩,tN,Al _ (by simp only[nil_append,length_append];omega) (by omega),if_pos ⟨by decide,ha⟩,tN];have eb:([]++uR 2 (vv p.2.1)++uR 2 (vv p.2.2.1)++uR 2 (vv p.2.2.2.1)++uR 48 (uQ p.2.2.2.2))=xl p:=by unfold xl;simp
    rw[eb];have t4:=wb 48 (body:=uQ p.2.2.2.2)
    have hbl:(xl p).length<=400:=by unfold xl;simp only[length_append];omega
    by_cases hb:(xl p).length<=250
    · simp only[tN,dT (show ((xl p).length:Int)<=250 by omega),Bool.not_true,cF];rw[Al _ (by simp) (by omega),if_pos ⟨k3,hb⟩,if_pos ⟨trivial,ha,hb⟩,tN,nil_append]
    · simp only[tN,dF (show ¬((xl p).length:Int)<=250 by omega),Bool.not_false,cT];rw[if_neg (λh=>hb h.2.2)]
  · rw[dT (by omega),cT,tN,Bool.not_false,cT,if_neg (λh=>ha h.2.1)]
theorem Pv {α β:Type} (l:List α) (i:Int) (f:α->Option β):((ix l.length i).bind λj=>(l[j]?).bind f)=(at? l i).bind f:=by
 unfold ix at?;by_cases h0:0<=i
 · rw[if_pos h0,if_pos h0];by_cases h1:i<(l.length:Int)
   · rw[if_pos h1,tN]
   · rw[if_neg h1,List.getElem?_eq_none (by omega)];rfl
 · rw[if_neg h0,if_neg h0];rfl
theorem Rt:iC=dy:=rfl
theorem OV:cl=az:=rfl
theorem SF {b:tO} (h:zl b) (o:List Int):gy b o=aJ b o:=by
 unfold gy aJ;rw[Ki h];cases bh b with
 | none=>rfl
 | some l =>
  have hs:(λz:Int×Int×Int×List UInt8×List Int×List Int=>iD o l z.1 z.2.1 z.2.2.1 z.2.2.2.1 z.2.2.2.2.1 z.2.2.2.2.2)=λz=>bD o l z.1 z.2.1 z.2.2.1 z.2.2.2.1 z.2.2.2.2.1 z.2.2.2.2.2:=by
   funext z
   unfold iD bD;simp only[Pv,Rt];cases at? l z.1<;>rfl
  rw[tN,tN,hs];unfold aK;simp only[Option.bind_assoc,tN]
theorem TA {b:tO} (h:zl b) (o:List Int):gA b o=bC b o:=by
 unfold gA bC;rw[Ki h];cases bh b with
 | none=>rfl
 | some l =>
  have hs:(λz:Int×Int×Int×List UInt8×List Int=>iE o l z.1 z.2.1 z.2.2.1 z.2.2.2.1 z.2.2.2.2)=λz=>aQ o l z.1 z.2.1 z.2.2.1 z.2.2.2.1 z.2.2.2.2:=by
   funext z
   unfold iE aQ;simp only[Pv,OV];cases at? l z.1<;>rfl
  rw[tN,tN,hs]
def Ef (b:tO) (x:tQ):Prop:=x8 x.1=true/\(x.2.1=130->vw b x.1=x)
theorem NV {b:tO} (h:vj b) {o:List Int} (ho:x8 o=true):Ef b (vw b o):=by
 refine⟨xc (DL h ho),λhk=>?_⟩;obtain⟨_,h1⟩:=FK h (o:=o) (by have:=yE ho;omega);rcases h1 with ⟨h1,_⟩|⟨h1,h2⟩
 · exfalso;have hv:∀v:wJ,Vl v->v.1≠130:=λv hv=>by cases hv<;>simp
   exact hv _ (Cq h _ h1).2 hk
 · rw[h1];exact h1
theorem HI {b:tO} {o:List Int} (ho:x8 o=true):Ef b (o,5,0,[],[]):=⟨ho,λhk=>by have hk:(5:Int)=130:=hk;omega⟩
noncomputable def vg (b:tO) (l:List tQ):List tQ:=l.map λx=>vw b x.1
theorem NW {b:tO} {x:tQ} (h:Ef b x):(cond (x.2.1==130) x (vw b x.1))=vw b x.1:=by
 cases hk:x.2.1==130 with
 | true=>rw[cT];exact (h.2 (by simpa using hk)).symm
 | false=>rfl
noncomputable def yI (b:tO):Nat->List tQ×List tQ->List tQ×List tQ
 | 0,s=>s
 | n+1,s=>if 0<s.2.length/\s.1.length<10 then yI b n (s.1++vg b s.2,vg b s.2)else s
theorem Mz {b:tO}:∀(n:Nat) {s:List tQ×List tQ},10<=s.1.length->yI b n s=s
 | 0,s,_=>rfl
 | n+1,s,h=>if_neg (by omega)
theorem NX {b:tO}:∀(n:Nat) {s:List tQ×List (List Int)},10<=s.1.length->AX b n s=s
 | 0,s,_=>rfl
 | n+1,s,h=>if_neg (by omega)
theorem HJ {b:tO}:∀(n:Nat) (out T:List tQ),out.length<=10->(AX b n (out,T.map λx=>x.1)).1=(yI b n (out,T)).1.take 10
 | 0,out,T,h=>(take_of_length_le h).symm
 | n+1,out,T,h=>by
  by_cases hc:0<T.length/\out.length<10
  · have e1:AX b (n+1) (out,T.map λx=>x.1)=AX b n (Bo b (out,T.map λx=>x.1)):=if_pos (by simpa using hc);have e2:yI b (n+1) (out,T)=yI b n (out++vg b T,vg b T):=if_pos hc
    rw[e1,e2];by_cases hle:out.length+T.length<=10
    · have hm:zh (out,T.map λx=>x.1)=T.length:=by unfold zh;simp only[length_map];omega
      have e3:Bo b (out,T.map λx=>x.1)=(out++vg b T,(vg b T).map λx=>x.1):=by
       unfold Bo vg;simp only[hm];rw[take_of_length_le (by simp),List.drop_of_length_le (by simp),append_nil,map_map,map_map,map_map];rfl
      rw[e3];exact HJ n _ _ (by rw[length_append];unfold vg;rw[length_map];omega)
    · have hm:zh (out,T.map λx=>x.1)=10-out.length:=by unfold zh;simp only[length_map];omega
      have hl1:(Bo b (out,T.map λx=>x.1)).1.length=10:=by
       show (out++((T.map λx=>x.1).take (zh (out,T.map λx=>x.1))).map (vw b)).length=10;rw[hm,length_append,length_map,length_take,length_map];omega
      rw[NX n (by omega),Mz n (by show 10<=(out++vg b T).length;rw[length_append];unfold vg;rw[length_map];omega)];show out++((T.map λx=>x.1).take (zh (out,T.map λx=>x.1))).map (vw b)=(out++vg b T).take 10
      rw[hm,List.take_append,take_of_length_le h];unfold vg;rw[←List.map_take,←List.map_take,map_map];rfl
  · have e1:AX b (n+1) (out,T.map λx=>x.1)=(out,T.map λx=>x.1):=if_neg (by simpa using hc);have e2:yI b (n+1) (out,T)=(out,T):=if_neg hc
    rw[e1,e2];exact (take_of_length_le h).symm

theorem MA {p:um} (hp:wu M p):cZ p=some (vn p):=by
 unfold cZ;rw[Qa hp,tN];show (ac ((GK p).length:Int) 1 120).bind _=_
 rw[AL,tN];rfl
def named (l:List tQ):List tQ:=l.map λx=>(x.1,5,0,[],[])
theorem NY {l:List tQ} (hn:l.length<=M):cp l=some (named l):=by
 have hM:M=1048576:=rfl;unfold cp named;refine zb (Ck (g:=λx:tQ=>((x.1,5,0,[],[]):tQ)) hn (λk hk out ho=>?_) (λout=>?_)) rfl
 · show eK l (k:Int) out=_;unfold eK;rw[ux (by omega),cT,ud hk,tN,u6 (by rw[ho];show k+1<=_;omega),tN,u7 (by omega)]
 · show eK l (l.length:Int) out=_;unfold eK;rw[ui (by omega),cF]
theorem K7 {b:tO} (h:vj b) {l:List tQ} (hn:l.length<=1000) (hT:∀x∈l,Ef b x):aX b l=some (vg b l):=by
 unfold aX vg;refine zb (Ck (g:=λx:tQ=>vw b x.1) (by show _<=1048576;omega) (λk hk out ho=>?_) (λout=>?_)) rfl
 · have hx:=hT _ (getElem_mem hk);have e:=NW hx
   show eJ b l (k:Int) out=_;unfold eJ;rw[ux (by omega),cT,ud hk,tN,tN,tN,SF h.w,(FK h (by have:=yE hx.1;omega)).1,tN,u7 (by omega)];cases hk':l[k].2.1==130 with
   | true =>
    rw[hk',cT]at e;rw[cT,u6 (by rw[ho];show k+1<=_;omega),tN,←e]
   | false=>rw[cF,u6 (by rw[ho];show k+1<=_;omega),tN]
 · show eJ b l (l.length:Int) out=_;unfold eJ;rw[ui (by omega),cF]
theorem MB {b:tO} (h:vj b) {l:List tQ} (hT:∀x∈l,Ef b x):∀x∈vg b l,Ef b x:=by
 intro x hx;obtain⟨y,hy,rfl⟩:=mem_map.1 hx;exact NV h (hT y hy).1
theorem Pw {b:tO} (h:vj b) {p:um} (hB:p.2.2.2.1<=1000):∀(n i:Nat) (out T:List tQ),T.length<=10->out.length<=10+10*i->(∀x∈T,Ef b x)->((i+n:Nat):Int)=p.2.2.2.1->loop (λz=>br b p z.1 z.2.1 z.2.2) (T,(i:Int),out)=some (yI b n (out,T)).1
 | 0,i,out,T,h1,h2,hT,e=>by
  refine un ?_;show br b p T (i:Int) out=_
  unfold br;rw[ui (by omega),cF,tN,cF,tN,cF];rfl
 | n+1,i,out,T,h1,h2,hT,e=>by
  by_cases hc:0<T.length/\out.length<10
  · have hnl:(vg b T).length=T.length:=by unfold vg;rw[length_map]
    refine ug (y:=(vg b T,((i+1:Nat):Int),out++vg b T)) ?_ ?_
    · show br b p T (i:Int) out=_;unfold br;rw[ux (by omega),cT,dT (by omega),tN,cT,ux (by omega),tN,cT,K7 h (by omega) hT,tN,u6 (by rw[hnl];omega),tN,u7 (by omega)]
    · rw[Pw h hB n (i+1) _ _ (by rw[hnl];exact h1) (by rw[length_append,hnl];omega) (MB h hT) (by omega),show yI b (n+1) (out,T)=yI b n (out++vg b T,vg b T)from if_pos hc]
  · refine un ?_;show br b p T (i:Int) out=_
    have e2:yI b (n+1) (out,T)=(out,T):=if_neg hc;rw[e2];unfold br;rw[ux (by omega),cT];by_cases h1:0<T.length
    · rw[dT (by omega),tN,cT,ui (by omega),tN,cF]
    · rw[dF (by omega),tN,cF,tN,cF]
theorem IS {b:tO}:∀(n:Nat) (out T:List tQ),T.length<=10->out.length<=20->(yI b n (out,T)).1.length<=20
 | 0,out,T,_,h=>h
 | n+1,out,T,hT,h=>by
  by_cases hc:0<T.length/\out.length<10
  · rw[show yI b (n+1) (out,T)=yI b n (out++vg b T,vg b T)from if_pos hc];have hnl:(vg b T).length=T.length:=by unfold vg;rw[length_map]
    exact IS n _ _ (by omega) (by rw[length_append,hnl];omega)
  · rw[show yI b (n+1) (out,T)=(out,T)from if_neg hc];exact h
theorem Ru {b:tO} (h:vj b) {p:um} (hp:vJ p=true):gz b p=some (xF b p):=by
 obtain⟨x1,x2,_,_,x5,x6⟩:=wZ hp;have hM:M=1048576:=rfl
 have hnl:(named p.2.2.2.2).length=p.2.2.2.2.length:=by unfold named;rw[length_map]
 have hTold:∀x∈named p.2.2.2.2,Ef b x:=by
  intro x hx;obtain⟨y,hy,rfl⟩:=mem_map.1 hx;exact HI (xc (x1 y hy))
 have hon:vk p<=p.2.2.2.2.length:=Nat.min_le_right _ _;have hout:vg b ((named p.2.2.2.2).take (vk p))=(p.2.2.2.2.take (vk p)).map (λx=>vw b x.1):=by
  unfold vg named;rw[←List.map_take,map_map];rfl
 have hlast:((named p.2.2.2.2).drop (vk p)).map (λx=>x.1)=(p.2.2.2.2.drop (vk p)).map (λx=>x.1):=by
  unfold named;rw[←List.map_drop,map_map];rfl
 have hol:(vg b ((named p.2.2.2.2).take (vk p))).length<=10:=by rw[hout,length_map,length_take];omega
 have hTl:((named p.2.2.2.2).drop (vk p)).length<=10:=by rw[length_drop];omega
 have hrun:=Pw h (p:=p) (by omega) p.2.2.2.1.toNat 0 (vg b ((named p.2.2.2.2).take (vk p))) ((named p.2.2.2.2).drop (vk p)) hTl (by omega) (λx hx=>hTold x (mem_of_mem_drop hx)) (by omega);have hv:xF b p=(yI b p.2.2.2.1.toNat (vg b ((named p.2.2.2.2).take (vk p)),(named p.2.2.2.2).drop (vk p))).1.take 10:=by
  unfold xF Mw;rw[←hout,←hlast];exact HJ _ _ _ hol
 have hlen:=IS (b:=b) p.2.2.2.1.toNat _ _ hTl (show (vg b ((named p.2.2.2.2).take (vk p))).length<=20 by omega);have fin:∀k:Int,k=((vk p:Nat):Int)->((cp p.2.2.2.2).bind λt22 =>
  (vC t22.length 0 k).bind λq =>
  (aX b ((t22.take q.2).drop q.1)).bind λt27 =>
  (cut t22 k (t22.length:Int)).bind λt30 =>
  (loop (λz=>br b p z.1 z.2.1 z.2.2) (t30,0,t27)).bind λd =>
  cond (decide ((d.length:Int)>10))
   ((vC d.length 0 10).bind λp_1 =>
   some ((d.take p_1.2).drop p_1.1))
   (some d))=some (xF b p):=by
  rintro k rfl;rw[NY (by omega),tN,show (0:Int)=((0:Nat):Int)from rfl,Cr (by omega) (by rw[hnl];exact hon),tN];show (aX b (((named p.2.2.2.2).take (vk p)).drop 0)).bind _=_
  rw[drop_zero,K7 h (by rw[length_take];omega) (λx hx=>hTold x (mem_of_mem_take hx)),tN,yf (by rw[hnl];exact hon) (Nat.le_refl _),tN,take_length];refine zb hrun ?_;rw[hv];generalize (yI b p.2.2.2.1.toNat (vg b ((named p.2.2.2.2).take (vk p)),(named p.2.2.2.2).drop (vk p))).1=d at hlen;by_cases hd:(d.length:Int)>10
  · rw[dT hd,cT,show (10:Int)=((10:Nat):Int)from rfl,Cr (by omega) (by omega),tN];rfl
  · rw[dF hd,cF,take_of_length_le (by omega)]
 unfold gz;by_cases hc:p.2.2.1>(p.2.2.2.2.length:Int)
 · rw[dT hc,cT];exact fin _ (by unfold vk;omega)
 · rw[dF hc,cF];exact fin _ (by unfold vk;omega)
theorem NZ (k i a c:Int) (bulk:Bool):∀(n:Nat) (l:List tQ),l.length=n->n<=10->(∀x∈l,Bg M x) ->
 ∃t,loop (λz:um=>bK bulk z.1 z.2.1 z.2.2.1 z.2.2.2.1 z.2.2.2.2) (k,i,a,c,l)=some (k,i,a,c,t)/\wu M (k,i,a,c,t) /\
  ((vn (k,i,a,c,l)=true/\t=l)\/(vn (k,i,a,c,l)=false/\((bulk=true/\vn (k,i,a,c,t)=true/\shr (λt=>vn (k,i,a,c,t)) n l=some t)\/(vn (k,i,a,c,t)=false/\(bulk=true->shr (λt=>vn (k,i,a,c,t)) n l=none)))))
 | n,l,hl,hn,hx=>by
  have hp:wu M (k,i,a,c,l):=⟨by show l.length<=1048576;omega,hx⟩;have hstep:∀q:Bool,vn (k,i,a,c,l)=q->bK bulk k i a c l=cond (bulk&&(!q&&decide ((l.length:Int)>0))) ((vC l.length 0 (tP ((l.length:Int)-1))).bind λp=>some (.inl (k,i,a,c,(l.take p.2).drop p.1))) (some (.inr (k,i,a,c,l))):=by
   intro q hq;unfold bK;rw[MA hp,hq];cases bulk<;>cases q<;>rfl
  cases hf:vn (k,i,a,c,l)with
  | true =>
   refine⟨l,un ?_,hp,.inl ⟨rfl,rfl⟩⟩;show bK bulk k i a c l=_
   rw[hstep true hf];cases bulk<;>rfl
  | false =>
   cases hb:bulk with
   | false =>
    subst hb;refine⟨l,un ?_,hp,.inr ⟨rfl,.inr ⟨hf,(λh=>by cases h)⟩⟩⟩;show bK false k i a c l=_
    rw[hstep false hf];rfl
   | true =>
    subst hb
    match n,hl,hn with
    | 0,hl,hn =>
     refine⟨l,un ?_,hp,.inr ⟨rfl,.inr ⟨hf,λ_=>rfl⟩⟩⟩;show bK true k i a c l=_
     rw[hstep false hf,dF (by omega)];rfl
    | n+1,hl,hn =>
     have hlt:(l.take n).length=n:=by rw[length_take];omega
     have hs:bK true k i a c l=some (.inl (k,i,a,c,l.take n)):=by
      rw[hstep false hf,dT (by omega)];show ((vC l.length 0 (tP ((l.length:Int)-1))).bind _)=_
      rw[uE (by omega) (by omega),show (l.length:Int)-1=((n:Nat):Int) by omega,show (0:Int)=((0:Nat):Int)from rfl,Cr (by omega) (by omega),tN];rfl
     obtain⟨t,t1,t2,t3⟩:=NZ k i a c true n (l.take n) hlt (by omega) (λx h=>hx x (mem_of_mem_take h));refine⟨t,ug hs t1,t2,.inr ⟨rfl,?_⟩⟩;rcases t3 with ⟨u1,rfl⟩|⟨u1,⟨_,u2,u3⟩|⟨u2,u3⟩⟩
     · exact .inl ⟨rfl,u1,if_pos u1⟩
     · exact .inl ⟨rfl,u2,by rw[show shr (λt=>vn (k,i,a,c,t)) (n+1) l=shr (λt=>vn (k,i,a,c,t)) n (l.take n)from if_neg (show ¬vn (k,i,a,c,l.take n)=true by rw[u1];simp)];exact u3⟩
     · exact .inr ⟨u2,λ_=>by rw[show shr (λt=>vn (k,i,a,c,t)) (n+1) l=shr (λt=>vn (k,i,a,c,t)) n (l.take n)from if_neg (show ¬vn (k,i,a,c,l.take n)=true by rw[u1];simp)];exact u3 rfl⟩
noncomputable def Cp (i a c:Int) (bulk:Bool) (l:List tQ):um :=
 cond (vn (162,i,a,c,l)) (162,i,a,c,l) (match cond bulk (shr (λt=>vn (162,i,a,c,t)) l.length l) none with|some t=>(162,i,a,c,t)|none=>(162,i,7,0,[]))
theorem K8 (i a c:Int) (bulk:Bool) {l:List tQ} (hn:l.length<=10) (hx:∀x∈l,Bg M x):ck (162,i,a,c,l) bulk=some (Cp i a c bulk l):=by
 obtain⟨t,t1,t2,t3⟩:=NZ 162 i a c bulk l.length l rfl hn hx;unfold ck Cp;refine zb t1 ?_;rw[MA t2,tN];rcases t3 with ⟨u1,rfl⟩|⟨u1,⟨rfl,u2,u3⟩|⟨u2,u3⟩⟩
 · rw[u1,cT,cT]
 · rw[u1,u2,cT,cF,cT,u3]
 · rw[u1,u2,cF,cF];cases bulk with
   | true=>rw[cT,u3 rfl]
   | false=>rfl
theorem SG {b:tO} (h:vj b) {p:um} (hp:vJ p=true) (h163:(p.1==163)=false) (hk:(p.1 != 162)=true):∃l,gB b p=some l/\zi b p=(b,162,p.2.1,0,0,l)/\l.length<=10/\∀x∈l,Bg M x:=by
 obtain⟨x1,x2,_⟩:=wZ hp;have hM:M=1048576:=rfl
 unfold gB zi;cases h161:(p.1==161)with
 | true =>
  have h160:(p.1==160)=false:=by simp only[beq_iff_eq]at h161;rw[h161];rfl
  have hTold:∀x∈named p.2.2.2.2,Ef b x:=by
   intro x hx;obtain⟨y,hy,rfl⟩:=mem_map.1 hx;exact HI (xc (x1 y hy))
  have he:vg b (named p.2.2.2.2)=p.2.2.2.2.map λx=>vw b x.1:=by unfold vg named;rw[map_map];rfl
  simp only[cT,cF,h160];rw[NY (by omega),tN,K7 h (by unfold named;rw[length_map];omega) hTold,tN,he];refine⟨_,rfl,rfl,by rw[length_map];exact x2,λx hx=>?_⟩;obtain⟨y,hy,rfl⟩:=mem_map.1 hx;exact wH (DL h (xc (x1 y hy)))
 | false =>
 cases h165:(p.1==165)with
 | true =>
  have h160:(p.1==160)=false:=by simp only[beq_iff_eq]at h165;rw[h165];rfl
  have hbk:=Lt h hp;simp only[cT,cF,h160];rw[Ru h hp,tN];exact⟨_,rfl,rfl,hbk.o10,λx hx=>wH (hbk.oOk x hx)⟩
 | false =>
  have h160:(p.1==160)=true:=by
   rcases OT hp with e|e|e|e|e
   · rw[e];rfl
   · rw[e]at h161;cases h161
   · rw[e]at hk;cases hk
   · rw[e]at h163;cases h163
   · rw[e]at h165;cases h165
  simp only[cT,cF,h160];have e:loop (λz:Int×List tQ=>df b p z.1 z.2) (0,[])=some (p.2.2.2.2.map λx=>((x.1,Cl b x.1):tQ)):=by
   refine Ck (by omega) (λk hk' out ho=>?_) (λout=>?_)
   · have hx:=yE (xc (x1 _ (getElem_mem hk')));show df b p (k:Int) out=_
     unfold df;rw[ux (by omega),cT,ud hk',tN,u6 (by show 0+_<=_;omega),tN,tN,TA h.w,(OP h (by omega)).1,tN,u6 (by rw[ho];show k+1<=_;omega),tN,u7 (by omega)];rfl
   · show df b p (p.2.2.2.2.length:Int) out=_;unfold df;rw[ui (by omega),cF]
  rw[e,tN];refine⟨_,rfl,rfl,by rw[length_map];exact x2,λx hx=>?_⟩;obtain⟨y,hy,rfl⟩:=mem_map.1 hx;exact wH (by unfold yS;rw[xc (x1 y hy),Pp h (by have:=yE (xc (x1 y hy));omega)];rfl)
theorem KP {b:tO} {p:um} {l:List tQ} (ha:zi b p=(b,162,p.2.1,0,0,l)) (hl:(p.1==165)=true->l=xF b p):xR b p=(b,Cp p.2.1 0 0 (p.1==165) l):=by
 unfold xR AK Cp;rw[ha];simp only;cases vn (162,p.2.1,0,0,l)with
 | true=>rfl
 | false =>
  rw[cF,cF];cases h165:(p.1==165)with
  | true=>rw[cT,cT,hl h165];cases shr (λt=>vn (162,p.2.1,0,0,t)) (xF b p).length (xF b p)<;>rfl
  | false=>rfl
theorem Rv {b:tO} (h:vj b) {p:um} (hp:vJ p=true) (h163:(p.1==163)=true):eH b p=some (xR b p):=by
 have hxs:=Fi hp;have hM:M=1048576:=rfl
 have h10:=(wZ hp).2.1;obtain⟨r,r1,r2,_,_,r5⟩:=Il h.w h.le hxs;have hr:Dh b p.2.2.2.2=r:=by unfold Dh;rw[r1];rfl
 have h160:(p.1==160)=false:=by simp only[beq_iff_eq]at h163;rw[h163];rfl
 have h161:(p.1==161)=false:=by simp only[beq_iff_eq]at h163;rw[h163];rfl
 have h165:(p.1==165)=false:=by simp only[beq_iff_eq]at h163;rw[h163];rfl
 have ha:zi b p=(r.1,162,p.2.1,r.2.1,r.2.2,p.2.2.2.2):=by unfold zi;rw[h160,h161,h165,hr];rfl
 have hless:AK b p=(b,162,p.2.1,7,0,[]):=by unfold AK;rw[h165];rfl
 unfold eH xR;rw[BD hxs,tN,r2,tN,MA (p:=(162,p.2.1,r.2.1,r.2.2,p.2.2.2.2)) ⟨hxs.1,hxs.2⟩,tN,ha,hless];simp only;have hb:∀q:Bool,vn (162,p.2.1,r.2.1,r.2.2,p.2.2.2.2)=q->((ak b).bind λt36=>(ck (162,p.2.1,r.2.1,r.2.2,p.2.2.2.2) false).bind λt38=>some (t36,t38))=some (b,cond q (162,p.2.1,r.2.1,r.2.2,p.2.2.2.2) (162,p.2.1,7,0,[])):=by
  intro q hq;rw[xm h.le,tN,K8 _ _ _ _ h10 hxs.2,tN];unfold Cp;rw[hq];rfl
 cases hf:vn (162,p.2.1,r.2.1,r.2.2,p.2.2.2.2)with
 | false=>rw[Bool.not_false,cT,tN,cT,hb false hf];rfl
 | true =>
  rw[Bool.not_true,cF,tN];cases hc:(r.2.1 != 0)with
  | false=>rfl
  | true =>
   rw[cT,hb true hf];rcases r5 with ⟨r6,_⟩|⟨r6,_⟩
   · rw[r6]at hc;cases hc
   · rw[r6];rfl
theorem Rw {b:tO} (h:zl b) (hb:yF M b) {p:um} (hp:wu M p):gC b p=some (vI b p):=by
 unfold gC iu vI Cm;rw[DN h,tN,xm hb];cases hbr:v8 b with
 | false=>rfl
 | true =>
 rw[cT,MM hp,tN,tN];cases hpp:vJ p with
 | false=>rfl
 | true =>
 cases hk:(p.1 != 162)with
 | false=>rfl
 | true =>
 have hBO:=HO h hbr;simp only[Bool.and_true,cT,tN,Bool.not_true,cF];cases h163:(p.1==163)with
 | true=>rw[cT,Rv hBO hpp h163,tN]
 | false =>
  obtain⟨l,e1,e2,e3,e4⟩:=SG hBO hpp h163 hk;have hl:(p.1==165)=true->l=xF b p:=by
   intro h165;have h160:(p.1==160)=false:=by simp only[beq_iff_eq]at h165;rw[h165];rfl
   have h161:(p.1==161)=false:=by simp only[beq_iff_eq]at h165;rw[h165];rfl
   have:zi b p=(b,162,p.2.1,0,0,xF b p):=by unfold zi;rw[h160,h161,h165];rfl
   rw[e2]at this;simpa using this
  rw[cF,e1,tN,BD ⟨by show l.length<=1048576;omega,e4⟩,tN,K8 _ _ _ _ e3 e4,tN,KP e2 hl]

theorem MC {b:tO} {w:List UInt8} {l:List ur} {lo la:Int} {k:Nat} (hk:k<l.length) (hl:l.length<=M):cW (vS b w l lo la) (k:Int)=some (vS b w (l.eraseIdx k) lo la):=by
 have hM:M=1048576:=rfl;have c1:vC l.length 0 (k:Int)=some (0,k):=by
  unfold vC;rw[if_pos (by omega),if_pos (by omega),if_pos (by omega)];simp
 have c2:vC l.length (tP ((k:Int)+1)) (l.length:Int)=some (k+1,l.length):=by
  rw[u7 (by omega)];unfold vC;rw[if_pos (by omega),if_pos (by omega),if_pos (by omega)];simp
 have c3:ut ([]:List ur) ((l.take k).drop 0)=some (l.take k):=by
  rw[drop_zero,u6 (by rw[length_take];show 0+_<=_;omega)];rfl
 have c4:ut (l.take k) ((l.take l.length).drop (k+1))=some (l.eraseIdx k):=by
  rw[take_length,u6 (by rw[length_take,length_drop];omega),←List.eraseIdx_eq_take_drop_succ]
 unfold cW vS;simp only[c1,tN,c2,c3,c4]
theorem O0 {b:tO} (hb:yF M b) {w:List UInt8} {l:List ur} {lo la:Int} {k:Nat} (hk:k<l.length):ez (vS b w l lo la) (k:Int)=some (vS b w (l.set k (Ih b l[k])) lo la):=by
 have cb:=xm hb;unfold ez vS;simp only[wi hk,tN];have cb':ak (b.1,b.2.1,b.2.2.1,b.2.2.2.1,b.2.2.2.2.1,b.2.2.2.2.2.1,b.2.2.2.2.2.2.1,b.2.2.2.2.2.2.2.1,b.2.2.2.2.2.2.2.2.1,b.2.2.2.2.2.2.2.2.2.1,b.2.2.2.2.2.2.2.2.2.2)=some b:=cb
 simp only[cb',tN,List.getElem?_eq_getElem hk,length_set,wi hk,List.getElem?_set_self hk,set_set];rfl
theorem Rx {n:Int} (h:tV n 0 1000000=true):cf n=some (HE n):=by
 obtain⟨r,r1,r2,_⟩:=MR h;rw[r2,←r1,Mx]
theorem OW {b:tO} (hb:yF M b) (hc:wC b=true) {w:List UInt8} {l:List ur} {lo la:Int} {k:Nat} (hk:k<l.length) (hl:l.length<=M) (h1:xa l[k].2.1) (h2:l[k].2.1.length<=M) :
 cX (vS b w l lo la) (k:Int)=some (cond ((uX w l[k].2.1).2==3) (vS (CZ b) w (l.eraseIdx k) lo la)
  (cond ((uX w l[k].2.1).2 != 0||((uX w l[k].2.1).1.1==162)) (vS (Bf b) w (l.eraseIdx k) lo la) (vS b w (l.set k (xG l[k].1 l[k].2.1 1 (uX w l[k].2.1).1 b 0 (uy l[k]))) lo la))):=by
 obtain⟨_,m1,m3,_⟩:=OQ w h1 h2;obtain⟨_,hp,hw,_⟩:=Cn hc;unfold cX;have d1:=MC (b:=CZ b) (w:=w) (lo:=lo) (la:=la) hk hl
 have d2:=MC (b:=Bf b) (w:=w) (lo:=lo) (la:=la) hk hl;unfold CZ vS at d1;unfold Bf vS at d2;dsimp only[vS];simp only[wi hk,tN,List.getElem?_eq_getElem hk,m1,Rx hp,Rx hw];rw[d1,d2];have hs:k<(l.set k (xG l[k].1 l[k].2.1 l[k].2.2.1 (uX w l[k].2.1).1 (jB l[k]) (xu l[k]) (uy l[k]))).length:=by rw[length_set];exact hk
 have e:=O0 hb (w:=w) (lo:=lo) (la:=la) hs;unfold vS at e;have e2:Ih b (l.set k (xG l[k].1 l[k].2.1 l[k].2.2.1 (uX w l[k].2.1).1 (jB l[k]) (xu l[k]) (uy l[k])))[k]=xG l[k].1 l[k].2.1 1 (uX w l[k].2.1).1 b 0 (uy l[k]):=by
  rw[getElem_set_self];rfl
 rw[e2,set_set]at e;cases h0:((uX w l[k].2.1).2==0)with
 | true =>
  have h3:((uX w l[k].2.1).2==3)=false:=by
   have:(uX w l[k].2.1).2=0:=by simpa using h0
   rw[this];rfl
  have hn:((uX w l[k].2.1).2 != 0)=false:=by rw[bne,h0];rfl
  rw[h3,hn];simp only[cT,cF,tN,Bool.false_or,bne];cases ((uX w l[k].2.1).1.1==162)with
  | true=>rfl
  | false =>
   simp only[Bool.not_false,cT,cF];refine (congrArg (λo=>Option.bind o λt=>some t) e).trans ?_;rfl
 | false =>
  have hn:((uX w l[k].2.1).2 != 0)=true:=by rw[bne,h0];rfl
  rw[hn];simp only[cT,cF,tN,Bool.true_or];cases ((uX w l[k].2.1).2==3)<;>rfl
theorem OX {b:tO} {w:List UInt8} {l:List ur} {lo la:Int} {k:Nat} (hk:k<l.length) (hl:l.length<=M) (p:um):cY (vS b w l lo la) (k:Int) p=some (vS b w (l.eraseIdx k) lo la,[(l[k].1,p)]):=by
 have d:=MC (b:=b) (w:=w) (lo:=lo) (la:=la) hk hl;have c0:ix (vS b w l lo la).2.2.2.2.2.2.2.2.2.2.2.2.1.length (k:Int)=some k:=wi hk
 have c1:(vS b w l lo la).2.2.2.2.2.2.2.2.2.2.2.2.1[k]?=some l[k]:=List.getElem?_eq_getElem hk;unfold cY;rw[c0,tN,c1,tN,d];rfl
theorem MD (p:um):Cp p.2.1 6 1 false p.2.2.2.2=z8 p:=by
 unfold Cp z8;cases vn (162,p.2.1,6,1,p.2.2.2.2)<;>rfl
theorem SH {b:tO} (hB:vj b) {w:List UInt8} {l:List ur} {lo la:Int} {k:Nat} (hk:k<l.length) (hl:l.length<=M) (hp:vJ (jP l[k])=true) (h163:((jP l[k]).1==163)=true) :
 gw (vS b w l lo la) (k:Int)=some (cond (b.2.2.2.2.2.2.2.2.2.2==(jB l[k]).2.2.2.2.2.2.2.2.2.2) (vS (vI b (jP l[k])).1 w (l.eraseIdx k) lo la,[(l[k].1,(vI b (jP l[k])).2.1)])
  (cond (decide (uy l[k]>=3)) (vS b w (l.eraseIdx k) lo la,[(l[k].1,z8 (jP l[k]))])
   (vS b w (l.set k (xG l[k].1 l[k].2.1 1 (jP l[k]) b 0 (tP (uy l[k]+1)))) lo la,[]))):=by
 have hk162:((jP l[k]).1 != 162)=true:=by
  have:(jP l[k]).1=163:=by simpa using h163
  rw[this];rfl
 obtain⟨_,r1,r2,_⟩:=Fj hB hp hk162;have hxs:=Fi hp
 have h10:=(wZ hp).2.1;have s1:=Rv hB hp h163
 have c0:ix (vS b w l lo la).2.2.2.2.2.2.2.2.2.2.2.2.1.length (k:Int)=some k:=wi hk;have c1:(vS b w l lo la).2.2.2.2.2.2.2.2.2.2.2.2.1[k]?=some l[k]:=List.getElem?_eq_getElem hk
 unfold gw;rw[c0,tN];simp only[c1,tN];show cond (b.2.2.2.2.2.2.2.2.2.2==(jB l[k]).2.2.2.2.2.2.2.2.2.2) _ _=_
 cases hv:(b.2.2.2.2.2.2.2.2.2.2==(jB l[k]).2.2.2.2.2.2.2.2.2.2)with
 | true =>
  rw[cT,cT];refine zb (a:=xR b (jP l[k])) s1 ?_;have e:=OX (b:=(xR b (jP l[k])).1) (w:=w) (lo:=lo) (la:=la) hk hl (xR b (jP l[k])).2
  rw[r1,r2];exact zb e rfl
 | false =>
  rw[cF,cF];show cond (decide (uy l[k]>=3)) _ _=_
  cases hq:decide (uy l[k]>=3)with
  | true =>
   rw[cT,cT];refine zb (BD hxs) ?_;refine zb (a:=z8 (jP l[k])) ?_ ?_
   · have e:=K8 (jP l[k]).2.1 6 1 false h10 hxs.2;rw[MD]at e;exact e
   · exact zb (OX (b:=b) (w:=w) (lo:=lo) (la:=la) hk hl (z8 (jP l[k]))) rfl
  | false =>
   simp only[cF];have hs:k<(l.set k (xG l[k].1 l[k].2.1 l[k].2.2.1 (jP l[k]) (jB l[k]) (xu l[k]) (tP (uy l[k]+1)))).length:=by rw[length_set];exact hk
   have e:=O0 hB.le (w:=w) (lo:=lo) (la:=la) hs;unfold vS at e;have e2:Ih b (l.set k (xG l[k].1 l[k].2.1 l[k].2.2.1 (jP l[k]) (jB l[k]) (xu l[k]) (tP (uy l[k]+1))))[k]=xG l[k].1 l[k].2.1 1 (jP l[k]) b 0 (tP (uy l[k]+1)):=by
    rw[getElem_set_self];rfl
   rw[e2,set_set]at e;refine (congrArg (λo=>Option.bind o λt=>some (t,([]:List vB))) e).trans ?_;rfl
theorem SI {a:ue} (h:xS a) {k:Nat} (hk:k<(tS a).length):gD a (k:Int)=some (yH a k (tS a)[k]):=by
 have hJ:=h.j _ (getElem_mem hk);have hn:(tS a).length<=M:=by have:=h.n;show _<=1048576;omega
 have e1:=OW h.b.le (D1 h.b.ok).1 (w:=aW a) (l:=tS a) (lo:=xW a) (la:=vr a) hk hn hJ.byt hJ.len;have c0:ix a.2.2.2.2.2.2.2.2.2.2.2.2.1.length (k:Int)=some k:=wi hk
 have c1:a.2.2.2.2.2.2.2.2.2.2.2.2.1[k]?=some (tS a)[k]:=List.getElem?_eq_getElem hk;have e1:cX a (k:Int)=_:=e1
 unfold gD yH xH;rw[c0,tN];simp only[c1,tN];rcases K4 hJ with hp|hp|hp
 · rw[hp];show ((cX a (k:Int)).bind _)=_
   rw[e1,tN];cases ((uX (aW a) (tS a)[k].2.1).2==3)with
   | true=>rfl
   | false=>cases ((uX (aW a) (tS a)[k].2.1).2 != 0||((uX (aW a) (tS a)[k].2.1).1.1==162))<;>rfl
 · rw[hp];simp only[show ((1:Int)==0)=false from rfl,show ((1:Int)==1)=true from rfl,show ((1:Int)==2)=false from rfl,cT,cF,tN];show cond (decide (xu (tS a)[k]<((jP (tS a)[k]).2.2.2.2.length:Int))) _ _=_
   cases hd:decide (xu (tS a)[k]<((jP (tS a)[k]).2.2.2.2.length:Int))with
   | true=>rw[cT];exact congrArg some (by simp only[cT];rfl)
   | false=>rw[cF];exact congrArg some (by simp only[cF];rfl)
 · obtain⟨q1,q2,q3⟩:=hJ.ok.resolve_left (by rw[hp];decide);rw[hp];simp only[show ((2:Int)==0)=false from rfl,show ((2:Int)==1)=false from rfl,show ((2:Int)==2)=true from rfl,cT,cF,tN];show cond ((jP (tS a)[k]).1==163) _ _=_
   cases h163:((jP (tS a)[k]).1==163)with
   | true =>
    have hb:((tS a)[k].2.2.2.1 != 163)=false:=by rw[bne,show ((tS a)[k].2.2.2.1==163)=true from h163];rfl
    simp only[hb,cT,cF];refine zb (SH (b:=aB a) h.b (w:=aW a) (lo:=xW a) (la:=vr a) hk hn q1 h163) ?_;cases ((aB a).2.2.2.2.2.2.2.2.2.2==(jB (tS a)[k]).2.2.2.2.2.2.2.2.2.2)with
    | true=>rfl
    | false=>cases decide (uy (tS a)[k]>=3)<;>rfl
   | false =>
    have hb:((tS a)[k].2.2.2.1 != 163)=true:=by rw[bne,show ((tS a)[k].2.2.2.1==163)=false from h163];rfl
    simp only[hb,cT,cF];refine zb (a:=vI (jB (tS a)[k]) (jP (tS a)[k])) (Rw hJ.bw hJ.bl hJ.pl) ?_;exact zb (OX (b:=aB a) (w:=aW a) (lo:=xW a) (la:=vr a) hk hn (vI (jB (tS a)[k]) (jP (tS a)[k])).2.1) rfl
theorem O1 {a:ue} (h:xS a) {k:Nat} (hk:k<(tS a).length):bm a (k:Int)=some (yH a k (tS a)[k]):=by
 have hn:=h.n;unfold bm;rw[En h.ale,tN,Ko h.awf,tN,h.ok,Bool.not_true,cF];have hw:tP ((a.2.2.2.2.2.2.2.2.2.2.2.2.1.length:Int)-1)=((tS a).length:Int)-1:=uE (by show -9223372036854775808<=((tS a).length:Int)-1;omega) (by show ((tS a).length:Int)-1<=_;omega)
 rw[hw,AL,tN,Bp (by omega) (by omega),tN,Bool.not_true,cF,SI h hk,tN]
theorem Ly {a:ue} (h:xS a) {k:Int} (hk:k<0\/((tS a).length:Int)<=k):bm a k=some (a,[]):=by
 have hn:=h.n;unfold bm;rw[En h.ale,tN,Ko h.awf,tN,h.ok,Bool.not_true,cF];have hw:tP ((a.2.2.2.2.2.2.2.2.2.2.2.2.1.length:Int)-1)=((tS a).length:Int)-1:=uE (by show -9223372036854775808<=((tS a).length:Int)-1;omega) (by show ((tS a).length:Int)-1<=_;omega)
 have hp:tV k 0 (((tS a).length:Int)-1)=false:=by
  unfold tV;rcases hk with hk|hk
  · rw[dF (by omega)];rfl
  · rw[dF (show ¬k<=((tS a).length:Int)-1 by omega),Bool.and_false]
 rw[hw,AL,tN,hp,tN,Bool.not_false,cT]
theorem O2 {a:ue} (hw:HQ a) (hl:Bh M a) (hb:∀j∈tS a,xa j.2.1) (k:Int):∃r,aR a k=some r/\bm a k=some r/\(zc a=true->xS r.1/\r.2.length<=1)/\(zc a=false->r=(a,[]))/\xW r.1=xW a/\vr r.1=vr a:=by
 cases hp:zc a with
 | false =>
  refine⟨(a,[]),?_,?_,(λh=>by cases h),λ_=>rfl,rfl,rfl⟩
  · unfold aR;rw[Fr hl,tN,Kn hw,tN,hp];rfl
  · unfold bm;rw[En hl,tN,Ko hw,tN,hp];rfl
 | true =>
  have h:=Lv hw hl hb hp;by_cases hk:0<=k/\k<((tS a).length:Int)
  · obtain⟨n,rfl⟩:∃n:Nat,k=(n:Int):=⟨k.toNat,by omega⟩;have hn:n<(tS a).length:=by omega
    obtain⟨w1,w2⟩:=K5 h hn;have hl:xW (yH a n (tS a)[n]).1=xW a/\vr (yH a n (tS a)[n]).1=vr a:=by
     rcases HH h hn with ⟨j',e,_⟩|⟨b',d,e,_⟩<;>rw[e]<;>exact⟨rfl,rfl⟩
    exact⟨_,Pu h hn,O1 h hn,λ_=>⟨w1,w2⟩,(λh=>by cases h),hl⟩
  · have hk':k<0\/((tS a).length:Int)<=k:=by omega
    exact⟨_,NT h hk',Ly h hk',λ_=>⟨h,by simp⟩,(λh=>by cases h),rfl,rfl⟩

def Ry (a:ue):Prop:=HQ a/\Bh M a/\∀j∈tS a,xa j.2.1
theorem xS.any {a:ue} (h:xS a):Ry a:=⟨h.awf,h.ale,λj hj=>(h.j j hj).byt⟩
def O3 (n:Nat) (p:um):Prop:=p.2.2.2.2.length<=n/\∀x∈p.2.2.2.2,Bg M x
theorem O3.le {n:Nat} {p:um} (h:O3 n p) (hn:n<=1000):wu M p:=⟨by have:=h.1;show _<=1048576;omega,h.2⟩
theorem O3.up {n m:Nat} {p:um} (h:O3 n p) (hn:n<=m):O3 m p:=⟨Nat.le_trans h.1 hn,h.2⟩
theorem Lz {b:tO} (h:zl b) (hb:yF M b) {p:um} (hp:wu M p):yF M (vI b p).1/\wu M (vI b p).2.1/\((vI b p).2.2=false->(vI b p).1=b):=by
 have h0:wu M (0,0,0,0,[]):=⟨by show 0<=1048576;decide,λx hx=>by cases hx⟩;unfold vI;cases he:Cm b p with
 | false=>exact⟨hb,h0,λ_=>rfl⟩
 | true =>
  unfold Cm at he;simp only[aT]at he;obtain⟨e1,e2,e3⟩:=he;have hdn:vj (xR b p).1:=by
   have:=HG (HO h e1) p;unfold vI Cm at this;rw[e1,e2,e3]at this;exact this
  exact⟨hdn.le,Fi (Q2 (NU e2)),λhc=>by cases hc⟩
theorem Rz {p:um} (hp:wu M p):wu M (z8 p):=by
 unfold z8;cases vn (162,p.2.1,6,1,p.2.2.2.2)with
 | true=>exact hp
 | false=>exact⟨by show 0<=1048576;decide,λx hx=>by cases hx⟩
theorem RA (w:List UInt8) {b:tO} (hb:vj b) {j:ur} (h:Co j) {d:List vB} (hd:(xH w b j).2=.gone d):∀x∈d,wu M x.2:=by
 have one:∀{y:vB} {x:vB},wu M y.2->x∈[y]->wu M x.2:=λhy hx=>by rw[mem_singleton.1 hx];exact hy
 unfold xH at hd;cases h0:(j.2.2.1==0)with
 | true =>
  rw[h0,cT]at hd;cases h1:((uX w j.2.1).2==3)with
  | true=>rw[h1]at hd;cases hd;intro x hx;cases hx
  | false =>
   rw[h1,cF]at hd;cases h2:((uX w j.2.1).2 != 0||((uX w j.2.1).1.1==162))with
   | true=>rw[h2]at hd;cases hd;intro x hx;cases hx
   | false=>rw[h2]at hd;cases hd
 | false =>
  rw[h0,cF]at hd;cases h1:(j.2.2.1==2)with
  | true =>
   rw[h1,cT]at hd;cases h2:(j.2.2.2.1 != 163)with
   | true=>rw[h2]at hd;cases hd;exact λx hx=>one (Lz h.bw h.bl h.pl).2.1 hx
   | false =>
    rw[h2,cF]at hd;cases h3:(b.2.2.2.2.2.2.2.2.2.2==(jB j).2.2.2.2.2.2.2.2.2.2)with
    | true=>rw[h3]at hd;cases hd;exact λx hx=>one (Lz hb.w hb.le h.pl).2.1 hx
    | false =>
     rw[h3,cF]at hd;cases h4:decide (uy j>=3)with
     | true=>rw[h4]at hd;cases hd;exact λx hx=>one (Rz h.pl) hx
     | false=>rw[h4]at hd;cases hd
  | false =>
   rw[h1,cF]at hd;cases h2:decide (xu j<((jP j).2.2.2.2.length:Int))with
   | true=>rw[h2]at hd;cases hd
   | false=>rw[h2]at hd;cases hd
theorem RB {a:ue} (h:xS a) {k:Nat} (hk:k<(tS a).length):∀x∈(yH a k (tS a)[k]).2,wu M x.2:=by
 have hs:=λd=>RA (aW a) h.b (h.j _ (getElem_mem hk)) (d:=d);unfold yH;cases hf:(xH (aW a) (aB a) (tS a)[k]).2 with
 | stay j'=>intro x hx;cases hx
 | gone d=>exact hs d hf
def TZ (a:ue) (o q:Option (ue×List vB)):Prop:=∃r,o=some r/\q=some r/\Bh M r.1/\r.2.length<=M/\∀x∈r.2,wu M x.2
theorem LA {a:ue} (h:Bh M a):Bh M a/\([]:List vB).length<=M/\∀x∈([]:List vB),wu M x.2:=⟨h,by show 0<=1048576;decide,λx hx=>by cases hx⟩
theorem Qb {a:ue} (h:Ry a) (k:Int):TZ a (aR a k) (bm a k):=by
 obtain⟨hw,hl,hb⟩:=h;cases hp:zc a with
 | false =>
  obtain⟨r,r1,r2,_,r4,_⟩:=O2 hw hl hb k;have e:=r4 hp
  subst e;exact⟨_,r1,r2,LA hl⟩
 | true =>
  have h:=Lv hw hl hb hp;by_cases hk:0<=k/\k<((tS a).length:Int)
  · obtain⟨n,rfl⟩:∃n:Nat,k=(n:Int):=⟨k.toNat,by omega⟩;have hn:n<(tS a).length:=by omega
    obtain⟨w1,w2⟩:=K5 h hn;exact⟨_,Pu h hn,O1 h hn,w1.ale,by show _<=1048576;omega,RB h hn⟩
  · have hk':k<0\/((tS a).length:Int)<=k:=by omega
    exact⟨_,NT h hk',Ly h hk',LA hl⟩
end Go.V.W

