/- The law FnExactVisits: part of the proof that for every input it returns true. No condition. -/
import Derived.Test.YtobeipmgjajdlaaGreatFnExactVisits
import Derived.Test.YtobeipmgjajdlaaGreatV4
open List (length_set set_set)
set_option linter.unusedVariables false
set_option linter.unusedSimpArgs false
namespace Go.V.W
theorem Bc {b:Int} {s:List UInt8}:(pS [b]++s).length=s.length+1:=by simp[pS]
theorem Bd:∀(f:Nat) (k:Int) (s:List UInt8),0<=k->k<2^f->f<=64->s.length+f<=100->∃d,ob (λz:Int×List UInt8=>d9 z.1 z.2) (f+1) (k,s)=some d/\d.length<=s.length+f
 | 0,k,s,h0,h1,hf,hs=>by
  rw[mN];unfold d9;rw[show decide (k>0)=false from dF (by simp at h1;omega),cF];exact⟨s,rfl,by simp⟩
 | f+1,k,s,h0,h1,hf,hs=>by
  rw[mN];unfold d9;by_cases hk:k>0
  · have hp:(2:Int)^(f+1)=2*2^f:=by rw[Int.pow_succ];omega
    have hq:(2:Int)^(f+1)<=2^64:=by
     have:=Nat.pow_le_pow_right (n:=2) (by omega) hf;have h2:((2^(f+1):Nat):Int)<=((2^64:Nat):Int):=Int.ofNat_le.2 this
     simpa using h2
    have hd:k.tdiv 10=k/10:=Int.tdiv_eq_ediv_of_nonneg h0;have hlt:k/10<2^f:=by omega
    have hw:lT (k/10)=k/10\/True:=.inr trivial;have hc:zB (pS [IntKind.u8.wrap (lT (48+k.tmod 10))]) s=some (pS [IntKind.u8.wrap (lT (48+k.tmod 10))]++s):=by
     unfold zB;rw[if_pos];simp[pS,tS];omega
    rw[dT hk,cT,hc,Option.bind_some,hd];have hw2:lT (k/10)=k/10:=qF (by omega) (by
     have:(2:Int)^64=18446744073709551616:=by decide
     omega)
    rw[hw2];obtain⟨d,h2,h3⟩:=Bd f (k/10) (pS [IntKind.u8.wrap (lT (48+k.tmod 10))]++s) (by omega) hlt (by omega) (by rw[Bc];omega);exact⟨d,h2,by rw[Bc]at h3;omega⟩
  · rw[dF hk,cF];exact⟨s,rfl,by omega⟩
theorem Ft {k:Int} (h0:0<=k) (hk:k<=9000000000000000000):∃s,da k=some s:=by
 unfold da;by_cases h:k<=0
 · rw[dT h];exact⟨_,rfl⟩
 · rw[dF h,cF];obtain⟨d, h1, h2⟩ := Bd 64 k [] h0 (by
    have : (2 : Int)^64=18446744073709551616 := by decide
    omega) (by omega) (by simp)
   rw[pa h1,Option.bind_some];unfold zB;rw[if_pos]
   · exact⟨_,rfl⟩
   · simp[tS]at h2 ⊢;omega
set_option maxHeartbeats 8000000 in
theorem CS {l:List Int} (hl:l.length<=1100000) {k:Int} (h0:0<=k) (hk:k+1100001<=9000000000000000000):∃l' k',bt l k=some (l',k')/\l'.length=l.length/\k<=k'/\k'<=k+1100001/\cf l' k=some k':=by
 obtain⟨l',k',h1,h2,h3,h4,h5⟩:=CR (l:=l) (M:=de) (H:=dc) (B:=8999999999999999999) (c:=1) (by omega)
  (λx hx k h0 hk=>by
   refine⟨k,k+1,by omega,by omega,λn ls hn hle hx'=>?_,λn a hn hle hx'=>?_⟩
   · unfold de;simp (maxSteps:=10000000) (disch:=omega) only[ng (show (n:Int)<(ls.length:Int) by omega),cT,p4 hn,length_set,Option.bind_some,List.getElem?_eq_getElem hn,oD,set_set,hx',qF,me (show n<9223372036854775807 by omega)]
   · unfold dc;simp (maxSteps:=10000000) (disch:=omega) only[ng (show (n:Int)<(a.length:Int) by omega),cT,cF,md hn,Option.bind_some,hx',qF,bne_self_eq_false,beq_self_eq_true,Bool.not_true,me (show n<9223372036854775807 by omega)])
  (λk ls=>by unfold de;rw[mG (by omega),cF])
  (λk a=>by unfold dc;rw[mG (by omega),cF]) h0 (by omega)
 refine⟨l',k',?_,h2,h3,by omega,?_⟩
 · unfold bt;rw[h1];rfl
 · unfold cf;rw[h5];rfl
set_option maxHeartbeats 8000000 in
theorem Gv {l:List Pt} (hl:l.length<=1100000) {k:Int} (h0:0<=k) (hk:k+8800008<=9000000000000000000):∃l' k',cg l k=some (l',k')/\l'.length=l.length/\k<=k'/\k'<=k+8800008/\True:=by
 obtain⟨l',k',h1,h2,h3,h4⟩:=qj (l:=l) (M:=df) (B:=8999999999999999992) (c:=8) (by omega)
  (λx hx k h0 hk=>by
   refine⟨(((k).tmod 3)==0,k+1,((k+1+1).tmod 3)==0,k+1+1+1,k+1+1+1+1,k+1+1+1+1+1,k+1+1+1+1+1+1,k+1+1+1+1+1+1+1),k+1+1+1+1+1+1+1+1,by omega,by omega,λn ls hn hle hx'=>?_⟩
   · unfold df;simp (maxSteps:=10000000) (disch:=omega) only[ng (show (n:Int)<(ls.length:Int) by omega),cT,p4 hn,length_set,Option.bind_some,List.getElem?_eq_getElem hn,oD,set_set,hx',qF,me (show n<9223372036854775807 by omega)])
  (λk ls=>by unfold df;rw[mG (by omega),cF])
  h0 (by omega)
 refine⟨l',k',?_,h2,h3,by omega,?_⟩
 · unfold cg;rw[h1];rfl
 · trivial
set_option maxHeartbeats 8000000 in
theorem Ez {l:List m0} (hl:l.length<=1100000) {k:Int} (h0:0<=k) (hk:k+5500005<=9000000000000000000):∃l' k',ch l k=some (l',k')/\l'.length=l.length/\k<=k'/\k'<=k+5500005/\True:=by
 obtain⟨l',k',h1,h2,h3,h4⟩:=qj (l:=l) (M:=dg) (B:=8999999999999999995) (c:=5) (by omega)
  (λx hx k h0 hk=>by
   refine⟨(k,k+1,k+1+1,k+1+1+1,((k+1+1+1+1).tmod 3)==0),k+1+1+1+1+1,by omega,by omega,λn ls hn hle hx'=>?_⟩
   · unfold dg;simp (maxSteps:=10000000) (disch:=omega) only[ng (show (n:Int)<(ls.length:Int) by omega),cT,p4 hn,length_set,Option.bind_some,List.getElem?_eq_getElem hn,oD,set_set,hx',qF,me (show n<9223372036854775807 by omega)])
  (λk ls=>by unfold dg;rw[mG (by omega),cF])
  h0 (by omega)
 refine⟨l',k',?_,h2,h3,by omega,?_⟩
 · unfold ch;rw[h1];rfl
 · trivial
set_option maxHeartbeats 8000000 in
theorem EA {l:List nC} (hl:l.length<=1100000) {k:Int} (h0:0<=k) (hk:k+3300003<=9000000000000000000):∃l' k',ci l k=some (l',k')/\l'.length=l.length/\k<=k'/\k'<=k+3300003/\True:=by
 obtain⟨l',k',h1,h2,h3,h4⟩:=qj (l:=l) (M:=dh) (B:=8999999999999999997) (c:=3) (by omega)
  (λx hx k h0 hk=>by
   refine⟨(k,k+1,k+1+1),k+1+1+1,by omega,by omega,λn ls hn hle hx'=>?_⟩
   · unfold dh;simp (maxSteps:=10000000) (disch:=omega) only[ng (show (n:Int)<(ls.length:Int) by omega),cT,p4 hn,length_set,Option.bind_some,List.getElem?_eq_getElem hn,oD,set_set,hx',qF,me (show n<9223372036854775807 by omega)])
  (λk ls=>by unfold dh;rw[mG (by omega),cF])
  h0 (by omega)
 refine⟨l',k',?_,h2,h3,by omega,?_⟩
 · unfold ci;rw[h1];rfl
 · trivial
def wh (x:lS):Prop:=((x.2.2.1).length<=1100000)/\((x.2.2.2.1).length<=1100000)/\((x.2.2.2.2.1).length<=1100000)/\((x.2.2.2.2.2.1).length<=1100000)
set_option maxHeartbeats 8000000 in
theorem CU {l:List lS} (hl:l.length<=1100000) (ho:∀x∈l,wh x) {k:Int} (h0:0<=k) (hk:k+20570045100024<=9000000000000000000):∃l' k',cj l k=some (l',k')/\l'.length=l.length/\k<=k'/\k'<=k+20570045100024/\True:=by
 obtain⟨l',k',h1,h2,h3,h4⟩:=qj (l:=l) (M:=dj) (B:=8999999999981299976) (c:=18700024) (by omega)
  (λx hx k h0 hk=>by
   have hx0:=ho x hx;obtain⟨y1,t1⟩:=Ft (k:=k+1) (by omega) (by omega);obtain⟨y2,k2,e2,a2,b2,c2,f2⟩:=Gv (l:=x.2.2.1) (hx0.1) (k:=k+1+1) (by omega) (by omega);obtain⟨y3,k3,e3,a3,b3,c3,f3⟩:=Ez (l:=x.2.2.2.1) (hx0.2.1) (k:=k2) (by omega) (by omega);obtain⟨y4,k4,e4,a4,b4,c4,f4⟩:=EA (l:=x.2.2.2.2.1) (hx0.2.2.1) (k:=k3) (by omega) (by omega);obtain⟨y5,k5,e5,a5,b5,c5,f5⟩:=CS (l:=x.2.2.2.2.2.1) (hx0.2.2.2) (k:=k4) (by omega) (by omega);refine⟨(k,y1,y2,y3,y4,y5,k5,k5+1,k5+1+1,k5+1+1+1,k5+1+1+1+1),k5+1+1+1+1+1,by omega,by omega,λn ls hn hle hx'=>?_⟩
   · unfold dj;simp (maxSteps:=10000000) (disch:=omega) only[ng (show (n:Int)<(ls.length:Int) by omega),cT,p4 hn,length_set,Option.bind_some,List.getElem?_eq_getElem hn,oD,set_set,hx',qF,me (show n<9223372036854775807 by omega),t1,e2,e3,e4,e5])
  (λk ls=>by unfold dj;rw[mG (by omega),cF])
  h0 (by omega)
 refine⟨l',k',?_,h2,h3,by omega,?_⟩
 · unfold cj;rw[h1];rfl
 · trivial
set_option maxHeartbeats 8000000 in
theorem EB {l:List my} (hl:l.length<=1100000) {k:Int} (h0:0<=k) (hk:k+4400004<=9000000000000000000):∃l' k',ck l k=some (l',k')/\l'.length=l.length/\k<=k'/\k'<=k+4400004/\True:=by
 obtain⟨l',k',h1,h2,h3,h4⟩:=qj (l:=l) (M:=dk) (B:=8999999999999999996) (c:=4) (by omega)
  (λx hx k h0 hk=>by
   refine⟨(k,k+1,k+1+1,k+1+1+1),k+1+1+1+1,by omega,by omega,λn ls hn hle hx'=>?_⟩
   · unfold dk;simp (maxSteps:=10000000) (disch:=omega) only[ng (show (n:Int)<(ls.length:Int) by omega),cT,p4 hn,length_set,Option.bind_some,List.getElem?_eq_getElem hn,oD,set_set,hx',qF,me (show n<9223372036854775807 by omega)])
  (λk ls=>by unfold dk;rw[mG (by omega),cF])
  h0 (by omega)
 refine⟨l',k',?_,h2,h3,by omega,?_⟩
 · unfold ck;rw[h1];rfl
 · trivial
set_option maxHeartbeats 8000000 in
theorem Fu {l:List nX} (hl:l.length<=1100000) {k:Int} (h0:0<=k) (hk:k+7700007<=9000000000000000000):∃l' k',cm l k=some (l',k')/\l'.length=l.length/\k<=k'/\k'<=k+7700007/\True:=by
 obtain⟨l',k',h1,h2,h3,h4⟩:=qj (l:=l) (M:=dl) (B:=8999999999999999993) (c:=7) (by omega)
  (λx hx k h0 hk=>by
   refine⟨(k,((k+1).tmod 3)==0,k+1+1,k+1+1+1,k+1+1+1+1,k+1+1+1+1+1,k+1+1+1+1+1+1),k+1+1+1+1+1+1+1,by omega,by omega,λn ls hn hle hx'=>?_⟩
   · unfold dl;simp (maxSteps:=10000000) (disch:=omega) only[ng (show (n:Int)<(ls.length:Int) by omega),cT,p4 hn,length_set,Option.bind_some,List.getElem?_eq_getElem hn,oD,set_set,hx',qF,me (show n<9223372036854775807 by omega)])
  (λk ls=>by unfold dl;rw[mG (by omega),cF])
  h0 (by omega)
 refine⟨l',k',?_,h2,h3,by omega,?_⟩
 · unfold cm;rw[h1];rfl
 · trivial
def E3 (x:mi):Prop:=((x.1).length<=1100000/\∀y∈x.1,wh y)/\((x.2.1).length<=1100000)/\((x.2.2).length<=1100000)
theorem Gw {x:mi} (hx0:E3 x) {k:Int} (h0:0<=k) (hk:k+20570057200035<=9000000000000000000):∃x' k',bu x k=some (x',k')/\k<=k'/\k'<=k+20570057200035/\True:=by
 obtain⟨y1,k1,e1,a1,b1,c1,f1⟩:=CU (l:=x.1) (hx0.1.1) (hx0.1.2) (k:=k) (by omega) (by omega);obtain⟨y2,k2,e2,a2,b2,c2,f2⟩:=EB (l:=x.2.1) (hx0.2.1) (k:=k1) (by omega) (by omega);obtain⟨y3,k3,e3,a3,b3,c3,f3⟩:=Fu (l:=x.2.2) (hx0.2.2) (k:=k2) (by omega) (by omega);refine⟨(y1,y2,y3),k3,?_,by omega,by omega,?_⟩
 · simp only[bu,Option.bind_some,e1,e2,e3]
 · trivial
set_option maxHeartbeats 8000000 in
theorem EC {l:List Int} (hl:l.length<=1100000) {k:Int} (h0:0<=k) (hk:k+1100001<=9000000000000000000):∃l' k',cn l k=some (l',k')/\l'.length=l.length/\k<=k'/\k'<=k+1100001/\True:=by
 obtain⟨l',k',h1,h2,h3,h4⟩:=qj (l:=l) (M:=dn) (B:=8999999999999999999) (c:=1) (by omega)
  (λx hx k h0 hk=>by
   refine⟨IntKind.u8.wrap (k),k+1,by omega,by omega,λn ls hn hle hx'=>?_⟩
   · unfold dn;simp (maxSteps:=10000000) (disch:=omega) only[ng (show (n:Int)<(ls.length:Int) by omega),cT,p4 hn,length_set,Option.bind_some,List.getElem?_eq_getElem hn,oD,set_set,hx',qF,me (show n<9223372036854775807 by omega)])
  (λk ls=>by unfold dn;rw[mG (by omega),cF])
  h0 (by omega)
 refine⟨l',k',?_,h2,h3,by omega,?_⟩
 · unfold cn;rw[h1];rfl
 · trivial
def ED (x:mO):Prop:=((x.2.2.2).length<=1100000)
theorem EE {x:mO} (hx0:ED x) {k:Int} (h0:0<=k) (hk:k+1100001<=9000000000000000000):∃x' k',co x k=some (x',k')/\k<=k'/\k'<=k+1100001/\True:=by
 obtain⟨y1,k1,e1,a1,b1,c1,f1⟩:=EC (l:=x.2.2.2) (hx0) (k:=k) (by omega) (by omega);refine⟨(x.1,x.2.1,x.2.2.1,y1),k1,?_,by omega,by omega,?_⟩
 · simp only[co,bu,Option.bind_some,e1]
 · trivial
end Go.V.W

