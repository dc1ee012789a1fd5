/- The law FnExactPlayActs: part of the proof that for every input it returns true. No condition. -/
import Derived.Test.YthcdcolihokdmaaGreatFnExactPlayActs
import Derived.Test.YthcdcolihokdmaaGreatV4
open List (length_set set_set)
set_option linter.unusedVariables false
set_option linter.unusedSimpArgs false
namespace Go.V.W
theorem PC {b:Int} {s:List UInt8}:(yq [b]++s).length=s.length+1:=by simp[yq]
theorem PD:∀(f:Nat) (k:Int) (s:List UInt8),0<=k->k<2^f->f<=64->s.length+f<=100->∃d,zY (λz:Int×List UInt8=>hN z.1 z.2) (f+1) (k,s)=some d/\d.length<=s.length+f
 | 0,k,s,h0,h1,hf,hs=>by
  rw[yh];unfold hN;rw[show decide (k>0)=false from dF (by simp at h1;omega),cF];exact⟨s,rfl,by simp⟩
 | f+1,k,s,h0,h1,hf,hs=>by
  rw[yh];unfold hN;by_cases hk:k>0
  · have hp:(2:Int)^(f+1)=2*2^f:=by rw[Int.pow_succ];omega
    have hq:(2:Int)^(f+1)<=2^64:=by
     have:=Nat.pow_le_pow_right (n:=2) (by omega) hf;have h2:((2^(f+1):Nat):Int)<=((2^64:Nat):Int):=Int.ofNat_le.2 this
     simpa using h2
    have hd:k.tdiv 10=k/10:=Int.tdiv_eq_ediv_of_nonneg h0;have hlt:k/10<2^f:=by omega
    have hw:wZ (k/10)=k/10\/True:=.inr trivial;have hc:Nh (yq [IntKind.u8.wrap (wZ (48+k.tmod 10))]) s=some (yq [IntKind.u8.wrap (wZ (48+k.tmod 10))]++s):=by
     unfold Nh;rw[if_pos];simp[yq,GO];omega
    rw[dT hk,cT,hc,Option.bind_some,hd];have hw2:wZ (k/10)=k/10:=Ac (by omega) (by
     have:(2:Int)^64=18446744073709551616:=by decide
     omega)
    rw[hw2];obtain⟨d,h2,h3⟩:=PD f (k/10) (yq [IntKind.u8.wrap (wZ (48+k.tmod 10))]++s) (by omega) hlt (by omega) (by rw[PC];omega);exact⟨d,h2,by rw[PC]at h3;omega⟩
  · rw[dF hk,cF];exact⟨s,rfl,by omega⟩
theorem S6 {k:Int} (h0:0<=k) (hk:k<=9000000000000000000):∃s,cE k=some s:=by
 unfold cE;by_cases h:k<=0
 · rw[dT h];exact⟨_,rfl⟩
 · rw[dF h,cF];obtain⟨d, h1, h2⟩ := PD 64 k [] h0 (by
    have : (2 : Int)^64=18446744073709551616 := by decide
    omega) (by omega) (by simp)
   rw[AH h1,Option.bind_some];unfold Nh;rw[if_pos]
   · exact⟨_,rfl⟩
   · simp[GO]at h2 ⊢;omega
set_option maxHeartbeats 8000000 in
theorem U0 {l:List Pt} (hl:l.length<=1100000) {k:Int} (h0:0<=k) (hk:k+8800008<=9000000000000000000):∃l' k',dO l k=some (l',k')/\l'.length=l.length/\k<=k'/\k'<=k+8800008/\fD l' k=some k':=by
 obtain⟨l',k',h1,h2,h3,h4,h5⟩:=BK (l:=l) (M:=gI) (H:=hU) (B:=8999999999999999992) (c:=8) (by omega)
  (λx hx k h0 hk=>by
   refine⟨(((k).tmod 3)==0,k+1,((k+1+1).tmod 3)==0,k+1+1+1,k+1+1+1+1,k+1+1+1+1+1,k+1+1+1+1+1+1,k+1+1+1+1+1+1+1),k+1+1+1+1+1+1+1+1,by omega,by omega,λn ls hn hle hx'=>?_,λn a hn hle hx'=>?_⟩
   · unfold gI;simp (maxSteps:=10000000) (disch:=omega) only[xI (show (n:Int)<(ls.length:Int) by omega),cT,yE hn,length_set,Option.bind_some,List.getElem?_eq_getElem hn,A1,set_set,hx',Ac,xj (show n<9223372036854775807 by omega)]
   · unfold hU;simp (maxSteps:=10000000) (disch:=omega) only[xI (show (n:Int)<(a.length:Int) by omega),cT,cF,xo hn,Option.bind_some,hx',Ac,bne_self_eq_false,beq_self_eq_true,Bool.not_true,xj (show n<9223372036854775807 by omega)])
  (λk ls=>by unfold gI;rw[xu (by omega),cF])
  (λk a=>by unfold hU;rw[xu (by omega),cF]) h0 (by omega)
 refine⟨l',k',?_,h2,h3,by omega,?_⟩
 · unfold dO;rw[h1];rfl
 · unfold fD;rw[h5];rfl
set_option maxHeartbeats 8000000 in
theorem PE {l:List xa} (hl:l.length<=1100000) {k:Int} (h0:0<=k) (hk:k+5500005<=9000000000000000000):∃l' k',dP l k=some (l',k')/\l'.length=l.length/\k<=k'/\k'<=k+5500005/\fE l' k=some k':=by
 obtain⟨l',k',h1,h2,h3,h4,h5⟩:=BK (l:=l) (M:=gJ) (H:=hZ) (B:=8999999999999999995) (c:=5) (by omega)
  (λx hx k h0 hk=>by
   refine⟨(k,k+1,k+1+1,k+1+1+1,((k+1+1+1+1).tmod 3)==0),k+1+1+1+1+1,by omega,by omega,λn ls hn hle hx'=>?_,λn a hn hle hx'=>?_⟩
   · unfold gJ;simp (maxSteps:=10000000) (disch:=omega) only[xI (show (n:Int)<(ls.length:Int) by omega),cT,yE hn,length_set,Option.bind_some,List.getElem?_eq_getElem hn,A1,set_set,hx',Ac,xj (show n<9223372036854775807 by omega)]
   · unfold hZ;simp (maxSteps:=10000000) (disch:=omega) only[xI (show (n:Int)<(a.length:Int) by omega),cT,cF,xo hn,Option.bind_some,hx',Ac,bne_self_eq_false,beq_self_eq_true,Bool.not_true,xj (show n<9223372036854775807 by omega)])
  (λk ls=>by unfold gJ;rw[xu (by omega),cF])
  (λk a=>by unfold hZ;rw[xu (by omega),cF]) h0 (by omega)
 refine⟨l',k',?_,h2,h3,by omega,?_⟩
 · unfold dP;rw[h1];rfl
 · unfold fE;rw[h5];rfl
set_option maxHeartbeats 8000000 in
theorem PF {l:List xq} (hl:l.length<=1100000) {k:Int} (h0:0<=k) (hk:k+3300003<=9000000000000000000):∃l' k',dQ l k=some (l',k')/\l'.length=l.length/\k<=k'/\k'<=k+3300003/\fF l' k=some k':=by
 obtain⟨l',k',h1,h2,h3,h4,h5⟩:=BK (l:=l) (M:=gK) (H:=i0) (B:=8999999999999999997) (c:=3) (by omega)
  (λx hx k h0 hk=>by
   refine⟨(k,k+1,k+1+1),k+1+1+1,by omega,by omega,λn ls hn hle hx'=>?_,λn a hn hle hx'=>?_⟩
   · unfold gK;simp (maxSteps:=10000000) (disch:=omega) only[xI (show (n:Int)<(ls.length:Int) by omega),cT,yE hn,length_set,Option.bind_some,List.getElem?_eq_getElem hn,A1,set_set,hx',Ac,xj (show n<9223372036854775807 by omega)]
   · unfold i0;simp (maxSteps:=10000000) (disch:=omega) only[xI (show (n:Int)<(a.length:Int) by omega),cT,cF,xo hn,Option.bind_some,hx',Ac,bne_self_eq_false,beq_self_eq_true,Bool.not_true,xj (show n<9223372036854775807 by omega)])
  (λk ls=>by unfold gK;rw[xu (by omega),cF])
  (λk a=>by unfold i0;rw[xu (by omega),cF]) h0 (by omega)
 refine⟨l',k',?_,h2,h3,by omega,?_⟩
 · unfold dQ;rw[h1];rfl
 · unfold fF;rw[h5];rfl
set_option maxHeartbeats 8000000 in
theorem Ls {l:List Int} (hl:l.length<=1100000) {k:Int} (h0:0<=k) (hk:k+1100001<=9000000000000000000):∃l' k',ca l k=some (l',k')/\l'.length=l.length/\k<=k'/\k'<=k+1100001/\cI l' k=some k':=by
 obtain⟨l',k',h1,h2,h3,h4,h5⟩:=BK (l:=l) (M:=gL) (H:=ia) (B:=8999999999999999999) (c:=1) (by omega)
  (λx hx k h0 hk=>by
   refine⟨k,k+1,by omega,by omega,λn ls hn hle hx'=>?_,λn a hn hle hx'=>?_⟩
   · unfold gL;simp (maxSteps:=10000000) (disch:=omega) only[xI (show (n:Int)<(ls.length:Int) by omega),cT,yE hn,length_set,Option.bind_some,List.getElem?_eq_getElem hn,A1,set_set,hx',Ac,xj (show n<9223372036854775807 by omega)]
   · unfold ia;simp (maxSteps:=10000000) (disch:=omega) only[xI (show (n:Int)<(a.length:Int) by omega),cT,cF,xo hn,Option.bind_some,hx',Ac,bne_self_eq_false,beq_self_eq_true,Bool.not_true,xj (show n<9223372036854775807 by omega)])
  (λk ls=>by unfold gL;rw[xu (by omega),cF])
  (λk a=>by unfold ia;rw[xu (by omega),cF]) h0 (by omega)
 refine⟨l',k',?_,h2,h3,by omega,?_⟩
 · unfold ca;rw[h1];rfl
 · unfold cI;rw[h5];rfl
set_option maxHeartbeats 8000000 in
theorem Jo {l:List Int} (hl:l.length<=1100000) {k:Int} (h0:0<=k) (hk:k+1100001<=9000000000000000000):∃l' k',cc l k=some (l',k')/\l'.length=l.length/\k<=k'/\k'<=k+1100001/\fG l' k=some k':=by
 obtain⟨l',k',h1,h2,h3,h4,h5⟩:=BK (l:=l) (M:=gO) (H:=ib) (B:=8999999999999999999) (c:=1) (by omega)
  (λx hx k h0 hk=>by
   refine⟨IntKind.u8.wrap (k),k+1,by omega,by omega,λn ls hn hle hx'=>?_,λn a hn hle hx'=>?_⟩
   · unfold gO;simp (maxSteps:=10000000) (disch:=omega) only[xI (show (n:Int)<(ls.length:Int) by omega),cT,yE hn,length_set,Option.bind_some,List.getElem?_eq_getElem hn,A1,set_set,hx',Ac,xj (show n<9223372036854775807 by omega)]
   · unfold ib;simp (maxSteps:=10000000) (disch:=omega) only[xI (show (n:Int)<(a.length:Int) by omega),cT,cF,xo hn,Option.bind_some,hx',Ac,bne_self_eq_false,beq_self_eq_true,Bool.not_true,xj (show n<9223372036854775807 by omega)])
  (λk ls=>by unfold gO;rw[xu (by omega),cF])
  (λk a=>by unfold ib;rw[xu (by omega),cF]) h0 (by omega)
 refine⟨l',k',?_,h2,h3,by omega,?_⟩
 · unfold cc;rw[h1];rfl
 · unfold fG;rw[h5];rfl
def M6 (x:x7):Prop:=((x.1).length<=1100000)/\((x.2.2.2.2).length<=1100000)
set_option maxHeartbeats 8000000 in
theorem PG {l:List x7} (hl:l.length<=1100000) (ho:∀x∈l,M6 x) {k:Int} (h0:0<=k) (hk:k+2420007700005<=9000000000000000000):∃l' k',dR l k=some (l',k')/\l'.length=l.length/\k<=k'/\k'<=k+2420007700005/\fH l' k=some k':=by
 obtain⟨l',k',h1,h2,h3,h4,h5⟩:=BK (l:=l) (M:=gP) (H:=ic) (B:=8999999999997799995) (c:=2200005) (by omega)
  (λx hx k h0 hk=>by
   have hx0:=ho x hx;obtain⟨y1,k1,e1,a1,b1,c1,f1⟩:=Ls (l:=x.1) (hx0.1) (k:=k) (by omega) (by omega);obtain⟨y2,t2⟩:=S6 (k:=k1+1+1) (by omega) (by omega);obtain⟨y3,k3,e3,a3,b3,c3,f3⟩:=Ls (l:=x.2.2.2.2) (hx0.2) (k:=k1+1+1+1) (by omega) (by omega);refine⟨(y1,k1,k1+1,y2,y3),k3,by omega,by omega,λn ls hn hle hx'=>?_,λn a hn hle hx'=>?_⟩
   · unfold gP;simp (maxSteps:=10000000) (disch:=omega) only[xI (show (n:Int)<(ls.length:Int) by omega),cT,yE hn,length_set,Option.bind_some,List.getElem?_eq_getElem hn,A1,set_set,hx',Ac,xj (show n<9223372036854775807 by omega),e1,t2,e3]
   · unfold ic;simp (maxSteps:=10000000) (disch:=omega) only[xI (show (n:Int)<(a.length:Int) by omega),cT,cF,xo hn,Option.bind_some,hx',Ac,bne_self_eq_false,beq_self_eq_true,Bool.not_true,xj (show n<9223372036854775807 by omega),f1,xu (show ¬k1<0 by omega),t2,f3,xu (show ¬k3<0 by omega)])
  (λk ls=>by unfold gP;rw[xu (by omega),cF])
  (λk a=>by unfold ic;rw[xu (by omega),cF]) h0 (by omega)
 refine⟨l',k',?_,h2,h3,by omega,?_⟩
 · unfold dR;rw[h1];rfl
 · unfold fH;rw[h5];rfl
def S7 (x:xH):Prop:=((x.2.1).length<=1100000)/\((x.2.2.2.2.2.2.2.1).length<=1100000/\∀y∈x.2.2.2.2.2.2.2.1,M6 y)/\((x.2.2.2.2.2.2.2.2.2.2.1).length<=1100000)/\((x.2.2.2.2.2.2.2.2.2.2.2.1).length<=1100000)/\((x.2.2.2.2.2.2.2.2.2.2.2.2.1).length<=1100000)/\((x.2.2.2.2.2.2.2.2.2.2.2.2.2.1).length<=1100000)
set_option maxHeartbeats 8000000 in
theorem W0 {l:List xH} (hl:l.length<=1100000) (ho:∀x∈l,S7 x) {k:Int} (h0:0<=k) (hk:k+2662032670069300038<=9000000000000000000):∃l' k',eZ l k=some (l',k')/\l'.length=l.length/\k<=k'/\k'<=k+2662032670069300038/\ig l' k=some k':=by
 obtain⟨l',k',h1,h2,h3,h4,h5⟩:=BK (l:=l) (M:=gQ) (H:=ie) (B:=8999997579972499962) (c:=2420027500038) (by omega)
  (λx hx k h0 hk=>by
   have hx0:=ho x hx;obtain⟨y1,k1,e1,a1,b1,c1,f1⟩:=Jo (l:=x.2.1) (hx0.1) (k:=k+1) (by omega) (by omega);obtain⟨y2,k2,e2,a2,b2,c2,f2⟩:=PG (l:=x.2.2.2.2.2.2.2.1) (hx0.2.1.1) (hx0.2.1.2) (k:=k1+1+1+1+1+1) (by omega) (by omega);obtain⟨y3,t3⟩:=S6 (k:=k2+1) (by omega) (by omega);obtain⟨y4,k4,e4,a4,b4,c4,f4⟩:=U0 (l:=x.2.2.2.2.2.2.2.2.2.2.1) (hx0.2.2.1) (k:=k2+1+1) (by omega) (by omega);obtain⟨y5,k5,e5,a5,b5,c5,f5⟩:=PE (l:=x.2.2.2.2.2.2.2.2.2.2.2.1) (hx0.2.2.2.1) (k:=k4) (by omega) (by omega);obtain⟨y6,k6,e6,a6,b6,c6,f6⟩:=PF (l:=x.2.2.2.2.2.2.2.2.2.2.2.2.1) (hx0.2.2.2.2.1) (k:=k5) (by omega) (by omega);obtain⟨y7,k7,e7,a7,b7,c7,f7⟩:=Ls (l:=x.2.2.2.2.2.2.2.2.2.2.2.2.2.1) (hx0.2.2.2.2.2) (k:=k6) (by omega) (by omega);refine⟨(k,y1,k1,k1+1,k1+1+1,k1+1+1+1,k1+1+1+1+1,y2,k2,y3,y4,y5,y6,y7,k7,k7+1,k7+1+1,k7+1+1+1,k7+1+1+1+1,k7+1+1+1+1+1,k7+1+1+1+1+1+1),k7+1+1+1+1+1+1+1,by omega,by omega,λn ls hn hle hx'=>?_,λn a hn hle hx'=>?_⟩
   · unfold gQ;simp (maxSteps:=10000000) (disch:=omega) only[xI (show (n:Int)<(ls.length:Int) by omega),cT,yE hn,length_set,Option.bind_some,List.getElem?_eq_getElem hn,A1,set_set,hx',Ac,xj (show n<9223372036854775807 by omega),e1,e2,t3,e4,e5,e6,e7]
   · unfold ie;simp (maxSteps:=10000000) (disch:=omega) only[xI (show (n:Int)<(a.length:Int) by omega),cT,cF,xo hn,Option.bind_some,hx',Ac,bne_self_eq_false,beq_self_eq_true,Bool.not_true,xj (show n<9223372036854775807 by omega),f1,xu (show ¬k1<0 by omega),f2,xu (show ¬k2<0 by omega),t3,f4,xu (show ¬k4<0 by omega),f5,xu (show ¬k5<0 by omega),f6,xu (show ¬k6<0 by omega),f7,xu (show ¬k7<0 by omega)])
  (λk ls=>by unfold gQ;rw[xu (by omega),cF])
  (λk a=>by unfold ie;rw[xu (by omega),cF]) h0 (by omega)
 refine⟨l',k',?_,h2,h3,by omega,?_⟩
 · unfold eZ;rw[h1];rfl
 · unfold ig;rw[h5];rfl
def PH (x:xk):Prop:=((x.2.2.1).length<=1100000)/\((x.2.2.2.1).length<=1100000)/\((x.2.2.2.2.1).length<=1100000)/\((x.2.2.2.2.2.1).length<=1100000)/\((x.2.2.2.2.2.2.2.2.2.2.2.2.1).length<=1100000/\∀y∈x.2.2.2.2.2.2.2.2.2.2.2.2.1,S7 y)
theorem PI {x:xk} (hx0:PH x) {k:Int} (h0:0<=k) (hk:k+2662032670088000055<=9000000000000000000):∃x' k',dU x k=some (x',k')/\k<=k'/\k'<=k+2662032670088000055/\fg (x.1,x.2.1,x'.2.2.1,x'.2.2.2.1,x'.2.2.2.2.1,x'.2.2.2.2.2.1,x.2.2.2.2.2.2.1,x.2.2.2.2.2.2.2.1,x.2.2.2.2.2.2.2.2.1,x.2.2.2.2.2.2.2.2.2.1,x.2.2.2.2.2.2.2.2.2.2.1,x.2.2.2.2.2.2.2.2.2.2.2.1,x'.2.2.2.2.2.2.2.2.2.2.2.2.1,x.2.2.2.2.2.2.2.2.2.2.2.2.2.1,x.2.2.2.2.2.2.2.2.2.2.2.2.2.2) k=some k':=by
 obtain⟨y1,k1,e1,a1,b1,c1,f1⟩:=U0 (l:=x.2.2.1) (hx0.1) (k:=k) (by omega) (by omega);obtain⟨y2,k2,e2,a2,b2,c2,f2⟩:=PE (l:=x.2.2.2.1) (hx0.2.1) (k:=k1) (by omega) (by omega);obtain⟨y3,k3,e3,a3,b3,c3,f3⟩:=PF (l:=x.2.2.2.2.1) (hx0.2.2.1) (k:=k2) (by omega) (by omega);obtain⟨y4,k4,e4,a4,b4,c4,f4⟩:=Ls (l:=x.2.2.2.2.2.1) (hx0.2.2.2.1) (k:=k3) (by omega) (by omega);obtain⟨y5,k5,e5,a5,b5,c5,f5⟩:=W0 (l:=x.2.2.2.2.2.2.2.2.2.2.2.2.1) (hx0.2.2.2.2.1) (hx0.2.2.2.2.2) (k:=k4) (by omega) (by omega);refine⟨(x.1,x.2.1,y1,y2,y3,y4,x.2.2.2.2.2.2.1,x.2.2.2.2.2.2.2.1,x.2.2.2.2.2.2.2.2.1,x.2.2.2.2.2.2.2.2.2.1,x.2.2.2.2.2.2.2.2.2.2.1,x.2.2.2.2.2.2.2.2.2.2.2.1,y5,x.2.2.2.2.2.2.2.2.2.2.2.2.2.1,x.2.2.2.2.2.2.2.2.2.2.2.2.2.2),k5,?_,by omega,by omega,?_⟩
 · simp only[dU,gM,gN,Option.bind_some,e1,e2,e3,e4,e5]
 · simp only[fg,jG,jH,Option.bind_some,cF,f1,xu (show ¬k1<0 by omega),f2,xu (show ¬k2<0 by omega),f3,xu (show ¬k3<0 by omega),f4,xu (show ¬k4<0 by omega),f5,xu (show ¬k5<0 by omega)]
def PJ (x:xX):Prop:=((x.2.2.2.2.2).length<=1100000/\∀y∈x.2.2.2.2.2,M6 y)
set_option maxHeartbeats 8000000 in
theorem UK {l:List xX} (hl:l.length<=1100000) (ho:∀x∈l,PJ x) {k:Int} (h0:0<=k) (hk:k+2662010890018700010<=9000000000000000000):∃l' k',f9 l k=some (l',k')/\l'.length=l.length/\k<=k'/\k'<=k+2662010890018700010/\fi l' k=some k':=by
 obtain⟨l',k',h1,h2,h3,h4,h5⟩:=BK (l:=l) (M:=gR) (H:=ii) (B:=8999997579992299990) (c:=2420007700010) (by omega)
  (λx hx k h0 hk=>by
   have hx0:=ho x hx;obtain⟨y1,k1,e1,a1,b1,c1,f1⟩:=PG (l:=x.2.2.2.2.2) (hx0.1) (hx0.2) (k:=k+1+1+1+1+1) (by omega) (by omega);refine⟨(k,k+1,k+1+1,k+1+1+1,k+1+1+1+1,y1),k1,by omega,by omega,λn ls hn hle hx'=>?_,λn a hn hle hx'=>?_⟩
   · unfold gR;simp (maxSteps:=10000000) (disch:=omega) only[xI (show (n:Int)<(ls.length:Int) by omega),cT,yE hn,length_set,Option.bind_some,List.getElem?_eq_getElem hn,A1,set_set,hx',Ac,xj (show n<9223372036854775807 by omega),e1]
   · unfold ii;simp (maxSteps:=10000000) (disch:=omega) only[xI (show (n:Int)<(a.length:Int) by omega),cT,cF,xo hn,Option.bind_some,hx',Ac,bne_self_eq_false,beq_self_eq_true,Bool.not_true,xj (show n<9223372036854775807 by omega),f1,xu (show ¬k1<0 by omega)])
  (λk ls=>by unfold gR;rw[xu (by omega),cF])
  (λk a=>by unfold ii;rw[xu (by omega),cF]) h0 (by omega)
 refine⟨l',k',?_,h2,h3,by omega,?_⟩
 · unfold f9;rw[h1];rfl
 · unfold fi;rw[h5];rfl
def W1 (x:xC):Prop:=((x.2.2.2.2).length<=1100000)
set_option maxHeartbeats 8000000 in
theorem W2 {l:List xC} (hl:l.length<=1100000) (ho:∀x∈l,W1 x) {k:Int} (h0:0<=k) (hk:k+1210006600005<=9000000000000000000):∃l' k',fa l k=some (l',k')/\l'.length=l.length/\k<=k'/\k'<=k+1210006600005/\fh l' k=some k':=by
 obtain⟨l',k',h1,h2,h3,h4,h5⟩:=BK (l:=l) (M:=gS) (H:=ij) (B:=8999999999998899995) (c:=1100005) (by omega)
  (λx hx k h0 hk=>by
   have hx0:=ho x hx;obtain⟨y1,k1,e1,a1,b1,c1,f1⟩:=Jo (l:=x.2.2.2.2) (hx0) (k:=k+1+1+1+1) (by omega) (by omega);refine⟨(k,k+1,k+1+1,k+1+1+1,y1),k1,by omega,by omega,λn ls hn hle hx'=>?_,λn a hn hle hx'=>?_⟩
   · unfold gS;simp (maxSteps:=10000000) (disch:=omega) only[xI (show (n:Int)<(ls.length:Int) by omega),cT,yE hn,length_set,Option.bind_some,List.getElem?_eq_getElem hn,A1,set_set,hx',Ac,xj (show n<9223372036854775807 by omega),e1]
   · unfold ij;simp (maxSteps:=10000000) (disch:=omega) only[xI (show (n:Int)<(a.length:Int) by omega),cT,cF,xo hn,Option.bind_some,hx',Ac,bne_self_eq_false,beq_self_eq_true,Bool.not_true,xj (show n<9223372036854775807 by omega),f1,xu (show ¬k1<0 by omega)])
  (λk ls=>by unfold gS;rw[xu (by omega),cF])
  (λk a=>by unfold ij;rw[xu (by omega),cF]) h0 (by omega)
 refine⟨l',k',?_,h2,h3,by omega,?_⟩
 · unfold fa;rw[h1];rfl
 · unfold fh;rw[h5];rfl
def W3 (x:Act):Prop:=((x.2.2.2.1).length<=1100000)/\((x.2.2.2.2.2.2.2.1).length<=1100000)
set_option maxHeartbeats 8000000 in
theorem W4 {l:List Act} (hl:l.length<=1100000) (ho:∀x∈l,W3 x) {k:Int} (h0:0<=k) (hk:k+2420016500013<=9000000000000000000):∃l' k',fb l k=some (l',k')/\l'.length=l.length/\k<=k'/\k'<=k+2420016500013/\True:=by
 obtain⟨l',k',h1,h2,h3,h4⟩:=RV (l:=l) (M:=gT) (B:=8999999999997799987) (c:=2200013) (by omega)
  (λx hx k h0 hk=>by
   have hx0:=ho x hx;obtain⟨y1,k1,e1,a1,b1,c1,f1⟩:=Jo (l:=x.2.2.2.1) (hx0.1) (k:=k+1+1+1) (by omega) (by omega);obtain⟨y2,k2,e2,a2,b2,c2,f2⟩:=Jo (l:=x.2.2.2.2.2.2.2.1) (hx0.2) (k:=k1+1+1+1) (by omega) (by omega);refine⟨(k,k+1,((k+1+1).tmod 3)==0,y1,k1,k1+1,k1+1+1,y2,k2,k2+1,k2+1+1,k2+1+1+1,k2+1+1+1+1),k2+1+1+1+1+1,by omega,by omega,λn ls hn hle hx'=>?_⟩
   · unfold gT;simp (maxSteps:=10000000) (disch:=omega) only[xI (show (n:Int)<(ls.length:Int) by omega),cT,yE hn,length_set,Option.bind_some,List.getElem?_eq_getElem hn,A1,set_set,hx',Ac,xj (show n<9223372036854775807 by omega),e1,e2])
  (λk ls=>by unfold gT;rw[xu (by omega),cF])
  h0 (by omega)
 refine⟨l',k',?_,h2,h3,by omega,?_⟩
 · unfold fb;rw[h1];rfl
 · trivial
end Go.V.W

