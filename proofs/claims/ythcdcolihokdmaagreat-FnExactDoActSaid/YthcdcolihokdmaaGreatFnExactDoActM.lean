/- The law FnExactDoAct: part of the proof that for every input it returns true. No condition. -/
import Derived.Test.YthcdcolihokdmaaGreatFnExactDoAct
import Derived.Test.YthcdcolihokdmaaGreatV4
open List (length_set set_set)
set_option linter.unusedVariables false
set_option linter.unusedSimpArgs false
namespace Go.V.W
theorem Pb {b:Int} {s:List UInt8}:(xU [b]++s).length=s.length+1:=by simp[xU]
theorem Pc:∀(f:Nat) (k:Int) (s:List UInt8),0<=k->k<2^f->f<=64->s.length+f<=100->∃d,zJ (λz:Int×List UInt8=>gX z.1 z.2) (f+1) (k,s)=some d/\d.length<=s.length+f
 | 0,k,s,h0,h1,hf,hs=>by
  rw[xR];unfold gX;rw[show decide (k>0)=false from dF (by simp at h1;omega),cF];exact⟨s,rfl,by simp⟩
 | f+1,k,s,h0,h1,hf,hs=>by
  rw[xR];unfold gX;by_cases hk:k>0
  · have hp:(2:Int)^(f+1)=2*2^f:=by rw[Int.pow_succ];omega
    have hq:(2:Int)^(f+1)<=2^64:=by
     have:=Nat.pow_le_pow_right (n:=2) (by omega) hf;have h2:((2^(f+1):Nat):Int)<=((2^64:Nat):Int):=Int.ofNat_le.2 this
     simpa using h2
    have hd:k.tdiv 10=k/10:=Int.tdiv_eq_ediv_of_nonneg h0;have hlt:k/10<2^f:=by omega
    have hw:wE (k/10)=k/10\/True:=.inr trivial;have hc:MN (xU [IntKind.u8.wrap (wE (48+k.tmod 10))]) s=some (xU [IntKind.u8.wrap (wE (48+k.tmod 10))]++s):=by
     unfold MN;rw[if_pos];simp[xU,Gn];omega
    rw[dT hk,cT,hc,Option.bind_some,hd];have hw2:wE (k/10)=k/10:=zZ (by omega) (by
     have:(2:Int)^64=18446744073709551616:=by decide
     omega)
    rw[hw2];obtain⟨d,h2,h3⟩:=Pc f (k/10) (xU [IntKind.u8.wrap (wE (48+k.tmod 10))]++s) (by omega) hlt (by omega) (by rw[Pb];omega);exact⟨d,h2,by rw[Pb]at h3;omega⟩
  · rw[dF hk,cF];exact⟨s,rfl,by omega⟩
theorem RE {k:Int} (h0:0<=k) (hk:k<=9000000000000000000):∃s,cG k=some s:=by
 unfold cG;by_cases h:k<=0
 · rw[dT h];exact⟨_,rfl⟩
 · rw[dF h,cF];obtain⟨d, h1, h2⟩ := Pc 64 k [] h0 (by
    have : (2 : Int)^64=18446744073709551616 := by decide
    omega) (by omega) (by simp)
   rw[AA h1,Option.bind_some];unfold MN;rw[if_pos]
   · exact⟨_,rfl⟩
   · simp[Gn]at h2 ⊢;omega
set_option maxHeartbeats 8000000 in
theorem Tz {l:List Pt} (hl:l.length<=1100000) {k:Int} (h0:0<=k) (hk:k+8800008<=9000000000000000000):∃l' k',dP l k=some (l',k')/\l'.length=l.length/\k<=k'/\k'<=k+8800008/\fD l' k=some k':=by
 obtain⟨l',k',h1,h2,h3,h4,h5⟩:=Bn (l:=l) (M:=gG) (H:=gY) (B:=8999999999999999992) (c:=8) (by omega)
  (λx hx k h0 hk=>by
   refine⟨(((k).tmod 3)==0,k+1,((k+1+1).tmod 3)==0,k+1+1+1,k+1+1+1+1,k+1+1+1+1+1,k+1+1+1+1+1+1,k+1+1+1+1+1+1+1),k+1+1+1+1+1+1+1+1,by omega,by omega,λn ls hn hle hx'=>?_,λn a hn hle hx'=>?_⟩
   · unfold gG;simp (maxSteps:=10000000) (disch:=omega) only[xk (show (n:Int)<(ls.length:Int) by omega),cT,ym hn,length_set,Option.bind_some,List.getElem?_eq_getElem hn,A0,set_set,hx',zZ,wQ (show n<9223372036854775807 by omega)]
   · unfold gY;simp (maxSteps:=10000000) (disch:=omega) only[xk (show (n:Int)<(a.length:Int) by omega),cT,cF,wU hn,Option.bind_some,hx',zZ,bne_self_eq_false,beq_self_eq_true,Bool.not_true,wQ (show n<9223372036854775807 by omega)])
  (λk ls=>by unfold gG;rw[x7 (by omega),cF])
  (λk a=>by unfold gY;rw[x7 (by omega),cF]) h0 (by omega)
 refine⟨l',k',?_,h2,h3,by omega,?_⟩
 · unfold dP;rw[h1];rfl
 · unfold fD;rw[h5];rfl
set_option maxHeartbeats 8000000 in
theorem Pd {l:List wJ} (hl:l.length<=1100000) {k:Int} (h0:0<=k) (hk:k+5500005<=9000000000000000000):∃l' k',dQ l k=some (l',k')/\l'.length=l.length/\k<=k'/\k'<=k+5500005/\fE l' k=some k':=by
 obtain⟨l',k',h1,h2,h3,h4,h5⟩:=Bn (l:=l) (M:=gH) (H:=gZ) (B:=8999999999999999995) (c:=5) (by omega)
  (λx hx k h0 hk=>by
   refine⟨(k,k+1,k+1+1,k+1+1+1,((k+1+1+1+1).tmod 3)==0),k+1+1+1+1+1,by omega,by omega,λn ls hn hle hx'=>?_,λn a hn hle hx'=>?_⟩
   · unfold gH;simp (maxSteps:=10000000) (disch:=omega) only[xk (show (n:Int)<(ls.length:Int) by omega),cT,ym hn,length_set,Option.bind_some,List.getElem?_eq_getElem hn,A0,set_set,hx',zZ,wQ (show n<9223372036854775807 by omega)]
   · unfold gZ;simp (maxSteps:=10000000) (disch:=omega) only[xk (show (n:Int)<(a.length:Int) by omega),cT,cF,wU hn,Option.bind_some,hx',zZ,bne_self_eq_false,beq_self_eq_true,Bool.not_true,wQ (show n<9223372036854775807 by omega)])
  (λk ls=>by unfold gH;rw[x7 (by omega),cF])
  (λk a=>by unfold gZ;rw[x7 (by omega),cF]) h0 (by omega)
 refine⟨l',k',?_,h2,h3,by omega,?_⟩
 · unfold dQ;rw[h1];rfl
 · unfold fE;rw[h5];rfl
set_option maxHeartbeats 8000000 in
theorem Pe {l:List wY} (hl:l.length<=1100000) {k:Int} (h0:0<=k) (hk:k+3300003<=9000000000000000000):∃l' k',dR l k=some (l',k')/\l'.length=l.length/\k<=k'/\k'<=k+3300003/\fF l' k=some k':=by
 obtain⟨l',k',h1,h2,h3,h4,h5⟩:=Bn (l:=l) (M:=gI) (H:=hC) (B:=8999999999999999997) (c:=3) (by omega)
  (λx hx k h0 hk=>by
   refine⟨(k,k+1,k+1+1),k+1+1+1,by omega,by omega,λn ls hn hle hx'=>?_,λn a hn hle hx'=>?_⟩
   · unfold gI;simp (maxSteps:=10000000) (disch:=omega) only[xk (show (n:Int)<(ls.length:Int) by omega),cT,ym hn,length_set,Option.bind_some,List.getElem?_eq_getElem hn,A0,set_set,hx',zZ,wQ (show n<9223372036854775807 by omega)]
   · unfold hC;simp (maxSteps:=10000000) (disch:=omega) only[xk (show (n:Int)<(a.length:Int) by omega),cT,cF,wU hn,Option.bind_some,hx',zZ,bne_self_eq_false,beq_self_eq_true,Bool.not_true,wQ (show n<9223372036854775807 by omega)])
  (λk ls=>by unfold gI;rw[x7 (by omega),cF])
  (λk a=>by unfold hC;rw[x7 (by omega),cF]) h0 (by omega)
 refine⟨l',k',?_,h2,h3,by omega,?_⟩
 · unfold dR;rw[h1];rfl
 · unfold fF;rw[h5];rfl
set_option maxHeartbeats 8000000 in
theorem KN {l:List Int} (hl:l.length<=1100000) {k:Int} (h0:0<=k) (hk:k+1100001<=9000000000000000000):∃l' k',ca l k=some (l',k')/\l'.length=l.length/\k<=k'/\k'<=k+1100001/\cK l' k=some k':=by
 obtain⟨l',k',h1,h2,h3,h4,h5⟩:=Bn (l:=l) (M:=gJ) (H:=hN) (B:=8999999999999999999) (c:=1) (by omega)
  (λx hx k h0 hk=>by
   refine⟨k,k+1,by omega,by omega,λn ls hn hle hx'=>?_,λn a hn hle hx'=>?_⟩
   · unfold gJ;simp (maxSteps:=10000000) (disch:=omega) only[xk (show (n:Int)<(ls.length:Int) by omega),cT,ym hn,length_set,Option.bind_some,List.getElem?_eq_getElem hn,A0,set_set,hx',zZ,wQ (show n<9223372036854775807 by omega)]
   · unfold hN;simp (maxSteps:=10000000) (disch:=omega) only[xk (show (n:Int)<(a.length:Int) by omega),cT,cF,wU hn,Option.bind_some,hx',zZ,bne_self_eq_false,beq_self_eq_true,Bool.not_true,wQ (show n<9223372036854775807 by omega)])
  (λk ls=>by unfold gJ;rw[x7 (by omega),cF])
  (λk a=>by unfold hN;rw[x7 (by omega),cF]) h0 (by omega)
 refine⟨l',k',?_,h2,h3,by omega,?_⟩
 · unfold ca;rw[h1];rfl
 · unfold cK;rw[h5];rfl
set_option maxHeartbeats 8000000 in
theorem IY {l:List Int} (hl:l.length<=1100000) {k:Int} (h0:0<=k) (hk:k+1100001<=9000000000000000000):∃l' k',cc l k=some (l',k')/\l'.length=l.length/\k<=k'/\k'<=k+1100001/\eY l' k=some k':=by
 obtain⟨l',k',h1,h2,h3,h4,h5⟩:=Bn (l:=l) (M:=gK) (H:=hU) (B:=8999999999999999999) (c:=1) (by omega)
  (λx hx k h0 hk=>by
   refine⟨IntKind.u8.wrap (k),k+1,by omega,by omega,λn ls hn hle hx'=>?_,λn a hn hle hx'=>?_⟩
   · unfold gK;simp (maxSteps:=10000000) (disch:=omega) only[xk (show (n:Int)<(ls.length:Int) by omega),cT,ym hn,length_set,Option.bind_some,List.getElem?_eq_getElem hn,A0,set_set,hx',zZ,wQ (show n<9223372036854775807 by omega)]
   · unfold hU;simp (maxSteps:=10000000) (disch:=omega) only[xk (show (n:Int)<(a.length:Int) by omega),cT,cF,wU hn,Option.bind_some,hx',zZ,bne_self_eq_false,beq_self_eq_true,Bool.not_true,wQ (show n<9223372036854775807 by omega)])
  (λk ls=>by unfold gK;rw[x7 (by omega),cF])
  (λk a=>by unfold hU;rw[x7 (by omega),cF]) h0 (by omega)
 refine⟨l',k',?_,h2,h3,by omega,?_⟩
 · unfold cc;rw[h1];rfl
 · unfold eY;rw[h5];rfl
def LA (x:wF):Prop:=((x.1).length<=1100000)/\((x.2.2.2.2).length<=1100000)
set_option maxHeartbeats 8000000 in
theorem Pf {l:List wF} (hl:l.length<=1100000) (ho:∀x∈l,LA x) {k:Int} (h0:0<=k) (hk:k+2420007700005<=9000000000000000000):∃l' k',dU l k=some (l',k')/\l'.length=l.length/\k<=k'/\k'<=k+2420007700005/\fG l' k=some k':=by
 obtain⟨l',k',h1,h2,h3,h4,h5⟩:=Bn (l:=l) (M:=gL) (H:=hZ) (B:=8999999999997799995) (c:=2200005) (by omega)
  (λx hx k h0 hk=>by
   have hx0:=ho x hx;obtain⟨y1,k1,e1,a1,b1,c1,f1⟩:=KN (l:=x.1) (hx0.1) (k:=k) (by omega) (by omega);obtain⟨y2,t2⟩:=RE (k:=k1+1+1) (by omega) (by omega);obtain⟨y3,k3,e3,a3,b3,c3,f3⟩:=KN (l:=x.2.2.2.2) (hx0.2) (k:=k1+1+1+1) (by omega) (by omega);refine⟨(y1,k1,k1+1,y2,y3),k3,by omega,by omega,λn ls hn hle hx'=>?_,λn a hn hle hx'=>?_⟩
   · unfold gL;simp (maxSteps:=10000000) (disch:=omega) only[xk (show (n:Int)<(ls.length:Int) by omega),cT,ym hn,length_set,Option.bind_some,List.getElem?_eq_getElem hn,A0,set_set,hx',zZ,wQ (show n<9223372036854775807 by omega),e1,t2,e3]
   · unfold hZ;simp (maxSteps:=10000000) (disch:=omega) only[xk (show (n:Int)<(a.length:Int) by omega),cT,cF,wU hn,Option.bind_some,hx',zZ,bne_self_eq_false,beq_self_eq_true,Bool.not_true,wQ (show n<9223372036854775807 by omega),f1,x7 (show ¬k1<0 by omega),t2,f3,x7 (show ¬k3<0 by omega)])
  (λk ls=>by unfold gL;rw[x7 (by omega),cF])
  (λk a=>by unfold hZ;rw[x7 (by omega),cF]) h0 (by omega)
 refine⟨l',k',?_,h2,h3,by omega,?_⟩
 · unfold dU;rw[h1];rfl
 · unfold fG;rw[h5];rfl
def RF (x:xl):Prop:=((x.2.1).length<=1100000)/\((x.2.2.2.2.2.2.2.1).length<=1100000/\∀y∈x.2.2.2.2.2.2.2.1,LA y)/\((x.2.2.2.2.2.2.2.2.2.2.1).length<=1100000)/\((x.2.2.2.2.2.2.2.2.2.2.2.1).length<=1100000)/\((x.2.2.2.2.2.2.2.2.2.2.2.2.1).length<=1100000)/\((x.2.2.2.2.2.2.2.2.2.2.2.2.2.1).length<=1100000)
set_option maxHeartbeats 8000000 in
theorem Vx {l:List xl} (hl:l.length<=1100000) (ho:∀x∈l,RF x) {k:Int} (h0:0<=k) (hk:k+2662032670069300038<=9000000000000000000):∃l' k',fa l k=some (l',k')/\l'.length=l.length/\k<=k'/\k'<=k+2662032670069300038/\ia l' k=some k':=by
 obtain⟨l',k',h1,h2,h3,h4,h5⟩:=Bn (l:=l) (M:=gM) (H:=i0) (B:=8999997579972499962) (c:=2420027500038) (by omega)
  (λx hx k h0 hk=>by
   have hx0:=ho x hx;obtain⟨y1,k1,e1,a1,b1,c1,f1⟩:=IY (l:=x.2.1) (hx0.1) (k:=k+1) (by omega) (by omega);obtain⟨y2,k2,e2,a2,b2,c2,f2⟩:=Pf (l:=x.2.2.2.2.2.2.2.1) (hx0.2.1.1) (hx0.2.1.2) (k:=k1+1+1+1+1+1) (by omega) (by omega);obtain⟨y3,t3⟩:=RE (k:=k2+1) (by omega) (by omega);obtain⟨y4,k4,e4,a4,b4,c4,f4⟩:=Tz (l:=x.2.2.2.2.2.2.2.2.2.2.1) (hx0.2.2.1) (k:=k2+1+1) (by omega) (by omega);obtain⟨y5,k5,e5,a5,b5,c5,f5⟩:=Pd (l:=x.2.2.2.2.2.2.2.2.2.2.2.1) (hx0.2.2.2.1) (k:=k4) (by omega) (by omega);obtain⟨y6,k6,e6,a6,b6,c6,f6⟩:=Pe (l:=x.2.2.2.2.2.2.2.2.2.2.2.2.1) (hx0.2.2.2.2.1) (k:=k5) (by omega) (by omega);obtain⟨y7,k7,e7,a7,b7,c7,f7⟩:=KN (l:=x.2.2.2.2.2.2.2.2.2.2.2.2.2.1) (hx0.2.2.2.2.2) (k:=k6) (by omega) (by omega);refine⟨(k,y1,k1,k1+1,k1+1+1,k1+1+1+1,k1+1+1+1+1,y2,k2,y3,y4,y5,y6,y7,k7,k7+1,k7+1+1,k7+1+1+1,k7+1+1+1+1,k7+1+1+1+1+1,k7+1+1+1+1+1+1),k7+1+1+1+1+1+1+1,by omega,by omega,λn ls hn hle hx'=>?_,λn a hn hle hx'=>?_⟩
   · unfold gM;simp (maxSteps:=10000000) (disch:=omega) only[xk (show (n:Int)<(ls.length:Int) by omega),cT,ym hn,length_set,Option.bind_some,List.getElem?_eq_getElem hn,A0,set_set,hx',zZ,wQ (show n<9223372036854775807 by omega),e1,e2,t3,e4,e5,e6,e7]
   · unfold i0;simp (maxSteps:=10000000) (disch:=omega) only[xk (show (n:Int)<(a.length:Int) by omega),cT,cF,wU hn,Option.bind_some,hx',zZ,bne_self_eq_false,beq_self_eq_true,Bool.not_true,wQ (show n<9223372036854775807 by omega),f1,x7 (show ¬k1<0 by omega),f2,x7 (show ¬k2<0 by omega),t3,f4,x7 (show ¬k4<0 by omega),f5,x7 (show ¬k5<0 by omega),f6,x7 (show ¬k6<0 by omega),f7,x7 (show ¬k7<0 by omega)])
  (λk ls=>by unfold gM;rw[x7 (by omega),cF])
  (λk a=>by unfold i0;rw[x7 (by omega),cF]) h0 (by omega)
 refine⟨l',k',?_,h2,h3,by omega,?_⟩
 · unfold fa;rw[h1];rfl
 · unfold ia;rw[h5];rfl
def Pg (x:wW):Prop:=((x.2.2.1).length<=1100000)/\((x.2.2.2.1).length<=1100000)/\((x.2.2.2.2.1).length<=1100000)/\((x.2.2.2.2.2.1).length<=1100000)/\((x.2.2.2.2.2.2.2.2.2.2.2.2.1).length<=1100000/\∀y∈x.2.2.2.2.2.2.2.2.2.2.2.2.1,RF y)
theorem Ph {x:wW} (hx0:Pg x) {k:Int} (h0:0<=k) (hk:k+2662032670088000055<=9000000000000000000):∃x' k',cH x k=some (x',k')/\k<=k'/\k'<=k+2662032670088000055/\fh (x.1,x.2.1,x'.2.2.1,x'.2.2.2.1,x'.2.2.2.2.1,x'.2.2.2.2.2.1,x.2.2.2.2.2.2.1,x.2.2.2.2.2.2.2.1,x.2.2.2.2.2.2.2.2.1,x.2.2.2.2.2.2.2.2.2.1,x.2.2.2.2.2.2.2.2.2.2.1,x.2.2.2.2.2.2.2.2.2.2.2.1,x'.2.2.2.2.2.2.2.2.2.2.2.2.1,x.2.2.2.2.2.2.2.2.2.2.2.2.2.1,x.2.2.2.2.2.2.2.2.2.2.2.2.2.2) k=some k':=by
 obtain⟨y1,k1,e1,a1,b1,c1,f1⟩:=Tz (l:=x.2.2.1) (hx0.1) (k:=k) (by omega) (by omega);obtain⟨y2,k2,e2,a2,b2,c2,f2⟩:=Pd (l:=x.2.2.2.1) (hx0.2.1) (k:=k1) (by omega) (by omega);obtain⟨y3,k3,e3,a3,b3,c3,f3⟩:=Pe (l:=x.2.2.2.2.1) (hx0.2.2.1) (k:=k2) (by omega) (by omega);obtain⟨y4,k4,e4,a4,b4,c4,f4⟩:=KN (l:=x.2.2.2.2.2.1) (hx0.2.2.2.1) (k:=k3) (by omega) (by omega);obtain⟨y5,k5,e5,a5,b5,c5,f5⟩:=Vx (l:=x.2.2.2.2.2.2.2.2.2.2.2.2.1) (hx0.2.2.2.2.1) (hx0.2.2.2.2.2) (k:=k4) (by omega) (by omega);refine⟨(x.1,x.2.1,y1,y2,y3,y4,x.2.2.2.2.2.2.1,x.2.2.2.2.2.2.2.1,x.2.2.2.2.2.2.2.2.1,x.2.2.2.2.2.2.2.2.2.1,x.2.2.2.2.2.2.2.2.2.2.1,x.2.2.2.2.2.2.2.2.2.2.2.1,y5,x.2.2.2.2.2.2.2.2.2.2.2.2.2.1,x.2.2.2.2.2.2.2.2.2.2.2.2.2.2),k5,?_,by omega,by omega,?_⟩
 · simp only[cH,f8,f9,Option.bind_some,e1,e2,e3,e4,e5]
 · simp only[fh,jx,jy,Option.bind_some,cF,f1,x7 (show ¬k1<0 by omega),f2,x7 (show ¬k2<0 by omega),f3,x7 (show ¬k3<0 by omega),f4,x7 (show ¬k4<0 by omega),f5,x7 (show ¬k5<0 by omega)]
def Pi (x:xZ):Prop:=((x.2.2.2.2.2).length<=1100000/\∀y∈x.2.2.2.2.2,LA y)
set_option maxHeartbeats 8000000 in
theorem Uj {l:List xZ} (hl:l.length<=1100000) (ho:∀x∈l,Pi x) {k:Int} (h0:0<=k) (hk:k+2662010890018700010<=9000000000000000000):∃l' k',fb l k=some (l',k')/\l'.length=l.length/\k<=k'/\k'<=k+2662010890018700010/\fi l' k=some k':=by
 obtain⟨l',k',h1,h2,h3,h4,h5⟩:=Bn (l:=l) (M:=gN) (H:=ib) (B:=8999997579992299990) (c:=2420007700010) (by omega)
  (λx hx k h0 hk=>by
   have hx0:=ho x hx;obtain⟨y1,k1,e1,a1,b1,c1,f1⟩:=Pf (l:=x.2.2.2.2.2) (hx0.1) (hx0.2) (k:=k+1+1+1+1+1) (by omega) (by omega);refine⟨(k,k+1,k+1+1,k+1+1+1,k+1+1+1+1,y1),k1,by omega,by omega,λn ls hn hle hx'=>?_,λn a hn hle hx'=>?_⟩
   · unfold gN;simp (maxSteps:=10000000) (disch:=omega) only[xk (show (n:Int)<(ls.length:Int) by omega),cT,ym hn,length_set,Option.bind_some,List.getElem?_eq_getElem hn,A0,set_set,hx',zZ,wQ (show n<9223372036854775807 by omega),e1]
   · unfold ib;simp (maxSteps:=10000000) (disch:=omega) only[xk (show (n:Int)<(a.length:Int) by omega),cT,cF,wU hn,Option.bind_some,hx',zZ,bne_self_eq_false,beq_self_eq_true,Bool.not_true,wQ (show n<9223372036854775807 by omega),f1,x7 (show ¬k1<0 by omega)])
  (λk ls=>by unfold gN;rw[x7 (by omega),cF])
  (λk a=>by unfold ib;rw[x7 (by omega),cF]) h0 (by omega)
 refine⟨l',k',?_,h2,h3,by omega,?_⟩
 · unfold fb;rw[h1];rfl
 · unfold fi;rw[h5];rfl
def X1 (x:Act):Prop:=((x.2.2.2.1).length<=1100000)/\((x.2.2.2.2.2.2.2.1).length<=1100000)
theorem X2 {x:Act} (hx0:X1 x) {k:Int} (h0:0<=k) (hk:k+2200002<=9000000000000000000):∃x' k',fe x k=some (x',k')/\k<=k'/\k'<=k+2200002/\True:=by
 obtain⟨y1,k1,e1,a1,b1,c1,f1⟩:=IY (l:=x.2.2.2.1) (hx0.1) (k:=k) (by omega) (by omega);obtain⟨y2,k2,e2,a2,b2,c2,f2⟩:=IY (l:=x.2.2.2.2.2.2.2.1) (hx0.2) (k:=k1) (by omega) (by omega);refine⟨(x.1,x.2.1,x.2.2.1,y1,x.2.2.2.2.1,x.2.2.2.2.2.1,x.2.2.2.2.2.2.1,y2,x.2.2.2.2.2.2.2.2.1,x.2.2.2.2.2.2.2.2.2.1,x.2.2.2.2.2.2.2.2.2.2.1,x.2.2.2.2.2.2.2.2.2.2.2.1,x.2.2.2.2.2.2.2.2.2.2.2.2),k2,?_,by omega,by omega,?_⟩
 · simp only[fe,f8,f9,cH,gO,Option.bind_some,e1,e2]
 · trivial
def Vy (x:xm):Prop:=((x.2.2.2.2).length<=1100000)
set_option maxHeartbeats 8000000 in
theorem Vz {l:List xm} (hl:l.length<=1100000) (ho:∀x∈l,Vy x) {k:Int} (h0:0<=k) (hk:k+1210006600005<=9000000000000000000):∃l' k',ff l k=some (l',k')/\l'.length=l.length/\k<=k'/\k'<=k+1210006600005/\eZ l' k=some k':=by
 obtain⟨l',k',h1,h2,h3,h4,h5⟩:=Bn (l:=l) (M:=gP) (H:=gF) (B:=8999999999998899995) (c:=1100005) (by omega)
  (λx hx k h0 hk=>by
   have hx0:=ho x hx;obtain⟨y1,k1,e1,a1,b1,c1,f1⟩:=IY (l:=x.2.2.2.2) (hx0) (k:=k+1+1+1+1) (by omega) (by omega);refine⟨(k,k+1,k+1+1,k+1+1+1,y1),k1,by omega,by omega,λn ls hn hle hx'=>?_,λn a hn hle hx'=>?_⟩
   · unfold gP;simp (maxSteps:=10000000) (disch:=omega) only[xk (show (n:Int)<(ls.length:Int) by omega),cT,ym hn,length_set,Option.bind_some,List.getElem?_eq_getElem hn,A0,set_set,hx',zZ,wQ (show n<9223372036854775807 by omega),e1]
   · unfold gF;simp (maxSteps:=10000000) (disch:=omega) only[xk (show (n:Int)<(a.length:Int) by omega),cT,cF,wU hn,Option.bind_some,hx',zZ,bne_self_eq_false,beq_self_eq_true,Bool.not_true,wQ (show n<9223372036854775807 by omega),f1,x7 (show ¬k1<0 by omega)])
  (λk ls=>by unfold gP;rw[x7 (by omega),cF])
  (λk a=>by unfold gF;rw[x7 (by omega),cF]) h0 (by omega)
 refine⟨l',k',?_,h2,h3,by omega,?_⟩
 · unfold ff;rw[h1];rfl
 · unfold eZ;rw[h5];rfl
end Go.V.W

