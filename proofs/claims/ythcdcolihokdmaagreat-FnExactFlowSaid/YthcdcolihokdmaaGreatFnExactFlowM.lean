/- The law FnExactFlow: part of the proof that for every input it returns true. No condition. -/
import Derived.Test.YthcdcolihokdmaaGreatFnExactFlow
import Derived.Test.YthcdcolihokdmaaGreatV4
open List (length_set set_set)
set_option linter.unusedVariables false
set_option linter.unusedSimpArgs false
namespace Go.V.W
theorem CL {b:Int} {s:List UInt8}:(qV [b]++s).length=s.length+1:=by simp[qV]
theorem CM:∀(f:Nat) (k:Int) (s:List UInt8),0<=k->k<2^f->f<=64->s.length+f<=100->∃d,pr (λz:Int×List UInt8=>dg z.1 z.2) (f+1) (k,s)=some d/\d.length<=s.length+f
 | 0,k,s,h0,h1,hf,hs=>by
  rw[nW];unfold dg;rw[show decide (k>0)=false from dF (by simp at h1;omega),cF];exact⟨s,rfl,by simp⟩
 | f+1,k,s,h0,h1,hf,hs=>by
  rw[nW];unfold dg;by_cases hk:k>0
  · have hp:(2:Int)^(f+1)=2*2^f:=by rw[Int.pow_succ];omega
    have hq:(2:Int)^(f+1)<=2^64:=by
     have:=Nat.pow_le_pow_right (n:=2) (by omega) hf;have h2:((2^(f+1):Nat):Int)<=((2^64:Nat):Int):=Int.ofNat_le.2 this
     simpa using h2
    have hd:k.tdiv 10=k/10:=Int.tdiv_eq_ediv_of_nonneg h0;have hlt:k/10<2^f:=by omega
    have hw:mH (k/10)=k/10\/True:=.inr trivial;have hc:AT (qV [IntKind.u8.wrap (mH (48+k.tmod 10))]) s=some (qV [IntKind.u8.wrap (mH (48+k.tmod 10))]++s):=by
     unfold AT;rw[if_pos];simp[qV,va];omega
    rw[dT hk,cT,hc,Option.bind_some,hd];have hw2:mH (k/10)=k/10:=pk (by omega) (by
     have:(2:Int)^64=18446744073709551616:=by decide
     omega)
    rw[hw2];obtain⟨d,h2,h3⟩:=CM f (k/10) (qV [IntKind.u8.wrap (mH (48+k.tmod 10))]++s) (by omega) hlt (by omega) (by rw[CL];omega);exact⟨d,h2,by rw[CL]at h3;omega⟩
  · rw[dF hk,cF];exact⟨s,rfl,by omega⟩
theorem Hv {k:Int} (h0:0<=k) (hk:k<=9000000000000000000):∃s,cj k=some s:=by
 unfold cj;by_cases h:k<=0
 · rw[dT h];exact⟨_,rfl⟩
 · rw[dF h,cF];obtain⟨d, h1, h2⟩ := CM 64 k [] h0 (by
    have : (2 : Int)^64=18446744073709551616 := by decide
    omega) (by omega) (by simp)
   rw[qI h1,Option.bind_some];unfold AT;rw[if_pos]
   · exact⟨_,rfl⟩
   · simp[va]at h2 ⊢;omega
set_option maxHeartbeats 8000000 in
theorem Ip {l:List Pt} (hl:l.length<=1100000) {k:Int} (h0:0<=k) (hk:k+8800008<=9000000000000000000):∃l' k',cn l k=some (l',k')/\l'.length=l.length/\k<=k'/\k'<=k+8800008/\dj l' k=some k':=by
 obtain⟨l',k',h1,h2,h3,h4,h5⟩:=qt (l:=l) (M:=dE) (H:=dh) (B:=8999999999999999992) (c:=8) (by omega)
  (λx hx k h0 hk=>by
   refine⟨(((k).tmod 3)==0,k+1,((k+1+1).tmod 3)==0,k+1+1+1,k+1+1+1+1,k+1+1+1+1+1,k+1+1+1+1+1+1,k+1+1+1+1+1+1+1),k+1+1+1+1+1+1+1+1,by omega,by omega,λn ls hn hle hx'=>?_,λn a hn hle hx'=>?_⟩
   · unfold dE;simp (maxSteps:=10000000) (disch:=omega) only[nU (show (n:Int)<(ls.length:Int) by omega),cT,pR hn,length_set,Option.bind_some,List.getElem?_eq_getElem hn,pm,set_set,hx',pk,n4 (show n<9223372036854775807 by omega)]
   · unfold dh;simp (maxSteps:=10000000) (disch:=omega) only[nU (show (n:Int)<(a.length:Int) by omega),cT,cF,n8 hn,Option.bind_some,hx',pk,bne_self_eq_false,beq_self_eq_true,Bool.not_true,n4 (show n<9223372036854775807 by omega)])
  (λk ls=>by unfold dE;rw[nj (by omega),cF])
  (λk a=>by unfold dh;rw[nj (by omega),cF]) h0 (by omega)
 refine⟨l',k',?_,h2,h3,by omega,?_⟩
 · unfold cn;rw[h1];rfl
 · unfold dj;rw[h5];rfl
set_option maxHeartbeats 8000000 in
theorem GI {l:List mT} (hl:l.length<=1100000) {k:Int} (h0:0<=k) (hk:k+5500005<=9000000000000000000):∃l' k',co l k=some (l',k')/\l'.length=l.length/\k<=k'/\k'<=k+5500005/\dl l' k=some k':=by
 obtain⟨l',k',h1,h2,h3,h4,h5⟩:=qt (l:=l) (M:=dG) (H:=dk) (B:=8999999999999999995) (c:=5) (by omega)
  (λx hx k h0 hk=>by
   refine⟨(k,k+1,k+1+1,k+1+1+1,((k+1+1+1+1).tmod 3)==0),k+1+1+1+1+1,by omega,by omega,λn ls hn hle hx'=>?_,λn a hn hle hx'=>?_⟩
   · unfold dG;simp (maxSteps:=10000000) (disch:=omega) only[nU (show (n:Int)<(ls.length:Int) by omega),cT,pR hn,length_set,Option.bind_some,List.getElem?_eq_getElem hn,pm,set_set,hx',pk,n4 (show n<9223372036854775807 by omega)]
   · unfold dk;simp (maxSteps:=10000000) (disch:=omega) only[nU (show (n:Int)<(a.length:Int) by omega),cT,cF,n8 hn,Option.bind_some,hx',pk,bne_self_eq_false,beq_self_eq_true,Bool.not_true,n4 (show n<9223372036854775807 by omega)])
  (λk ls=>by unfold dG;rw[nj (by omega),cF])
  (λk a=>by unfold dk;rw[nj (by omega),cF]) h0 (by omega)
 refine⟨l',k',?_,h2,h3,by omega,?_⟩
 · unfold co;rw[h1];rfl
 · unfold dl;rw[h5];rfl
set_option maxHeartbeats 8000000 in
theorem GJ {l:List oy} (hl:l.length<=1100000) {k:Int} (h0:0<=k) (hk:k+3300003<=9000000000000000000):∃l' k',cp l k=some (l',k')/\l'.length=l.length/\k<=k'/\k'<=k+3300003/\dp l' k=some k':=by
 obtain⟨l',k',h1,h2,h3,h4,h5⟩:=qt (l:=l) (M:=dH) (H:=dn) (B:=8999999999999999997) (c:=3) (by omega)
  (λx hx k h0 hk=>by
   refine⟨(k,k+1,k+1+1),k+1+1+1,by omega,by omega,λn ls hn hle hx'=>?_,λn a hn hle hx'=>?_⟩
   · unfold dH;simp (maxSteps:=10000000) (disch:=omega) only[nU (show (n:Int)<(ls.length:Int) by omega),cT,pR hn,length_set,Option.bind_some,List.getElem?_eq_getElem hn,pm,set_set,hx',pk,n4 (show n<9223372036854775807 by omega)]
   · unfold dn;simp (maxSteps:=10000000) (disch:=omega) only[nU (show (n:Int)<(a.length:Int) by omega),cT,cF,n8 hn,Option.bind_some,hx',pk,bne_self_eq_false,beq_self_eq_true,Bool.not_true,n4 (show n<9223372036854775807 by omega)])
  (λk ls=>by unfold dH;rw[nj (by omega),cF])
  (λk a=>by unfold dn;rw[nj (by omega),cF]) h0 (by omega)
 refine⟨l',k',?_,h2,h3,by omega,?_⟩
 · unfold cp;rw[h1];rfl
 · unfold dp;rw[h5];rfl
set_option maxHeartbeats 8000000 in
theorem Hw {l:List Int} (hl:l.length<=1100000) {k:Int} (h0:0<=k) (hk:k+1100001<=9000000000000000000):∃l' k',cq l k=some (l',k')/\l'.length=l.length/\k<=k'/\k'<=k+1100001/\dt l' k=some k':=by
 obtain⟨l',k',h1,h2,h3,h4,h5⟩:=qt (l:=l) (M:=dJ) (H:=dq) (B:=8999999999999999999) (c:=1) (by omega)
  (λx hx k h0 hk=>by
   refine⟨k,k+1,by omega,by omega,λn ls hn hle hx'=>?_,λn a hn hle hx'=>?_⟩
   · unfold dJ;simp (maxSteps:=10000000) (disch:=omega) only[nU (show (n:Int)<(ls.length:Int) by omega),cT,pR hn,length_set,Option.bind_some,List.getElem?_eq_getElem hn,pm,set_set,hx',pk,n4 (show n<9223372036854775807 by omega)]
   · unfold dq;simp (maxSteps:=10000000) (disch:=omega) only[nU (show (n:Int)<(a.length:Int) by omega),cT,cF,n8 hn,Option.bind_some,hx',pk,bne_self_eq_false,beq_self_eq_true,Bool.not_true,n4 (show n<9223372036854775807 by omega)])
  (λk ls=>by unfold dJ;rw[nj (by omega),cF])
  (λk a=>by unfold dq;rw[nj (by omega),cF]) h0 (by omega)
 refine⟨l',k',?_,h2,h3,by omega,?_⟩
 · unfold cq;rw[h1];rfl
 · unfold dt;rw[h5];rfl
def xv (x:mL):Prop:=((x.2.2.1).length<=1100000)/\((x.2.2.2.1).length<=1100000)/\((x.2.2.2.2.1).length<=1100000)/\((x.2.2.2.2.2.1).length<=1100000)
set_option maxHeartbeats 8000000 in
theorem ED {l:List mL} (hl:l.length<=1100000) (ho:∀x∈l,xv x) {k:Int} (h0:0<=k) (hk:k+20570045100024<=9000000000000000000):∃l' k',ct l k=some (l',k')/\l'.length=l.length/\k<=k'/\k'<=k+20570045100024/\dv l' k=some k':=by
 obtain⟨l',k',h1,h2,h3,h4,h5⟩:=qt (l:=l) (M:=dK) (H:=du) (B:=8999999999981299976) (c:=18700024) (by omega)
  (λx hx k h0 hk=>by
   have hx0:=ho x hx;obtain⟨y1,t1⟩:=Hv (k:=k+1) (by omega) (by omega);obtain⟨y2,k2,e2,a2,b2,c2,f2⟩:=Ip (l:=x.2.2.1) (hx0.1) (k:=k+1+1) (by omega) (by omega);obtain⟨y3,k3,e3,a3,b3,c3,f3⟩:=GI (l:=x.2.2.2.1) (hx0.2.1) (k:=k2) (by omega) (by omega);obtain⟨y4,k4,e4,a4,b4,c4,f4⟩:=GJ (l:=x.2.2.2.2.1) (hx0.2.2.1) (k:=k3) (by omega) (by omega);obtain⟨y5,k5,e5,a5,b5,c5,f5⟩:=Hw (l:=x.2.2.2.2.2.1) (hx0.2.2.2) (k:=k4) (by omega) (by omega);refine⟨(k,y1,y2,y3,y4,y5,k5,k5+1,k5+1+1,k5+1+1+1,k5+1+1+1+1),k5+1+1+1+1+1,by omega,by omega,λn ls hn hle hx'=>?_,λn a hn hle hx'=>?_⟩
   · unfold dK;simp (maxSteps:=10000000) (disch:=omega) only[nU (show (n:Int)<(ls.length:Int) by omega),cT,pR hn,length_set,Option.bind_some,List.getElem?_eq_getElem hn,pm,set_set,hx',pk,n4 (show n<9223372036854775807 by omega),t1,e2,e3,e4,e5]
   · unfold du;simp (maxSteps:=10000000) (disch:=omega) only[nU (show (n:Int)<(a.length:Int) by omega),cT,cF,n8 hn,Option.bind_some,hx',pk,bne_self_eq_false,beq_self_eq_true,Bool.not_true,n4 (show n<9223372036854775807 by omega),t1,f2,nj (show ¬k2<0 by omega),f3,nj (show ¬k3<0 by omega),f4,nj (show ¬k4<0 by omega),f5,nj (show ¬k5<0 by omega)])
  (λk ls=>by unfold dK;rw[nj (by omega),cF])
  (λk a=>by unfold du;rw[nj (by omega),cF]) h0 (by omega)
 refine⟨l',k',?_,h2,h3,by omega,?_⟩
 · unfold ct;rw[h1];rfl
 · unfold dv;rw[h5];rfl
set_option maxHeartbeats 8000000 in
theorem GK {l:List nD} (hl:l.length<=1100000) {k:Int} (h0:0<=k) (hk:k+4400004<=9000000000000000000):∃l' k',cu l k=some (l',k')/\l'.length=l.length/\k<=k'/\k'<=k+4400004/\dx l' k=some k':=by
 obtain⟨l',k',h1,h2,h3,h4,h5⟩:=qt (l:=l) (M:=dL) (H:=dw) (B:=8999999999999999996) (c:=4) (by omega)
  (λx hx k h0 hk=>by
   refine⟨(k,k+1,k+1+1,k+1+1+1),k+1+1+1+1,by omega,by omega,λn ls hn hle hx'=>?_,λn a hn hle hx'=>?_⟩
   · unfold dL;simp (maxSteps:=10000000) (disch:=omega) only[nU (show (n:Int)<(ls.length:Int) by omega),cT,pR hn,length_set,Option.bind_some,List.getElem?_eq_getElem hn,pm,set_set,hx',pk,n4 (show n<9223372036854775807 by omega)]
   · unfold dw;simp (maxSteps:=10000000) (disch:=omega) only[nU (show (n:Int)<(a.length:Int) by omega),cT,cF,n8 hn,Option.bind_some,hx',pk,bne_self_eq_false,beq_self_eq_true,Bool.not_true,n4 (show n<9223372036854775807 by omega)])
  (λk ls=>by unfold dL;rw[nj (by omega),cF])
  (λk a=>by unfold dw;rw[nj (by omega),cF]) h0 (by omega)
 refine⟨l',k',?_,h2,h3,by omega,?_⟩
 · unfold cu;rw[h1];rfl
 · unfold dx;rw[h5];rfl
set_option maxHeartbeats 8000000 in
theorem Hx {l:List oT} (hl:l.length<=1100000) {k:Int} (h0:0<=k) (hk:k+7700007<=9000000000000000000):∃l' k',cw l k=some (l',k')/\l'.length=l.length/\k<=k'/\k'<=k+7700007/\dz l' k=some k':=by
 obtain⟨l',k',h1,h2,h3,h4,h5⟩:=qt (l:=l) (M:=dM) (H:=dy) (B:=8999999999999999993) (c:=7) (by omega)
  (λx hx k h0 hk=>by
   refine⟨(k,((k+1).tmod 3)==0,k+1+1,k+1+1+1,k+1+1+1+1,k+1+1+1+1+1,k+1+1+1+1+1+1),k+1+1+1+1+1+1+1,by omega,by omega,λn ls hn hle hx'=>?_,λn a hn hle hx'=>?_⟩
   · unfold dM;simp (maxSteps:=10000000) (disch:=omega) only[nU (show (n:Int)<(ls.length:Int) by omega),cT,pR hn,length_set,Option.bind_some,List.getElem?_eq_getElem hn,pm,set_set,hx',pk,n4 (show n<9223372036854775807 by omega)]
   · unfold dy;simp (maxSteps:=10000000) (disch:=omega) only[nU (show (n:Int)<(a.length:Int) by omega),cT,cF,n8 hn,Option.bind_some,hx',pk,bne_self_eq_false,beq_self_eq_true,Bool.not_true,n4 (show n<9223372036854775807 by omega)])
  (λk ls=>by unfold dM;rw[nj (by omega),cF])
  (λk a=>by unfold dy;rw[nj (by omega),cF]) h0 (by omega)
 refine⟨l',k',?_,h2,h3,by omega,?_⟩
 · unfold cw;rw[h1];rfl
 · unfold dz;rw[h5];rfl
def FY (x:nh):Prop:=((x.1).length<=1100000/\∀y∈x.1,xv y)/\((x.2.1).length<=1100000)/\((x.2.2).length<=1100000)
theorem FZ {x:nh} (hx0:FY x) {k:Int} (h0:0<=k) (hk:k+20570057200035<=9000000000000000000):∃x' k',aR x k=some (x',k')/\k<=k'/\k'<=k+20570057200035/\ck x' k=some k':=by
 obtain⟨y1,k1,e1,a1,b1,c1,f1⟩:=ED (l:=x.1) (hx0.1.1) (hx0.1.2) (k:=k) (by omega) (by omega);obtain⟨y2,k2,e2,a2,b2,c2,f2⟩:=GK (l:=x.2.1) (hx0.2.1) (k:=k1) (by omega) (by omega);obtain⟨y3,k3,e3,a3,b3,c3,f3⟩:=Hx (l:=x.2.2) (hx0.2.2) (k:=k2) (by omega) (by omega);refine⟨(y1,y2,y3),k3,?_,by omega,by omega,?_⟩
 · simp only[aR,Option.bind_some,e1,e2,e3]
 · simp only[ck,Option.bind_some,cF,f1,nj (show ¬k1<0 by omega),f2,nj (show ¬k2<0 by omega),f3,nj (show ¬k3<0 by omega)]
set_option maxHeartbeats 8000000 in
theorem CN {l:List Int} (hl:l.length<=1100000) {k:Int} (h0:0<=k) (hk:k+1100001<=9000000000000000000):∃l' k',bv l k=some (l',k')/\l'.length=l.length/\k<=k'/\k'<=k+1100001/\dC l' k=some k':=by
 obtain⟨l',k',h1,h2,h3,h4,h5⟩:=qt (l:=l) (M:=dN) (H:=dA) (B:=8999999999999999999) (c:=1) (by omega)
  (λx hx k h0 hk=>by
   refine⟨IntKind.u8.wrap (k),k+1,by omega,by omega,λn ls hn hle hx'=>?_,λn a hn hle hx'=>?_⟩
   · unfold dN;simp (maxSteps:=10000000) (disch:=omega) only[nU (show (n:Int)<(ls.length:Int) by omega),cT,pR hn,length_set,Option.bind_some,List.getElem?_eq_getElem hn,pm,set_set,hx',pk,n4 (show n<9223372036854775807 by omega)]
   · unfold dA;simp (maxSteps:=10000000) (disch:=omega) only[nU (show (n:Int)<(a.length:Int) by omega),cT,cF,n8 hn,Option.bind_some,hx',pk,bne_self_eq_false,beq_self_eq_true,Bool.not_true,n4 (show n<9223372036854775807 by omega)])
  (λk ls=>by unfold dN;rw[nj (by omega),cF])
  (λk a=>by unfold dA;rw[nj (by omega),cF]) h0 (by omega)
 refine⟨l',k',?_,h2,h3,by omega,?_⟩
 · unfold bv;rw[h1];rfl
 · unfold dC;rw[h5];rfl
def GL (x:nM):Prop:=((x.2.2.2).length<=1100000)
theorem GM {x:nM} (hx0:GL x) {k:Int} (h0:0<=k) (hk:k+1100001<=9000000000000000000):∃x' k',cz x k=some (x',k')/\k<=k'/\k'<=k+1100001/\True:=by
 obtain⟨y1,k1,e1,a1,b1,c1,f1⟩:=CN (l:=x.2.2.2) (hx0) (k:=k) (by omega) (by omega);refine⟨(x.1,x.2.1,x.2.2.1,y1),k1,?_,by omega,by omega,?_⟩
 · simp only[cz,aR,Option.bind_some,e1]
 · trivial
def Hy (x:n9):Prop:=((x.2.2.2.2.2).length<=1100000)
set_option maxHeartbeats 8000000 in
theorem Hz {l:List n9} (hl:l.length<=1100000) (ho:∀x∈l,Hy x) {k:Int} (h0:0<=k) (hk:k+1210007700006<=9000000000000000000):∃l' k',cA l k=some (l',k')/\l'.length=l.length/\k<=k'/\k'<=k+1210007700006/\cm l' k=some k':=by
 obtain⟨l',k',h1,h2,h3,h4,h5⟩:=qt (l:=l) (M:=dO) (H:=dD) (B:=8999999999998899994) (c:=1100006) (by omega)
  (λx hx k h0 hk=>by
   have hx0:=ho x hx;obtain⟨y1,k1,e1,a1,b1,c1,f1⟩:=CN (l:=x.2.2.2.2.2) (hx0) (k:=k+1+1+1+1+1) (by omega) (by omega);refine⟨(k,k+1,k+1+1,k+1+1+1,k+1+1+1+1,y1),k1,by omega,by omega,λn ls hn hle hx'=>?_,λn a hn hle hx'=>?_⟩
   · unfold dO;simp (maxSteps:=10000000) (disch:=omega) only[nU (show (n:Int)<(ls.length:Int) by omega),cT,pR hn,length_set,Option.bind_some,List.getElem?_eq_getElem hn,pm,set_set,hx',pk,n4 (show n<9223372036854775807 by omega),e1]
   · unfold dD;simp (maxSteps:=10000000) (disch:=omega) only[nU (show (n:Int)<(a.length:Int) by omega),cT,cF,n8 hn,Option.bind_some,hx',pk,bne_self_eq_false,beq_self_eq_true,Bool.not_true,n4 (show n<9223372036854775807 by omega),f1,nj (show ¬k1<0 by omega)])
  (λk ls=>by unfold dO;rw[nj (by omega),cF])
  (λk a=>by unfold dD;rw[nj (by omega),cF]) h0 (by omega)
 refine⟨l',k',?_,h2,h3,by omega,?_⟩
 · unfold cA;rw[h1];rfl
 · unfold cm;rw[h5];rfl
end Go.V.W

