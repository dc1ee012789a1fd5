/- The law FnExactBridgeOnly: part of the proof that for every input it returns true. No condition. -/
import Derived.Test.YtpidgkkbmlgehaaGreatFnExactBridgeOnly
import Derived.Test.YtpidgkkbmlgehaaGreatV4
open List (length_set set_set)
set_option linter.unusedVariables false
set_option linter.unusedSimpArgs false
namespace Go.V.W
set_option maxHeartbeats 8000000 in
theorem J1 {l:List Pt} (hl:l.length<=1100000) {k:Int} (h0:0<=k) (hk:k+8800008<=9000000000000000000):∃l' k',cc l k=some (l',k')/\l'.length=l.length/\k<=k'/\k'<=k+8800008/\cO l' k=some k':=by
 obtain⟨l',k',h1,h2,h3,h4,h5⟩:=wM (l:=l) (M:=cW) (H:=cN) (B:=8999999999999999992) (c:=8) (by omega)
  (λx hx k h0 hk=>by
   refine⟨(((k).tmod 3)==0,k+1,((k+1+1).tmod 3)==0,k+1+1+1,k+1+1+1+1,k+1+1+1+1+1,k+1+1+1+1+1+1,k+1+1+1+1+1+1+1),k+1+1+1+1+1+1+1+1,by omega,by omega,λn ls hn hle hx'=>?_,λn a hn hle hx'=>?_⟩
   · unfold cW;simp (maxSteps:=10000000) (disch:=omega) only[qD (show (n:Int)<(ls.length:Int) by omega),cT,s6 hn,length_set,Option.bind_some,List.getElem?_eq_getElem hn,sN,set_set,hx',ua,pz (show n<9223372036854775807 by omega)]
   · unfold cN;simp (maxSteps:=10000000) (disch:=omega) only[qD (show (n:Int)<(a.length:Int) by omega),cT,cF,pv hn,Option.bind_some,hx',ua,bne_self_eq_false,beq_self_eq_true,Bool.not_true,pz (show n<9223372036854775807 by omega)])
  (λk ls=>by unfold cW;rw[pU (by omega),cF])
  (λk a=>by unfold cN;rw[pU (by omega),cF]) h0 (by omega)
 refine⟨l',k',?_,h2,h3,by omega,?_⟩
 · unfold cc;rw[h1];rfl
 · unfold cO;rw[h5];rfl
set_option maxHeartbeats 8000000 in
theorem Hx {l:List oV} (hl:l.length<=1100000) {k:Int} (h0:0<=k) (hk:k+5500005<=9000000000000000000):∃l' k',ce l k=some (l',k')/\l'.length=l.length/\k<=k'/\k'<=k+5500005/\cQ l' k=some k':=by
 obtain⟨l',k',h1,h2,h3,h4,h5⟩:=wM (l:=l) (M:=cX) (H:=cP) (B:=8999999999999999995) (c:=5) (by omega)
  (λx hx k h0 hk=>by
   refine⟨(k,k+1,k+1+1,k+1+1+1,((k+1+1+1+1).tmod 3)==0),k+1+1+1+1+1,by omega,by omega,λn ls hn hle hx'=>?_,λn a hn hle hx'=>?_⟩
   · unfold cX;simp (maxSteps:=10000000) (disch:=omega) only[qD (show (n:Int)<(ls.length:Int) by omega),cT,s6 hn,length_set,Option.bind_some,List.getElem?_eq_getElem hn,sN,set_set,hx',ua,pz (show n<9223372036854775807 by omega)]
   · unfold cP;simp (maxSteps:=10000000) (disch:=omega) only[qD (show (n:Int)<(a.length:Int) by omega),cT,cF,pv hn,Option.bind_some,hx',ua,bne_self_eq_false,beq_self_eq_true,Bool.not_true,pz (show n<9223372036854775807 by omega)])
  (λk ls=>by unfold cX;rw[pU (by omega),cF])
  (λk a=>by unfold cP;rw[pU (by omega),cF]) h0 (by omega)
 refine⟨l',k',?_,h2,h3,by omega,?_⟩
 · unfold ce;rw[h1];rfl
 · unfold cQ;rw[h5];rfl
set_option maxHeartbeats 8000000 in
theorem Hy {l:List pm} (hl:l.length<=1100000) {k:Int} (h0:0<=k) (hk:k+3300003<=9000000000000000000):∃l' k',cf l k=some (l',k')/\l'.length=l.length/\k<=k'/\k'<=k+3300003/\cS l' k=some k':=by
 obtain⟨l',k',h1,h2,h3,h4,h5⟩:=wM (l:=l) (M:=cY) (H:=cR) (B:=8999999999999999997) (c:=3) (by omega)
  (λx hx k h0 hk=>by
   refine⟨(k,k+1,k+1+1),k+1+1+1,by omega,by omega,λn ls hn hle hx'=>?_,λn a hn hle hx'=>?_⟩
   · unfold cY;simp (maxSteps:=10000000) (disch:=omega) only[qD (show (n:Int)<(ls.length:Int) by omega),cT,s6 hn,length_set,Option.bind_some,List.getElem?_eq_getElem hn,sN,set_set,hx',ua,pz (show n<9223372036854775807 by omega)]
   · unfold cR;simp (maxSteps:=10000000) (disch:=omega) only[qD (show (n:Int)<(a.length:Int) by omega),cT,cF,pv hn,Option.bind_some,hx',ua,bne_self_eq_false,beq_self_eq_true,Bool.not_true,pz (show n<9223372036854775807 by omega)])
  (λk ls=>by unfold cY;rw[pU (by omega),cF])
  (λk a=>by unfold cR;rw[pU (by omega),cF]) h0 (by omega)
 refine⟨l',k',?_,h2,h3,by omega,?_⟩
 · unfold cf;rw[h1];rfl
 · unfold cS;rw[h5];rfl
set_option maxHeartbeats 8000000 in
theorem If {l:List Int} (hl:l.length<=1100000) {k:Int} (h0:0<=k) (hk:k+1100001<=9000000000000000000):∃l' k',cg l k=some (l',k')/\l'.length=l.length/\k<=k'/\k'<=k+1100001/\cV l' k=some k':=by
 obtain⟨l',k',h1,h2,h3,h4,h5⟩:=wM (l:=l) (M:=cZ) (H:=cU) (B:=8999999999999999999) (c:=1) (by omega)
  (λx hx k h0 hk=>by
   refine⟨k,k+1,by omega,by omega,λn ls hn hle hx'=>?_,λn a hn hle hx'=>?_⟩
   · unfold cZ;simp (maxSteps:=10000000) (disch:=omega) only[qD (show (n:Int)<(ls.length:Int) by omega),cT,s6 hn,length_set,Option.bind_some,List.getElem?_eq_getElem hn,sN,set_set,hx',ua,pz (show n<9223372036854775807 by omega)]
   · unfold cU;simp (maxSteps:=10000000) (disch:=omega) only[qD (show (n:Int)<(a.length:Int) by omega),cT,cF,pv hn,Option.bind_some,hx',ua,bne_self_eq_false,beq_self_eq_true,Bool.not_true,pz (show n<9223372036854775807 by omega)])
  (λk ls=>by unfold cZ;rw[pU (by omega),cF])
  (λk a=>by unfold cU;rw[pU (by omega),cF]) h0 (by omega)
 refine⟨l',k',?_,h2,h3,by omega,?_⟩
 · unfold cg;rw[h1];rfl
 · unfold cV;rw[h5];rfl
def CK (x:oU):Prop:=((x.2.2.1).length<=1100000)/\((x.2.2.2.1).length<=1100000)/\((x.2.2.2.2.1).length<=1100000)/\((x.2.2.2.2.2.1).length<=1100000)
theorem CL {x:oU} (hx0:CK x) {k:Int} (h0:0<=k) (hk:k+18700017<=9000000000000000000):∃x' k',bz x k=some (x',k')/\k<=k'/\k'<=k+18700017/\cb (x.1,x.2.1,x'.2.2.1,x'.2.2.2.1,x'.2.2.2.2.1,x'.2.2.2.2.2.1,x.2.2.2.2.2.2.1,x.2.2.2.2.2.2.2.1,x.2.2.2.2.2.2.2.2.1,x.2.2.2.2.2.2.2.2.2.1,x.2.2.2.2.2.2.2.2.2.2) k=some k':=by
 obtain⟨y1,k1,e1,a1,b1,c1,f1⟩:=J1 (l:=x.2.2.1) (hx0.1) (k:=k) (by omega) (by omega);obtain⟨y2,k2,e2,a2,b2,c2,f2⟩:=Hx (l:=x.2.2.2.1) (hx0.2.1) (k:=k1) (by omega) (by omega);obtain⟨y3,k3,e3,a3,b3,c3,f3⟩:=Hy (l:=x.2.2.2.2.1) (hx0.2.2.1) (k:=k2) (by omega) (by omega);obtain⟨y4,k4,e4,a4,b4,c4,f4⟩:=If (l:=x.2.2.2.2.2.1) (hx0.2.2.2) (k:=k3) (by omega) (by omega);refine⟨(x.1,x.2.1,y1,y2,y3,y4,x.2.2.2.2.2.2.1,x.2.2.2.2.2.2.2.1,x.2.2.2.2.2.2.2.2.1,x.2.2.2.2.2.2.2.2.2.1,x.2.2.2.2.2.2.2.2.2.2),k4,?_,by omega,by omega,?_⟩
 · simp only[bz,d6,Option.bind_some,e1,e2,e3,e4]
 · simp only[cb,dX,Option.bind_some,cF,f1,pU (show ¬k1<0 by omega),f2,pU (show ¬k2<0 by omega),f3,pU (show ¬k3<0 by omega),f4,pU (show ¬k4<0 by omega)]
set_option maxHeartbeats 8000000 in
theorem DL {l:List Int} (hl:l.length<=1100000) {k:Int} (h0:0<=k) (hk:k+1100001<=9000000000000000000):∃l' k',bA l k=some (l',k')/\l'.length=l.length/\k<=k'/\k'<=k+1100001/\True:=by
 obtain⟨l',k',h1,h2,h3,h4⟩:=BK (l:=l) (M:=d7) (B:=8999999999999999999) (c:=1) (by omega)
  (λx hx k h0 hk=>by
   refine⟨IntKind.u8.wrap (k),k+1,by omega,by omega,λn ls hn hle hx'=>?_⟩
   · unfold d7;simp (maxSteps:=10000000) (disch:=omega) only[qD (show (n:Int)<(ls.length:Int) by omega),cT,s6 hn,length_set,Option.bind_some,List.getElem?_eq_getElem hn,sN,set_set,hx',ua,pz (show n<9223372036854775807 by omega)])
  (λk ls=>by unfold d7;rw[pU (by omega),cF])
  h0 (by omega)
 refine⟨l',k',?_,h2,h3,by omega,?_⟩
 · unfold bA;rw[h1];rfl
 · trivial
def Ig (x:Act):Prop:=((x.2.2.2.1).length<=1100000)/\((x.2.2.2.2.2.2.2.1).length<=1100000)
set_option maxHeartbeats 8000000 in
theorem Ih {l:List Act} (hl:l.length<=1100000) (ho:∀x∈l,Ig x) {k:Int} (h0:0<=k) (hk:k+2420016500013<=9000000000000000000):∃l' k',ch l k=some (l',k')/\l'.length=l.length/\k<=k'/\k'<=k+2420016500013/\True:=by
 obtain⟨l',k',h1,h2,h3,h4⟩:=BK (l:=l) (M:=d8) (B:=8999999999997799987) (c:=2200013) (by omega)
  (λx hx k h0 hk=>by
   have hx0:=ho x hx;obtain⟨y1,k1,e1,a1,b1,c1,f1⟩:=DL (l:=x.2.2.2.1) (hx0.1) (k:=k+1+1+1) (by omega) (by omega);obtain⟨y2,k2,e2,a2,b2,c2,f2⟩:=DL (l:=x.2.2.2.2.2.2.2.1) (hx0.2) (k:=k1+1+1+1) (by omega) (by omega);refine⟨(k,k+1,((k+1+1).tmod 3)==0,y1,k1,k1+1,k1+1+1,y2,k2,k2+1,k2+1+1,k2+1+1+1,k2+1+1+1+1),k2+1+1+1+1+1,by omega,by omega,λn ls hn hle hx'=>?_⟩
   · unfold d8;simp (maxSteps:=10000000) (disch:=omega) only[qD (show (n:Int)<(ls.length:Int) by omega),cT,s6 hn,length_set,Option.bind_some,List.getElem?_eq_getElem hn,sN,set_set,hx',ua,pz (show n<9223372036854775807 by omega),e1,e2])
  (λk ls=>by unfold d8;rw[pU (by omega),cF])
  h0 (by omega)
 refine⟨l',k',?_,h2,h3,by omega,?_⟩
 · unfold ch;rw[h1];rfl
 · trivial
end Go.V.W

