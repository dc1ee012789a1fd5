/- The law FnExactWalk: part of the proof that for every input it returns true. No condition. -/
import Derived.Test.YtpidgkkbmlgehaaFnExactWalk
import Derived.Test.YtpidgkkbmlgehaaV4
open List (length_set set_set)
set_option linter.unusedVariables false
set_option linter.unusedSimpArgs false
namespace Go.V.W
theorem vY {b:Int} {s:List UInt8}:(lg [b]++s).length=s.length+1:=by simp[lg]
theorem vZ:∀(f:Nat) (k:Int) (s:List UInt8),0<=k->k<2^f->f<=64->s.length+f<=100->∃d,iU (λz:Int×List UInt8=>bJ z.1 z.2) (f+1) (k,s)=some d/\d.length<=s.length+f
 | 0,k,s,h0,h1,hf,hs=>by
  rw[iA];unfold bJ;rw[show decide (k>0)=false from dF (by simp at h1;omega),cF];exact⟨s,rfl,by simp⟩
 | f+1,k,s,h0,h1,hf,hs=>by
  rw[iA];unfold bJ;by_cases hk:k>0
  · have hp:(2:Int)^(f+1)=2*2^f:=by rw[Int.pow_succ];omega
    have hq:(2:Int)^(f+1)<=2^64:=by
     have:=Nat.pow_le_pow_right (n:=2) (by omega) hf;have h2:((2^(f+1):Nat):Int)<=((2^64:Nat):Int):=Int.ofNat_le.2 this
     simpa using h2
    have hd:k.tdiv 10=k/10:=Int.tdiv_eq_ediv_of_nonneg h0;have hlt:k/10<2^f:=by omega
    have hw:gI (k/10)=k/10\/True:=.inr trivial;have hc:ul (lg [IntKind.u8.wrap (gI (48+k.tmod 10))]) s=some (lg [IntKind.u8.wrap (gI (48+k.tmod 10))]++s):=by
     unfold ul;rw[if_pos];simp[lg,pv];omega
    rw[dT hk,cT,hc,Option.bind_some,hd];have hw2:gI (k/10)=k/10:=nh (by omega) (by
     have:(2:Int)^64=18446744073709551616:=by decide
     omega)
    rw[hw2];obtain⟨d,h2,h3⟩:=vZ f (k/10) (lg [IntKind.u8.wrap (gI (48+k.tmod 10))]++s) (by omega) hlt (by omega) (by rw[vY];omega);exact⟨d,h2,by rw[vY]at h3;omega⟩
  · rw[dF hk,cF];exact⟨s,rfl,by omega⟩
theorem zJ {k:Int} (h0:0<=k) (hk:k<=9000000000000000000):∃s,ba k=some s:=by
 unfold ba;by_cases h:k<=0
 · rw[dT h];exact⟨_,rfl⟩
 · rw[dF h,cF];obtain⟨d, h1, h2⟩ := vZ 64 k [] h0 (by
    have : (2 : Int)^64=18446744073709551616 := by decide
    omega) (by omega) (by simp)
   rw[jV h1,Option.bind_some];unfold ul;rw[if_pos]
   · exact⟨_,rfl⟩
   · simp[pv]at h2 ⊢;omega
set_option maxHeartbeats 8000000 in
theorem Ad {l:List Pt} (hl:l.length<=1100000) {k:Int} (h0:0<=k) (hk:k+8800008<=9000000000000000000):∃l' k',bd l k=some (l',k')/\l'.length=l.length/\k<=k'/\k'<=k+8800008/\True:=by
 obtain⟨l',k',h1,h2,h3,h4⟩:=qM (l:=l) (M:=bM) (B:=8999999999999999992) (c:=8) (by omega)
  (λx hx k h0 hk=>by
   refine⟨(((k).tmod 3)==0,k+1,((k+1+1).tmod 3)==0,k+1+1+1,k+1+1+1+1,k+1+1+1+1+1,k+1+1+1+1+1+1,k+1+1+1+1+1+1+1),k+1+1+1+1+1+1+1+1,by omega,by omega,λn ls hn hle hx'=>?_⟩
   · unfold bM;simp (maxSteps:=10000000) (disch:=omega) only[kY (show (n:Int)<(ls.length:Int) by omega),cT,oc hn,length_set,Option.bind_some,List.getElem?_eq_getElem hn,lC,set_set,hx',nh,j8 (show n<9223372036854775807 by omega)])
  (λk ls=>by unfold bM;rw[jD (by omega),cF])
  h0 (by omega)
 refine⟨l',k',?_,h2,h3,by omega,?_⟩
 · unfold bd;rw[h1];rfl
 · trivial
set_option maxHeartbeats 8000000 in
theorem z8 {l:List im} (hl:l.length<=1100000) {k:Int} (h0:0<=k) (hk:k+5500005<=9000000000000000000):∃l' k',be l k=some (l',k')/\l'.length=l.length/\k<=k'/\k'<=k+5500005/\True:=by
 obtain⟨l',k',h1,h2,h3,h4⟩:=qM (l:=l) (M:=bN) (B:=8999999999999999995) (c:=5) (by omega)
  (λx hx k h0 hk=>by
   refine⟨(k,k+1,k+1+1,k+1+1+1,((k+1+1+1+1).tmod 3)==0),k+1+1+1+1+1,by omega,by omega,λn ls hn hle hx'=>?_⟩
   · unfold bN;simp (maxSteps:=10000000) (disch:=omega) only[kY (show (n:Int)<(ls.length:Int) by omega),cT,oc hn,length_set,Option.bind_some,List.getElem?_eq_getElem hn,lC,set_set,hx',nh,j8 (show n<9223372036854775807 by omega)])
  (λk ls=>by unfold bN;rw[jD (by omega),cF])
  h0 (by omega)
 refine⟨l',k',?_,h2,h3,by omega,?_⟩
 · unfold be;rw[h1];rfl
 · trivial
set_option maxHeartbeats 8000000 in
theorem sT {l:List Int} (hl:l.length<=1100000) {k:Int} (h0:0<=k) (hk:k+1100001<=9000000000000000000):∃l' k',az l k=some (l',k')/\l'.length=l.length/\k<=k'/\k'<=k+1100001/\bb l' k=some k':=by
 obtain⟨l',k',h1,h2,h3,h4,h5⟩:=u3 (l:=l) (M:=bO) (H:=bK) (B:=8999999999999999999) (c:=1) (by omega)
  (λx hx k h0 hk=>by
   refine⟨k,k+1,by omega,by omega,λn ls hn hle hx'=>?_,λn a hn hle hx'=>?_⟩
   · unfold bO;simp (maxSteps:=10000000) (disch:=omega) only[kY (show (n:Int)<(ls.length:Int) by omega),cT,oc hn,length_set,Option.bind_some,List.getElem?_eq_getElem hn,lC,set_set,hx',nh,j8 (show n<9223372036854775807 by omega)]
   · unfold bK;simp (maxSteps:=10000000) (disch:=omega) only[kY (show (n:Int)<(a.length:Int) by omega),cT,cF,iQ hn,Option.bind_some,hx',nh,bne_self_eq_false,beq_self_eq_true,Bool.not_true,j8 (show n<9223372036854775807 by omega)])
  (λk ls=>by unfold bO;rw[jD (by omega),cF])
  (λk a=>by unfold bK;rw[jD (by omega),cF]) h0 (by omega)
 refine⟨l',k',?_,h2,h3,by omega,?_⟩
 · unfold az;rw[h1];rfl
 · unfold bb;rw[h5];rfl
set_option maxHeartbeats 8000000 in
theorem z9 {l:List j6} (hl:l.length<=1100000) {k:Int} (h0:0<=k) (hk:k+3300003<=9000000000000000000):∃l' k',bf l k=some (l',k')/\l'.length=l.length/\k<=k'/\k'<=k+3300003/\True:=by
 obtain⟨l',k',h1,h2,h3,h4⟩:=qM (l:=l) (M:=bP) (B:=8999999999999999997) (c:=3) (by omega)
  (λx hx k h0 hk=>by
   refine⟨(k,k+1,k+1+1),k+1+1+1,by omega,by omega,λn ls hn hle hx'=>?_⟩
   · unfold bP;simp (maxSteps:=10000000) (disch:=omega) only[kY (show (n:Int)<(ls.length:Int) by omega),cT,oc hn,length_set,Option.bind_some,List.getElem?_eq_getElem hn,lC,set_set,hx',nh,j8 (show n<9223372036854775807 by omega)])
  (λk ls=>by unfold bP;rw[jD (by omega),cF])
  h0 (by omega)
 refine⟨l',k',?_,h2,h3,by omega,?_⟩
 · unfold bf;rw[h1];rfl
 · trivial
def vb (x:gC):Prop:=((x.2.2.1).length<=1100000)/\((x.2.2.2.1).length<=1100000)/\((x.2.2.2.2.1).length<=1100000)/\((x.2.2.2.2.2.1).length<=1100000)
theorem yl {x:gC} (hx0:vb x) {k:Int} (h0:0<=k) (hk:k+18700017<=9000000000000000000):∃x' k',bg x k=some (x',k')/\k<=k'/\k'<=k+18700017/\True:=by
 obtain⟨y1,k1,e1,a1,b1,c1,f1⟩:=Ad (l:=x.2.2.1) (hx0.1) (k:=k) (by omega) (by omega);obtain⟨y2,k2,e2,a2,b2,c2,f2⟩:=z8 (l:=x.2.2.2.1) (hx0.2.1) (k:=k1) (by omega) (by omega);obtain⟨y3,k3,e3,a3,b3,c3,f3⟩:=z9 (l:=x.2.2.2.2.1) (hx0.2.2.1) (k:=k2) (by omega) (by omega);obtain⟨y4,k4,e4,a4,b4,c4,f4⟩:=sT (l:=x.2.2.2.2.2.1) (hx0.2.2.2) (k:=k3) (by omega) (by omega);refine⟨(x.1,x.2.1,y1,y2,y3,y4,x.2.2.2.2.2.2.1,x.2.2.2.2.2.2.2.1,x.2.2.2.2.2.2.2.2.1,x.2.2.2.2.2.2.2.2.2.1,x.2.2.2.2.2.2.2.2.2.2),k4,?_,by omega,by omega,?_⟩
 · simp only[bg,bQ,Option.bind_some,e1,e2,e3,e4]
 · trivial
def za (x:gG):Prop:=((x.1).length<=1100000)/\((x.2.2.2.2).length<=1100000)
set_option maxHeartbeats 8000000 in
theorem zb {l:List gG} (hl:l.length<=1100000) (ho:∀x∈l,za x) {k:Int} (h0:0<=k) (hk:k+2420007700005<=9000000000000000000):∃l' k',bh l k=some (l',k')/\l'.length=l.length/\k<=k'/\k'<=k+2420007700005/\bc l' k=some k':=by
 obtain⟨l',k',h1,h2,h3,h4,h5⟩:=u3 (l:=l) (M:=bR) (H:=bL) (B:=8999999999997799995) (c:=2200005) (by omega)
  (λx hx k h0 hk=>by
   have hx0:=ho x hx;obtain⟨y1,k1,e1,a1,b1,c1,f1⟩:=sT (l:=x.1) (hx0.1) (k:=k) (by omega) (by omega);obtain⟨y2,t2⟩:=zJ (k:=k1+1+1) (by omega) (by omega);obtain⟨y3,k3,e3,a3,b3,c3,f3⟩:=sT (l:=x.2.2.2.2) (hx0.2) (k:=k1+1+1+1) (by omega) (by omega);refine⟨(y1,k1,k1+1,y2,y3),k3,by omega,by omega,λn ls hn hle hx'=>?_,λn a hn hle hx'=>?_⟩
   · unfold bR;simp (maxSteps:=10000000) (disch:=omega) only[kY (show (n:Int)<(ls.length:Int) by omega),cT,oc hn,length_set,Option.bind_some,List.getElem?_eq_getElem hn,lC,set_set,hx',nh,j8 (show n<9223372036854775807 by omega),e1,t2,e3]
   · unfold bL;simp (maxSteps:=10000000) (disch:=omega) only[kY (show (n:Int)<(a.length:Int) by omega),cT,cF,iQ hn,Option.bind_some,hx',nh,bne_self_eq_false,beq_self_eq_true,Bool.not_true,j8 (show n<9223372036854775807 by omega),f1,jD (show ¬k1<0 by omega),t2,f3,jD (show ¬k3<0 by omega)])
  (λk ls=>by unfold bR;rw[jD (by omega),cF])
  (λk a=>by unfold bL;rw[jD (by omega),cF]) h0 (by omega)
 refine⟨l',k',?_,h2,h3,by omega,?_⟩
 · unfold bh;rw[h1];rfl
 · unfold bc;rw[h5];rfl
end Go.V.W

