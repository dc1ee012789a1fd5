/- The law FnExactReplyOf: part of the proof that for every input it returns true. No condition. -/
import Derived.Test.YtpidgkkbmlgehaaGreatFnExactReplyOf
import Derived.Test.YtpidgkkbmlgehaaGreatV4
open List (length_set set_set)
set_option linter.unusedVariables false
set_option linter.unusedSimpArgs false
namespace Go.V.W
theorem EO {b:Int} {s:List UInt8}:(tE [b]++s).length=s.length+1:=by simp[tE]
theorem EP:∀(f:Nat) (k:Int) (s:List UInt8),0<=k->k<2^f->f<=64->s.length+f<=100->∃d,rp (λz:Int×List UInt8=>eT z.1 z.2) (f+1) (k,s)=some d/\d.length<=s.length+f
 | 0,k,s,h0,h1,hf,hs=>by
  rw[pT];unfold eT;rw[show decide (k>0)=false from dF (by simp at h1;omega),cF];exact⟨s,rfl,by simp⟩
 | f+1,k,s,h0,h1,hf,hs=>by
  rw[pT];unfold eT;by_cases hk:k>0
  · have hp:(2:Int)^(f+1)=2*2^f:=by rw[Int.pow_succ];omega
    have hq:(2:Int)^(f+1)<=2^64:=by
     have:=Nat.pow_le_pow_right (n:=2) (by omega) hf;have h2:((2^(f+1):Nat):Int)<=((2^64:Nat):Int):=Int.ofNat_le.2 this
     simpa using h2
    have hd:k.tdiv 10=k/10:=Int.tdiv_eq_ediv_of_nonneg h0;have hlt:k/10<2^f:=by omega
    have hw:oL (k/10)=k/10\/True:=.inr trivial;have hc:Da (tE [IntKind.u8.wrap (oL (48+k.tmod 10))]) s=some (tE [IntKind.u8.wrap (oL (48+k.tmod 10))]++s):=by
     unfold Da;rw[if_pos];simp[tE,xK];omega
    rw[dT hk,cT,hc,Option.bind_some,hd];have hw2:oL (k/10)=k/10:=tZ (by omega) (by
     have:(2:Int)^64=18446744073709551616:=by decide
     omega)
    rw[hw2];obtain⟨d,h2,h3⟩:=EP f (k/10) (tE [IntKind.u8.wrap (oL (48+k.tmod 10))]++s) (by omega) hlt (by omega) (by rw[EO];omega);exact⟨d,h2,by rw[EO]at h3;omega⟩
  · rw[dF hk,cF];exact⟨s,rfl,by omega⟩
theorem K0 {k:Int} (h0:0<=k) (hk:k<=9000000000000000000):∃s,dg k=some s:=by
 unfold dg;by_cases h:k<=0
 · rw[dT h];exact⟨_,rfl⟩
 · rw[dF h,cF];obtain⟨d, h1, h2⟩ := EP 64 k [] h0 (by
    have : (2 : Int)^64=18446744073709551616 := by decide
    omega) (by omega) (by simp)
   rw[sx h1,Option.bind_some];unfold Da;rw[if_pos]
   · exact⟨_,rfl⟩
   · simp[xK]at h2 ⊢;omega
set_option maxHeartbeats 8000000 in
theorem KY {l:List Pt} (hl:l.length<=1100000) {k:Int} (h0:0<=k) (hk:k+8800008<=9000000000000000000):∃l' k',dj l k=some (l',k')/\l'.length=l.length/\k<=k'/\k'<=k+8800008/\eJ l' k=some k':=by
 obtain⟨l',k',h1,h2,h3,h4,h5⟩:=vS (l:=l) (M:=eW) (H:=eI) (B:=8999999999999999992) (c:=8) (by omega)
  (λx hx k h0 hk=>by
   refine⟨(((k).tmod 3)==0,k+1,((k+1+1).tmod 3)==0,k+1+1+1,k+1+1+1+1,k+1+1+1+1+1,k+1+1+1+1+1+1,k+1+1+1+1+1+1+1),k+1+1+1+1+1+1+1+1,by omega,by omega,λn ls hn hle hx'=>?_,λn a hn hle hx'=>?_⟩
   · unfold eW;simp (maxSteps:=10000000) (disch:=omega) only[pK (show (n:Int)<(ls.length:Int) by omega),cT,tY hn,length_set,Option.bind_some,List.getElem?_eq_getElem hn,u0,set_set,hx',tZ,p9 (show n<9223372036854775807 by omega)]
   · unfold eI;simp (maxSteps:=10000000) (disch:=omega) only[pK (show (n:Int)<(a.length:Int) by omega),cT,cF,pb hn,Option.bind_some,hx',tZ,bne_self_eq_false,beq_self_eq_true,Bool.not_true,p9 (show n<9223372036854775807 by omega)])
  (λk ls=>by unfold eW;rw[pk (by omega),cF])
  (λk a=>by unfold eI;rw[pk (by omega),cF]) h0 (by omega)
 refine⟨l',k',?_,h2,h3,by omega,?_⟩
 · unfold dj;rw[h1];rfl
 · unfold eJ;rw[h5];rfl
set_option maxHeartbeats 8000000 in
theorem J2 {l:List oT} (hl:l.length<=1100000) {k:Int} (h0:0<=k) (hk:k+5500005<=9000000000000000000):∃l' k',dk l k=some (l',k')/\l'.length=l.length/\k<=k'/\k'<=k+5500005/\eL l' k=some k':=by
 obtain⟨l',k',h1,h2,h3,h4,h5⟩:=vS (l:=l) (M:=eX) (H:=eK) (B:=8999999999999999995) (c:=5) (by omega)
  (λx hx k h0 hk=>by
   refine⟨(k,k+1,k+1+1,k+1+1+1,((k+1+1+1+1).tmod 3)==0),k+1+1+1+1+1,by omega,by omega,λn ls hn hle hx'=>?_,λn a hn hle hx'=>?_⟩
   · unfold eX;simp (maxSteps:=10000000) (disch:=omega) only[pK (show (n:Int)<(ls.length:Int) by omega),cT,tY hn,length_set,Option.bind_some,List.getElem?_eq_getElem hn,u0,set_set,hx',tZ,p9 (show n<9223372036854775807 by omega)]
   · unfold eK;simp (maxSteps:=10000000) (disch:=omega) only[pK (show (n:Int)<(a.length:Int) by omega),cT,cF,pb hn,Option.bind_some,hx',tZ,bne_self_eq_false,beq_self_eq_true,Bool.not_true,p9 (show n<9223372036854775807 by omega)])
  (λk ls=>by unfold eX;rw[pk (by omega),cF])
  (λk a=>by unfold eK;rw[pk (by omega),cF]) h0 (by omega)
 refine⟨l',k',?_,h2,h3,by omega,?_⟩
 · unfold dk;rw[h1];rfl
 · unfold eL;rw[h5];rfl
set_option maxHeartbeats 8000000 in
theorem J3 {l:List oZ} (hl:l.length<=1100000) {k:Int} (h0:0<=k) (hk:k+3300003<=9000000000000000000):∃l' k',dl l k=some (l',k')/\l'.length=l.length/\k<=k'/\k'<=k+3300003/\eN l' k=some k':=by
 obtain⟨l',k',h1,h2,h3,h4,h5⟩:=vS (l:=l) (M:=eY) (H:=eM) (B:=8999999999999999997) (c:=3) (by omega)
  (λx hx k h0 hk=>by
   refine⟨(k,k+1,k+1+1),k+1+1+1,by omega,by omega,λn ls hn hle hx'=>?_,λn a hn hle hx'=>?_⟩
   · unfold eY;simp (maxSteps:=10000000) (disch:=omega) only[pK (show (n:Int)<(ls.length:Int) by omega),cT,tY hn,length_set,Option.bind_some,List.getElem?_eq_getElem hn,u0,set_set,hx',tZ,p9 (show n<9223372036854775807 by omega)]
   · unfold eM;simp (maxSteps:=10000000) (disch:=omega) only[pK (show (n:Int)<(a.length:Int) by omega),cT,cF,pb hn,Option.bind_some,hx',tZ,bne_self_eq_false,beq_self_eq_true,Bool.not_true,p9 (show n<9223372036854775807 by omega)])
  (λk ls=>by unfold eY;rw[pk (by omega),cF])
  (λk a=>by unfold eM;rw[pk (by omega),cF]) h0 (by omega)
 refine⟨l',k',?_,h2,h3,by omega,?_⟩
 · unfold dl;rw[h1];rfl
 · unfold eN;rw[h5];rfl
set_option maxHeartbeats 8000000 in
theorem DT {l:List Int} (hl:l.length<=1100000) {k:Int} (h0:0<=k) (hk:k+1100001<=9000000000000000000):∃l' k',bG l k=some (l',k')/\l'.length=l.length/\k<=k'/\k'<=k+1100001/\cl l' k=some k':=by
 obtain⟨l',k',h1,h2,h3,h4,h5⟩:=vS (l:=l) (M:=eZ) (H:=eO) (B:=8999999999999999999) (c:=1) (by omega)
  (λx hx k h0 hk=>by
   refine⟨k,k+1,by omega,by omega,λn ls hn hle hx'=>?_,λn a hn hle hx'=>?_⟩
   · unfold eZ;simp (maxSteps:=10000000) (disch:=omega) only[pK (show (n:Int)<(ls.length:Int) by omega),cT,tY hn,length_set,Option.bind_some,List.getElem?_eq_getElem hn,u0,set_set,hx',tZ,p9 (show n<9223372036854775807 by omega)]
   · unfold eO;simp (maxSteps:=10000000) (disch:=omega) only[pK (show (n:Int)<(a.length:Int) by omega),cT,cF,pb hn,Option.bind_some,hx',tZ,bne_self_eq_false,beq_self_eq_true,Bool.not_true,p9 (show n<9223372036854775807 by omega)])
  (λk ls=>by unfold eZ;rw[pk (by omega),cF])
  (λk a=>by unfold eO;rw[pk (by omega),cF]) h0 (by omega)
 refine⟨l',k',?_,h2,h3,by omega,?_⟩
 · unfold bG;rw[h1];rfl
 · unfold cl;rw[h5];rfl
def DU (x:oI):Prop:=((x.2.2.1).length<=1100000)/\((x.2.2.2.1).length<=1100000)/\((x.2.2.2.2.1).length<=1100000)/\((x.2.2.2.2.2.1).length<=1100000)
theorem DV {x:oI} (hx0:DU x) {k:Int} (h0:0<=k) (hk:k+18700017<=9000000000000000000):∃x' k',bH x k=some (x',k')/\k<=k'/\k'<=k+18700017/\cm (x.1,x.2.1,x'.2.2.1,x'.2.2.2.1,x'.2.2.2.2.1,x'.2.2.2.2.2.1,x.2.2.2.2.2.2.1,x.2.2.2.2.2.2.2.1,x.2.2.2.2.2.2.2.2.1,x.2.2.2.2.2.2.2.2.2.1,x.2.2.2.2.2.2.2.2.2.2) k=some k':=by
 obtain⟨y1,k1,e1,a1,b1,c1,f1⟩:=KY (l:=x.2.2.1) (hx0.1) (k:=k) (by omega) (by omega);obtain⟨y2,k2,e2,a2,b2,c2,f2⟩:=J2 (l:=x.2.2.2.1) (hx0.2.1) (k:=k1) (by omega) (by omega);obtain⟨y3,k3,e3,a3,b3,c3,f3⟩:=J3 (l:=x.2.2.2.2.1) (hx0.2.2.1) (k:=k2) (by omega) (by omega);obtain⟨y4,k4,e4,a4,b4,c4,f4⟩:=DT (l:=x.2.2.2.2.2.1) (hx0.2.2.2) (k:=k3) (by omega) (by omega);refine⟨(x.1,x.2.1,y1,y2,y3,y4,x.2.2.2.2.2.2.1,x.2.2.2.2.2.2.2.1,x.2.2.2.2.2.2.2.2.1,x.2.2.2.2.2.2.2.2.2.1,x.2.2.2.2.2.2.2.2.2.2),k4,?_,by omega,by omega,?_⟩
 · simp only[bH,dp,Option.bind_some,e1,e2,e3,e4]
 · simp only[cm,eP,Option.bind_some,cF,f1,pk (show ¬k1<0 by omega),f2,pk (show ¬k2<0 by omega),f3,pk (show ¬k3<0 by omega),f4,pk (show ¬k4<0 by omega)]
def EQ (x:oK):Prop:=((x.1).length<=1100000)/\((x.2.2.2.2).length<=1100000)
set_option maxHeartbeats 8000000 in
theorem J4 {l:List oK} (hl:l.length<=1100000) (ho:∀x∈l,EQ x) {k:Int} (h0:0<=k) (hk:k+2420007700005<=9000000000000000000):∃l' k',dq l k=some (l',k')/\l'.length=l.length/\k<=k'/\k'<=k+2420007700005/\eV l' k=some k':=by
 obtain⟨l',k',h1,h2,h3,h4,h5⟩:=vS (l:=l) (M:=f0) (H:=eU) (B:=8999999999997799995) (c:=2200005) (by omega)
  (λx hx k h0 hk=>by
   have hx0:=ho x hx;obtain⟨y1,k1,e1,a1,b1,c1,f1⟩:=DT (l:=x.1) (hx0.1) (k:=k) (by omega) (by omega);obtain⟨y2,t2⟩:=K0 (k:=k1+1+1) (by omega) (by omega);obtain⟨y3,k3,e3,a3,b3,c3,f3⟩:=DT (l:=x.2.2.2.2) (hx0.2) (k:=k1+1+1+1) (by omega) (by omega);refine⟨(y1,k1,k1+1,y2,y3),k3,by omega,by omega,λn ls hn hle hx'=>?_,λn a hn hle hx'=>?_⟩
   · unfold f0;simp (maxSteps:=10000000) (disch:=omega) only[pK (show (n:Int)<(ls.length:Int) by omega),cT,tY hn,length_set,Option.bind_some,List.getElem?_eq_getElem hn,u0,set_set,hx',tZ,p9 (show n<9223372036854775807 by omega),e1,t2,e3]
   · unfold eU;simp (maxSteps:=10000000) (disch:=omega) only[pK (show (n:Int)<(a.length:Int) by omega),cT,cF,pb hn,Option.bind_some,hx',tZ,bne_self_eq_false,beq_self_eq_true,Bool.not_true,p9 (show n<9223372036854775807 by omega),f1,pk (show ¬k1<0 by omega),t2,f3,pk (show ¬k3<0 by omega)])
  (λk ls=>by unfold f0;rw[pk (by omega),cF])
  (λk a=>by unfold eU;rw[pk (by omega),cF]) h0 (by omega)
 refine⟨l',k',?_,h2,h3,by omega,?_⟩
 · unfold dq;rw[h1];rfl
 · unfold eV;rw[h5];rfl
def Iq (x:ph):Prop:=((x.2.2.2.2).length<=1100000/\∀y∈x.2.2.2.2,EQ y)
theorem Ir {x:ph} (hx0:Iq x) {k:Int} (h0:0<=k) (hk:k+2420007700005<=9000000000000000000):∃x' k',cn x k=some (x',k')/\k<=k'/\k'<=k+2420007700005/\dh (x.1,x.2.1,x.2.2.1,x.2.2.2.1,x'.2.2.2.2) k=some k':=by
 obtain⟨y1,k1,e1,a1,b1,c1,f1⟩:=J4 (l:=x.2.2.2.2) (hx0.1) (hx0.2) (k:=k) (by omega) (by omega);refine⟨(x.1,x.2.1,x.2.2.1,x.2.2.2.1,y1),k1,?_,by omega,by omega,?_⟩
 · simp only[cn,dp,bH,Option.bind_some,e1]
 · simp only[dh,eP,cm,Option.bind_some,cF,f1,pk (show ¬k1<0 by omega)]
end Go.V.W

