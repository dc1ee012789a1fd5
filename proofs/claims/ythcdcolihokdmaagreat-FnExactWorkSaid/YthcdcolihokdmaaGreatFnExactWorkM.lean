/- The law FnExactWork: part of the proof that for every input it returns true. No condition. -/
import Derived.Test.YthcdcolihokdmaaGreatFnExactWork
import Derived.Test.YthcdcolihokdmaaGreatV4
open List (length_set set_set)
set_option linter.unusedVariables false
set_option linter.unusedSimpArgs false
namespace Go.V.W
theorem Lh {b:Int} {s:List UInt8}:(uT [b]++s).length=s.length+1:=by simp[uT]
theorem Li:∀(f:Nat) (k:Int) (s:List UInt8),0<=k->k<2^f->f<=64->s.length+f<=100->∃d,wU (λz:Int×List UInt8=>fp z.1 z.2) (f+1) (k,s)=some d/\d.length<=s.length+f
 | 0,k,s,h0,h1,hf,hs=>by
  rw[vc];unfold fp;rw[show decide (k>0)=false from dF (by simp at h1;omega),cF];exact⟨s,rfl,by simp⟩
 | f+1,k,s,h0,h1,hf,hs=>by
  rw[vc];unfold fp;by_cases hk:k>0
  · have hp:(2:Int)^(f+1)=2*2^f:=by rw[Int.pow_succ];omega
    have hq:(2:Int)^(f+1)<=2^64:=by
     have:=Nat.pow_le_pow_right (n:=2) (by omega) hf;have h2:((2^(f+1):Nat):Int)<=((2^64:Nat):Int):=Int.ofNat_le.2 this
     simpa using h2
    have hd:k.tdiv 10=k/10:=Int.tdiv_eq_ediv_of_nonneg h0;have hlt:k/10<2^f:=by omega
    have hw:tP (k/10)=k/10\/True:=.inr trivial;have hc:Jc (uT [IntKind.u8.wrap (tP (48+k.tmod 10))]) s=some (uT [IntKind.u8.wrap (tP (48+k.tmod 10))]++s):=by
     unfold Jc;rw[if_pos];simp[uT,D7];omega
    rw[dT hk,cT,hc,Option.bind_some,hd];have hw2:tP (k/10)=k/10:=xq (by omega) (by
     have:(2:Int)^64=18446744073709551616:=by decide
     omega)
    rw[hw2];obtain⟨d,h2,h3⟩:=Li f (k/10) (uT [IntKind.u8.wrap (tP (48+k.tmod 10))]++s) (by omega) hlt (by omega) (by rw[Lh];omega);exact⟨d,h2,by rw[Lh]at h3;omega⟩
  · rw[dF hk,cF];exact⟨s,rfl,by omega⟩
theorem NH {k:Int} (h0:0<=k) (hk:k<=9000000000000000000):∃s,bY k=some s:=by
 unfold bY;by_cases h:k<=0
 · rw[dT h];exact⟨_,rfl⟩
 · rw[dF h,cF];obtain⟨d, h1, h2⟩ := Li 64 k [] h0 (by
    have : (2 : Int)^64=18446744073709551616 := by decide
    omega) (by omega) (by simp)
   rw[yn h1,Option.bind_some];unfold Jc;rw[if_pos]
   · exact⟨_,rfl⟩
   · simp[D7]at h2 ⊢;omega
set_option maxHeartbeats 8000000 in
theorem Pm {l:List Pt} (hl:l.length<=1100000) {k:Int} (h0:0<=k) (hk:k+8800008<=9000000000000000000):∃l' k',cL l k=some (l',k')/\l'.length=l.length/\k<=k'/\k'<=k+8800008/\dY l' k=some k':=by
 obtain⟨l',k',h1,h2,h3,h4,h5⟩:=yW (l:=l) (M:=fC) (H:=fq) (B:=8999999999999999992) (c:=8) (by omega)
  (λx hx k h0 hk=>by
   refine⟨(((k).tmod 3)==0,k+1,((k+1+1).tmod 3)==0,k+1+1+1,k+1+1+1+1,k+1+1+1+1+1,k+1+1+1+1+1+1,k+1+1+1+1+1+1+1),k+1+1+1+1+1+1+1+1,by omega,by omega,λn ls hn hle hx'=>?_,λn a hn hle hx'=>?_⟩
   · unfold fC;simp (maxSteps:=10000000) (disch:=omega) only[ux (show (n:Int)<(ls.length:Int) by omega),cT,wi hn,length_set,Option.bind_some,List.getElem?_eq_getElem hn,xr,set_set,hx',xq,u7 (show n<9223372036854775807 by omega)]
   · unfold fq;simp (maxSteps:=10000000) (disch:=omega) only[ux (show (n:Int)<(a.length:Int) by omega),cT,cF,ud hn,Option.bind_some,hx',xq,bne_self_eq_false,beq_self_eq_true,Bool.not_true,u7 (show n<9223372036854775807 by omega)])
  (λk ls=>by unfold fC;rw[ui (by omega),cF])
  (λk a=>by unfold fq;rw[ui (by omega),cF]) h0 (by omega)
 refine⟨l',k',?_,h2,h3,by omega,?_⟩
 · unfold cL;rw[h1];rfl
 · unfold dY;rw[h5];rfl
set_option maxHeartbeats 8000000 in
theorem Lj {l:List tZ} (hl:l.length<=1100000) {k:Int} (h0:0<=k) (hk:k+5500005<=9000000000000000000):∃l' k',cM l k=some (l',k')/\l'.length=l.length/\k<=k'/\k'<=k+5500005/\dZ l' k=some k':=by
 obtain⟨l',k',h1,h2,h3,h4,h5⟩:=yW (l:=l) (M:=fD) (H:=fr) (B:=8999999999999999995) (c:=5) (by omega)
  (λx hx k h0 hk=>by
   refine⟨(k,k+1,k+1+1,k+1+1+1,((k+1+1+1+1).tmod 3)==0),k+1+1+1+1+1,by omega,by omega,λn ls hn hle hx'=>?_,λn a hn hle hx'=>?_⟩
   · unfold fD;simp (maxSteps:=10000000) (disch:=omega) only[ux (show (n:Int)<(ls.length:Int) by omega),cT,wi hn,length_set,Option.bind_some,List.getElem?_eq_getElem hn,xr,set_set,hx',xq,u7 (show n<9223372036854775807 by omega)]
   · unfold fr;simp (maxSteps:=10000000) (disch:=omega) only[ux (show (n:Int)<(a.length:Int) by omega),cT,cF,ud hn,Option.bind_some,hx',xq,bne_self_eq_false,beq_self_eq_true,Bool.not_true,u7 (show n<9223372036854775807 by omega)])
  (λk ls=>by unfold fD;rw[ui (by omega),cF])
  (λk a=>by unfold fr;rw[ui (by omega),cF]) h0 (by omega)
 refine⟨l',k',?_,h2,h3,by omega,?_⟩
 · unfold cM;rw[h1];rfl
 · unfold dZ;rw[h5];rfl
set_option maxHeartbeats 8000000 in
theorem Lk {l:List ua} (hl:l.length<=1100000) {k:Int} (h0:0<=k) (hk:k+3300003<=9000000000000000000):∃l' k',cN l k=some (l',k')/\l'.length=l.length/\k<=k'/\k'<=k+3300003/\e9 l' k=some k':=by
 obtain⟨l',k',h1,h2,h3,h4,h5⟩:=yW (l:=l) (M:=fE) (H:=ft) (B:=8999999999999999997) (c:=3) (by omega)
  (λx hx k h0 hk=>by
   refine⟨(k,k+1,k+1+1),k+1+1+1,by omega,by omega,λn ls hn hle hx'=>?_,λn a hn hle hx'=>?_⟩
   · unfold fE;simp (maxSteps:=10000000) (disch:=omega) only[ux (show (n:Int)<(ls.length:Int) by omega),cT,wi hn,length_set,Option.bind_some,List.getElem?_eq_getElem hn,xr,set_set,hx',xq,u7 (show n<9223372036854775807 by omega)]
   · unfold ft;simp (maxSteps:=10000000) (disch:=omega) only[ux (show (n:Int)<(a.length:Int) by omega),cT,cF,ud hn,Option.bind_some,hx',xq,bne_self_eq_false,beq_self_eq_true,Bool.not_true,u7 (show n<9223372036854775807 by omega)])
  (λk ls=>by unfold fE;rw[ui (by omega),cF])
  (λk a=>by unfold ft;rw[ui (by omega),cF]) h0 (by omega)
 refine⟨l',k',?_,h2,h3,by omega,?_⟩
 · unfold cN;rw[h1];rfl
 · unfold e9;rw[h5];rfl
set_option maxHeartbeats 8000000 in
theorem HC {l:List Int} (hl:l.length<=1100000) {k:Int} (h0:0<=k) (hk:k+1100001<=9000000000000000000):∃l' k',bG l k=some (l',k')/\l'.length=l.length/\k<=k'/\k'<=k+1100001/\bZ l' k=some k':=by
 obtain⟨l',k',h1,h2,h3,h4,h5⟩:=yW (l:=l) (M:=fF) (H:=fu) (B:=8999999999999999999) (c:=1) (by omega)
  (λx hx k h0 hk=>by
   refine⟨k,k+1,by omega,by omega,λn ls hn hle hx'=>?_,λn a hn hle hx'=>?_⟩
   · unfold fF;simp (maxSteps:=10000000) (disch:=omega) only[ux (show (n:Int)<(ls.length:Int) by omega),cT,wi hn,length_set,Option.bind_some,List.getElem?_eq_getElem hn,xr,set_set,hx',xq,u7 (show n<9223372036854775807 by omega)]
   · unfold fu;simp (maxSteps:=10000000) (disch:=omega) only[ux (show (n:Int)<(a.length:Int) by omega),cT,cF,ud hn,Option.bind_some,hx',xq,bne_self_eq_false,beq_self_eq_true,Bool.not_true,u7 (show n<9223372036854775807 by omega)])
  (λk ls=>by unfold fF;rw[ui (by omega),cF])
  (λk a=>by unfold fu;rw[ui (by omega),cF]) h0 (by omega)
 refine⟨l',k',?_,h2,h3,by omega,?_⟩
 · unfold bG;rw[h1];rfl
 · unfold bZ;rw[h5];rfl
set_option maxHeartbeats 8000000 in
theorem Q0 {l:List Int} (hl:l.length<=1100000) {k:Int} (h0:0<=k) (hk:k+1100001<=9000000000000000000):∃l' k',ef l k=some (l',k')/\l'.length=l.length/\k<=k'/\k'<=k+1100001/\fw l' k=some k':=by
 obtain⟨l',k',h1,h2,h3,h4,h5⟩:=yW (l:=l) (M:=fJ) (H:=fv) (B:=8999999999999999999) (c:=1) (by omega)
  (λx hx k h0 hk=>by
   refine⟨IntKind.u8.wrap (k),k+1,by omega,by omega,λn ls hn hle hx'=>?_,λn a hn hle hx'=>?_⟩
   · unfold fJ;simp (maxSteps:=10000000) (disch:=omega) only[ux (show (n:Int)<(ls.length:Int) by omega),cT,wi hn,length_set,Option.bind_some,List.getElem?_eq_getElem hn,xr,set_set,hx',xq,u7 (show n<9223372036854775807 by omega)]
   · unfold fv;simp (maxSteps:=10000000) (disch:=omega) only[ux (show (n:Int)<(a.length:Int) by omega),cT,cF,ud hn,Option.bind_some,hx',xq,bne_self_eq_false,beq_self_eq_true,Bool.not_true,u7 (show n<9223372036854775807 by omega)])
  (λk ls=>by unfold fJ;rw[ui (by omega),cF])
  (λk a=>by unfold fv;rw[ui (by omega),cF]) h0 (by omega)
 refine⟨l',k',?_,h2,h3,by omega,?_⟩
 · unfold ef;rw[h1];rfl
 · unfold fw;rw[h5];rfl
def Ib (x:tQ):Prop:=((x.1).length<=1100000)/\((x.2.2.2.2).length<=1100000)
set_option maxHeartbeats 8000000 in
theorem Ll {l:List tQ} (hl:l.length<=1100000) (ho:∀x∈l,Ib x) {k:Int} (h0:0<=k) (hk:k+2420007700005<=9000000000000000000):∃l' k',cO l k=some (l',k')/\l'.length=l.length/\k<=k'/\k'<=k+2420007700005/\ea l' k=some k':=by
 obtain⟨l',k',h1,h2,h3,h4,h5⟩:=yW (l:=l) (M:=fK) (H:=fx) (B:=8999999999997799995) (c:=2200005) (by omega)
  (λx hx k h0 hk=>by
   have hx0:=ho x hx;obtain⟨y1,k1,e1,a1,b1,c1,f1⟩:=HC (l:=x.1) (hx0.1) (k:=k) (by omega) (by omega);obtain⟨y2,t2⟩:=NH (k:=k1+1+1) (by omega) (by omega);obtain⟨y3,k3,e3,a3,b3,c3,f3⟩:=HC (l:=x.2.2.2.2) (hx0.2) (k:=k1+1+1+1) (by omega) (by omega);refine⟨(y1,k1,k1+1,y2,y3),k3,by omega,by omega,λn ls hn hle hx'=>?_,λn a hn hle hx'=>?_⟩
   · unfold fK;simp (maxSteps:=10000000) (disch:=omega) only[ux (show (n:Int)<(ls.length:Int) by omega),cT,wi hn,length_set,Option.bind_some,List.getElem?_eq_getElem hn,xr,set_set,hx',xq,u7 (show n<9223372036854775807 by omega),e1,t2,e3]
   · unfold fx;simp (maxSteps:=10000000) (disch:=omega) only[ux (show (n:Int)<(a.length:Int) by omega),cT,cF,ud hn,Option.bind_some,hx',xq,bne_self_eq_false,beq_self_eq_true,Bool.not_true,u7 (show n<9223372036854775807 by omega),f1,ui (show ¬k1<0 by omega),t2,f3,ui (show ¬k3<0 by omega)])
  (λk ls=>by unfold fK;rw[ui (by omega),cF])
  (λk a=>by unfold fx;rw[ui (by omega),cF]) h0 (by omega)
 refine⟨l',k',?_,h2,h3,by omega,?_⟩
 · unfold cO;rw[h1];rfl
 · unfold ea;rw[h5];rfl
def NJ (x:ur):Prop:=((x.2.1).length<=1100000)/\((x.2.2.2.2.2.2.2.1).length<=1100000/\∀y∈x.2.2.2.2.2.2.2.1,Ib y)/\((x.2.2.2.2.2.2.2.2.2.2.1).length<=1100000)/\((x.2.2.2.2.2.2.2.2.2.2.2.1).length<=1100000)/\((x.2.2.2.2.2.2.2.2.2.2.2.2.1).length<=1100000)/\((x.2.2.2.2.2.2.2.2.2.2.2.2.2.1).length<=1100000)
set_option maxHeartbeats 8000000 in
theorem Re {l:List ur} (hl:l.length<=1100000) (ho:∀x∈l,NJ x) {k:Int} (h0:0<=k) (hk:k+2662032670069300038<=9000000000000000000):∃l' k',eg l k=some (l',k')/\l'.length=l.length/\k<=k'/\k'<=k+2662032670069300038/\fA l' k=some k':=by
 obtain⟨l',k',h1,h2,h3,h4,h5⟩:=yW (l:=l) (M:=fL) (H:=fy) (B:=8999997579972499962) (c:=2420027500038) (by omega)
  (λx hx k h0 hk=>by
   have hx0:=ho x hx;obtain⟨y1,k1,e1,a1,b1,c1,f1⟩:=Q0 (l:=x.2.1) (hx0.1) (k:=k+1) (by omega) (by omega);obtain⟨y2,k2,e2,a2,b2,c2,f2⟩:=Ll (l:=x.2.2.2.2.2.2.2.1) (hx0.2.1.1) (hx0.2.1.2) (k:=k1+1+1+1+1+1) (by omega) (by omega);obtain⟨y3,t3⟩:=NH (k:=k2+1) (by omega) (by omega);obtain⟨y4,k4,e4,a4,b4,c4,f4⟩:=Pm (l:=x.2.2.2.2.2.2.2.2.2.2.1) (hx0.2.2.1) (k:=k2+1+1) (by omega) (by omega);obtain⟨y5,k5,e5,a5,b5,c5,f5⟩:=Lj (l:=x.2.2.2.2.2.2.2.2.2.2.2.1) (hx0.2.2.2.1) (k:=k4) (by omega) (by omega);obtain⟨y6,k6,e6,a6,b6,c6,f6⟩:=Lk (l:=x.2.2.2.2.2.2.2.2.2.2.2.2.1) (hx0.2.2.2.2.1) (k:=k5) (by omega) (by omega);obtain⟨y7,k7,e7,a7,b7,c7,f7⟩:=HC (l:=x.2.2.2.2.2.2.2.2.2.2.2.2.2.1) (hx0.2.2.2.2.2) (k:=k6) (by omega) (by omega);refine⟨(k,y1,k1,k1+1,k1+1+1,k1+1+1+1,k1+1+1+1+1,y2,k2,y3,y4,y5,y6,y7,k7,k7+1,k7+1+1,k7+1+1+1,k7+1+1+1+1,k7+1+1+1+1+1,k7+1+1+1+1+1+1),k7+1+1+1+1+1+1+1,by omega,by omega,λn ls hn hle hx'=>?_,λn a hn hle hx'=>?_⟩
   · unfold fL;simp (maxSteps:=10000000) (disch:=omega) only[ux (show (n:Int)<(ls.length:Int) by omega),cT,wi hn,length_set,Option.bind_some,List.getElem?_eq_getElem hn,xr,set_set,hx',xq,u7 (show n<9223372036854775807 by omega),e1,e2,t3,e4,e5,e6,e7]
   · unfold fy;simp (maxSteps:=10000000) (disch:=omega) only[ux (show (n:Int)<(a.length:Int) by omega),cT,cF,ud hn,Option.bind_some,hx',xq,bne_self_eq_false,beq_self_eq_true,Bool.not_true,u7 (show n<9223372036854775807 by omega),f1,ui (show ¬k1<0 by omega),f2,ui (show ¬k2<0 by omega),t3,f4,ui (show ¬k4<0 by omega),f5,ui (show ¬k5<0 by omega),f6,ui (show ¬k6<0 by omega),f7,ui (show ¬k7<0 by omega)])
  (λk ls=>by unfold fL;rw[ui (by omega),cF])
  (λk a=>by unfold fy;rw[ui (by omega),cF]) h0 (by omega)
 refine⟨l',k',?_,h2,h3,by omega,?_⟩
 · unfold eg;rw[h1];rfl
 · unfold fA;rw[h5];rfl
def Lm (x:ue):Prop:=((x.2.2.1).length<=1100000)/\((x.2.2.2.1).length<=1100000)/\((x.2.2.2.2.1).length<=1100000)/\((x.2.2.2.2.2.1).length<=1100000)/\((x.2.2.2.2.2.2.2.2.2.2.2.2.1).length<=1100000/\∀y∈x.2.2.2.2.2.2.2.2.2.2.2.2.1,NJ y)
theorem Ln {x:ue} (hx0:Lm x) {k:Int} (h0:0<=k) (hk:k+2662032670088000055<=9000000000000000000):∃x' k',cP x k=some (x',k')/\k<=k'/\k'<=k+2662032670088000055/\ed (x.1,x.2.1,x'.2.2.1,x'.2.2.2.1,x'.2.2.2.2.1,x'.2.2.2.2.2.1,x.2.2.2.2.2.2.1,x.2.2.2.2.2.2.2.1,x.2.2.2.2.2.2.2.2.1,x.2.2.2.2.2.2.2.2.2.1,x.2.2.2.2.2.2.2.2.2.2.1,x.2.2.2.2.2.2.2.2.2.2.2.1,x'.2.2.2.2.2.2.2.2.2.2.2.2.1,x.2.2.2.2.2.2.2.2.2.2.2.2.2.1,x.2.2.2.2.2.2.2.2.2.2.2.2.2.2) k=some k':=by
 obtain⟨y1,k1,e1,a1,b1,c1,f1⟩:=Pm (l:=x.2.2.1) (hx0.1) (k:=k) (by omega) (by omega);obtain⟨y2,k2,e2,a2,b2,c2,f2⟩:=Lj (l:=x.2.2.2.1) (hx0.2.1) (k:=k1) (by omega) (by omega);obtain⟨y3,k3,e3,a3,b3,c3,f3⟩:=Lk (l:=x.2.2.2.2.1) (hx0.2.2.1) (k:=k2) (by omega) (by omega);obtain⟨y4,k4,e4,a4,b4,c4,f4⟩:=HC (l:=x.2.2.2.2.2.1) (hx0.2.2.2.1) (k:=k3) (by omega) (by omega);obtain⟨y5,k5,e5,a5,b5,c5,f5⟩:=Re (l:=x.2.2.2.2.2.2.2.2.2.2.2.2.1) (hx0.2.2.2.2.1) (hx0.2.2.2.2.2) (k:=k4) (by omega) (by omega);refine⟨(x.1,x.2.1,y1,y2,y3,y4,x.2.2.2.2.2.2.1,x.2.2.2.2.2.2.2.1,x.2.2.2.2.2.2.2.2.1,x.2.2.2.2.2.2.2.2.2.1,x.2.2.2.2.2.2.2.2.2.2.1,x.2.2.2.2.2.2.2.2.2.2.2.1,y5,x.2.2.2.2.2.2.2.2.2.2.2.2.2.1,x.2.2.2.2.2.2.2.2.2.2.2.2.2.2),k5,?_,by omega,by omega,?_⟩
 · simp only[cP,fG,fH,Option.bind_some,e1,e2,e3,e4,e5]
 · simp only[ed,gT,gU,Option.bind_some,cF,f1,ui (show ¬k1<0 by omega),f2,ui (show ¬k2<0 by omega),f3,ui (show ¬k3<0 by omega),f4,ui (show ¬k4<0 by omega),f5,ui (show ¬k5<0 by omega)]
def Lo (x:vB):Prop:=((x.2.2.2.2.2).length<=1100000/\∀y∈x.2.2.2.2.2,Ib y)
set_option maxHeartbeats 8000000 in
theorem Q1 {l:List vB} (hl:l.length<=1100000) (ho:∀x∈l,Lo x) {k:Int} (h0:0<=k) (hk:k+2662010890018700010<=9000000000000000000):∃l' k',eh l k=some (l',k')/\l'.length=l.length/\k<=k'/\k'<=k+2662010890018700010/\ee l' k=some k':=by
 obtain⟨l',k',h1,h2,h3,h4,h5⟩:=yW (l:=l) (M:=fM) (H:=fB) (B:=8999997579992299990) (c:=2420007700010) (by omega)
  (λx hx k h0 hk=>by
   have hx0:=ho x hx;obtain⟨y1,k1,e1,a1,b1,c1,f1⟩:=Ll (l:=x.2.2.2.2.2) (hx0.1) (hx0.2) (k:=k+1+1+1+1+1) (by omega) (by omega);refine⟨(k,k+1,k+1+1,k+1+1+1,k+1+1+1+1,y1),k1,by omega,by omega,λn ls hn hle hx'=>?_,λn a hn hle hx'=>?_⟩
   · unfold fM;simp (maxSteps:=10000000) (disch:=omega) only[ux (show (n:Int)<(ls.length:Int) by omega),cT,wi hn,length_set,Option.bind_some,List.getElem?_eq_getElem hn,xr,set_set,hx',xq,u7 (show n<9223372036854775807 by omega),e1]
   · unfold fB;simp (maxSteps:=10000000) (disch:=omega) only[ux (show (n:Int)<(a.length:Int) by omega),cT,cF,ud hn,Option.bind_some,hx',xq,bne_self_eq_false,beq_self_eq_true,Bool.not_true,u7 (show n<9223372036854775807 by omega),f1,ui (show ¬k1<0 by omega)])
  (λk ls=>by unfold fM;rw[ui (by omega),cF])
  (λk a=>by unfold fB;rw[ui (by omega),cF]) h0 (by omega)
 refine⟨l',k',?_,h2,h3,by omega,?_⟩
 · unfold eh;rw[h1];rfl
 · unfold ee;rw[h5];rfl
end Go.V.W

