/- The law FnExactWorkAll: part of the proof that for every input it returns true. No condition. -/
import Derived.Test.YthcdcolihokdmaaGreatFnExactWorkAll
import Derived.Test.YthcdcolihokdmaaGreatV4
open List (length_set set_set)
set_option linter.unusedVariables false
set_option linter.unusedSimpArgs false
namespace Go.V.W
theorem Lp {b:Int} {s:List UInt8}:(uX [b]++s).length=s.length+1:=by simp[uX]
theorem Lr:∀(f:Nat) (k:Int) (s:List UInt8),0<=k->k<2^f->f<=64->s.length+f<=100->∃d,wY (λz:Int×List UInt8=>eX z.1 z.2) (f+1) (k,s)=some d/\d.length<=s.length+f
 | 0,k,s,h0,h1,hf,hs=>by
  rw[vg];unfold eX;rw[show decide (k>0)=false from dF (by simp at h1;omega),cF];exact⟨s,rfl,by simp⟩
 | f+1,k,s,h0,h1,hf,hs=>by
  rw[vg];unfold eX;by_cases hk:k>0
  · have hp:(2:Int)^(f+1)=2*2^f:=by rw[Int.pow_succ];omega
    have hq:(2:Int)^(f+1)<=2^64:=by
     have:=Nat.pow_le_pow_right (n:=2) (by omega) hf;have h2:((2^(f+1):Nat):Int)<=((2^64:Nat):Int):=Int.ofNat_le.2 this
     simpa using h2
    have hd:k.tdiv 10=k/10:=Int.tdiv_eq_ediv_of_nonneg h0;have hlt:k/10<2^f:=by omega
    have hw:tR (k/10)=k/10\/True:=.inr trivial;have hc:Jk (uX [IntKind.u8.wrap (tR (48+k.tmod 10))]) s=some (uX [IntKind.u8.wrap (tR (48+k.tmod 10))]++s):=by
     unfold Jk;rw[if_pos];simp[uX,Dc];omega
    rw[dT hk,cT,hc,Option.bind_some,hd];have hw2:tR (k/10)=k/10:=xv (by omega) (by
     have:(2:Int)^64=18446744073709551616:=by decide
     omega)
    rw[hw2];obtain⟨d,h2,h3⟩:=Lr f (k/10) (uX [IntKind.u8.wrap (tR (48+k.tmod 10))]++s) (by omega) hlt (by omega) (by rw[Lp];omega);exact⟨d,h2,by rw[Lp]at h3;omega⟩
  · rw[dF hk,cF];exact⟨s,rfl,by omega⟩
theorem NP {k:Int} (h0:0<=k) (hk:k<=9000000000000000000):∃s,bL k=some s:=by
 unfold bL;by_cases h:k<=0
 · rw[dT h];exact⟨_,rfl⟩
 · rw[dF h,cF];obtain⟨d, h1, h2⟩ := Lr 64 k [] h0 (by
    have : (2 : Int)^64=18446744073709551616 := by decide
    omega) (by omega) (by simp)
   rw[yq h1,Option.bind_some];unfold Jk;rw[if_pos]
   · exact⟨_,rfl⟩
   · simp[Dc]at h2 ⊢;omega
set_option maxHeartbeats 8000000 in
theorem Ps {l:List Pt} (hl:l.length<=1100000) {k:Int} (h0:0<=k) (hk:k+8800008<=9000000000000000000):∃l' k',cI l k=some (l',k')/\l'.length=l.length/\k<=k'/\k'<=k+8800008/\dy l' k=some k':=by
 obtain⟨l',k',h1,h2,h3,h4,h5⟩:=yX (l:=l) (M:=fU) (H:=eY) (B:=8999999999999999992) (c:=8) (by omega)
  (λx hx k h0 hk=>by
   refine⟨(((k).tmod 3)==0,k+1,((k+1+1).tmod 3)==0,k+1+1+1,k+1+1+1+1,k+1+1+1+1+1,k+1+1+1+1+1+1,k+1+1+1+1+1+1+1),k+1+1+1+1+1+1+1+1,by omega,by omega,λn ls hn hle hx'=>?_,λn a hn hle hx'=>?_⟩
   · unfold fU;simp (maxSteps:=10000000) (disch:=omega) only[ux (show (n:Int)<(ls.length:Int) by omega),cT,wl hn,length_set,Option.bind_some,List.getElem?_eq_getElem hn,xw,set_set,hx',xv,ua (show n<9223372036854775807 by omega)]
   · unfold eY;simp (maxSteps:=10000000) (disch:=omega) only[ux (show (n:Int)<(a.length:Int) by omega),cT,cF,ug hn,Option.bind_some,hx',xv,bne_self_eq_false,beq_self_eq_true,Bool.not_true,ua (show n<9223372036854775807 by omega)])
  (λk ls=>by unfold fU;rw[uj (by omega),cF])
  (λk a=>by unfold eY;rw[uj (by omega),cF]) h0 (by omega)
 refine⟨l',k',?_,h2,h3,by omega,?_⟩
 · unfold cI;rw[h1];rfl
 · unfold dy;rw[h5];rfl
set_option maxHeartbeats 8000000 in
theorem Ls {l:List u0} (hl:l.length<=1100000) {k:Int} (h0:0<=k) (hk:k+5500005<=9000000000000000000):∃l' k',cJ l k=some (l',k')/\l'.length=l.length/\k<=k'/\k'<=k+5500005/\dz l' k=some k':=by
 obtain⟨l',k',h1,h2,h3,h4,h5⟩:=yX (l:=l) (M:=fV) (H:=eZ) (B:=8999999999999999995) (c:=5) (by omega)
  (λx hx k h0 hk=>by
   refine⟨(k,k+1,k+1+1,k+1+1+1,((k+1+1+1+1).tmod 3)==0),k+1+1+1+1+1,by omega,by omega,λn ls hn hle hx'=>?_,λn a hn hle hx'=>?_⟩
   · unfold fV;simp (maxSteps:=10000000) (disch:=omega) only[ux (show (n:Int)<(ls.length:Int) by omega),cT,wl hn,length_set,Option.bind_some,List.getElem?_eq_getElem hn,xw,set_set,hx',xv,ua (show n<9223372036854775807 by omega)]
   · unfold eZ;simp (maxSteps:=10000000) (disch:=omega) only[ux (show (n:Int)<(a.length:Int) by omega),cT,cF,ug hn,Option.bind_some,hx',xv,bne_self_eq_false,beq_self_eq_true,Bool.not_true,ua (show n<9223372036854775807 by omega)])
  (λk ls=>by unfold fV;rw[uj (by omega),cF])
  (λk a=>by unfold eZ;rw[uj (by omega),cF]) h0 (by omega)
 refine⟨l',k',?_,h2,h3,by omega,?_⟩
 · unfold cJ;rw[h1];rfl
 · unfold dz;rw[h5];rfl
set_option maxHeartbeats 8000000 in
theorem Lt {l:List ub} (hl:l.length<=1100000) {k:Int} (h0:0<=k) (hk:k+3300003<=9000000000000000000):∃l' k',cK l k=some (l',k')/\l'.length=l.length/\k<=k'/\k'<=k+3300003/\dA l' k=some k':=by
 obtain⟨l',k',h1,h2,h3,h4,h5⟩:=yX (l:=l) (M:=fW) (H:=f0) (B:=8999999999999999997) (c:=3) (by omega)
  (λx hx k h0 hk=>by
   refine⟨(k,k+1,k+1+1),k+1+1+1,by omega,by omega,λn ls hn hle hx'=>?_,λn a hn hle hx'=>?_⟩
   · unfold fW;simp (maxSteps:=10000000) (disch:=omega) only[ux (show (n:Int)<(ls.length:Int) by omega),cT,wl hn,length_set,Option.bind_some,List.getElem?_eq_getElem hn,xw,set_set,hx',xv,ua (show n<9223372036854775807 by omega)]
   · unfold f0;simp (maxSteps:=10000000) (disch:=omega) only[ux (show (n:Int)<(a.length:Int) by omega),cT,cF,ug hn,Option.bind_some,hx',xv,bne_self_eq_false,beq_self_eq_true,Bool.not_true,ua (show n<9223372036854775807 by omega)])
  (λk ls=>by unfold fW;rw[uj (by omega),cF])
  (λk a=>by unfold f0;rw[uj (by omega),cF]) h0 (by omega)
 refine⟨l',k',?_,h2,h3,by omega,?_⟩
 · unfold cK;rw[h1];rfl
 · unfold dA;rw[h5];rfl
set_option maxHeartbeats 8000000 in
theorem HK {l:List Int} (hl:l.length<=1100000) {k:Int} (h0:0<=k) (hk:k+1100001<=9000000000000000000):∃l' k',bx l k=some (l',k')/\l'.length=l.length/\k<=k'/\k'<=k+1100001/\bM l' k=some k':=by
 obtain⟨l',k',h1,h2,h3,h4,h5⟩:=yX (l:=l) (M:=fX) (H:=f8) (B:=8999999999999999999) (c:=1) (by omega)
  (λx hx k h0 hk=>by
   refine⟨k,k+1,by omega,by omega,λn ls hn hle hx'=>?_,λn a hn hle hx'=>?_⟩
   · unfold fX;simp (maxSteps:=10000000) (disch:=omega) only[ux (show (n:Int)<(ls.length:Int) by omega),cT,wl hn,length_set,Option.bind_some,List.getElem?_eq_getElem hn,xw,set_set,hx',xv,ua (show n<9223372036854775807 by omega)]
   · unfold f8;simp (maxSteps:=10000000) (disch:=omega) only[ux (show (n:Int)<(a.length:Int) by omega),cT,cF,ug hn,Option.bind_some,hx',xv,bne_self_eq_false,beq_self_eq_true,Bool.not_true,ua (show n<9223372036854775807 by omega)])
  (λk ls=>by unfold fX;rw[uj (by omega),cF])
  (λk a=>by unfold f8;rw[uj (by omega),cF]) h0 (by omega)
 refine⟨l',k',?_,h2,h3,by omega,?_⟩
 · unfold bx;rw[h1];rfl
 · unfold bM;rw[h5];rfl
set_option maxHeartbeats 8000000 in
theorem Q6 {l:List Int} (hl:l.length<=1100000) {k:Int} (h0:0<=k) (hk:k+1100001<=9000000000000000000):∃l' k',eg l k=some (l',k')/\l'.length=l.length/\k<=k'/\k'<=k+1100001/\fa l' k=some k':=by
 obtain⟨l',k',h1,h2,h3,h4,h5⟩:=yX (l:=l) (M:=ga) (H:=f9) (B:=8999999999999999999) (c:=1) (by omega)
  (λx hx k h0 hk=>by
   refine⟨IntKind.u8.wrap (k),k+1,by omega,by omega,λn ls hn hle hx'=>?_,λn a hn hle hx'=>?_⟩
   · unfold ga;simp (maxSteps:=10000000) (disch:=omega) only[ux (show (n:Int)<(ls.length:Int) by omega),cT,wl hn,length_set,Option.bind_some,List.getElem?_eq_getElem hn,xw,set_set,hx',xv,ua (show n<9223372036854775807 by omega)]
   · unfold f9;simp (maxSteps:=10000000) (disch:=omega) only[ux (show (n:Int)<(a.length:Int) by omega),cT,cF,ug hn,Option.bind_some,hx',xv,bne_self_eq_false,beq_self_eq_true,Bool.not_true,ua (show n<9223372036854775807 by omega)])
  (λk ls=>by unfold ga;rw[uj (by omega),cF])
  (λk a=>by unfold f9;rw[uj (by omega),cF]) h0 (by omega)
 refine⟨l',k',?_,h2,h3,by omega,?_⟩
 · unfold eg;rw[h1];rfl
 · unfold fa;rw[h5];rfl
def Ii (x:tS):Prop:=((x.1).length<=1100000)/\((x.2.2.2.2).length<=1100000)
set_option maxHeartbeats 8000000 in
theorem Lu {l:List tS} (hl:l.length<=1100000) (ho:∀x∈l,Ii x) {k:Int} (h0:0<=k) (hk:k+2420007700005<=9000000000000000000):∃l' k',cL l k=some (l',k')/\l'.length=l.length/\k<=k'/\k'<=k+2420007700005/\dC l' k=some k':=by
 obtain⟨l',k',h1,h2,h3,h4,h5⟩:=yX (l:=l) (M:=gb) (H:=fb) (B:=8999999999997799995) (c:=2200005) (by omega)
  (λx hx k h0 hk=>by
   have hx0:=ho x hx;obtain⟨y1,k1,e1,a1,b1,c1,f1⟩:=HK (l:=x.1) (hx0.1) (k:=k) (by omega) (by omega);obtain⟨y2,t2⟩:=NP (k:=k1+1+1) (by omega) (by omega);obtain⟨y3,k3,e3,a3,b3,c3,f3⟩:=HK (l:=x.2.2.2.2) (hx0.2) (k:=k1+1+1+1) (by omega) (by omega);refine⟨(y1,k1,k1+1,y2,y3),k3,by omega,by omega,λn ls hn hle hx'=>?_,λn a hn hle hx'=>?_⟩
   · unfold gb;simp (maxSteps:=10000000) (disch:=omega) only[ux (show (n:Int)<(ls.length:Int) by omega),cT,wl hn,length_set,Option.bind_some,List.getElem?_eq_getElem hn,xw,set_set,hx',xv,ua (show n<9223372036854775807 by omega),e1,t2,e3]
   · unfold fb;simp (maxSteps:=10000000) (disch:=omega) only[ux (show (n:Int)<(a.length:Int) by omega),cT,cF,ug hn,Option.bind_some,hx',xv,bne_self_eq_false,beq_self_eq_true,Bool.not_true,ua (show n<9223372036854775807 by omega),f1,uj (show ¬k1<0 by omega),t2,f3,uj (show ¬k3<0 by omega)])
  (λk ls=>by unfold gb;rw[uj (by omega),cF])
  (λk a=>by unfold fb;rw[uj (by omega),cF]) h0 (by omega)
 refine⟨l',k',?_,h2,h3,by omega,?_⟩
 · unfold cL;rw[h1];rfl
 · unfold dC;rw[h5];rfl
def NQ (x:ut):Prop:=((x.2.1).length<=1100000)/\((x.2.2.2.2.2.2.2.1).length<=1100000/\∀y∈x.2.2.2.2.2.2.2.1,Ii y)/\((x.2.2.2.2.2.2.2.2.2.2.1).length<=1100000)/\((x.2.2.2.2.2.2.2.2.2.2.2.1).length<=1100000)/\((x.2.2.2.2.2.2.2.2.2.2.2.2.1).length<=1100000)/\((x.2.2.2.2.2.2.2.2.2.2.2.2.2.1).length<=1100000)
set_option maxHeartbeats 8000000 in
theorem Rk {l:List ut} (hl:l.length<=1100000) (ho:∀x∈l,NQ x) {k:Int} (h0:0<=k) (hk:k+2662032670069300038<=9000000000000000000):∃l' k',eh l k=some (l',k')/\l'.length=l.length/\k<=k'/\k'<=k+2662032670069300038/\ff l' k=some k':=by
 obtain⟨l',k',h1,h2,h3,h4,h5⟩:=yX (l:=l) (M:=gd) (H:=fe) (B:=8999997579972499962) (c:=2420027500038) (by omega)
  (λx hx k h0 hk=>by
   have hx0:=ho x hx;obtain⟨y1,k1,e1,a1,b1,c1,f1⟩:=Q6 (l:=x.2.1) (hx0.1) (k:=k+1) (by omega) (by omega);obtain⟨y2,k2,e2,a2,b2,c2,f2⟩:=Lu (l:=x.2.2.2.2.2.2.2.1) (hx0.2.1.1) (hx0.2.1.2) (k:=k1+1+1+1+1+1) (by omega) (by omega);obtain⟨y3,t3⟩:=NP (k:=k2+1) (by omega) (by omega);obtain⟨y4,k4,e4,a4,b4,c4,f4⟩:=Ps (l:=x.2.2.2.2.2.2.2.2.2.2.1) (hx0.2.2.1) (k:=k2+1+1) (by omega) (by omega);obtain⟨y5,k5,e5,a5,b5,c5,f5⟩:=Ls (l:=x.2.2.2.2.2.2.2.2.2.2.2.1) (hx0.2.2.2.1) (k:=k4) (by omega) (by omega);obtain⟨y6,k6,e6,a6,b6,c6,f6⟩:=Lt (l:=x.2.2.2.2.2.2.2.2.2.2.2.2.1) (hx0.2.2.2.2.1) (k:=k5) (by omega) (by omega);obtain⟨y7,k7,e7,a7,b7,c7,f7⟩:=HK (l:=x.2.2.2.2.2.2.2.2.2.2.2.2.2.1) (hx0.2.2.2.2.2) (k:=k6) (by omega) (by omega);refine⟨(k,y1,k1,k1+1,k1+1+1,k1+1+1+1,k1+1+1+1+1,y2,k2,y3,y4,y5,y6,y7,k7,k7+1,k7+1+1,k7+1+1+1,k7+1+1+1+1,k7+1+1+1+1+1,k7+1+1+1+1+1+1),k7+1+1+1+1+1+1+1,by omega,by omega,λn ls hn hle hx'=>?_,λn a hn hle hx'=>?_⟩
   · unfold gd;simp (maxSteps:=10000000) (disch:=omega) only[ux (show (n:Int)<(ls.length:Int) by omega),cT,wl hn,length_set,Option.bind_some,List.getElem?_eq_getElem hn,xw,set_set,hx',xv,ua (show n<9223372036854775807 by omega),e1,e2,t3,e4,e5,e6,e7]
   · unfold fe;simp (maxSteps:=10000000) (disch:=omega) only[ux (show (n:Int)<(a.length:Int) by omega),cT,cF,ug hn,Option.bind_some,hx',xv,bne_self_eq_false,beq_self_eq_true,Bool.not_true,ua (show n<9223372036854775807 by omega),f1,uj (show ¬k1<0 by omega),f2,uj (show ¬k2<0 by omega),t3,f4,uj (show ¬k4<0 by omega),f5,uj (show ¬k5<0 by omega),f6,uj (show ¬k6<0 by omega),f7,uj (show ¬k7<0 by omega)])
  (λk ls=>by unfold gd;rw[uj (by omega),cF])
  (λk a=>by unfold fe;rw[uj (by omega),cF]) h0 (by omega)
 refine⟨l',k',?_,h2,h3,by omega,?_⟩
 · unfold eh;rw[h1];rfl
 · unfold ff;rw[h5];rfl
def Lv (x:ue):Prop:=((x.2.2.1).length<=1100000)/\((x.2.2.2.1).length<=1100000)/\((x.2.2.2.2.1).length<=1100000)/\((x.2.2.2.2.2.1).length<=1100000)/\((x.2.2.2.2.2.2.2.2.2.2.2.2.1).length<=1100000/\∀y∈x.2.2.2.2.2.2.2.2.2.2.2.2.1,NQ y)
theorem Lw {x:ue} (hx0:Lv x) {k:Int} (h0:0<=k) (hk:k+2662032670088000055<=9000000000000000000):∃x' k',cM x k=some (x',k')/\k<=k'/\k'<=k+2662032670088000055/\dD (x.1,x.2.1,x'.2.2.1,x'.2.2.2.1,x'.2.2.2.2.1,x'.2.2.2.2.2.1,x.2.2.2.2.2.2.1,x.2.2.2.2.2.2.2.1,x.2.2.2.2.2.2.2.2.1,x.2.2.2.2.2.2.2.2.2.1,x.2.2.2.2.2.2.2.2.2.2.1,x.2.2.2.2.2.2.2.2.2.2.2.1,x'.2.2.2.2.2.2.2.2.2.2.2.2.1,x.2.2.2.2.2.2.2.2.2.2.2.2.2.1,x.2.2.2.2.2.2.2.2.2.2.2.2.2.2) k=some k':=by
 obtain⟨y1,k1,e1,a1,b1,c1,f1⟩:=Ps (l:=x.2.2.1) (hx0.1) (k:=k) (by omega) (by omega);obtain⟨y2,k2,e2,a2,b2,c2,f2⟩:=Ls (l:=x.2.2.2.1) (hx0.2.1) (k:=k1) (by omega) (by omega);obtain⟨y3,k3,e3,a3,b3,c3,f3⟩:=Lt (l:=x.2.2.2.2.1) (hx0.2.2.1) (k:=k2) (by omega) (by omega);obtain⟨y4,k4,e4,a4,b4,c4,f4⟩:=HK (l:=x.2.2.2.2.2.1) (hx0.2.2.2.1) (k:=k3) (by omega) (by omega);obtain⟨y5,k5,e5,a5,b5,c5,f5⟩:=Rk (l:=x.2.2.2.2.2.2.2.2.2.2.2.2.1) (hx0.2.2.2.2.1) (hx0.2.2.2.2.2) (k:=k4) (by omega) (by omega);refine⟨(x.1,x.2.1,y1,y2,y3,y4,x.2.2.2.2.2.2.1,x.2.2.2.2.2.2.2.1,x.2.2.2.2.2.2.2.2.1,x.2.2.2.2.2.2.2.2.2.1,x.2.2.2.2.2.2.2.2.2.2.1,x.2.2.2.2.2.2.2.2.2.2.2.1,y5,x.2.2.2.2.2.2.2.2.2.2.2.2.2.1,x.2.2.2.2.2.2.2.2.2.2.2.2.2.2),k5,?_,by omega,by omega,?_⟩
 · simp only[cM,fY,fZ,Option.bind_some,e1,e2,e3,e4,e5]
 · simp only[dD,gP,gQ,Option.bind_some,cF,f1,uj (show ¬k1<0 by omega),f2,uj (show ¬k2<0 by omega),f3,uj (show ¬k3<0 by omega),f4,uj (show ¬k4<0 by omega),f5,uj (show ¬k5<0 by omega)]
def Lx (x:uY):Prop:=((x.2.2.2.2.2).length<=1100000/\∀y∈x.2.2.2.2.2,Ii y)
set_option maxHeartbeats 8000000 in
theorem Q7 {l:List uY} (hl:l.length<=1100000) (ho:∀x∈l,Lx x) {k:Int} (h0:0<=k) (hk:k+2662010890018700010<=9000000000000000000):∃l' k',ei l k=some (l',k')/\l'.length=l.length/\k<=k'/\k'<=k+2662010890018700010/\dE l' k=some k':=by
 obtain⟨l',k',h1,h2,h3,h4,h5⟩:=yX (l:=l) (M:=ge) (H:=fg) (B:=8999997579992299990) (c:=2420007700010) (by omega)
  (λx hx k h0 hk=>by
   have hx0:=ho x hx;obtain⟨y1,k1,e1,a1,b1,c1,f1⟩:=Lu (l:=x.2.2.2.2.2) (hx0.1) (hx0.2) (k:=k+1+1+1+1+1) (by omega) (by omega);refine⟨(k,k+1,k+1+1,k+1+1+1,k+1+1+1+1,y1),k1,by omega,by omega,λn ls hn hle hx'=>?_,λn a hn hle hx'=>?_⟩
   · unfold ge;simp (maxSteps:=10000000) (disch:=omega) only[ux (show (n:Int)<(ls.length:Int) by omega),cT,wl hn,length_set,Option.bind_some,List.getElem?_eq_getElem hn,xw,set_set,hx',xv,ua (show n<9223372036854775807 by omega),e1]
   · unfold fg;simp (maxSteps:=10000000) (disch:=omega) only[ux (show (n:Int)<(a.length:Int) by omega),cT,cF,ug hn,Option.bind_some,hx',xv,bne_self_eq_false,beq_self_eq_true,Bool.not_true,ua (show n<9223372036854775807 by omega),f1,uj (show ¬k1<0 by omega)])
  (λk ls=>by unfold ge;rw[uj (by omega),cF])
  (λk a=>by unfold fg;rw[uj (by omega),cF]) h0 (by omega)
 refine⟨l',k',?_,h2,h3,by omega,?_⟩
 · unfold ei;rw[h1];rfl
 · unfold dE;rw[h5];rfl
end Go.V.W

