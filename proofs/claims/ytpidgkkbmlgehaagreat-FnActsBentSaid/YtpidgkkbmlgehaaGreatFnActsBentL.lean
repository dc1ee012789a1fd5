/- The law FnActsBent: part of the proof that for every input it returns true. No condition. -/
import Derived.Test.YtpidgkkbmlgehaaGreatFnActsBentB
set_option linter.unusedVariables false
set_option linter.unusedSimpArgs false
namespace Go.V.W
theorem Tn {code:List Int} (h:code.length<=1048576):∃a x,ir code=some (a,x)/\BH a/\D8 x:=by
 obtain⟨c0,e0,w0⟩:=Q2 (code:=code) h;obtain⟨k,e1,hk⟩:=Nk h (m:=10) (by omega);have e1:bj code 10=some (k:Int):=e1
 obtain⟨c2,a,e2,w2,ha⟩:=Qx w0 (most:=k) (by omega);obtain⟨c3,x,e3,w3,hx⟩:=OR w2 ha.1.b;obtain⟨c4,t,e4,w4⟩:=Hb w3 10;unfold ir;rw[e0,Option.bind_some,e1,Option.bind_some,e2,Option.bind_some];cases t with
 | false=>exact⟨a,x,wa (a:=(c3,x)) e3 (wa (a:=(c4,false)) e4 rfl),ha,hx⟩
 | true =>
  obtain⟨c5,r,e5,w5,_⟩:=xl w4 8;exact⟨a,_,wa (a:=(c3,x)) e3 (wa (a:=(c4,true)) e4 (wa (a:=(c5,r)) e5 rfl)),ha,hx⟩
theorem fnActsBent_pure (code:List Int) (hw:Cs.wf (.one (.sl (.one (.int .u8)))) code):Cj code=some true:=by
 unfold Cj jt;by_cases hbig:(code.length:Int)>1048576
 · simp only[dT hbig,Option.bind_some,cT]
 simp only[dF hbig,Option.bind_some,cF];obtain⟨a1,y1,d1,h1,x1⟩:=Tn (code:=code) (by omega);obtain⟨r1,r2,r3,r4,r5,_⟩:=Sp h1 x1;obtain⟨a2,l2,d2,h2,n2,x2⟩:=OS (code:=code) (by omega);obtain⟨p1,p2⟩:=TG h2 (by omega) x2;obtain⟨s1,s2,s3⟩:=p2.same;obtain⟨b,m,d3,h3,g3,n3,x3⟩:=LM (code:=code) (by omega);have hl:m.length<=M:=by show _<=1048576;omega
 obtain⟨f1,f2⟩:=H9 (m.take 60) b h3 g3;have t1:=IB r2.2.1
 have t2:=JH (l:=(zD a1 y1).2.1) (by show _<=1048576;omega);have t3:=JG (l:=(zD a1 y1).2.2) (by show _<=1048576;omega) r5
 have o3:cL (H8 m b) (H8 m b)=some true:=En f2;rw[d1];simp only[Option.bind_some,r1,OW h1 x1,d2,p1,TM h2 (show l2.length<=60 by omega) x2,d3,t1,t2,t3,s1,s2,s3,cT,TF h3 g3 hl,TL h3 g3 hl,o3]
end Go.V.W

