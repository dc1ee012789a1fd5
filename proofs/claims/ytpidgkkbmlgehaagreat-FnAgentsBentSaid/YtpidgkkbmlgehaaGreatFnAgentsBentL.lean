/- The law FnAgentsBent: part of the proof that for every input it returns true. No condition. -/
import Derived.Test.YtpidgkkbmlgehaaGreatFnAgentsBentB
set_option linter.unusedVariables false
set_option linter.unusedSimpArgs false
namespace Go.V.W
theorem QY {code:List Int} (h:code.length<=1048576):∃a k,gy code=some (a,k)/\E3 a:=by
 obtain⟨c0,e0,w0⟩:=Io (code:=code) h;obtain⟨k,e1,hk⟩:=Hl h (m:=14) (by omega);have e1:aI code 14=some (k:Int):=e1
 obtain⟨c2,a,e2,w2,ha⟩:=Hm w0 (most:=k) (by omega);obtain⟨c3,n,e3,w3,_⟩:=AD w2 (l:=[0,0,0,1,2,(-1),9]) (by decide);refine⟨a,n,?_,ha⟩;unfold gy;rw[e0,Option.bind_some,e1,Option.bind_some,e2,Option.bind_some];exact vz (a:=(c3,n)) e3 rfl
theorem Nd {code:List Int} (h:code.length<=1048576):∃a k,gz code=some (a,k)/\E3 a:=by
 obtain⟨c0,e0,w0⟩:=Io (code:=code) h;obtain⟨k,e1,hk⟩:=Hl h (m:=10) (by omega);have e1:aI code 10=some (k:Int):=e1
 obtain⟨c2,a,e2,w2,ha⟩:=Hm w0 (most:=k) (by omega);obtain⟨c3,n,e3,w3,_⟩:=AD w2 (l:=[500,20,3,0,(-1),501]) (by decide);refine⟨a,n,?_,ha⟩;unfold gz;rw[e0,Option.bind_some,e1,Option.bind_some,e2,Option.bind_some];exact vz (a:=(c3,n)) e3 rfl
theorem OJ {code:List Int} (h:code.length<=1048576):∃a m,gA code=some (a,m)/\E3 a/\Je m:=by
 obtain⟨c0,e0,w0⟩:=Io (code:=code) h;obtain⟨k,e1,hk⟩:=Hl h (m:=12) (by omega);have e1:aI code 12=some (k:Int):=e1
 obtain⟨c2,a,e2,w2,ha⟩:=Hm w0 (most:=k) (by omega);obtain⟨c3,m,e3,w3,hm⟩:=Ph w2 ha.1.b;refine⟨a,m,?_,ha,hm⟩;unfold gA;rw[e0,Option.bind_some,e1,Option.bind_some,e2,Option.bind_some];exact vz (a:=(c3,m)) e3 rfl
theorem M5 {code:List Int} (h:code.length<=1048576):∃b w,gC code=some (b,w)/\wY b/\xV M b/\w.length<=M:=by
 obtain⟨c0,e0,w0⟩:=Io (code:=code) h;obtain⟨c1,b,e1,w1,h1,h2⟩:=PY w0;obtain⟨c2,w,e2,w2,hw⟩:=KC w1 (l:=[[121,97,114,100],[],[116,119,101,110,116,121,45,98,121,116,101,115,45,111,102,45,116,101,120,116],[116,119,101,110,116,121,45,111,110,101,45,98,121,116,101,115,45,116,101,120,116]]) (by decide);have hl:w.length<=30:=Iu (n:=30) hw (by decide)
 refine⟨b,w,?_,h1,h2,by show w.length<=1048576;omega⟩;unfold gC;rw[e0,Option.bind_some,e1,Option.bind_some];exact vz (a:=(c2,w)) e2 rfl
theorem fnAgentsBent_pure (code:List Int) (hw:Cs.wf (.one (.sl (.one (.int .u8)))) code):zp code=some true:=by
 unfold zp iA;by_cases hbig:(code.length:Int)>1048576
 · simp only[dT hbig,Option.bind_some,cT]
 simp only[dF hbig,Option.bind_some,cF];obtain⟨a1,k1,d1,h1⟩:=QY (code:=code) (by omega);obtain⟨r1,p1,q1,l1,n1,x1⟩:=Oj h1 k1;obtain⟨a2,k2,d2,h2⟩:=Nd (code:=code) (by omega);obtain⟨r2,p2,q2,l2,n2,x2⟩:=Pf h2 k2;obtain⟨a3,m3,d3,h3,hm⟩:=OJ (code:=code) (by omega);obtain⟨r3,p3,q3,l3⟩:=Jg h3.1 h3.2.1 (b:=m3) (by have:=hm.2;show _<=1048576;omega);obtain⟨a4,d4,h4⟩:=MK (code:=code) (by omega);obtain⟨b5,w5,d5,h5,g5,t5⟩:=M5 (code:=code) (by omega);obtain⟨r5,p5,q5,l5⟩:=Pg h5 g5 t5;rw[d1];simp only[Option.bind_some,p1,q1,d2,p2,q2,d3,p3,q3,d4,d5,p5,q5,zt h4.1,AM h4.1,B8 l1,B8 l2,B8 l3,B8 l5,H2 n1 x1,H2 n2 x2,cT,beq_self_eq_true]
end Go.V.W

