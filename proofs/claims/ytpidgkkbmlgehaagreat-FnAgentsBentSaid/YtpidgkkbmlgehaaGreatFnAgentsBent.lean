/- The law FnAgentsBent: part of the proof that for every input it returns true. No condition. -/
import Derived.Test.YtpidgkkbmlgehaaGreatFnAgentsBentP1
set_option linter.unusedVariables false
set_option linter.unusedSimpArgs false
namespace Go.V.W
open Go.Proofs
noncomputable section
def iO:FL:=(141,⟨[.ptr uK none,.val false (.one (.sl FO)) false],[.val false FO (some true)],λa=>aM a.1 a.2⟩)::iP
theorem nY:Gd iO:=tv nZ 141 Tryz.f141 [] Tryz.func141
def dv (ports0:Int) (i5:Int) (b1:List Int):Option ((Int×List Int)⊕(List Int)) :=
 cond (decide (i5<ports0))
 ((tJ b1 ([1]:List Int)).bind λzs27 =>
 some (.inl (te (i5+1),zs27)))
 (some (.inr b1))
def eF (ports0:Int):Option uj :=
 (ae ports0 1 6).bind λt7 =>
 cond (!t7)
 (some ([],[]))
 ((shl .i64 1 (IntKind.u64.wrap (ports0))).bind λt12 =>
 (loop (λz=>dv ports0 z.1 z.2) (0,[])).bind λd =>
 some ([(1,te (t12-1),te (t12-1))],d))
def iQ:FL:=(265,⟨[.val false tu false],[.val true vB (some true)],λa=>eF a⟩)::iO
theorem o4:Gd iQ:=tv nY 265 Tryz.f265 [(0,⟨⟨[(5,false,[dI])],[(1054720,.box [.same 1052672,.own 1000000000]),(1000000000,.root tu true)]⟩,
 ⟨[],[(1054720,.box [.same 1052672,.own 1000000300]),(1000000300,.root tu true)]⟩,none⟩)] Tryz.func265
def dw (ports1:Int) (i6:Int) (b0:Int) (b1:List UInt8) (b6:Int) (b7:Int) (b8:Int) (b9:Int) (b10:Int) (b2:List Pt) (b3:List tk):Option ((Int×Int×List UInt8×Int×Int×Int×Int×Int×List Pt×List tk)⊕(Int×List UInt8×Int×Int×Int×Int×Int×List Pt×List tk)) :=
 cond (decide (i6<ports1))
 ((tJ b2 [(false,1,false,0,0,0,0,0)]).bind λzs29 =>
 some (.inl (te (i6+1),b0,b1,b6,b7,b8,b9,b10,zs29,b3)))
 (some (.inr (b0,b1,b6,b7,b8,b9,b10,b2,b3)))
def eG (id0:Int) (ports1:Int):Option td :=
 (ae id0 1 99).bind λt8 =>
 (cond (!t8)
 (some true)
 ((ae ports1 1 6).bind λt12 =>
 some (!t12))).bind λt14 =>
 cond t14
 (some (0,[],[],[],[],[],0,0,0,0,0))
 ((eF ports1).bind λt18 =>
 (loop (λz=>dw ports1 z.1 z.2.1 z.2.2.1 z.2.2.2.1 z.2.2.2.2.1 z.2.2.2.2.2.1 z.2.2.2.2.2.2.1 z.2.2.2.2.2.2.2.1 z.2.2.2.2.2.2.2.2.1 z.2.2.2.2.2.2.2.2.2) (0,id0,[],0,0,0,0,0,[],[])).bind λd =>
 some (d.1,d.2.1,d.2.2.2.2.2.2.2.1,d.2.2.2.2.2.2.2.2,t18.1,t18.2,d.2.2.1,d.2.2.2.1,d.2.2.2.2.1,d.2.2.2.2.2.1,d.2.2.2.2.2.2.1))
def iR:FL:=(158,⟨[.val false tu false,.val false tu false],[.val true tK (some true)],λa=>eG a.1 a.2⟩)::iQ
theorem o5:Gd iR:=tv o4 158 Tryz.f158 [(0,⟨⟨[(6,false,[dI])],[(791552,.box [dI,dS,.own 1000000000,.own 1000000001,.same 789504,.same 789505,dI,dI,dI,dI,dI]),(1000000000,.root vD true),(1000000001,.root tT true)]⟩,
 ⟨[],[(791552,.box [dI,dS,.own 1000000300,.own 1000000301,.same 789504,.same 789505,dI,dI,dI,dI,dI]),(1000000300,.root vD true),(1000000301,.root tT true)]⟩,none⟩)] Tryz.func158
def eH (c0:tD):Option (tD×zN) :=
 (aa c0 5).bind λt4 =>
 (ah t4.1 ([0,1,2,5,10,100]:List Int)).bind λt8 =>
 (ah t8.1 ([0,1,2,9,10]:List Int)).bind λt11 =>
 (aa t11.1 5).bind λt13 =>
 (aa t13.1 4).bind λt16 =>
 some (t16.1,(te (1+t4.2),t8.2,t11.2,te (1+t13.2),t16.2))
def iS:FL:=(252,⟨[.ptr uK none],[.val true yr (some true)],λa=>eH a⟩)::iR
theorem o6:Gd iS:=tv o5 252 Tryz.f252 [] Tryz.func252
def dx (n1:Int) (i6:Int) (b0:List Int) (b1:Int) (b2:Int) (out5:List Pt):Option ((Int×List Int×Int×Int×List Pt)⊕(List Int×Int×Int×List Pt)) :=
 cond (decide (i6<n1))
 ((bA (b0,b1,b2) 4).bind λt15 =>
 (ah t15.1 ([1,1,2,5,10]:List Int)).bind λt19 =>
 cond (!t15.2)
 ((bA t19.1 4).bind λt25 =>
 cond (!t25.2)
 ((eH t25.1).bind λt30 =>
 (tJ out5 [(!t15.2,t19.2,true,t30.2.1,t30.2.2.1,t30.2.2.2.1,t30.2.2.2.2.1,t30.2.2.2.2.2)]).bind λzs35 =>
 some (.inl (te (i6+1),t30.1.1,t30.1.2.1,t30.1.2.2,zs35)))
 ((tJ out5 [(!t15.2,t19.2,false,0,0,0,0,0)]).bind λzs35_1 =>
 some (.inl (te (i6+1),t25.1.1,t25.1.2.1,t25.1.2.2,zs35_1))))
 ((tJ out5 [(!t15.2,t19.2,false,0,0,0,0,0)]).bind λzs35_2 =>
 some (.inl (te (i6+1),t19.1.1,t19.1.2.1,t19.1.2.2,zs35_2))))
 (some (.inr (b0,b1,b2,out5)))
def cn (c0:tD) (n1:Int):Option (tD×List Pt) :=
 (loop (λz=>dx n1 z.1 z.2.1 z.2.2.1 z.2.2.2.1 z.2.2.2.2) (0,c0.1,c0.2.1,c0.2.2,([]:List Pt))).bind λd =>
 some ((d.1,d.2.1,d.2.2.1),d.2.2.2)
def iT:FL:=(159,⟨[.ptr uK none,.val false tu false],[.val false (.one (.sl vD)) (some true)],λa=>cn a.1 a.2⟩)::iS
theorem o7:Gd iT:=tv o6 159 Tryz.f159 [(0,⟨⟨(5,false,[.own 1000000000])::(6,false,[dI])::us 24 3 [],[(1,.box [.dat (.sl (.one (.int .u8))),dI,dI]),(1000000000,.root vD true)]⟩,
 ⟨[(5,false,[.own 1000000300])],[(1,.box [.dat (.sl (.one (.int .u8))),dI,dI]),(1000000300,.root vD true)]⟩,none⟩)] Tryz.func159
def dy (x0:uj) (v1:uj):Option (uj×Bool) :=
 (aN x0 (v1.2.length:Int)).bind λt10 =>
 cond (!t10)
 ((aO v1).bind λt13 =>
 some (t13,false))
 (some (x0,true))
def iU:FL:=(331,⟨[.val true vB true,.val true vB false],[.val true vB (some true),.val false uf (some true)],λa=>dy a.1 a.2⟩)::iT
theorem o8:Gd iU:=tv o7 331 Tryz.f331 [] Tryz.func331
def eI (v0:uj) (port1:Int) (id2:Int):Option (uj×Bool) :=
 (aN v0 (v0.2.length:Int)).bind λt13 =>
 (cond (!t13)
 (some true)
 ((ae port1 0 (te ((v0.2.length:Int)-1))).bind λt21 =>
 some (!t21))).bind λt23 =>
 cond t23
 ((aO v0).bind λt25 =>
 some (t25,false))
 ((aO v0).bind λt27 =>
 (ix t27.2.length port1).bind λj32 =>
 (t27.2[j32]?).bind λx =>
 (dy (t27.1,t27.2.set j32 id2) v0).bind λt35 =>
 some t35)
def iV:FL:=(266,⟨[.val true vB false,.val false tu false,.val false tu false],[.val true vB (some true),.val false uf (some true)],λa=>eI a.1 a.2.1 a.2.2⟩)::iU
theorem o9:Gd iV:=tv o8 266 Tryz.f266 [] Tryz.func266
def eJ (v0:uj) (id1:Int):Option (uj×Bool) :=
 (bn v0 id1).bind λt10 =>
 (aN v0 (v0.2.length:Int)).bind λt15 =>
 (cond (!t15) (some true) (some (decide (t10<0)))).bind λt20 =>
 cond t20
 ((aO v0).bind λt22 =>
 some (t22,false))
 ((aO v0).bind λt24 =>
 (cut v0.1 0 t10).bind λt29 =>
 (tJ ([]:List tC) t29).bind λzs30 =>
 (cut v0.1 (te (t10+1)) (v0.1.length:Int)).bind λt35 =>
 (tJ zs30 t35).bind λzs36 =>
 (dy (zs36,t24.2) v0).bind λt40 =>
 some t40)
def iW:FL:=(267,⟨[.val true vB false,.val false tu false],[.val true vB (some true),.val false uf (some true)],λa=>eJ a.1 a.2⟩)::iV
theorem oa:Gd iW:=tv o9 267 Tryz.f267 [] Tryz.func267
def az (p0:uj) (i1:tC) (t6:Bool) (t7:Int) (b0:List tC):Option ((Bool×Int×List tC)⊕(Bool×List tC)) :=
 cond (decide (t7<(p0.1.length:Int)))
 ((cond (!t6)
 ((at? p0.1 t7).bind λx26 =>
 some (decide (x26.1>=i1.1)))
 (some false)).bind λt32 =>
 cond t32
 ((tJ b0 [i1]).bind λzs37 =>
 (at? p0.1 t7).bind λx42 =>
 cond (x42.1 != i1.1)
 ((at? p0.1 t7).bind λx53 =>
 (tJ zs37 [x53]).bind λzs56 =>
 some (.inl (true,te (t7+1),zs56)))
 (some (.inl (true,te (t7+1),zs37))))
 ((at? p0.1 t7).bind λx42_1 =>
 cond (x42_1.1 != i1.1)
 ((at? p0.1 t7).bind λx53_1 =>
 (tJ b0 [x53_1]).bind λzs56_1 =>
 some (.inl (t6,te (t7+1),zs56_1)))
 (some (.inl (t6,te (t7+1),b0)))))
 (some (.inr (t6,b0)))
def aF (p0:uj) (i1:tC):Option uj :=
 (tJ ([]:List Int) p0.2).bind λzs11 =>
 (loop (λz=>az p0 i1 z.1 z.2.1 z.2.2) (false,0,[])).bind λd =>
 cond (!d.1)
 ((tJ d.2 [i1]).bind λzs64 =>
 some (zs64,zs11))
 (some (d.2,zs11))
def iX:FL:=(298,⟨[.val true vB false,.val true uq false],[.val true vB (some true)],λa=>aF a.1 a.2⟩)::iW
theorem ob:Gd iX:=tv oa 298 Tryz.f298 [(0,⟨⟨(6,false,[dB])::(7,false,[dI])::us 23 9 [],[(268288,.box [.own 1000000000,.same 266240]),(1000000000,.root uq true)]⟩,
 ⟨[(6,false,[dB])],[(268288,.box [.own 1000000300,.same 266240]),(1000000300,.root uq true)]⟩,none⟩)] Tryz.func298
def eK (v0:uj) (r1:tC):Option (uj×Bool) :=
 (aN v0 (v0.2.length:Int)).bind λt10 =>
 cond (!t10)
 ((aO v0).bind λt13 =>
 some (t13,false))
 ((aF v0 r1).bind λt16 =>
 (dy t16 v0).bind λt18 =>
 some t18)
def iY:FL:=(268,⟨[.val true vB false,.val true uq false],[.val true vB (some true),.val false uf (some true)],λa=>eK a.1 a.2⟩)::iX
theorem oc:Gd iY:=tv ob 268 Tryz.f268 [] Tryz.func268
def fK (c0:tD) (ports1:Int):Option (tD×tC) :=
 (shl .i64 1 (IntKind.u64.wrap (ports1))).bind λt9 =>
 (aa c0 (te ((te (t9-1))+1))).bind λt14 =>
 (ah t14.1 ([1,2,3,2]:List Int)).bind λt17 =>
 (aa t17.1 (te ((te (t9-1))+1))).bind λt23 =>
 some (t23.1,(t17.2,t14.2,wT .i64 t14.2 t23.2))
def iZ:FL:=(269,⟨[.ptr uK none,.val false tu false],[.val true uq (some true)],λa=>fK a.1 a.2⟩)::iY
theorem od:Gd iZ:=tv oc 269 Tryz.f269 [] Tryz.func269
def dz (ports1:Int) (i6:Int) (b0:List Int) (b1:Int) (b2:Int) (b0_1:List tC) (b1_1:List Int):Option ((Int×List Int×Int×Int×List tC×List Int)⊕(List Int×Int×Int×List tC×List Int)) :=
 cond (decide (i6>0))
 ((aa (b0,b1,b2) 4).bind λt16 =>
 cond (t16.2==0)
 ((aa t16.1 ports1).bind λt31 =>
 (aa t31.1 3).bind λt33 =>
 (eI (b0_1,b1_1) t31.2 (te (1+t33.2))).bind λt35 =>
 some (.inl (te (i6-1),t33.1.1,t33.1.2.1,t33.1.2.2,t35.1.1,t35.1.2)))
 (cond (t16.2==1)
 ((aa t16.1 2).bind λt43 =>
 (eJ (b0_1,b1_1) (te (2+t43.2))).bind λt45 =>
 some (.inl (te (i6-1),t43.1.1,t43.1.2.1,t43.1.2.2,t45.1.1,t45.1.2)))
 ((fK t16.1 ports1).bind λt21 =>
 (eK (b0_1,b1_1) t21.2).bind λt22 =>
 some (.inl (te (i6-1),t21.1.1,t21.1.2.1,t21.1.2.2,t22.1.1,t22.1.2)))))
 (some (.inr (b0,b1,b2,b0_1,b1_1)))
def co (c0:tD) (ports1:Int):Option (tD×uj) :=
 (eF ports1).bind λt8 =>
 (aa c0 6).bind λt10 =>
 (loop (λz=>dz ports1 z.1 z.2.1 z.2.2.1 z.2.2.2.1 z.2.2.2.2.1 z.2.2.2.2.2) (t10.2,t10.1.1,t10.1.2.1,t10.1.2.2,t8.1,t8.2)).bind λd =>
 some ((d.1,d.2.1,d.2.2.1),d.2.2.2)
def ja:FL:=(160,⟨[.ptr uK none,.val false tu false],[.val true vB (some true)],λa=>co a.1 a.2⟩)::iZ
theorem oe:Gd ja:=tv od 160 Tryz.f160 [(0,⟨⟨[(6,false,[dI])],[(1,.box [.dat (.sl (.one (.int .u8))),dI,dI]),(265216,.box [.own 1000000000,.own 1000000001]),(1000000000,.root uq true),(1000000001,.root tu true)]⟩,
 ⟨[],[(1,.box [.dat (.sl (.one (.int .u8))),dI,dI]),(265216,.box [.own 1000000300,.own 1000000301]),(1000000300,.root uq true),(1000000301,.root tu true)]⟩,none⟩)] Tryz.func160
def aP (l0:List tk) (tag1:Int) (mac2:Int) (i7:Int):Option (Int⊕(Unit⊕Int)) :=
 cond (decide (i7<(l0.length:Int)))
 ((at? l0 i7).bind λx16 =>
 (cond (x16.1==tag1)
 ((at? l0 i7).bind λx24 =>
 some (x24.2.1==mac2))
 (some false)).bind λt29 =>
 cond t29 (some (.inr (.inr i7))) (some (.inl (te (i7+1)))))
 (some (.inr (.inl ())))
def bQ (l0:List tk) (tag1:Int) (mac2:Int):Option Int :=
 (loop (λz=>aP l0 tag1 mac2 z) 0).bind (Sum.elim (λd =>
 some (-1)) (λr=>some r))
def jb:FL:=(270,⟨[.val false (.one (.sl tT)) false,.val false tu false,.val false tu false],[.val false tu (some true)],λa=>bQ a.1 a.2.1 a.2.2⟩)::ja
theorem og:Gd jb:=tv oe 270 Tryz.f270 [(0,⟨⟨(7,false,[dI])::us 22 7 [],[]⟩,
 ⟨[],[]⟩,some ⟨[(6,false,[dI])],[]⟩⟩)] Tryz.func270
def cp (p0:List tk) (i1:tk) (t6:Bool) (t7:Int) (t5:List tk):Option ((Bool×Int×List tk)⊕(Bool×List tk)) :=
 cond (decide (t7<(p0.length:Int)))
 ((cond (!t6)
 ((at? p0 t7).bind λx20 =>
 (bR x20 i1.1 i1.2.1).bind λt26 =>
 some (!t26))
 (some false)).bind λt28 =>
 cond t28
 ((tJ t5 [i1]).bind λzs32 =>
 (at? p0 t7).bind λx35 =>
 (cond (x35.1 != i1.1)
 (some true)
 ((at? p0 t7).bind λx44 =>
 some (x44.2.1 != i1.2.1))).bind λt50 =>
 cond t50
 ((at? p0 t7).bind λx54 =>
 (tJ zs32 [x54]).bind λzs57 =>
 some (.inl (true,te (t7+1),zs57)))
 (some (.inl (true,te (t7+1),zs32))))
 ((at? p0 t7).bind λx35_1 =>
 (cond (x35_1.1 != i1.1)
 (some true)
 ((at? p0 t7).bind λx44_1 =>
 some (x44_1.2.1 != i1.2.1))).bind λt50_1 =>
 cond t50_1
 ((at? p0 t7).bind λx54_1 =>
 (tJ t5 [x54_1]).bind λzs57_1 =>
 some (.inl (t6,te (t7+1),zs57_1)))
 (some (.inl (t6,te (t7+1),t5)))))
 (some (.inr (t6,t5)))
def eL (p0:List tk) (i1:tk):Option (List tk) :=
 (loop (λz=>cp p0 i1 z.1 z.2.1 z.2.2) (false,0,([]:List tk))).bind λd =>
 cond (!d.1)
 ((tJ d.2 [i1]).bind λzs63 =>
 some zs63)
 (some d.2)
def jc:FL:=(271,⟨[.val false (.one (.sl tT)) false,.val true tT false],[.val false (.one (.sl tT)) (some true)],λa=>eL a.1 a.2⟩)::jb
theorem oh:Gd jc:=tv og 271 Tryz.f271 [(0,⟨⟨(5,false,[.own 1000000000])::(6,false,[dB])::(7,false,[dI])::us 18 10 (us 42 8 []),[(1000000000,.root tT true)]⟩,
 ⟨[(5,false,[.own 1000000300]),(6,false,[dB])],[(1000000300,.root tT true)]⟩,none⟩)] Tryz.func271
def eM (l0:List tk) (tag1:Int) (mac2:Int) (port3:Int):Option (List tk) :=
 (bQ l0 tag1 mac2).bind λt18 =>
 (cq l0).bind λt20 =>
 (cond (!t20)
 (some true)
 ((cr (tag1,mac2,port3,0,false)).bind λt24 =>
 some (!t24))).bind λt26 =>
 (cond t26
 (some true)
 ((cond (decide (t18>=0))
 ((at? l0 t18).bind λx33 =>
 some x33.2.2.2.2)
 (some false)).bind λt36 =>
 some t36)).bind λt37 =>
 (cond t37
 (some true)
 ((cond (decide (t18<0)) (some (decide ((l0.length:Int)>=12))) (some false)).bind λt45 =>
 some t45)).bind λt46 =>
 cond t46
 ((bS l0).bind λt48 =>
 some t48)
 ((eL l0 (tag1,mac2,port3,0,false)).bind λt51 =>
 some t51)
def jd:FL:=(161,⟨[.val false (.one (.sl tT)) false,.val false tu false,.val false tu false,.val false tu false],[.val false (.one (.sl tT)) (some true)],λa=>eM a.1 a.2.1 a.2.2.1 a.2.2.2⟩)::jc
theorem oi:Gd jd:=tv oh 161 Tryz.f161 [] Tryz.func161
def bT (c0:tD):Option (tD×Int) :=
 (ah c0 ([11,12,13,14]:List Int)).bind λt5 =>
 some t5
def je:FL:=(162,⟨[.ptr uK none],[.val false tu (some true)],λa=>bT a⟩)::jd
theorem oj:Gd je:=tv oi 162 Tryz.f162 [] Tryz.func162
def dA (l0:List tk) (tag1:Int) (mac2:Int) (port3:Int):Option ((List tk)×Bool) :=
 (cq l0).bind λt16 =>
 (cond (!t16)
 (some true)
 ((cr (tag1,mac2,port3,0,true)).bind λt20 =>
 some (!t20))).bind λt22 =>
 (cond t22
 (some true)
 ((bQ l0 tag1 mac2).bind λt27 =>
 (cond (decide (t27<0)) (some (decide ((l0.length:Int)>=12))) (some false)).bind λt33 =>
 some t33)).bind λt34 =>
 cond t34
 ((bS l0).bind λt36 =>
 some (t36,false))
 ((eL l0 (tag1,mac2,port3,0,true)).bind λt39 =>
 some (t39,true))
def jf:FL:=(163,⟨[.val false (.one (.sl tT)) false,.val false tu false,.val false tu false,.val false tu false],[.val false (.one (.sl tT)) (some true),.val false uf (some true)],λa=>dA a.1 a.2.1 a.2.2.1 a.2.2.2⟩)::je
theorem om:Gd jf:=tv oj 163 Tryz.f163 [] Tryz.func163
def dC (t7:tD×Int) (t5:Int) (b0:List Int) (b1:Int) (b2:Int) (b0_1:Int) (b1_1:List UInt8) (b6:Int) (b7:Int) (b8:Int) (b9:Int) (b10:Int) (b3:List tk):Option ((Int×List Int×Int×Int×Int×List UInt8×Int×Int×Int×Int×Int×List tk)⊕(List Int×Int×Int×Int×List UInt8×Int×Int×Int×Int×Int×List tk)) :=
 cond (decide (t5>0))
 ((aa (b0,b1,b2) 3).bind λt35 =>
 (bT t35.1).bind λt38 =>
 (aa t38.1 (te (1+t7.2))).bind λt41 =>
 (eM b3 (te (1+t35.2)) t38.2 t41.2).bind λt42 =>
 some (.inl (te (t5-1),t41.1.1,t41.1.2.1,t41.1.2.2,b0_1,b1_1,b6,b7,b8,b9,b10,t42)))
 (some (.inr (b0,b1,b2,b0_1,b1_1,b6,b7,b8,b9,b10,b3)))
def ct (p0:tD):Option (tD×td) :=
 (aa p0 4).bind λt7 =>
 (aa t7.1 5).bind λt10 =>
 (eG (te (1+t10.2)) (te (1+t7.2))).bind λt13 =>
 (aM t10.1 ([[],[121,97,114,100],[98,49]]:List (List UInt8))).bind λt16 =>
 (cn t16.1 (te (1+t7.2))).bind λt20 =>
 (co t20.1 (te (1+t7.2))).bind λt24 =>
 (aa t24.1 6).bind λt27 =>
 (loop (λz=>dC t7 z.1 z.2.1 z.2.2.1 z.2.2.2.1 z.2.2.2.2.1 z.2.2.2.2.2.1 z.2.2.2.2.2.2.1 z.2.2.2.2.2.2.2.1 z.2.2.2.2.2.2.2.2.1 z.2.2.2.2.2.2.2.2.2.1 z.2.2.2.2.2.2.2.2.2.2.1 z.2.2.2.2.2.2.2.2.2.2.2) (t27.2,t27.1.1,t27.1.2.1,t27.1.2.2,t13.1,t16.2,t13.2.2.2.2.2.2.1,t13.2.2.2.2.2.2.2.1,t13.2.2.2.2.2.2.2.2.1,t13.2.2.2.2.2.2.2.2.2.1,t13.2.2.2.2.2.2.2.2.2.2,t13.2.2.2.1)).bind λd =>
 (bA (d.1,d.2.1,d.2.2.1) 3).bind λt45 =>
 cond t45.2
 ((bT t45.1).bind λt50 =>
 (aa t50.1 (te (1+t7.2))).bind λt53 =>
 (dA d.2.2.2.2.2.2.2.2.2.2 1 t50.2 t53.2).bind λt54 =>
 (aa t53.1 5).bind λt59 =>
 (ah t59.1 ([0,1,5,1000000]:List Int)).bind λt63 =>
 some (t63.1,(d.2.2.2.1,d.2.2.2.2.1,t20.2,t54.1,t24.2.1,t24.2.2,t59.2,d.2.2.2.2.2.2.1,d.2.2.2.2.2.2.2.1,d.2.2.2.2.2.2.2.2.1,t63.2)))
 ((aa t45.1 5).bind λt59_1 =>
 (ah t59_1.1 ([0,1,5,1000000]:List Int)).bind λt63_1 =>
 some (t63_1.1,(d.2.2.2.1,d.2.2.2.2.1,t20.2,d.2.2.2.2.2.2.2.2.2.2,t24.2.1,t24.2.2,t59_1.2,d.2.2.2.2.2.2.1,d.2.2.2.2.2.2.2.1,d.2.2.2.2.2.2.2.2.1,t63_1.2)))
def jg:FL:=(74,⟨[.ptr uK none],[.val true tK (some true)],λa=>ct a⟩)::jf
theorem oo:Gd jg:=tv om 74 Tryz.f74 [(0,⟨⟨[(5,false,[dI])],[(1,.box [.dat (.sl (.one (.int .u8))),dI,dI]),(530432,.box [dI,dS,.same 1051712,.own 1000000000,.same 1313856,.same 1313857,dI,dI,dI,dI,dI]),(1000000000,.root tT true)]⟩,
 ⟨[],[(1,.box [.dat (.sl (.one (.int .u8))),dI,dI]),(530432,.box [dI,dS,.same 1051712,.own 1000000300,.same 1313856,.same 1313857,dI,dI,dI,dI,dI]),(1000000300,.root tT true)]⟩,none⟩)] Tryz.func74
def dD (i4:Int) (b0:List Int) (b1:Int) (b2:Int) (out3:List Int):Option ((Int×List Int×Int×Int×List Int)⊕(List Int×Int×Int×List Int)) :=
 cond (decide (i4>0))
 ((ah (b0,b1,b2) ([0,1,2,3,127,128,16384,100000]:List Int)).bind λt16 =>
 (tJ out3 [t16.2]).bind λzs18 =>
 some (.inl (te (i4-1),t16.1.1,t16.1.2.1,t16.1.2.2,zs18)))
 (some (.inr (b0,b1,b2,out3)))
def aG (c0:tD):Option (tD×List Int) :=
 (aa c0 6).bind λt7 =>
 (loop (λz=>dD z.1 z.2.1 z.2.2.1 z.2.2.2.1 z.2.2.2.2) (te (1+t7.2),t7.1.1,t7.1.2.1,t7.1.2.2,([]:List Int))).bind λd =>
 some ((d.1,d.2.1,d.2.2.1),d.2.2.2)
def jh:FL:=(101,⟨[.ptr uK none],[.val false vL (some true)],λa=>aG a⟩)::jg
theorem oq:Gd jh:=tv oo 101 Tryz.f101 [(0,⟨⟨[(3,false,[.own 1000000000]),(4,false,[dI])],[(1,.box [.dat (.sl (.one (.int .u8))),dI,dI]),(1000000000,.root tu true)]⟩,
 ⟨[(3,false,[.own 1000000300])],[(1,.box [.dat (.sl (.one (.int .u8))),dI,dI]),(1000000300,.root tu true)]⟩,none⟩)] Tryz.func101
def ai (n0:Int):Option wQ :=
 some (2,n0,[],[])
def ji:FL:=(197,⟨[.val false tu false],[.val true yd (some true)],λa=>ai a⟩)::jh
theorem ot:Gd ji:=tv oq 197 Tryz.f197 [] Tryz.func197
def cu (c0:tD):Option (tD×Int) :=
 (aa c0 1000).bind λt5 =>
 (ah t5.1 [0,1,(-1),127,128,(-128),(-129),255,256,32767,32768,(-32769),8388608,2147483647,(-2147483648),2147483648,(-2147483649),9223372036854775807,(-9223372036854775808),t5.2]).bind λt7 =>
 some t7
def jj:FL:=(199,⟨[.ptr uK none],[.val false tu (some true)],λa=>cu a⟩)::ji
theorem ou:Gd jj:=tv ot 199 Tryz.f199 [] Tryz.func199
def aA (c0:tD):Option (tD×wQ) :=
 (aa c0 6).bind λt4 =>
 cond (t4.2==0)
 (some (t4.1,(5,0,[],[])))
 (cond (t4.2==1)
 (cond (t4.2==1)
 ((cu t4.1).bind λt12 =>
 (aw t12.2).bind λt13 =>
 (ai t13).bind λt14 =>
 some (t12.1,t14))
 (cond (t4.2==3)
 ((aM t4.1 ([[],[97],[121,97,114,100],[0]]:List (List UInt8))).bind λt19 =>
 some (t19.1,(4,0,t19.2,[])))
 (cond (t4.2==4)
 ((aG t4.1).bind λt24 =>
 some (t24.1,(6,0,[],t24.2)))
 ((ah t4.1 ([128,130]:List Int)).bind λt28 =>
 some (t28.1,(t28.2,0,[],[]))))))
 (cond (t4.2==2)
 ((cu t4.1).bind λt12_1 =>
 (aw t12_1.2).bind λt13_1 =>
 (ai t13_1).bind λt14_1 =>
 some (t12_1.1,t14_1))
 (cond (t4.2==3)
 ((aM t4.1 ([[],[97],[121,97,114,100],[0]]:List (List UInt8))).bind λt19_1 =>
 some (t19_1.1,(4,0,t19_1.2,[])))
 (cond (t4.2==4)
 ((aG t4.1).bind λt24_1 =>
 some (t24_1.1,(6,0,[],t24_1.2)))
 ((ah t4.1 ([128,130]:List Int)).bind λt28_1 =>
 some (t28_1.1,(t28_1.2,0,[],[])))))))
def jk:FL:=(102,⟨[.ptr uK none],[.val true yd (some true)],λa=>aA a⟩)::jj
theorem ov:Gd jk:=tv ou 102 Tryz.f102 [] Tryz.func102
def af (l0:List Int):Option (List Int) :=
 (tJ ([1,3,1]:List Int) l0).bind λzs5 =>
 some zs5
def jl:FL:=(274,⟨[.val false vL false],[.val false vL (some true)],λa=>af a⟩)::jk
theorem ow:Gd jl:=tv ov 274 Tryz.f274 [] Tryz.func274
def aj (out0:List tg) (name1:List Int) (n2:Int):Option (List tg) :=
 (af name1).bind λt9 =>
 (ai n2).bind λt11 =>
 (tJ out0 [(t9,t11.1,t11.2.1,t11.2.2.1,t11.2.2.2)]).bind λzs14 =>
 some zs14
def jm:FL:=(332,⟨[.val false (.one (.sl tG)) true,.val false vL false,.val false tu false],[.val false (.one (.sl tG)) (some true)],λa=>aj a.1 a.2.1 a.2.2⟩)::jl
theorem ox:Gd jm:=tv ow 332 Tryz.f332 [] Tryz.func332
def fL (a0:zN) (b1:zN):Option Bool :=
 cond (a0.1 != b1.1)
 (some (decide (a0.1<b1.1)))
 (cond (a0.2.1 != b1.2.1)
 (some (decide (a0.2.1<b1.2.1)))
 (cond (a0.2.2.2.1 != b1.2.2.2.1)
 (let t4:=decide (a0.2.2.2.1<b1.2.2.2.1)
 some t4)
 (let t4_1:=decide (a0.2.2.2.2<b1.2.2.2.2)
 some t4_1)))
def jn:FL:=(357,⟨[.val true yr false,.val true yr false],[.val false uf (some true)],λa=>fL a.1 a.2⟩)::jm
theorem oy:Gd jn:=tv ox 357 Tryz.f357 [] Tryz.func357
def ia (v0:zN) (cost1:Int):Option (zN×Bool) :=
 (eN v0).bind λt8 =>
 (cond (!t8)
 (some true)
 ((ae cost1 1 1000).bind λt12 =>
 some (!t12))).bind λt14 =>
 cond t14
 (some (v0,false))
 ((eN (v0.1,te (v0.2.1+cost1),te (v0.2.2.1+1),v0.2.2.2.1,v0.2.2.2.2)).bind λt27 =>
 cond (!t27)
 (some (v0,false))
 (some ((v0.1,te (v0.2.1+cost1),te (v0.2.2.1+1),v0.2.2.2.1,v0.2.2.2.2),true)))
def jo:FL:=(368,⟨[.val true yr false,.val false tu false],[.val true yr (some true),.val false uf (some true)],λa=>ia a.1 a.2⟩)::jn
theorem oz:Gd jo:=tv oy 368 Tryz.f368 [] Tryz.func368
def ib (p0:Int) (i1:List Pt) (t8:Int) (t9:Int) (b0:Int) (b1:Int) (b2:Int) (b3:Int) (b4:Int) (b0_1:Int) (b1_1:Int) (b2_1:Int) (b3_1:Int) (b4_1:Int):Option ((Int×Int×Int×Int×Int×Int×Int×Int×Int×Int×Int×Int)⊕(Int×Int×Int×Int×Int×Int×Int×Int×Int×Int×Int)) :=
 cond (decide (t9<(i1.length:Int)))
 ((at? i1 t9).bind λx24 =>
 (cond (!x24.1)
 (some true)
 ((at? i1 t9).bind λx31 =>
 some (!x31.2.2.1))).bind λt35 =>
 cond t35
 (some (.inl (t8,te (t9+1),b0,b1,b2,b3,b4,b0_1,b1_1,b2_1,b3_1,b4_1)))
 ((at? i1 t9).bind λx39 =>
 (at? i1 t9).bind λx44 =>
 (ia x39.2.2.2 x44.2.1).bind λt47 =>
 (cond t47.2 (some (decide (t47.1.1<p0))) (some false)).bind λt56 =>
 (cond t56
 ((cond (decide (t8<0))
 (some true)
 ((fL t47.1 (b0_1,b1_1,b2_1,b3_1,b4_1)).bind λt63 =>
 some t63)).bind λt64 =>
 some t64)
 (some false)).bind λt65 =>
 cond t65
 (some (.inl (t9,te (t9+1),t47.1.1,t47.1.2.1,t47.1.2.2.1,p0,0,t47.1.1,t47.1.2.1,t47.1.2.2.1,t47.1.2.2.2.1,t47.1.2.2.2.2)))
 (some (.inl (t8,te (t9+1),b0,b1,b2,b3,b4,b0_1,b1_1,b2_1,b3_1,b4_1)))))
 (some (.inr (t8,b0,b1,b2,b3,b4,b0_1,b1_1,b2_1,b3_1,b4_1)))
def eO (p0:Int) (i1:List Pt):Option (zN×Int) :=
 (loop (λz=>ib p0 i1 z.1 z.2.1 z.2.2.1 z.2.2.2.1 z.2.2.2.2.1 z.2.2.2.2.2.1 z.2.2.2.2.2.2.1 z.2.2.2.2.2.2.2.1 z.2.2.2.2.2.2.2.2.1 z.2.2.2.2.2.2.2.2.2.1 z.2.2.2.2.2.2.2.2.2.2.1 z.2.2.2.2.2.2.2.2.2.2.2) ((-1),0,p0,0,0,p0,0,0,0,0,0,0)).bind λd =>
 some ((d.2.1,d.2.2.1,d.2.2.2.1,d.2.2.2.2.1,d.2.2.2.2.2.1),d.1)
def jp:FL:=(356,⟨[.val false tu false,.val false (.one (.sl vD)) false],[.val true yr (some true),.val false tu (some true)],λa=>eO a.1 a.2⟩)::jo
theorem oA:Gd jp:=tv oz 356 Tryz.f356 [(0,⟨⟨(8,false,[dI])::(9,false,[dI])::us 29 6 (us 52 4 (us 58 7 [])),[(266240,.box [dI,dI,dI,dI,dI]),(526336,.box [dI,dI,dI,dI,dI])]⟩,
 ⟨[(8,false,[dI])],[(266240,.box [dI,dI,dI,dI,dI]),(526336,.box [dI,dI,dI,dI,dI])]⟩,none⟩)] Tryz.func356
def fM (id0:Int) (l1:List Pt) (port2:Int):Option zN :=
 (eO id0 l1).bind λt12 =>
 some (t12.1.1,t12.1.2.1,t12.1.2.2.1,t12.1.2.2.2.1,port2)
def jq:FL:=(358,⟨[.val false tu false,.val false (.one (.sl vD)) false,.val false tu false],[.val true yr (some true)],λa=>fM a.1 a.2.1 a.2.2⟩)::jp
theorem oB:Gd jq:=tv oA 358 Tryz.f358 [] Tryz.func358
def eP (id0:Int) (l1:List Pt) (port2:Int):Option Int :=
 (ae port2 0 (te ((l1.length:Int)-1))).bind λt13 =>
 (cond (!t13)
 (some true)
 ((at? l1 port2).bind λx18 =>
 some (!x18.1))).bind λt22 =>
 cond t22
 (some 4)
 ((eO id0 l1).bind λt26 =>
 cond (t26.2==port2)
 (some 1)
 ((at? l1 port2).bind λx36 =>
 (cond (!x36.2.2.1)
 (some true)
 ((fM id0 l1 port2).bind λt44 =>
 (at? l1 port2).bind λx47 =>
 (fL t44 x47.2.2.2).bind λt50 =>
 some t50)).bind λt51 =>
 cond t51 (some 2) (some 3)))
def jr:FL:=(325,⟨[.val false tu false,.val false (.one (.sl vD)) false,.val false tu false],[.val false tu (some true)],λa=>eP a.1 a.2.1 a.2.2⟩)::jq
theorem oC:Gd jr:=tv oB 325 Tryz.f325 [] Tryz.func325
def fN (b0:td) (c1:Int) (p2:Int):Option Int :=
 cond (c1==1)
 ((at? b0.2.2.1 p2).bind λx13 =>
 cond x13.1 (some 1) (some 0))
 (cond (c1==2)
 ((at? b0.2.2.1 p2).bind λx21 =>
 some x21.2.1)
 (cond (c1==3)
 ((eP b0.1 b0.2.2.1 p2).bind λt31 =>
 some t31)
 ((at? b0.2.2.2.2.2.1 p2).bind λx36 =>
 some x36)))
def js:FL:=(333,⟨[.val true tK false,.val false tu false,.val false tu false],[.val false tu (some true)],λa=>fN a.1 a.2.1 a.2.2⟩)::jr
theorem oD:Gd js:=tv oC 333 Tryz.f333 [] Tryz.func333
def ic (r0:tC) (c1:Int):Option Int :=
 cond (c1==1) (some 1) (cond (c1==2) (some r0.2.1) (some r0.2.2))
def jt:FL:=(334,⟨[.val true uq false,.val false tu false],[.val false tu (some true)],λa=>ic a.1 a.2⟩)::js
theorem oE:Gd jt:=tv oD 334 Tryz.f334 [] Tryz.func334
def ie (p0:td) (t4:Int) (t5:Int) (t3_1:List tg):Option ((Int×List tg)⊕(List tg)) :=
 cond (decide (t5<(p0.2.2.1.length:Int)))
 ((fN p0 t4 t5).bind λt59 =>
 (aj t3_1 [2,t4,te (t5+1)] t59).bind λt60 =>
 some (.inl (te (t5+1),t60)))
 (some (.inr t3_1))
def ig (p0:td) (t4:Int) (t3:List tg):Option ((Int×List tg)⊕(List tg)) :=
 cond (decide (t4<=4))
 ((loop (λz=>ie p0 t4 z.1 z.2) (0,t3)).bind λd =>
 some (.inl (te (t4+1),d)))
 (some (.inr t3))
def ii (p0:td) (t6:Int) (t7:Int) (t3_5:List tg):Option ((Int×List tg)⊕(List tg)) :=
 cond (decide (t7<(p0.2.2.2.2.1.length:Int)))
 ((at? p0.2.2.2.2.1 t7).bind λx79 =>
 (at? p0.2.2.2.2.1 t7).bind λx87 =>
 (ic x87 t6).bind λt90 =>
 (aj t3_5 [3,t6,x79.1] t90).bind λt91 =>
 some (.inl (te (t7+1),t91)))
 (some (.inr t3_5))
def eQ (p0:td) (t6:Int) (t3_4:List tg):Option ((Int×List tg)⊕(List tg)) :=
 cond (decide (t6<=3))
 ((loop (λz=>ii p0 t6 z.1 z.2) (0,t3_4)).bind λd_2 =>
 some (.inl (te (t6+1),d_2)))
 (some (.inr t3_4))
def ij (p0:td) (t8:Int) (t3_8:List tg):Option ((Int×List tg)⊕(List tg)) :=
 cond (decide (t8<(p0.2.2.2.1.length:Int)))
 ((at? p0.2.2.2.1 t8).bind λx103 =>
 (at? p0.2.2.2.1 t8).bind λx109 =>
 (at? p0.2.2.2.1 t8).bind λx116 =>
 (aj t3_8 [4,1,x103.1,x109.2.1] (te (x116.2.2.1+1))).bind λt120 =>
 some (.inl (te (t8+1),t120)))
 (some (.inr t3_8))
def cw (p0:td):Option (List tg) :=
 (aZ p0).bind λt10 =>
 cond (!t10)
 (some ([]:List tg))
 ((af ([1,1]:List Int)).bind λt14 =>
 (aj ([(t14,4,0,p0.2.1,[])]) ([1,2]:List Int) p0.2.2.2.2.2.2.1).bind λt24 =>
 (aj t24 ([1,3]:List Int) p0.2.2.2.2.2.2.2.1).bind λt29 =>
 (aj t29 ([1,4]:List Int) p0.2.2.2.2.2.2.2.2.1).bind λt34 =>
 (aj t34 ([1,5]:List Int) p0.2.2.2.2.2.2.2.2.2.1).bind λt39 =>
 (loop (λz=>ig p0 z.1 z.2) (1,t39)).bind λd_1 =>
 (loop (λz=>eQ p0 z.1 z.2) (1,d_1)).bind λd_3 =>
 (loop (λz=>ij p0 z.1 z.2) (0,d_3)).bind λd_4 =>
 some d_4)
def ju:FL:=(273,⟨[.val true tK false],[.val false (.one (.sl tG)) (some true)],λa=>cw a⟩)::jt
theorem oF:Gd ju:=tv oE 273 Tryz.f273 [(0,⟨⟨[(3,false,[.own 1000000000]),(4,false,[dI])],[(1000000000,.root tG true)]⟩,
 ⟨[(3,false,[.own 1000000300])],[(1000000300,.root tG true)]⟩,none⟩),
 (2,⟨⟨[(3,false,[.own 1000002000]),(5,false,[dI])],[(1000002000,.root tG true)]⟩,
 ⟨[(3,false,[.own 1000002300])],[(1000002300,.root tG true)]⟩,none⟩),
 (4,⟨⟨[(3,false,[.own 1000004000]),(6,false,[dI])],[(1000004000,.root tG true)]⟩,
 ⟨[(3,false,[.own 1000004300])],[(1000004300,.root tG true)]⟩,none⟩),
 (6,⟨⟨[(3,false,[.own 1000006000]),(7,false,[dI])],[(1000006000,.root tG true)]⟩,
 ⟨[(3,false,[.own 1000006300])],[(1000006300,.root tG true)]⟩,none⟩),
 (8,⟨⟨[(3,false,[.own 1000008000]),(8,false,[dI])],[(1000008000,.root tG true)]⟩,
 ⟨[(3,false,[.own 1000008300])],[(1000008300,.root tG true)]⟩,none⟩)] Tryz.func273
def aq (c0:tD) (b1:td):Option (tD×List Int) :=
 (cw b1).bind λt7 =>
 cond (decide ((t7.length:Int)>0))
 ((bA c0 4).bind λt13 =>
 cond (!t13.2)
 ((aa t13.1 (t7.length:Int)).bind λt21 =>
 (ix t7.length t21.2).bind λj22 =>
 (t7[j22]?).bind λx24 =>
 (tJ ([]:List Int) x24.1).bind λzs25 =>
 some (t21.1,zs25))
 ((aa t13.1 8).bind λt27 =>
 cond (t27.2==0)
 (some (t27.1,([0]:List Int)))
 (cond (t27.2==1)
 (some (t27.1,([1,3,1]:List Int)))
 (cond (t27.2==2)
 ((af ([2,2,9]:List Int)).bind λt37 =>
 some (t27.1,t37))
 (cond (t27.2==3)
 ((aa t27.1 9).bind λt41 =>
 (af [3,1,te (1+t41.2)]).bind λt44 =>
 some (t41.1,t44))
 (cond (t27.2==4)
 ((af ([2,2]:List Int)).bind λt48 =>
 some (t27.1,t48))
 (cond (t27.2==5)
 ((af ([9]:List Int)).bind λt52 =>
 some (t27.1,t52))
 (cond (t27.2==6)
 ((af ([4,1,2,11]:List Int)).bind λt56 =>
 some (t27.1,t56))
 ((aG t27.1).bind λt58 =>
 some t58)))))))))
 ((aa c0 8).bind λt27_1 =>
 cond (t27_1.2==0)
 (some (t27_1.1,([0]:List Int)))
 (cond (t27_1.2==1)
 (some (t27_1.1,([1,3,1]:List Int)))
 (cond (t27_1.2==2)
 ((af ([2,2,9]:List Int)).bind λt37_1 =>
 some (t27_1.1,t37_1))
 (cond (t27_1.2==3)
 ((aa t27_1.1 9).bind λt41_1 =>
 (af [3,1,te (1+t41_1.2)]).bind λt44_1 =>
 some (t41_1.1,t44_1))
 (cond (t27_1.2==4)
 ((af ([2,2]:List Int)).bind λt48_1 =>
 some (t27_1.1,t48_1))
 (cond (t27_1.2==5)
 ((af ([9]:List Int)).bind λt52_1 =>
 some (t27_1.1,t52_1))
 (cond (t27_1.2==6)
 ((af ([4,1,2,11]:List Int)).bind λt56_1 =>
 some (t27_1.1,t56_1))
 ((aG t27_1.1).bind λt58_1 =>
 some t58_1))))))))
def jv:FL:=(165,⟨[.ptr uK none,.val true tK false],[.val false vL (some true)],λa=>aq a.1 a.2⟩)::ju
theorem oG:Gd jv:=tv oF 165 Tryz.f165 [] Tryz.func165
def fO (p0:tD) (i1:td):Option (tD×tg) :=
 (aa p0 (te ((i1.2.2.1.length:Int)+1))).bind λt12 =>
 (shl .i64 1 (IntKind.u64.wrap ((i1.2.2.1.length:Int)))).bind λt18 =>
 (aa t12.1 10).bind λt21 =>
 cond (t21.2==0)
 ((af ([1,1]:List Int)).bind λt25 =>
 (aM t21.1 ([[110,101,119],[],[101,108,101,118,101,110,45,98,121,116,101]]:List (List UInt8))).bind λt28 =>
 some (t28.1,(t25,4,0,t28.2,[])))
 (cond (t21.2==1)
 (cond (t21.2==1)
 ((af [2,2,te (1+t12.2)]).bind λt36 =>
 (ah t21.1 ([1,5,1000,0,1001]:List Int)).bind λt39 =>
 (ai t39.2).bind λt40 =>
 some (t39.1,(t36,t40.1,t40.2.1,t40.2.2.1,t40.2.2.2)))
 (cond (t21.2==3)
 ((af [2,4,te (1+t12.2)]).bind λt46 =>
 (aa t21.1 4).bind λt48 =>
 (ai (te (1+t48.2))).bind λt50 =>
 some (t48.1,(t46,t50.1,t50.2.1,t50.2.2.1,t50.2.2.2)))
 (cond (t21.2==4)
 (cond (t21.2==4)
 ((aa t21.1 4).bind λt56 =>
 (af [3,1,te (1+t56.2)]).bind λt59 =>
 (ah t56.1 ([4,4,6,1]:List Int)).bind λt62 =>
 (ai t62.2).bind λt63 =>
 some (t62.1,(t59,t63.1,t63.2.1,t63.2.2.1,t63.2.2.2)))
 (cond (t21.2==6)
 (cond (t21.2==6)
 ((aa t21.1 4).bind λt69 =>
 (af [3,2,te (1+t69.2)]).bind λt72 =>
 (aa t69.1 (te ((te (t18-1))+2))).bind λt76 =>
 (ai t76.2).bind λt77 =>
 some (t76.1,(t72,t77.1,t77.2.1,t77.2.2.1,t77.2.2.2)))
 (cond (t21.2==8)
 ((aa t21.1 4).bind λt82 =>
 (af [3,3,te (1+t82.2)]).bind λt85 =>
 (aa t82.1 (te ((te (t18-1))+1))).bind λt89 =>
 (ai t89.2).bind λt90 =>
 some (t89.1,(t85,t90.1,t90.2.1,t90.2.2.1,t90.2.2.2)))
 ((aq t21.1 i1).bind λt94 =>
 (aA t94.1).bind λt96 =>
 some (t96.1,(t94.2,t96.2.1,t96.2.2.1,t96.2.2.2.1,t96.2.2.2.2)))))
 (cond (t21.2==7)
 ((aa t21.1 4).bind λt69_1 =>
 (af [3,2,te (1+t69_1.2)]).bind λt72_1 =>
 (aa t69_1.1 (te ((te (t18-1))+2))).bind λt76_1 =>
 (ai t76_1.2).bind λt77_1 =>
 some (t76_1.1,(t72_1,t77_1.1,t77_1.2.1,t77_1.2.2.1,t77_1.2.2.2)))
 (cond (t21.2==8)
 ((aa t21.1 4).bind λt82_1 =>
 (af [3,3,te (1+t82_1.2)]).bind λt85_1 =>
 (aa t82_1.1 (te ((te (t18-1))+1))).bind λt89_1 =>
 (ai t89_1.2).bind λt90_1 =>
 some (t89_1.1,(t85_1,t90_1.1,t90_1.2.1,t90_1.2.2.1,t90_1.2.2.2)))
 ((aq t21.1 i1).bind λt94_1 =>
 (aA t94_1.1).bind λt96_1 =>
 some (t96_1.1,(t94_1.2,t96_1.2.1,t96_1.2.2.1,t96_1.2.2.2.1,t96_1.2.2.2.2)))))))
 (cond (t21.2==5)
 ((aa t21.1 4).bind λt56_1 =>
 (af [3,1,te (1+t56_1.2)]).bind λt59_1 =>
 (ah t56_1.1 ([4,4,6,1]:List Int)).bind λt62_1 =>
 (ai t62_1.2).bind λt63_1 =>
 some (t62_1.1,(t59_1,t63_1.1,t63_1.2.1,t63_1.2.2.1,t63_1.2.2.2)))
 (cond (t21.2==6)
 (cond (t21.2==6)
 ((aa t21.1 4).bind λt69_2 =>
 (af [3,2,te (1+t69_2.2)]).bind λt72_2 =>
 (aa t69_2.1 (te ((te (t18-1))+2))).bind λt76_2 =>
 (ai t76_2.2).bind λt77_2 =>
 some (t76_2.1,(t72_2,t77_2.1,t77_2.2.1,t77_2.2.2.1,t77_2.2.2.2)))
 (cond (t21.2==8)
 ((aa t21.1 4).bind λt82_2 =>
 (af [3,3,te (1+t82_2.2)]).bind λt85_2 =>
 (aa t82_2.1 (te ((te (t18-1))+1))).bind λt89_2 =>
 (ai t89_2.2).bind λt90_2 =>
 some (t89_2.1,(t85_2,t90_2.1,t90_2.2.1,t90_2.2.2.1,t90_2.2.2.2)))
 ((aq t21.1 i1).bind λt94_2 =>
 (aA t94_2.1).bind λt96_2 =>
 some (t96_2.1,(t94_2.2,t96_2.2.1,t96_2.2.2.1,t96_2.2.2.2.1,t96_2.2.2.2.2)))))
 (cond (t21.2==7)
 ((aa t21.1 4).bind λt69_3 =>
 (af [3,2,te (1+t69_3.2)]).bind λt72_3 =>
 (aa t69_3.1 (te ((te (t18-1))+2))).bind λt76_3 =>
 (ai t76_3.2).bind λt77_3 =>
 some (t76_3.1,(t72_3,t77_3.1,t77_3.2.1,t77_3.2.2.1,t77_3.2.2.2)))
 (cond (t21.2==8)
 ((aa t21.1 4).bind λt82_3 =>
 (af [3,3,te (1+t82_3.2)]).bind λt85_3 =>
 (aa t82_3.1 (te ((te (t18-1))+1))).bind λt89_3 =>
 (ai t89_3.2).bind λt90_3 =>
 some (t89_3.1,(t85_3,t90_3.1,t90_3.2.1,t90_3.2.2.1,t90_3.2.2.2)))
 ((aq t21.1 i1).bind λt94_3 =>
 (aA t94_3.1).bind λt96_3 =>
 some (t96_3.1,(t94_3.2,t96_3.2.1,t96_3.2.2.1,t96_3.2.2.2.1,t96_3.2.2.2.2))))))))))
 (cond (t21.2==2)
 ((af [2,2,te (1+t12.2)]).bind λt36_1 =>
 (ah t21.1 ([1,5,1000,0,1001]:List Int)).bind λt39_1 =>
 (ai t39_1.2).bind λt40_1 =>
 some (t39_1.1,(t36_1,t40_1.1,t40_1.2.1,t40_1.2.2.1,t40_1.2.2.2)))
 (cond (t21.2==3)
 ((af [2,4,te (1+t12.2)]).bind λt46_1 =>
 (aa t21.1 4).bind λt48_1 =>
 (ai (te (1+t48_1.2))).bind λt50_1 =>
 some (t48_1.1,(t46_1,t50_1.1,t50_1.2.1,t50_1.2.2.1,t50_1.2.2.2)))
 (cond (t21.2==4)
 (cond (t21.2==4)
 ((aa t21.1 4).bind λt56_2 =>
 (af [3,1,te (1+t56_2.2)]).bind λt59_2 =>
 (ah t56_2.1 ([4,4,6,1]:List Int)).bind λt62_2 =>
 (ai t62_2.2).bind λt63_2 =>
 some (t62_2.1,(t59_2,t63_2.1,t63_2.2.1,t63_2.2.2.1,t63_2.2.2.2)))
 (cond (t21.2==6)
 (cond (t21.2==6)
 ((aa t21.1 4).bind λt69_4 =>
 (af [3,2,te (1+t69_4.2)]).bind λt72_4 =>
 (aa t69_4.1 (te ((te (t18-1))+2))).bind λt76_4 =>
 (ai t76_4.2).bind λt77_4 =>
 some (t76_4.1,(t72_4,t77_4.1,t77_4.2.1,t77_4.2.2.1,t77_4.2.2.2)))
 (cond (t21.2==8)
 ((aa t21.1 4).bind λt82_4 =>
 (af [3,3,te (1+t82_4.2)]).bind λt85_4 =>
 (aa t82_4.1 (te ((te (t18-1))+1))).bind λt89_4 =>
 (ai t89_4.2).bind λt90_4 =>
 some (t89_4.1,(t85_4,t90_4.1,t90_4.2.1,t90_4.2.2.1,t90_4.2.2.2)))
 ((aq t21.1 i1).bind λt94_4 =>
 (aA t94_4.1).bind λt96_4 =>
 some (t96_4.1,(t94_4.2,t96_4.2.1,t96_4.2.2.1,t96_4.2.2.2.1,t96_4.2.2.2.2)))))
 (cond (t21.2==7)
 ((aa t21.1 4).bind λt69_5 =>
 (af [3,2,te (1+t69_5.2)]).bind λt72_5 =>
 (aa t69_5.1 (te ((te (t18-1))+2))).bind λt76_5 =>
 (ai t76_5.2).bind λt77_5 =>
 some (t76_5.1,(t72_5,t77_5.1,t77_5.2.1,t77_5.2.2.1,t77_5.2.2.2)))
 (cond (t21.2==8)
 ((aa t21.1 4).bind λt82_5 =>
 (af [3,3,te (1+t82_5.2)]).bind λt85_5 =>
 (aa t82_5.1 (te ((te (t18-1))+1))).bind λt89_5 =>
 (ai t89_5.2).bind λt90_5 =>
 some (t89_5.1,(t85_5,t90_5.1,t90_5.2.1,t90_5.2.2.1,t90_5.2.2.2)))
 ((aq t21.1 i1).bind λt94_5 =>
 (aA t94_5.1).bind λt96_5 =>
 some (t96_5.1,(t94_5.2,t96_5.2.1,t96_5.2.2.1,t96_5.2.2.2.1,t96_5.2.2.2.2)))))))
 (cond (t21.2==5)
 ((aa t21.1 4).bind λt56_3 =>
 (af [3,1,te (1+t56_3.2)]).bind λt59_3 =>
 (ah t56_3.1 ([4,4,6,1]:List Int)).bind λt62_3 =>
 (ai t62_3.2).bind λt63_3 =>
 some (t62_3.1,(t59_3,t63_3.1,t63_3.2.1,t63_3.2.2.1,t63_3.2.2.2)))
 (cond (t21.2==6)
 (cond (t21.2==6)
 ((aa t21.1 4).bind λt69_6 =>
 (af [3,2,te (1+t69_6.2)]).bind λt72_6 =>
 (aa t69_6.1 (te ((te (t18-1))+2))).bind λt76_6 =>
 (ai t76_6.2).bind λt77_6 =>
 some (t76_6.1,(t72_6,t77_6.1,t77_6.2.1,t77_6.2.2.1,t77_6.2.2.2)))
 (cond (t21.2==8)
 ((aa t21.1 4).bind λt82_6 =>
 (af [3,3,te (1+t82_6.2)]).bind λt85_6 =>
 (aa t82_6.1 (te ((te (t18-1))+1))).bind λt89_6 =>
 (ai t89_6.2).bind λt90_6 =>
 some (t89_6.1,(t85_6,t90_6.1,t90_6.2.1,t90_6.2.2.1,t90_6.2.2.2)))
 ((aq t21.1 i1).bind λt94_6 =>
 (aA t94_6.1).bind λt96_6 =>
 some (t96_6.1,(t94_6.2,t96_6.2.1,t96_6.2.2.1,t96_6.2.2.2.1,t96_6.2.2.2.2)))))
 (cond (t21.2==7)
 ((aa t21.1 4).bind λt69_7 =>
 (af [3,2,te (1+t69_7.2)]).bind λt72_7 =>
 (aa t69_7.1 (te ((te (t18-1))+2))).bind λt76_7 =>
 (ai t76_7.2).bind λt77_7 =>
 some (t76_7.1,(t72_7,t77_7.1,t77_7.2.1,t77_7.2.2.1,t77_7.2.2.2)))
 (cond (t21.2==8)
 ((aa t21.1 4).bind λt82_7 =>
 (af [3,3,te (1+t82_7.2)]).bind λt85_7 =>
 (aa t82_7.1 (te ((te (t18-1))+1))).bind λt89_7 =>
 (ai t89_7.2).bind λt90_7 =>
 some (t89_7.1,(t85_7,t90_7.1,t90_7.2.1,t90_7.2.2.1,t90_7.2.2.2)))
 ((aq t21.1 i1).bind λt94_7 =>
 (aA t94_7.1).bind λt96_7 =>
 some (t96_7.1,(t94_7.2,t96_7.2.1,t96_7.2.2.1,t96_7.2.2.2.1,t96_7.2.2.2.2)))))))))))
def jw:FL:=(272,⟨[.ptr uK none,.val true tK false],[.val true tG (some true)],λa=>fO a.1 a.2⟩)::jv
theorem oH:Gd jw:=tv oG 272 Tryz.f272 [] Tryz.func272
def cz (b1:td) (i6:Int) (b0:List Int) (b1_1:Int) (b2:Int) (out5:List tg):Option ((Int×List Int×Int×Int×List tg)⊕(List Int×Int×Int×List tg)) :=
 cond (decide (i6>0))
 ((fO (b0,b1_1,b2) b1).bind λt17 =>
 (tJ out5 [t17.2]).bind λzs19 =>
 some (.inl (te (i6-1),t17.1.1,t17.1.2.1,t17.1.2.2,zs19)))
 (some (.inr (b0,b1_1,b2,out5)))
def eR (c0:tD) (b1:td):Option (tD×List tg) :=
 (aa c0 4).bind λt9 =>
 (loop (λz=>cz b1 z.1 z.2.1 z.2.2.1 z.2.2.2.1 z.2.2.2.2) (t9.2,t9.1.1,t9.1.2.1,t9.1.2.2,([]:List tg))).bind λd =>
 some ((d.1,d.2.1,d.2.2.1),d.2.2.2)
def jx:FL:=(164,⟨[.ptr uK none,.val true tK false],[.val false (.one (.sl tG)) (some true)],λa=>eR a.1 a.2⟩)::jw
theorem oI:Gd jx:=tv oH 164 Tryz.f164 [(0,⟨⟨[(5,false,[.own 1000000000]),(6,false,[dI])],[(1,.box [.dat (.sl (.one (.int .u8))),dI,dI]),(1000000000,.root tG true)]⟩,
 ⟨[(5,false,[.own 1000000300])],[(1,.box [.dat (.sl (.one (.int .u8))),dI,dI]),(1000000300,.root tG true)]⟩,none⟩)] Tryz.func164
def cA (b1:td) (i6:Int) (b0:List Int) (b1_1:Int) (b2:Int) (b0_1:Int) (b1_2:Int) (b2_1:Int) (b3:Int) (b4:List tg):Option ((Int×List Int×Int×Int×Int×Int×Int×Int×List tg)⊕(List Int×Int×Int×Int×Int×Int×Int×List tg)) :=
 cond (decide (i6>0))
 ((aq (b0,b1_1,b2) b1).bind λt31 =>
 (tJ b4 ([(t31.2,5,0,[],[])])).bind λzs35 =>
 some (.inl (te (i6-1),t31.1.1,t31.1.2.1,t31.1.2.2,b0_1,b1_2,b2_1,b3,zs35)))
 (some (.inr (b0,b1_1,b2,b0_1,b1_2,b2_1,b3,b4)))
def bB (c0:tD) (b1:td):Option (tD×tQ) :=
 (ah c0 ([160,161,163,163,165]:List Int)).bind λt9 =>
 (aa t9.1 100).bind λt11 =>
 cond (t9.2==163)
 ((eR t11.1 b1).bind λt18 =>
 some (t18.1,(t9.2,t11.2,0,0,t18.2)))
 ((aa t11.1 4).bind λt22 =>
 (loop (λz=>cA b1 z.1 z.2.1 z.2.2.1 z.2.2.2.1 z.2.2.2.2.1 z.2.2.2.2.2.1 z.2.2.2.2.2.2.1 z.2.2.2.2.2.2.2.1 z.2.2.2.2.2.2.2.2) (t22.2,t22.1.1,t22.1.2.1,t22.1.2.2,t9.2,t11.2,0,0,[])).bind λd =>
 cond (d.2.2.2.1==165)
 ((aa (d.1,d.2.1,d.2.2.1) 3).bind λt41 =>
 (aa t41.1 5).bind λt44 =>
 some (t44.1,(d.2.2.2.1,d.2.2.2.2.1,t41.2,t44.2,d.2.2.2.2.2.2.2)))
 (some ((d.1,d.2.1,d.2.2.1),d.2.2.2)))
def jy:FL:=(75,⟨[.ptr uK none,.val true tK false],[.val true vk (some true)],λa=>bB a.1 a.2⟩)::jx
theorem oJ:Gd jy:=tv oI 75 Tryz.f75 [(0,⟨⟨[(6,false,[dI])],[(1,.box [.dat (.sl (.one (.int .u8))),dI,dI]),(269312,.box [dI,dI,dI,dI,.own 1000000000]),(1000000000,.root tG true)]⟩,
 ⟨[],[(1,.box [.dat (.sl (.one (.int .u8))),dI,dI]),(269312,.box [dI,dI,dI,dI,.own 1000000300]),(1000000300,.root tG true)]⟩,none⟩)] Tryz.func75
def fP (c0:tD):Option (tD×zN) :=
 (eH c0).bind λt5 =>
 (aa t5.1 12).bind λt7 =>
 cond (t7.2==0)
 ((ah t7.1 ([0,99,100]:List Int)).bind λt12 =>
 some (t12.1,(t12.2,t5.2.2.1,t5.2.2.2.1,t5.2.2.2.2.1,t5.2.2.2.2.2)))
 (cond (t7.2==1)
 ((ah t7.1 ([(-1),99999,100000,100001]:List Int)).bind λt18 =>
 some (t18.1,(t5.2.1,t18.2,t5.2.2.2.1,t5.2.2.2.2.1,t5.2.2.2.2.2)))
 (cond (t7.2==2)
 ((ah t7.1 ([(-1),11]:List Int)).bind λt24 =>
 some (t24.1,(t5.2.1,t5.2.2.1,t24.2,t5.2.2.2.2.1,t5.2.2.2.2.2)))
 (cond (t7.2==3)
 ((ah t7.1 ([(-1),7,8]:List Int)).bind λt30 =>
 some (t30.1,(t5.2.1,t5.2.2.1,t5.2.2.2.1,t5.2.2.2.2.1,t30.2)))
 (some (t7.1,t5.2)))))
def jz:FL:=(296,⟨[.ptr uK none],[.val true yr (some true)],λa=>fP a⟩)::jy
theorem oK:Gd jz:=tv oJ 296 Tryz.f296 [] Tryz.func296
def fQ (c0:tD):Option (tD×List Pt) :=
 (aa c0 4).bind λt6 =>
 (cn t6.1 (te (1+t6.2))).bind λt8 =>
 (aa t8.1 12).bind λt10 =>
 cond (t10.2==0)
 ((fP t10.1).bind λt15 =>
 (ix t8.2.length 0).bind λj16 =>
 (t8.2[j16]?).bind λx =>
 some (t15.1,t8.2.set j16 (x.1,x.2.1,x.2.2.1,t15.2.1,t15.2.2.1,t15.2.2.2.1,t15.2.2.2.2.1,t15.2.2.2.2.2)))
 (cond (t10.2==1)
 ((ah t10.1 ([0,1000,1001]:List Int)).bind λt23 =>
 (ix t8.2.length 0).bind λj24 =>
 (t8.2[j24]?).bind λx_1 =>
 some (t23.1,t8.2.set j24 (x_1.1,t23.2,x_1.2.2.1,x_1.2.2.2.1,x_1.2.2.2.2.1,x_1.2.2.2.2.2.1,x_1.2.2.2.2.2.2.1,x_1.2.2.2.2.2.2.2)))
 (cond (t10.2==2)
 ((ix t8.2.length 0).bind λj29 =>
 (t8.2[j29]?).bind λx_2 =>
 some (t10.1,t8.2.set j29 (false,x_2.2.1,x_2.2.2.1,x_2.2.2.2.1,x_2.2.2.2.2.1,x_2.2.2.2.2.2.1,x_2.2.2.2.2.2.2.1,x_2.2.2.2.2.2.2.2)))
 (some (t10.1,t8.2))))
def jA:FL:=(191,⟨[.ptr uK none],[.val false (.one (.sl vD)) (some true)],λa=>fQ a⟩)::jz
theorem oL:Gd jA:=tv oK 191 Tryz.f191 [] Tryz.func191
def aQ (l0:List tk) (i4:Int) (out3:List tk):Option ((Int×List tk)⊕(List tk)) :=
 cond (decide (i4<(l0.length:Int)))
 ((at? l0 i4).bind λx15 =>
 cond x15.2.2.2.2
 ((tJ out3 [x15]).bind λzs22 =>
 some (.inl (te (i4+1),zs22)))
 (cond (decide (x15.2.2.2.1<4))
 ((tJ out3 [(x15.1,x15.2.1,x15.2.2.1,te (x15.2.2.2.1+1),x15.2.2.2.2)]).bind λzs33 =>
 some (.inl (te (i4+1),zs33)))
 (some (.inl (te (i4+1),out3)))))
 (some (.inr out3))
def cB (l0:List tk):Option (List tk) :=
 (loop (λz=>aQ l0 z.1 z.2) (0,([]:List tk))).bind λd =>
 some d
def jC:FL:=(301,⟨[.val false (.one (.sl tT)) false],[.val false (.one (.sl tT)) (some true)],λa=>cB a⟩)::jA
theorem oM:Gd jC:=tv oL 301 Tryz.f301 [(0,⟨⟨[(3,false,[.own 1000000000]),(4,false,[dI])],[(1000000000,.root tT true)]⟩,
 ⟨[(3,false,[.own 1000000300])],[(1000000300,.root tT true)]⟩,none⟩)] Tryz.func301
def dE (i4:Int) (b0:List Int) (b1:Int) (b2:Int) (l3:List tk):Option ((Int×List Int×Int×Int×List tk)⊕(List Int×Int×Int×List tk)) :=
 cond (decide (i4>0))
 ((aa (b0,b1,b2) 6).bind λt13 =>
 cond (t13.2==0)
 ((aa t13.1 3).bind λt31 =>
 (bT t31.1).bind λt34 =>
 (aa t34.1 4).bind λt36 =>
 (dA l3 (te (1+t31.2)) t34.2 t36.2).bind λt37 =>
 some (.inl (te (i4-1),t36.1.1,t36.1.2.1,t36.1.2.2,t37.1)))
 (cond (t13.2==1)
 ((cB l3).bind λt43 =>
 some (.inl (te (i4-1),t13.1.1,t13.1.2.1,t13.1.2.2,t43)))
 ((aa t13.1 3).bind λt16 =>
 (bT t16.1).bind λt19 =>
 (aa t19.1 3).bind λt21 =>
 (aa t21.1 4).bind λt24 =>
 (eM l3 (te (1+t16.2)) (te (t19.2+t21.2)) t24.2).bind λt25 =>
 some (.inl (te (i4-1),t24.1.1,t24.1.2.1,t24.1.2.2,t25)))))
 (some (.inr (b0,b1,b2,l3)))
def fR (c0:tD):Option (tD×List tk) :=
 (aa c0 10).bind λt7 =>
 (loop (λz=>dE z.1 z.2.1 z.2.2.1 z.2.2.2.1 z.2.2.2.2) (t7.2,t7.1.1,t7.1.2.1,t7.1.2.2,([]:List tk))).bind λd =>
 some ((d.1,d.2.1,d.2.2.1),d.2.2.2)
def jD:FL:=(297,⟨[.ptr uK none],[.val false (.one (.sl tT)) (some true)],λa=>fR a⟩)::jC
theorem oN:Gd jD:=tv oM 297 Tryz.f297 [(0,⟨⟨[(3,false,[.own 1000000000]),(4,false,[dI])],[(1,.box [.dat (.sl (.one (.int .u8))),dI,dI]),(1000000000,.root tT true)]⟩,
 ⟨[(3,false,[.own 1000000300])],[(1,.box [.dat (.sl (.one (.int .u8))),dI,dI]),(1000000300,.root tT true)]⟩,none⟩)] Tryz.func297
def bU (i4:Int) (b0:List Int) (b1:Int) (b2:Int) (l3:List tk):Option ((Int×List Int×Int×Int×List tk)⊕(List Int×Int×Int×List tk)) :=
 (aa (b0,b1,b2) 3).bind λt31 =>
 cond (decide (i4<(te (11+t31.2))))
 ((tJ l3 [(50,te (100+i4),1,0,false)]).bind λzs41 =>
 some (.inl (te (i4+1),t31.1.1,t31.1.2.1,t31.1.2.2,zs41)))
 (some (.inr (t31.1.1,t31.1.2.1,t31.1.2.2,l3)))
def fS (c0:tD):Option (tD×List tk) :=
 (fR c0).bind λt6 =>
 (aa t6.1 12).bind λt8 =>
 cond (t8.2==0)
 ((ah t8.1 ([0,1,99,100]:List Int)).bind λt14 =>
 (ah t14.1 ([0,1,9999]:List Int)).bind λt17 =>
 (ah t17.1 ([(-1),7,8]:List Int)).bind λt20 =>
 (ah t20.1 ([(-1),4,5]:List Int)).bind λt23 =>
 (tJ t6.2 [(t14.2,t17.2,t20.2,t23.2,false)]).bind λzs26 =>
 some (t23.1,zs26))
 (cond (t8.2==1)
 ((loop (λz=>bU z.1 z.2.1 z.2.2.1 z.2.2.2.1 z.2.2.2.2) (0,t8.1.1,t8.1.2.1,t8.1.2.2,t6.2)).bind λd =>
 some ((d.1,d.2.1,d.2.2.1),d.2.2.2))
 (some (t8.1,t6.2)))
def jE:FL:=(192,⟨[.ptr uK none],[.val false (.one (.sl tT)) (some true)],λa=>fS a⟩)::jD
theorem oO:Gd jE:=tv oN 192 Tryz.f192 [(1,⟨⟨[(3,false,[.own 1000001000]),(4,false,[dI])],[(1,.box [.dat (.sl (.one (.int .u8))),dI,dI]),(1000001000,.root tT true)]⟩,
 ⟨[(3,false,[.own 1000001300])],[(1,.box [.dat (.sl (.one (.int .u8))),dI,dI]),(1000001300,.root tT true)]⟩,none⟩)] Tryz.func192
def dG (i6:Int) (b0:List tC) (b1:List Int):Option ((Int×List tC×List Int)⊕(List tC×List Int)) :=
 cond (decide (i6<6))
 ((aF (b0,b1) (te (10+i6),0,0)).bind λt54 =>
 some (.inl (te (i6+1),t54.1,t54.2)))
 (some (.inr (b0,b1)))
def fT (c0:tD):Option (tD×uj×Int) :=
 (aa c0 4).bind λt8 =>
 (co t8.1 (te (1+t8.2))).bind λt12 =>
 (aa t12.1 12).bind λt14 =>
 cond (t14.2==0)
 ((ah t14.1 ([0,1,9,100]:List Int)).bind λt21 =>
 (ah t21.1 ([(-1),0,1,64]:List Int)).bind λt24 =>
 (aa t24.1 3).bind λt26 =>
 (tJ t12.2.1 [(t21.2,t24.2,t26.2)]).bind λzs29 =>
 some (t26.1,(zs29,t12.2.2),te (1+t8.2)))
 (cond (t14.2==1)
 ((ah t14.1 ([0,7]:List Int)).bind λt37 =>
 (ix t12.2.2.length 0).bind λj38 =>
 (t12.2.2[j38]?).bind λx =>
 some (t37.1,(t12.2.1,t12.2.2.set j38 t37.2),te (1+t8.2)))
 (cond (t14.2==2)
 ((ah t14.1 ([0,6,7]:List Int)).bind λt43 =>
 some (t43.1,t12.2,t43.2))
 (cond (t14.2==3)
 ((loop (λz=>dG z.1 z.2.1 z.2.2) (0,t12.2.1,t12.2.2)).bind λd =>
 some (t14.1,d,te (1+t8.2)))
 (some (t14.1,t12.2,te (1+t8.2))))))
def jF:FL:=(193,⟨[.ptr uK none],[.val true vB (some true),.val false tu (some true)],λa=>fT a⟩)::jE
theorem oP:Gd jF:=tv oO 193 Tryz.f193 [(1,⟨⟨[(6,false,[dI])],[(528384,.box [.own 1000001000,.own 1000001001]),(1000001000,.root uq true),(1000001001,.root tu true)]⟩,
 ⟨[],[(528384,.box [.own 1000001300,.own 1000001301]),(1000001300,.root uq true),(1000001301,.root tu true)]⟩,none⟩)] Tryz.func193
def eS (c0:tD):Option (tD×td) :=
 (ct c0).bind λt5 =>
 (aa t5.1 16).bind λt7 =>
 cond (t7.2==0)
 ((ah t7.1 ([0,99,100]:List Int)).bind λt12 =>
 some (t12.1,(t12.2,t5.2.2.1,t5.2.2.2.1,t5.2.2.2.2.1,t5.2.2.2.2.2.1,t5.2.2.2.2.2.2.1,t5.2.2.2.2.2.2.2.1,t5.2.2.2.2.2.2.2.2.1,t5.2.2.2.2.2.2.2.2.2.1,t5.2.2.2.2.2.2.2.2.2.2.1,t5.2.2.2.2.2.2.2.2.2.2.2)))
 (cond (t7.2==1)
 ((aM t7.1 ([[116,101,110,45,98,121,116,101,115,45],[101,108,101,118,101,110,45,98,121,116,101]]:List (List UInt8))).bind λt18 =>
 some (t18.1,(t5.2.1,t18.2,t5.2.2.2.1,t5.2.2.2.2.1,t5.2.2.2.2.2.1,t5.2.2.2.2.2.2.1,t5.2.2.2.2.2.2.2.1,t5.2.2.2.2.2.2.2.2.1,t5.2.2.2.2.2.2.2.2.2.1,t5.2.2.2.2.2.2.2.2.2.2.1,t5.2.2.2.2.2.2.2.2.2.2.2)))
 (cond (t7.2==2)
 ((fQ t7.1).bind λt23 =>
 some (t23.1,(t5.2.1,t5.2.2.1,t23.2,t5.2.2.2.2.1,t5.2.2.2.2.2.1,t5.2.2.2.2.2.2.1,t5.2.2.2.2.2.2.2.1,t5.2.2.2.2.2.2.2.2.1,t5.2.2.2.2.2.2.2.2.2.1,t5.2.2.2.2.2.2.2.2.2.2.1,t5.2.2.2.2.2.2.2.2.2.2.2)))
 (cond (t7.2==3)
 ((fS t7.1).bind λt28 =>
 some (t28.1,(t5.2.1,t5.2.2.1,t5.2.2.2.1,t28.2,t5.2.2.2.2.2.1,t5.2.2.2.2.2.2.1,t5.2.2.2.2.2.2.2.1,t5.2.2.2.2.2.2.2.2.1,t5.2.2.2.2.2.2.2.2.2.1,t5.2.2.2.2.2.2.2.2.2.2.1,t5.2.2.2.2.2.2.2.2.2.2.2)))
 (cond (t7.2==4)
 ((fT t7.1).bind λt34 =>
 some (t34.1,(t5.2.1,t5.2.2.1,t5.2.2.2.1,t5.2.2.2.2.1,t34.2.1.1,t34.2.1.2,t5.2.2.2.2.2.2.2.1,t5.2.2.2.2.2.2.2.2.1,t5.2.2.2.2.2.2.2.2.2.1,t5.2.2.2.2.2.2.2.2.2.2.1,t5.2.2.2.2.2.2.2.2.2.2.2)))
 (cond (t7.2==5)
 ((ah t7.1 ([(-1),1000000,1000001]:List Int)).bind λt42 =>
 some (t42.1,(t5.2.1,t5.2.2.1,t5.2.2.2.1,t5.2.2.2.2.1,t5.2.2.2.2.2.1,t5.2.2.2.2.2.2.1,t5.2.2.2.2.2.2.2.1,t5.2.2.2.2.2.2.2.2.1,t5.2.2.2.2.2.2.2.2.2.1,t42.2,t5.2.2.2.2.2.2.2.2.2.2.2)))
 (some (t7.1,t5.2)))))))
def jG:FL:=(98,⟨[.ptr uK none],[.val true tK (some true)],λa=>eS a⟩)::jF
theorem oQ:Gd jG:=tv oP 98 Tryz.f98 [] Tryz.func98
def il (b0:td) (p1:tQ):Option Bool :=
 (aZ b0).bind λt6 =>
 (cond t6
 ((bC p1).bind λt9 =>
 some t9)
 (some false)).bind λt10 =>
 (cond t10 (some (p1.1 != 162)) (some false)).bind λt15 =>
 some t15
def jH:FL:=(82,⟨[.val true tK false,.val true vk false],[.val false uf (some true)],λa=>il a.1 a.2⟩)::jG
theorem oR:Gd jH:=tv oQ 82 Tryz.f82 [] Tryz.func82
def ar (b0:List Int) (tag1:Int) (body2:List Int):Option (List Int) :=
 (tJ ([]:List Int) b0).bind λzs10 =>
 (ae tag1 0 255).bind λt12 =>
 (cond (!t12) (some true) (some (decide ((body2.length:Int)>250)))).bind λt18 =>
 cond t18
 (some zs10)
 ((tJ zs10 [IntKind.u8.wrap (tag1)]).bind λzs24 =>
 cond (decide ((body2.length:Int)>127))
 ((tJ zs24 ([129]:List Int)).bind λzs30 =>
 (tJ zs30 [IntKind.u8.wrap ((body2.length:Int))]).bind λzs36 =>
 (tJ zs36 body2).bind λzs38 =>
 some zs38)
 ((tJ zs24 [IntKind.u8.wrap ((body2.length:Int))]).bind λzs36_1 =>
 (tJ zs36_1 body2).bind λzs38_1 =>
 some zs38_1))
def jI:FL:=(201,⟨[.val false uG false,.val false tu false,.val false uG false],[.val false uG (some true)],λa=>ar a.1 a.2.1 a.2.2⟩)::jH
theorem oS:Gd jI:=tv oR 201 Tryz.f201 [] Tryz.func201
def bV (n0_1:Int) (out3:List Int):Option ((Int×List Int)⊕(List Int)) :=
 (cond (decide (n0_1<(-128))) (some true) (some (decide (n0_1>127)))).bind λt14 =>
 cond t14
 ((tJ [IntKind.u8.wrap (n0_1.fdiv (2^8))] out3).bind λzs21 =>
 some (.inl (n0_1.fdiv (2^8),zs21)))
 (some (.inr out3))
def ba (n0:Int):Option (List Int) :=
 (aw n0).bind λt5 =>
 (loop (λz=>bV z.1 z.2) (t5,[IntKind.u8.wrap (t5)])).bind λd =>
 some d
def jJ:FL:=(300,⟨[.val false tu false],[.val false uG (some true)],λa=>ba a⟩)::jI
theorem oT:Gd jJ:=tv oS 300 Tryz.f300 [(0,⟨⟨[(0,false,[dI]),(3,false,[.own 1000000000]),(12,false,[.undef]),(13,false,[.undef])],[(1000000000,.root (.one (.int .u8)) true)]⟩,
 ⟨[(3,false,[.own 1000000300])],[(1000000300,.root (.one (.int .u8)) true)]⟩,none⟩)] Tryz.func300
def bW (n0_1:Int) (out3:List Int):Option ((Int×List Int)⊕(List Int)) :=
 cond (decide (n0_1>127))
 ((tJ [IntKind.u8.wrap (AE .i64 (wT .i64 (n0_1.fdiv (2^7)) 127) 128)] out3).bind λzs18 =>
 some (.inl (n0_1.fdiv (2^7),zs18)))
 (some (.inr out3))
def dH (n0:Int):Option (List Int) :=
 (loop (λz=>bW z.1 z.2) (n0,[IntKind.u8.wrap (wT .i64 n0 127)])).bind λd =>
 some d
def jK:FL:=(365,⟨[.val false tu false],[.val false uG (some true)],λa=>dH a⟩)::jJ
theorem oU:Gd jK:=tv oT 365 Tryz.f365 [(0,⟨⟨[(0,false,[dI]),(3,false,[.own 1000000000])],[(1000000000,.root (.one (.int .u8)) true)]⟩,
 ⟨[(3,false,[.own 1000000300])],[(1000000300,.root (.one (.int .u8)) true)]⟩,none⟩)] Tryz.func365
def cC (o0:List Int) (i4:Int) (b3:List Int):Option ((Int×List Int)⊕(List Int)) :=
 cond (decide (i4<(o0.length:Int)))
 ((at? o0 i4).bind λx19 =>
 (dH x19).bind λt21 =>
 (tJ b3 t21).bind λzs22 =>
 some (.inl (te (i4+1),zs22)))
 (some (.inr b3))
def eT (o0:List Int):Option (List Int) :=
 (bD o0).bind λt7 =>
 cond (!t7)
 (some ([]:List Int))
 ((loop (λz=>cC o0 z.1 z.2) (0,([]:List Int))).bind λd =>
 some d)
def jL:FL:=(348,⟨[.val false vL false],[.val false uG (some true)],λa=>eT a⟩)::jK
theorem oV:Gd jL:=tv oU 348 Tryz.f348 [(0,⟨⟨[(3,false,[.own 1000000000]),(4,false,[dI])],[(1000000000,.root (.one (.int .u8)) true)]⟩,
 ⟨[(3,false,[.own 1000000300])],[(1000000300,.root (.one (.int .u8)) true)]⟩,none⟩)] Tryz.func348
def fU (b0:List Int) (v1:wQ):Option (List Int) :=
 (bo v1).bind λt7 =>
 cond (!t7)
 ((tJ ([]:List Int) b0).bind λzs11 =>
 some zs11)
 (cond (v1.1==2)
 ((ba v1.2.1).bind λt19 =>
 (ar b0 v1.1 t19).bind λt34 =>
 some t34)
 (cond (v1.1==4)
 ((ar b0 v1.1 (vU v1.2.2.1)).bind λt34_1 =>
 some t34_1)
 (cond (v1.1==6)
 ((eT v1.2.2.2).bind λt29 =>
 (ar b0 v1.1 t29).bind λt34_2 =>
 some t34_2)
 ((ar b0 v1.1 ([]:List Int)).bind λt34_3 =>
 some t34_3))))
def jM:FL:=(347,⟨[.val false uG false,.val true yd false],[.val false uG (some true)],λa=>fU a.1 a.2⟩)::jL
theorem oW:Gd jM:=tv oV 347 Tryz.f347 [] Tryz.func347
def cD (l0:List tg) (i4:Int) (b3:List Int):Option ((Int×List Int)⊕(List Int)) :=
 cond (decide (i4<(l0.length:Int)))
 ((at? l0 i4).bind λx16 =>
 (eT x16.1).bind λt19 =>
 (ar ([]:List Int) 6 t19).bind λt20 =>
 (at? l0 i4).bind λx23 =>
 (fU t20 x23.2).bind λt26 =>
 (ar b3 48 t26).bind λt29 =>
 some (.inl (te (i4+1),t29)))
 (some (.inr b3))
def fV (l0:List tg):Option (List Int) :=
 (loop (λz=>cD l0 z.1 z.2) (0,([]:List Int))).bind λd =>
 some d
def jN:FL:=(299,⟨[.val false (.one (.sl tG)) false],[.val false uG (some true)],λa=>fV a⟩)::jM
theorem oX:Gd jN:=tv oW 299 Tryz.f299 [(0,⟨⟨[(3,false,[.own 1000000000]),(4,false,[dI])],[(1000000000,.root (.one (.int .u8)) true)]⟩,
 ⟨[(3,false,[.own 1000000300])],[(1000000300,.root (.one (.int .u8)) true)]⟩,none⟩)] Tryz.func299
def ip (p0:tQ):Option ((List Int)×Bool) :=
 (fV p0.2.2.2.2).bind λt8 =>
 cond (decide ((t8.length:Int)>250))
 (some (([]:List Int),false))
 ((ba p0.2.1).bind λt16 =>
 (ar ([]:List Int) 2 t16).bind λt17 =>
 (ba p0.2.2.1).bind λt20 =>
 (ar t17 2 t20).bind λt21 =>
 (ba p0.2.2.2.1).bind λt24 =>
 (ar t21 2 t24).bind λt25 =>
 (ar t25 48 t8).bind λt28 =>
 let t3:=decide ((t28.length:Int)<=250)
 some (t28,t3))
def jO:FL:=(200,⟨[.val true vk false],[.val false uG (some true),.val false uf (some true)],λa=>ip a⟩)::jN
theorem oY:Gd jO:=tv oX 200 Tryz.f200 [] Tryz.func200
def eU (p0:tQ):Option (List Int) :=
 (bC p0).bind λt6 =>
 cond (!t6)
 (some ([]:List Int))
 ((ip p0).bind λt11 =>
 cond (!t11.2)
 (some ([]:List Int))
 ((ar ([]:List Int) p0.1 t11.1).bind λt21 =>
 some t21))
def jQ:FL:=(104,⟨[.val true vk false],[.val false uG (some true)],λa=>eU a⟩)::jO
theorem oZ:Gd jQ:=tv oY 104 Tryz.f104 [] Tryz.func104
def dJ (p0:tQ):Option Bool :=
 (eU p0).bind λt4 =>
 (ae (t4.length:Int) 1 120).bind λt6 =>
 some t6
def jR:FL:=(25,⟨[.val true vk false],[.val false uf (some true)],λa=>dJ a⟩)::jQ
theorem p6:Gd jR:=tv oZ 25 Tryz.f25 [] Tryz.func25
def bY (bulk1:Bool) (b0:Int) (b1:Int) (b2:Int) (b3:Int) (b4:List tg):Option ((Int×Int×Int×Int×List tg)⊕(Int×Int×Int×Int×List tg)) :=
 (cond bulk1
 ((dJ (b0,b1,b2,b3,b4)).bind λt8 =>
 some (!t8))
 (some false)).bind λt10 =>
 (cond t10 (some (decide ((b4.length:Int)>0))) (some false)).bind λt16 =>
 cond t16
 ((vj b4.length 0 (te ((b4.length:Int)-1))).bind λp =>
 some (.inl (b0,b1,b2,b3,(b4.take p.2).drop p.1)))
 (some (.inr (b0,b1,b2,b3,b4)))
def cE (p0:tQ) (bulk1:Bool):Option tQ :=
 (loop (λz=>bY bulk1 z.1 z.2.1 z.2.2.1 z.2.2.2.1 z.2.2.2.2) p0).bind λd =>
 (dJ d).bind λt26 =>
 cond t26 (some d) (some (162,d.2.1,7,0,[]))
def jS:FL:=(87,⟨[.val true vk true,.val false uf false],[.val true vk (some true)],λa=>cE a.1 a.2⟩)::jR
theorem p7:Gd jS:=tv p6 87 Tryz.f87 [(0,⟨⟨us 7 3 (us 12 4 []),[(1024,.box [dI,dI,dI,dI,.own 1000000000]),(1000000000,.root tG true)]⟩,
 ⟨[],[(1024,.box [dI,dI,dI,dI,.own 1000000300]),(1000000300,.root tG true)]⟩,none⟩)] Tryz.func87
def p8 (a0:List Int) (b1:List Int) (i5:Int):Option (Int⊕(Unit⊕Bool)) :=
 cond (decide (i5<(a0.length:Int)))
 ((at? a0 i5).bind λx19 =>
 (at? b1 i5).bind λx23 =>
 cond (x19 != x23) (some (.inr (.inr false))) (some (.inl (te (i5+1)))))
 (some (.inr (.inl ())))
def cG (a0:List Int) (b1:List Int):Option Bool :=
 cond ((a0.length:Int) != (b1.length:Int))
 (some false)
 ((loop (λz=>p8 a0 b1 z) 0).bind (Sum.elim (λd =>
 some true) (λr=>some r)))
def jT:FL:=(289,⟨[.val false vL false,.val false vL false],[.val false uf (some true)],λa=>cG a.1 a.2⟩)::jS
theorem p9:Gd jT:=tv p7 289 Tryz.f289 [(0,⟨⟨[(5,false,[dI])],[]⟩,
 ⟨[],[]⟩,some ⟨[(4,false,[dB])],[]⟩⟩)] Tryz.func289
def iq (o0:List Int) (head1:List Int):Option Bool :=
 (cond (decide ((o0.length:Int)>(head1.length:Int)))
 ((cut o0 0 (head1.length:Int)).bind λt14 =>
 (cG t14 head1).bind λt16 =>
 some t16)
 (some false)).bind λt17 =>
 some t17
def jU:FL:=(369,⟨[.val false vL false,.val false vL false],[.val false uf (some true)],λa=>iq a.1 a.2⟩)::jT
theorem pa:Gd jU:=tv p9 369 Tryz.f369 [] Tryz.func369
def eV (o0:List Int):Option ((List Int)×Bool) :=
 (iq o0 ([1,3,1]:List Int)).bind λt6 =>
 cond (!t6)
 (some (([]:List Int),false))
 ((cut o0 3 (o0.length:Int)).bind λt10 =>
 some (t10,true))
def jV:FL:=(362,⟨[.val false vL false],[.val false vL none,.val false uf (some true)],λa=>eV a⟩)::jU
theorem pb:Gd jV:=tv pa 362 Tryz.f362 [] Tryz.func362
def fW (p0:td) (i1:List Int):Option Bool :=
 (eV i1).bind λt9 =>
 cond (!t9.2)
 (some false)
 (cond ((t9.1.length:Int)==2)
 ((at? t9.1 0).bind λx18 =>
 (cond (x18==1)
 ((at? t9.1 1).bind λx23 =>
 some (x23==1))
 (some false)).bind λt26 =>
 some t26)
 (cond ((t9.1.length:Int) != 3)
 (some false)
 ((at? t9.1 0).bind λx31 =>
 cond (x31==2)
 ((at? t9.1 1).bind λx36 =>
 (cond (x36==2)
 (some true)
 ((at? t9.1 1).bind λx41 =>
 some (x41==4))).bind λt44 =>
 (cond t44
 ((at? t9.1 2).bind λx47 =>
 (ae x47 1 (p0.2.2.1.length:Int)).bind λt52 =>
 some t52)
 (some false)).bind λt53 =>
 some t53)
 (cond (x31==3)
 ((at? t9.1 1).bind λx57 =>
 (cond (x57==1)
 ((at? t9.1 2).bind λx62 =>
 (ae x62 1 99).bind λt64 =>
 some t64)
 (some false)).bind λt65 =>
 (cond t65
 (some true)
 ((at? t9.1 1).bind λx68 =>
 (cond (x68==2)
 (some true)
 ((at? t9.1 1).bind λx73 =>
 some (x73==3))).bind λt76 =>
 (cond t76
 ((at? t9.1 2).bind λx81 =>
 (bn (p0.2.2.2.2.1,p0.2.2.2.2.2.1) x81).bind λt83 =>
 some (decide (t83>=0)))
 (some false)).bind λt85 =>
 some t85)).bind λt86 =>
 some t86)
 (some false)))))
def jW:FL:=(338,⟨[.val true tK false,.val false vL false],[.val false uf (some true)],λa=>fW a.1 a.2⟩)::jV
theorem pc:Gd jW:=tv pb 338 Tryz.f338 [] Tryz.func338
def fX (p0:td) (i1:List Int):Option Bool :=
 (eV i1).bind λt9 =>
 cond (!t9.2)
 (some false)
 (cond ((t9.1.length:Int)==2)
 ((at? t9.1 0).bind λx19 =>
 (cond (x19==1)
 ((at? t9.1 1).bind λx24 =>
 (ae x24 2 5).bind λt26 =>
 some t26)
 (some false)).bind λt27 =>
 some t27)
 (cond ((t9.1.length:Int)==3)
 ((at? t9.1 0).bind λx31 =>
 (cond (x31==2)
 ((at? t9.1 1).bind λx36 =>
 (cond (x36==1)
 (some true)
 ((at? t9.1 1).bind λx41 =>
 some (x41==3))).bind λt44 =>
 some t44)
 (some false)).bind λt45 =>
 (cond t45
 ((at? t9.1 2).bind λx48 =>
 (ae x48 1 (p0.2.2.1.length:Int)).bind λt53 =>
 some t53)
 (some false)).bind λt54 =>
 some t54)
 (cond ((t9.1.length:Int)==4)
 ((at? t9.1 0).bind λx58 =>
 (cond (x58==4)
 ((at? t9.1 1).bind λx63 =>
 some (x63==1))
 (some false)).bind λt66 =>
 (cond t66
 ((at? t9.1 2).bind λx71 =>
 (at? t9.1 3).bind λx74 =>
 (bQ p0.2.2.2.1 x71 x74).bind λt76 =>
 some (decide (t76>=0)))
 (some false)).bind λt78 =>
 some t78)
 (some false))))
def jX:FL:=(339,⟨[.val true tK false,.val false vL false],[.val false uf (some true)],λa=>fX a.1 a.2⟩)::jW
theorem pf:Gd jX:=tv pc 339 Tryz.f339 [] Tryz.func339
def ir (b0:td) (c1:Int) (p2:Int) (n3:Int):Option (td×Int) :=
 cond (c1==2)
 ((ae n3 1 1000).bind λt13 =>
 cond (!t13)
 (some (b0,2))
 ((ix b0.2.2.1.length p2).bind λj20 =>
 (b0.2.2.1[j20]?).bind λx =>
 some ((b0.1,b0.2.1,b0.2.2.1.set j20 (x.1,n3,x.2.2.1,x.2.2.2.1,x.2.2.2.2.1,x.2.2.2.2.2.1,x.2.2.2.2.2.2.1,x.2.2.2.2.2.2.2),b0.2.2.2.1,b0.2.2.2.2.1,b0.2.2.2.2.2.1,b0.2.2.2.2.2.2.1,b0.2.2.2.2.2.2.2.1,b0.2.2.2.2.2.2.2.2.1,b0.2.2.2.2.2.2.2.2.2.1,b0.2.2.2.2.2.2.2.2.2.2),0)))
 ((ix b0.2.2.2.2.2.1.length p2).bind λj28 =>
 (b0.2.2.2.2.2.1[j28]?).bind λx_1 =>
 some ((b0.1,b0.2.1,b0.2.2.1,b0.2.2.2.1,b0.2.2.2.2.1,b0.2.2.2.2.2.1.set j28 n3,b0.2.2.2.2.2.2.1,b0.2.2.2.2.2.2.2.1,b0.2.2.2.2.2.2.2.2.1,b0.2.2.2.2.2.2.2.2.2.1,b0.2.2.2.2.2.2.2.2.2.2),0))
def jY:FL:=(340,⟨[.val true tK true,.val false tu false,.val false tu false,.val false tu false],[.val true tK (some true),.val false tu (some true)],λa=>ir a.1 a.2.1 a.2.2.1 a.2.2.2⟩)::jX
theorem pj:Gd jY:=tv pf 340 Tryz.f340 [] Tryz.func340
def iu (b0:td) (id1:Int) (n2:Int):Option (td×Int) :=
 (bn (b0.2.2.2.2.1,b0.2.2.2.2.2.1) id1).bind λt12 =>
 (cond (n2==4) (some (decide (t12<0))) (some false)).bind λt19 =>
 (cond t19 (some (decide ((b0.2.2.2.2.1.length:Int)<6))) (some false)).bind λt26 =>
 cond t26
 ((aF (b0.2.2.2.2.1,b0.2.2.2.2.2.1) (id1,0,0)).bind λt31 =>
 some ((b0.1,b0.2.1,b0.2.2.1,b0.2.2.2.1,t31.1,t31.2,b0.2.2.2.2.2.2.1,b0.2.2.2.2.2.2.2.1,b0.2.2.2.2.2.2.2.2.1,b0.2.2.2.2.2.2.2.2.2.1,b0.2.2.2.2.2.2.2.2.2.2),0))
 ((cond (n2==6) (some (decide (t12>=0))) (some false)).bind λt40 =>
 cond t40
 ((vj b0.2.2.2.2.1.length 0 t12).bind λp =>
 (tJ ([]:List tC) ((b0.2.2.2.2.1.take p.2).drop p.1)).bind λzs47 =>
 (vj b0.2.2.2.2.1.length (te (t12+1)) (b0.2.2.2.2.1.length:Int)).bind λp_1 =>
 (tJ zs47 ((b0.2.2.2.2.1.take p_1.2).drop p_1.1)).bind λzs54 =>
 some ((b0.1,b0.2.1,b0.2.2.1,b0.2.2.2.1,zs54,b0.2.2.2.2.2.1,b0.2.2.2.2.2.2.1,b0.2.2.2.2.2.2.2.1,b0.2.2.2.2.2.2.2.2.1,b0.2.2.2.2.2.2.2.2.2.1,b0.2.2.2.2.2.2.2.2.2.2),0))
 (some (b0,2)))
def jZ:FL:=(363,⟨[.val true tK true,.val false tu false,.val false tu false],[.val true tK (some true),.val false tu (some true)],λa=>iu a.1 a.2.1 a.2.2⟩)::jY
theorem pk:Gd jZ:=tv pj 363 Tryz.f363 [] Tryz.func363
def fY (b0:td) (c1:Int) (id2:Int) (n3:Int):Option (td×Int) :=
 cond (c1==1)
 ((iu b0 id2 n3).bind λt16 =>
 some t16)
 ((shl .i64 1 (IntKind.u64.wrap ((b0.2.2.1.length:Int)))).bind λt24 =>
 (ae n3 0 (te (t24-1))).bind λt26 =>
 cond (!t26)
 (some (b0,2))
 ((bn (b0.2.2.2.2.1,b0.2.2.2.2.2.1) id2).bind λt35 =>
 (ix b0.2.2.2.2.1.length t35).bind λj36 =>
 (b0.2.2.2.2.1[j36]?).bind λx37 =>
 cond (c1==2)
 ((aF (b0.2.2.2.2.1,b0.2.2.2.2.2.1) (x37.1,n3,x37.2.2)).bind λt47 =>
 some ((b0.1,b0.2.1,b0.2.2.1,b0.2.2.2.1,t47.1,t47.2,b0.2.2.2.2.2.2.1,b0.2.2.2.2.2.2.2.1,b0.2.2.2.2.2.2.2.2.1,b0.2.2.2.2.2.2.2.2.2.1,b0.2.2.2.2.2.2.2.2.2.2),0))
 ((aF (b0.2.2.2.2.1,b0.2.2.2.2.2.1) (x37.1,x37.2.1,n3)).bind λt47_1 =>
 some ((b0.1,b0.2.1,b0.2.2.1,b0.2.2.2.1,t47_1.1,t47_1.2,b0.2.2.2.2.2.2.1,b0.2.2.2.2.2.2.2.1,b0.2.2.2.2.2.2.2.2.1,b0.2.2.2.2.2.2.2.2.2.1,b0.2.2.2.2.2.2.2.2.2.2),0))))
def kc:FL:=(341,⟨[.val true tK true,.val false tu false,.val false tu false,.val false tu false],[.val true tK (some true),.val false tu (some true)],λa=>fY a.1 a.2.1 a.2.2.1 a.2.2.2⟩)::jZ
theorem pm:Gd kc:=tv pk 341 Tryz.f341 [] Tryz.func341
def eW (p0:td) (i1:tg):Option (td×Int) :=
 (am p0).bind λt9 =>
 (fW p0 i1.1).bind λt13 =>
 cond (!t13)
 ((fX p0 i1.1).bind λt18 =>
 cond t18 (some (t9,4)) (some (t9,3)))
 ((cut i1.1 3 (i1.1.length:Int)).bind λt23 =>
 (at? t23 0).bind λx25 =>
 cond (x25==1)
 (cond (i1.2.1 != 4)
 (some (t9,1))
 (let t34:=decide ((i1.2.2.2.1.length:Int)>10)
 cond t34
 (some (t9,2))
 (some ((t9.1,i1.2.2.2.1,t9.2.2.1,t9.2.2.2.1,t9.2.2.2.2.1,t9.2.2.2.2.2.1,t9.2.2.2.2.2.2.1,t9.2.2.2.2.2.2.2.1,t9.2.2.2.2.2.2.2.2.1,t9.2.2.2.2.2.2.2.2.2.1,t9.2.2.2.2.2.2.2.2.2.2),0))))
 (cond (i1.2.1 != 2)
 (some (t9,1))
 ((at? t23 0).bind λx52 =>
 cond (x52==2)
 ((at? t23 1).bind λx57 =>
 (at? t23 2).bind λx60 =>
 (ir t9 x57 (te (x60-1)) i1.2.2.1).bind λt66 =>
 some t66)
 ((at? t23 1).bind λx71 =>
 (at? t23 2).bind λx74 =>
 (fY t9 x71 x74 i1.2.2.1).bind λt79 =>
 some t79))))
def ke:FL:=(290,⟨[.val true tK false,.val true tG false],[.val true tK (some true),.val false tu (some true)],λa=>eW a.1 a.2⟩)::kc
theorem po:Gd ke:=tv pm 290 Tryz.f290 [] Tryz.func290
def eX (id0:Int) (l1:List Pt) (n5:Int) (i6:Int):Option ((Int×Int)⊕Int) :=
 (cond (decide (i6<(l1.length:Int))) (some (decide (i6<6))) (some false)).bind λt14 =>
 cond t14
 ((eP id0 l1 i6).bind λt20 =>
 cond (decide (t20<=2))
 ((shl .i64 1 (IntKind.u64.wrap (i6))).bind λt25 =>
 some (.inl (AE .i64 n5 t25,te (i6+1))))
 (some (.inl (n5,te (i6+1)))))
 (some (.inr n5))
def fZ (id0:Int) (l1:List Pt):Option Int :=
 (loop (λz=>eX id0 l1 z.1 z.2) (0,0)).bind λd =>
 some d
def kf:FL:=(255,⟨[.val false tu false,.val false (.one (.sl vD)) false],[.val false tu (some true)],λa=>fZ a.1 a.2⟩)::ke
theorem pp:Gd kf:=tv po 255 Tryz.f255 [(0,⟨⟨[(5,false,[dI]),(6,false,[dI]),(12,false,[.undef]),(13,false,[.undef])],[]⟩,
 ⟨[(5,false,[dI])],[]⟩,none⟩)] Tryz.func255
def ga (n0:Int) (port1:Int):Option Bool :=
 (ae port1 0 7).bind λt6 =>
 (cond t6
 ((shr .i64 n0 (IntKind.u64.wrap (port1))).bind λt11 =>
 some ((wT .i64 t11 1)==1))
 (some false)).bind λt14 =>
 some t14
def kg:FL:=(257,⟨[.val false tu false,.val false tu false],[.val false uf (some true)],λa=>ga a.1 a.2⟩)::kf
theorem pq:Gd kg:=tv pp 257 Tryz.f257 [] Tryz.func257
def dK (l0:List tk) (port1:Int) (i6:Int) (out5:List tk):Option ((Int×List tk)⊕(List tk)) :=
 cond (decide (i6<(l0.length:Int)))
 ((at? l0 i6).bind λx16 =>
 (cond x16.2.2.2.2
 (some true)
 ((at? l0 i6).bind λx22 =>
 some (x22.2.2.1 != port1))).bind λt27 =>
 cond t27
 ((at? l0 i6).bind λx31 =>
 (tJ out5 [x31]).bind λzs34 =>
 some (.inl (te (i6+1),zs34)))
 (some (.inl (te (i6+1),out5))))
 (some (.inr out5))
def gb (l0:List tk) (port1:Int):Option (List tk) :=
 (loop (λz=>dK l0 port1 z.1 z.2) (0,([]:List tk))).bind λd =>
 some d
def kh:FL:=(342,⟨[.val false (.one (.sl tT)) false,.val false tu false],[.val false (.one (.sl tT)) (some true)],λa=>gb a.1 a.2⟩)::kg
theorem pr:Gd kh:=tv pq 342 Tryz.f342 [(0,⟨⟨(5,false,[.own 1000000000])::(6,false,[dI])::us 20 7 [],[(1000000000,.root tT true)]⟩,
 ⟨[(5,false,[.own 1000000300])],[(1000000300,.root tT true)]⟩,none⟩)] Tryz.func342
def gd (b0:td) (t13:Int) (i4:Int) (b0_1:Int) (b1:List UInt8) (b6:Int) (b7:Int) (b8:Int) (b9:Int) (b10:Int) (b3:List tk):Option ((Int×Int×List UInt8×Int×Int×Int×Int×Int×List tk)⊕(Int×List UInt8×Int×Int×Int×Int×Int×List tk)) :=
 cond (decide (i4<(b0.2.2.1.length:Int)))
 ((ga t13 i4).bind λt23 =>
 cond (!t23)
 ((gb b3 i4).bind λt28 =>
 some (.inl (te (i4+1),b0_1,b1,b6,b7,b8,b9,b10,t28)))
 (some (.inl (te (i4+1),b0_1,b1,b6,b7,b8,b9,b10,b3))))
 (some (.inr (b0_1,b1,b6,b7,b8,b9,b10,b3)))
def bZ (b0:td):Option td :=
 (bp b0.2.2.2.2.2.2.2.2.2.2).bind λt7 =>
 (fZ b0.1 b0.2.2.1).bind λt13 =>
 (loop (λz=>gd b0 t13 z.1 z.2.1 z.2.2.1 z.2.2.2.1 z.2.2.2.2.1 z.2.2.2.2.2.1 z.2.2.2.2.2.2.1 z.2.2.2.2.2.2.2.1 z.2.2.2.2.2.2.2.2) (0,b0.1,b0.2.1,b0.2.2.2.2.2.2.1,b0.2.2.2.2.2.2.2.1,b0.2.2.2.2.2.2.2.2.1,b0.2.2.2.2.2.2.2.2.2.1,t7,b0.2.2.2.1)).bind λd =>
 some (d.1,d.2.1,b0.2.2.1,d.2.2.2.2.2.2.2,b0.2.2.2.2.1,b0.2.2.2.2.2.1,d.2.2.1,d.2.2.2.1,d.2.2.2.2.1,d.2.2.2.2.2.1,d.2.2.2.2.2.2.1)
def ki:FL:=(291,⟨[.val true tK true],[.val true tK (some true)],λa=>bZ a⟩)::kh
theorem pu:Gd ki:=tv pr 291 Tryz.f291 [(0,⟨⟨[(4,false,[dI])],[(1024,.box [dI,dS,.same 3,.own 1000000000,.same 5,.same 6,dI,dI,dI,dI,dI]),(1000000000,.root tT true)]⟩,
 ⟨[],[(1024,.box [dI,dS,.same 3,.own 1000000300,.same 5,.same 6,dI,dI,dI,dI,dI]),(1000000300,.root tT true)]⟩,none⟩)] Tryz.func291
def eY (p0:td) (i1:List tg) (t8:Int) (t9:Int) (b0_2:Int) (b1_2:List UInt8) (b6_2:Int) (b7_2:Int) (b8_2:Int) (b9_2:Int) (b10_2:Int):Option ((Int×Int×List UInt8×Int×Int×Int×Int×Int)⊕((Int×List UInt8×Int×Int×Int×Int×Int)⊕(Int×Int×Int×List UInt8×Int×Int×Int×Int×Int×List Pt×List tk×List tC×List Int))) :=
 cond (decide (t9<t8))
 ((at? i1 t9).bind λx36 =>
 (at? i1 t8).bind λx41 =>
 (cG x36.1 x41.1).bind λt44 =>
 cond t44
 ((am p0).bind λt46 =>
 some (.inr (.inr (5,te (t8+1),t46.1,t46.2.1,t46.2.2.2.2.2.2.1,t46.2.2.2.2.2.2.2.1,t46.2.2.2.2.2.2.2.2.1,t46.2.2.2.2.2.2.2.2.2.1,t46.2.2.2.2.2.2.2.2.2.2,t46.2.2.1,t46.2.2.2.1,t46.2.2.2.2.1,t46.2.2.2.2.2.1))))
 (some (.inl (te (t9+1),b0_2,b1_2,b6_2,b7_2,b8_2,b9_2,b10_2))))
 (some (.inr (.inl (b0_2,b1_2,b6_2,b7_2,b8_2,b9_2,b10_2))))
def ge (p0:td) (i1:List tg) (t8:Int) (b0:Int) (b1:List UInt8) (b6:Int) (b7:Int) (b8:Int) (b9:Int) (b10:Int) (b0_1:Int) (b1_1:List UInt8) (b6_1:Int) (b7_1:Int) (b8_1:Int) (b9_1:Int) (b10_1:Int) (b2:List Pt) (b3:List tk) (b4:List tC) (b5:List Int) (b2_1:List Pt) (b3_1:List tk) (b4_1:List tC) (b5_1:List Int):Option ((Int×Int×List UInt8×Int×Int×Int×Int×Int×Int×List UInt8×Int×Int×Int×Int×Int×List Pt×List tk×List tC×List Int×List Pt×List tk×List tC×List Int)⊕((Int×List UInt8×Int×Int×Int×Int×Int×Int×List UInt8×Int×Int×Int×Int×Int×List Pt×List tk×List tC×List Int×List Pt×List tk×List tC×List Int)⊕(Int×Int×Int×List UInt8×Int×Int×Int×Int×Int×List Pt×List tk×List tC×List Int))) :=
 cond (decide (t8<(i1.length:Int)))
 ((loop (λz=>eY p0 i1 t8 z.1 z.2.1 z.2.2.1 z.2.2.2.1 z.2.2.2.2.1 z.2.2.2.2.2.1 z.2.2.2.2.2.2.1 z.2.2.2.2.2.2.2) (0,b0,b1,b6,b7,b8,b9,b10)).bind (Sum.elim (λd =>
 (at? i1 t8).bind λx53 =>
 (eW (b0_1,b1_1,b2_1,b3_1,b4_1,b5_1,b6_1,b7_1,b8_1,b9_1,b10_1) x53).bind λt55 =>
 cond (t55.2 != 0)
 ((am p0).bind λt61 =>
 some (.inr (.inr (t55.2,te (t8+1),t61.1,t61.2.1,t61.2.2.2.2.2.2.1,t61.2.2.2.2.2.2.2.1,t61.2.2.2.2.2.2.2.2.1,t61.2.2.2.2.2.2.2.2.2.1,t61.2.2.2.2.2.2.2.2.2.2,t61.2.2.1,t61.2.2.2.1,t61.2.2.2.2.1,t61.2.2.2.2.2.1))))
 (some (.inl (te (t8+1),d.1,d.2.1,d.2.2.1,d.2.2.2.1,d.2.2.2.2.1,d.2.2.2.2.2.1,d.2.2.2.2.2.2,t55.1.1,t55.1.2.1,t55.1.2.2.2.2.2.2.1,t55.1.2.2.2.2.2.2.2.1,t55.1.2.2.2.2.2.2.2.2.1,t55.1.2.2.2.2.2.2.2.2.2.1,t55.1.2.2.2.2.2.2.2.2.2.2,b2,b3,b4,b5,t55.1.2.2.1,t55.1.2.2.2.1,t55.1.2.2.2.2.1,t55.1.2.2.2.2.2.1)))) (λr=>some (.inr (.inr r)))))
 (some (.inr (.inl (b0,b1,b6,b7,b8,b9,b10,b0_1,b1_1,b6_1,b7_1,b8_1,b9_1,b10_1,b2,b3,b4,b5,b2_1,b3_1,b4_1,b5_1))))
def gg (p0:td) (i1:List tg):Option (td×Int×Int) :=
 (am p0).bind λt13 =>
 (aZ p0).bind λt15 =>
 (cond (!t15) (some (decide ((i1.length:Int)>0))) (some false)).bind λt21 =>
 cond t21
 (some (t13,3,1))
 ((loop (λz=>ge p0 i1 z.1 z.2.1 z.2.2.1 z.2.2.2.1 z.2.2.2.2.1 z.2.2.2.2.2.1 z.2.2.2.2.2.2.1 z.2.2.2.2.2.2.2.1 z.2.2.2.2.2.2.2.2.1 z.2.2.2.2.2.2.2.2.2.1 z.2.2.2.2.2.2.2.2.2.2.1 z.2.2.2.2.2.2.2.2.2.2.2.1 z.2.2.2.2.2.2.2.2.2.2.2.2.1 z.2.2.2.2.2.2.2.2.2.2.2.2.2.1 z.2.2.2.2.2.2.2.2.2.2.2.2.2.2.1 z.2.2.2.2.2.2.2.2.2.2.2.2.2.2.2.1 z.2.2.2.2.2.2.2.2.2.2.2.2.2.2.2.2.1 z.2.2.2.2.2.2.2.2.2.2.2.2.2.2.2.2.2.1 z.2.2.2.2.2.2.2.2.2.2.2.2.2.2.2.2.2.2.1 z.2.2.2.2.2.2.2.2.2.2.2.2.2.2.2.2.2.2.2.1 z.2.2.2.2.2.2.2.2.2.2.2.2.2.2.2.2.2.2.2.2.1 z.2.2.2.2.2.2.2.2.2.2.2.2.2.2.2.2.2.2.2.2.2.1 z.2.2.2.2.2.2.2.2.2.2.2.2.2.2.2.2.2.2.2.2.2.2) (0,0,[],0,0,0,0,0,t13.1,t13.2.1,t13.2.2.2.2.2.2.1,t13.2.2.2.2.2.2.2.1,t13.2.2.2.2.2.2.2.2.1,t13.2.2.2.2.2.2.2.2.2.1,t13.2.2.2.2.2.2.2.2.2.2,[],[],[],[],t13.2.2.1,t13.2.2.2.1,t13.2.2.2.2.1,t13.2.2.2.2.2.1)).bind (Sum.elim (λd_1 =>
 cond ((i1.length:Int)==0)
 (some ((d_1.2.2.2.2.2.2.2.1,d_1.2.2.2.2.2.2.2.2.1,d_1.2.2.2.2.2.2.2.2.2.2.2.2.2.2.2.2.2.2.1,d_1.2.2.2.2.2.2.2.2.2.2.2.2.2.2.2.2.2.2.2.1,d_1.2.2.2.2.2.2.2.2.2.2.2.2.2.2.2.2.2.2.2.2.1,d_1.2.2.2.2.2.2.2.2.2.2.2.2.2.2.2.2.2.2.2.2.2,d_1.2.2.2.2.2.2.2.2.2.1,d_1.2.2.2.2.2.2.2.2.2.2.1,d_1.2.2.2.2.2.2.2.2.2.2.2.1,d_1.2.2.2.2.2.2.2.2.2.2.2.2.1,d_1.2.2.2.2.2.2.2.2.2.2.2.2.2.1),0,0))
 ((aN d_1.2.2.2.2.2.2.2.2.2.2.2.2.2.2.2.2.2.2.2.2 (d_1.2.2.2.2.2.2.2.2.2.2.2.2.2.2.2.2.2.2.1.length:Int)).bind λt75 =>
 cond (!t75)
 ((am p0).bind λt78 =>
 some (t78,5,(i1.length:Int)))
 ((bZ (d_1.2.2.2.2.2.2.2.1,d_1.2.2.2.2.2.2.2.2.1,d_1.2.2.2.2.2.2.2.2.2.2.2.2.2.2.2.2.2.2.1,d_1.2.2.2.2.2.2.2.2.2.2.2.2.2.2.2.2.2.2.2.1,d_1.2.2.2.2.2.2.2.2.2.2.2.2.2.2.2.2.2.2.2.2.1,d_1.2.2.2.2.2.2.2.2.2.2.2.2.2.2.2.2.2.2.2.2.2,d_1.2.2.2.2.2.2.2.2.2.1,d_1.2.2.2.2.2.2.2.2.2.2.1,d_1.2.2.2.2.2.2.2.2.2.2.2.1,d_1.2.2.2.2.2.2.2.2.2.2.2.2.1,d_1.2.2.2.2.2.2.2.2.2.2.2.2.2.1)).bind λt82 =>
 some (t82,0,0)))) (λr_1=>some ((r_1.2.2.1,r_1.2.2.2.1,r_1.2.2.2.2.2.2.2.2.2.1,r_1.2.2.2.2.2.2.2.2.2.2.1,r_1.2.2.2.2.2.2.2.2.2.2.2.1,r_1.2.2.2.2.2.2.2.2.2.2.2.2,r_1.2.2.2.2.1,r_1.2.2.2.2.2.1,r_1.2.2.2.2.2.2.1,r_1.2.2.2.2.2.2.2.1,r_1.2.2.2.2.2.2.2.2.1),r_1.1,r_1.2.1))))
def kj:FL:=(177,⟨[.val true tK false,.val false (.one (.sl tG)) false],[.val true tK (some true),.val false tu (some true),.val false tu (some true)],λa=>gg a.1 a.2⟩)::ki
theorem pv:Gd kj:=tv pu 177 Tryz.f177 [(0,⟨⟨[(8,false,[dI])],[(2048,.box [dI,dS,.own 1000000000,.own 1000000001,.own 1000000002,.own 1000000003,dI,dI,dI,dI,dI]),(265216,.box [dI,dS,.own 1000000004,.own 1000000005,.own 1000000006,.own 1000000007,dI,dI,dI,dI,dI]),(1000000000,.root vD true),(1000000001,.root tT true),(1000000002,.root uq true),(1000000003,.root tu true),(1000000004,.root vD true),(1000000005,.root tT true),(1000000006,.root uq true),(1000000007,.root tu true)]⟩,
 ⟨[],[(2048,.box [dI,dS,.own 1000000300,.own 1000000301,.own 1000000302,.own 1000000303,dI,dI,dI,dI,dI]),(265216,.box [dI,dS,.own 1000000304,.own 1000000305,.own 1000000306,.own 1000000307,dI,dI,dI,dI,dI]),(1000000300,.root vD true),(1000000301,.root tT true),(1000000302,.root uq true),(1000000303,.root tu true),(1000000304,.root vD true),(1000000305,.root tT true),(1000000306,.root uq true),(1000000307,.root tu true)]⟩,some ⟨[(5,false,[dI]),(6,false,[dI])],[(2048,.box [dI,dS,.own 1000000600,.own 1000000601,.own 1000000602,.own 1000000603,dI,dI,dI,dI,dI]),(1000000600,.root vD true),(1000000601,.root tT true),(1000000602,.root uq true),(1000000603,.root tu true)]⟩⟩),
 (2,⟨⟨[(9,false,[dI])],[(2048,.box [dI,dS,.same 1000000000,.same 1000000001,.same 1000000002,.same 1000000003,dI,dI,dI,dI,dI])]⟩,
 ⟨[],[(2048,.box [dI,dS,.same 1000000000,.same 1000000001,.same 1000000002,.same 1000000003,dI,dI,dI,dI,dI])]⟩,some ⟨[(5,false,[dI]),(6,false,[dI])],[(2048,.box [dI,dS,.own 1000002600,.own 1000002601,.own 1000002602,.own 1000002603,dI,dI,dI,dI,dI]),(1000002600,.root vD true),(1000002601,.root tT true),(1000002602,.root uq true),(1000002603,.root tu true)]⟩⟩)] Tryz.func177
def eZ (b0:td) (p1:tQ):Option (td×tQ) :=
 (cH p1.2.2.2.2).bind λt14 =>
 (gg b0 p1.2.2.2.2).bind λt20 =>
 (dJ (162,p1.2.1,t20.2.1,t20.2.2,t14)).bind λt29 =>
 (cond (!t29) (some true) (some (t20.2.1 != 0))).bind λt34 =>
 cond t34
 ((am b0).bind λt36 =>
 (cE (162,p1.2.1,t20.2.1,t20.2.2,t14) false).bind λt38 =>
 some (t36,t38))
 (some (t20.1,(162,p1.2.1,t20.2.1,t20.2.2,t14)))
def kk:FL:=(84,⟨[.val true tK false,.val true vk false],[.val true tK (some true),.val true vk (some true)],λa=>eZ a.1 a.2⟩)::kj
theorem pw:Gd kk:=tv pv 84 Tryz.f84 [] Tryz.func84
def pz (a0:List Int) (b1:List Int) (i5:Int):Option (Int⊕(Unit⊕Bool)) :=
 (cond (decide (i5<(a0.length:Int))) (some (decide (i5<(b1.length:Int)))) (some false)).bind λt15 =>
 cond t15
 ((at? a0 i5).bind λx20 =>
 (at? b1 i5).bind λx24 =>
 cond (x20 != x24)
 ((at? a0 i5).bind λx29 =>
 (at? b1 i5).bind λx33 =>
 some (.inr (.inr (decide (x29<x33)))))
 (some (.inl (te (i5+1)))))
 (some (.inr (.inl ())))
def iv (a0:List Int) (b1:List Int):Option Bool :=
 (loop (λz=>pz a0 b1 z) 0).bind (Sum.elim (λd =>
 let t4:=decide ((a0.length:Int)<(b1.length:Int))
 some t4) (λr=>some r))
def kl:FL:=(343,⟨[.val false vL false,.val false vL false],[.val false uf (some true)],λa=>iv a.1 a.2⟩)::kk
theorem pA:Gd kl:=tv pw 343 Tryz.f343 [(0,⟨⟨(5,false,[dI])::us 11 4 [],[]⟩,
 ⟨[],[]⟩,some ⟨[(4,false,[dB])],[]⟩⟩)] Tryz.func343
def iw (o1:List Int) (t8:List tg) (i6:Int) (b1:Int) (b2:Int) (b3:List UInt8) (b0_1:List Int) (b4:List Int):Option ((Int×Int×Int×List UInt8×List Int×List Int)⊕((Int×Int×List UInt8×List Int×List Int)⊕(List Int×Int×Int×List UInt8×List Int))) :=
 cond (decide (i6<(t8.length:Int)))
 ((ix t8.length i6).bind λj18 =>
 (t8[j18]?).bind λx20 =>
 (iv o1 x20.1).bind λt21 =>
 cond t21
 ((ix t8.length i6).bind λj24 =>
 (t8[j24]?).bind λx25 =>
 some (.inr (.inr x25)))
 (some (.inl (te (i6+1),b1,b2,b3,b0_1,b4))))
 (some (.inr (.inl (b1,b2,b3,b0_1,b4))))
def gh (b0:td) (o1:List Int):Option tg :=
 (cw b0).bind λt8 =>
 (loop (λz=>iw o1 t8 z.1 z.2.1 z.2.2.1 z.2.2.2.1 z.2.2.2.2.1 z.2.2.2.2.2) (0,0,0,[],[],[])).bind (Sum.elim (λd =>
 (tJ ([]:List Int) o1).bind λzs28 =>
 some (zs28,130,0,[],[])) (λr=>some r))
def ko:FL:=(292,⟨[.val true tK false,.val false vL false],[.val true tG none],λa=>gh a.1 a.2⟩)::kl
theorem pB:Gd ko:=tv pA 292 Tryz.f292 [(0,⟨⟨[(6,false,[dI])],[(2048,.box [.own 1000000000,dI,dI,dS,.own 1000000001]),(1000000000,.root tu true),(1000000001,.root tu true)]⟩,
 ⟨[],[(2048,.box [.own 1000000300,dI,dI,dS,.own 1000000301]),(1000000300,.root tu true),(1000000301,.root tu true)]⟩,some ⟨[],[(2048,.box [.dat (.sl tu),dI,dI,dS,.dat (.sl tu)])]⟩⟩)] Tryz.func292
def f0 (b0:td) (from1:List tg) (i6:Int) (out5:List tg):Option ((Int×List tg)⊕(List tg)) :=
 cond (decide (i6<(from1.length:Int)))
 ((at? from1 i6).bind λx16 =>
 cond (x16.2.1==130)
 ((at? from1 i6).bind λx24 =>
 (tJ out5 [x24]).bind λzs27 =>
 some (.inl (te (i6+1),zs27)))
 ((at? from1 i6).bind λx32 =>
 (gh b0 x32.1).bind λt35 =>
 (tJ out5 [t35]).bind λzs37 =>
 some (.inl (te (i6+1),zs37))))
 (some (.inr out5))
def bq (b0:td) (from1:List tg):Option (List tg) :=
 (loop (λz=>f0 b0 from1 z.1 z.2) (0,([]:List tg))).bind λd =>
 some d
def kq:FL:=(178,⟨[.val true tK false,.val false (.one (.sl tG)) false],[.val false (.one (.sl tG)) (some false)],λa=>bq a.1 a.2⟩)::ko
theorem pC:Gd kq:=tv pB 178 Tryz.f178 [(0,⟨⟨[(5,false,[.own 1000000000]),(6,false,[dI])],[(1000000000,.root tG false)]⟩,
 ⟨[(5,false,[.own 1000000300])],[(1000000300,.root tG false)]⟩,none⟩)] Tryz.func178
def f6 (l0:List tg) (i4:Int) (out3:List tg):Option ((Int×List tg)⊕(List tg)) :=
 cond (decide (i4<(l0.length:Int)))
 ((at? l0 i4).bind λx15 =>
 (tJ out3 ([(x15.1,5,0,[],[])])).bind λzs21 =>
 some (.inl (te (i4+1),zs21)))
 (some (.inr out3))
def cI (l0:List tg):Option (List tg) :=
 (loop (λz=>f6 l0 z.1 z.2) (0,([]:List tg))).bind λd =>
 some d
def kr:FL:=(179,⟨[.val false (.one (.sl tG)) false],[.val false (.one (.sl tG)) (some false)],λa=>cI a⟩)::kq
theorem pD:Gd kr:=tv pC 179 Tryz.f179 [(0,⟨⟨[(3,false,[.own 1000000000]),(4,false,[dI])],[(1000000000,.root tG false)]⟩,
 ⟨[(3,false,[.own 1000000300])],[(1000000300,.root tG false)]⟩,none⟩)] Tryz.func179
def bE (b0:td) (p1:tQ) (told8:List tg) (i9:Int) (out7:List tg):Option ((List tg×Int×List tg)⊕(List tg)) :=
 (cond (decide (i9<p1.2.2.2.1)) (some (decide ((told8.length:Int)>0))) (some false)).bind λt39 =>
 (cond t39 (some (decide ((out7.length:Int)<10))) (some false)).bind λt44 =>
 cond t44
 ((bq b0 told8).bind λt49 =>
 (tJ out7 t49).bind λzs52 =>
 some (.inl (t49,te (i9+1),zs52)))
 (some (.inr out7))
def pE (b0:td) (p1:tQ) (told8_1:List tg) (i9_1:Int) (out7_2:List tg):Option ((List tg×Int×List tg)⊕(List tg)) :=
 (cond (decide (i9_1<p1.2.2.2.1)) (some (decide ((told8_1.length:Int)>0))) (some false)).bind λt39_1 =>
 (cond t39_1 (some (decide ((out7_2.length:Int)<10))) (some false)).bind λt44_1 =>
 cond t44_1
 ((bq b0 told8_1).bind λt49_1 =>
 (tJ out7_2 t49_1).bind λzs52_1 =>
 some (.inl (t49_1,te (i9_1+1),zs52_1)))
 (some (.inr out7_2))
def gi (b0:td) (p1:tQ):Option (List tg) :=
 cond (decide (p1.2.2.1>(p1.2.2.2.2.length:Int)))
 (let k5:=(p1.2.2.2.2.length:Int)
 (cI p1.2.2.2.2).bind λt22 =>
 (vj t22.length 0 k5).bind λp =>
 (bq b0 ((t22.take p.2).drop p.1)).bind λt27 =>
 (cut t22 k5 (t22.length:Int)).bind λt30 =>
 (loop (λz=>bE b0 p1 z.1 z.2.1 z.2.2) (t30,0,t27)).bind λd =>
 cond (decide ((d.length:Int)>10))
 ((vj d.length 0 10).bind λp_1 =>
 some ((d.take p_1.2).drop p_1.1))
 (some d))
 ((cI p1.2.2.2.2).bind λt22_1 =>
 (vj t22_1.length 0 p1.2.2.1).bind λp_2 =>
 (bq b0 ((t22_1.take p_2.2).drop p_2.1)).bind λt27_1 =>
 (cut t22_1 p1.2.2.1 (t22_1.length:Int)).bind λt30_1 =>
 (loop (λz=>pE b0 p1 z.1 z.2.1 z.2.2) (t30_1,0,t27_1)).bind λd_1 =>
 cond (decide ((d_1.length:Int)>10))
 ((vj d_1.length 0 10).bind λp_3 =>
 some ((d_1.take p_3.2).drop p_3.1))
 (some d_1))
def kt:FL:=(180,⟨[.val true tK false,.val true vk false],[.val false (.one (.sl tG)) (some false)],λa=>gi a.1 a.2⟩)::kr
theorem pF:Gd kt:=tv pD 180 Tryz.f180 [(0,⟨⟨(7,false,[.own 1000000000])::(8,false,[.dat (.sl tG)])::(9,false,[dI])::us 36 3 (us 41 3 []),[(1000000000,.root tG false)]⟩,
 ⟨[(7,false,[.own 1000000300])],[(1000000300,.root tG false)]⟩,none⟩)] Tryz.func180
def iy (o1:List Int) (t8:List tg) (i6:Int) (b0_1:Int) (b1:Int) (b2:List UInt8) (b3:List Int):Option ((Int×Int×Int×List UInt8×List Int)⊕((Int×Int×List UInt8×List Int)⊕(Int×Int×List UInt8×List Int))) :=
 cond (decide (i6<(t8.length:Int)))
 ((ix t8.length i6).bind λj17 =>
 (t8[j17]?).bind λx19 =>
 (cG x19.1 o1).bind λt21 =>
 cond t21
 ((ix t8.length i6).bind λj24 =>
 (t8[j24]?).bind λx26 =>
 some (.inr (.inr x26.2)))
 (some (.inl (te (i6+1),b0_1,b1,b2,b3))))
 (some (.inr (.inl (b0_1,b1,b2,b3))))
def gj (b0:td) (o1:List Int):Option wQ :=
 (cw b0).bind λt8 =>
 (loop (λz=>iy o1 t8 z.1 z.2.1 z.2.2.1 z.2.2.2.1 z.2.2.2.2) (0,0,0,[],[])).bind (Sum.elim (λd =>
 some (128,0,[],[])) (λr=>some r))
def ku:FL:=(181,⟨[.val true tK false,.val false vL false],[.val true yd none],λa=>gj a.1 a.2⟩)::kt
theorem pG:Gd ku:=tv pF 181 Tryz.f181 [(0,⟨⟨[(6,false,[dI])],[(2048,.box [dI,dI,dS,.own 1000000000]),(1000000000,.root tu true)]⟩,
 ⟨[],[(2048,.box [dI,dI,dS,.own 1000000300]),(1000000300,.root tu true)]⟩,some ⟨[],[(2048,.box [dI,dI,dS,.dat (.sl tu)])]⟩⟩)] Tryz.func181
def dL (b0:td) (p1:tQ) (i6:Int) (out5:List tg):Option ((Int×List tg)⊕(List tg)) :=
 cond (decide (i6<(p1.2.2.2.2.length:Int)))
 ((at? p1.2.2.2.2 i6).bind λx34 =>
 (tJ ([]:List Int) x34.1).bind λzs37 =>
 (at? p1.2.2.2.2 i6).bind λx42 =>
 (gj b0 x42.1).bind λt45 =>
 (tJ out5 [(zs37,t45.1,t45.2.1,t45.2.2.1,t45.2.2.2)]).bind λzs48 =>
 some (.inl (te (i6+1),zs48)))
 (some (.inr out5))
def gk (b0:td) (p1:tQ):Option (List tg) :=
 cond (p1.1==161)
 ((cI p1.2.2.2.2).bind λt14 =>
 (bq b0 t14).bind λt15 =>
 some t15)
 (cond (p1.1==165)
 ((gi b0 p1).bind λt20 =>
 some t20)
 ((loop (λz=>dL b0 p1 z.1 z.2) (0,([]:List tg))).bind λd =>
 some d))
def kv:FL:=(86,⟨[.val true tK false,.val true vk false],[.val false (.one (.sl tG)) (some false)],λa=>gk a.1 a.2⟩)::ku
theorem pH:Gd kv:=tv pG 86 Tryz.f86 [(1,⟨⟨[(5,false,[.own 1000001000]),(6,false,[dI])],[(1000001000,.root tG false)]⟩,
 ⟨[(5,false,[.own 1000001300])],[(1000001300,.root tG false)]⟩,none⟩)] Tryz.func86
def gl (b0:td) (p1:tQ):Option (td×tQ×Bool) :=
 (il b0 p1).bind λt12 =>
 cond (!t12)
 ((am b0).bind λt15 =>
 some (t15,(0,0,0,0,[]),false))
 (cond (p1.1==163)
 ((eZ b0 p1).bind λt23 =>
 some (t23.1,t23.2,true))
 ((gk b0 p1).bind λt32 =>
 (cH t32).bind λt33 =>
 (am b0).bind λt36 =>
 (cE (162,p1.2.1,0,0,t33) (p1.1==165)).bind λt41 =>
 some (t36,t41,true)))
def kw:FL:=(14,⟨[.val true tK false,.val true vk false],[.val true tK (some true),.val true vk (some true),.val false uf (some true)],λa=>gl a.1 a.2⟩)::kv
theorem pI:Gd kw:=tv pH 14 Tryz.f14 [] Tryz.func14
def cJ (p0:List Int) (i1:Int):Option (Int×(List Int)×Int×Bool) :=
 (cond (decide (i1<0)) (some true) (some (decide (i1>=(p0.length:Int))))).bind λt17 =>
 (cond t17 (some true) (some (decide ((te (i1+1))>=(p0.length:Int))))).bind λt24 =>
 cond t24
 (some (0,([]:List Int),0,false))
 ((at? p0 (te (i1+1))).bind λx29 =>
 cond (decide ((te (x29))>127))
 ((cond ((te (x29)) != 129) (some true) (some (decide ((te (i1+2))>=(p0.length:Int))))).bind λt43 =>
 (cond t43
 (some true)
 ((at? p0 (te (i1+2))).bind λx47 =>
 some (decide (x47<128)))).bind λt50 =>
 cond t50
 (some (0,([]:List Int),0,false))
 ((at? p0 (te (i1+2))).bind λx54 =>
 (cond (decide ((te (x54))>250))
 (some true)
 (some (decide ((te (x54))>(te ((p0.length:Int)-(te ((te (i1+2))+1)))))))).bind λt68 =>
 cond t68
 (some (0,([]:List Int),0,false))
 ((at? p0 i1).bind λx72 =>
 (cut p0 (te ((te (i1+2))+1)) (te ((te ((te (i1+2))+1))+(te (x54))))).bind λt81 =>
 (tJ ([]:List Int) t81).bind λzs82 =>
 let t6:=te ((te ((te (i1+2))+1))+(te (x54)))
 some (te (x72),zs82,t6,true))))
 ((cond (decide ((te (x29))>250))
 (some true)
 (some (decide ((te (x29))>(te ((p0.length:Int)-(te (i1+2)))))))).bind λt68_1 =>
 cond t68_1
 (some (0,([]:List Int),0,false))
 ((at? p0 i1).bind λx72_1 =>
 (cut p0 (te (i1+2)) (te ((te (i1+2))+(te (x29))))).bind λt81_1 =>
 (tJ ([]:List Int) t81_1).bind λzs82_1 =>
 let t6_1:=te ((te (i1+2))+(te (x29)))
 some (te (x72_1),zs82_1,t6_1,true))))
def kz:FL:=(237,⟨[.val false uG false,.val false tu false],[.val false tu (some true),.val false uG (some true),.val false tu (some true),.val false uf (some true)],λa=>cJ a.1 a.2⟩)::kw
theorem pJ:Gd kz:=tv pI 237 Tryz.f237 [] Tryz.func237
def bG (r0:Aa) (tag1:Int):Option (Aa×List Int) :=
 (cJ r0.1 r0.2.1).bind λt18 =>
 (cond r0.2.2 (some true) (some (!t18.2.2.2))).bind λt30 =>
 (cond t30 (some true) (some (t18.1 != tag1))).bind λt35 =>
 cond t35
 (some ((r0.1,r0.2.1,true),([]:List Int)))
 (some ((r0.1,t18.2.2.1,r0.2.2),t18.2.1))
def kA:FL:=(239,⟨[.ptr A9 none,.val false tu false],[.val false uG (some true)],λa=>bG a.1 a.2⟩)::kz
theorem pK:Gd kA:=tv pJ 239 Tryz.f239 [] Tryz.func239
def dM (b0:List Int) (n4:Int) (i5:Int):Option ((Int×Int)⊕Int) :=
 cond (decide (i5<(b0.length:Int)))
 ((at? b0 i5).bind λx28 =>
 let n4_1:=AE .i64 (te (n4*2^8)) (te (x28))
 some (.inl (n4_1,te (i5+1))))
 (some (.inr n4))
def dN (b0:List Int) (n4_3:Int) (i5_1:Int):Option ((Int×Int)⊕Int) :=
 cond (decide (i5_1<(b0.length:Int)))
 ((at? b0 i5_1).bind λx28_1 =>
 let n4_4:=AE .i64 (te (n4_3*2^8)) (te (x28_1))
 some (.inl (n4_4,te (i5_1+1))))
 (some (.inr n4_3))
def f8 (b0:List Int):Option (Int×Bool) :=
 (ae (b0.length:Int) 1 4).bind λt8 =>
 cond (!t8)
 (some (0,false))
 ((at? b0 0).bind λx11 =>
 cond (decide ((te (x11))>127))
 ((loop (λz=>dM b0 z.1 z.2) (te ((te (x11))-256),1)).bind λd =>
 (ba d).bind λt33 =>
 cond ((t33.length:Int) != (b0.length:Int)) (some (0,false)) (some (d,true)))
 ((loop (λz=>dN b0 z.1 z.2) (te (x11),1)).bind λd_1 =>
 (ba d_1).bind λt33_1 =>
 cond ((t33_1.length:Int) != (b0.length:Int)) (some (0,false)) (some (d_1,true))))
def kB:FL:=(320,⟨[.val false uG false],[.val false tu (some true),.val false uf (some true)],λa=>f8 a⟩)::kA
theorem pL:Gd kB:=tv pK 320 Tryz.f320 [(0,⟨⟨[(4,false,[dI]),(5,false,[dI])],[]⟩,
 ⟨[(4,false,[dI])],[]⟩,none⟩)] Tryz.func320
def cK (r0:Aa):Option (Aa×Int) :=
 (bG r0 2).bind λt7 =>
 (f8 t7.2).bind λt8 =>
 (cond t7.1.2.2 (some true) (some (!t8.2))).bind λt19 =>
 some ((t7.1.1,t7.1.2.1,t19),t8.1)
def kC:FL:=(238,⟨[.ptr A9 none],[.val false tu (some true)],λa=>cK a⟩)::kB
theorem pM:Gd kC:=tv pL 238 Tryz.f238 [] Tryz.func238
def aH (p0:List Int) (t5_1:Int) (t6:Int) (t7:Int) (t8:Bool):Option ((Int×Int×Int×Bool)⊕(Int×Int×Int×Bool)) :=
 (cond t8 (some (decide (t5_1<(p0.length:Int)))) (some false)).bind λt25 =>
 (cond t25 (some (decide (t7<4))) (some false)).bind λt29 =>
 cond t29
 ((at? p0 t5_1).bind λx34 =>
 let t6_1:=AE .i64 (te (t6*2^7)) (te (wT .u8 x34 127))
 (at? p0 t5_1).bind λx41 =>
 some (.inl (te (t5_1+1),t6_1,te (t7+1),decide (x41>127))))
 (some (.inr (t5_1,t6,t7,t8)))
def au (p0:List Int) (t5:Int) (t4:List Int):Option ((Int×List Int)⊕((Int×List Int)⊕(Bool×List Int))) :=
 (cond (decide (t5<(p0.length:Int))) (some (decide ((t4.length:Int)<=10))) (some false)).bind λt18 =>
 cond t18
 ((loop (λz=>aH p0 z.1 z.2.1 z.2.2.1 z.2.2.2) (t5,0,0,true)).bind λd =>
 (cond d.2.2.2
 (some true)
 ((dH d.2.1).bind λt51 =>
 some ((t51.length:Int) != d.2.2.1))).bind λt55 =>
 cond t55
 (some (.inr (.inr (false,([]:List Int)))))
 ((tJ t4 [d.2.1]).bind λzs60 =>
 some (.inl (d.1,zs60))))
 (some (.inr (.inl (t5,t4))))
def ca (p0:List Int):Option ((List Int)×Bool) :=
 (loop (λz=>au p0 z.1 z.2) (0,([]:List Int))).bind (Sum.elim (λd_1 =>
 (cond (d_1.1 != (p0.length:Int))
 (some true)
 ((bD d_1.2).bind λt67 =>
 some (!t67))).bind λt69 =>
 cond t69 (some (([]:List Int),false)) (some (d_1.2,true))) (λr=>some (r.2,r.1)))
def kD:FL:=(353,⟨[.val false uG false],[.val false vL (some true),.val false uf (some true)],λa=>ca a⟩)::kC
theorem pN:Gd kD:=tv pM 353 Tryz.f353 [(0,⟨⟨(4,false,[.own 1000000000])::(5,false,[dI])::us 15 3 (us 21 4 (us 27 2 (us 50 5 []))),[(1000000000,.root tu true)]⟩,
 ⟨[(4,false,[.own 1000000300]),(5,false,[dI])],[(1000000300,.root tu true)]⟩,some ⟨[(2,false,[.own 1000000600]),(3,false,[dB])],[(1000000600,.root tu true)]⟩⟩),
 (2,⟨⟨(5,false,[dI])::(6,false,[dI])::(7,false,[dI])::(8,false,[dB])::us 21 4 (us 27 2 []),[]⟩,
 ⟨(5,false,[dI])::(6,false,[dI])::(7,false,[dI])::(8,false,[dB])::us 21 4 (us 27 2 []),[]⟩,none⟩)] Tryz.func353
def gm (b0:List Int) (at1:Int):Option (wQ×Int×Bool) :=
 (cJ b0 at1).bind λt16 =>
 cond (t16.1==2)
 ((f8 t16.2.1).bind λt31 =>
 (cond (!t16.2.2.2) (some true) (some (!t31.2))).bind λt53 =>
 (cond t53
 (some true)
 ((bo (t16.1,t31.1,[],[])).bind λt56 =>
 some (!t56))).bind λt58 =>
 cond t58
 (some ((0,0,[],[]),0,false))
 (some ((t16.1,t31.1,[],[]),t16.2.2.1,true)))
 (cond (t16.1==4)
 ((cond (!t16.2.2.2) (some true) (some (!true))).bind λt53_1 =>
 (cond t53_1
 (some true)
 ((bo (t16.1,0,uL t16.2.1,[])).bind λt56_1 =>
 some (!t56_1))).bind λt58_1 =>
 cond t58_1
 (some ((0,0,[],[]),0,false))
 (some ((t16.1,0,uL t16.2.1,[]),t16.2.2.1,true)))
 (cond (t16.1==6)
 ((ca t16.2.1).bind λt44 =>
 (cond (!t16.2.2.2) (some true) (some (!t44.2))).bind λt53_2 =>
 (cond t53_2
 (some true)
 ((bo (t16.1,0,[],t44.1)).bind λt56_2 =>
 some (!t56_2))).bind λt58_2 =>
 cond t58_2
 (some ((0,0,[],[]),0,false))
 (some ((t16.1,0,[],t44.1),t16.2.2.1,true)))
 (let is12:=(t16.2.1.length:Int)==0
 (cond (!t16.2.2.2) (some true) (some (!is12))).bind λt53_3 =>
 (cond t53_3
 (some true)
 ((bo (t16.1,0,[],[])).bind λt56_3 =>
 some (!t56_3))).bind λt58_3 =>
 cond t58_3
 (some ((0,0,[],[]),0,false))
 (some ((t16.1,0,[],[]),t16.2.2.1,true)))))
def kE:FL:=(354,⟨[.val false uG false,.val false tu false],[.val true yd (some true),.val false tu (some true),.val false uf (some true)],λa=>gm a.1 a.2⟩)::kD
theorem pO:Gd kE:=tv pN 354 Tryz.f354 [] Tryz.func354
def gn (b0:List Int):Option (tg×Bool) :=
 (bG (b0,0,false) 6).bind λt15 =>
 (ca t15.2).bind λt16 =>
 (gm b0 t15.1.2.1).bind λt25 =>
 (cond t15.1.2.2 (some true) (some (!t16.2))).bind λt36 =>
 (cond t36 (some true) (some (!t25.2.2))).bind λt40 =>
 (cond t40 (some true) (some (t25.2.1 != (b0.length:Int)))).bind λt46 =>
 cond t46
 (some (([],0,0,[],[]),false))
 (some ((t16.1,t25.1.1,t25.1.2.1,t25.1.2.2.1,t25.1.2.2.2),true))
def kF:FL:=(321,⟨[.val false uG false],[.val true tG (some true),.val false uf (some true)],λa=>gn a⟩)::kE
theorem pP:Gd kF:=tv pO 321 Tryz.f321 [] Tryz.func321
def av (b0:List Int) (b1:Int) (b2:Bool) (b0_1:Int) (b1_1:Int) (b2_1:Int) (b3:Int) (b0_2:List Int) (b1_2:Int) (b2_2:Bool) (b4:List tg):Option ((List Int×Int×Bool×Int×Int×Int×Int×List Int×Int×Bool×List tg)⊕(List Int×Int×Bool×Int×Int×Int×Int×List Int×Int×Bool×List tg)) :=
 (cond (!b2) (some (decide (b1_2<(b0_2.length:Int)))) (some false)).bind λt54 =>
 (cond t54 (some (decide ((b4.length:Int)<=10))) (some false)).bind λt60 =>
 cond t60
 ((bG (b0_2,b1_2,b2_2) 48).bind λt63 =>
 (gn t63.2).bind λt64 =>
 (cond t63.1.2.2 (some true) (some (!t64.2))).bind λt75 =>
 (tJ b4 [t64.1]).bind λzs82 =>
 some (.inl (b0,b1,t75,b0_1,b1_1,b2_1,b3,t63.1.1,t63.1.2.1,t63.1.2.2,zs82)))
 (some (.inr (b0,b1,b2,b0_1,b1_1,b2_1,b3,b0_2,b1_2,b2_2,b4)))
def gp (p0:List Int):Option (tQ×Bool) :=
 (cJ p0 0).bind λt15 =>
 (cK (t15.2.1,0,false)).bind λt26 =>
 (cK t26.1).bind λt29 =>
 (cK t29.1).bind λt32 =>
 (bG t32.1 48).bind λt35 =>
 (loop (λz=>av z.1 z.2.1 z.2.2.1 z.2.2.2.1 z.2.2.2.2.1 z.2.2.2.2.2.1 z.2.2.2.2.2.2.1 z.2.2.2.2.2.2.2.1 z.2.2.2.2.2.2.2.2.1 z.2.2.2.2.2.2.2.2.2.1 z.2.2.2.2.2.2.2.2.2.2) (t35.1.1,t35.1.2.1,t35.1.2.2,t15.1,t26.2,t29.2,t32.2,t35.2,0,false,[])).bind λd =>
 (cond (!t15.2.2.2) (some true) (some (t15.2.2.1 != (p0.length:Int)))).bind λt91 =>
 (cond t91 (some true) (some d.2.2.1)).bind λt97 =>
 (cond t97 (some true) (some (d.2.1 != (t15.2.1.length:Int)))).bind λt106 =>
 (cond t106
 (some true)
 (some (d.2.2.2.2.2.2.2.2.1 != (d.2.2.2.2.2.2.2.1.length:Int)))).bind λt118 =>
 (cond t118
 (some true)
 ((bC (d.2.2.2.1,d.2.2.2.2.1,d.2.2.2.2.2.1,d.2.2.2.2.2.2.1,d.2.2.2.2.2.2.2.2.2.2)).bind λt121 =>
 some (!t121))).bind λt123 =>
 cond t123
 (some ((0,0,0,0,[]),false))
 (some ((d.2.2.2.1,d.2.2.2.2.1,d.2.2.2.2.2.1,d.2.2.2.2.2.2.1,d.2.2.2.2.2.2.2.2.2.2),true))
def kG:FL:=(240,⟨[.val false uG false],[.val true vk (some true),.val false uf (some true)],λa=>gp a⟩)::kF
theorem pQ:Gd kG:=tv pP 240 Tryz.f240 [(0,⟨⟨us 44 10 (us 56 4 (us 73 2 [])),[(527360,.box [.dat (.sl (.one (.int .u8))),dI,dB]),(789504,.box [dI,dI,dI,dI,.own 1000000000]),(1839104,.box [.dat (.sl (.one (.int .u8))),dI,dB]),(1000000000,.root tG true)]⟩,
 ⟨[],[(527360,.box [.dat (.sl (.one (.int .u8))),dI,dB]),(789504,.box [dI,dI,dI,dI,.own 1000000300]),(1839104,.box [.dat (.sl (.one (.int .u8))),dI,dB]),(1000000300,.root tG true)]⟩,none⟩)] Tryz.func240
def f9 (p0:List UInt8) (i1:List Int):Option (tQ×Int) :=
 (cJ i1 0).bind λt17 =>
 (cK (t17.2.1,0,false)).bind λt26 =>
 (bG t26.1 4).bind λt28 =>
 (cond (!t17.2.2.2) (some true) (some (t17.1 != 48))).bind λt34 =>
 (cond t34 (some true) (some (t17.2.2.1 != (i1.length:Int)))).bind λt40 =>
 (cond t40 (some true) (some t28.1.2.2)).bind λt46 =>
 cond t46
 (some ((0,0,0,0,[]),1))
 (cond (t26.2 != 1)
 (some ((0,0,0,0,[]),2))
 (cond (!((uL t28.2)==p0))
 (some ((0,0,0,0,[]),3))
 ((cut t17.2.1 t28.1.2.1 (t17.2.1.length:Int)).bind λt62 =>
 (gp t62).bind λt63 =>
 cond (!t63.2) (some ((0,0,0,0,[]),1)) (some (t63.1,0)))))
def kH:FL:=(136,⟨[.val false FO false,.val false uG false],[.val true vk (some true),.val false tu (some true)],λa=>f9 a.1 a.2⟩)::kG
theorem pR:Gd kH:=tv pQ 136 Tryz.f136 [] Tryz.func136
def fa (a0:tB) (k1:Int):Option tB :=
 (ix a0.2.2.2.2.2.2.2.2.2.2.2.2.1.length k1).bind λj9 =>
 (a0.2.2.2.2.2.2.2.2.2.2.2.2.1[j9]?).bind λx =>
 (am (a0.1,a0.2.1,a0.2.2.1,a0.2.2.2.1,a0.2.2.2.2.1,a0.2.2.2.2.2.1,a0.2.2.2.2.2.2.1,a0.2.2.2.2.2.2.2.1,a0.2.2.2.2.2.2.2.2.1,a0.2.2.2.2.2.2.2.2.2.1,a0.2.2.2.2.2.2.2.2.2.2.1)).bind λt20 =>
 (ix (a0.2.2.2.2.2.2.2.2.2.2.2.2.1.set j9 (x.1,x.2.1,1,x.2.2.2.1,x.2.2.2.2.1,x.2.2.2.2.2.1,x.2.2.2.2.2.2.1,x.2.2.2.2.2.2.2.1,x.2.2.2.2.2.2.2.2.1,x.2.2.2.2.2.2.2.2.2.1,x.2.2.2.2.2.2.2.2.2.2.1,x.2.2.2.2.2.2.2.2.2.2.2.1,x.2.2.2.2.2.2.2.2.2.2.2.2.1,x.2.2.2.2.2.2.2.2.2.2.2.2.2.1,x.2.2.2.2.2.2.2.2.2.2.2.2.2.2.1,x.2.2.2.2.2.2.2.2.2.2.2.2.2.2.2.1,x.2.2.2.2.2.2.2.2.2.2.2.2.2.2.2.2.1,x.2.2.2.2.2.2.2.2.2.2.2.2.2.2.2.2.2.1,x.2.2.2.2.2.2.2.2.2.2.2.2.2.2.2.2.2.2.1,x.2.2.2.2.2.2.2.2.2.2.2.2.2.2.2.2.2.2.2.1,x.2.2.2.2.2.2.2.2.2.2.2.2.2.2.2.2.2.2.2.2)).length k1).bind λj21 =>
 ((a0.2.2.2.2.2.2.2.2.2.2.2.2.1.set j9 (x.1,x.2.1,1,x.2.2.2.1,x.2.2.2.2.1,x.2.2.2.2.2.1,x.2.2.2.2.2.2.1,x.2.2.2.2.2.2.2.1,x.2.2.2.2.2.2.2.2.1,x.2.2.2.2.2.2.2.2.2.1,x.2.2.2.2.2.2.2.2.2.2.1,x.2.2.2.2.2.2.2.2.2.2.2.1,x.2.2.2.2.2.2.2.2.2.2.2.2.1,x.2.2.2.2.2.2.2.2.2.2.2.2.2.1,x.2.2.2.2.2.2.2.2.2.2.2.2.2.2.1,x.2.2.2.2.2.2.2.2.2.2.2.2.2.2.2.1,x.2.2.2.2.2.2.2.2.2.2.2.2.2.2.2.2.1,x.2.2.2.2.2.2.2.2.2.2.2.2.2.2.2.2.2.1,x.2.2.2.2.2.2.2.2.2.2.2.2.2.2.2.2.2.2.1,x.2.2.2.2.2.2.2.2.2.2.2.2.2.2.2.2.2.2.2.1,x.2.2.2.2.2.2.2.2.2.2.2.2.2.2.2.2.2.2.2.2))[j21]?).bind λx_1 =>
 (ix ((a0.2.2.2.2.2.2.2.2.2.2.2.2.1.set j9 (x.1,x.2.1,1,x.2.2.2.1,x.2.2.2.2.1,x.2.2.2.2.2.1,x.2.2.2.2.2.2.1,x.2.2.2.2.2.2.2.1,x.2.2.2.2.2.2.2.2.1,x.2.2.2.2.2.2.2.2.2.1,x.2.2.2.2.2.2.2.2.2.2.1,x.2.2.2.2.2.2.2.2.2.2.2.1,x.2.2.2.2.2.2.2.2.2.2.2.2.1,x.2.2.2.2.2.2.2.2.2.2.2.2.2.1,x.2.2.2.2.2.2.2.2.2.2.2.2.2.2.1,x.2.2.2.2.2.2.2.2.2.2.2.2.2.2.2.1,x.2.2.2.2.2.2.2.2.2.2.2.2.2.2.2.2.1,x.2.2.2.2.2.2.2.2.2.2.2.2.2.2.2.2.2.1,x.2.2.2.2.2.2.2.2.2.2.2.2.2.2.2.2.2.2.1,x.2.2.2.2.2.2.2.2.2.2.2.2.2.2.2.2.2.2.2.1,x.2.2.2.2.2.2.2.2.2.2.2.2.2.2.2.2.2.2.2.2)).set j21 (x_1.1,x_1.2.1,x_1.2.2.1,x_1.2.2.2.1,x_1.2.2.2.2.1,x_1.2.2.2.2.2.1,x_1.2.2.2.2.2.2.1,x_1.2.2.2.2.2.2.2.1,t20.1,t20.2.1,t20.2.2.1,t20.2.2.2.1,t20.2.2.2.2.1,t20.2.2.2.2.2.1,t20.2.2.2.2.2.2.1,t20.2.2.2.2.2.2.2.1,t20.2.2.2.2.2.2.2.2.1,t20.2.2.2.2.2.2.2.2.2.1,t20.2.2.2.2.2.2.2.2.2.2,x_1.2.2.2.2.2.2.2.2.2.2.2.2.2.2.2.2.2.2.2.1,x_1.2.2.2.2.2.2.2.2.2.2.2.2.2.2.2.2.2.2.2.2)).length k1).bind λj28 =>
 (((a0.2.2.2.2.2.2.2.2.2.2.2.2.1.set j9 (x.1,x.2.1,1,x.2.2.2.1,x.2.2.2.2.1,x.2.2.2.2.2.1,x.2.2.2.2.2.2.1,x.2.2.2.2.2.2.2.1,x.2.2.2.2.2.2.2.2.1,x.2.2.2.2.2.2.2.2.2.1,x.2.2.2.2.2.2.2.2.2.2.1,x.2.2.2.2.2.2.2.2.2.2.2.1,x.2.2.2.2.2.2.2.2.2.2.2.2.1,x.2.2.2.2.2.2.2.2.2.2.2.2.2.1,x.2.2.2.2.2.2.2.2.2.2.2.2.2.2.1,x.2.2.2.2.2.2.2.2.2.2.2.2.2.2.2.1,x.2.2.2.2.2.2.2.2.2.2.2.2.2.2.2.2.1,x.2.2.2.2.2.2.2.2.2.2.2.2.2.2.2.2.2.1,x.2.2.2.2.2.2.2.2.2.2.2.2.2.2.2.2.2.2.1,x.2.2.2.2.2.2.2.2.2.2.2.2.2.2.2.2.2.2.2.1,x.2.2.2.2.2.2.2.2.2.2.2.2.2.2.2.2.2.2.2.2)).set j21 (x_1.1,x_1.2.1,x_1.2.2.1,x_1.2.2.2.1,x_1.2.2.2.2.1,x_1.2.2.2.2.2.1,x_1.2.2.2.2.2.2.1,x_1.2.2.2.2.2.2.2.1,t20.1,t20.2.1,t20.2.2.1,t20.2.2.2.1,t20.2.2.2.2.1,t20.2.2.2.2.2.1,t20.2.2.2.2.2.2.1,t20.2.2.2.2.2.2.2.1,t20.2.2.2.2.2.2.2.2.1,t20.2.2.2.2.2.2.2.2.2.1,t20.2.2.2.2.2.2.2.2.2.2,x_1.2.2.2.2.2.2.2.2.2.2.2.2.2.2.2.2.2.2.2.1,x_1.2.2.2.2.2.2.2.2.2.2.2.2.2.2.2.2.2.2.2.2))[j28]?).bind λx_2 =>
 some (a0.1,a0.2.1,a0.2.2.1,a0.2.2.2.1,a0.2.2.2.2.1,a0.2.2.2.2.2.1,a0.2.2.2.2.2.2.1,a0.2.2.2.2.2.2.2.1,a0.2.2.2.2.2.2.2.2.1,a0.2.2.2.2.2.2.2.2.2.1,a0.2.2.2.2.2.2.2.2.2.2.1,a0.2.2.2.2.2.2.2.2.2.2.2.1,((a0.2.2.2.2.2.2.2.2.2.2.2.2.1.set j9 (x.1,x.2.1,1,x.2.2.2.1,x.2.2.2.2.1,x.2.2.2.2.2.1,x.2.2.2.2.2.2.1,x.2.2.2.2.2.2.2.1,x.2.2.2.2.2.2.2.2.1,x.2.2.2.2.2.2.2.2.2.1,x.2.2.2.2.2.2.2.2.2.2.1,x.2.2.2.2.2.2.2.2.2.2.2.1,x.2.2.2.2.2.2.2.2.2.2.2.2.1,x.2.2.2.2.2.2.2.2.2.2.2.2.2.1,x.2.2.2.2.2.2.2.2.2.2.2.2.2.2.1,x.2.2.2.2.2.2.2.2.2.2.2.2.2.2.2.1,x.2.2.2.2.2.2.2.2.2.2.2.2.2.2.2.2.1,x.2.2.2.2.2.2.2.2.2.2.2.2.2.2.2.2.2.1,x.2.2.2.2.2.2.2.2.2.2.2.2.2.2.2.2.2.2.1,x.2.2.2.2.2.2.2.2.2.2.2.2.2.2.2.2.2.2.2.1,x.2.2.2.2.2.2.2.2.2.2.2.2.2.2.2.2.2.2.2.2)).set j21 (x_1.1,x_1.2.1,x_1.2.2.1,x_1.2.2.2.1,x_1.2.2.2.2.1,x_1.2.2.2.2.2.1,x_1.2.2.2.2.2.2.1,x_1.2.2.2.2.2.2.2.1,t20.1,t20.2.1,t20.2.2.1,t20.2.2.2.1,t20.2.2.2.2.1,t20.2.2.2.2.2.1,t20.2.2.2.2.2.2.1,t20.2.2.2.2.2.2.2.1,t20.2.2.2.2.2.2.2.2.1,t20.2.2.2.2.2.2.2.2.2.1,t20.2.2.2.2.2.2.2.2.2.2,x_1.2.2.2.2.2.2.2.2.2.2.2.2.2.2.2.2.2.2.2.1,x_1.2.2.2.2.2.2.2.2.2.2.2.2.2.2.2.2.2.2.2.2)).set j28 (x_2.1,x_2.2.1,x_2.2.2.1,x_2.2.2.2.1,x_2.2.2.2.2.1,x_2.2.2.2.2.2.1,x_2.2.2.2.2.2.2.1,x_2.2.2.2.2.2.2.2.1,x_2.2.2.2.2.2.2.2.2.1,x_2.2.2.2.2.2.2.2.2.2.1,x_2.2.2.2.2.2.2.2.2.2.2.1,x_2.2.2.2.2.2.2.2.2.2.2.2.1,x_2.2.2.2.2.2.2.2.2.2.2.2.2.1,x_2.2.2.2.2.2.2.2.2.2.2.2.2.2.1,x_2.2.2.2.2.2.2.2.2.2.2.2.2.2.2.1,x_2.2.2.2.2.2.2.2.2.2.2.2.2.2.2.2.1,x_2.2.2.2.2.2.2.2.2.2.2.2.2.2.2.2.2.1,x_2.2.2.2.2.2.2.2.2.2.2.2.2.2.2.2.2.2.1,x_2.2.2.2.2.2.2.2.2.2.2.2.2.2.2.2.2.2.2.1,0,x_2.2.2.2.2.2.2.2.2.2.2.2.2.2.2.2.2.2.2.2.2),a0.2.2.2.2.2.2.2.2.2.2.2.2.2.1,a0.2.2.2.2.2.2.2.2.2.2.2.2.2.2)
def kI:FL:=(322,⟨[.ptr ul (some false),.val false tu false],[],λa=>fa a.1 a.2⟩)::kH
theorem pS:Gd kI:=tv pR 322 Tryz.f322 [] Tryz.func322
def dO (a0:tB) (k1:Int):Option tB :=
 (vj a0.2.2.2.2.2.2.2.2.2.2.2.2.1.length 0 k1).bind λp =>
 (tJ ([]:List um) ((a0.2.2.2.2.2.2.2.2.2.2.2.2.1.take p.2).drop p.1)).bind λzs12 =>
 (vj a0.2.2.2.2.2.2.2.2.2.2.2.2.1.length (te (k1+1)) (a0.2.2.2.2.2.2.2.2.2.2.2.2.1.length:Int)).bind λp_1 =>
 (tJ zs12 ((a0.2.2.2.2.2.2.2.2.2.2.2.2.1.take p_1.2).drop p_1.1)).bind λzs20 =>
 some (a0.1,a0.2.1,a0.2.2.1,a0.2.2.2.1,a0.2.2.2.2.1,a0.2.2.2.2.2.1,a0.2.2.2.2.2.2.1,a0.2.2.2.2.2.2.2.1,a0.2.2.2.2.2.2.2.2.1,a0.2.2.2.2.2.2.2.2.2.1,a0.2.2.2.2.2.2.2.2.2.2.1,a0.2.2.2.2.2.2.2.2.2.2.2.1,zs20,a0.2.2.2.2.2.2.2.2.2.2.2.2.2.1,a0.2.2.2.2.2.2.2.2.2.2.2.2.2.2)
def kJ:FL:=(323,⟨[.ptr ul (some false),.val false tu false],[],λa=>dO a.1 a.2⟩)::kI
theorem pT:Gd kJ:=tv pS 323 Tryz.f323 [] Tryz.func323
def dP (p0:tB) (i1:Int):Option tB :=
 (ix p0.2.2.2.2.2.2.2.2.2.2.2.2.1.length i1).bind λj16 =>
 (p0.2.2.2.2.2.2.2.2.2.2.2.2.1[j16]?).bind λx18 =>
 (f9 p0.2.2.2.2.2.2.2.2.2.2.2.1 x18.2.1).bind λt19 =>
 (cond (t19.2==0) (some (t19.1.1 != 162)) (some false)).bind λt28 =>
 cond t28
 ((ix p0.2.2.2.2.2.2.2.2.2.2.2.2.1.length i1).bind λj35 =>
 (p0.2.2.2.2.2.2.2.2.2.2.2.2.1[j35]?).bind λx =>
 (fa (p0.1,p0.2.1,p0.2.2.1,p0.2.2.2.1,p0.2.2.2.2.1,p0.2.2.2.2.2.1,p0.2.2.2.2.2.2.1,p0.2.2.2.2.2.2.2.1,p0.2.2.2.2.2.2.2.2.1,p0.2.2.2.2.2.2.2.2.2.1,p0.2.2.2.2.2.2.2.2.2.2.1,p0.2.2.2.2.2.2.2.2.2.2.2.1,p0.2.2.2.2.2.2.2.2.2.2.2.2.1.set j35 (x.1,x.2.1,x.2.2.1,t19.1.1,t19.1.2.1,t19.1.2.2.1,t19.1.2.2.2.1,t19.1.2.2.2.2,x.2.2.2.2.2.2.2.2.1,x.2.2.2.2.2.2.2.2.2.1,x.2.2.2.2.2.2.2.2.2.2.1,x.2.2.2.2.2.2.2.2.2.2.2.1,x.2.2.2.2.2.2.2.2.2.2.2.2.1,x.2.2.2.2.2.2.2.2.2.2.2.2.2.1,x.2.2.2.2.2.2.2.2.2.2.2.2.2.2.1,x.2.2.2.2.2.2.2.2.2.2.2.2.2.2.2.1,x.2.2.2.2.2.2.2.2.2.2.2.2.2.2.2.2.1,x.2.2.2.2.2.2.2.2.2.2.2.2.2.2.2.2.2.1,x.2.2.2.2.2.2.2.2.2.2.2.2.2.2.2.2.2.2.1,x.2.2.2.2.2.2.2.2.2.2.2.2.2.2.2.2.2.2.2.1,x.2.2.2.2.2.2.2.2.2.2.2.2.2.2.2.2.2.2.2.2),p0.2.2.2.2.2.2.2.2.2.2.2.2.2.1,p0.2.2.2.2.2.2.2.2.2.2.2.2.2.2) i1).bind λt39 =>
 some t39)
 (cond (t19.2==3)
 ((bp p0.2.2.2.2.2.2.2.2.1).bind λt48 =>
 (dO (p0.1,p0.2.1,p0.2.2.1,p0.2.2.2.1,p0.2.2.2.2.1,p0.2.2.2.2.2.1,p0.2.2.2.2.2.2.1,p0.2.2.2.2.2.2.2.1,t48,p0.2.2.2.2.2.2.2.2.2.1,p0.2.2.2.2.2.2.2.2.2.2.1,p0.2.2.2.2.2.2.2.2.2.2.2.1,p0.2.2.2.2.2.2.2.2.2.2.2.2.1,p0.2.2.2.2.2.2.2.2.2.2.2.2.2.1,p0.2.2.2.2.2.2.2.2.2.2.2.2.2.2) i1).bind λt64 =>
 some t64)
 ((bp p0.2.2.2.2.2.2.2.1).bind λt58 =>
 (dO (p0.1,p0.2.1,p0.2.2.1,p0.2.2.2.1,p0.2.2.2.2.1,p0.2.2.2.2.2.1,p0.2.2.2.2.2.2.1,t58,p0.2.2.2.2.2.2.2.2.1,p0.2.2.2.2.2.2.2.2.2.1,p0.2.2.2.2.2.2.2.2.2.2.1,p0.2.2.2.2.2.2.2.2.2.2.2.1,p0.2.2.2.2.2.2.2.2.2.2.2.2.1,p0.2.2.2.2.2.2.2.2.2.2.2.2.2.1,p0.2.2.2.2.2.2.2.2.2.2.2.2.2.2) i1).bind λt64_1 =>
 some t64_1))
def kK:FL:=(242,⟨[.ptr ul (some false),.val false tu false],[],λa=>dP a.1 a.2⟩)::kJ
theorem pU:Gd kK:=tv pT 242 Tryz.f242 [] Tryz.func242
def dQ (a0:tB) (k1:Int) (p2:tQ):Option (tB×List v9) :=
 (ix a0.2.2.2.2.2.2.2.2.2.2.2.2.1.length k1).bind λj13 =>
 (a0.2.2.2.2.2.2.2.2.2.2.2.2.1[j13]?).bind λx15 =>
 (dO a0 k1).bind λt21 =>
 some (t21,[(x15.1,p2.1,p2.2.1,p2.2.2.1,p2.2.2.2.1,p2.2.2.2.2)])
def kL:FL:=(244,⟨[.ptr ul (some false),.val false tu false,.val true vk false],[.val false (.one (.sl xC)) (some false)],λa=>dQ a.1 a.2.1 a.2.2⟩)::kK
theorem pV:Gd kL:=tv pU 244 Tryz.f244 [] Tryz.func244
def gq (p0:tB) (i1:Int):Option (tB×List v9) :=
 (ix p0.2.2.2.2.2.2.2.2.2.2.2.2.1.length i1).bind λj14 =>
 (p0.2.2.2.2.2.2.2.2.2.2.2.2.1[j14]?).bind λx15 =>
 cond (p0.2.2.2.2.2.2.2.2.2.2.1==x15.2.2.2.2.2.2.2.2.2.2.2.2.2.2.2.2.2.2.1)
 ((eZ (p0.1,p0.2.1,p0.2.2.1,p0.2.2.2.1,p0.2.2.2.2.1,p0.2.2.2.2.2.1,p0.2.2.2.2.2.2.1,p0.2.2.2.2.2.2.2.1,p0.2.2.2.2.2.2.2.2.1,p0.2.2.2.2.2.2.2.2.2.1,p0.2.2.2.2.2.2.2.2.2.2.1) (x15.2.2.2.1,x15.2.2.2.2.1,x15.2.2.2.2.2.1,x15.2.2.2.2.2.2.1,x15.2.2.2.2.2.2.2.1)).bind λt32 =>
 (dQ (t32.1.1,t32.1.2.1,t32.1.2.2.1,t32.1.2.2.2.1,t32.1.2.2.2.2.1,t32.1.2.2.2.2.2.1,t32.1.2.2.2.2.2.2.1,t32.1.2.2.2.2.2.2.2.1,t32.1.2.2.2.2.2.2.2.2.1,t32.1.2.2.2.2.2.2.2.2.2.1,t32.1.2.2.2.2.2.2.2.2.2.2,p0.2.2.2.2.2.2.2.2.2.2.2.1,p0.2.2.2.2.2.2.2.2.2.2.2.2.1,p0.2.2.2.2.2.2.2.2.2.2.2.2.2.1,p0.2.2.2.2.2.2.2.2.2.2.2.2.2.2) i1 t32.2).bind λt42 =>
 some t42)
 (cond (decide (x15.2.2.2.2.2.2.2.2.2.2.2.2.2.2.2.2.2.2.2.2>=3))
 ((cH x15.2.2.2.2.2.2.2.1).bind λt52 =>
 (cE (162,x15.2.2.2.2.1,6,1,t52) false).bind λt57 =>
 (dQ p0 i1 t57).bind λt58 =>
 some t58)
 ((ix p0.2.2.2.2.2.2.2.2.2.2.2.2.1.length i1).bind λj67 =>
 (p0.2.2.2.2.2.2.2.2.2.2.2.2.1[j67]?).bind λx =>
 (fa (p0.1,p0.2.1,p0.2.2.1,p0.2.2.2.1,p0.2.2.2.2.1,p0.2.2.2.2.2.1,p0.2.2.2.2.2.2.1,p0.2.2.2.2.2.2.2.1,p0.2.2.2.2.2.2.2.2.1,p0.2.2.2.2.2.2.2.2.2.1,p0.2.2.2.2.2.2.2.2.2.2.1,p0.2.2.2.2.2.2.2.2.2.2.2.1,p0.2.2.2.2.2.2.2.2.2.2.2.2.1.set j67 (x.1,x.2.1,x.2.2.1,x.2.2.2.1,x.2.2.2.2.1,x.2.2.2.2.2.1,x.2.2.2.2.2.2.1,x.2.2.2.2.2.2.2.1,x.2.2.2.2.2.2.2.2.1,x.2.2.2.2.2.2.2.2.2.1,x.2.2.2.2.2.2.2.2.2.2.1,x.2.2.2.2.2.2.2.2.2.2.2.1,x.2.2.2.2.2.2.2.2.2.2.2.2.1,x.2.2.2.2.2.2.2.2.2.2.2.2.2.1,x.2.2.2.2.2.2.2.2.2.2.2.2.2.2.1,x.2.2.2.2.2.2.2.2.2.2.2.2.2.2.2.1,x.2.2.2.2.2.2.2.2.2.2.2.2.2.2.2.2.1,x.2.2.2.2.2.2.2.2.2.2.2.2.2.2.2.2.2.1,x.2.2.2.2.2.2.2.2.2.2.2.2.2.2.2.2.2.2.1,x.2.2.2.2.2.2.2.2.2.2.2.2.2.2.2.2.2.2.2.1,te (x15.2.2.2.2.2.2.2.2.2.2.2.2.2.2.2.2.2.2.2.2+1)),p0.2.2.2.2.2.2.2.2.2.2.2.2.2.1,p0.2.2.2.2.2.2.2.2.2.2.2.2.2.2) i1).bind λt71 =>
 some (t71,([]:List v9))))
def kM:FL:=(243,⟨[.ptr ul (some false),.val false tu false],[.val false (.one (.sl xC)) (some false)],λa=>gq a.1 a.2⟩)::kL
theorem pW:Gd kM:=tv pV 243 Tryz.f243 [] Tryz.func243
def dR (p0:tB) (i1:Int):Option (tB×List v9) :=
 (ix p0.2.2.2.2.2.2.2.2.2.2.2.2.1.length i1).bind λj14 =>
 (p0.2.2.2.2.2.2.2.2.2.2.2.2.1[j14]?).bind λx15 =>
 cond (x15.2.2.1==0)
 ((dP p0 i1).bind λt35 =>
 some (t35,([]:List v9)))
 ((cond (x15.2.2.1==1)
 (some (decide (x15.2.2.2.2.2.2.2.2.2.2.2.2.2.2.2.2.2.2.2.1<(x15.2.2.2.2.2.2.2.1.length:Int))))
 (some false)).bind λt48 =>
 cond t48
 ((ix p0.2.2.2.2.2.2.2.2.2.2.2.2.1.length i1).bind λj57 =>
 (p0.2.2.2.2.2.2.2.2.2.2.2.2.1[j57]?).bind λx =>
 some ((p0.1,p0.2.1,p0.2.2.1,p0.2.2.2.1,p0.2.2.2.2.1,p0.2.2.2.2.2.1,p0.2.2.2.2.2.2.1,p0.2.2.2.2.2.2.2.1,p0.2.2.2.2.2.2.2.2.1,p0.2.2.2.2.2.2.2.2.2.1,p0.2.2.2.2.2.2.2.2.2.2.1,p0.2.2.2.2.2.2.2.2.2.2.2.1,p0.2.2.2.2.2.2.2.2.2.2.2.2.1.set j57 (x.1,x.2.1,x.2.2.1,x.2.2.2.1,x.2.2.2.2.1,x.2.2.2.2.2.1,x.2.2.2.2.2.2.1,x.2.2.2.2.2.2.2.1,x.2.2.2.2.2.2.2.2.1,x.2.2.2.2.2.2.2.2.2.1,x.2.2.2.2.2.2.2.2.2.2.1,x.2.2.2.2.2.2.2.2.2.2.2.1,x.2.2.2.2.2.2.2.2.2.2.2.2.1,x.2.2.2.2.2.2.2.2.2.2.2.2.2.1,x.2.2.2.2.2.2.2.2.2.2.2.2.2.2.1,x.2.2.2.2.2.2.2.2.2.2.2.2.2.2.2.1,x.2.2.2.2.2.2.2.2.2.2.2.2.2.2.2.2.1,x.2.2.2.2.2.2.2.2.2.2.2.2.2.2.2.2.2.1,x.2.2.2.2.2.2.2.2.2.2.2.2.2.2.2.2.2.2.1,te (x15.2.2.2.2.2.2.2.2.2.2.2.2.2.2.2.2.2.2.2.1+1),x.2.2.2.2.2.2.2.2.2.2.2.2.2.2.2.2.2.2.2.2),p0.2.2.2.2.2.2.2.2.2.2.2.2.2.1,p0.2.2.2.2.2.2.2.2.2.2.2.2.2.2),([]:List v9)))
 (cond (x15.2.2.1==1)
 ((ix p0.2.2.2.2.2.2.2.2.2.2.2.2.1.length i1).bind λj68 =>
 (p0.2.2.2.2.2.2.2.2.2.2.2.2.1[j68]?).bind λx_1 =>
 some ((p0.1,p0.2.1,p0.2.2.1,p0.2.2.2.1,p0.2.2.2.2.1,p0.2.2.2.2.2.1,p0.2.2.2.2.2.2.1,p0.2.2.2.2.2.2.2.1,p0.2.2.2.2.2.2.2.2.1,p0.2.2.2.2.2.2.2.2.2.1,p0.2.2.2.2.2.2.2.2.2.2.1,p0.2.2.2.2.2.2.2.2.2.2.2.1,p0.2.2.2.2.2.2.2.2.2.2.2.2.1.set j68 (x_1.1,x_1.2.1,2,x_1.2.2.2.1,x_1.2.2.2.2.1,x_1.2.2.2.2.2.1,x_1.2.2.2.2.2.2.1,x_1.2.2.2.2.2.2.2.1,x_1.2.2.2.2.2.2.2.2.1,x_1.2.2.2.2.2.2.2.2.2.1,x_1.2.2.2.2.2.2.2.2.2.2.1,x_1.2.2.2.2.2.2.2.2.2.2.2.1,x_1.2.2.2.2.2.2.2.2.2.2.2.2.1,x_1.2.2.2.2.2.2.2.2.2.2.2.2.2.1,x_1.2.2.2.2.2.2.2.2.2.2.2.2.2.2.1,x_1.2.2.2.2.2.2.2.2.2.2.2.2.2.2.2.1,x_1.2.2.2.2.2.2.2.2.2.2.2.2.2.2.2.2.1,x_1.2.2.2.2.2.2.2.2.2.2.2.2.2.2.2.2.2.1,x_1.2.2.2.2.2.2.2.2.2.2.2.2.2.2.2.2.2.2.1,x_1.2.2.2.2.2.2.2.2.2.2.2.2.2.2.2.2.2.2.2.1,x_1.2.2.2.2.2.2.2.2.2.2.2.2.2.2.2.2.2.2.2.2),p0.2.2.2.2.2.2.2.2.2.2.2.2.2.1,p0.2.2.2.2.2.2.2.2.2.2.2.2.2.2),([]:List v9)))
 (cond (x15.2.2.2.1==163)
 ((gq p0 i1).bind λt77 =>
 some t77)
 ((gl (x15.2.2.2.2.2.2.2.2.1,x15.2.2.2.2.2.2.2.2.2.1,x15.2.2.2.2.2.2.2.2.2.2.1,x15.2.2.2.2.2.2.2.2.2.2.2.1,x15.2.2.2.2.2.2.2.2.2.2.2.2.1,x15.2.2.2.2.2.2.2.2.2.2.2.2.2.1,x15.2.2.2.2.2.2.2.2.2.2.2.2.2.2.1,x15.2.2.2.2.2.2.2.2.2.2.2.2.2.2.2.1,x15.2.2.2.2.2.2.2.2.2.2.2.2.2.2.2.2.1,x15.2.2.2.2.2.2.2.2.2.2.2.2.2.2.2.2.2.1,x15.2.2.2.2.2.2.2.2.2.2.2.2.2.2.2.2.2.2.1) (x15.2.2.2.1,x15.2.2.2.2.1,x15.2.2.2.2.2.1,x15.2.2.2.2.2.2.1,x15.2.2.2.2.2.2.2.1)).bind λt21 =>
 (dQ p0 i1 t21.2.1).bind λt28 =>
 some t28))))
def kN:FL:=(140,⟨[.ptr ul (some false),.val false tu false],[.val false (.one (.sl xC)) (some false)],λa=>dR a.1 a.2⟩)::kM
theorem pX:Gd kN:=tv pW 140 Tryz.f140 [] Tryz.func140
def aR (a0:tB) (k1:Int):Option (tB×List v9) :=
 (dU a0).bind λt9 =>
 (cc a0).bind λt11 =>
 (cond (!t11)
 (some true)
 ((ae k1 0 (te ((a0.2.2.2.2.2.2.2.2.2.2.2.2.1.length:Int)-1))).bind λt19 =>
 some (!t19))).bind λt21 =>
 cond t21
 (some (t9,([]:List v9)))
 ((dR t9 k1).bind λt25 =>
 some t25)
def kO:FL:=(47,⟨[.val true ul false,.val false tu false],[.val true ul (some false),.val false (.one (.sl xC)) (some false)],λa=>aR a.1 a.2⟩)::kN
theorem pY:Gd kO:=tv pX 47 Tryz.f47 [] Tryz.func47
def cL (b0:td) (word1:List UInt8):Option tB :=
 (aZ b0).bind λt6 =>
 (cond (!t6) (some true) (some (decide ((word1.length:Int)>20)))).bind λt12 =>
 cond t12
 (some (0,[],[],[],[],[],0,0,0,0,0,[],[],0,0))
 ((am b0).bind λt15 =>
 some (t15.1,t15.2.1,t15.2.2.1,t15.2.2.2.1,t15.2.2.2.2.1,t15.2.2.2.2.2.1,t15.2.2.2.2.2.2.1,t15.2.2.2.2.2.2.2.1,t15.2.2.2.2.2.2.2.2.1,t15.2.2.2.2.2.2.2.2.2.1,t15.2.2.2.2.2.2.2.2.2.2,word1,[],0,0))
def kP:FL:=(58,⟨[.val true tK false,.val false FO false],[.val true ul (some true)],λa=>cL a.1 a.2⟩)::kO
theorem pZ:Gd kP:=tv pY 58 Tryz.f58 [] Tryz.func58
def cM (i4:Int) (b0:List Int) (b1:Int) (b2:Int) (b0_1:Int) (b1_1:Int) (b2_1:Int) (b3:Int) (b4:List tg):Option ((Int×List Int×Int×Int×Int×Int×Int×Int×List tg)⊕(List Int×Int×Int×Int×Int×Int×Int×List tg)) :=
 cond (decide (i4>0))
 ((aG (b0,b1,b2)).bind λt35 =>
 (aA t35.1).bind λt37 =>
 (tJ b4 [(t35.2,t37.2.1,t37.2.2.1,t37.2.2.2.1,t37.2.2.2.2)]).bind λzs40 =>
 some (.inl (te (i4-1),t37.1.1,t37.1.2.1,t37.1.2.2,b0_1,b1_1,b2_1,b3,zs40)))
 (some (.inr (b0,b1,b2,b0_1,b1_1,b2_1,b3,b4)))
def cN (i4_1:Int) (b0_4:List Int) (b1_4:Int) (b2_4:Int) (b0_5:Int) (b1_5:Int) (b2_5:Int) (b3_2:Int) (b4_2:List tg):Option ((Int×List Int×Int×Int×Int×Int×Int×Int×List tg)⊕(List Int×Int×Int×Int×Int×Int×Int×List tg)) :=
 cond (decide (i4_1>0))
 ((aG (b0_4,b1_4,b2_4)).bind λt35_1 =>
 (aA t35_1.1).bind λt37_1 =>
 (tJ b4_2 [(t35_1.2,t37_1.2.1,t37_1.2.2.1,t37_1.2.2.2.1,t37_1.2.2.2.2)]).bind λzs40_1 =>
 some (.inl (te (i4_1-1),t37_1.1.1,t37_1.1.2.1,t37_1.1.2.2,b0_5,b1_5,b2_5,b3_2,zs40_1)))
 (some (.inr (b0_4,b1_4,b2_4,b0_5,b1_5,b2_5,b3_2,b4_2)))
def gt (c0:tD):Option (tD×tQ) :=
 (ah c0 ([160,161,162,163,165]:List Int)).bind λt7 =>
 (cu t7.1).bind λt9 =>
 (aw t9.2).bind λt10 =>
 (cond (t7.2==162) (some true) (some (t7.2==165))).bind λt19 =>
 cond t19
 ((aa t9.1 4).bind λt21 =>
 (aa t21.1 5).bind λt24 =>
 (aa t24.1 4).bind λt27 =>
 (loop (λz=>cM z.1 z.2.1 z.2.2.1 z.2.2.2.1 z.2.2.2.2.1 z.2.2.2.2.2.1 z.2.2.2.2.2.2.1 z.2.2.2.2.2.2.2.1 z.2.2.2.2.2.2.2.2) (t27.2,t27.1.1,t27.1.2.1,t27.1.2.2,t7.2,t10,t21.2,t24.2,[])).bind λd =>
 some ((d.1,d.2.1,d.2.2.1),d.2.2.2))
 ((aa t9.1 4).bind λt27_1 =>
 (loop (λz=>cN z.1 z.2.1 z.2.2.1 z.2.2.2.1 z.2.2.2.2.1 z.2.2.2.2.2.1 z.2.2.2.2.2.2.1 z.2.2.2.2.2.2.2.1 z.2.2.2.2.2.2.2.2) (t27_1.2,t27_1.1.1,t27_1.1.2.1,t27_1.1.2.2,t7.2,t10,0,0,[])).bind λd_1 =>
 some ((d_1.1,d_1.2.1,d_1.2.2.1),d_1.2.2.2))
def kQ:FL:=(194,⟨[.ptr uK none],[.val true vk (some true)],λa=>gt a⟩)::kP
theorem q8:Gd kQ:=tv pZ 194 Tryz.f194 [(0,⟨⟨[(4,false,[dI])],[(1,.box [.dat (.sl (.one (.int .u8))),dI,dI]),(270336,.box [dI,dI,dI,dI,.own 1000000000]),(1000000000,.root tG true)]⟩,
 ⟨[],[(1,.box [.dat (.sl (.one (.int .u8))),dI,dI]),(270336,.box [dI,dI,dI,dI,.own 1000000300]),(1000000300,.root tG true)]⟩,none⟩)] Tryz.func194
def gu (c0:tD) (b1:List Int):Option (tD×List Int) :=
 cond ((b1.length:Int)==0)
 (some (c0,b1))
 ((aa c0 5).bind λt10 =>
 cond (t10.2==0)
 ((aa t10.1 (b1.length:Int)).bind λt17 =>
 (ah t17.1 ([0,1,2,4,5,6,48,127,128,129,160,255]:List Int)).bind λt20 =>
 (ix b1.length t17.2).bind λj22 =>
 (b1[j22]?).bind λx =>
 some (t20.1,b1.set j22 (IntKind.u8.wrap (t20.2))))
 (cond (t10.2==1)
 ((tJ b1 ([3]:List Int)).bind λzs27 =>
 some (t10.1,zs27))
 (cond (t10.2==2)
 ((aa t10.1 (b1.length:Int)).bind λt34 =>
 (vj b1.length 0 t34.2).bind λp =>
 some (t34.1,(b1.take p.2).drop p.1))
 (some (t10.1,b1)))))
def kR:FL:=(231,⟨[.ptr uK none,.val false uG true],[.val false uG none],λa=>gu a.1 a.2⟩)::kQ
theorem q9:Gd kR:=tv q8 231 Tryz.f231 [] Tryz.func231
def cO (word0:List UInt8) (p1:tQ):Option (List Int) :=
 (eU p1).bind λt8 =>
 (cond ((t8.length:Int)==0) (some true) (some (decide ((word0.length:Int)>20)))).bind λt16 =>
 cond t16
 (some ([]:List Int))
 ((ba 1).bind λt19 =>
 (ar ([]:List Int) 2 t19).bind λt20 =>
 (ar t20 4 (vU word0)).bind λt23 =>
 (tJ t23 t8).bind λzs25 =>
 cond (decide ((zs25.length:Int)>250))
 (some ([]:List Int))
 ((ar ([]:List Int) 48 zs25).bind λt32 =>
 some t32))
def kS:FL:=(232,⟨[.val false FO false,.val true vk false],[.val false uG (some true)],λa=>cO a.1 a.2⟩)::kR
theorem qc:Gd kS:=tv q9 232 Tryz.f232 [] Tryz.func232
def bH (c0:tD) (b1:td):Option (tD×List Int) :=
 (aa c0 10).bind λt6 =>
 cond (t6.2==0)
 ((bB t6.1 b1).bind λt12 =>
 (cO [121,97,114,100] t12.2).bind λt13 =>
 (gu t12.1 t13).bind λt14 =>
 some t14)
 (cond (t6.2==1)
 ((bB t6.1 b1).bind λt19 =>
 (cO [111,116,104,101,114] t19.2).bind λt20 =>
 some (t19.1,t20))
 (cond (t6.2==2)
 ((gt t6.1).bind λt24 =>
 (cO [121,97,114,100] t24.2).bind λt25 =>
 some (t24.1,t25))
 ((bB t6.1 b1).bind λt28 =>
 (cO [121,97,114,100] t28.2).bind λt29 =>
 some (t28.1,t29))))
def kT:FL:=(128,⟨[.ptr uK none,.val true tK false],[.val false uG none],λa=>bH a.1 a.2⟩)::kS
theorem qd:Gd kT:=tv qc 128 Tryz.f128 [] Tryz.func128
def dV (b0:td):Option td :=
 (am b0).bind λt5 =>
 (aZ b0).bind λt7 =>
 cond (!t7)
 (some t5)
 ((bp b0.2.2.2.2.2.2.1).bind λt12 =>
 (cB b0.2.2.2.1).bind λt16 =>
 (bZ (t5.1,t5.2.1,t5.2.2.1,t16,t5.2.2.2.2.1,t5.2.2.2.2.2.1,t12,t5.2.2.2.2.2.2.2.1,t5.2.2.2.2.2.2.2.2.1,t5.2.2.2.2.2.2.2.2.2.1,t5.2.2.2.2.2.2.2.2.2.2)).bind λt19 =>
 some t19)
def kU:FL:=(208,⟨[.val true tK false],[.val true tK (some true)],λa=>dV a⟩)::kT
theorem qe:Gd kU:=tv qd 208 Tryz.f208 [] Tryz.func208
def gv (i6:Int) (b0:List Int) (b1:Int) (b2:Int) (b0_1:Int) (b1_1:List UInt8) (b6:Int) (b7:Int) (b8:Int) (b9:Int) (b10:Int) (b11:List UInt8) (b13:Int) (b14:Int) (b2_1:List Pt) (b3:List tk) (b4:List tC) (b5:List Int) (b12:List um):Option ((Int×List Int×Int×Int×Int×List UInt8×Int×Int×Int×Int×Int×List UInt8×Int×Int×List Pt×List tk×List tC×List Int×List um)⊕(List Int×Int×Int×Int×List UInt8×Int×Int×Int×Int×Int×List UInt8×Int×Int×List Pt×List tk×List tC×List Int×List um)) :=
 cond (decide (i6>0))
 ((aa (b0,b1,b2) 6).bind λt19 =>
 cond (t19.2==0)
 (cond (t19.2==0)
 ((bH t19.1 (b0_1,b1_1,b2_1,b3,b4,b5,b6,b7,b8,b9,b10)).bind λt38 =>
 (bb (b0_1,b1_1,b2_1,b3,b4,b5,b6,b7,b8,b9,b10,b11,b12,b13,b14) t38.2).bind λt39 =>
 some (.inl (te (i6-1),t38.1.1,t38.1.2.1,t38.1.2.2,t39.1,t39.2.1,t39.2.2.2.2.2.2.1,t39.2.2.2.2.2.2.2.1,t39.2.2.2.2.2.2.2.2.1,t39.2.2.2.2.2.2.2.2.2.1,t39.2.2.2.2.2.2.2.2.2.2.1,t39.2.2.2.2.2.2.2.2.2.2.2.1,t39.2.2.2.2.2.2.2.2.2.2.2.2.2.1,t39.2.2.2.2.2.2.2.2.2.2.2.2.2.2,t39.2.2.1,t39.2.2.2.1,t39.2.2.2.2.1,t39.2.2.2.2.2.1,t39.2.2.2.2.2.2.2.2.2.2.2.2.1)))
 (cond (t19.2==2)
 ((dV (b0_1,b1_1,b2_1,b3,b4,b5,b6,b7,b8,b9,b10)).bind λt44 =>
 some (.inl (te (i6-1),t19.1.1,t19.1.2.1,t19.1.2.2,t44.1,t44.2.1,t44.2.2.2.2.2.2.1,t44.2.2.2.2.2.2.2.1,t44.2.2.2.2.2.2.2.2.1,t44.2.2.2.2.2.2.2.2.2.1,t44.2.2.2.2.2.2.2.2.2.2,b11,b13,b14,t44.2.2.1,t44.2.2.2.1,t44.2.2.2.2.1,t44.2.2.2.2.2.1,b12)))
 ((aa t19.1 (te ((b12.length:Int)+1))).bind λt27 =>
 (aR (b0_1,b1_1,b2_1,b3,b4,b5,b6,b7,b8,b9,b10,b11,b12,b13,b14) t27.2).bind λt28 =>
 some (.inl (te (i6-1),t27.1.1,t27.1.2.1,t27.1.2.2,t28.1.1,t28.1.2.1,t28.1.2.2.2.2.2.2.1,t28.1.2.2.2.2.2.2.2.1,t28.1.2.2.2.2.2.2.2.2.1,t28.1.2.2.2.2.2.2.2.2.2.1,t28.1.2.2.2.2.2.2.2.2.2.2.1,t28.1.2.2.2.2.2.2.2.2.2.2.2.1,t28.1.2.2.2.2.2.2.2.2.2.2.2.2.2.1,t28.1.2.2.2.2.2.2.2.2.2.2.2.2.2.2,t28.1.2.2.1,t28.1.2.2.2.1,t28.1.2.2.2.2.1,t28.1.2.2.2.2.2.1,t28.1.2.2.2.2.2.2.2.2.2.2.2.2.1)))))
 (cond (t19.2==1)
 ((bH t19.1 (b0_1,b1_1,b2_1,b3,b4,b5,b6,b7,b8,b9,b10)).bind λt38_1 =>
 (bb (b0_1,b1_1,b2_1,b3,b4,b5,b6,b7,b8,b9,b10,b11,b12,b13,b14) t38_1.2).bind λt39_1 =>
 some (.inl (te (i6-1),t38_1.1.1,t38_1.1.2.1,t38_1.1.2.2,t39_1.1,t39_1.2.1,t39_1.2.2.2.2.2.2.1,t39_1.2.2.2.2.2.2.2.1,t39_1.2.2.2.2.2.2.2.2.1,t39_1.2.2.2.2.2.2.2.2.2.1,t39_1.2.2.2.2.2.2.2.2.2.2.1,t39_1.2.2.2.2.2.2.2.2.2.2.2.1,t39_1.2.2.2.2.2.2.2.2.2.2.2.2.2.1,t39_1.2.2.2.2.2.2.2.2.2.2.2.2.2.2,t39_1.2.2.1,t39_1.2.2.2.1,t39_1.2.2.2.2.1,t39_1.2.2.2.2.2.1,t39_1.2.2.2.2.2.2.2.2.2.2.2.2.1)))
 (cond (t19.2==2)
 ((dV (b0_1,b1_1,b2_1,b3,b4,b5,b6,b7,b8,b9,b10)).bind λt44_1 =>
 some (.inl (te (i6-1),t19.1.1,t19.1.2.1,t19.1.2.2,t44_1.1,t44_1.2.1,t44_1.2.2.2.2.2.2.1,t44_1.2.2.2.2.2.2.2.1,t44_1.2.2.2.2.2.2.2.2.1,t44_1.2.2.2.2.2.2.2.2.2.1,t44_1.2.2.2.2.2.2.2.2.2.2,b11,b13,b14,t44_1.2.2.1,t44_1.2.2.2.1,t44_1.2.2.2.2.1,t44_1.2.2.2.2.2.1,b12)))
 ((aa t19.1 (te ((b12.length:Int)+1))).bind λt27_1 =>
 (aR (b0_1,b1_1,b2_1,b3,b4,b5,b6,b7,b8,b9,b10,b11,b12,b13,b14) t27_1.2).bind λt28_1 =>
 some (.inl (te (i6-1),t27_1.1.1,t27_1.1.2.1,t27_1.1.2.2,t28_1.1.1,t28_1.1.2.1,t28_1.1.2.2.2.2.2.2.1,t28_1.1.2.2.2.2.2.2.2.1,t28_1.1.2.2.2.2.2.2.2.2.1,t28_1.1.2.2.2.2.2.2.2.2.2.1,t28_1.1.2.2.2.2.2.2.2.2.2.2.1,t28_1.1.2.2.2.2.2.2.2.2.2.2.2.1,t28_1.1.2.2.2.2.2.2.2.2.2.2.2.2.2.1,t28_1.1.2.2.2.2.2.2.2.2.2.2.2.2.2.2,t28_1.1.2.2.1,t28_1.1.2.2.2.1,t28_1.1.2.2.2.2.1,t28_1.1.2.2.2.2.2.1,t28_1.1.2.2.2.2.2.2.2.2.2.2.2.2.1))))))
 (some (.inr (b0,b1,b2,b0_1,b1_1,b6,b7,b8,b9,b10,b11,b13,b14,b2_1,b3,b4,b5,b12)))
def gw (c0:tD) (most1:Int):Option (tD×tB) :=
 (ct c0).bind λt8 =>
 (cL t8.2 [121,97,114,100]).bind λt9 =>
 (aa t8.1 (te (most1+1))).bind λt13 =>
 (loop (λz=>gv z.1 z.2.1 z.2.2.1 z.2.2.2.1 z.2.2.2.2.1 z.2.2.2.2.2.1 z.2.2.2.2.2.2.1 z.2.2.2.2.2.2.2.1 z.2.2.2.2.2.2.2.2.1 z.2.2.2.2.2.2.2.2.2.1 z.2.2.2.2.2.2.2.2.2.2.1 z.2.2.2.2.2.2.2.2.2.2.2.1 z.2.2.2.2.2.2.2.2.2.2.2.2.1 z.2.2.2.2.2.2.2.2.2.2.2.2.2.1 z.2.2.2.2.2.2.2.2.2.2.2.2.2.2.1 z.2.2.2.2.2.2.2.2.2.2.2.2.2.2.2.1 z.2.2.2.2.2.2.2.2.2.2.2.2.2.2.2.2.1 z.2.2.2.2.2.2.2.2.2.2.2.2.2.2.2.2.2.1 z.2.2.2.2.2.2.2.2.2.2.2.2.2.2.2.2.2.2) (t13.2,t13.1.1,t13.1.2.1,t13.1.2.2,t9.1,t9.2.1,t9.2.2.2.2.2.2.1,t9.2.2.2.2.2.2.2.1,t9.2.2.2.2.2.2.2.2.1,t9.2.2.2.2.2.2.2.2.2.1,t9.2.2.2.2.2.2.2.2.2.2.1,t9.2.2.2.2.2.2.2.2.2.2.2.1,t9.2.2.2.2.2.2.2.2.2.2.2.2.2.1,t9.2.2.2.2.2.2.2.2.2.2.2.2.2.2,t9.2.2.1,t9.2.2.2.1,t9.2.2.2.2.1,t9.2.2.2.2.2.1,t9.2.2.2.2.2.2.2.2.2.2.2.2.1)).bind λd =>
 some ((d.1,d.2.1,d.2.2.1),(d.2.2.2.1,d.2.2.2.2.1,d.2.2.2.2.2.2.2.2.2.2.2.2.2.1,d.2.2.2.2.2.2.2.2.2.2.2.2.2.2.1,d.2.2.2.2.2.2.2.2.2.2.2.2.2.2.2.1,d.2.2.2.2.2.2.2.2.2.2.2.2.2.2.2.2.1,d.2.2.2.2.2.1,d.2.2.2.2.2.2.1,d.2.2.2.2.2.2.2.1,d.2.2.2.2.2.2.2.2.1,d.2.2.2.2.2.2.2.2.2.1,d.2.2.2.2.2.2.2.2.2.2.1,d.2.2.2.2.2.2.2.2.2.2.2.2.2.2.2.2.2,d.2.2.2.2.2.2.2.2.2.2.2.1,d.2.2.2.2.2.2.2.2.2.2.2.2.1))
def kV:FL:=(126,⟨[.ptr uK none,.val false tu false],[.val true ul (some false)],λa=>gw a.1 a.2⟩)::kU
theorem qf:Gd kV:=tv qe 126 Tryz.f126 [(0,⟨⟨[(6,false,[dI])],[(1,.box [.dat (.sl (.one (.int .u8))),dI,dI]),(266240,.box [dI,dS,.own 1000000000,.own 1000000001,.own 1000000002,.own 1000000003,dI,dI,dI,dI,dI,dS,.own 1000000004,dI,dI]),(1000000000,.root vD false),(1000000001,.root tT false),(1000000002,.root uq false),(1000000003,.root tu false),(1000000004,.root ye false)]⟩,
 ⟨[],[(1,.box [.dat (.sl (.one (.int .u8))),dI,dI]),(266240,.box [dI,dS,.own 1000000300,.own 1000000301,.own 1000000302,.own 1000000303,dI,dI,dI,dI,dI,dS,.own 1000000304,dI,dI]),(1000000300,.root vD false),(1000000301,.root tT false),(1000000302,.root uq false),(1000000303,.root tu false),(1000000304,.root ye false)]⟩,none⟩)] Tryz.func126
def gx (t6:Int) (b0:Int) (b1:List UInt8) (b6:Int) (b7:Int) (b8:Int) (b9:Int) (b10:Int) (b11:List UInt8) (b13:Int) (b14:Int) (b2:List Pt) (b3:List tk) (b4:List tC) (b5:List Int) (b12:List um):Option ((Int×Int×List UInt8×Int×Int×Int×Int×Int×List UInt8×Int×Int×List Pt×List tk×List tC×List Int×List um)⊕(Int×List UInt8×Int×Int×Int×Int×Int×List UInt8×Int×Int×List Pt×List tk×List tC×List Int×List um)) :=
 cond (decide (t6<6))
 ((bb (b0,b1,b2,b3,b4,b5,b6,b7,b8,b9,b10,b11,b12,b13,b14) ([1]:List Int)).bind λt63 =>
 some (.inl (te (t6+1),t63.1,t63.2.1,t63.2.2.2.2.2.2.1,t63.2.2.2.2.2.2.2.1,t63.2.2.2.2.2.2.2.2.1,t63.2.2.2.2.2.2.2.2.2.1,t63.2.2.2.2.2.2.2.2.2.2.1,t63.2.2.2.2.2.2.2.2.2.2.2.1,t63.2.2.2.2.2.2.2.2.2.2.2.2.2.1,t63.2.2.2.2.2.2.2.2.2.2.2.2.2.2,t63.2.2.1,t63.2.2.2.1,t63.2.2.2.2.1,t63.2.2.2.2.2.1,t63.2.2.2.2.2.2.2.2.2.2.2.2.1)))
 (some (.inr (b0,b1,b6,b7,b8,b9,b10,b11,b13,b14,b2,b3,b4,b5,b12)))
def cP (p0:tD) (i1:Int):Option (tD×tB) :=
 (gw p0 i1).bind λt9 =>
 (aa t9.1 16).bind λt11 =>
 cond (t11.2==0)
 ((eS t11.1).bind λt15 =>
 some (t15.1,(t15.2.1,t15.2.2.1,t15.2.2.2.1,t15.2.2.2.2.1,t15.2.2.2.2.2.1,t15.2.2.2.2.2.2.1,t15.2.2.2.2.2.2.2.1,t15.2.2.2.2.2.2.2.2.1,t15.2.2.2.2.2.2.2.2.2.1,t15.2.2.2.2.2.2.2.2.2.2.1,t15.2.2.2.2.2.2.2.2.2.2.2,t9.2.2.2.2.2.2.2.2.2.2.2.2.1,t9.2.2.2.2.2.2.2.2.2.2.2.2.2.1,t9.2.2.2.2.2.2.2.2.2.2.2.2.2.2.1,t9.2.2.2.2.2.2.2.2.2.2.2.2.2.2.2)))
 (cond (t11.2==1)
 ((ah t11.1 ([(-1),0,1000000,1000001]:List Int)).bind λt21 =>
 some (t21.1,(t9.2.1,t9.2.2.1,t9.2.2.2.1,t9.2.2.2.2.1,t9.2.2.2.2.2.1,t9.2.2.2.2.2.2.1,t9.2.2.2.2.2.2.2.1,t9.2.2.2.2.2.2.2.2.1,t9.2.2.2.2.2.2.2.2.2.1,t9.2.2.2.2.2.2.2.2.2.2.1,t9.2.2.2.2.2.2.2.2.2.2.2.1,t9.2.2.2.2.2.2.2.2.2.2.2.2.1,t9.2.2.2.2.2.2.2.2.2.2.2.2.2.1,t9.2.2.2.2.2.2.2.2.2.2.2.2.2.2.1,t21.2)))
 (cond (t11.2==2)
 ((ah t11.1 ([(-1),1000000]:List Int)).bind λt27 =>
 some (t27.1,(t9.2.1,t9.2.2.1,t9.2.2.2.1,t9.2.2.2.2.1,t9.2.2.2.2.2.1,t9.2.2.2.2.2.2.1,t9.2.2.2.2.2.2.2.1,t9.2.2.2.2.2.2.2.2.1,t9.2.2.2.2.2.2.2.2.2.1,t9.2.2.2.2.2.2.2.2.2.2.1,t9.2.2.2.2.2.2.2.2.2.2.2.1,t9.2.2.2.2.2.2.2.2.2.2.2.2.1,t9.2.2.2.2.2.2.2.2.2.2.2.2.2.1,t27.2,t9.2.2.2.2.2.2.2.2.2.2.2.2.2.2.2)))
 (cond (t11.2==3)
 ((aa t11.1 2).bind λt36 =>
 (aa t36.1 4).bind λt39 =>
 (aa t39.1 3).bind λt41 =>
 (aa t41.1 5).bind λt44 =>
 (bB t44.1 (t9.2.1,t9.2.2.1,t9.2.2.2.1,t9.2.2.2.2.1,t9.2.2.2.2.2.1,t9.2.2.2.2.2.2.1,t9.2.2.2.2.2.2.2.1,t9.2.2.2.2.2.2.2.2.1,t9.2.2.2.2.2.2.2.2.2.1,t9.2.2.2.2.2.2.2.2.2.2.1,t9.2.2.2.2.2.2.2.2.2.2.2.1)).bind λt48 =>
 (ct t48.1).bind λt50 =>
 (tJ t9.2.2.2.2.2.2.2.2.2.2.2.2.2.1 ([(te (t9.2.2.2.2.2.2.2.2.2.2.2.2.2.2.2+t36.2),[],t39.2,t48.2.1,t48.2.2.1,t48.2.2.2.1,t48.2.2.2.2.1,t48.2.2.2.2.2,t50.2.1,t50.2.2.1,t50.2.2.2.1,t50.2.2.2.2.1,t50.2.2.2.2.2.1,t50.2.2.2.2.2.2.1,t50.2.2.2.2.2.2.2.1,t50.2.2.2.2.2.2.2.2.1,t50.2.2.2.2.2.2.2.2.2.1,t50.2.2.2.2.2.2.2.2.2.2.1,t50.2.2.2.2.2.2.2.2.2.2.2,te (t41.2-1),t44.2)])).bind λzs53 =>
 some (t50.1,(t9.2.1,t9.2.2.1,t9.2.2.2.1,t9.2.2.2.2.1,t9.2.2.2.2.2.1,t9.2.2.2.2.2.2.1,t9.2.2.2.2.2.2.2.1,t9.2.2.2.2.2.2.2.2.1,t9.2.2.2.2.2.2.2.2.2.1,t9.2.2.2.2.2.2.2.2.2.2.1,t9.2.2.2.2.2.2.2.2.2.2.2.1,t9.2.2.2.2.2.2.2.2.2.2.2.2.1,zs53,t9.2.2.2.2.2.2.2.2.2.2.2.2.2.2.1,t9.2.2.2.2.2.2.2.2.2.2.2.2.2.2.2)))
 (cond (t11.2==4)
 ((loop (λz=>gx z.1 z.2.1 z.2.2.1 z.2.2.2.1 z.2.2.2.2.1 z.2.2.2.2.2.1 z.2.2.2.2.2.2.1 z.2.2.2.2.2.2.2.1 z.2.2.2.2.2.2.2.2.1 z.2.2.2.2.2.2.2.2.2.1 z.2.2.2.2.2.2.2.2.2.2.1 z.2.2.2.2.2.2.2.2.2.2.2.1 z.2.2.2.2.2.2.2.2.2.2.2.2.1 z.2.2.2.2.2.2.2.2.2.2.2.2.2.1 z.2.2.2.2.2.2.2.2.2.2.2.2.2.2.1 z.2.2.2.2.2.2.2.2.2.2.2.2.2.2.2) (0,t9.2.1,t9.2.2.1,t9.2.2.2.2.2.2.2.1,t9.2.2.2.2.2.2.2.2.1,t9.2.2.2.2.2.2.2.2.2.1,t9.2.2.2.2.2.2.2.2.2.2.1,t9.2.2.2.2.2.2.2.2.2.2.2.1,t9.2.2.2.2.2.2.2.2.2.2.2.2.1,t9.2.2.2.2.2.2.2.2.2.2.2.2.2.2.1,t9.2.2.2.2.2.2.2.2.2.2.2.2.2.2.2,t9.2.2.2.1,t9.2.2.2.2.1,t9.2.2.2.2.2.1,t9.2.2.2.2.2.2.1,t9.2.2.2.2.2.2.2.2.2.2.2.2.2.1)).bind λd =>
 some (t11.1,(d.1,d.2.1,d.2.2.2.2.2.2.2.2.2.2.1,d.2.2.2.2.2.2.2.2.2.2.2.1,d.2.2.2.2.2.2.2.2.2.2.2.2.1,d.2.2.2.2.2.2.2.2.2.2.2.2.2.1,d.2.2.1,d.2.2.2.1,d.2.2.2.2.1,d.2.2.2.2.2.1,d.2.2.2.2.2.2.1,d.2.2.2.2.2.2.2.1,d.2.2.2.2.2.2.2.2.2.2.2.2.2.2,d.2.2.2.2.2.2.2.2.1,d.2.2.2.2.2.2.2.2.2.1)))
 (some (t11.1,t9.2))))))
def kW:FL:=(137,⟨[.ptr uK none,.val false tu false],[.val true ul none],λa=>cP a.1 a.2⟩)::kV
theorem qg:Gd kW:=tv qf 137 Tryz.f137 [(1,⟨⟨[(6,false,[dI])],[(266240,.box [dI,dS,.own 1000001000,.own 1000001001,.own 1000001002,.own 1000001003,dI,dI,dI,dI,dI,dS,.own 1000001004,dI,dI]),(1000001000,.root vD false),(1000001001,.root tT false),(1000001002,.root uq false),(1000001003,.root tu false),(1000001004,.root ye false)]⟩,
 ⟨[],[(266240,.box [dI,dS,.own 1000001300,.own 1000001301,.own 1000001302,.own 1000001303,dI,dI,dI,dI,dI,dS,.own 1000001304,dI,dI]),(1000001300,.root vD false),(1000001301,.root tT false),(1000001302,.root uq false),(1000001303,.root tu false),(1000001304,.root ye false)]⟩,none⟩)] Tryz.func137
def gy (code0:List Int):Option (tB×Int) :=
 (ce code0).bind λt7 =>
 (aI code0 14).bind λt10 =>
 (cP t7 t10).bind λt11 =>
 (ah t11.1 ([0,0,0,1,2,(-1),9]:List Int)).bind λt15 =>
 some (t11.2,t15.2)
def kX:FL:=(45,⟨[.val false uG false],[.val true ul none,.val false tu (some true)],λa=>gy a⟩)::kW
theorem qh:Gd kX:=tv qg 45 Tryz.f45 [] Tryz.func45
def bI (a0:tB) (k1:Int):Option (tB×List v9) :=
 (dW a0).bind λt9 =>
 (cQ a0).bind λt11 =>
 (cond (!t11)
 (some true)
 ((ac k1 0 (te ((a0.2.2.2.2.2.2.2.2.2.2.2.2.1.length:Int)-1))).bind λt19 =>
 some (!t19))).bind λt21 =>
 cond t21
 (some (t9,[]))
 ((cR t9 k1).bind λt24 =>
 some t24)
def kY:FL:=(46,⟨[.val true ul false,.val false tu false],[.val true ul (some true),.val false (.one (.sl xC)) none],λa=>bI a.1 a.2⟩)::kX
theorem qi:Gd kY:=tv qh 46 Tryz.f46 [] Tryz.func46
def gz (code0:List Int):Option (tB×Int) :=
 (ce code0).bind λt6 =>
 (aI code0 10).bind λt9 =>
 (cP t6 t9).bind λt10 =>
 (ah t10.1 ([500,20,3,0,(-1),501]:List Int)).bind λt13 =>
 some (t10.2,t13.2)
def kZ:FL:=(48,⟨[.val false uG false],[.val true ul none,.val false tu (some true)],λa=>gz a⟩)::kY
theorem qj:Gd kZ:=tv qi 48 Tryz.f48 [] Tryz.func48
def fb (n1:Int) (i8:Int) (b0:Int) (b1:List UInt8) (b6:Int) (b7:Int) (b8:Int) (b9:Int) (b10:Int) (b11:List UInt8) (b13:Int) (b14:Int) (all7:List v9) (b2:List Pt) (b3:List tk) (b4:List tC) (b5:List Int) (b12:List um):Option ((Int×Int×List UInt8×Int×Int×Int×Int×Int×List UInt8×Int×Int×List v9×List Pt×List tk×List tC×List Int×List um)⊕(Int×List UInt8×Int×Int×Int×Int×Int×List UInt8×Int×Int×List v9×List Pt×List tk×List tC×List Int×List um)) :=
 (cond (decide (i8<n1)) (some (decide ((b12.length:Int)>0))) (some false)).bind λt30 =>
 cond t30
 ((dR (b0,b1,b2,b3,b4,b5,b6,b7,b8,b9,b10,b11,b12,b13,b14) 0).bind λt34 =>
 (tJ all7 t34.2).bind λzs35 =>
 some (.inl (te (i8+1),t34.1.1,t34.1.2.1,t34.1.2.2.2.2.2.2.1,t34.1.2.2.2.2.2.2.2.1,t34.1.2.2.2.2.2.2.2.2.1,t34.1.2.2.2.2.2.2.2.2.2.1,t34.1.2.2.2.2.2.2.2.2.2.2.1,t34.1.2.2.2.2.2.2.2.2.2.2.2.1,t34.1.2.2.2.2.2.2.2.2.2.2.2.2.2.1,t34.1.2.2.2.2.2.2.2.2.2.2.2.2.2.2,zs35,t34.1.2.2.1,t34.1.2.2.2.1,t34.1.2.2.2.2.1,t34.1.2.2.2.2.2.1,t34.1.2.2.2.2.2.2.2.2.2.2.2.2.1)))
 (some (.inr (b0,b1,b6,b7,b8,b9,b10,b11,b13,b14,all7,b2,b3,b4,b5,b12)))
def cS (a0:tB) (n1:Int):Option (tB×List v9) :=
 (dU a0).bind λt10 =>
 (cc a0).bind λt13 =>
 (cond (!t13)
 (some true)
 ((ae n1 0 500).bind λt17 =>
 some (!t17))).bind λt19 =>
 cond t19
 (some (t10,([]:List v9)))
 ((loop (λz=>fb n1 z.1 z.2.1 z.2.2.1 z.2.2.2.1 z.2.2.2.2.1 z.2.2.2.2.2.1 z.2.2.2.2.2.2.1 z.2.2.2.2.2.2.2.1 z.2.2.2.2.2.2.2.2.1 z.2.2.2.2.2.2.2.2.2.1 z.2.2.2.2.2.2.2.2.2.2.1 z.2.2.2.2.2.2.2.2.2.2.2.1 z.2.2.2.2.2.2.2.2.2.2.2.2.1 z.2.2.2.2.2.2.2.2.2.2.2.2.2.1 z.2.2.2.2.2.2.2.2.2.2.2.2.2.2.1 z.2.2.2.2.2.2.2.2.2.2.2.2.2.2.2.1 z.2.2.2.2.2.2.2.2.2.2.2.2.2.2.2.2) (0,t10.1,t10.2.1,t10.2.2.2.2.2.2.1,t10.2.2.2.2.2.2.2.1,t10.2.2.2.2.2.2.2.2.1,t10.2.2.2.2.2.2.2.2.2.1,t10.2.2.2.2.2.2.2.2.2.2.1,t10.2.2.2.2.2.2.2.2.2.2.2.1,t10.2.2.2.2.2.2.2.2.2.2.2.2.2.1,t10.2.2.2.2.2.2.2.2.2.2.2.2.2.2,([]:List v9),t10.2.2.1,t10.2.2.2.1,t10.2.2.2.2.1,t10.2.2.2.2.2.1,t10.2.2.2.2.2.2.2.2.2.2.2.2.1)).bind λd =>
 some ((d.1,d.2.1,d.2.2.2.2.2.2.2.2.2.2.2.1,d.2.2.2.2.2.2.2.2.2.2.2.2.1,d.2.2.2.2.2.2.2.2.2.2.2.2.2.1,d.2.2.2.2.2.2.2.2.2.2.2.2.2.2.1,d.2.2.1,d.2.2.2.1,d.2.2.2.2.1,d.2.2.2.2.2.1,d.2.2.2.2.2.2.1,d.2.2.2.2.2.2.2.1,d.2.2.2.2.2.2.2.2.2.2.2.2.2.2.2,d.2.2.2.2.2.2.2.2.1,d.2.2.2.2.2.2.2.2.2.1),d.2.2.2.2.2.2.2.2.2.2.1))
def l6:FL:=(49,⟨[.val true ul false,.val false tu false],[.val true ul (some false),.val false (.one (.sl xC)) (some false)],λa=>cS a.1 a.2⟩)::kZ
theorem qk:Gd l6:=tv qj 49 Tryz.f49 [(0,⟨⟨(7,false,[.own 1000000000])::(8,false,[dI])::us 26 4 [],[(265216,.box [dI,dS,.own 1000000001,.own 1000000002,.own 1000000003,.own 1000000004,dI,dI,dI,dI,dI,dS,.own 1000000005,dI,dI]),(1000000000,.root xC false),(1000000001,.root vD false),(1000000002,.root tT false),(1000000003,.root uq false),(1000000004,.root tu false),(1000000005,.root ye false)]⟩,
 ⟨[(7,false,[.own 1000000300])],[(265216,.box [dI,dS,.own 1000000301,.own 1000000302,.own 1000000303,.own 1000000304,dI,dI,dI,dI,dI,dS,.own 1000000305,dI,dI]),(1000000300,.root xC false),(1000000301,.root vD false),(1000000302,.root tT false),(1000000303,.root uq false),(1000000304,.root tu false),(1000000305,.root ye false)]⟩,none⟩)] Tryz.func49
def gA (code0:List Int):Option (tB×List Int) :=
 (ce code0).bind λt7 =>
 (aI code0 12).bind λt10 =>
 (cP t7 t10).bind λt11 =>
 (bH t11.1 (t11.2.1,t11.2.2.1,t11.2.2.2.1,t11.2.2.2.2.1,t11.2.2.2.2.2.1,t11.2.2.2.2.2.2.1,t11.2.2.2.2.2.2.2.1,t11.2.2.2.2.2.2.2.2.1,t11.2.2.2.2.2.2.2.2.2.1,t11.2.2.2.2.2.2.2.2.2.2.1,t11.2.2.2.2.2.2.2.2.2.2.2.1)).bind λt16 =>
 some (t11.2,t16.2)
def l7:FL:=(50,⟨[.val false uG false],[.val true ul none,.val false uG none],λa=>gA a⟩)::l6
theorem qm:Gd l7:=tv qk 50 Tryz.f50 [] Tryz.func50
def gB (code0:List Int):Option tB :=
 (ce code0).bind λt5 =>
 (aI code0 12).bind λt8 =>
 (cP t5 t8).bind λt9 =>
 some t9.2
def l8:FL:=(51,⟨[.val false uG false],[.val true ul none],λa=>gB a⟩)::l7
theorem qn:Gd l8:=tv qm 51 Tryz.f51 [] Tryz.func51
def gC (code0:List Int):Option (td×List UInt8) :=
 (ce code0).bind λt6 =>
 (eS t6).bind λt8 =>
 (aM t8.1 ([[121,97,114,100],[],[116,119,101,110,116,121,45,98,121,116,101,115,45,111,102,45,116,101,120,116],[116,119,101,110,116,121,45,111,110,101,45,98,121,116,101,115,45,116,101,120,116]]:List (List UInt8))).bind λt11 =>
 some (t8.2,t11.2)
def l9:FL:=(52,⟨[.val false uG false],[.val true tK (some true),.val false FO (some true)],λa=>gC a⟩)::l8
theorem qo:Gd l9:=tv qn 52 Tryz.f52 [] Tryz.func52
def gD (b0:td) (word1:List UInt8):Option tB :=
 (bc b0).bind λt6 =>
 (cond (!t6) (some true) (some (decide ((word1.length:Int)>20)))).bind λt12 =>
 cond t12
 (some (0,[],[],[],[],[],0,0,0,0,0,[],[],0,0))
 ((ao b0).bind λt15 =>
 some (t15.1,t15.2.1,t15.2.2.1,t15.2.2.2.1,t15.2.2.2.2.1,t15.2.2.2.2.2.1,t15.2.2.2.2.2.2.1,t15.2.2.2.2.2.2.2.1,t15.2.2.2.2.2.2.2.2.1,t15.2.2.2.2.2.2.2.2.2.1,t15.2.2.2.2.2.2.2.2.2.2,word1,[],0,0))
def lb:FL:=(53,⟨[.val true tK false,.val false FO false],[.val true ul (some true)],λa=>gD a.1 a.2⟩)::l9
theorem qp:Gd lb:=tv qo 53 Tryz.f53 [] Tryz.func53
def iz (a0:List tC) (b1:List tC) (t13:Int):Option (Int⊕(Unit⊕Bool)) :=
 cond (decide (t13<(a0.length:Int)))
 ((at? a0 t13).bind λx18 =>
 (at? b1 t13).bind λx22 =>
 cond (!(x18.1==x22.1&&(x18.2.1==x22.2.1&&(x18.2.2==x22.2.2)))) (some (.inr (.inr false))) (some (.inl (te (t13+1)))))
 (some (.inr (.inl ())))
def gE (a0:List tC) (b1:List tC):Option Bool :=
 cond ((a0.length:Int) != (b1.length:Int))
 (some false)
 ((loop (λz=>iz a0 b1 z) 0).bind (Sum.elim (λd =>
 some true) (λr=>some r)))
def lc:FL:=(89,⟨[.val false (.one (.sl uq)) false,.val false (.one (.sl uq)) false],[.val false uf (some true)],λa=>gE a.1 a.2⟩)::lb
theorem qq:Gd lc:=tv qp 89 Tryz.f89 [(0,⟨⟨[(13,false,[dI])],[]⟩,
 ⟨[],[]⟩,some ⟨[(4,false,[dB])],[]⟩⟩)] Tryz.func89
def gF (p0:td) (i1:td) (t60:Int):Option (Int⊕(Unit⊕Bool)) :=
 cond (decide (t60<(p0.2.2.1.length:Int)))
 ((at? p0.2.2.1 t60).bind λx66 =>
 (at? i1.2.2.1 t60).bind λx71 =>
 cond (!(x66.1==x71.1&&(x66.2.1==x71.2.1&&(x66.2.2.1==x71.2.2.1&&(x66.2.2.2.1==x71.2.2.2.1&&(x66.2.2.2.2.1==x71.2.2.2.2.1&&(x66.2.2.2.2.2.1==x71.2.2.2.2.2.1&&(x66.2.2.2.2.2.2.1==x71.2.2.2.2.2.2.1&&(x66.2.2.2.2.2.2.2==x71.2.2.2.2.2.2.2))))))))) (some (.inr (.inr false))) (some (.inl (te (t60+1)))))
 (some (.inr (.inl ())))
def gG (p0:td) (i1:td) (t78:Int):Option (Int⊕(Unit⊕Bool)) :=
 cond (decide (t78<(p0.2.2.2.1.length:Int)))
 ((at? p0.2.2.2.1 t78).bind λx84 =>
 (at? i1.2.2.2.1 t78).bind λx89 =>
 cond (!(x84.1==x89.1&&(x84.2.1==x89.2.1&&(x84.2.2.1==x89.2.2.1&&(x84.2.2.2.1==x89.2.2.2.1&&(x84.2.2.2.2==x89.2.2.2.2)))))) (some (.inr (.inr false))) (some (.inl (te (t78+1)))))
 (some (.inr (.inl ())))
def fc (p0:td) (i1:td):Option Bool :=
 (cond (p0.1 != i1.1) (some true) (some (!(p0.2.1==i1.2.1)))).bind λt18 =>
 (cond t18
 (some true)
 (some ((p0.2.2.1.length:Int) != (i1.2.2.1.length:Int)))).bind λt27 =>
 (cond t27
 (some true)
 (some ((p0.2.2.2.1.length:Int) != (i1.2.2.2.1.length:Int)))).bind λt36 =>
 (cond t36
 (some true)
 ((gE p0.2.2.2.2.1 i1.2.2.2.2.1).bind λt44 =>
 some (!t44))).bind λt46 =>
 (cond t46
 (some true)
 ((ay p0.2.2.2.2.2.1 i1.2.2.2.2.2.1).bind λt54 =>
 some (!t54))).bind λt56 =>
 cond t56
 (some false)
 ((loop (λz=>gF p0 i1 z) 0).bind (Sum.elim (λd =>
 (loop (λz=>gG p0 i1 z) 0).bind (Sum.elim (λd_1 =>
 (cond (p0.2.2.2.2.2.2.1==i1.2.2.2.2.2.2.1) (some (p0.2.2.2.2.2.2.2.1==i1.2.2.2.2.2.2.2.1)) (some false)).bind λt104 =>
 (cond t104
 (some (p0.2.2.2.2.2.2.2.2.1==i1.2.2.2.2.2.2.2.2.1))
 (some false)).bind λt111 =>
 (cond t111
 (some (p0.2.2.2.2.2.2.2.2.2.1==i1.2.2.2.2.2.2.2.2.2.1))
 (some false)).bind λt118 =>
 (cond t118
 (some (p0.2.2.2.2.2.2.2.2.2.2==i1.2.2.2.2.2.2.2.2.2.2))
 (some false)).bind λt125 =>
 some t125) (λr=>some r))) (λr_1=>some r_1)))
def ld:FL:=(16,⟨[.val true tK false,.val true tK false],[.val false uf (some true)],λa=>fc a.1 a.2⟩)::lc
theorem qr:Gd ld:=tv qq 16 Tryz.f16 [(0,⟨⟨[(60,false,[dI])],[]⟩,
 ⟨[],[]⟩,some ⟨[(4,false,[dB])],[]⟩⟩),
 (2,⟨⟨[(78,false,[dI])],[]⟩,
 ⟨[],[]⟩,some ⟨[(4,false,[dB])],[]⟩⟩)] Tryz.func16
def dX (a0:List tg) (b1:List tg) (t13:Int):Option (Int⊕(Unit⊕Bool)) :=
 cond (decide (t13<(a0.length:Int)))
 ((at? a0 t13).bind λx18 =>
 (at? b1 t13).bind λx23 =>
 (ay x18.1 x23.1).bind λt26 =>
 (cond (!t26)
 (some true)
 ((at? a0 t13).bind λx31 =>
 (at? b1 t13).bind λx36 =>
 (aJ x31.2 x36.2).bind λt39 =>
 some (!t39))).bind λt41 =>
 cond t41 (some (.inr (.inr false))) (some (.inl (te (t13+1)))))
 (some (.inr (.inl ())))
def gH (a0:List tg) (b1:List tg):Option Bool :=
 cond ((a0.length:Int) != (b1.length:Int))
 (some false)
 ((loop (λz=>dX a0 b1 z) 0).bind (Sum.elim (λd =>
 some true) (λr=>some r)))
def lf:FL:=(88,⟨[.val false (.one (.sl tG)) false,.val false (.one (.sl tG)) false],[.val false uf (some true)],λa=>gH a.1 a.2⟩)::ld
theorem qt:Gd lf:=tv qr 88 Tryz.f88 [(0,⟨⟨(13,false,[dI])::us 29 12 [],[]⟩,
 ⟨[],[]⟩,some ⟨[(4,false,[dB])],[]⟩⟩)] Tryz.func88
def dY (a0:tQ) (b1:tQ):Option Bool :=
 (cond (a0.1==b1.1) (some (a0.2.1==b1.2.1)) (some false)).bind λt16 =>
 (cond t16 (some (a0.2.2.1==b1.2.2.1)) (some false)).bind λt23 =>
 (cond t23 (some (a0.2.2.2.1==b1.2.2.2.1)) (some false)).bind λt30 =>
 (cond t30
 ((gH a0.2.2.2.2 b1.2.2.2.2).bind λt36 =>
 some t36)
 (some false)).bind λt37 =>
 some t37
def lg:FL:=(15,⟨[.val true vk false,.val true vk false],[.val false uf (some true)],λa=>dY a.1 a.2⟩)::lf
theorem qu:Gd lg:=tv qt 15 Tryz.f15 [] Tryz.func15
def dZ (a0:List Int) (b1:List Int) (i5:Int):Option (Int⊕(Unit⊕Bool)) :=
 cond (decide (i5<(a0.length:Int)))
 ((at? a0 i5).bind λx19 =>
 (at? b1 i5).bind λx23 =>
 cond (x19 != x23) (some (.inr (.inr false))) (some (.inl (te (i5+1)))))
 (some (.inr (.inl ())))
def gI (a0:List Int) (b1:List Int):Option Bool :=
 cond ((a0.length:Int) != (b1.length:Int))
 (some false)
 ((loop (λz=>dZ a0 b1 z) 0).bind (Sum.elim (λd =>
 some true) (λr=>some r)))
def lh:FL:=(245,⟨[.val false uG false,.val false uG false],[.val false uf (some true)],λa=>gI a.1 a.2⟩)::lg
theorem qv:Gd lh:=tv qu 245 Tryz.f245 [(0,⟨⟨[(5,false,[dI])],[]⟩,
 ⟨[],[]⟩,some ⟨[(4,false,[dB])],[]⟩⟩)] Tryz.func245
def e9 (p0:List um) (i1:List um) (t5:Int):Option (Int⊕(Unit⊕Bool)) :=
 cond (decide (t5<(p0.length:Int)))
 ((at? p0 t5).bind λx21 =>
 (at? i1 t5).bind λx25 =>
 (cond (x21.1 != x25.1)
 (some true)
 ((gI x21.2.1 x25.2.1).bind λt37 =>
 some (!t37))).bind λt39 =>
 (cond t39 (some true) (some (x21.2.2.1 != x25.2.2.1))).bind λt46 =>
 (cond t46
 (some true)
 ((dY (x21.2.2.2.1,x21.2.2.2.2.1,x21.2.2.2.2.2.1,x21.2.2.2.2.2.2.1,x21.2.2.2.2.2.2.2.1) (x25.2.2.2.1,x25.2.2.2.2.1,x25.2.2.2.2.2.1,x25.2.2.2.2.2.2.1,x25.2.2.2.2.2.2.2.1)).bind λt52 =>
 some (!t52))).bind λt54 =>
 (cond t54
 (some true)
 ((fc (x21.2.2.2.2.2.2.2.2.1,x21.2.2.2.2.2.2.2.2.2.1,x21.2.2.2.2.2.2.2.2.2.2.1,x21.2.2.2.2.2.2.2.2.2.2.2.1,x21.2.2.2.2.2.2.2.2.2.2.2.2.1,x21.2.2.2.2.2.2.2.2.2.2.2.2.2.1,x21.2.2.2.2.2.2.2.2.2.2.2.2.2.2.1,x21.2.2.2.2.2.2.2.2.2.2.2.2.2.2.2.1,x21.2.2.2.2.2.2.2.2.2.2.2.2.2.2.2.2.1,x21.2.2.2.2.2.2.2.2.2.2.2.2.2.2.2.2.2.1,x21.2.2.2.2.2.2.2.2.2.2.2.2.2.2.2.2.2.2.1) (x25.2.2.2.2.2.2.2.2.1,x25.2.2.2.2.2.2.2.2.2.1,x25.2.2.2.2.2.2.2.2.2.2.1,x25.2.2.2.2.2.2.2.2.2.2.2.1,x25.2.2.2.2.2.2.2.2.2.2.2.2.1,x25.2.2.2.2.2.2.2.2.2.2.2.2.2.1,x25.2.2.2.2.2.2.2.2.2.2.2.2.2.2.1,x25.2.2.2.2.2.2.2.2.2.2.2.2.2.2.2.1,x25.2.2.2.2.2.2.2.2.2.2.2.2.2.2.2.2.1,x25.2.2.2.2.2.2.2.2.2.2.2.2.2.2.2.2.2.1,x25.2.2.2.2.2.2.2.2.2.2.2.2.2.2.2.2.2.2.1)).bind λt60 =>
 some (!t60))).bind λt62 =>
 (cond t62
 (some true)
 (some (x21.2.2.2.2.2.2.2.2.2.2.2.2.2.2.2.2.2.2.2.1 != x25.2.2.2.2.2.2.2.2.2.2.2.2.2.2.2.2.2.2.2.1))).bind λt69 =>
 (cond t69
 (some true)
 (some (x21.2.2.2.2.2.2.2.2.2.2.2.2.2.2.2.2.2.2.2.2 != x25.2.2.2.2.2.2.2.2.2.2.2.2.2.2.2.2.2.2.2.2))).bind λt76 =>
 cond t76 (some (.inr (.inr false))) (some (.inl (te (t5+1)))))
 (some (.inr (.inl ())))
def gJ (p0:List um) (i1:List um):Option Bool :=
 cond ((p0.length:Int) != (i1.length:Int))
 (some false)
 ((loop (λz=>e9 p0 i1 z) 0).bind (Sum.elim (λd =>
 some true) (λr=>some r)))
def lj:FL:=(142,⟨[.val false (.one (.sl ye)) false,.val false (.one (.sl ye)) false],[.val false uf (some true)],λa=>gJ a.1 a.2⟩)::lh
theorem qw:Gd lj:=tv qv 142 Tryz.f142 [(0,⟨⟨(5,false,[dI])::us 33 6 (us 41 5 (us 48 6 (us 56 6 (us 64 5 (us 71 5 []))))),[]⟩,
 ⟨[],[]⟩,some ⟨[(4,false,[dB])],[]⟩⟩)] Tryz.func142
def cU (a0:tB) (b1:tB):Option Bool :=
 (fc (a0.1,a0.2.1,a0.2.2.1,a0.2.2.2.1,a0.2.2.2.2.1,a0.2.2.2.2.2.1,a0.2.2.2.2.2.2.1,a0.2.2.2.2.2.2.2.1,a0.2.2.2.2.2.2.2.2.1,a0.2.2.2.2.2.2.2.2.2.1,a0.2.2.2.2.2.2.2.2.2.2.1) (b1.1,b1.2.1,b1.2.2.1,b1.2.2.2.1,b1.2.2.2.2.1,b1.2.2.2.2.2.1,b1.2.2.2.2.2.2.1,b1.2.2.2.2.2.2.2.1,b1.2.2.2.2.2.2.2.2.1,b1.2.2.2.2.2.2.2.2.2.1,b1.2.2.2.2.2.2.2.2.2.2.1)).bind λt9 =>
 (cond t9
 (some (a0.2.2.2.2.2.2.2.2.2.2.2.1==b1.2.2.2.2.2.2.2.2.2.2.2.1))
 (some false)).bind λt16 =>
 (cond t16
 ((gJ a0.2.2.2.2.2.2.2.2.2.2.2.2.1 b1.2.2.2.2.2.2.2.2.2.2.2.2.1).bind λt22 =>
 some t22)
 (some false)).bind λt23 =>
 (cond t23
 (some (a0.2.2.2.2.2.2.2.2.2.2.2.2.2.1==b1.2.2.2.2.2.2.2.2.2.2.2.2.2.1))
 (some false)).bind λt30 =>
 (cond t30
 (some (a0.2.2.2.2.2.2.2.2.2.2.2.2.2.2==b1.2.2.2.2.2.2.2.2.2.2.2.2.2.2))
 (some false)).bind λt37 =>
 some t37
def lk:FL:=(54,⟨[.val true ul false,.val true ul false],[.val false uf (some true)],λa=>cU a.1 a.2⟩)::lj
theorem qx:Gd lk:=tv qw 54 Tryz.f54 [] Tryz.func54
def ea (a0:List v9) (b1:List v9) (i5:Int):Option (Int⊕(Unit⊕Bool)) :=
 cond (decide (i5<(a0.length:Int)))
 ((at? a0 i5).bind λx19 =>
 (at? b1 i5).bind λx24 =>
 (cond (x19.1 != x24.1)
 (some true)
 ((at? a0 i5).bind λx31 =>
 (at? b1 i5).bind λx36 =>
 (dY x31.2 x36.2).bind λt39 =>
 some (!t39))).bind λt41 =>
 cond t41 (some (.inr (.inr false))) (some (.inl (te (i5+1)))))
 (some (.inr (.inl ())))
def fe (a0:List v9) (b1:List v9):Option Bool :=
 cond ((a0.length:Int) != (b1.length:Int))
 (some false)
 ((loop (λz=>ea a0 b1 z) 0).bind (Sum.elim (λd =>
 some true) (λr=>some r)))
def qy:FL:=(55,⟨[.val false (.one (.sl xC)) false,.val false (.one (.sl xC)) false],[.val false uf (some true)],λa=>fe a.1 a.2⟩)::lk
theorem qz:Gd qy:=tv qx 55 Tryz.f55 [(0,⟨⟨(5,false,[dI])::us 29 12 [],[]⟩,
 ⟨[],[]⟩,some ⟨[(4,false,[dB])],[]⟩⟩)] Tryz.func55
def zp (p0:List Int):Option Bool :=
 (iA p0).bind λt22 =>
 cond t22
 (some true)
 ((gy p0).bind λt25 =>
 (bI t25.1 t25.2).bind λt31 =>
 (aR t25.1 t25.2).bind λt37 =>
 (gz p0).bind λt42 =>
 (cV t42.1 t42.2).bind λt48 =>
 (cS t42.1 t42.2).bind λt54 =>
 (gA p0).bind λt59 =>
 (gB p0).bind λt63 =>
 (gC p0).bind λt66 =>
 (gD t66.1 t66.2).bind λt71 =>
 (cU t31.1 t37.1).bind λt74 =>
 (cond t74
 ((fe t31.2 t37.2).bind λt78 =>
 some t78)
 (some false)).bind λt79 =>
 (cond t79
 ((cU t48.1 t54.1).bind λt83 =>
 some t83)
 (some false)).bind λt84 =>
 (cond t84
 ((fe t48.2 t54.2).bind λt88 =>
 some t88)
 (some false)).bind λt89 =>
 (cond t89
 ((br t59.1 t59.2).bind λt93 =>
 (bb t59.1 t59.2).bind λt96 =>
 (cU t93 t96).bind λt97 =>
 some t97)
 (some false)).bind λt98 =>
 (cond t98
 ((cQ t63).bind λt101 =>
 (cc t63).bind λt103 =>
 some (t101==t103))
 (some false)).bind λt105 =>
 (cond t105
 ((cL t66.1 t66.2).bind λt110 =>
 (cU t71 t110).bind λt111 =>
 some t111)
 (some false)).bind λt112 =>
 some t112)
def Ah:Fn:=⟨[.val false uG false],[.val false uf (some true)],λa=>zp a⟩
theorem m_laws_FnAgentsBent:BX Tryz.prog 7 Ah:=R3 qz 7 Tryz.f7 [] Ah Tryz.func7
def cW (l0:List tk) (t8:Int) (out3:List tk):Option ((Int×List tk)⊕(List tk)) :=
 cond (decide (t8<(l0.length:Int)))
 ((at? l0 t8).bind λx10 =>
 cond (!x10.2.2.2.2)
 (cond (decide (x10.2.2.2.1>=4))
 (some (.inl (te (t8+1),out3)))
 ((tJ out3 [(x10.1,x10.2.1,x10.2.2.1,te (x10.2.2.2.1+1),x10.2.2.2.2)]).bind λzs25 =>
 some (.inl (te (t8+1),zs25))))
 ((tJ out3 [x10]).bind λzs25_1 =>
 some (.inl (te (t8+1),zs25_1))))
 (some (.inr out3))
def iB (l0:List tk):Option (List tk) :=
 (loop (λz=>cW l0 z.1 z.2) (0,[])).bind λd =>
 some d
def ll (b0:td):Option td :=
 (ao b0).bind λt5 =>
 (bc b0).bind λt7 =>
 cond t7
 ((bf b0.2.2.2.2.2.2.1).bind λt10 =>
 (iB b0.2.2.2.1).bind λt14 =>
 (bg (t5.1,t5.2.1,t5.2.2.1,t14,t5.2.2.2.2.1,t5.2.2.2.2.2.1,t10,t5.2.2.2.2.2.2.2.1,t5.2.2.2.2.2.2.2.2.1,t5.2.2.2.2.2.2.2.2.2.1,t5.2.2.2.2.2.2.2.2.2.2)).bind λt16 =>
 some t16)
 (some t5)
end
end Go.V.W

