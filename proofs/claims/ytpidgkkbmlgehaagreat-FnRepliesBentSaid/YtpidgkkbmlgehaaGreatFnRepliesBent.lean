/- The law FnRepliesBent: part of the proof that for every input it returns true. No condition. -/
import Derived.Test.YtpidgkkbmlgehaaGreatFnRepliesBentP1
set_option linter.unusedVariables false
set_option linter.unusedSimpArgs false
namespace Go.V.W
open Go.Proofs
noncomputable section
def fW:List (FuncId×Fn):=(201,vn)::fX
theorem kT:sP Tryz.prog ⟨tis,fW,[],false⟩:=fY.cons Bw
def bg (n0_1:Int) (out3:List Int):Option ((Int×List Int)⊕(List Int)) :=
 (cond (decide (n0_1<(-128))) (some true) (some (decide (n0_1>127)))).bind λt14 =>
 cond t14
 ((oX [IntKind.u8.wrap (n0_1.fdiv (2^8))] out3).bind λzs21 =>
 some (.inl (n0_1.fdiv (2^8),zs21)))
 (some (.inr out3))
def bC (n0:Int):Option (List Int) :=
 (ao n0).bind λt5 =>
 (loop (λz=>bg z.1 z.2) (t5,[IntKind.u8.wrap (t5)])).bind λd =>
 some d
def fZ:FL:=(300,⟨[.val false oJ false],[.val false rr (some true)],λa=>bC a⟩)::fW
theorem kU:Gd fZ:=oM kT 300 Tryz.f300 [(0,⟨⟨[(0,false,[dI]),(3,false,[.own 1000000000]),(12,false,[.undef]),(13,false,[.undef])],[(1000000000,.root (.one (.int .u8)) true)]⟩,
 ⟨[(3,false,[.own 1000000300])],[(1000000300,.root (.one (.int .u8)) true)]⟩,none⟩)] Tryz.func300
def bh (n0_1:Int) (out3:List Int):Option ((Int×List Int)⊕(List Int)) :=
 cond (decide (n0_1>127))
 ((oX [IntKind.u8.wrap (zS .i64 (rJ .i64 (n0_1.fdiv (2^7)) 127) 128)] out3).bind λzs18 =>
 some (.inl (n0_1.fdiv (2^7),zs18)))
 (some (.inr out3))
def ed (n0:Int):Option (List Int) :=
 (loop (λz=>bh z.1 z.2) (n0,[IntKind.u8.wrap (rJ .i64 n0 127)])).bind λd =>
 some d
def ga:FL:=(365,⟨[.val false oJ false],[.val false rr (some true)],λa=>ed a⟩)::fZ
theorem kV:Gd ga:=oM kU 365 Tryz.f365 [(0,⟨⟨[(0,false,[dI]),(3,false,[.own 1000000000])],[(1000000000,.root (.one (.int .u8)) true)]⟩,
 ⟨[(3,false,[.own 1000000300])],[(1000000300,.root (.one (.int .u8)) true)]⟩,none⟩)] Tryz.func365
def bD (o0:List Int) (i4:Int) (b3:List Int):Option ((Int×List Int)⊕(List Int)) :=
 cond (decide (i4<(o0.length:Int)))
 ((at? o0 i4).bind λx19 =>
 (ed x19).bind λt21 =>
 (oX b3 t21).bind λzs22 =>
 some (.inl (oB (i4+1),zs22)))
 (some (.inr b3))
def cY (o0:List Int):Option (List Int) :=
 (bj o0).bind λt7 =>
 cond (!t7)
 (some ([]:List Int))
 ((loop (λz=>bD o0 z.1 z.2) (0,([]:List Int))).bind λd =>
 some d)
def gb:FL:=(348,⟨[.val false qx false],[.val false rr (some true)],λa=>cY a⟩)::ga
theorem kW:Gd gb:=oM kV 348 Tryz.f348 [(0,⟨⟨[(3,false,[.own 1000000000]),(4,false,[dI])],[(1000000000,.root (.one (.int .u8)) true)]⟩,
 ⟨[(3,false,[.own 1000000300])],[(1000000300,.root (.one (.int .u8)) true)]⟩,none⟩)] Tryz.func348
def ee (b0:List Int) (v1:rm):Option (List Int) :=
 (ce v1).bind λt7 =>
 cond (!t7)
 ((oX ([]:List Int) b0).bind λzs11 =>
 some zs11)
 (cond (v1.1==2)
 ((bC v1.2.1).bind λt19 =>
 (ar b0 v1.1 t19).bind λt34 =>
 some t34)
 (cond (v1.1==4)
 ((ar b0 v1.1 (sU v1.2.2.1)).bind λt34_1 =>
 some t34_1)
 (cond (v1.1==6)
 ((cY v1.2.2.2).bind λt29 =>
 (ar b0 v1.1 t29).bind λt34_2 =>
 some t34_2)
 ((ar b0 v1.1 ([]:List Int)).bind λt34_3 =>
 some t34_3))))
def gd:FL:=(347,⟨[.val false rr false,.val true sR false],[.val false rr (some true)],λa=>ee a.1 a.2⟩)::gb
theorem kX:Gd gd:=oM kW 347 Tryz.f347 [] Tryz.func347
def bE (l0:List oC) (i4:Int) (b3:List Int):Option ((Int×List Int)⊕(List Int)) :=
 cond (decide (i4<(l0.length:Int)))
 ((at? l0 i4).bind λx16 =>
 (cY x16.1).bind λt19 =>
 (ar ([]:List Int) 6 t19).bind λt20 =>
 (at? l0 i4).bind λx23 =>
 (ee t20 x23.2).bind λt26 =>
 (ar b3 48 t26).bind λt29 =>
 some (.inl (oB (i4+1),t29)))
 (some (.inr b3))
def ef (l0:List oC):Option (List Int) :=
 (loop (λz=>bE l0 z.1 z.2) (0,([]:List Int))).bind λd =>
 some d
def ge:FL:=(299,⟨[.val false (.one (.sl oK)) false],[.val false rr (some true)],λa=>ef a⟩)::gd
theorem kY:Gd ge:=oM kX 299 Tryz.f299 [(0,⟨⟨[(3,false,[.own 1000000000]),(4,false,[dI])],[(1000000000,.root (.one (.int .u8)) true)]⟩,
 ⟨[(3,false,[.own 1000000300])],[(1000000300,.root (.one (.int .u8)) true)]⟩,none⟩)] Tryz.func299
def fv (p0:p7):Option ((List Int)×Bool) :=
 (ef p0.2.2.2.2).bind λt8 =>
 cond (decide ((t8.length:Int)>250))
 (some (([]:List Int),false))
 ((bC p0.2.1).bind λt16 =>
 (ar ([]:List Int) 2 t16).bind λt17 =>
 (bC p0.2.2.1).bind λt20 =>
 (ar t17 2 t20).bind λt21 =>
 (bC p0.2.2.2.1).bind λt24 =>
 (ar t21 2 t24).bind λt25 =>
 (ar t25 48 t8).bind λt28 =>
 let t3:=decide ((t28.length:Int)<=250)
 some (t28,t3))
def gg:FL:=(200,⟨[.val true qT false],[.val false rr (some true),.val false pC (some true)],λa=>fv a⟩)::ge
theorem kZ:Gd gg:=oM kY 200 Tryz.f200 [] Tryz.func200
def eg (p0:p7):Option (List Int) :=
 (cZ p0).bind λt6 =>
 cond (!t6)
 (some ([]:List Int))
 ((fv p0).bind λt11 =>
 cond (!t11.2)
 (some ([]:List Int))
 ((ar ([]:List Int) p0.1 t11.1).bind λt21 =>
 some t21))
def gh:FL:=(104,⟨[.val true qT false],[.val false rr (some true)],λa=>eg a⟩)::gg
theorem l6:Gd gh:=oM kZ 104 Tryz.f104 [] Tryz.func104
def bG (p0:p7):Option Bool :=
 (eg p0).bind λt4 =>
 (af (t4.length:Int) 1 120).bind λt6 =>
 some t6
def gi:FL:=(25,⟨[.val true qT false],[.val false pC (some true)],λa=>bG a⟩)::gh
theorem l7:Gd gi:=oM l6 25 Tryz.f25 [] Tryz.func25
def cf (l0:List oC) (i4:Int) (out3:List oC):Option ((Int×List oC)⊕(List oC)) :=
 cond (decide (i4<(l0.length:Int)))
 ((at? l0 i4).bind λx15 =>
 (oX ([]:List Int) x15.2.2.2.2).bind λzs21 =>
 (at? l0 i4).bind λx27 =>
 (oX ([]:List Int) x27.1).bind λzs30 =>
 (oX out3 [(zs30,x15.2.1,x15.2.2.1,x15.2.2.2.1,zs21)]).bind λzs34 =>
 some (.inl (oB (i4+1),zs34)))
 (some (.inr out3))
def d6 (l0:List oC):Option (List oC) :=
 (loop (λz=>cf l0 z.1 z.2) (0,([]:List oC))).bind λd =>
 some d
def gj:FL:=(85,⟨[.val false (.one (.sl oK)) false],[.val false (.one (.sl oK)) (some true)],λa=>d6 a⟩)::gi
theorem l8:Gd gj:=oM l7 85 Tryz.f85 [(0,⟨⟨[(3,false,[.own 1000000000]),(4,false,[dI])],[(1000000000,.root oK true)]⟩,
 ⟨[(3,false,[.own 1000000300])],[(1000000300,.root oK true)]⟩,none⟩)] Tryz.func85
def bm (bulk1:Bool) (b0:Int) (b1:Int) (b2:Int) (b3:Int) (b4:List oC):Option ((Int×Int×Int×Int×List oC)⊕(Int×Int×Int×Int×List oC)) :=
 (cond bulk1
 ((bG (b0,b1,b2,b3,b4)).bind λt8 =>
 some (!t8))
 (some false)).bind λt10 =>
 (cond t10 (some (decide ((b4.length:Int)>0))) (some false)).bind λt16 =>
 cond t16
 ((rX b4.length 0 (oB ((b4.length:Int)-1))).bind λp =>
 some (.inl (b0,b1,b2,b3,(b4.take p.2).drop p.1)))
 (some (.inr (b0,b1,b2,b3,b4)))
def cg (p0:p7) (bulk1:Bool):Option p7 :=
 (loop (λz=>bm bulk1 z.1 z.2.1 z.2.2.1 z.2.2.2.1 z.2.2.2.2) p0).bind λd =>
 (bG d).bind λt26 =>
 cond t26 (some d) (some (162,d.2.1,7,0,[]))
def gk:FL:=(87,⟨[.val true qT true,.val false pC false],[.val true qT (some true)],λa=>cg a.1 a.2⟩)::gj
theorem l9:Gd gk:=oM l8 87 Tryz.f87 [(0,⟨⟨us 7 3 (us 12 4 []),[(1024,.box [dI,dI,dI,dI,.own 1000000000]),(1000000000,.root oK true)]⟩,
 ⟨[],[(1024,.box [dI,dI,dI,dI,.own 1000000300]),(1000000300,.root oK true)]⟩,none⟩)] Tryz.func87
def la (a0:List Int) (b1:List Int) (i5:Int):Option (Int⊕(Unit⊕Bool)) :=
 cond (decide (i5<(a0.length:Int)))
 ((at? a0 i5).bind λx19 =>
 (at? b1 i5).bind λx23 =>
 cond (x19 != x23) (some (.inr (.inr false))) (some (.inl (oB (i5+1)))))
 (some (.inr (.inl ())))
def bH (a0:List Int) (b1:List Int):Option Bool :=
 cond ((a0.length:Int) != (b1.length:Int))
 (some false)
 ((loop (λz=>la a0 b1 z) 0).bind (Sum.elim (λd =>
 some true) (λr=>some r)))
def gl:FL:=(289,⟨[.val false qx false,.val false qx false],[.val false pC (some true)],λa=>bH a.1 a.2⟩)::gk
theorem lb:Gd gl:=oM l9 289 Tryz.f289 [(0,⟨⟨[(5,false,[dI])],[]⟩,
 ⟨[],[]⟩,some ⟨[(4,false,[dB])],[]⟩⟩)] Tryz.func289
def fw (o0:List Int) (head1:List Int):Option Bool :=
 (cond (decide ((o0.length:Int)>(head1.length:Int)))
 ((cut o0 0 (head1.length:Int)).bind λt14 =>
 (bH t14 head1).bind λt16 =>
 some t16)
 (some false)).bind λt17 =>
 some t17
def gm:FL:=(369,⟨[.val false qx false,.val false qx false],[.val false pC (some true)],λa=>fw a.1 a.2⟩)::gl
theorem lc:Gd gm:=oM lb 369 Tryz.f369 [] Tryz.func369
def d7 (o0:List Int):Option ((List Int)×Bool) :=
 (fw o0 ([1,3,1]:List Int)).bind λt6 =>
 cond (!t6)
 (some (([]:List Int),false))
 ((cut o0 3 (o0.length:Int)).bind λt10 =>
 some (t10,true))
def gn:FL:=(362,⟨[.val false qx false],[.val false qx none,.val false pC (some true)],λa=>d7 a⟩)::gm
theorem ld:Gd gn:=oM lc 362 Tryz.f362 [] Tryz.func362
def eh (p0:oA) (i1:List Int):Option Bool :=
 (d7 i1).bind λt9 =>
 cond (!t9.2)
 (some false)
 (cond ((t9.1.length:Int)==2)
 ((at? t9.1 0).bind λx18 =>
 (cond (x18==1)
 ((at? t9.1 1).bind λx23 =>
 some (x23==1))
 (some false)).bind λt26 =>
 some t26)
 (cond ((t9.1.length:Int) != 3)
 (some false)
 ((at? t9.1 0).bind λx31 =>
 cond (x31==2)
 ((at? t9.1 1).bind λx36 =>
 (cond (x36==2)
 (some true)
 ((at? t9.1 1).bind λx41 =>
 some (x41==4))).bind λt44 =>
 (cond t44
 ((at? t9.1 2).bind λx47 =>
 (af x47 1 (p0.2.2.1.length:Int)).bind λt52 =>
 some t52)
 (some false)).bind λt53 =>
 some t53)
 (cond (x31==3)
 ((at? t9.1 1).bind λx57 =>
 (cond (x57==1)
 ((at? t9.1 2).bind λx62 =>
 (af x62 1 99).bind λt64 =>
 some t64)
 (some false)).bind λt65 =>
 (cond t65
 (some true)
 ((at? t9.1 1).bind λx68 =>
 (cond (x68==2)
 (some true)
 ((at? t9.1 1).bind λx73 =>
 some (x73==3))).bind λt76 =>
 (cond t76
 ((at? t9.1 2).bind λx81 =>
 (aR (p0.2.2.2.2.1,p0.2.2.2.2.2.1) x81).bind λt83 =>
 some (decide (t83>=0)))
 (some false)).bind λt85 =>
 some t85)).bind λt86 =>
 some t86)
 (some false)))))
def gp:FL:=(338,⟨[.val true oV false,.val false qx false],[.val false pC (some true)],λa=>eh a.1 a.2⟩)::gn
theorem lf:Gd gp:=oM ld 338 Tryz.f338 [] Tryz.func338
def aD (l0:List oG) (tag1:Int) (mac2:Int) (i7:Int):Option (Int⊕(Unit⊕Int)) :=
 cond (decide (i7<(l0.length:Int)))
 ((at? l0 i7).bind λx16 =>
 (cond (x16.1==tag1)
 ((at? l0 i7).bind λx24 =>
 some (x24.2.1==mac2))
 (some false)).bind λt29 =>
 cond t29 (some (.inr (.inr i7))) (some (.inl (oB (i7+1)))))
 (some (.inr (.inl ())))
def bn (l0:List oG) (tag1:Int) (mac2:Int):Option Int :=
 (loop (λz=>aD l0 tag1 mac2 z) 0).bind (Sum.elim (λd =>
 some (-1)) (λr=>some r))
def gq:FL:=(270,⟨[.val false (.one (.sl p3)) false,.val false oJ false,.val false oJ false],[.val false oJ (some true)],λa=>bn a.1 a.2.1 a.2.2⟩)::gp
theorem lg:Gd gq:=oM lf 270 Tryz.f270 [(0,⟨⟨(7,false,[dI])::us 22 7 [],[]⟩,
 ⟨[],[]⟩,some ⟨[(6,false,[dI])],[]⟩⟩)] Tryz.func270
def ei (p0:oA) (i1:List Int):Option Bool :=
 (d7 i1).bind λt9 =>
 cond (!t9.2)
 (some false)
 (cond ((t9.1.length:Int)==2)
 ((at? t9.1 0).bind λx19 =>
 (cond (x19==1)
 ((at? t9.1 1).bind λx24 =>
 (af x24 2 5).bind λt26 =>
 some t26)
 (some false)).bind λt27 =>
 some t27)
 (cond ((t9.1.length:Int)==3)
 ((at? t9.1 0).bind λx31 =>
 (cond (x31==2)
 ((at? t9.1 1).bind λx36 =>
 (cond (x36==1)
 (some true)
 ((at? t9.1 1).bind λx41 =>
 some (x41==3))).bind λt44 =>
 some t44)
 (some false)).bind λt45 =>
 (cond t45
 ((at? t9.1 2).bind λx48 =>
 (af x48 1 (p0.2.2.1.length:Int)).bind λt53 =>
 some t53)
 (some false)).bind λt54 =>
 some t54)
 (cond ((t9.1.length:Int)==4)
 ((at? t9.1 0).bind λx58 =>
 (cond (x58==4)
 ((at? t9.1 1).bind λx63 =>
 some (x63==1))
 (some false)).bind λt66 =>
 (cond t66
 ((at? t9.1 2).bind λx71 =>
 (at? t9.1 3).bind λx74 =>
 (bn p0.2.2.2.1 x71 x74).bind λt76 =>
 some (decide (t76>=0)))
 (some false)).bind λt78 =>
 some t78)
 (some false))))
def gt:FL:=(339,⟨[.val true oV false,.val false qx false],[.val false pC (some true)],λa=>ei a.1 a.2⟩)::gq
theorem lh:Gd gt:=oM lg 339 Tryz.f339 [] Tryz.func339
def fx (b0:oA) (c1:Int) (p2:Int) (n3:Int):Option (oA×Int) :=
 cond (c1==2)
 ((af n3 1 1000).bind λt13 =>
 cond (!t13)
 (some (b0,2))
 ((ix b0.2.2.1.length p2).bind λj20 =>
 (b0.2.2.1[j20]?).bind λx =>
 some ((b0.1,b0.2.1,b0.2.2.1.set j20 (x.1,n3,x.2.2.1,x.2.2.2.1,x.2.2.2.2.1,x.2.2.2.2.2.1,x.2.2.2.2.2.2.1,x.2.2.2.2.2.2.2),b0.2.2.2.1,b0.2.2.2.2.1,b0.2.2.2.2.2.1,b0.2.2.2.2.2.2.1,b0.2.2.2.2.2.2.2.1,b0.2.2.2.2.2.2.2.2.1,b0.2.2.2.2.2.2.2.2.2.1,b0.2.2.2.2.2.2.2.2.2.2),0)))
 ((ix b0.2.2.2.2.2.1.length p2).bind λj28 =>
 (b0.2.2.2.2.2.1[j28]?).bind λx_1 =>
 some ((b0.1,b0.2.1,b0.2.2.1,b0.2.2.2.1,b0.2.2.2.2.1,b0.2.2.2.2.2.1.set j28 n3,b0.2.2.2.2.2.2.1,b0.2.2.2.2.2.2.2.1,b0.2.2.2.2.2.2.2.2.1,b0.2.2.2.2.2.2.2.2.2.1,b0.2.2.2.2.2.2.2.2.2.2),0))
def gu:FL:=(340,⟨[.val true oV true,.val false oJ false,.val false oJ false,.val false oJ false],[.val true oV (some true),.val false oJ (some true)],λa=>fx a.1 a.2.1 a.2.2.1 a.2.2.2⟩)::gt
theorem li:Gd gu:=oM lh 340 Tryz.f340 [] Tryz.func340
def aw (p0:pk) (i1:oO) (t6:Bool) (t7:Int) (b0:List oO):Option ((Bool×Int×List oO)⊕(Bool×List oO)) :=
 cond (decide (t7<(p0.1.length:Int)))
 ((cond (!t6)
 ((at? p0.1 t7).bind λx26 =>
 some (decide (x26.1>=i1.1)))
 (some false)).bind λt32 =>
 cond t32
 ((oX b0 [i1]).bind λzs37 =>
 (at? p0.1 t7).bind λx42 =>
 cond (x42.1 != i1.1)
 ((at? p0.1 t7).bind λx53 =>
 (oX zs37 [x53]).bind λzs56 =>
 some (.inl (true,oB (t7+1),zs56)))
 (some (.inl (true,oB (t7+1),zs37))))
 ((at? p0.1 t7).bind λx42_1 =>
 cond (x42_1.1 != i1.1)
 ((at? p0.1 t7).bind λx53_1 =>
 (oX b0 [x53_1]).bind λzs56_1 =>
 some (.inl (t6,oB (t7+1),zs56_1)))
 (some (.inl (t6,oB (t7+1),b0)))))
 (some (.inr (t6,b0)))
def az (p0:pk) (i1:oO):Option pk :=
 (oX ([]:List Int) p0.2).bind λzs11 =>
 (loop (λz=>aw p0 i1 z.1 z.2.1 z.2.2) (false,0,[])).bind λd =>
 cond (!d.1)
 ((oX d.2 [i1]).bind λzs64 =>
 some (zs64,zs11))
 (some (d.2,zs11))
def gv:FL:=(298,⟨[.val true qh false,.val true pu false],[.val true qh (some true)],λa=>az a.1 a.2⟩)::gu
theorem lj:Gd gv:=oM li 298 Tryz.f298 [(0,⟨⟨(6,false,[dB])::(7,false,[dI])::us 23 9 [],[(268288,.box [.own 1000000000,.same 266240]),(1000000000,.root pu true)]⟩,
 ⟨[(6,false,[dB])],[(268288,.box [.own 1000000300,.same 266240]),(1000000300,.root pu true)]⟩,none⟩)] Tryz.func298
def fy (b0:oA) (id1:Int) (n2:Int):Option (oA×Int) :=
 (aR (b0.2.2.2.2.1,b0.2.2.2.2.2.1) id1).bind λt12 =>
 (cond (n2==4) (some (decide (t12<0))) (some false)).bind λt19 =>
 (cond t19 (some (decide ((b0.2.2.2.2.1.length:Int)<6))) (some false)).bind λt26 =>
 cond t26
 ((az (b0.2.2.2.2.1,b0.2.2.2.2.2.1) (id1,0,0)).bind λt31 =>
 some ((b0.1,b0.2.1,b0.2.2.1,b0.2.2.2.1,t31.1,t31.2,b0.2.2.2.2.2.2.1,b0.2.2.2.2.2.2.2.1,b0.2.2.2.2.2.2.2.2.1,b0.2.2.2.2.2.2.2.2.2.1,b0.2.2.2.2.2.2.2.2.2.2),0))
 ((cond (n2==6) (some (decide (t12>=0))) (some false)).bind λt40 =>
 cond t40
 ((rX b0.2.2.2.2.1.length 0 t12).bind λp =>
 (oX ([]:List oO) ((b0.2.2.2.2.1.take p.2).drop p.1)).bind λzs47 =>
 (rX b0.2.2.2.2.1.length (oB (t12+1)) (b0.2.2.2.2.1.length:Int)).bind λp_1 =>
 (oX zs47 ((b0.2.2.2.2.1.take p_1.2).drop p_1.1)).bind λzs54 =>
 some ((b0.1,b0.2.1,b0.2.2.1,b0.2.2.2.1,zs54,b0.2.2.2.2.2.1,b0.2.2.2.2.2.2.1,b0.2.2.2.2.2.2.2.1,b0.2.2.2.2.2.2.2.2.1,b0.2.2.2.2.2.2.2.2.2.1,b0.2.2.2.2.2.2.2.2.2.2),0))
 (some (b0,2)))
def gw:FL:=(363,⟨[.val true oV true,.val false oJ false,.val false oJ false],[.val true oV (some true),.val false oJ (some true)],λa=>fy a.1 a.2.1 a.2.2⟩)::gv
theorem lk:Gd gw:=oM lj 363 Tryz.f363 [] Tryz.func363
def ej (b0:oA) (c1:Int) (id2:Int) (n3:Int):Option (oA×Int) :=
 cond (c1==1)
 ((fy b0 id2 n3).bind λt16 =>
 some t16)
 ((shl .i64 1 (IntKind.u64.wrap ((b0.2.2.1.length:Int)))).bind λt24 =>
 (af n3 0 (oB (t24-1))).bind λt26 =>
 cond (!t26)
 (some (b0,2))
 ((aR (b0.2.2.2.2.1,b0.2.2.2.2.2.1) id2).bind λt35 =>
 (ix b0.2.2.2.2.1.length t35).bind λj36 =>
 (b0.2.2.2.2.1[j36]?).bind λx37 =>
 cond (c1==2)
 ((az (b0.2.2.2.2.1,b0.2.2.2.2.2.1) (x37.1,n3,x37.2.2)).bind λt47 =>
 some ((b0.1,b0.2.1,b0.2.2.1,b0.2.2.2.1,t47.1,t47.2,b0.2.2.2.2.2.2.1,b0.2.2.2.2.2.2.2.1,b0.2.2.2.2.2.2.2.2.1,b0.2.2.2.2.2.2.2.2.2.1,b0.2.2.2.2.2.2.2.2.2.2),0))
 ((az (b0.2.2.2.2.1,b0.2.2.2.2.2.1) (x37.1,x37.2.1,n3)).bind λt47_1 =>
 some ((b0.1,b0.2.1,b0.2.2.1,b0.2.2.2.1,t47_1.1,t47_1.2,b0.2.2.2.2.2.2.1,b0.2.2.2.2.2.2.2.1,b0.2.2.2.2.2.2.2.2.1,b0.2.2.2.2.2.2.2.2.2.1,b0.2.2.2.2.2.2.2.2.2.2),0))))
def gx:FL:=(341,⟨[.val true oV true,.val false oJ false,.val false oJ false,.val false oJ false],[.val true oV (some true),.val false oJ (some true)],λa=>ej a.1 a.2.1 a.2.2.1 a.2.2.2⟩)::gw
theorem ll:Gd gx:=oM lk 341 Tryz.f341 [] Tryz.func341
def d8 (p0:oA) (i1:oC):Option (oA×Int) :=
 (aE p0).bind λt9 =>
 (eh p0 i1.1).bind λt13 =>
 cond (!t13)
 ((ei p0 i1.1).bind λt18 =>
 cond t18 (some (t9,4)) (some (t9,3)))
 ((cut i1.1 3 (i1.1.length:Int)).bind λt23 =>
 (at? t23 0).bind λx25 =>
 cond (x25==1)
 (cond (i1.2.1 != 4)
 (some (t9,1))
 (let t34:=decide ((i1.2.2.2.1.length:Int)>10)
 cond t34
 (some (t9,2))
 (some ((t9.1,i1.2.2.2.1,t9.2.2.1,t9.2.2.2.1,t9.2.2.2.2.1,t9.2.2.2.2.2.1,t9.2.2.2.2.2.2.1,t9.2.2.2.2.2.2.2.1,t9.2.2.2.2.2.2.2.2.1,t9.2.2.2.2.2.2.2.2.2.1,t9.2.2.2.2.2.2.2.2.2.2),0))))
 (cond (i1.2.1 != 2)
 (some (t9,1))
 ((at? t23 0).bind λx52 =>
 cond (x52==2)
 ((at? t23 1).bind λx57 =>
 (at? t23 2).bind λx60 =>
 (fx t9 x57 (oB (x60-1)) i1.2.2.1).bind λt66 =>
 some t66)
 ((at? t23 1).bind λx71 =>
 (at? t23 2).bind λx74 =>
 (ej t9 x71 x74 i1.2.2.1).bind λt79 =>
 some t79))))
def gy:FL:=(290,⟨[.val true oV false,.val true oK false],[.val true oV (some true),.val false oJ (some true)],λa=>d8 a.1 a.2⟩)::gx
theorem lm:Gd gy:=oM ll 290 Tryz.f290 [] Tryz.func290
def em (n0:Int):Option Int :=
 cond (decide (n0>=1000000)) (some n0) (some (oB (n0+1)))
def gz:FL:=(143,⟨[.val false oJ false],[.val false oJ (some true)],λa=>em a⟩)::gy
theorem ln:Gd gz:=oM lm 143 Tryz.f143 [] Tryz.func143
def eo (a0:ul) (b1:ul):Option Bool :=
 cond (a0.1 != b1.1)
 (some (decide (a0.1<b1.1)))
 (cond (a0.2.1 != b1.2.1)
 (some (decide (a0.2.1<b1.2.1)))
 (cond (a0.2.2.2.1 != b1.2.2.2.1)
 (let t4:=decide (a0.2.2.2.1<b1.2.2.2.1)
 some t4)
 (let t4_1:=decide (a0.2.2.2.2<b1.2.2.2.2)
 some t4_1)))
def gA:FL:=(357,⟨[.val true sS false,.val true sS false],[.val false pC (some true)],λa=>eo a.1 a.2⟩)::gz
theorem lp:Gd gA:=oM ln 357 Tryz.f357 [] Tryz.func357
def fA (v0:ul) (cost1:Int):Option (ul×Bool) :=
 (d9 v0).bind λt8 =>
 (cond (!t8)
 (some true)
 ((af cost1 1 1000).bind λt12 =>
 some (!t12))).bind λt14 =>
 cond t14
 (some (v0,false))
 ((d9 (v0.1,oB (v0.2.1+cost1),oB (v0.2.2.1+1),v0.2.2.2.1,v0.2.2.2.2)).bind λt27 =>
 cond (!t27)
 (some (v0,false))
 (some ((v0.1,oB (v0.2.1+cost1),oB (v0.2.2.1+1),v0.2.2.2.1,v0.2.2.2.2),true)))
def gB:FL:=(368,⟨[.val true sS false,.val false oJ false],[.val true sS (some true),.val false pC (some true)],λa=>fA a.1 a.2⟩)::gA
theorem lq:Gd gB:=oM lp 368 Tryz.f368 [] Tryz.func368
def fB (p0:Int) (i1:List Pt) (t8:Int) (t9:Int) (b0:Int) (b1:Int) (b2:Int) (b3:Int) (b4:Int) (b0_1:Int) (b1_1:Int) (b2_1:Int) (b3_1:Int) (b4_1:Int):Option ((Int×Int×Int×Int×Int×Int×Int×Int×Int×Int×Int×Int)⊕(Int×Int×Int×Int×Int×Int×Int×Int×Int×Int×Int)) :=
 cond (decide (t9<(i1.length:Int)))
 ((at? i1 t9).bind λx24 =>
 (cond (!x24.1)
 (some true)
 ((at? i1 t9).bind λx31 =>
 some (!x31.2.2.1))).bind λt35 =>
 cond t35
 (some (.inl (t8,oB (t9+1),b0,b1,b2,b3,b4,b0_1,b1_1,b2_1,b3_1,b4_1)))
 ((at? i1 t9).bind λx39 =>
 (at? i1 t9).bind λx44 =>
 (fA x39.2.2.2 x44.2.1).bind λt47 =>
 (cond t47.2 (some (decide (t47.1.1<p0))) (some false)).bind λt56 =>
 (cond t56
 ((cond (decide (t8<0))
 (some true)
 ((eo t47.1 (b0_1,b1_1,b2_1,b3_1,b4_1)).bind λt63 =>
 some t63)).bind λt64 =>
 some t64)
 (some false)).bind λt65 =>
 cond t65
 (some (.inl (t9,oB (t9+1),t47.1.1,t47.1.2.1,t47.1.2.2.1,p0,0,t47.1.1,t47.1.2.1,t47.1.2.2.1,t47.1.2.2.2.1,t47.1.2.2.2.2)))
 (some (.inl (t8,oB (t9+1),b0,b1,b2,b3,b4,b0_1,b1_1,b2_1,b3_1,b4_1)))))
 (some (.inr (t8,b0,b1,b2,b3,b4,b0_1,b1_1,b2_1,b3_1,b4_1)))
def da (p0:Int) (i1:List Pt):Option (ul×Int) :=
 (loop (λz=>fB p0 i1 z.1 z.2.1 z.2.2.1 z.2.2.2.1 z.2.2.2.2.1 z.2.2.2.2.2.1 z.2.2.2.2.2.2.1 z.2.2.2.2.2.2.2.1 z.2.2.2.2.2.2.2.2.1 z.2.2.2.2.2.2.2.2.2.1 z.2.2.2.2.2.2.2.2.2.2.1 z.2.2.2.2.2.2.2.2.2.2.2) ((-1),0,p0,0,0,p0,0,0,0,0,0,0)).bind λd =>
 some ((d.2.1,d.2.2.1,d.2.2.2.1,d.2.2.2.2.1,d.2.2.2.2.2.1),d.1)
def gC:FL:=(356,⟨[.val false oJ false,.val false (.one (.sl qy)) false],[.val true sS (some true),.val false oJ (some true)],λa=>da a.1 a.2⟩)::gB
theorem lr:Gd gC:=oM lq 356 Tryz.f356 [(0,⟨⟨(8,false,[dI])::(9,false,[dI])::us 29 6 (us 52 4 (us 58 7 [])),[(266240,.box [dI,dI,dI,dI,dI]),(526336,.box [dI,dI,dI,dI,dI])]⟩,
 ⟨[(8,false,[dI])],[(266240,.box [dI,dI,dI,dI,dI]),(526336,.box [dI,dI,dI,dI,dI])]⟩,none⟩)] Tryz.func356
def ep (id0:Int) (l1:List Pt) (port2:Int):Option ul :=
 (da id0 l1).bind λt12 =>
 some (t12.1.1,t12.1.2.1,t12.1.2.2.1,t12.1.2.2.2.1,port2)
def gD:FL:=(358,⟨[.val false oJ false,.val false (.one (.sl qy)) false,.val false oJ false],[.val true sS (some true)],λa=>ep a.1 a.2.1 a.2.2⟩)::gC
theorem ls:Gd gD:=oM lr 358 Tryz.f358 [] Tryz.func358
def de (id0:Int) (l1:List Pt) (port2:Int):Option Int :=
 (af port2 0 (oB ((l1.length:Int)-1))).bind λt13 =>
 (cond (!t13)
 (some true)
 ((at? l1 port2).bind λx18 =>
 some (!x18.1))).bind λt22 =>
 cond t22
 (some 4)
 ((da id0 l1).bind λt26 =>
 cond (t26.2==port2)
 (some 1)
 ((at? l1 port2).bind λx36 =>
 (cond (!x36.2.2.1)
 (some true)
 ((ep id0 l1 port2).bind λt44 =>
 (at? l1 port2).bind λx47 =>
 (eo t44 x47.2.2.2).bind λt50 =>
 some t50)).bind λt51 =>
 cond t51 (some 2) (some 3)))
def gE:FL:=(325,⟨[.val false oJ false,.val false (.one (.sl qy)) false,.val false oJ false],[.val false oJ (some true)],λa=>de a.1 a.2.1 a.2.2⟩)::gD
theorem lu:Gd gE:=oM ls 325 Tryz.f325 [] Tryz.func325
def dg (id0:Int) (l1:List Pt) (n5:Int) (i6:Int):Option ((Int×Int)⊕Int) :=
 (cond (decide (i6<(l1.length:Int))) (some (decide (i6<6))) (some false)).bind λt14 =>
 cond t14
 ((de id0 l1 i6).bind λt20 =>
 cond (decide (t20<=2))
 ((shl .i64 1 (IntKind.u64.wrap (i6))).bind λt25 =>
 some (.inl (zS .i64 n5 t25,oB (i6+1))))
 (some (.inl (n5,oB (i6+1)))))
 (some (.inr n5))
def eq (id0:Int) (l1:List Pt):Option Int :=
 (loop (λz=>dg id0 l1 z.1 z.2) (0,0)).bind λd =>
 some d
def gF:FL:=(255,⟨[.val false oJ false,.val false (.one (.sl qy)) false],[.val false oJ (some true)],λa=>eq a.1 a.2⟩)::gE
theorem lv:Gd gF:=oM lu 255 Tryz.f255 [(0,⟨⟨[(5,false,[dI]),(6,false,[dI]),(12,false,[.undef]),(13,false,[.undef])],[]⟩,
 ⟨[(5,false,[dI])],[]⟩,none⟩)] Tryz.func255
def es (n0:Int) (port1:Int):Option Bool :=
 (af port1 0 7).bind λt6 =>
 (cond t6
 ((shr .i64 n0 (IntKind.u64.wrap (port1))).bind λt11 =>
 some ((rJ .i64 t11 1)==1))
 (some false)).bind λt14 =>
 some t14
def gG:FL:=(257,⟨[.val false oJ false,.val false oJ false],[.val false pC (some true)],λa=>es a.1 a.2⟩)::gF
theorem lw:Gd gG:=oM lv 257 Tryz.f257 [] Tryz.func257
def ch (l0:List oG) (port1:Int) (i6:Int) (out5:List oG):Option ((Int×List oG)⊕(List oG)) :=
 cond (decide (i6<(l0.length:Int)))
 ((at? l0 i6).bind λx16 =>
 (cond x16.2.2.2.2
 (some true)
 ((at? l0 i6).bind λx22 =>
 some (x22.2.2.1 != port1))).bind λt27 =>
 cond t27
 ((at? l0 i6).bind λx31 =>
 (oX out5 [x31]).bind λzs34 =>
 some (.inl (oB (i6+1),zs34)))
 (some (.inl (oB (i6+1),out5))))
 (some (.inr out5))
def et (l0:List oG) (port1:Int):Option (List oG) :=
 (loop (λz=>ch l0 port1 z.1 z.2) (0,([]:List oG))).bind λd =>
 some d
def gH:FL:=(342,⟨[.val false (.one (.sl p3)) false,.val false oJ false],[.val false (.one (.sl p3)) (some true)],λa=>et a.1 a.2⟩)::gG
theorem lz:Gd gH:=oM lw 342 Tryz.f342 [(0,⟨⟨(5,false,[.own 1000000000])::(6,false,[dI])::us 20 7 [],[(1000000000,.root p3 true)]⟩,
 ⟨[(5,false,[.own 1000000300])],[(1000000300,.root p3 true)]⟩,none⟩)] Tryz.func342
def eu (b0:oA) (t13:Int) (i4:Int) (b0_1:Int) (b1:List UInt8) (b6:Int) (b7:Int) (b8:Int) (b9:Int) (b10:Int) (b3:List oG):Option ((Int×Int×List UInt8×Int×Int×Int×Int×Int×List oG)⊕(Int×List UInt8×Int×Int×Int×Int×Int×List oG)) :=
 cond (decide (i4<(b0.2.2.1.length:Int)))
 ((es t13 i4).bind λt23 =>
 cond (!t23)
 ((et b3 i4).bind λt28 =>
 some (.inl (oB (i4+1),b0_1,b1,b6,b7,b8,b9,b10,t28)))
 (some (.inl (oB (i4+1),b0_1,b1,b6,b7,b8,b9,b10,b3))))
 (some (.inr (b0_1,b1,b6,b7,b8,b9,b10,b3)))
def ci (b0:oA):Option oA :=
 (em b0.2.2.2.2.2.2.2.2.2.2).bind λt7 =>
 (eq b0.1 b0.2.2.1).bind λt13 =>
 (loop (λz=>eu b0 t13 z.1 z.2.1 z.2.2.1 z.2.2.2.1 z.2.2.2.2.1 z.2.2.2.2.2.1 z.2.2.2.2.2.2.1 z.2.2.2.2.2.2.2.1 z.2.2.2.2.2.2.2.2) (0,b0.1,b0.2.1,b0.2.2.2.2.2.2.1,b0.2.2.2.2.2.2.2.1,b0.2.2.2.2.2.2.2.2.1,b0.2.2.2.2.2.2.2.2.2.1,t7,b0.2.2.2.1)).bind λd =>
 some (d.1,d.2.1,b0.2.2.1,d.2.2.2.2.2.2.2,b0.2.2.2.2.1,b0.2.2.2.2.2.1,d.2.2.1,d.2.2.2.1,d.2.2.2.2.1,d.2.2.2.2.2.1,d.2.2.2.2.2.2.1)
def gI:FL:=(291,⟨[.val true oV true],[.val true oV (some true)],λa=>ci a⟩)::gH
theorem lA:Gd gI:=oM lz 291 Tryz.f291 [(0,⟨⟨[(4,false,[dI])],[(1024,.box [dI,dS,.same 3,.own 1000000000,.same 5,.same 6,dI,dI,dI,dI,dI]),(1000000000,.root p3 true)]⟩,
 ⟨[],[(1024,.box [dI,dS,.same 3,.own 1000000300,.same 5,.same 6,dI,dI,dI,dI,dI]),(1000000300,.root p3 true)]⟩,none⟩)] Tryz.func291
def dh (p0:oA) (i1:List oC) (t8:Int) (t9:Int) (b0_2:Int) (b1_2:List UInt8) (b6_2:Int) (b7_2:Int) (b8_2:Int) (b9_2:Int) (b10_2:Int):Option ((Int×Int×List UInt8×Int×Int×Int×Int×Int)⊕((Int×List UInt8×Int×Int×Int×Int×Int)⊕(Int×Int×Int×List UInt8×Int×Int×Int×Int×Int×List Pt×List oG×List oO×List Int))) :=
 cond (decide (t9<t8))
 ((at? i1 t9).bind λx36 =>
 (at? i1 t8).bind λx41 =>
 (bH x36.1 x41.1).bind λt44 =>
 cond t44
 ((aE p0).bind λt46 =>
 some (.inr (.inr (5,oB (t8+1),t46.1,t46.2.1,t46.2.2.2.2.2.2.1,t46.2.2.2.2.2.2.2.1,t46.2.2.2.2.2.2.2.2.1,t46.2.2.2.2.2.2.2.2.2.1,t46.2.2.2.2.2.2.2.2.2.2,t46.2.2.1,t46.2.2.2.1,t46.2.2.2.2.1,t46.2.2.2.2.2.1))))
 (some (.inl (oB (t9+1),b0_2,b1_2,b6_2,b7_2,b8_2,b9_2,b10_2))))
 (some (.inr (.inl (b0_2,b1_2,b6_2,b7_2,b8_2,b9_2,b10_2))))
def ev (p0:oA) (i1:List oC) (t8:Int) (b0:Int) (b1:List UInt8) (b6:Int) (b7:Int) (b8:Int) (b9:Int) (b10:Int) (b0_1:Int) (b1_1:List UInt8) (b6_1:Int) (b7_1:Int) (b8_1:Int) (b9_1:Int) (b10_1:Int) (b2:List Pt) (b3:List oG) (b4:List oO) (b5:List Int) (b2_1:List Pt) (b3_1:List oG) (b4_1:List oO) (b5_1:List Int):Option ((Int×Int×List UInt8×Int×Int×Int×Int×Int×Int×List UInt8×Int×Int×Int×Int×Int×List Pt×List oG×List oO×List Int×List Pt×List oG×List oO×List Int)⊕((Int×List UInt8×Int×Int×Int×Int×Int×Int×List UInt8×Int×Int×Int×Int×Int×List Pt×List oG×List oO×List Int×List Pt×List oG×List oO×List Int)⊕(Int×Int×Int×List UInt8×Int×Int×Int×Int×Int×List Pt×List oG×List oO×List Int))) :=
 cond (decide (t8<(i1.length:Int)))
 ((loop (λz=>dh p0 i1 t8 z.1 z.2.1 z.2.2.1 z.2.2.2.1 z.2.2.2.2.1 z.2.2.2.2.2.1 z.2.2.2.2.2.2.1 z.2.2.2.2.2.2.2) (0,b0,b1,b6,b7,b8,b9,b10)).bind (Sum.elim (λd =>
 (at? i1 t8).bind λx53 =>
 (d8 (b0_1,b1_1,b2_1,b3_1,b4_1,b5_1,b6_1,b7_1,b8_1,b9_1,b10_1) x53).bind λt55 =>
 cond (t55.2 != 0)
 ((aE p0).bind λt61 =>
 some (.inr (.inr (t55.2,oB (t8+1),t61.1,t61.2.1,t61.2.2.2.2.2.2.1,t61.2.2.2.2.2.2.2.1,t61.2.2.2.2.2.2.2.2.1,t61.2.2.2.2.2.2.2.2.2.1,t61.2.2.2.2.2.2.2.2.2.2,t61.2.2.1,t61.2.2.2.1,t61.2.2.2.2.1,t61.2.2.2.2.2.1))))
 (some (.inl (oB (t8+1),d.1,d.2.1,d.2.2.1,d.2.2.2.1,d.2.2.2.2.1,d.2.2.2.2.2.1,d.2.2.2.2.2.2,t55.1.1,t55.1.2.1,t55.1.2.2.2.2.2.2.1,t55.1.2.2.2.2.2.2.2.1,t55.1.2.2.2.2.2.2.2.2.1,t55.1.2.2.2.2.2.2.2.2.2.1,t55.1.2.2.2.2.2.2.2.2.2.2,b2,b3,b4,b5,t55.1.2.2.1,t55.1.2.2.2.1,t55.1.2.2.2.2.1,t55.1.2.2.2.2.2.1)))) (λr=>some (.inr (.inr r)))))
 (some (.inr (.inl (b0,b1,b6,b7,b8,b9,b10,b0_1,b1_1,b6_1,b7_1,b8_1,b9_1,b10_1,b2,b3,b4,b5,b2_1,b3_1,b4_1,b5_1))))
def ez (p0:oA) (i1:List oC):Option (oA×Int×Int) :=
 (aE p0).bind λt13 =>
 (cj p0).bind λt15 =>
 (cond (!t15) (some (decide ((i1.length:Int)>0))) (some false)).bind λt21 =>
 cond t21
 (some (t13,3,1))
 ((loop (λz=>ev p0 i1 z.1 z.2.1 z.2.2.1 z.2.2.2.1 z.2.2.2.2.1 z.2.2.2.2.2.1 z.2.2.2.2.2.2.1 z.2.2.2.2.2.2.2.1 z.2.2.2.2.2.2.2.2.1 z.2.2.2.2.2.2.2.2.2.1 z.2.2.2.2.2.2.2.2.2.2.1 z.2.2.2.2.2.2.2.2.2.2.2.1 z.2.2.2.2.2.2.2.2.2.2.2.2.1 z.2.2.2.2.2.2.2.2.2.2.2.2.2.1 z.2.2.2.2.2.2.2.2.2.2.2.2.2.2.1 z.2.2.2.2.2.2.2.2.2.2.2.2.2.2.2.1 z.2.2.2.2.2.2.2.2.2.2.2.2.2.2.2.2.1 z.2.2.2.2.2.2.2.2.2.2.2.2.2.2.2.2.2.1 z.2.2.2.2.2.2.2.2.2.2.2.2.2.2.2.2.2.2.1 z.2.2.2.2.2.2.2.2.2.2.2.2.2.2.2.2.2.2.2.1 z.2.2.2.2.2.2.2.2.2.2.2.2.2.2.2.2.2.2.2.2.1 z.2.2.2.2.2.2.2.2.2.2.2.2.2.2.2.2.2.2.2.2.2.1 z.2.2.2.2.2.2.2.2.2.2.2.2.2.2.2.2.2.2.2.2.2.2) (0,0,[],0,0,0,0,0,t13.1,t13.2.1,t13.2.2.2.2.2.2.1,t13.2.2.2.2.2.2.2.1,t13.2.2.2.2.2.2.2.2.1,t13.2.2.2.2.2.2.2.2.2.1,t13.2.2.2.2.2.2.2.2.2.2,[],[],[],[],t13.2.2.1,t13.2.2.2.1,t13.2.2.2.2.1,t13.2.2.2.2.2.1)).bind (Sum.elim (λd_1 =>
 cond ((i1.length:Int)==0)
 (some ((d_1.2.2.2.2.2.2.2.1,d_1.2.2.2.2.2.2.2.2.1,d_1.2.2.2.2.2.2.2.2.2.2.2.2.2.2.2.2.2.2.1,d_1.2.2.2.2.2.2.2.2.2.2.2.2.2.2.2.2.2.2.2.1,d_1.2.2.2.2.2.2.2.2.2.2.2.2.2.2.2.2.2.2.2.2.1,d_1.2.2.2.2.2.2.2.2.2.2.2.2.2.2.2.2.2.2.2.2.2,d_1.2.2.2.2.2.2.2.2.2.1,d_1.2.2.2.2.2.2.2.2.2.2.1,d_1.2.2.2.2.2.2.2.2.2.2.2.1,d_1.2.2.2.2.2.2.2.2.2.2.2.2.1,d_1.2.2.2.2.2.2.2.2.2.2.2.2.2.1),0,0))
 ((aF d_1.2.2.2.2.2.2.2.2.2.2.2.2.2.2.2.2.2.2.2.2 (d_1.2.2.2.2.2.2.2.2.2.2.2.2.2.2.2.2.2.2.1.length:Int)).bind λt75 =>
 cond (!t75)
 ((aE p0).bind λt78 =>
 some (t78,5,(i1.length:Int)))
 ((ci (d_1.2.2.2.2.2.2.2.1,d_1.2.2.2.2.2.2.2.2.1,d_1.2.2.2.2.2.2.2.2.2.2.2.2.2.2.2.2.2.2.1,d_1.2.2.2.2.2.2.2.2.2.2.2.2.2.2.2.2.2.2.2.1,d_1.2.2.2.2.2.2.2.2.2.2.2.2.2.2.2.2.2.2.2.2.1,d_1.2.2.2.2.2.2.2.2.2.2.2.2.2.2.2.2.2.2.2.2.2,d_1.2.2.2.2.2.2.2.2.2.1,d_1.2.2.2.2.2.2.2.2.2.2.1,d_1.2.2.2.2.2.2.2.2.2.2.2.1,d_1.2.2.2.2.2.2.2.2.2.2.2.2.1,d_1.2.2.2.2.2.2.2.2.2.2.2.2.2.1)).bind λt82 =>
 some (t82,0,0)))) (λr_1=>some ((r_1.2.2.1,r_1.2.2.2.1,r_1.2.2.2.2.2.2.2.2.2.1,r_1.2.2.2.2.2.2.2.2.2.2.1,r_1.2.2.2.2.2.2.2.2.2.2.2.1,r_1.2.2.2.2.2.2.2.2.2.2.2.2,r_1.2.2.2.2.1,r_1.2.2.2.2.2.1,r_1.2.2.2.2.2.2.1,r_1.2.2.2.2.2.2.2.1,r_1.2.2.2.2.2.2.2.2.1),r_1.1,r_1.2.1))))
def gJ:FL:=(177,⟨[.val true oV false,.val false (.one (.sl oK)) false],[.val true oV (some true),.val false oJ (some true),.val false oJ (some true)],λa=>ez a.1 a.2⟩)::gI
theorem lB:Gd gJ:=oM lA 177 Tryz.f177 [(0,⟨⟨[(8,false,[dI])],[(2048,.box [dI,dS,.own 1000000000,.own 1000000001,.own 1000000002,.own 1000000003,dI,dI,dI,dI,dI]),(265216,.box [dI,dS,.own 1000000004,.own 1000000005,.own 1000000006,.own 1000000007,dI,dI,dI,dI,dI]),(1000000000,.root qy true),(1000000001,.root p3 true),(1000000002,.root pu true),(1000000003,.root oJ true),(1000000004,.root qy true),(1000000005,.root p3 true),(1000000006,.root pu true),(1000000007,.root oJ true)]⟩,
 ⟨[],[(2048,.box [dI,dS,.own 1000000300,.own 1000000301,.own 1000000302,.own 1000000303,dI,dI,dI,dI,dI]),(265216,.box [dI,dS,.own 1000000304,.own 1000000305,.own 1000000306,.own 1000000307,dI,dI,dI,dI,dI]),(1000000300,.root qy true),(1000000301,.root p3 true),(1000000302,.root pu true),(1000000303,.root oJ true),(1000000304,.root qy true),(1000000305,.root p3 true),(1000000306,.root pu true),(1000000307,.root oJ true)]⟩,some ⟨[(5,false,[dI]),(6,false,[dI])],[(2048,.box [dI,dS,.own 1000000600,.own 1000000601,.own 1000000602,.own 1000000603,dI,dI,dI,dI,dI]),(1000000600,.root qy true),(1000000601,.root p3 true),(1000000602,.root pu true),(1000000603,.root oJ true)]⟩⟩),
 (2,⟨⟨[(9,false,[dI])],[(2048,.box [dI,dS,.same 1000000000,.same 1000000001,.same 1000000002,.same 1000000003,dI,dI,dI,dI,dI])]⟩,
 ⟨[],[(2048,.box [dI,dS,.same 1000000000,.same 1000000001,.same 1000000002,.same 1000000003,dI,dI,dI,dI,dI])]⟩,some ⟨[(5,false,[dI]),(6,false,[dI])],[(2048,.box [dI,dS,.own 1000002600,.own 1000002601,.own 1000002602,.own 1000002603,dI,dI,dI,dI,dI]),(1000002600,.root qy true),(1000002601,.root p3 true),(1000002602,.root pu true),(1000002603,.root oJ true)]⟩⟩)] Tryz.func177
def eA (b0:oA) (p1:p7):Option (oA×p7) :=
 (d6 p1.2.2.2.2).bind λt14 =>
 (ez b0 p1.2.2.2.2).bind λt20 =>
 (bG (162,p1.2.1,t20.2.1,t20.2.2,t14)).bind λt29 =>
 (cond (!t29) (some true) (some (t20.2.1 != 0))).bind λt34 =>
 cond t34
 ((aE b0).bind λt36 =>
 (cg (162,p1.2.1,t20.2.1,t20.2.2,t14) false).bind λt38 =>
 some (t36,t38))
 (some (t20.1,(162,p1.2.1,t20.2.1,t20.2.2,t14)))
def gK:FL:=(84,⟨[.val true oV false,.val true qT false],[.val true oV (some true),.val true qT (some true)],λa=>eA a.1 a.2⟩)::gJ
theorem lC:Gd gK:=oM lB 84 Tryz.f84 [] Tryz.func84
def ac (l0:List Int):Option (List Int) :=
 (oX ([1,3,1]:List Int) l0).bind λzs5 =>
 some zs5
def gL:FL:=(274,⟨[.val false qx false],[.val false qx (some true)],λa=>ac a⟩)::gK
theorem lD:Gd gL:=oM lC 274 Tryz.f274 [] Tryz.func274
def ai (n0:Int):Option rm :=
 some (2,n0,[],[])
def gM:FL:=(197,⟨[.val false oJ false],[.val true sR (some true)],λa=>ai a⟩)::gL
theorem lE:Gd gM:=oM lD 197 Tryz.f197 [] Tryz.func197
def aj (out0:List oC) (name1:List Int) (n2:Int):Option (List oC) :=
 (ac name1).bind λt9 =>
 (ai n2).bind λt11 =>
 (oX out0 [(t9,t11.1,t11.2.1,t11.2.2.1,t11.2.2.2)]).bind λzs14 =>
 some zs14
def gN:FL:=(332,⟨[.val false (.one (.sl oK)) true,.val false qx false,.val false oJ false],[.val false (.one (.sl oK)) (some true)],λa=>aj a.1 a.2.1 a.2.2⟩)::gM
theorem lF:Gd gN:=oM lE 332 Tryz.f332 [] Tryz.func332
def eB (b0:oA) (c1:Int) (p2:Int):Option Int :=
 cond (c1==1)
 ((at? b0.2.2.1 p2).bind λx13 =>
 cond x13.1 (some 1) (some 0))
 (cond (c1==2)
 ((at? b0.2.2.1 p2).bind λx21 =>
 some x21.2.1)
 (cond (c1==3)
 ((de b0.1 b0.2.2.1 p2).bind λt31 =>
 some t31)
 ((at? b0.2.2.2.2.2.1 p2).bind λx36 =>
 some x36)))
def gO:FL:=(333,⟨[.val true oV false,.val false oJ false,.val false oJ false],[.val false oJ (some true)],λa=>eB a.1 a.2.1 a.2.2⟩)::gN
theorem lG:Gd gO:=oM lF 333 Tryz.f333 [] Tryz.func333
def fC (r0:oO) (c1:Int):Option Int :=
 cond (c1==1) (some 1) (cond (c1==2) (some r0.2.1) (some r0.2.2))
def gP:FL:=(334,⟨[.val true pu false,.val false oJ false],[.val false oJ (some true)],λa=>fC a.1 a.2⟩)::gO
theorem lH:Gd gP:=oM lG 334 Tryz.f334 [] Tryz.func334
def fD (p0:oA) (t4:Int) (t5:Int) (t3_1:List oC):Option ((Int×List oC)⊕(List oC)) :=
 cond (decide (t5<(p0.2.2.1.length:Int)))
 ((eB p0 t4 t5).bind λt59 =>
 (aj t3_1 [2,t4,oB (t5+1)] t59).bind λt60 =>
 some (.inl (oB (t5+1),t60)))
 (some (.inr t3_1))
def fE (p0:oA) (t4:Int) (t3:List oC):Option ((Int×List oC)⊕(List oC)) :=
 cond (decide (t4<=4))
 ((loop (λz=>fD p0 t4 z.1 z.2) (0,t3)).bind λd =>
 some (.inl (oB (t4+1),d)))
 (some (.inr t3))
def fF (p0:oA) (t6:Int) (t7:Int) (t3_5:List oC):Option ((Int×List oC)⊕(List oC)) :=
 cond (decide (t7<(p0.2.2.2.2.1.length:Int)))
 ((at? p0.2.2.2.2.1 t7).bind λx79 =>
 (at? p0.2.2.2.2.1 t7).bind λx87 =>
 (fC x87 t6).bind λt90 =>
 (aj t3_5 [3,t6,x79.1] t90).bind λt91 =>
 some (.inl (oB (t7+1),t91)))
 (some (.inr t3_5))
def dj (p0:oA) (t6:Int) (t3_4:List oC):Option ((Int×List oC)⊕(List oC)) :=
 cond (decide (t6<=3))
 ((loop (λz=>fF p0 t6 z.1 z.2) (0,t3_4)).bind λd_2 =>
 some (.inl (oB (t6+1),d_2)))
 (some (.inr t3_4))
def fG (p0:oA) (t8:Int) (t3_8:List oC):Option ((Int×List oC)⊕(List oC)) :=
 cond (decide (t8<(p0.2.2.2.1.length:Int)))
 ((at? p0.2.2.2.1 t8).bind λx103 =>
 (at? p0.2.2.2.1 t8).bind λx109 =>
 (at? p0.2.2.2.1 t8).bind λx116 =>
 (aj t3_8 [4,1,x103.1,x109.2.1] (oB (x116.2.2.1+1))).bind λt120 =>
 some (.inl (oB (t8+1),t120)))
 (some (.inr t3_8))
def bI (p0:oA):Option (List oC) :=
 (cj p0).bind λt10 =>
 cond (!t10)
 (some ([]:List oC))
 ((ac ([1,1]:List Int)).bind λt14 =>
 (aj ([(t14,4,0,p0.2.1,[])]) ([1,2]:List Int) p0.2.2.2.2.2.2.1).bind λt24 =>
 (aj t24 ([1,3]:List Int) p0.2.2.2.2.2.2.2.1).bind λt29 =>
 (aj t29 ([1,4]:List Int) p0.2.2.2.2.2.2.2.2.1).bind λt34 =>
 (aj t34 ([1,5]:List Int) p0.2.2.2.2.2.2.2.2.2.1).bind λt39 =>
 (loop (λz=>fE p0 z.1 z.2) (1,t39)).bind λd_1 =>
 (loop (λz=>dj p0 z.1 z.2) (1,d_1)).bind λd_3 =>
 (loop (λz=>fG p0 z.1 z.2) (0,d_3)).bind λd_4 =>
 some d_4)
def gQ:FL:=(273,⟨[.val true oV false],[.val false (.one (.sl oK)) (some true)],λa=>bI a⟩)::gP
theorem lI:Gd gQ:=oM lH 273 Tryz.f273 [(0,⟨⟨[(3,false,[.own 1000000000]),(4,false,[dI])],[(1000000000,.root oK true)]⟩,
 ⟨[(3,false,[.own 1000000300])],[(1000000300,.root oK true)]⟩,none⟩),
 (2,⟨⟨[(3,false,[.own 1000002000]),(5,false,[dI])],[(1000002000,.root oK true)]⟩,
 ⟨[(3,false,[.own 1000002300])],[(1000002300,.root oK true)]⟩,none⟩),
 (4,⟨⟨[(3,false,[.own 1000004000]),(6,false,[dI])],[(1000004000,.root oK true)]⟩,
 ⟨[(3,false,[.own 1000004300])],[(1000004300,.root oK true)]⟩,none⟩),
 (6,⟨⟨[(3,false,[.own 1000006000]),(7,false,[dI])],[(1000006000,.root oK true)]⟩,
 ⟨[(3,false,[.own 1000006300])],[(1000006300,.root oK true)]⟩,none⟩),
 (8,⟨⟨[(3,false,[.own 1000008000]),(8,false,[dI])],[(1000008000,.root oK true)]⟩,
 ⟨[(3,false,[.own 1000008300])],[(1000008300,.root oK true)]⟩,none⟩)] Tryz.func273
def lJ (a0:List Int) (b1:List Int) (i5:Int):Option (Int⊕(Unit⊕Bool)) :=
 (cond (decide (i5<(a0.length:Int))) (some (decide (i5<(b1.length:Int)))) (some false)).bind λt15 =>
 cond t15
 ((at? a0 i5).bind λx20 =>
 (at? b1 i5).bind λx24 =>
 cond (x20 != x24)
 ((at? a0 i5).bind λx29 =>
 (at? b1 i5).bind λx33 =>
 some (.inr (.inr (decide (x29<x33)))))
 (some (.inl (oB (i5+1)))))
 (some (.inr (.inl ())))
def fH (a0:List Int) (b1:List Int):Option Bool :=
 (loop (λz=>lJ a0 b1 z) 0).bind (Sum.elim (λd =>
 let t4:=decide ((a0.length:Int)<(b1.length:Int))
 some t4) (λr=>some r))
def gR:FL:=(343,⟨[.val false qx false,.val false qx false],[.val false pC (some true)],λa=>fH a.1 a.2⟩)::gQ
theorem lK:Gd gR:=oM lI 343 Tryz.f343 [(0,⟨⟨(5,false,[dI])::us 11 4 [],[]⟩,
 ⟨[],[]⟩,some ⟨[(4,false,[dB])],[]⟩⟩)] Tryz.func343
def fJ (o1:List Int) (t8:List oC) (i6:Int) (b1:Int) (b2:Int) (b3:List UInt8) (b0_1:List Int) (b4:List Int):Option ((Int×Int×Int×List UInt8×List Int×List Int)⊕((Int×Int×List UInt8×List Int×List Int)⊕(List Int×Int×Int×List UInt8×List Int))) :=
 cond (decide (i6<(t8.length:Int)))
 ((ix t8.length i6).bind λj18 =>
 (t8[j18]?).bind λx20 =>
 (fH o1 x20.1).bind λt21 =>
 cond t21
 ((ix t8.length i6).bind λj24 =>
 (t8[j24]?).bind λx25 =>
 some (.inr (.inr x25)))
 (some (.inl (oB (i6+1),b1,b2,b3,b0_1,b4))))
 (some (.inr (.inl (b1,b2,b3,b0_1,b4))))
def eC (b0:oA) (o1:List Int):Option oC :=
 (bI b0).bind λt8 =>
 (loop (λz=>fJ o1 t8 z.1 z.2.1 z.2.2.1 z.2.2.2.1 z.2.2.2.2.1 z.2.2.2.2.2) (0,0,0,[],[],[])).bind (Sum.elim (λd =>
 (oX ([]:List Int) o1).bind λzs28 =>
 some (zs28,130,0,[],[])) (λr=>some r))
def gS:FL:=(292,⟨[.val true oV false,.val false qx false],[.val true oK none],λa=>eC a.1 a.2⟩)::gR
theorem lL:Gd gS:=oM lK 292 Tryz.f292 [(0,⟨⟨[(6,false,[dI])],[(2048,.box [.own 1000000000,dI,dI,dS,.own 1000000001]),(1000000000,.root oJ true),(1000000001,.root oJ true)]⟩,
 ⟨[],[(2048,.box [.own 1000000300,dI,dI,dS,.own 1000000301]),(1000000300,.root oJ true),(1000000301,.root oJ true)]⟩,some ⟨[],[(2048,.box [.dat (.sl oJ),dI,dI,dS,.dat (.sl oJ)])]⟩⟩)] Tryz.func292
def dk (b0:oA) (from1:List oC) (i6:Int) (out5:List oC):Option ((Int×List oC)⊕(List oC)) :=
 cond (decide (i6<(from1.length:Int)))
 ((at? from1 i6).bind λx16 =>
 cond (x16.2.1==130)
 ((at? from1 i6).bind λx24 =>
 (oX out5 [x24]).bind λzs27 =>
 some (.inl (oB (i6+1),zs27)))
 ((at? from1 i6).bind λx32 =>
 (eC b0 x32.1).bind λt35 =>
 (oX out5 [t35]).bind λzs37 =>
 some (.inl (oB (i6+1),zs37))))
 (some (.inr out5))
def aS (b0:oA) (from1:List oC):Option (List oC) :=
 (loop (λz=>dk b0 from1 z.1 z.2) (0,([]:List oC))).bind λd =>
 some d
def gT:FL:=(178,⟨[.val true oV false,.val false (.one (.sl oK)) false],[.val false (.one (.sl oK)) (some false)],λa=>aS a.1 a.2⟩)::gS
theorem lM:Gd gT:=oM lL 178 Tryz.f178 [(0,⟨⟨[(5,false,[.own 1000000000]),(6,false,[dI])],[(1000000000,.root oK false)]⟩,
 ⟨[(5,false,[.own 1000000300])],[(1000000300,.root oK false)]⟩,none⟩)] Tryz.func178
def dl (l0:List oC) (i4:Int) (out3:List oC):Option ((Int×List oC)⊕(List oC)) :=
 cond (decide (i4<(l0.length:Int)))
 ((at? l0 i4).bind λx15 =>
 (oX out3 ([(x15.1,5,0,[],[])])).bind λzs21 =>
 some (.inl (oB (i4+1),zs21)))
 (some (.inr out3))
def bJ (l0:List oC):Option (List oC) :=
 (loop (λz=>dl l0 z.1 z.2) (0,([]:List oC))).bind λd =>
 some d
def gU:FL:=(179,⟨[.val false (.one (.sl oK)) false],[.val false (.one (.sl oK)) (some false)],λa=>bJ a⟩)::gT
theorem lN:Gd gU:=oM lM 179 Tryz.f179 [(0,⟨⟨[(3,false,[.own 1000000000]),(4,false,[dI])],[(1000000000,.root oK false)]⟩,
 ⟨[(3,false,[.own 1000000300])],[(1000000300,.root oK false)]⟩,none⟩)] Tryz.func179
def aZ (b0:oA) (p1:p7) (told8:List oC) (i9:Int) (out7:List oC):Option ((List oC×Int×List oC)⊕(List oC)) :=
 (cond (decide (i9<p1.2.2.2.1)) (some (decide ((told8.length:Int)>0))) (some false)).bind λt39 =>
 (cond t39 (some (decide ((out7.length:Int)<10))) (some false)).bind λt44 =>
 cond t44
 ((aS b0 told8).bind λt49 =>
 (oX out7 t49).bind λzs52 =>
 some (.inl (t49,oB (i9+1),zs52)))
 (some (.inr out7))
def lO (b0:oA) (p1:p7) (told8_1:List oC) (i9_1:Int) (out7_2:List oC):Option ((List oC×Int×List oC)⊕(List oC)) :=
 (cond (decide (i9_1<p1.2.2.2.1)) (some (decide ((told8_1.length:Int)>0))) (some false)).bind λt39_1 =>
 (cond t39_1 (some (decide ((out7_2.length:Int)<10))) (some false)).bind λt44_1 =>
 cond t44_1
 ((aS b0 told8_1).bind λt49_1 =>
 (oX out7_2 t49_1).bind λzs52_1 =>
 some (.inl (t49_1,oB (i9_1+1),zs52_1)))
 (some (.inr out7_2))
def eD (b0:oA) (p1:p7):Option (List oC) :=
 cond (decide (p1.2.2.1>(p1.2.2.2.2.length:Int)))
 (let k5:=(p1.2.2.2.2.length:Int)
 (bJ p1.2.2.2.2).bind λt22 =>
 (rX t22.length 0 k5).bind λp =>
 (aS b0 ((t22.take p.2).drop p.1)).bind λt27 =>
 (cut t22 k5 (t22.length:Int)).bind λt30 =>
 (loop (λz=>aZ b0 p1 z.1 z.2.1 z.2.2) (t30,0,t27)).bind λd =>
 cond (decide ((d.length:Int)>10))
 ((rX d.length 0 10).bind λp_1 =>
 some ((d.take p_1.2).drop p_1.1))
 (some d))
 ((bJ p1.2.2.2.2).bind λt22_1 =>
 (rX t22_1.length 0 p1.2.2.1).bind λp_2 =>
 (aS b0 ((t22_1.take p_2.2).drop p_2.1)).bind λt27_1 =>
 (cut t22_1 p1.2.2.1 (t22_1.length:Int)).bind λt30_1 =>
 (loop (λz=>lO b0 p1 z.1 z.2.1 z.2.2) (t30_1,0,t27_1)).bind λd_1 =>
 cond (decide ((d_1.length:Int)>10))
 ((rX d_1.length 0 10).bind λp_3 =>
 some ((d_1.take p_3.2).drop p_3.1))
 (some d_1))
def gV:FL:=(180,⟨[.val true oV false,.val true qT false],[.val false (.one (.sl oK)) (some false)],λa=>eD a.1 a.2⟩)::gU
theorem lP:Gd gV:=oM lN 180 Tryz.f180 [(0,⟨⟨(7,false,[.own 1000000000])::(8,false,[.dat (.sl oK)])::(9,false,[dI])::us 36 3 (us 41 3 []),[(1000000000,.root oK false)]⟩,
 ⟨[(7,false,[.own 1000000300])],[(1000000300,.root oK false)]⟩,none⟩)] Tryz.func180
def fK (o1:List Int) (t8:List oC) (i6:Int) (b0_1:Int) (b1:Int) (b2:List UInt8) (b3:List Int):Option ((Int×Int×Int×List UInt8×List Int)⊕((Int×Int×List UInt8×List Int)⊕(Int×Int×List UInt8×List Int))) :=
 cond (decide (i6<(t8.length:Int)))
 ((ix t8.length i6).bind λj17 =>
 (t8[j17]?).bind λx19 =>
 (bH x19.1 o1).bind λt21 =>
 cond t21
 ((ix t8.length i6).bind λj24 =>
 (t8[j24]?).bind λx26 =>
 some (.inr (.inr x26.2)))
 (some (.inl (oB (i6+1),b0_1,b1,b2,b3))))
 (some (.inr (.inl (b0_1,b1,b2,b3))))
def eE (b0:oA) (o1:List Int):Option rm :=
 (bI b0).bind λt8 =>
 (loop (λz=>fK o1 t8 z.1 z.2.1 z.2.2.1 z.2.2.2.1 z.2.2.2.2) (0,0,0,[],[])).bind (Sum.elim (λd =>
 some (128,0,[],[])) (λr=>some r))
def gW:FL:=(181,⟨[.val true oV false,.val false qx false],[.val true sR none],λa=>eE a.1 a.2⟩)::gV
theorem lQ:Gd gW:=oM lP 181 Tryz.f181 [(0,⟨⟨[(6,false,[dI])],[(2048,.box [dI,dI,dS,.own 1000000000]),(1000000000,.root oJ true)]⟩,
 ⟨[],[(2048,.box [dI,dI,dS,.own 1000000300]),(1000000300,.root oJ true)]⟩,some ⟨[],[(2048,.box [dI,dI,dS,.dat (.sl oJ)])]⟩⟩)] Tryz.func181
def ck (b0:oA) (p1:p7) (i6:Int) (out5:List oC):Option ((Int×List oC)⊕(List oC)) :=
 cond (decide (i6<(p1.2.2.2.2.length:Int)))
 ((at? p1.2.2.2.2 i6).bind λx34 =>
 (oX ([]:List Int) x34.1).bind λzs37 =>
 (at? p1.2.2.2.2 i6).bind λx42 =>
 (eE b0 x42.1).bind λt45 =>
 (oX out5 [(zs37,t45.1,t45.2.1,t45.2.2.1,t45.2.2.2)]).bind λzs48 =>
 some (.inl (oB (i6+1),zs48)))
 (some (.inr out5))
def eF (b0:oA) (p1:p7):Option (List oC) :=
 cond (p1.1==161)
 ((bJ p1.2.2.2.2).bind λt14 =>
 (aS b0 t14).bind λt15 =>
 some t15)
 (cond (p1.1==165)
 ((eD b0 p1).bind λt20 =>
 some t20)
 ((loop (λz=>ck b0 p1 z.1 z.2) (0,([]:List oC))).bind λd =>
 some d))
def gX:FL:=(86,⟨[.val true oV false,.val true qT false],[.val false (.one (.sl oK)) (some false)],λa=>eF a.1 a.2⟩)::gW
theorem lR:Gd gX:=oM lQ 86 Tryz.f86 [(1,⟨⟨[(5,false,[.own 1000001000]),(6,false,[dI])],[(1000001000,.root oK false)]⟩,
 ⟨[(5,false,[.own 1000001300])],[(1000001300,.root oK false)]⟩,none⟩)] Tryz.func86
def eG (b0:oA) (p1:p7):Option (oA×p7×Bool) :=
 (fL b0 p1).bind λt12 =>
 cond (!t12)
 ((aE b0).bind λt15 =>
 some (t15,(0,0,0,0,[]),false))
 (cond (p1.1==163)
 ((eA b0 p1).bind λt23 =>
 some (t23.1,t23.2,true))
 ((eF b0 p1).bind λt32 =>
 (d6 t32).bind λt33 =>
 (aE b0).bind λt36 =>
 (cg (162,p1.2.1,0,0,t33) (p1.1==165)).bind λt41 =>
 some (t36,t41,true)))
def gY:FL:=(14,⟨[.val true oV false,.val true qT false],[.val true oV (some true),.val true qT (some true),.val false pC (some true)],λa=>eG a.1 a.2⟩)::gX
theorem lS:Gd gY:=oM lR 14 Tryz.f14 [] Tryz.func14
def cl (a0:List oC) (b1:List oC) (t13:Int):Option (Int⊕(Unit⊕Bool)) :=
 cond (decide (t13<(a0.length:Int)))
 ((at? a0 t13).bind λx18 =>
 (at? b1 t13).bind λx23 =>
 (au x18.1 x23.1).bind λt26 =>
 (cond (!t26)
 (some true)
 ((at? a0 t13).bind λx31 =>
 (at? b1 t13).bind λx36 =>
 (aA x31.2 x36.2).bind λt39 =>
 some (!t39))).bind λt41 =>
 cond t41 (some (.inr (.inr false))) (some (.inl (oB (t13+1)))))
 (some (.inr (.inl ())))
def eH (a0:List oC) (b1:List oC):Option Bool :=
 cond ((a0.length:Int) != (b1.length:Int))
 (some false)
 ((loop (λz=>cl a0 b1 z) 0).bind (Sum.elim (λd =>
 some true) (λr=>some r)))
def gZ:FL:=(88,⟨[.val false (.one (.sl oK)) false,.val false (.one (.sl oK)) false],[.val false pC (some true)],λa=>eH a.1 a.2⟩)::gY
theorem lT:Gd gZ:=oM lS 88 Tryz.f88 [(0,⟨⟨(13,false,[dI])::us 29 12 [],[]⟩,
 ⟨[],[]⟩,some ⟨[(4,false,[dB])],[]⟩⟩)] Tryz.func88
def eI (a0:p7) (b1:p7):Option Bool :=
 (cond (a0.1==b1.1) (some (a0.2.1==b1.2.1)) (some false)).bind λt16 =>
 (cond t16 (some (a0.2.2.1==b1.2.2.1)) (some false)).bind λt23 =>
 (cond t23 (some (a0.2.2.2.1==b1.2.2.2.1)) (some false)).bind λt30 =>
 (cond t30
 ((eH a0.2.2.2.2 b1.2.2.2.2).bind λt36 =>
 some t36)
 (some false)).bind λt37 =>
 some t37
def hC:FL:=(15,⟨[.val true qT false,.val true qT false],[.val false pC (some true)],λa=>eI a.1 a.2⟩)::gZ
theorem lU:Gd hC:=oM lT 15 Tryz.f15 [] Tryz.func15
def fM (a0:List oO) (b1:List oO) (t13:Int):Option (Int⊕(Unit⊕Bool)) :=
 cond (decide (t13<(a0.length:Int)))
 ((at? a0 t13).bind λx18 =>
 (at? b1 t13).bind λx22 =>
 cond (!(x18.1==x22.1&&(x18.2.1==x22.2.1&&(x18.2.2==x22.2.2)))) (some (.inr (.inr false))) (some (.inl (oB (t13+1)))))
 (some (.inr (.inl ())))
def eJ (a0:List oO) (b1:List oO):Option Bool :=
 cond ((a0.length:Int) != (b1.length:Int))
 (some false)
 ((loop (λz=>fM a0 b1 z) 0).bind (Sum.elim (λd =>
 some true) (λr=>some r)))
def hN:FL:=(89,⟨[.val false (.one (.sl pu)) false,.val false (.one (.sl pu)) false],[.val false pC (some true)],λa=>eJ a.1 a.2⟩)::hC
theorem lV:Gd hN:=oM lU 89 Tryz.f89 [(0,⟨⟨[(13,false,[dI])],[]⟩,
 ⟨[],[]⟩,some ⟨[(4,false,[dB])],[]⟩⟩)] Tryz.func89
def eK (p0:oA) (i1:oA) (t60:Int):Option (Int⊕(Unit⊕Bool)) :=
 cond (decide (t60<(p0.2.2.1.length:Int)))
 ((at? p0.2.2.1 t60).bind λx66 =>
 (at? i1.2.2.1 t60).bind λx71 =>
 cond (!(x66.1==x71.1&&(x66.2.1==x71.2.1&&(x66.2.2.1==x71.2.2.1&&(x66.2.2.2.1==x71.2.2.2.1&&(x66.2.2.2.2.1==x71.2.2.2.2.1&&(x66.2.2.2.2.2.1==x71.2.2.2.2.2.1&&(x66.2.2.2.2.2.2.1==x71.2.2.2.2.2.2.1&&(x66.2.2.2.2.2.2.2==x71.2.2.2.2.2.2.2))))))))) (some (.inr (.inr false))) (some (.inl (oB (t60+1)))))
 (some (.inr (.inl ())))
def eL (p0:oA) (i1:oA) (t78:Int):Option (Int⊕(Unit⊕Bool)) :=
 cond (decide (t78<(p0.2.2.2.1.length:Int)))
 ((at? p0.2.2.2.1 t78).bind λx84 =>
 (at? i1.2.2.2.1 t78).bind λx89 =>
 cond (!(x84.1==x89.1&&(x84.2.1==x89.2.1&&(x84.2.2.1==x89.2.2.1&&(x84.2.2.2.1==x89.2.2.2.1&&(x84.2.2.2.2==x89.2.2.2.2)))))) (some (.inr (.inr false))) (some (.inl (oB (t78+1)))))
 (some (.inr (.inl ())))
def dq (p0:oA) (i1:oA):Option Bool :=
 (cond (p0.1 != i1.1) (some true) (some (!(p0.2.1==i1.2.1)))).bind λt18 =>
 (cond t18
 (some true)
 (some ((p0.2.2.1.length:Int) != (i1.2.2.1.length:Int)))).bind λt27 =>
 (cond t27
 (some true)
 (some ((p0.2.2.2.1.length:Int) != (i1.2.2.2.1.length:Int)))).bind λt36 =>
 (cond t36
 (some true)
 ((eJ p0.2.2.2.2.1 i1.2.2.2.2.1).bind λt44 =>
 some (!t44))).bind λt46 =>
 (cond t46
 (some true)
 ((au p0.2.2.2.2.2.1 i1.2.2.2.2.2.1).bind λt54 =>
 some (!t54))).bind λt56 =>
 cond t56
 (some false)
 ((loop (λz=>eK p0 i1 z) 0).bind (Sum.elim (λd =>
 (loop (λz=>eL p0 i1 z) 0).bind (Sum.elim (λd_1 =>
 (cond (p0.2.2.2.2.2.2.1==i1.2.2.2.2.2.2.1) (some (p0.2.2.2.2.2.2.2.1==i1.2.2.2.2.2.2.2.1)) (some false)).bind λt104 =>
 (cond t104
 (some (p0.2.2.2.2.2.2.2.2.1==i1.2.2.2.2.2.2.2.2.1))
 (some false)).bind λt111 =>
 (cond t111
 (some (p0.2.2.2.2.2.2.2.2.2.1==i1.2.2.2.2.2.2.2.2.2.1))
 (some false)).bind λt118 =>
 (cond t118
 (some (p0.2.2.2.2.2.2.2.2.2.2==i1.2.2.2.2.2.2.2.2.2.2))
 (some false)).bind λt125 =>
 some t125) (λr=>some r))) (λr_1=>some r_1)))
def hP:FL:=(16,⟨[.val true oV false,.val true oV false],[.val false pC (some true)],λa=>dq a.1 a.2⟩)::hN
theorem lW:Gd hP:=oM lV 16 Tryz.f16 [(0,⟨⟨[(60,false,[dI])],[]⟩,
 ⟨[],[]⟩,some ⟨[(4,false,[dB])],[]⟩⟩),
 (2,⟨⟨[(78,false,[dI])],[]⟩,
 ⟨[],[]⟩,some ⟨[(4,false,[dB])],[]⟩⟩)] Tryz.func16
def bK (code0:List Int) (h3_1:Int) (i4:Int):Option ((Int×Int)⊕Int) :=
 (cond (decide (i4<(code0.length:Int))) (some (decide (i4<4000))) (some false)).bind λt15 =>
 cond t15
 ((at? code0 i4).bind λx22 =>
 let h3_2:=rJ .i64 (oB ((oB ((oB (h3_1*137))+(oB (x22))))+11)) 1073741823
 some (.inl (h3_2,oB (i4+1))))
 (some (.inr h3_1))
def dt (code0:List Int):Option oL :=
 let h3:=oB (762762+(code0.length:Int))
 (loop (λz=>bK code0 z.1 z.2) (h3,0)).bind λd =>
 some (code0,0,d)
def hU:FL:=(73,⟨[.val false rr false],[.ptr pK none],λa=>dt a⟩)::hP
theorem lX:Gd hU:=oM lW 73 Tryz.f73 [(0,⟨⟨[(3,false,[dI]),(4,false,[dI]),(13,false,[.undef]),(14,false,[.undef])],[]⟩,
 ⟨[(3,false,[dI])],[]⟩,none⟩)] Tryz.func73
def bL (c0:oL):Option (oL×Int) :=
 let x3:=rJ .i64 (Fw .i64 ((oB ((oB (c0.2.2*6364136223846793005))+1442695040888963407)).fdiv (2^33)) ((oB ((oB (c0.2.2*6364136223846793005))+1442695040888963407)).fdiv (2^47))) 255
 cond (decide (c0.2.1<(c0.1.length:Int)))
 ((at? c0.1 c0.2.1).bind λx44 =>
 let x3_1:=rJ .i64 (oB (x3+(oB (x44)))) 255
 some ((c0.1,oB (c0.2.1+1),oB ((oB (c0.2.2*6364136223846793005))+1442695040888963407)),x3_1))
 (some ((c0.1,c0.2.1,oB ((oB (c0.2.2*6364136223846793005))+1442695040888963407)),x3))
def hZ:FL:=(190,⟨[.ptr pK none],[.val false oJ (some true)],λa=>bL a⟩)::hU
theorem lY:Gd hZ:=oM lX 190 Tryz.f190 [] Tryz.func190
def aa (c0:oL) (n1:Int):Option (oL×Int) :=
 cond (decide (n1<=0))
 (some (c0,0))
 (cond (decide (n1<=256))
 ((bL c0).bind λt13 =>
 (rem t13.2 n1).bind λt15 =>
 some (t13.1,t15))
 ((bL c0).bind λt17 =>
 (bL t17.1).bind λt19 =>
 (bL t19.1).bind λt21 =>
 (rem (oB ((oB ((oB (t17.2*65536))+(oB (t19.2*256))))+t21.2)) n1).bind λt30 =>
 some (t21.1,t30)))
def i0:FL:=(97,⟨[.ptr pK none,.val false oJ false],[.val false oJ (some true)],λa=>aa a.1 a.2⟩)::hZ
theorem lZ:Gd i0:=oM lY 97 Tryz.f97 [] Tryz.func97
def aU (c0:oL) (n1:Int):Option (oL×Bool) :=
 (aa c0 n1).bind λt7 =>
 some (t7.1,t7.2==0)
def ia:FL:=(100,⟨[.ptr pK none,.val false oJ false],[.val false pC (some true)],λa=>aU a.1 a.2⟩)::i0
theorem m0:Gd ia:=oM lZ 100 Tryz.f100 [] Tryz.func100
def ah (c0:oL) (list1:List Int):Option (oL×Int) :=
 (aa c0 (list1.length:Int)).bind λt9 =>
 (at? list1 t9.2).bind λx10 =>
 some (t9.1,x10)
def ib:FL:=(138,⟨[.ptr pK none,.val false qx false],[.val false oJ (some true)],λa=>ah a.1 a.2⟩)::ia
theorem m3:Gd ib:=oM m0 138 Tryz.f138 [] Tryz.func138
def aN (c0:oL) (list1:List (List UInt8)):Option (oL×List UInt8) :=
 (aa c0 (list1.length:Int)).bind λt9 =>
 (at? list1 t9.2).bind λx10 =>
 some (t9.1,x10)
def ic:FL:=(141,⟨[.ptr pK none,.val false (.one (.sl HS)) false],[.val false HS (some true)],λa=>aN a.1 a.2⟩)::ib
theorem m4:Gd ic:=oM m3 141 Tryz.f141 [] Tryz.func141
def cm (ports0:Int) (i5:Int) (b1:List Int):Option ((Int×List Int)⊕(List Int)) :=
 cond (decide (i5<ports0))
 ((oX b1 ([1]:List Int)).bind λzs27 =>
 some (.inl (oB (i5+1),zs27)))
 (some (.inr b1))
def du (ports0:Int):Option pk :=
 (af ports0 1 6).bind λt7 =>
 cond (!t7)
 (some ([],[]))
 ((shl .i64 1 (IntKind.u64.wrap (ports0))).bind λt12 =>
 (loop (λz=>cm ports0 z.1 z.2) (0,[])).bind λd =>
 some ([(1,oB (t12-1),oB (t12-1))],d))
def ie:FL:=(265,⟨[.val false oJ false],[.val true qh (some true)],λa=>du a⟩)::ic
theorem m5:Gd ie:=oM m4 265 Tryz.f265 [(0,⟨⟨[(5,false,[dI])],[(1054720,.box [.same 1052672,.own 1000000000]),(1000000000,.root oJ true)]⟩,
 ⟨[],[(1054720,.box [.same 1052672,.own 1000000300]),(1000000300,.root oJ true)]⟩,none⟩)] Tryz.func265
def cn (ports1:Int) (i6:Int) (b0:Int) (b1:List UInt8) (b6:Int) (b7:Int) (b8:Int) (b9:Int) (b10:Int) (b2:List Pt) (b3:List oG):Option ((Int×Int×List UInt8×Int×Int×Int×Int×Int×List Pt×List oG)⊕(Int×List UInt8×Int×Int×Int×Int×Int×List Pt×List oG)) :=
 cond (decide (i6<ports1))
 ((oX b2 [(false,1,false,0,0,0,0,0)]).bind λzs29 =>
 some (.inl (oB (i6+1),b0,b1,b6,b7,b8,b9,b10,zs29,b3)))
 (some (.inr (b0,b1,b6,b7,b8,b9,b10,b2,b3)))
def dv (id0:Int) (ports1:Int):Option oA :=
 (af id0 1 99).bind λt8 =>
 (cond (!t8)
 (some true)
 ((af ports1 1 6).bind λt12 =>
 some (!t12))).bind λt14 =>
 cond t14
 (some (0,[],[],[],[],[],0,0,0,0,0))
 ((du ports1).bind λt18 =>
 (loop (λz=>cn ports1 z.1 z.2.1 z.2.2.1 z.2.2.2.1 z.2.2.2.2.1 z.2.2.2.2.2.1 z.2.2.2.2.2.2.1 z.2.2.2.2.2.2.2.1 z.2.2.2.2.2.2.2.2.1 z.2.2.2.2.2.2.2.2.2) (0,id0,[],0,0,0,0,0,[],[])).bind λd =>
 some (d.1,d.2.1,d.2.2.2.2.2.2.2.1,d.2.2.2.2.2.2.2.2,t18.1,t18.2,d.2.2.1,d.2.2.2.1,d.2.2.2.2.1,d.2.2.2.2.2.1,d.2.2.2.2.2.2.1))
def ig:FL:=(158,⟨[.val false oJ false,.val false oJ false],[.val true oV (some true)],λa=>dv a.1 a.2⟩)::ie
theorem m6:Gd ig:=oM m5 158 Tryz.f158 [(0,⟨⟨[(6,false,[dI])],[(791552,.box [dI,dS,.own 1000000000,.own 1000000001,.same 789504,.same 789505,dI,dI,dI,dI,dI]),(1000000000,.root qy true),(1000000001,.root p3 true)]⟩,
 ⟨[],[(791552,.box [dI,dS,.own 1000000300,.own 1000000301,.same 789504,.same 789505,dI,dI,dI,dI,dI]),(1000000300,.root qy true),(1000000301,.root p3 true)]⟩,none⟩)] Tryz.func158
def dw (c0:oL):Option (oL×ul) :=
 (aa c0 5).bind λt4 =>
 (ah t4.1 ([0,1,2,5,10,100]:List Int)).bind λt8 =>
 (ah t8.1 ([0,1,2,9,10]:List Int)).bind λt11 =>
 (aa t11.1 5).bind λt13 =>
 (aa t13.1 4).bind λt16 =>
 some (t16.1,(oB (1+t4.2),t8.2,t11.2,oB (1+t13.2),t16.2))
def ii:FL:=(252,⟨[.ptr pK none],[.val true sS (some true)],λa=>dw a⟩)::ig
theorem m7:Gd ii:=oM m6 252 Tryz.f252 [] Tryz.func252
def co (n1:Int) (i6:Int) (b0:List Int) (b1:Int) (b2:Int) (out5:List Pt):Option ((Int×List Int×Int×Int×List Pt)⊕(List Int×Int×Int×List Pt)) :=
 cond (decide (i6<n1))
 ((aU (b0,b1,b2) 4).bind λt15 =>
 (ah t15.1 ([1,1,2,5,10]:List Int)).bind λt19 =>
 cond (!t15.2)
 ((aU t19.1 4).bind λt25 =>
 cond (!t25.2)
 ((dw t25.1).bind λt30 =>
 (oX out5 [(!t15.2,t19.2,true,t30.2.1,t30.2.2.1,t30.2.2.2.1,t30.2.2.2.2.1,t30.2.2.2.2.2)]).bind λzs35 =>
 some (.inl (oB (i6+1),t30.1.1,t30.1.2.1,t30.1.2.2,zs35)))
 ((oX out5 [(!t15.2,t19.2,false,0,0,0,0,0)]).bind λzs35_1 =>
 some (.inl (oB (i6+1),t25.1.1,t25.1.2.1,t25.1.2.2,zs35_1))))
 ((oX out5 [(!t15.2,t19.2,false,0,0,0,0,0)]).bind λzs35_2 =>
 some (.inl (oB (i6+1),t19.1.1,t19.1.2.1,t19.1.2.2,zs35_2))))
 (some (.inr (b0,b1,b2,out5)))
def bM (c0:oL) (n1:Int):Option (oL×List Pt) :=
 (loop (λz=>co n1 z.1 z.2.1 z.2.2.1 z.2.2.2.1 z.2.2.2.2) (0,c0.1,c0.2.1,c0.2.2,([]:List Pt))).bind λd =>
 some ((d.1,d.2.1,d.2.2.1),d.2.2.2)
def ij:FL:=(159,⟨[.ptr pK none,.val false oJ false],[.val false (.one (.sl qy)) (some true)],λa=>bM a.1 a.2⟩)::ii
theorem m8:Gd ij:=oM m7 159 Tryz.f159 [(0,⟨⟨(5,false,[.own 1000000000])::(6,false,[dI])::us 24 3 [],[(1,.box [.dat (.sl (.one (.int .u8))),dI,dI]),(1000000000,.root qy true)]⟩,
 ⟨[(5,false,[.own 1000000300])],[(1,.box [.dat (.sl (.one (.int .u8))),dI,dI]),(1000000300,.root qy true)]⟩,none⟩)] Tryz.func159
def cp (x0:pk) (v1:pk):Option (pk×Bool) :=
 (aF x0 (v1.2.length:Int)).bind λt10 =>
 cond (!t10)
 ((aG v1).bind λt13 =>
 some (t13,false))
 (some (x0,true))
def il:FL:=(331,⟨[.val true qh true,.val true qh false],[.val true qh (some true),.val false pC (some true)],λa=>cp a.1 a.2⟩)::ij
theorem m9:Gd il:=oM m8 331 Tryz.f331 [] Tryz.func331
def dx (v0:pk) (port1:Int) (id2:Int):Option (pk×Bool) :=
 (aF v0 (v0.2.length:Int)).bind λt13 =>
 (cond (!t13)
 (some true)
 ((af port1 0 (oB ((v0.2.length:Int)-1))).bind λt21 =>
 some (!t21))).bind λt23 =>
 cond t23
 ((aG v0).bind λt25 =>
 some (t25,false))
 ((aG v0).bind λt27 =>
 (ix t27.2.length port1).bind λj32 =>
 (t27.2[j32]?).bind λx =>
 (cp (t27.1,t27.2.set j32 id2) v0).bind λt35 =>
 some t35)
def im:FL:=(266,⟨[.val true qh false,.val false oJ false,.val false oJ false],[.val true qh (some true),.val false pC (some true)],λa=>dx a.1 a.2.1 a.2.2⟩)::il
theorem ma:Gd im:=oM m9 266 Tryz.f266 [] Tryz.func266
def dy (v0:pk) (id1:Int):Option (pk×Bool) :=
 (aR v0 id1).bind λt10 =>
 (aF v0 (v0.2.length:Int)).bind λt15 =>
 (cond (!t15) (some true) (some (decide (t10<0)))).bind λt20 =>
 cond t20
 ((aG v0).bind λt22 =>
 some (t22,false))
 ((aG v0).bind λt24 =>
 (cut v0.1 0 t10).bind λt29 =>
 (oX ([]:List oO) t29).bind λzs30 =>
 (cut v0.1 (oB (t10+1)) (v0.1.length:Int)).bind λt35 =>
 (oX zs30 t35).bind λzs36 =>
 (cp (zs36,t24.2) v0).bind λt40 =>
 some t40)
def ip:FL:=(267,⟨[.val true qh false,.val false oJ false],[.val true qh (some true),.val false pC (some true)],λa=>dy a.1 a.2⟩)::im
theorem mb:Gd ip:=oM ma 267 Tryz.f267 [] Tryz.func267
def dz (v0:pk) (r1:oO):Option (pk×Bool) :=
 (aF v0 (v0.2.length:Int)).bind λt10 =>
 cond (!t10)
 ((aG v0).bind λt13 =>
 some (t13,false))
 ((az v0 r1).bind λt16 =>
 (cp t16 v0).bind λt18 =>
 some t18)
def iq:FL:=(268,⟨[.val true qh false,.val true pu false],[.val true qh (some true),.val false pC (some true)],λa=>dz a.1 a.2⟩)::ip
theorem mc:Gd iq:=oM mb 268 Tryz.f268 [] Tryz.func268
def eM (c0:oL) (ports1:Int):Option (oL×oO) :=
 (shl .i64 1 (IntKind.u64.wrap (ports1))).bind λt9 =>
 (aa c0 (oB ((oB (t9-1))+1))).bind λt14 =>
 (ah t14.1 ([1,2,3,2]:List Int)).bind λt17 =>
 (aa t17.1 (oB ((oB (t9-1))+1))).bind λt23 =>
 some (t23.1,(t17.2,t14.2,rJ .i64 t14.2 t23.2))
def ir:FL:=(269,⟨[.ptr pK none,.val false oJ false],[.val true pu (some true)],λa=>eM a.1 a.2⟩)::iq
theorem md:Gd ir:=oM mc 269 Tryz.f269 [] Tryz.func269
def cq (ports1:Int) (i6:Int) (b0:List Int) (b1:Int) (b2:Int) (b0_1:List oO) (b1_1:List Int):Option ((Int×List Int×Int×Int×List oO×List Int)⊕(List Int×Int×Int×List oO×List Int)) :=
 cond (decide (i6>0))
 ((aa (b0,b1,b2) 4).bind λt16 =>
 cond (t16.2==0)
 ((aa t16.1 ports1).bind λt31 =>
 (aa t31.1 3).bind λt33 =>
 (dx (b0_1,b1_1) t31.2 (oB (1+t33.2))).bind λt35 =>
 some (.inl (oB (i6-1),t33.1.1,t33.1.2.1,t33.1.2.2,t35.1.1,t35.1.2)))
 (cond (t16.2==1)
 ((aa t16.1 2).bind λt43 =>
 (dy (b0_1,b1_1) (oB (2+t43.2))).bind λt45 =>
 some (.inl (oB (i6-1),t43.1.1,t43.1.2.1,t43.1.2.2,t45.1.1,t45.1.2)))
 ((eM t16.1 ports1).bind λt21 =>
 (dz (b0_1,b1_1) t21.2).bind λt22 =>
 some (.inl (oB (i6-1),t21.1.1,t21.1.2.1,t21.1.2.2,t22.1.1,t22.1.2)))))
 (some (.inr (b0,b1,b2,b0_1,b1_1)))
def bN (c0:oL) (ports1:Int):Option (oL×pk) :=
 (du ports1).bind λt8 =>
 (aa c0 6).bind λt10 =>
 (loop (λz=>cq ports1 z.1 z.2.1 z.2.2.1 z.2.2.2.1 z.2.2.2.2.1 z.2.2.2.2.2) (t10.2,t10.1.1,t10.1.2.1,t10.1.2.2,t8.1,t8.2)).bind λd =>
 some ((d.1,d.2.1,d.2.2.1),d.2.2.2)
def iu:FL:=(160,⟨[.ptr pK none,.val false oJ false],[.val true qh (some true)],λa=>bN a.1 a.2⟩)::ir
theorem me:Gd iu:=oM md 160 Tryz.f160 [(0,⟨⟨[(6,false,[dI])],[(1,.box [.dat (.sl (.one (.int .u8))),dI,dI]),(265216,.box [.own 1000000000,.own 1000000001]),(1000000000,.root pu true),(1000000001,.root oJ true)]⟩,
 ⟨[],[(1,.box [.dat (.sl (.one (.int .u8))),dI,dI]),(265216,.box [.own 1000000300,.own 1000000301]),(1000000300,.root pu true),(1000000301,.root oJ true)]⟩,none⟩)] Tryz.func160
def bO (p0:List oG) (i1:oG) (t6:Bool) (t7:Int) (t5:List oG):Option ((Bool×Int×List oG)⊕(Bool×List oG)) :=
 cond (decide (t7<(p0.length:Int)))
 ((cond (!t6)
 ((at? p0 t7).bind λx20 =>
 (bo x20 i1.1 i1.2.1).bind λt26 =>
 some (!t26))
 (some false)).bind λt28 =>
 cond t28
 ((oX t5 [i1]).bind λzs32 =>
 (at? p0 t7).bind λx35 =>
 (cond (x35.1 != i1.1)
 (some true)
 ((at? p0 t7).bind λx44 =>
 some (x44.2.1 != i1.2.1))).bind λt50 =>
 cond t50
 ((at? p0 t7).bind λx54 =>
 (oX zs32 [x54]).bind λzs57 =>
 some (.inl (true,oB (t7+1),zs57)))
 (some (.inl (true,oB (t7+1),zs32))))
 ((at? p0 t7).bind λx35_1 =>
 (cond (x35_1.1 != i1.1)
 (some true)
 ((at? p0 t7).bind λx44_1 =>
 some (x44_1.2.1 != i1.2.1))).bind λt50_1 =>
 cond t50_1
 ((at? p0 t7).bind λx54_1 =>
 (oX t5 [x54_1]).bind λzs57_1 =>
 some (.inl (t6,oB (t7+1),zs57_1)))
 (some (.inl (t6,oB (t7+1),t5)))))
 (some (.inr (t6,t5)))
def dA (p0:List oG) (i1:oG):Option (List oG) :=
 (loop (λz=>bO p0 i1 z.1 z.2.1 z.2.2) (false,0,([]:List oG))).bind λd =>
 cond (!d.1)
 ((oX d.2 [i1]).bind λzs63 =>
 some zs63)
 (some d.2)
def iv:FL:=(271,⟨[.val false (.one (.sl p3)) false,.val true p3 false],[.val false (.one (.sl p3)) (some true)],λa=>dA a.1 a.2⟩)::iu
theorem mf:Gd iv:=oM me 271 Tryz.f271 [(0,⟨⟨(5,false,[.own 1000000000])::(6,false,[dB])::(7,false,[dI])::us 18 10 (us 42 8 []),[(1000000000,.root p3 true)]⟩,
 ⟨[(5,false,[.own 1000000300]),(6,false,[dB])],[(1000000300,.root p3 true)]⟩,none⟩)] Tryz.func271
def dC (l0:List oG) (tag1:Int) (mac2:Int) (port3:Int):Option (List oG) :=
 (bn l0 tag1 mac2).bind λt18 =>
 (bP l0).bind λt20 =>
 (cond (!t20)
 (some true)
 ((bQ (tag1,mac2,port3,0,false)).bind λt24 =>
 some (!t24))).bind λt26 =>
 (cond t26
 (some true)
 ((cond (decide (t18>=0))
 ((at? l0 t18).bind λx33 =>
 some x33.2.2.2.2)
 (some false)).bind λt36 =>
 some t36)).bind λt37 =>
 (cond t37
 (some true)
 ((cond (decide (t18<0)) (some (decide ((l0.length:Int)>=12))) (some false)).bind λt45 =>
 some t45)).bind λt46 =>
 cond t46
 ((bp l0).bind λt48 =>
 some t48)
 ((dA l0 (tag1,mac2,port3,0,false)).bind λt51 =>
 some t51)
def iw:FL:=(161,⟨[.val false (.one (.sl p3)) false,.val false oJ false,.val false oJ false,.val false oJ false],[.val false (.one (.sl p3)) (some true)],λa=>dC a.1 a.2.1 a.2.2.1 a.2.2.2⟩)::iv
theorem mg:Gd iw:=oM mf 161 Tryz.f161 [] Tryz.func161
def bq (c0:oL):Option (oL×Int) :=
 (ah c0 ([11,12,13,14]:List Int)).bind λt5 =>
 some t5
def iy:FL:=(162,⟨[.ptr pK none],[.val false oJ (some true)],λa=>bq a⟩)::iw
theorem mh:Gd iy:=oM mg 162 Tryz.f162 [] Tryz.func162
def cr (l0:List oG) (tag1:Int) (mac2:Int) (port3:Int):Option ((List oG)×Bool) :=
 (bP l0).bind λt16 =>
 (cond (!t16)
 (some true)
 ((bQ (tag1,mac2,port3,0,true)).bind λt20 =>
 some (!t20))).bind λt22 =>
 (cond t22
 (some true)
 ((bn l0 tag1 mac2).bind λt27 =>
 (cond (decide (t27<0)) (some (decide ((l0.length:Int)>=12))) (some false)).bind λt33 =>
 some t33)).bind λt34 =>
 cond t34
 ((bp l0).bind λt36 =>
 some (t36,false))
 ((dA l0 (tag1,mac2,port3,0,true)).bind λt39 =>
 some (t39,true))
def iz:FL:=(163,⟨[.val false (.one (.sl p3)) false,.val false oJ false,.val false oJ false,.val false oJ false],[.val false (.one (.sl p3)) (some true),.val false pC (some true)],λa=>cr a.1 a.2.1 a.2.2.1 a.2.2.2⟩)::iy
theorem mi:Gd iz:=oM mh 163 Tryz.f163 [] Tryz.func163
def ct (t7:oL×Int) (t5:Int) (b0:List Int) (b1:Int) (b2:Int) (b0_1:Int) (b1_1:List UInt8) (b6:Int) (b7:Int) (b8:Int) (b9:Int) (b10:Int) (b3:List oG):Option ((Int×List Int×Int×Int×Int×List UInt8×Int×Int×Int×Int×Int×List oG)⊕(List Int×Int×Int×Int×List UInt8×Int×Int×Int×Int×Int×List oG)) :=
 cond (decide (t5>0))
 ((aa (b0,b1,b2) 3).bind λt35 =>
 (bq t35.1).bind λt38 =>
 (aa t38.1 (oB (1+t7.2))).bind λt41 =>
 (dC b3 (oB (1+t35.2)) t38.2 t41.2).bind λt42 =>
 some (.inl (oB (t5-1),t41.1.1,t41.1.2.1,t41.1.2.2,b0_1,b1_1,b6,b7,b8,b9,b10,t42)))
 (some (.inr (b0,b1,b2,b0_1,b1_1,b6,b7,b8,b9,b10,b3)))
def cu (p0:oL):Option (oL×oA) :=
 (aa p0 4).bind λt7 =>
 (aa t7.1 5).bind λt10 =>
 (dv (oB (1+t10.2)) (oB (1+t7.2))).bind λt13 =>
 (aN t10.1 ([[],[121,97,114,100],[98,49]]:List (List UInt8))).bind λt16 =>
 (bM t16.1 (oB (1+t7.2))).bind λt20 =>
 (bN t20.1 (oB (1+t7.2))).bind λt24 =>
 (aa t24.1 6).bind λt27 =>
 (loop (λz=>ct t7 z.1 z.2.1 z.2.2.1 z.2.2.2.1 z.2.2.2.2.1 z.2.2.2.2.2.1 z.2.2.2.2.2.2.1 z.2.2.2.2.2.2.2.1 z.2.2.2.2.2.2.2.2.1 z.2.2.2.2.2.2.2.2.2.1 z.2.2.2.2.2.2.2.2.2.2.1 z.2.2.2.2.2.2.2.2.2.2.2) (t27.2,t27.1.1,t27.1.2.1,t27.1.2.2,t13.1,t16.2,t13.2.2.2.2.2.2.1,t13.2.2.2.2.2.2.2.1,t13.2.2.2.2.2.2.2.2.1,t13.2.2.2.2.2.2.2.2.2.1,t13.2.2.2.2.2.2.2.2.2.2,t13.2.2.2.1)).bind λd =>
 (aU (d.1,d.2.1,d.2.2.1) 3).bind λt45 =>
 cond t45.2
 ((bq t45.1).bind λt50 =>
 (aa t50.1 (oB (1+t7.2))).bind λt53 =>
 (cr d.2.2.2.2.2.2.2.2.2.2 1 t50.2 t53.2).bind λt54 =>
 (aa t53.1 5).bind λt59 =>
 (ah t59.1 ([0,1,5,1000000]:List Int)).bind λt63 =>
 some (t63.1,(d.2.2.2.1,d.2.2.2.2.1,t20.2,t54.1,t24.2.1,t24.2.2,t59.2,d.2.2.2.2.2.2.1,d.2.2.2.2.2.2.2.1,d.2.2.2.2.2.2.2.2.1,t63.2)))
 ((aa t45.1 5).bind λt59_1 =>
 (ah t59_1.1 ([0,1,5,1000000]:List Int)).bind λt63_1 =>
 some (t63_1.1,(d.2.2.2.1,d.2.2.2.2.1,t20.2,d.2.2.2.2.2.2.2.2.2.2,t24.2.1,t24.2.2,t59_1.2,d.2.2.2.2.2.2.1,d.2.2.2.2.2.2.2.1,d.2.2.2.2.2.2.2.2.1,t63_1.2)))
def iA:FL:=(74,⟨[.ptr pK none],[.val true oV (some true)],λa=>cu a⟩)::iz
theorem mj:Gd iA:=oM mi 74 Tryz.f74 [(0,⟨⟨[(5,false,[dI])],[(1,.box [.dat (.sl (.one (.int .u8))),dI,dI]),(530432,.box [dI,dS,.same 1051712,.own 1000000000,.same 1313856,.same 1313857,dI,dI,dI,dI,dI]),(1000000000,.root p3 true)]⟩,
 ⟨[],[(1,.box [.dat (.sl (.one (.int .u8))),dI,dI]),(530432,.box [dI,dS,.same 1051712,.own 1000000300,.same 1313856,.same 1313857,dI,dI,dI,dI,dI]),(1000000300,.root p3 true)]⟩,none⟩)] Tryz.func74
def cw (i4:Int) (b0:List Int) (b1:Int) (b2:Int) (out3:List Int):Option ((Int×List Int×Int×Int×List Int)⊕(List Int×Int×Int×List Int)) :=
 cond (decide (i4>0))
 ((ah (b0,b1,b2) ([0,1,2,3,127,128,16384,100000]:List Int)).bind λt16 =>
 (oX out3 [t16.2]).bind λzs18 =>
 some (.inl (oB (i4-1),t16.1.1,t16.1.2.1,t16.1.2.2,zs18)))
 (some (.inr (b0,b1,b2,out3)))
def av (c0:oL):Option (oL×List Int) :=
 (aa c0 6).bind λt7 =>
 (loop (λz=>cw z.1 z.2.1 z.2.2.1 z.2.2.2.1 z.2.2.2.2) (oB (1+t7.2),t7.1.1,t7.1.2.1,t7.1.2.2,([]:List Int))).bind λd =>
 some ((d.1,d.2.1,d.2.2.1),d.2.2.2)
def iB:FL:=(101,⟨[.ptr pK none],[.val false qx (some true)],λa=>av a⟩)::iA
theorem ml:Gd iB:=oM mj 101 Tryz.f101 [(0,⟨⟨[(3,false,[.own 1000000000]),(4,false,[dI])],[(1,.box [.dat (.sl (.one (.int .u8))),dI,dI]),(1000000000,.root oJ true)]⟩,
 ⟨[(3,false,[.own 1000000300])],[(1,.box [.dat (.sl (.one (.int .u8))),dI,dI]),(1000000300,.root oJ true)]⟩,none⟩)] Tryz.func101
def br (c0:oL):Option (oL×Int) :=
 (aa c0 1000).bind λt5 =>
 (ah t5.1 [0,1,(-1),127,128,(-128),(-129),255,256,32767,32768,(-32769),8388608,2147483647,(-2147483648),2147483648,(-2147483649),9223372036854775807,(-9223372036854775808),t5.2]).bind λt7 =>
 some t7
def iC:FL:=(199,⟨[.ptr pK none],[.val false oJ (some true)],λa=>br a⟩)::iB
theorem mn:Gd iC:=oM ml 199 Tryz.f199 [] Tryz.func199
def ap (c0:oL):Option (oL×rm) :=
 (aa c0 6).bind λt4 =>
 cond (t4.2==0)
 (some (t4.1,(5,0,[],[])))
 (cond (t4.2==1)
 (cond (t4.2==1)
 ((br t4.1).bind λt12 =>
 (ao t12.2).bind λt13 =>
 (ai t13).bind λt14 =>
 some (t12.1,t14))
 (cond (t4.2==3)
 ((aN t4.1 ([[],[97],[121,97,114,100],[0]]:List (List UInt8))).bind λt19 =>
 some (t19.1,(4,0,t19.2,[])))
 (cond (t4.2==4)
 ((av t4.1).bind λt24 =>
 some (t24.1,(6,0,[],t24.2)))
 ((ah t4.1 ([128,130]:List Int)).bind λt28 =>
 some (t28.1,(t28.2,0,[],[]))))))
 (cond (t4.2==2)
 ((br t4.1).bind λt12_1 =>
 (ao t12_1.2).bind λt13_1 =>
 (ai t13_1).bind λt14_1 =>
 some (t12_1.1,t14_1))
 (cond (t4.2==3)
 ((aN t4.1 ([[],[97],[121,97,114,100],[0]]:List (List UInt8))).bind λt19_1 =>
 some (t19_1.1,(4,0,t19_1.2,[])))
 (cond (t4.2==4)
 ((av t4.1).bind λt24_1 =>
 some (t24_1.1,(6,0,[],t24_1.2)))
 ((ah t4.1 ([128,130]:List Int)).bind λt28_1 =>
 some (t28_1.1,(t28_1.2,0,[],[])))))))
def iD:FL:=(102,⟨[.ptr pK none],[.val true sR (some true)],λa=>ap a⟩)::iC
theorem mo:Gd iD:=oM mn 102 Tryz.f102 [] Tryz.func102
def aq (c0:oL) (b1:oA):Option (oL×List Int) :=
 (bI b1).bind λt7 =>
 cond (decide ((t7.length:Int)>0))
 ((aU c0 4).bind λt13 =>
 cond (!t13.2)
 ((aa t13.1 (t7.length:Int)).bind λt21 =>
 (ix t7.length t21.2).bind λj22 =>
 (t7[j22]?).bind λx24 =>
 (oX ([]:List Int) x24.1).bind λzs25 =>
 some (t21.1,zs25))
 ((aa t13.1 8).bind λt27 =>
 cond (t27.2==0)
 (some (t27.1,([0]:List Int)))
 (cond (t27.2==1)
 (some (t27.1,([1,3,1]:List Int)))
 (cond (t27.2==2)
 ((ac ([2,2,9]:List Int)).bind λt37 =>
 some (t27.1,t37))
 (cond (t27.2==3)
 ((aa t27.1 9).bind λt41 =>
 (ac [3,1,oB (1+t41.2)]).bind λt44 =>
 some (t41.1,t44))
 (cond (t27.2==4)
 ((ac ([2,2]:List Int)).bind λt48 =>
 some (t27.1,t48))
 (cond (t27.2==5)
 ((ac ([9]:List Int)).bind λt52 =>
 some (t27.1,t52))
 (cond (t27.2==6)
 ((ac ([4,1,2,11]:List Int)).bind λt56 =>
 some (t27.1,t56))
 ((av t27.1).bind λt58 =>
 some t58)))))))))
 ((aa c0 8).bind λt27_1 =>
 cond (t27_1.2==0)
 (some (t27_1.1,([0]:List Int)))
 (cond (t27_1.2==1)
 (some (t27_1.1,([1,3,1]:List Int)))
 (cond (t27_1.2==2)
 ((ac ([2,2,9]:List Int)).bind λt37_1 =>
 some (t27_1.1,t37_1))
 (cond (t27_1.2==3)
 ((aa t27_1.1 9).bind λt41_1 =>
 (ac [3,1,oB (1+t41_1.2)]).bind λt44_1 =>
 some (t41_1.1,t44_1))
 (cond (t27_1.2==4)
 ((ac ([2,2]:List Int)).bind λt48_1 =>
 some (t27_1.1,t48_1))
 (cond (t27_1.2==5)
 ((ac ([9]:List Int)).bind λt52_1 =>
 some (t27_1.1,t52_1))
 (cond (t27_1.2==6)
 ((ac ([4,1,2,11]:List Int)).bind λt56_1 =>
 some (t27_1.1,t56_1))
 ((av t27_1.1).bind λt58_1 =>
 some t58_1))))))))
def iE:FL:=(165,⟨[.ptr pK none,.val true oV false],[.val false qx (some true)],λa=>aq a.1 a.2⟩)::iD
theorem mp:Gd iE:=oM mo 165 Tryz.f165 [] Tryz.func165
def eN (p0:oL) (i1:oA):Option (oL×oC) :=
 (aa p0 (oB ((i1.2.2.1.length:Int)+1))).bind λt12 =>
 (shl .i64 1 (IntKind.u64.wrap ((i1.2.2.1.length:Int)))).bind λt18 =>
 (aa t12.1 10).bind λt21 =>
 cond (t21.2==0)
 ((ac ([1,1]:List Int)).bind λt25 =>
 (aN t21.1 ([[110,101,119],[],[101,108,101,118,101,110,45,98,121,116,101]]:List (List UInt8))).bind λt28 =>
 some (t28.1,(t25,4,0,t28.2,[])))
 (cond (t21.2==1)
 (cond (t21.2==1)
 ((ac [2,2,oB (1+t12.2)]).bind λt36 =>
 (ah t21.1 ([1,5,1000,0,1001]:List Int)).bind λt39 =>
 (ai t39.2).bind λt40 =>
 some (t39.1,(t36,t40.1,t40.2.1,t40.2.2.1,t40.2.2.2)))
 (cond (t21.2==3)
 ((ac [2,4,oB (1+t12.2)]).bind λt46 =>
 (aa t21.1 4).bind λt48 =>
 (ai (oB (1+t48.2))).bind λt50 =>
 some (t48.1,(t46,t50.1,t50.2.1,t50.2.2.1,t50.2.2.2)))
 (cond (t21.2==4)
 (cond (t21.2==4)
 ((aa t21.1 4).bind λt56 =>
 (ac [3,1,oB (1+t56.2)]).bind λt59 =>
 (ah t56.1 ([4,4,6,1]:List Int)).bind λt62 =>
 (ai t62.2).bind λt63 =>
 some (t62.1,(t59,t63.1,t63.2.1,t63.2.2.1,t63.2.2.2)))
 (cond (t21.2==6)
 (cond (t21.2==6)
 ((aa t21.1 4).bind λt69 =>
 (ac [3,2,oB (1+t69.2)]).bind λt72 =>
 (aa t69.1 (oB ((oB (t18-1))+2))).bind λt76 =>
 (ai t76.2).bind λt77 =>
 some (t76.1,(t72,t77.1,t77.2.1,t77.2.2.1,t77.2.2.2)))
 (cond (t21.2==8)
 ((aa t21.1 4).bind λt82 =>
 (ac [3,3,oB (1+t82.2)]).bind λt85 =>
 (aa t82.1 (oB ((oB (t18-1))+1))).bind λt89 =>
 (ai t89.2).bind λt90 =>
 some (t89.1,(t85,t90.1,t90.2.1,t90.2.2.1,t90.2.2.2)))
 ((aq t21.1 i1).bind λt94 =>
 (ap t94.1).bind λt96 =>
 some (t96.1,(t94.2,t96.2.1,t96.2.2.1,t96.2.2.2.1,t96.2.2.2.2)))))
 (cond (t21.2==7)
 ((aa t21.1 4).bind λt69_1 =>
 (ac [3,2,oB (1+t69_1.2)]).bind λt72_1 =>
 (aa t69_1.1 (oB ((oB (t18-1))+2))).bind λt76_1 =>
 (ai t76_1.2).bind λt77_1 =>
 some (t76_1.1,(t72_1,t77_1.1,t77_1.2.1,t77_1.2.2.1,t77_1.2.2.2)))
 (cond (t21.2==8)
 ((aa t21.1 4).bind λt82_1 =>
 (ac [3,3,oB (1+t82_1.2)]).bind λt85_1 =>
 (aa t82_1.1 (oB ((oB (t18-1))+1))).bind λt89_1 =>
 (ai t89_1.2).bind λt90_1 =>
 some (t89_1.1,(t85_1,t90_1.1,t90_1.2.1,t90_1.2.2.1,t90_1.2.2.2)))
 ((aq t21.1 i1).bind λt94_1 =>
 (ap t94_1.1).bind λt96_1 =>
 some (t96_1.1,(t94_1.2,t96_1.2.1,t96_1.2.2.1,t96_1.2.2.2.1,t96_1.2.2.2.2)))))))
 (cond (t21.2==5)
 ((aa t21.1 4).bind λt56_1 =>
 (ac [3,1,oB (1+t56_1.2)]).bind λt59_1 =>
 (ah t56_1.1 ([4,4,6,1]:List Int)).bind λt62_1 =>
 (ai t62_1.2).bind λt63_1 =>
 some (t62_1.1,(t59_1,t63_1.1,t63_1.2.1,t63_1.2.2.1,t63_1.2.2.2)))
 (cond (t21.2==6)
 (cond (t21.2==6)
 ((aa t21.1 4).bind λt69_2 =>
 (ac [3,2,oB (1+t69_2.2)]).bind λt72_2 =>
 (aa t69_2.1 (oB ((oB (t18-1))+2))).bind λt76_2 =>
 (ai t76_2.2).bind λt77_2 =>
 some (t76_2.1,(t72_2,t77_2.1,t77_2.2.1,t77_2.2.2.1,t77_2.2.2.2)))
 (cond (t21.2==8)
 ((aa t21.1 4).bind λt82_2 =>
 (ac [3,3,oB (1+t82_2.2)]).bind λt85_2 =>
 (aa t82_2.1 (oB ((oB (t18-1))+1))).bind λt89_2 =>
 (ai t89_2.2).bind λt90_2 =>
 some (t89_2.1,(t85_2,t90_2.1,t90_2.2.1,t90_2.2.2.1,t90_2.2.2.2)))
 ((aq t21.1 i1).bind λt94_2 =>
 (ap t94_2.1).bind λt96_2 =>
 some (t96_2.1,(t94_2.2,t96_2.2.1,t96_2.2.2.1,t96_2.2.2.2.1,t96_2.2.2.2.2)))))
 (cond (t21.2==7)
 ((aa t21.1 4).bind λt69_3 =>
 (ac [3,2,oB (1+t69_3.2)]).bind λt72_3 =>
 (aa t69_3.1 (oB ((oB (t18-1))+2))).bind λt76_3 =>
 (ai t76_3.2).bind λt77_3 =>
 some (t76_3.1,(t72_3,t77_3.1,t77_3.2.1,t77_3.2.2.1,t77_3.2.2.2)))
 (cond (t21.2==8)
 ((aa t21.1 4).bind λt82_3 =>
 (ac [3,3,oB (1+t82_3.2)]).bind λt85_3 =>
 (aa t82_3.1 (oB ((oB (t18-1))+1))).bind λt89_3 =>
 (ai t89_3.2).bind λt90_3 =>
 some (t89_3.1,(t85_3,t90_3.1,t90_3.2.1,t90_3.2.2.1,t90_3.2.2.2)))
 ((aq t21.1 i1).bind λt94_3 =>
 (ap t94_3.1).bind λt96_3 =>
 some (t96_3.1,(t94_3.2,t96_3.2.1,t96_3.2.2.1,t96_3.2.2.2.1,t96_3.2.2.2.2))))))))))
 (cond (t21.2==2)
 ((ac [2,2,oB (1+t12.2)]).bind λt36_1 =>
 (ah t21.1 ([1,5,1000,0,1001]:List Int)).bind λt39_1 =>
 (ai t39_1.2).bind λt40_1 =>
 some (t39_1.1,(t36_1,t40_1.1,t40_1.2.1,t40_1.2.2.1,t40_1.2.2.2)))
 (cond (t21.2==3)
 ((ac [2,4,oB (1+t12.2)]).bind λt46_1 =>
 (aa t21.1 4).bind λt48_1 =>
 (ai (oB (1+t48_1.2))).bind λt50_1 =>
 some (t48_1.1,(t46_1,t50_1.1,t50_1.2.1,t50_1.2.2.1,t50_1.2.2.2)))
 (cond (t21.2==4)
 (cond (t21.2==4)
 ((aa t21.1 4).bind λt56_2 =>
 (ac [3,1,oB (1+t56_2.2)]).bind λt59_2 =>
 (ah t56_2.1 ([4,4,6,1]:List Int)).bind λt62_2 =>
 (ai t62_2.2).bind λt63_2 =>
 some (t62_2.1,(t59_2,t63_2.1,t63_2.2.1,t63_2.2.2.1,t63_2.2.2.2)))
 (cond (t21.2==6)
 (cond (t21.2==6)
 ((aa t21.1 4).bind λt69_4 =>
 (ac [3,2,oB (1+t69_4.2)]).bind λt72_4 =>
 (aa t69_4.1 (oB ((oB (t18-1))+2))).bind λt76_4 =>
 (ai t76_4.2).bind λt77_4 =>
 some (t76_4.1,(t72_4,t77_4.1,t77_4.2.1,t77_4.2.2.1,t77_4.2.2.2)))
 (cond (t21.2==8)
 ((aa t21.1 4).bind λt82_4 =>
 (ac [3,3,oB (1+t82_4.2)]).bind λt85_4 =>
 (aa t82_4.1 (oB ((oB (t18-1))+1))).bind λt89_4 =>
 (ai t89_4.2).bind λt90_4 =>
 some (t89_4.1,(t85_4,t90_4.1,t90_4.2.1,t90_4.2.2.1,t90_4.2.2.2)))
 ((aq t21.1 i1).bind λt94_4 =>
 (ap t94_4.1).bind λt96_4 =>
 some (t96_4.1,(t94_4.2,t96_4.2.1,t96_4.2.2.1,t96_4.2.2.2.1,t96_4.2.2.2.2)))))
 (cond (t21.2==7)
 ((aa t21.1 4).bind λt69_5 =>
 (ac [3,2,oB (1+t69_5.2)]).bind λt72_5 =>
 (aa t69_5.1 (oB ((oB (t18-1))+2))).bind λt76_5 =>
 (ai t76_5.2).bind λt77_5 =>
 some (t76_5.1,(t72_5,t77_5.1,t77_5.2.1,t77_5.2.2.1,t77_5.2.2.2)))
 (cond (t21.2==8)
 ((aa t21.1 4).bind λt82_5 =>
 (ac [3,3,oB (1+t82_5.2)]).bind λt85_5 =>
 (aa t82_5.1 (oB ((oB (t18-1))+1))).bind λt89_5 =>
 (ai t89_5.2).bind λt90_5 =>
 some (t89_5.1,(t85_5,t90_5.1,t90_5.2.1,t90_5.2.2.1,t90_5.2.2.2)))
 ((aq t21.1 i1).bind λt94_5 =>
 (ap t94_5.1).bind λt96_5 =>
 some (t96_5.1,(t94_5.2,t96_5.2.1,t96_5.2.2.1,t96_5.2.2.2.1,t96_5.2.2.2.2)))))))
 (cond (t21.2==5)
 ((aa t21.1 4).bind λt56_3 =>
 (ac [3,1,oB (1+t56_3.2)]).bind λt59_3 =>
 (ah t56_3.1 ([4,4,6,1]:List Int)).bind λt62_3 =>
 (ai t62_3.2).bind λt63_3 =>
 some (t62_3.1,(t59_3,t63_3.1,t63_3.2.1,t63_3.2.2.1,t63_3.2.2.2)))
 (cond (t21.2==6)
 (cond (t21.2==6)
 ((aa t21.1 4).bind λt69_6 =>
 (ac [3,2,oB (1+t69_6.2)]).bind λt72_6 =>
 (aa t69_6.1 (oB ((oB (t18-1))+2))).bind λt76_6 =>
 (ai t76_6.2).bind λt77_6 =>
 some (t76_6.1,(t72_6,t77_6.1,t77_6.2.1,t77_6.2.2.1,t77_6.2.2.2)))
 (cond (t21.2==8)
 ((aa t21.1 4).bind λt82_6 =>
 (ac [3,3,oB (1+t82_6.2)]).bind λt85_6 =>
 (aa t82_6.1 (oB ((oB (t18-1))+1))).bind λt89_6 =>
 (ai t89_6.2).bind λt90_6 =>
 some (t89_6.1,(t85_6,t90_6.1,t90_6.2.1,t90_6.2.2.1,t90_6.2.2.2)))
 ((aq t21.1 i1).bind λt94_6 =>
 (ap t94_6.1).bind λt96_6 =>
 some (t96_6.1,(t94_6.2,t96_6.2.1,t96_6.2.2.1,t96_6.2.2.2.1,t96_6.2.2.2.2)))))
 (cond (t21.2==7)
 ((aa t21.1 4).bind λt69_7 =>
 (ac [3,2,oB (1+t69_7.2)]).bind λt72_7 =>
 (aa t69_7.1 (oB ((oB (t18-1))+2))).bind λt76_7 =>
 (ai t76_7.2).bind λt77_7 =>
 some (t76_7.1,(t72_7,t77_7.1,t77_7.2.1,t77_7.2.2.1,t77_7.2.2.2)))
 (cond (t21.2==8)
 ((aa t21.1 4).bind λt82_7 =>
 (ac [3,3,oB (1+t82_7.2)]).bind λt85_7 =>
 (aa t82_7.1 (oB ((oB (t18-1))+1))).bind λt89_7 =>
 (ai t89_7.2).bind λt90_7 =>
 some (t89_7.1,(t85_7,t90_7.1,t90_7.2.1,t90_7.2.2.1,t90_7.2.2.2)))
 ((aq t21.1 i1).bind λt94_7 =>
 (ap t94_7.1).bind λt96_7 =>
 some (t96_7.1,(t94_7.2,t96_7.2.1,t96_7.2.2.1,t96_7.2.2.2.1,t96_7.2.2.2.2)))))))))))
def iF:FL:=(272,⟨[.ptr pK none,.val true oV false],[.val true oK (some true)],λa=>eN a.1 a.2⟩)::iE
theorem mq:Gd iF:=oM mp 272 Tryz.f272 [] Tryz.func272
def bR (b1:oA) (i6:Int) (b0:List Int) (b1_1:Int) (b2:Int) (out5:List oC):Option ((Int×List Int×Int×Int×List oC)⊕(List Int×Int×Int×List oC)) :=
 cond (decide (i6>0))
 ((eN (b0,b1_1,b2) b1).bind λt17 =>
 (oX out5 [t17.2]).bind λzs19 =>
 some (.inl (oB (i6-1),t17.1.1,t17.1.2.1,t17.1.2.2,zs19)))
 (some (.inr (b0,b1_1,b2,out5)))
def dD (c0:oL) (b1:oA):Option (oL×List oC) :=
 (aa c0 4).bind λt9 =>
 (loop (λz=>bR b1 z.1 z.2.1 z.2.2.1 z.2.2.2.1 z.2.2.2.2) (t9.2,t9.1.1,t9.1.2.1,t9.1.2.2,([]:List oC))).bind λd =>
 some ((d.1,d.2.1,d.2.2.1),d.2.2.2)
def iG:FL:=(164,⟨[.ptr pK none,.val true oV false],[.val false (.one (.sl oK)) (some true)],λa=>dD a.1 a.2⟩)::iF
theorem mr:Gd iG:=oM mq 164 Tryz.f164 [(0,⟨⟨[(5,false,[.own 1000000000]),(6,false,[dI])],[(1,.box [.dat (.sl (.one (.int .u8))),dI,dI]),(1000000000,.root oK true)]⟩,
 ⟨[(5,false,[.own 1000000300])],[(1,.box [.dat (.sl (.one (.int .u8))),dI,dI]),(1000000300,.root oK true)]⟩,none⟩)] Tryz.func164
def bS (b1:oA) (i6:Int) (b0:List Int) (b1_1:Int) (b2:Int) (b0_1:Int) (b1_2:Int) (b2_1:Int) (b3:Int) (b4:List oC):Option ((Int×List Int×Int×Int×Int×Int×Int×Int×List oC)⊕(List Int×Int×Int×Int×Int×Int×Int×List oC)) :=
 cond (decide (i6>0))
 ((aq (b0,b1_1,b2) b1).bind λt31 =>
 (oX b4 ([(t31.2,5,0,[],[])])).bind λzs35 =>
 some (.inl (oB (i6-1),t31.1.1,t31.1.2.1,t31.1.2.2,b0_1,b1_2,b2_1,b3,zs35)))
 (some (.inr (b0,b1_1,b2,b0_1,b1_2,b2_1,b3,b4)))
def eO (c0:oL) (b1:oA):Option (oL×p7) :=
 (ah c0 ([160,161,163,163,165]:List Int)).bind λt9 =>
 (aa t9.1 100).bind λt11 =>
 cond (t9.2==163)
 ((dD t11.1 b1).bind λt18 =>
 some (t18.1,(t9.2,t11.2,0,0,t18.2)))
 ((aa t11.1 4).bind λt22 =>
 (loop (λz=>bS b1 z.1 z.2.1 z.2.2.1 z.2.2.2.1 z.2.2.2.2.1 z.2.2.2.2.2.1 z.2.2.2.2.2.2.1 z.2.2.2.2.2.2.2.1 z.2.2.2.2.2.2.2.2) (t22.2,t22.1.1,t22.1.2.1,t22.1.2.2,t9.2,t11.2,0,0,[])).bind λd =>
 cond (d.2.2.2.1==165)
 ((aa (d.1,d.2.1,d.2.2.1) 3).bind λt41 =>
 (aa t41.1 5).bind λt44 =>
 some (t44.1,(d.2.2.2.1,d.2.2.2.2.1,t41.2,t44.2,d.2.2.2.2.2.2.2)))
 (some ((d.1,d.2.1,d.2.2.1),d.2.2.2)))
def iH:FL:=(75,⟨[.ptr pK none,.val true oV false],[.val true qT (some true)],λa=>eO a.1 a.2⟩)::iG
theorem mt:Gd iH:=oM mr 75 Tryz.f75 [(0,⟨⟨[(6,false,[dI])],[(1,.box [.dat (.sl (.one (.int .u8))),dI,dI]),(269312,.box [dI,dI,dI,dI,.own 1000000000]),(1000000000,.root oK true)]⟩,
 ⟨[],[(1,.box [.dat (.sl (.one (.int .u8))),dI,dI]),(269312,.box [dI,dI,dI,dI,.own 1000000300]),(1000000300,.root oK true)]⟩,none⟩)] Tryz.func75
def eP (c0:oL):Option (oL×ul) :=
 (dw c0).bind λt5 =>
 (aa t5.1 12).bind λt7 =>
 cond (t7.2==0)
 ((ah t7.1 ([0,99,100]:List Int)).bind λt12 =>
 some (t12.1,(t12.2,t5.2.2.1,t5.2.2.2.1,t5.2.2.2.2.1,t5.2.2.2.2.2)))
 (cond (t7.2==1)
 ((ah t7.1 ([(-1),99999,100000,100001]:List Int)).bind λt18 =>
 some (t18.1,(t5.2.1,t18.2,t5.2.2.2.1,t5.2.2.2.2.1,t5.2.2.2.2.2)))
 (cond (t7.2==2)
 ((ah t7.1 ([(-1),11]:List Int)).bind λt24 =>
 some (t24.1,(t5.2.1,t5.2.2.1,t24.2,t5.2.2.2.2.1,t5.2.2.2.2.2)))
 (cond (t7.2==3)
 ((ah t7.1 ([(-1),7,8]:List Int)).bind λt30 =>
 some (t30.1,(t5.2.1,t5.2.2.1,t5.2.2.2.1,t5.2.2.2.2.1,t30.2)))
 (some (t7.1,t5.2)))))
def iI:FL:=(296,⟨[.ptr pK none],[.val true sS (some true)],λa=>eP a⟩)::iH
theorem mu:Gd iI:=oM mt 296 Tryz.f296 [] Tryz.func296
def eQ (c0:oL):Option (oL×List Pt) :=
 (aa c0 4).bind λt6 =>
 (bM t6.1 (oB (1+t6.2))).bind λt8 =>
 (aa t8.1 12).bind λt10 =>
 cond (t10.2==0)
 ((eP t10.1).bind λt15 =>
 (ix t8.2.length 0).bind λj16 =>
 (t8.2[j16]?).bind λx =>
 some (t15.1,t8.2.set j16 (x.1,x.2.1,x.2.2.1,t15.2.1,t15.2.2.1,t15.2.2.2.1,t15.2.2.2.2.1,t15.2.2.2.2.2)))
 (cond (t10.2==1)
 ((ah t10.1 ([0,1000,1001]:List Int)).bind λt23 =>
 (ix t8.2.length 0).bind λj24 =>
 (t8.2[j24]?).bind λx_1 =>
 some (t23.1,t8.2.set j24 (x_1.1,t23.2,x_1.2.2.1,x_1.2.2.2.1,x_1.2.2.2.2.1,x_1.2.2.2.2.2.1,x_1.2.2.2.2.2.2.1,x_1.2.2.2.2.2.2.2)))
 (cond (t10.2==2)
 ((ix t8.2.length 0).bind λj29 =>
 (t8.2[j29]?).bind λx_2 =>
 some (t10.1,t8.2.set j29 (false,x_2.2.1,x_2.2.2.1,x_2.2.2.2.1,x_2.2.2.2.2.1,x_2.2.2.2.2.2.1,x_2.2.2.2.2.2.2.1,x_2.2.2.2.2.2.2.2)))
 (some (t10.1,t8.2))))
def iJ:FL:=(191,⟨[.ptr pK none],[.val false (.one (.sl qy)) (some true)],λa=>eQ a⟩)::iI
theorem mw:Gd iJ:=oM mu 191 Tryz.f191 [] Tryz.func191
def cz (l0:List oG) (i4:Int) (out3:List oG):Option ((Int×List oG)⊕(List oG)) :=
 cond (decide (i4<(l0.length:Int)))
 ((at? l0 i4).bind λx15 =>
 cond x15.2.2.2.2
 ((oX out3 [x15]).bind λzs22 =>
 some (.inl (oB (i4+1),zs22)))
 (cond (decide (x15.2.2.2.1<4))
 ((oX out3 [(x15.1,x15.2.1,x15.2.2.1,oB (x15.2.2.2.1+1),x15.2.2.2.2)]).bind λzs33 =>
 some (.inl (oB (i4+1),zs33)))
 (some (.inl (oB (i4+1),out3)))))
 (some (.inr out3))
def eR (l0:List oG):Option (List oG) :=
 (loop (λz=>cz l0 z.1 z.2) (0,([]:List oG))).bind λd =>
 some d
def iK:FL:=(301,⟨[.val false (.one (.sl p3)) false],[.val false (.one (.sl p3)) (some true)],λa=>eR a⟩)::iJ
theorem my:Gd iK:=oM mw 301 Tryz.f301 [(0,⟨⟨[(3,false,[.own 1000000000]),(4,false,[dI])],[(1000000000,.root p3 true)]⟩,
 ⟨[(3,false,[.own 1000000300])],[(1000000300,.root p3 true)]⟩,none⟩)] Tryz.func301
def cA (i4:Int) (b0:List Int) (b1:Int) (b2:Int) (l3:List oG):Option ((Int×List Int×Int×Int×List oG)⊕(List Int×Int×Int×List oG)) :=
 cond (decide (i4>0))
 ((aa (b0,b1,b2) 6).bind λt13 =>
 cond (t13.2==0)
 ((aa t13.1 3).bind λt31 =>
 (bq t31.1).bind λt34 =>
 (aa t34.1 4).bind λt36 =>
 (cr l3 (oB (1+t31.2)) t34.2 t36.2).bind λt37 =>
 some (.inl (oB (i4-1),t36.1.1,t36.1.2.1,t36.1.2.2,t37.1)))
 (cond (t13.2==1)
 ((eR l3).bind λt43 =>
 some (.inl (oB (i4-1),t13.1.1,t13.1.2.1,t13.1.2.2,t43)))
 ((aa t13.1 3).bind λt16 =>
 (bq t16.1).bind λt19 =>
 (aa t19.1 3).bind λt21 =>
 (aa t21.1 4).bind λt24 =>
 (dC l3 (oB (1+t16.2)) (oB (t19.2+t21.2)) t24.2).bind λt25 =>
 some (.inl (oB (i4-1),t24.1.1,t24.1.2.1,t24.1.2.2,t25)))))
 (some (.inr (b0,b1,b2,l3)))
def eS (c0:oL):Option (oL×List oG) :=
 (aa c0 10).bind λt7 =>
 (loop (λz=>cA z.1 z.2.1 z.2.2.1 z.2.2.2.1 z.2.2.2.2) (t7.2,t7.1.1,t7.1.2.1,t7.1.2.2,([]:List oG))).bind λd =>
 some ((d.1,d.2.1,d.2.2.1),d.2.2.2)
def iL:FL:=(297,⟨[.ptr pK none],[.val false (.one (.sl p3)) (some true)],λa=>eS a⟩)::iK
theorem mz:Gd iL:=oM my 297 Tryz.f297 [(0,⟨⟨[(3,false,[.own 1000000000]),(4,false,[dI])],[(1,.box [.dat (.sl (.one (.int .u8))),dI,dI]),(1000000000,.root p3 true)]⟩,
 ⟨[(3,false,[.own 1000000300])],[(1,.box [.dat (.sl (.one (.int .u8))),dI,dI]),(1000000300,.root p3 true)]⟩,none⟩)] Tryz.func297
def bt (i4:Int) (b0:List Int) (b1:Int) (b2:Int) (l3:List oG):Option ((Int×List Int×Int×Int×List oG)⊕(List Int×Int×Int×List oG)) :=
 (aa (b0,b1,b2) 3).bind λt31 =>
 cond (decide (i4<(oB (11+t31.2))))
 ((oX l3 [(50,oB (100+i4),1,0,false)]).bind λzs41 =>
 some (.inl (oB (i4+1),t31.1.1,t31.1.2.1,t31.1.2.2,zs41)))
 (some (.inr (t31.1.1,t31.1.2.1,t31.1.2.2,l3)))
def eT (c0:oL):Option (oL×List oG) :=
 (eS c0).bind λt6 =>
 (aa t6.1 12).bind λt8 =>
 cond (t8.2==0)
 ((ah t8.1 ([0,1,99,100]:List Int)).bind λt14 =>
 (ah t14.1 ([0,1,9999]:List Int)).bind λt17 =>
 (ah t17.1 ([(-1),7,8]:List Int)).bind λt20 =>
 (ah t20.1 ([(-1),4,5]:List Int)).bind λt23 =>
 (oX t6.2 [(t14.2,t17.2,t20.2,t23.2,false)]).bind λzs26 =>
 some (t23.1,zs26))
 (cond (t8.2==1)
 ((loop (λz=>bt z.1 z.2.1 z.2.2.1 z.2.2.2.1 z.2.2.2.2) (0,t8.1.1,t8.1.2.1,t8.1.2.2,t6.2)).bind λd =>
 some ((d.1,d.2.1,d.2.2.1),d.2.2.2))
 (some (t8.1,t6.2)))
def iM:FL:=(192,⟨[.ptr pK none],[.val false (.one (.sl p3)) (some true)],λa=>eT a⟩)::iL
theorem mC:Gd iM:=oM mz 192 Tryz.f192 [(1,⟨⟨[(3,false,[.own 1000001000]),(4,false,[dI])],[(1,.box [.dat (.sl (.one (.int .u8))),dI,dI]),(1000001000,.root p3 true)]⟩,
 ⟨[(3,false,[.own 1000001300])],[(1,.box [.dat (.sl (.one (.int .u8))),dI,dI]),(1000001300,.root p3 true)]⟩,none⟩)] Tryz.func192
def cB (i6:Int) (b0:List oO) (b1:List Int):Option ((Int×List oO×List Int)⊕(List oO×List Int)) :=
 cond (decide (i6<6))
 ((az (b0,b1) (oB (10+i6),0,0)).bind λt54 =>
 some (.inl (oB (i6+1),t54.1,t54.2)))
 (some (.inr (b0,b1)))
def eU (c0:oL):Option (oL×pk×Int) :=
 (aa c0 4).bind λt8 =>
 (bN t8.1 (oB (1+t8.2))).bind λt12 =>
 (aa t12.1 12).bind λt14 =>
 cond (t14.2==0)
 ((ah t14.1 ([0,1,9,100]:List Int)).bind λt21 =>
 (ah t21.1 ([(-1),0,1,64]:List Int)).bind λt24 =>
 (aa t24.1 3).bind λt26 =>
 (oX t12.2.1 [(t21.2,t24.2,t26.2)]).bind λzs29 =>
 some (t26.1,(zs29,t12.2.2),oB (1+t8.2)))
 (cond (t14.2==1)
 ((ah t14.1 ([0,7]:List Int)).bind λt37 =>
 (ix t12.2.2.length 0).bind λj38 =>
 (t12.2.2[j38]?).bind λx =>
 some (t37.1,(t12.2.1,t12.2.2.set j38 t37.2),oB (1+t8.2)))
 (cond (t14.2==2)
 ((ah t14.1 ([0,6,7]:List Int)).bind λt43 =>
 some (t43.1,t12.2,t43.2))
 (cond (t14.2==3)
 ((loop (λz=>cB z.1 z.2.1 z.2.2) (0,t12.2.1,t12.2.2)).bind λd =>
 some (t14.1,d,oB (1+t8.2)))
 (some (t14.1,t12.2,oB (1+t8.2))))))
def iN:FL:=(193,⟨[.ptr pK none],[.val true qh (some true),.val false oJ (some true)],λa=>eU a⟩)::iM
theorem mD:Gd iN:=oM mC 193 Tryz.f193 [(1,⟨⟨[(6,false,[dI])],[(528384,.box [.own 1000001000,.own 1000001001]),(1000001000,.root pu true),(1000001001,.root oJ true)]⟩,
 ⟨[],[(528384,.box [.own 1000001300,.own 1000001301]),(1000001300,.root pu true),(1000001301,.root oJ true)]⟩,none⟩)] Tryz.func193
def eV (c0:oL):Option (oL×oA) :=
 (cu c0).bind λt5 =>
 (aa t5.1 16).bind λt7 =>
 cond (t7.2==0)
 ((ah t7.1 ([0,99,100]:List Int)).bind λt12 =>
 some (t12.1,(t12.2,t5.2.2.1,t5.2.2.2.1,t5.2.2.2.2.1,t5.2.2.2.2.2.1,t5.2.2.2.2.2.2.1,t5.2.2.2.2.2.2.2.1,t5.2.2.2.2.2.2.2.2.1,t5.2.2.2.2.2.2.2.2.2.1,t5.2.2.2.2.2.2.2.2.2.2.1,t5.2.2.2.2.2.2.2.2.2.2.2)))
 (cond (t7.2==1)
 ((aN t7.1 ([[116,101,110,45,98,121,116,101,115,45],[101,108,101,118,101,110,45,98,121,116,101]]:List (List UInt8))).bind λt18 =>
 some (t18.1,(t5.2.1,t18.2,t5.2.2.2.1,t5.2.2.2.2.1,t5.2.2.2.2.2.1,t5.2.2.2.2.2.2.1,t5.2.2.2.2.2.2.2.1,t5.2.2.2.2.2.2.2.2.1,t5.2.2.2.2.2.2.2.2.2.1,t5.2.2.2.2.2.2.2.2.2.2.1,t5.2.2.2.2.2.2.2.2.2.2.2)))
 (cond (t7.2==2)
 ((eQ t7.1).bind λt23 =>
 some (t23.1,(t5.2.1,t5.2.2.1,t23.2,t5.2.2.2.2.1,t5.2.2.2.2.2.1,t5.2.2.2.2.2.2.1,t5.2.2.2.2.2.2.2.1,t5.2.2.2.2.2.2.2.2.1,t5.2.2.2.2.2.2.2.2.2.1,t5.2.2.2.2.2.2.2.2.2.2.1,t5.2.2.2.2.2.2.2.2.2.2.2)))
 (cond (t7.2==3)
 ((eT t7.1).bind λt28 =>
 some (t28.1,(t5.2.1,t5.2.2.1,t5.2.2.2.1,t28.2,t5.2.2.2.2.2.1,t5.2.2.2.2.2.2.1,t5.2.2.2.2.2.2.2.1,t5.2.2.2.2.2.2.2.2.1,t5.2.2.2.2.2.2.2.2.2.1,t5.2.2.2.2.2.2.2.2.2.2.1,t5.2.2.2.2.2.2.2.2.2.2.2)))
 (cond (t7.2==4)
 ((eU t7.1).bind λt34 =>
 some (t34.1,(t5.2.1,t5.2.2.1,t5.2.2.2.1,t5.2.2.2.2.1,t34.2.1.1,t34.2.1.2,t5.2.2.2.2.2.2.2.1,t5.2.2.2.2.2.2.2.2.1,t5.2.2.2.2.2.2.2.2.2.1,t5.2.2.2.2.2.2.2.2.2.2.1,t5.2.2.2.2.2.2.2.2.2.2.2)))
 (cond (t7.2==5)
 ((ah t7.1 ([(-1),1000000,1000001]:List Int)).bind λt42 =>
 some (t42.1,(t5.2.1,t5.2.2.1,t5.2.2.2.1,t5.2.2.2.2.1,t5.2.2.2.2.2.1,t5.2.2.2.2.2.2.1,t5.2.2.2.2.2.2.2.1,t5.2.2.2.2.2.2.2.2.1,t5.2.2.2.2.2.2.2.2.2.1,t42.2,t5.2.2.2.2.2.2.2.2.2.2.2)))
 (some (t7.1,t5.2)))))))
def iO:FL:=(98,⟨[.ptr pK none],[.val true oV (some true)],λa=>eV a⟩)::iN
theorem mE:Gd iO:=oM mD 98 Tryz.f98 [] Tryz.func98
def bT (i4:Int) (b0:List Int) (b1:Int) (b2:Int) (b0_1:Int) (b1_1:Int) (b2_1:Int) (b3:Int) (b4:List oC):Option ((Int×List Int×Int×Int×Int×Int×Int×Int×List oC)⊕(List Int×Int×Int×Int×Int×Int×Int×List oC)) :=
 cond (decide (i4>0))
 ((av (b0,b1,b2)).bind λt35 =>
 (ap t35.1).bind λt37 =>
 (oX b4 [(t35.2,t37.2.1,t37.2.2.1,t37.2.2.2.1,t37.2.2.2.2)]).bind λzs40 =>
 some (.inl (oB (i4-1),t37.1.1,t37.1.2.1,t37.1.2.2,b0_1,b1_1,b2_1,b3,zs40)))
 (some (.inr (b0,b1,b2,b0_1,b1_1,b2_1,b3,b4)))
def bU (i4_1:Int) (b0_4:List Int) (b1_4:Int) (b2_4:Int) (b0_5:Int) (b1_5:Int) (b2_5:Int) (b3_2:Int) (b4_2:List oC):Option ((Int×List Int×Int×Int×Int×Int×Int×Int×List oC)⊕(List Int×Int×Int×Int×Int×Int×Int×List oC)) :=
 cond (decide (i4_1>0))
 ((av (b0_4,b1_4,b2_4)).bind λt35_1 =>
 (ap t35_1.1).bind λt37_1 =>
 (oX b4_2 [(t35_1.2,t37_1.2.1,t37_1.2.2.1,t37_1.2.2.2.1,t37_1.2.2.2.2)]).bind λzs40_1 =>
 some (.inl (oB (i4_1-1),t37_1.1.1,t37_1.1.2.1,t37_1.1.2.2,b0_5,b1_5,b2_5,b3_2,zs40_1)))
 (some (.inr (b0_4,b1_4,b2_4,b0_5,b1_5,b2_5,b3_2,b4_2)))
def eW (c0:oL):Option (oL×p7) :=
 (ah c0 ([160,161,162,163,165]:List Int)).bind λt7 =>
 (br t7.1).bind λt9 =>
 (ao t9.2).bind λt10 =>
 (cond (t7.2==162) (some true) (some (t7.2==165))).bind λt19 =>
 cond t19
 ((aa t9.1 4).bind λt21 =>
 (aa t21.1 5).bind λt24 =>
 (aa t24.1 4).bind λt27 =>
 (loop (λz=>bT z.1 z.2.1 z.2.2.1 z.2.2.2.1 z.2.2.2.2.1 z.2.2.2.2.2.1 z.2.2.2.2.2.2.1 z.2.2.2.2.2.2.2.1 z.2.2.2.2.2.2.2.2) (t27.2,t27.1.1,t27.1.2.1,t27.1.2.2,t7.2,t10,t21.2,t24.2,[])).bind λd =>
 some ((d.1,d.2.1,d.2.2.1),d.2.2.2))
 ((aa t9.1 4).bind λt27_1 =>
 (loop (λz=>bU z.1 z.2.1 z.2.2.1 z.2.2.2.1 z.2.2.2.2.1 z.2.2.2.2.2.1 z.2.2.2.2.2.2.1 z.2.2.2.2.2.2.2.1 z.2.2.2.2.2.2.2.2) (t27_1.2,t27_1.1.1,t27_1.1.2.1,t27_1.1.2.2,t7.2,t10,0,0,[])).bind λd_1 =>
 some ((d_1.1,d_1.2.1,d_1.2.2.1),d_1.2.2.2))
def iP:FL:=(194,⟨[.ptr pK none],[.val true qT (some true)],λa=>eW a⟩)::iO
theorem mF:Gd iP:=oM mE 194 Tryz.f194 [(0,⟨⟨[(4,false,[dI])],[(1,.box [.dat (.sl (.one (.int .u8))),dI,dI]),(270336,.box [dI,dI,dI,dI,.own 1000000000]),(1000000000,.root oK true)]⟩,
 ⟨[],[(1,.box [.dat (.sl (.one (.int .u8))),dI,dI]),(270336,.box [dI,dI,dI,dI,.own 1000000300]),(1000000300,.root oK true)]⟩,none⟩)] Tryz.func194
def cC (b0:List Int) (b1:Int) (b2:Int) (o3:List Int):Option ((List Int×Int×Int×List Int)⊕(List Int×Int×Int×List Int)) :=
 (aa (b0,b1,b2) 2).bind λt23 =>
 cond (decide ((o3.length:Int)<(oB (10+t23.2))))
 ((oX o3 ([1]:List Int)).bind λzs28 =>
 some (.inl (t23.1.1,t23.1.2.1,t23.1.2.2,zs28)))
 (some (.inr (t23.1.1,t23.1.2.1,t23.1.2.2,o3)))
def dE (c0:oL):Option (oL×List Int) :=
 (av c0).bind λt5 =>
 (aa t5.1 10).bind λt7 =>
 cond (t7.2==0)
 (some (t7.1,([]:List Int)))
 (cond (t7.2==1)
 ((ah t7.1 ([(-1),100001]:List Int)).bind λt16 =>
 (ix t5.2.length 0).bind λj17 =>
 (t5.2[j17]?).bind λx =>
 some (t16.1,t5.2.set j17 t16.2))
 (cond (t7.2==2)
 ((loop (λz=>cC z.1 z.2.1 z.2.2.1 z.2.2.2) (t7.1.1,t7.1.2.1,t7.1.2.2,t5.2)).bind λd =>
 some ((d.1,d.2.1,d.2.2.1),d.2.2.2))
 (some (t7.1,t5.2))))
def iQ:FL:=(195,⟨[.ptr pK none],[.val false qx (some true)],λa=>dE a⟩)::iP
theorem mG:Gd iQ:=oM mF 195 Tryz.f195 [(1,⟨⟨[(3,false,[.own 1000001000])],[(1,.box [.dat (.sl (.one (.int .u8))),dI,dI]),(1000001000,.root oJ true)]⟩,
 ⟨[(3,false,[.own 1000001300])],[(1,.box [.dat (.sl (.one (.int .u8))),dI,dI]),(1000001300,.root oJ true)]⟩,none⟩)] Tryz.func195
def eX (c0:oL):Option (oL×rm) :=
 (ap c0).bind λt5 =>
 (aa t5.1 12).bind λt7 =>
 cond (t7.2==0)
 ((ah t7.1 ([0,1,2,4,5,6,128,129,130]:List Int)).bind λt12 =>
 some (t12.1,(t12.2,t5.2.2.1,t5.2.2.2.1,t5.2.2.2.2)))
 (cond (t7.2==1)
 ((br t7.1).bind λt17 =>
 some (t17.1,(t5.2.1,t17.2,t5.2.2.2.1,t5.2.2.2.2)))
 (cond (t7.2==2)
 ((aa t7.1 2).bind λt22 =>
 (yU (oB (20+t22.2))).bind λn =>
 some (t22.1,(t5.2.1,t5.2.2.1,vK (List.replicate n (0:Int)),t5.2.2.2.2)))
 (cond (t7.2==3)
 ((dE t7.1).bind λt30 =>
 some (t30.1,(t5.2.1,t5.2.2.1,t5.2.2.2.1,t30.2)))
 (some (t7.1,t5.2)))))
def iR:FL:=(196,⟨[.ptr pK none],[.val true sR (some true)],λa=>eX a⟩)::iQ
theorem mH:Gd iR:=oM mG 196 Tryz.f196 [] Tryz.func196
def cD (b0:List Int) (b1:Int) (b2:Int) (b0_1:Int) (b1_1:Int) (b2_1:Int) (b3:Int) (b4:List oC):Option ((List Int×Int×Int×Int×Int×Int×Int×List oC)⊕(List Int×Int×Int×Int×Int×Int×Int×List oC)) :=
 (aa (b0,b1,b2) 2).bind λt37 =>
 cond (decide ((b4.length:Int)<(oB (10+t37.2))))
 ((av t37.1).bind λt43 =>
 (oX b4 ([(t43.2,4,0,[116,119,101,110,116,121,45,98,121,116,101,115,45,111,102,45,116,101,120,116],[])])).bind λzs47 =>
 some (.inl (t43.1.1,t43.1.2.1,t43.1.2.2,b0_1,b1_1,b2_1,b3,zs47)))
 (some (.inr (t37.1.1,t37.1.2.1,t37.1.2.2,b0_1,b1_1,b2_1,b3,b4)))
def dG (c0:oL):Option (oL×p7) :=
 (eW c0).bind λt5 =>
 (aa t5.1 12).bind λt7 =>
 cond (t7.2==0)
 ((aa t7.1 256).bind λt11 =>
 some (t11.1,(t11.2,t5.2.2.1,t5.2.2.2.1,t5.2.2.2.2.1,t5.2.2.2.2.2)))
 (cond (t7.2==1)
 ((ah t7.1 ([(-1),1,1000,1001]:List Int)).bind λt17 =>
 some (t17.1,(t5.2.1,t5.2.2.1,t17.2,t5.2.2.2.2.1,t5.2.2.2.2.2)))
 (cond (t7.2==2)
 ((dE t7.1).bind λt24 =>
 (eX t24.1).bind λt26 =>
 (oX t5.2.2.2.2.2 [(t24.2,t26.2.1,t26.2.2.1,t26.2.2.2.1,t26.2.2.2.2)]).bind λzs29 =>
 some (t26.1,(t5.2.1,t5.2.2.1,t5.2.2.2.1,t5.2.2.2.2.1,zs29)))
 (cond (t7.2==3)
 ((loop (λz=>cD z.1 z.2.1 z.2.2.1 z.2.2.2.1 z.2.2.2.2.1 z.2.2.2.2.2.1 z.2.2.2.2.2.2.1 z.2.2.2.2.2.2.2) (t7.1.1,t7.1.2.1,t7.1.2.2,t5.2.1,t5.2.2.1,t5.2.2.2.1,t5.2.2.2.2.1,t5.2.2.2.2.2)).bind λd =>
 some ((d.1,d.2.1,d.2.2.1),d.2.2.2))
 (some (t7.1,t5.2)))))
def iS:FL:=(99,⟨[.ptr pK none],[.val true qT (some true)],λa=>dG a⟩)::iR
theorem mI:Gd iS:=oM mH 99 Tryz.f99 [(1,⟨⟨[],[(1,.box [.dat (.sl (.one (.int .u8))),dI,dI]),(265216,.box [dI,dI,dI,dI,.own 1000001000]),(1000001000,.root oK true)]⟩,
 ⟨[],[(1,.box [.dat (.sl (.one (.int .u8))),dI,dI]),(265216,.box [dI,dI,dI,dI,.own 1000001300]),(1000001300,.root oK true)]⟩,none⟩)] Tryz.func99
def eY (code0:List Int):Option (oA×p7) :=
 (dt code0).bind λt8 =>
 (cu t8).bind λt10 =>
 (eO t10.1 t10.2).bind λt13 =>
 (aa t13.1 16).bind λt15 =>
 cond (t15.2==0)
 ((eV t15.1).bind λt19 =>
 some (t19.2,t13.2))
 (cond (t15.2==1)
 ((dG t15.1).bind λt23 =>
 some (t10.2,t23.2))
 (some (t10.2,t13.2)))
def iT:FL:=(23,⟨[.val false rr false],[.val true oV none,.val true qT (some true)],λa=>eY a⟩)::iS
theorem mJ:Gd iT:=oM mI 23 Tryz.f23 [] Tryz.func23
def cE (i5:Int) (b0:List Int) (b1:Int) (b2:Int) (b0_1:Int) (b1_1:Int) (b2_1:Int) (b3:Int) (b4:List oC):Option ((Int×List Int×Int×Int×Int×Int×Int×Int×List oC)⊕(List Int×Int×Int×Int×Int×Int×Int×List oC)) :=
 cond (decide (i5>0))
 ((av (b0,b1,b2)).bind λt21 =>
 (ap t21.1).bind λt23 =>
 (oX b4 [(t21.2,t23.2.1,t23.2.2.1,t23.2.2.2.1,t23.2.2.2.2)]).bind λzs26 =>
 some (.inl (oB (i5-1),t23.1.1,t23.1.2.1,t23.1.2.2,b0_1,b1_1,b2_1,b3,zs26)))
 (some (.inr (b0,b1,b2,b0_1,b1_1,b2_1,b3,b4)))
def eZ (code0:List Int):Option p7 :=
 (dt code0).bind λt7 =>
 (dG t7).bind λt9 =>
 (aU t9.1 2).bind λt11 =>
 cond t11.2
 ((aa t11.1 8).bind λt13 =>
 (loop (λz=>cE z.1 z.2.1 z.2.2.1 z.2.2.2.1 z.2.2.2.2.1 z.2.2.2.2.2.1 z.2.2.2.2.2.2.1 z.2.2.2.2.2.2.2.1 z.2.2.2.2.2.2.2.2) (t13.2,t13.1.1,t13.1.2.1,t13.1.2.2,t9.2.1,t9.2.2.1,t9.2.2.2.1,t9.2.2.2.2.1,t9.2.2.2.2.2)).bind λd =>
 some d.2.2.2)
 (some t9.2)
def mK:FL:=(24,⟨[.val false rr false],[.val true qT (some true)],λa=>eZ a⟩)::iT
theorem mL:Gd mK:=oM mJ 24 Tryz.f24 [(0,⟨⟨[(5,false,[dI])],[(264192,.box [.dat (.sl (.one (.int .u8))),dI,dI]),(527360,.box [dI,dI,dI,dI,.own 1000000000]),(1000000000,.root oK true)]⟩,
 ⟨[],[(264192,.box [.dat (.sl (.one (.int .u8))),dI,dI]),(527360,.box [dI,dI,dI,dI,.own 1000000300]),(1000000300,.root oK true)]⟩,none⟩)] Tryz.func24
def tG (code0:List Int):Option Bool :=
 (fN code0).bind λt13 =>
 cond t13
 (some true)
 ((eY code0).bind λt16 =>
 (f0 t16.1 t16.2).bind λt22 =>
 (eG t16.1 t16.2).bind λt29 =>
 (eZ code0).bind λt34 =>
 (cond (t22.2.2==t29.2.2)
 ((eI t22.2.1 t29.2.1).bind λt41 =>
 some t41)
 (some false)).bind λt42 =>
 (cond t42
 ((dq t22.1 t29.1).bind λt46 =>
 some t46)
 (some false)).bind λt47 =>
 (cond t47
 ((aH t34).bind λt50 =>
 (bG t34).bind λt52 =>
 some (t50==t52))
 (some false)).bind λt54 =>
 (cond t54
 ((cond t22.2.2
 (some true)
 ((dq t22.1 t16.1).bind λt60 =>
 some t60)).bind λt61 =>
 some t61)
 (some false)).bind λt62 =>
 some t62)
def uE:Fn:=⟨[.val false rr false],[.val false pC (some true)],λa=>tG a⟩
theorem m_laws_FnRepliesBent:vD Tryz.prog 4 uE:=HT mL 4 Tryz.f4 [] uE Tryz.func4
end
end Go.V.W

